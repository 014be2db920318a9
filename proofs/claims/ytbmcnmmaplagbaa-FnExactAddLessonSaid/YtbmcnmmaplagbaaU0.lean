/- Walks (printed by auto.py, a program of this session's own). -/
import Derived.Test.YtbmcnmmaplagbaaS0
import Derived.Test.YtbmcnmmaplagbaaProg
import Derived.KernelRfl
import Derived.Test.YtbmcnmmaplagbaaSQ
set_option linter.unusedVariables false
set_option linter.unusedSimpArgs false
set_option maxRecDepth 8000
set_option maxHeartbeats 8000000
namespace Go.Ab
open Go.RowKit Go.Proofs

abbrev TLesson := Int × (List UInt8) × (List UInt8) × Int × Int
@[simp] def eLesson (p : TLesson) : V := .agg [.int .i64 p.1, .str p.2.1, .str p.2.2.1, .int .i64 p.2.2.2.1, .int .i64 p.2.2.2.2]
def c54 : MC := (.seq (.reg [rg 2 (.f (.box (.t 0))), rg 4 (.p true (.mv (.c (.int .i64 0))))]) (.seq (.reg [rg 5 (.p true (.mv (.t 1))), rg 6 (.p true (.fad (.t 2) 1)), rg 7 (.p true (.ld (.t 6) 1 false)), rg 8 (.p true (.lens (.t 7))), rg 9 (.p true (.bin .sub (.t 5) (.t 8))), rg 1 (.p true (.mv (.t 9)))]) (.seq (.seq (.reg [rg 10 (.p true (.mv (.t 1))), rg 11 (.p true (.bin .lss (.t 10) (.c (.int .i64 0))))]) (.cond (.t 11) (.seq (.reg [rg 4 (.p true (.mv (.c (.int .i64 (-1)))))]) .ret) .skip)) (.seq (.reg [rg 12 (.p true (.mv (.t 1))), rg 13 (.p true (.fad (.t 2) 2)), rg 14 (.p true (.ld (.t 13) 1 false)), rg 15 (.p true (.lens (.t 14))), rg 16 (.p true (.bin .sub (.t 12) (.t 15))), rg 1 (.p true (.mv (.t 16)))]) (.seq (.seq (.reg [rg 17 (.p true (.mv (.t 1))), rg 18 (.p true (.bin .lss (.t 17) (.c (.int .i64 0))))]) (.cond (.t 18) (.seq (.reg [rg 4 (.p true (.mv (.c (.int .i64 (-1)))))]) .ret) .skip)) (.seq (.reg [rg 19 (.p true (.mv (.t 1))), rg 4 (.p true (.mv (.t 19)))]) .ret))))))
theorem c54_is : compFn Try.prog 54 = some (c54, [(.tmp 4)]) := by kernel_rfl
theorem c54_ok : okFn Try.prog 54 = true := by kernel_rfl

noncomputable def F_laws_szLesson (v0 : TLesson) (v1 : Int) : Option (Int) :=
 (bif (decide (w64 (v1 - (v0.2.1.length : Int)) < (0 : Int))) then some (-1)
 else (bif (decide (w64 ((w64 (v1 - (v0.2.1.length : Int))) - (v0.2.2.1.length : Int)) < (0 : Int))) then some (-1)
 else some (w64 ((w64 (v1 - (v0.2.1.length : Int))) - (v0.2.2.1.length : Int)))))
@[simp] def res_laws_szLesson (r : Int) : RV := .one (.one (.val (.int .i64 r)))
theorem con_laws_szLesson {v0 : TLesson} {v1 : Int} {r : Int} (hF : F_laws_szLesson v0 v1 = some r) : Con Try.prog 54 [eLesson v0, .int .i64 v1] (res_laws_szLesson r) := by
 unfold F_laws_szLesson at hF
 refine con_of c54_is fun N => ?_
 refine ws 0 128 ?_
 refine qf (.ptr 0 0 0) [(0, .box [AI v0.1, AS v0.2.1, AS v0.2.2.1, AI v0.2.2.2.1, AI v0.2.2.2.2])] (by simp) ?_
 refine qp (AI 0) rfl ?_
 refine r_nil ?_
 refine ws 128 512 ?_
 refine qp (AI v1) rfl (qp (.ptr 0 0 1) rfl (qp (AS v0.2.1) rfl (qp (AI (v0.2.1.length : Int)) rfl (qp (AI (w64 (v1 - (v0.2.1.length : Int)))) rfl (qp (AI (w64 (v1 - (v0.2.1.length : Int)))) rfl ?_)))))
 refine r_nil ?_
 refine w_seq ?_
 refine ws 512 640 ?_
 refine qp (AI (w64 (v1 - (v0.2.1.length : Int)))) rfl (qp (AB (decide (w64 (v1 - (v0.2.1.length : Int)) < (0 : Int)))) rfl ?_)
 refine r_nil ?_
 refine cF hF (fun hF => ?_) fun hF => ?_
 ·
  refine ws 640 704 ?_
  refine qp (AI (-1)) rfl ?_
  refine r_nil ?_
  refine w_ret ?_
  refine thenQ_r ?_
  cases hF
  exact eR
 ·
  refine w_skip ?_
  refine thenQ_n ?_
  refine ws 640 1024 ?_
  refine qp (AI (w64 (v1 - (v0.2.1.length : Int)))) rfl (qp (.ptr 0 0 2) rfl (qp (AS v0.2.2.1) rfl (qp (AI (v0.2.2.1.length : Int)) rfl (qp (AI (w64 ((w64 (v1 - (v0.2.1.length : Int))) - (v0.2.2.1.length : Int)))) rfl (qp (AI (w64 ((w64 (v1 - (v0.2.1.length : Int))) - (v0.2.2.1.length : Int)))) rfl ?_)))))
  refine r_nil ?_
  refine w_seq ?_
  refine ws 1024 1152 ?_
  refine qp (AI (w64 ((w64 (v1 - (v0.2.1.length : Int))) - (v0.2.2.1.length : Int)))) rfl (qp (AB (decide (w64 ((w64 (v1 - (v0.2.1.length : Int))) - (v0.2.2.1.length : Int)) < (0 : Int)))) rfl ?_)
  refine r_nil ?_
  refine cF hF (fun hF => ?_) fun hF => ?_
  ·
   refine ws 1152 1216 ?_
   refine qp (AI (-1)) rfl ?_
   refine r_nil ?_
   refine w_ret ?_
   refine thenQ_r ?_
   cases hF
   exact eR
  ·
   refine w_skip ?_
   refine thenQ_n ?_
   refine ws 1152 1280 ?_
   refine qp (AI (w64 ((w64 (v1 - (v0.2.1.length : Int))) - (v0.2.2.1.length : Int)))) rfl (qp (AI (w64 ((w64 (v1 - (v0.2.1.length : Int))) - (v0.2.2.1.length : Int)))) rfl ?_)
   refine r_nil ?_
   refine w_ret ?_
   cases hF
   exact eR

def c53 : MC := (.seq (.reg [rg 4 (.p true (.mv (.c (.int .i64 0))))]) (.seq (.reg [rg 6 (.p true (.mv (.t 1))), rg 7 (.p true (.mv (.t 0))), rg 8 (.p true (.len (.t 7))), rg 9 (.p true (.bin .sub (.t 6) (.t 8))), rg 1 (.p true (.mv (.t 9)))]) (.seq (.seq (.reg [rg 10 (.p true (.mv (.t 1))), rg 11 (.p true (.bin .lss (.t 10) (.c (.int .i64 0))))]) (.cond (.t 11) (.seq (.reg [rg 4 (.p true (.mv (.c (.int .i64 (-1)))))]) .ret) .skip)) (.seq (.seq (.reg [rg 5 (.p true (.mv (.c (.int .i64 0))))]) (.block 0 (.loop (.seq (.seq (.reg [rg 12 (.p true (.mv (.t 5))), rg 13 (.p true (.mv (.t 0))), rg 14 (.p true (.len (.t 13))), rg 15 (.p true (.bin .lss (.t 12) (.t 14)))]) (.cond (.t 15) .skip (.exit 0))) (.seq (.block 1 (.seq (.reg [rg 18 (.p true (.mv (.t 0))), rg 19 (.p true (.mv (.t 5))), rg 20 (.p true (.iad (.t 18) (.t 19) 5)), rg 21 (.p true (.ld (.t 20) 5 true)), rg 22 (.p true (.mv (.t 1))), rg 23 (.call true 54 [(.t 21), (.t 22)]), rg 1 (.p true (.mv (.t 23)))]) (.seq (.reg [rg 24 (.p true (.mv (.t 1))), rg 25 (.p true (.bin .lss (.t 24) (.c (.int .i64 0))))]) (.cond (.t 25) (.seq (.reg [rg 4 (.p true (.mv (.c (.int .i64 (-1)))))]) .ret) .skip)))) (.reg [rg 16 (.p true (.mv (.t 5))), rg 17 (.p true (.bin .add (.t 16) (.c (.int .i64 1)))), rg 5 (.p true (.mv (.t 17)))])))))) (.seq (.reg [rg 26 (.p true (.mv (.t 1))), rg 4 (.p true (.mv (.t 26)))]) .ret)))))
theorem c53_is : compFn Try.prog 53 = some (c53, [(.tmp 4)]) := by kernel_rfl
theorem c53_ok : okFn Try.prog 53 = true := by kernel_rfl

noncomputable def F_laws_szLessonS_l0 (v0 : List TLesson) (k0 : Int × Int → Option (Int)) : Int × Int → Option (Int)
 | (v8, v9) => (bif (decide (v9 < (v0.length : Int))) then ((ix v0 v9).bind fun v1000 => ((F_laws_szLesson v1000 v8).bind fun v1001 => (bif (decide (v1001 < (0 : Int))) then some (-1)
 else k0 (v1001, w64 (v9 + 1)))))
 else some v8)
noncomputable def F_laws_szLessonS (v0 : List TLesson) (v1 : Int) : Option (Int) :=
 (bif (decide (w64 (v1 - (v0.length : Int)) < (0 : Int))) then some (-1)
 else loop (F_laws_szLessonS_l0 v0) (w64 (v1 - (v0.length : Int)), 0))
@[simp] def res_laws_szLessonS (r : Int) : RV := .one (.one (.val (.int .i64 r)))
theorem con_laws_szLessonS {v0 : List TLesson} {v1 : Int} {r : Int} (hF : F_laws_szLessonS v0 v1 = some r) : Con Try.prog 53 [.sl 5 (v0.map eLesson), .int .i64 v1] (res_laws_szLessonS r) := by
 unfold F_laws_szLessonS at hF
 refine con_of c53_is fun N => ?_
 refine ws 0 64 ?_
 refine qp (AI 0) rfl ?_
 refine r_nil ?_
 refine ws 64 384 ?_
 refine qp (AI v1) rfl (qp (AL 5 (v0.map eLesson)) rfl (qp (AI (v0.length : Int)) (ev_len_n rfl) (qp (AI (w64 (v1 - (v0.length : Int)))) rfl (qp (AI (w64 (v1 - (v0.length : Int)))) rfl ?_))))
 refine r_nil ?_
 refine w_seq ?_
 refine ws 384 512 ?_
 refine qp (AI (w64 (v1 - (v0.length : Int)))) rfl (qp (AB (decide (w64 (v1 - (v0.length : Int)) < (0 : Int)))) rfl ?_)
 refine r_nil ?_
 refine cF hF (fun hF => ?_) fun hF => ?_
 ·
  refine ws 512 576 ?_
  refine qp (AI (-1)) rfl ?_
  refine r_nil ?_
  refine w_ret ?_
  refine thenQ_r ?_
  cases hF
  exact eR
 ·
  refine w_skip ?_
  refine thenQ_n ?_
  refine w_seq ?_
  refine ws 512 576 ?_
  refine qp (AI 0) rfl ?_
  refine r_nil ?_
  refine w_block ?_
  refine wr (l' := [(0, AL 5 (v0.map eLesson)), (1, AI (w64 (v1 - (v0.length : Int)))), (5, AI 0)]) (L := []) [0, 1, 5] [] 1 ?_
  refine w_loopF (F_laws_szLessonS_l0 v0) (fun s : Int × Int => mkS [(0, AL 5 (v0.map eLesson)), (1, AI s.1), (5, AI s.2)] (fo []) 1) hF ?_
  rintro k0 ⟨v8, v9⟩ hF
  rw [F_laws_szLessonS_l0] at hF
  try dsimp only
  refine w_seq ?_
  refine ws 1 257 ?_
  refine qp (AI v9) rfl (qp (AL 5 (v0.map eLesson)) rfl (qp (AI (v0.length : Int)) (ev_len_n rfl) (qp (AB (decide (v9 < (v0.length : Int)))) rfl ?_)))
  refine r_nil ?_
  refine cF hF (fun hF => ?_) fun hF => ?_
  ·
   refine w_skip ?_
   refine thenQ_n ?_
   refine w_seq ?_
   refine w_block ?_
   refine ws 257 705 ?_
   refine qp (AL 5 (v0.map eLesson)) rfl (qp (AI v9) rfl ?_)
   obtain ⟨v1000, e1000, hF⟩ := bind_get hF
   refine qp (.val none (.ptr [.int .i64 v1000.1, .str v1000.2.1, .str v1000.2.2.1, .int .i64 v1000.2.2.2.1, .int .i64 v1000.2.2.2.2])) (ev_iad_n rfl rfl e1000 rfl) (qp (.val none (eLesson v1000)) rfl (qp (AI v8) rfl ?_))
   obtain ⟨v1001, e1001, hF⟩ := bind_get hF
   refine qc (AI v1001) [] false (con_laws_szLesson e1001) c54_ok (by first | rfl | simp) rfl ?_
   refine qp (AI v1001) rfl ?_
   refine r_nil ?_
   refine ws 705 833 ?_
   refine qp (AI v1001) rfl (qp (AB (decide (v1001 < (0 : Int)))) rfl ?_)
   refine r_nil ?_
   refine cF hF (fun hF => ?_) fun hF => ?_
   ·
    refine ws 833 897 ?_
    refine qp (AI (-1)) rfl ?_
    refine r_nil ?_
    refine w_ret ?_
    refine blockQ_r ?_
    refine thenQ_r ?_
    refine thenQ_r ?_
    refine blockQ_r ?_
    refine thenQ_r ?_
    cases hF
    exact eR
   ·
    refine w_skip ?_
    refine blockQ_n ?_
    refine thenQ_n ?_
    refine w_reg 833 1025 rfl rfl ?_
    refine qp (AI v9) rfl (qp (AI (w64 (v9 + 1))) rfl (qp (AI (w64 (v9 + 1))) rfl ?_))
    refine r_nil ?_
    refine thenQ_n ?_
    refine ar (l' := [(0, AL 5 (v0.map eLesson)), (1, AI v1001), (5, AI (w64 (v9 + 1)))]) (L := []) [0, 1, 5] [] 1 ⟨_, by rfl, hF⟩
  ·
   refine w_exit ?_
   refine thenQ_e ?_
   refine thenQ_e ?_
   refine blockQ_e ?_
   refine thenQ_n ?_
   refine ws 257 385 ?_
   refine qp (AI v8) rfl (qp (AI v8) rfl ?_)
   refine r_nil ?_
   refine w_ret ?_
   cases hF
   exact eR

def c57 : MC := (.seq (.reg [rg 1 (.f (.box (.t 0))), rg 2 (.f (.alloc [((.int .i64 0), (0, false)), ((.str []), (0, false)), ((.str []), (0, false)), ((.int .i64 0), (0, false)), ((.int .i64 0), (0, false))]))]) (.seq (.reg [rg 3 (.f (.alloc [((.int .i64 0), (0, false)), ((.str []), (0, false)), ((.str []), (0, false)), ((.int .i64 0), (0, false)), ((.int .i64 0), (0, false))]))]) (.seq (.reg [rg 4 (.p true (.fad (.t 1) 0)), rg 5 (.p true (.ld (.t 4) 1 false)), rg 6 (.p true (.fad (.t 3) 0)), ⟨none, none, (.f (.st (.t 6) (.t 5) 1))⟩]) (.seq (.reg [rg 7 (.p true (.fad (.t 1) 1)), rg 8 (.p true (.ld (.t 7) 1 false)), rg 9 (.p true (.fad (.t 3) 1)), ⟨none, none, (.f (.st (.t 9) (.t 8) 1))⟩]) (.seq (.reg [rg 10 (.p true (.fad (.t 1) 2)), rg 11 (.p true (.ld (.t 10) 1 false)), rg 12 (.p true (.fad (.t 3) 2)), ⟨none, none, (.f (.st (.t 12) (.t 11) 1))⟩]) (.seq (.reg [rg 13 (.p true (.fad (.t 1) 3)), rg 14 (.p true (.ld (.t 13) 1 false)), rg 15 (.p true (.fad (.t 3) 3)), ⟨none, none, (.f (.st (.t 15) (.t 14) 1))⟩]) (.seq (.reg [rg 16 (.p true (.fad (.t 1) 4)), rg 17 (.p true (.ld (.t 16) 1 false)), rg 18 (.p true (.fad (.t 3) 4)), ⟨none, none, (.f (.st (.t 18) (.t 17) 1))⟩]) (.seq (.reg [rg 19 (.p true (.ld (.t 3) 5 true)), ⟨none, none, (.f (.st (.t 2) (.t 19) 5))⟩]) .ret))))))))
theorem c57_is : compFn Try.prog 57 = some (c57, [(.cell (.ld (.t 2) 5 true))]) := by kernel_rfl
theorem c57_ok : okFn Try.prog 57 = true := by kernel_rfl

noncomputable def F_laws_toLesson (v0 : TLesson) : Option (TLesson) :=
 some v0
@[simp] def res_laws_toLesson (r : TLesson) : RV := .one (.one (.val (eLesson r)))
theorem con_laws_toLesson {v0 : TLesson} {r : TLesson} (hF : F_laws_toLesson v0 = some r) : Con Try.prog 57 [eLesson v0] (res_laws_toLesson r) := by
 unfold F_laws_toLesson at hF
 refine con_of c57_is fun N => ?_
 refine ws 0 128 ?_
 refine qf (.ptr 0 0 0) [(0, .box [AI v0.1, AS v0.2.1, AS v0.2.2.1, AI v0.2.2.2.1, AI v0.2.2.2.2])] (by simp) ?_
 refine qf (.ptr 64 0 0) [(64, .box [AI 0, AS [], AS [], AI 0, AI 0]), (0, .box [AI v0.1, AS v0.2.1, AS v0.2.2.1, AI v0.2.2.2.1, AI v0.2.2.2.2])] (by simp) ?_
 refine r_nil ?_
 refine ws 128 192 ?_
 refine qf (.ptr 128 0 0) [(128, .box [AI 0, AS [], AS [], AI 0, AI 0]), (64, .box [AI 0, AS [], AS [], AI 0, AI 0]), (0, .box [AI v0.1, AS v0.2.1, AS v0.2.2.1, AI v0.2.2.2.1, AI v0.2.2.2.2])] (by simp) ?_
 refine r_nil ?_
 refine ws 192 448 ?_
 refine qp (.ptr 0 0 0) rfl (qp (AI v0.1) rfl (qp (.ptr 128 0 0) rfl ?_))
 refine qf0 (.undef) [(128, .box [AI v0.1, AS [], AS [], AI 0, AI 0]), (128, .box [AI 0, AS [], AS [], AI 0, AI 0]), (64, .box [AI 0, AS [], AS [], AI 0, AI 0]), (0, .box [AI v0.1, AS v0.2.1, AS v0.2.2.1, AI v0.2.2.2.1, AI v0.2.2.2.2])] (by simp) ?_
 refine r_nil ?_
 refine ws 448 704 ?_
 refine qp (.ptr 0 0 1) rfl (qp (AS v0.2.1) rfl (qp (.ptr 128 0 1) rfl ?_))
 refine qf0 (.undef) [(128, .box [AI v0.1, AS v0.2.1, AS [], AI 0, AI 0]), (128, .box [AI v0.1, AS [], AS [], AI 0, AI 0]), (128, .box [AI 0, AS [], AS [], AI 0, AI 0]), (64, .box [AI 0, AS [], AS [], AI 0, AI 0]), (0, .box [AI v0.1, AS v0.2.1, AS v0.2.2.1, AI v0.2.2.2.1, AI v0.2.2.2.2])] (by simp) ?_
 refine r_nil ?_
 refine ws 704 960 ?_
 refine qp (.ptr 0 0 2) rfl (qp (AS v0.2.2.1) rfl (qp (.ptr 128 0 2) rfl ?_))
 refine qf0 (.undef) [(128, .box [AI v0.1, AS v0.2.1, AS v0.2.2.1, AI 0, AI 0]), (128, .box [AI v0.1, AS v0.2.1, AS [], AI 0, AI 0]), (128, .box [AI v0.1, AS [], AS [], AI 0, AI 0]), (128, .box [AI 0, AS [], AS [], AI 0, AI 0]), (64, .box [AI 0, AS [], AS [], AI 0, AI 0]), (0, .box [AI v0.1, AS v0.2.1, AS v0.2.2.1, AI v0.2.2.2.1, AI v0.2.2.2.2])] (by simp) ?_
 refine r_nil ?_
 refine ws 960 1216 ?_
 refine qp (.ptr 0 0 3) rfl (qp (AI v0.2.2.2.1) rfl (qp (.ptr 128 0 3) rfl ?_))
 refine qf0 (.undef) [(128, .box [AI v0.1, AS v0.2.1, AS v0.2.2.1, AI v0.2.2.2.1, AI 0]), (128, .box [AI v0.1, AS v0.2.1, AS v0.2.2.1, AI 0, AI 0]), (128, .box [AI v0.1, AS v0.2.1, AS [], AI 0, AI 0]), (128, .box [AI v0.1, AS [], AS [], AI 0, AI 0]), (128, .box [AI 0, AS [], AS [], AI 0, AI 0]), (64, .box [AI 0, AS [], AS [], AI 0, AI 0]), (0, .box [AI v0.1, AS v0.2.1, AS v0.2.2.1, AI v0.2.2.2.1, AI v0.2.2.2.2])] (by simp) ?_
 refine r_nil ?_
 refine ws 1216 1472 ?_
 refine qp (.ptr 0 0 4) rfl (qp (AI v0.2.2.2.2) rfl (qp (.ptr 128 0 4) rfl ?_))
 refine qf0 (.undef) [(128, .box [AI v0.1, AS v0.2.1, AS v0.2.2.1, AI v0.2.2.2.1, AI v0.2.2.2.2]), (128, .box [AI v0.1, AS v0.2.1, AS v0.2.2.1, AI v0.2.2.2.1, AI 0]), (128, .box [AI v0.1, AS v0.2.1, AS v0.2.2.1, AI 0, AI 0]), (128, .box [AI v0.1, AS v0.2.1, AS [], AI 0, AI 0]), (128, .box [AI v0.1, AS [], AS [], AI 0, AI 0]), (128, .box [AI 0, AS [], AS [], AI 0, AI 0]), (64, .box [AI 0, AS [], AS [], AI 0, AI 0]), (0, .box [AI v0.1, AS v0.2.1, AS v0.2.2.1, AI v0.2.2.2.1, AI v0.2.2.2.2])] (by simp) ?_
 refine r_nil ?_
 refine ws 1472 1600 ?_
 refine qp (.agg [AI v0.1, AS v0.2.1, AS v0.2.2.1, AI v0.2.2.2.1, AI v0.2.2.2.2]) rfl ?_
 refine qf0 (.undef) [(64, .box [AI v0.1, AS v0.2.1, AS v0.2.2.1, AI v0.2.2.2.1, AI v0.2.2.2.2]), (128, .box [AI v0.1, AS v0.2.1, AS v0.2.2.1, AI v0.2.2.2.1, AI v0.2.2.2.2]), (128, .box [AI v0.1, AS v0.2.1, AS v0.2.2.1, AI v0.2.2.2.1, AI 0]), (128, .box [AI v0.1, AS v0.2.1, AS v0.2.2.1, AI 0, AI 0]), (128, .box [AI v0.1, AS v0.2.1, AS [], AI 0, AI 0]), (128, .box [AI v0.1, AS [], AS [], AI 0, AI 0]), (128, .box [AI 0, AS [], AS [], AI 0, AI 0]), (64, .box [AI 0, AS [], AS [], AI 0, AI 0]), (0, .box [AI v0.1, AS v0.2.1, AS v0.2.2.1, AI v0.2.2.2.1, AI v0.2.2.2.2])] (by simp) ?_
 refine r_nil ?_
 refine w_ret ?_
 cases hF
 exact eR

def c56 : MC := (.seq (.reg [rg 2 (.f (.nilrow 5))]) (.seq (.reg [rg 5 (.p true (.mv (.t 0))), rg 6 (.p true (.len (.t 5))), rg 7 (.f (.mks 5 56 (.agg [(.int .i64 0), (.str []), (.str []), (.int .i64 0), (.int .i64 0)]) (.t 6) (.t 6))), rg 3 (.p true (.mv (.t 7)))]) (.seq (.seq (.reg [rg 4 (.p true (.mv (.c (.int .i64 0))))]) (.block 0 (.loop (.seq (.seq (.reg [rg 8 (.p true (.mv (.t 4))), rg 9 (.p true (.mv (.t 0))), rg 10 (.p true (.len (.t 9))), rg 11 (.p true (.bin .lss (.t 8) (.t 10)))]) (.cond (.t 11) .skip (.exit 0))) (.seq (.block 1 (.reg [rg 14 (.p true (.mv (.t 3))), rg 15 (.p true (.mv (.t 4))), rg 16 (.p true (.mv (.t 0))), rg 17 (.p true (.mv (.t 4))), rg 18 (.p true (.iad (.t 16) (.t 17) 5)), rg 19 (.p true (.ld (.t 18) 5 true)), rg 20 (.call true 57 [(.t 19)]), rg 21 (.p true (.iad (.t 14) (.t 15) 5)), ⟨none, none, (.f (.st (.t 21) (.t 20) 5))⟩])) (.reg [rg 12 (.p true (.mv (.t 4))), rg 13 (.p true (.bin .add (.t 12) (.c (.int .i64 1)))), rg 4 (.p true (.mv (.t 13)))])))))) (.seq (.reg [rg 22 (.p true (.mv (.t 3))), rg 2 (.p true (.mv (.t 22)))]) .ret))))
theorem c56_is : compFn Try.prog 56 = some (c56, [(.tmp 2)]) := by kernel_rfl
theorem c56_ok : okFn Try.prog 56 = true := by kernel_rfl

noncomputable def F_laws_toLessonS_l0 (v0 : List TLesson) (k1 : Int × (List TLesson) → Option (List TLesson)) : Int × (List TLesson) → Option (List TLesson)
 | (v1009, v1010) => (bif (decide (v1009 < (v0.length : Int))) then ((ix v0 v1009).bind fun v1011 => ((F_laws_toLesson v1011).bind fun v1012 => ((ix v1010 v1009).bind fun v1013 => k1 (w64 (v1009 + 1), List.set v1010 v1009.toNat v1012))))
 else some v1010)
noncomputable def F_laws_toLessonS (v0 : List TLesson) : Option (List TLesson) :=
 (need (0 ≤ (v0.length : Int) ∧ (v0.length : Int) ≤ (v0.length : Int) ∧ (v0.length : Int) ≤ 9223372036854775807 ∧ 56 * (v0.length : Int) ≤ 281474976710656) (loop (F_laws_toLessonS_l0 v0) (0, List.replicate ((v0.length : Int)).toNat ((0, [], [], 0, 0) : TLesson))))
@[simp] def res_laws_toLessonS (r : List TLesson) : RV := .one (.one (.row true 5 (r.map eLesson)))
theorem con_laws_toLessonS {v0 : List TLesson} {r : List TLesson} (hF : F_laws_toLessonS v0 = some r) : Con Try.prog 56 [.sl 5 (v0.map eLesson)] (res_laws_toLessonS r) := by
 unfold F_laws_toLessonS at hF
 refine con_of c56_is fun N => ?_
 refine ws 0 64 ?_
 refine qf (.sl 0 0 0) [(0, .row true 5 (([] : List Int).map (V.int .i64)))] (by simp) ?_
 refine r_nil ?_
 refine ws 64 320 ?_
 refine qp (AL 5 (v0.map eLesson)) rfl (qp (AI (v0.length : Int)) (ev_len_n rfl) ?_)
 obtain ⟨g1000, hF⟩ := need_some hF
 refine qf (.sl 192 0 ((List.replicate ((v0.length : Int)).toNat ((0, [], [], 0, 0) : TLesson)).length)) [(192, .row true 5 ((List.replicate ((v0.length : Int)).toNat ((0, [], [], 0, 0) : TLesson)).map eLesson)), (0, .row true 5 (([] : List Int).map (V.int .i64)))] (effT_mks rfl rfl g1000 rfl) ?_
 refine qp (.sl 192 0 ((List.replicate ((v0.length : Int)).toNat ((0, [], [], 0, 0) : TLesson)).length)) rfl ?_
 refine r_nil ?_
 refine w_seq ?_
 refine ws 320 384 ?_
 refine qp (AI 0) rfl ?_
 refine r_nil ?_
 refine w_block ?_
 refine wr (l' := [(0, AL 5 (v0.map eLesson)), (3, .sl 0 0 (List.replicate ((v0.length : Int)).toNat ((0, [], [], 0, 0) : TLesson)).length), (4, AI 0)]) (L := [(0, .row true 5 ((List.replicate ((v0.length : Int)).toNat ((0, [], [], 0, 0) : TLesson)).map eLesson))]) [0, 3, 4] [(192, 0)] 1 ?_
 refine w_loopF (F_laws_toLessonS_l0 v0) (fun s : Int × (List TLesson) => mkS [(0, AL 5 (v0.map eLesson)), (3, .sl 0 0 s.2.length), (4, AI s.1)] (fo [(0, .row true 5 (s.2.map eLesson))]) 1) hF ?_
 rintro k1 ⟨v1009, v1010⟩ hF
 rw [F_laws_toLessonS_l0] at hF
 try dsimp only
 refine w_seq ?_
 refine ws 1 257 ?_
 refine qp (AI v1009) rfl (qp (AL 5 (v0.map eLesson)) rfl (qp (AI (v0.length : Int)) (ev_len_n rfl) (qp (AB (decide (v1009 < (v0.length : Int)))) rfl ?_)))
 refine r_nil ?_
 refine cF hF (fun hF => ?_) fun hF => ?_
 ·
  refine w_skip ?_
  refine thenQ_n ?_
  refine w_seq ?_
  refine w_block ?_
  refine w_reg 257 833 rfl rfl ?_
  refine qp (.sl 0 0 v1010.length) rfl (qp (AI v1009) rfl (qp (AL 5 (v0.map eLesson)) rfl (qp (AI v1009) rfl ?_)))
  obtain ⟨v1011, e1011, hF⟩ := bind_get hF
  refine qp (.val none (.ptr [.int .i64 v1011.1, .str v1011.2.1, .str v1011.2.2.1, .int .i64 v1011.2.2.2.1, .int .i64 v1011.2.2.2.2])) (ev_iad_n rfl rfl e1011 rfl) (qp (.val none (eLesson v1011)) rfl ?_)
  obtain ⟨v1012, e1012, hF⟩ := bind_get hF
  refine qc (.val none (eLesson v1012)) [(0, .row true 5 (v1010.map eLesson))] false (con_laws_toLesson e1012) c57_ok (by first | rfl | simp) rfl ?_
  obtain ⟨v1013, e1013, hF⟩ := bind_get hF
  refine qp (.ptr 0 v1009.toNat 0) (ev_iad_r rfl (by simp) rfl rfl e1013) ?_
  refine qf0 (.undef) [(0, .row true 5 ((List.set v1010 v1009.toNat v1012).map eLesson)), (0, .row true 5 (v1010.map eLesson))] (effT_st rfl rfl (ix_some e1013).2 rfl rfl (by rfl) (by first | rfl | simp [patch, reb, List.take_of_length_le]) (by rfl) rfl) ?_
  refine r_nil ?_
  refine blockQ_n ?_
  refine thenQ_n ?_
  refine w_reg 833 1025 rfl rfl ?_
  refine qp (AI v1009) rfl (qp (AI (w64 (v1009 + 1))) rfl (qp (AI (w64 (v1009 + 1))) rfl ?_))
  refine r_nil ?_
  refine thenQ_n ?_
  refine ar (l' := [(0, AL 5 (v0.map eLesson)), (3, .sl 0 0 (List.set v1010 v1009.toNat v1012).length), (4, AI (w64 (v1009 + 1)))]) (L := [(0, .row true 5 ((List.set v1010 v1009.toNat v1012).map eLesson))]) [0, 3, 4] [(0, 0)] 1 ⟨_, by rfl, hF⟩
 ·
  refine w_exit ?_
  refine thenQ_e ?_
  refine thenQ_e ?_
  refine blockQ_e ?_
  refine thenQ_n ?_
  refine ws 257 385 ?_
  refine qp (.sl 0 0 v1010.length) rfl (qp (.sl 0 0 v1010.length) rfl ?_)
  refine r_nil ?_
  refine w_ret ?_
  cases hF
  exact eR

def c122 : MC := (.seq (.reg [rg 6 (.p true (.mv (.c (.bool false))))]) (.seq (.reg [rg 7 (.p true (.mv (.t 0))), rg 8 (.p true (.mv (.t 1))), rg 9 (.p true (.bin .geq (.t 7) (.t 8))), rg 10 (.p true (.mv (.t 9))), ⟨(some 11), (some (10, true)), (.p true (.mv (.t 0)))⟩, ⟨(some 12), (some (10, true)), (.p true (.mv (.t 2)))⟩, ⟨(some 13), (some (10, true)), (.p true (.bin .leq (.t 11) (.t 12)))⟩, rg 14 (.p true (.pick (.t 10) (.t 13) (.c (.bool false)))), rg 6 (.p true (.mv (.t 14)))]) .ret))
theorem c122_is : compFn Try.prog 122 = some (c122, [(.tmp 6)]) := by kernel_rfl
theorem c122_ok : okFn Try.prog 122 = true := by kernel_rfl

noncomputable def F_spec_l00In (v0 : Int) (v1 : Int) (v2 : Int) : Option (Bool) :=
 (bif (decide (v1 ≤ v0)) then some (decide (v0 ≤ v2))
 else some false)
@[simp] def res_spec_l00In (r : Bool) : RV := .one (.one (.val (.bool r)))
theorem con_spec_l00In {v0 : Int} {v1 : Int} {v2 : Int} {r : Bool} (hF : F_spec_l00In v0 v1 v2 = some r) : Con Try.prog 122 [.int .i64 v0, .int .i64 v1, .int .i64 v2] (res_spec_l00In r) := by
 unfold F_spec_l00In at hF
 refine con_of c122_is fun N => ?_
 refine ws 0 64 ?_
 refine qp (AB false) rfl ?_
 refine r_nil ?_
 refine ws 64 640 ?_
 refine qp (AI v0) rfl (qp (AI v1) rfl (qp (AB (decide (v1 ≤ v0))) rfl (qp (AB (decide (v1 ≤ v0))) rfl ?_)))
 refine q_case 10 hF rfl (fun hF => ?_) (fun hF => ?_)
 ·
  refine qg (AI v0) rfl rfl (qg (AI v2) rfl rfl (qg (AB (decide (v0 ≤ v2))) rfl rfl (qp (AB (decide (v0 ≤ v2))) rfl (qp (AB (decide (v0 ≤ v2))) rfl ?_))))
  refine r_nil ?_
  refine w_ret ?_
  cases hF
  exact eR
 ·
  refine qn rfl (qn rfl (qn rfl (qp (AB false) rfl (qp (AB false) rfl ?_))))
  refine r_nil ?_
  refine w_ret ?_
  cases hF
  exact eR

def c139 : MC := (.seq (.reg [rg 2 (.p true (.mv (.c (.bool false))))]) (.seq (.reg [rg 3 (.p true (.mv (.t 0))), rg 4 (.p true (.bin .geq (.t 3) (.c (.int .u8 97)))), rg 5 (.p true (.mv (.t 4))), ⟨(some 6), (some (5, true)), (.p true (.mv (.t 0)))⟩, ⟨(some 7), (some (5, true)), (.p true (.bin .leq (.t 6) (.c (.int .u8 122))))⟩, rg 8 (.p true (.pick (.t 5) (.t 7) (.c (.bool false)))), rg 2 (.p true (.mv (.t 8)))]) .ret))
theorem c139_is : compFn Try.prog 139 = some (c139, [(.tmp 2)]) := by kernel_rfl
theorem c139_ok : okFn Try.prog 139 = true := by kernel_rfl

noncomputable def F_spec_l01Small (v0 : Int) : Option (Bool) :=
 (bif (decide ((97 : Int) ≤ v0)) then some (decide (v0 ≤ (122 : Int)))
 else some false)
@[simp] def res_spec_l01Small (r : Bool) : RV := .one (.one (.val (.bool r)))
theorem con_spec_l01Small {v0 : Int} {r : Bool} (hF : F_spec_l01Small v0 = some r) : Con Try.prog 139 [.int .u8 v0] (res_spec_l01Small r) := by
 unfold F_spec_l01Small at hF
 refine con_of c139_is fun N => ?_
 refine ws 0 64 ?_
 refine qp (AB false) rfl ?_
 refine r_nil ?_
 refine ws 64 512 ?_
 refine qp (.val none (.int .u8 v0)) rfl (qp (AB (decide ((97 : Int) ≤ v0))) rfl (qp (AB (decide ((97 : Int) ≤ v0))) rfl ?_))
 refine q_case 5 hF rfl (fun hF => ?_) (fun hF => ?_)
 ·
  refine qg (.val none (.int .u8 v0)) rfl rfl (qg (AB (decide (v0 ≤ (122 : Int)))) rfl rfl (qp (AB (decide (v0 ≤ (122 : Int)))) rfl (qp (AB (decide (v0 ≤ (122 : Int)))) rfl ?_)))
  refine r_nil ?_
  refine w_ret ?_
  cases hF
  exact eR
 ·
  refine qn rfl (qn rfl (qp (AB false) rfl (qp (AB false) rfl ?_)))
  refine r_nil ?_
  refine w_ret ?_
  cases hF
  exact eR

def c140 : MC := (.seq (.reg [rg 2 (.p true (.mv (.c (.bool false))))]) (.seq (.reg [rg 3 (.p true (.mv (.t 0))), rg 4 (.p true (.bin .geq (.t 3) (.c (.int .u8 48)))), rg 5 (.p true (.mv (.t 4))), ⟨(some 6), (some (5, true)), (.p true (.mv (.t 0)))⟩, ⟨(some 7), (some (5, true)), (.p true (.bin .leq (.t 6) (.c (.int .u8 57))))⟩, rg 8 (.p true (.pick (.t 5) (.t 7) (.c (.bool false)))), rg 2 (.p true (.mv (.t 8)))]) .ret))
theorem c140_is : compFn Try.prog 140 = some (c140, [(.tmp 2)]) := by kernel_rfl
theorem c140_ok : okFn Try.prog 140 = true := by kernel_rfl

noncomputable def F_spec_l01Digit (v0 : Int) : Option (Bool) :=
 (bif (decide ((48 : Int) ≤ v0)) then some (decide (v0 ≤ (57 : Int)))
 else some false)
@[simp] def res_spec_l01Digit (r : Bool) : RV := .one (.one (.val (.bool r)))
theorem con_spec_l01Digit {v0 : Int} {r : Bool} (hF : F_spec_l01Digit v0 = some r) : Con Try.prog 140 [.int .u8 v0] (res_spec_l01Digit r) := by
 unfold F_spec_l01Digit at hF
 refine con_of c140_is fun N => ?_
 refine ws 0 64 ?_
 refine qp (AB false) rfl ?_
 refine r_nil ?_
 refine ws 64 512 ?_
 refine qp (.val none (.int .u8 v0)) rfl (qp (AB (decide ((48 : Int) ≤ v0))) rfl (qp (AB (decide ((48 : Int) ≤ v0))) rfl ?_))
 refine q_case 5 hF rfl (fun hF => ?_) (fun hF => ?_)
 ·
  refine qg (.val none (.int .u8 v0)) rfl rfl (qg (AB (decide (v0 ≤ (57 : Int)))) rfl rfl (qp (AB (decide (v0 ≤ (57 : Int)))) rfl (qp (AB (decide (v0 ≤ (57 : Int)))) rfl ?_)))
  refine r_nil ?_
  refine w_ret ?_
  cases hF
  exact eR
 ·
  refine qn rfl (qn rfl (qp (AB false) rfl (qp (AB false) rfl ?_)))
  refine r_nil ?_
  refine w_ret ?_
  cases hF
  exact eR

def c121 : MC := (.seq (.reg [rg 2 (.p true (.mv (.c (.bool false))))]) (.seq (.seq (.reg [rg 4 (.p true (.mv (.t 0))), rg 5 (.p true (.bin .eql (.t 4) (.c (.str [])))), rg 6 (.p true (.mv (.t 5))), ⟨(some 7), (some (6, false)), (.p true (.mv (.t 0)))⟩, ⟨(some 8), (some (6, false)), (.p true (.lens (.t 7)))⟩, ⟨(some 9), (some (6, false)), (.p true (.bin .gtr (.t 8) (.c (.int .i64 10))))⟩, rg 10 (.p true (.pick (.t 6) (.c (.bool true)) (.t 9))), rg 11 (.p true (.mv (.t 10))), ⟨(some 12), (some (11, false)), (.p true (.mv (.t 0)))⟩, ⟨(some 13), (some (11, false)), (.p true (.ixs (.t 12) (.c (.int .i64 0))))⟩, ⟨(some 14), (some (11, false)), (.call true 139 [(.t 13)])⟩, ⟨(some 15), (some (11, false)), (.p true (.not (.t 14)))⟩, rg 16 (.p true (.pick (.t 11) (.c (.bool true)) (.t 15)))]) (.cond (.t 16) (.seq (.reg [rg 2 (.p true (.mv (.c (.bool false))))]) .ret) .skip)) (.seq (.seq (.reg [rg 3 (.p true (.mv (.c (.int .i64 0))))]) (.block 0 (.loop (.seq (.seq (.reg [rg 17 (.p true (.mv (.t 3))), rg 18 (.p true (.mv (.t 0))), rg 19 (.p true (.lens (.t 18))), rg 20 (.p true (.bin .lss (.t 17) (.t 19)))]) (.cond (.t 20) .skip (.exit 0))) (.seq (.block 1 (.seq (.reg [rg 23 (.p true (.mv (.t 0))), rg 24 (.p true (.mv (.t 3))), rg 25 (.p true (.ixs (.t 23) (.t 24))), rg 26 (.call true 139 [(.t 25)]), rg 27 (.p true (.not (.t 26))), rg 28 (.p true (.mv (.t 27))), ⟨(some 29), (some (28, true)), (.p true (.mv (.t 0)))⟩, ⟨(some 30), (some (28, true)), (.p true (.mv (.t 3)))⟩, ⟨(some 31), (some (28, true)), (.p true (.ixs (.t 29) (.t 30)))⟩, ⟨(some 32), (some (28, true)), (.call true 140 [(.t 31)])⟩, ⟨(some 33), (some (28, true)), (.p true (.not (.t 32)))⟩, rg 34 (.p true (.pick (.t 28) (.t 33) (.c (.bool false))))]) (.cond (.t 34) (.seq (.reg [rg 2 (.p true (.mv (.c (.bool false))))]) .ret) .skip))) (.reg [rg 21 (.p true (.mv (.t 3))), rg 22 (.p true (.bin .add (.t 21) (.c (.int .i64 1)))), rg 3 (.p true (.mv (.t 22)))])))))) (.seq (.reg [rg 2 (.p true (.mv (.c (.bool true))))]) .ret))))
theorem c121_is : compFn Try.prog 121 = some (c121, [(.tmp 2)]) := by kernel_rfl
theorem c121_ok : okFn Try.prog 121 = true := by kernel_rfl

noncomputable def F_spec_l01Name_l0 (v0 : List UInt8) (k1 : Int → Option (Bool)) : Int → Option (Bool)
 | v1011 => (bif (decide (v1011 < (v0.length : Int))) then ((ix v0 v1011).bind fun v1012 => ((F_spec_l01Small (v1012.toNat : Int)).bind fun v1013 => (bif (!v1013) then ((ix v0 v1011).bind fun v1014 => ((F_spec_l01Digit (v1014.toNat : Int)).bind fun v1015 => (bif (!v1015) then some false
 else k1 (w64 (v1011 + 1)))))
 else k1 (w64 (v1011 + 1)))))
 else some true)
noncomputable def F_spec_l01Name (v0 : List UInt8) : Option (Bool) :=
 (bif (decide (v0 = [])) then some false
 else (bif (decide ((10 : Int) < (v0.length : Int))) then some false
 else ((ix v0 0).bind fun v1000 => ((F_spec_l01Small (v1000.toNat : Int)).bind fun v1001 => (bif (!v1001) then some false
 else loop (F_spec_l01Name_l0 v0) 0)))))
@[simp] def res_spec_l01Name (r : Bool) : RV := .one (.one (.val (.bool r)))
theorem con_spec_l01Name {v0 : List UInt8} {r : Bool} (hF : F_spec_l01Name v0 = some r) : Con Try.prog 121 [.str v0] (res_spec_l01Name r) := by
 unfold F_spec_l01Name at hF
 refine con_of c121_is fun N => ?_
 refine ws 0 64 ?_
 refine qp (AB false) rfl ?_
 refine r_nil ?_
 refine w_seq ?_
 refine ws 64 896 ?_
 refine qp (AS v0) rfl (qp (AB (decide (v0 = []))) rfl (qp (AB (decide (v0 = []))) rfl ?_))
 refine q_case 6 hF rfl (fun hF => ?_) (fun hF => ?_)
 ·
  refine qn rfl (qn rfl (qn rfl (qp (AB true) rfl (qp (AB true) rfl (qn rfl (qn rfl (qn rfl ?_)))))))
  refine qn rfl (qp (AB true) rfl ?_)
  refine r_nil ?_
  refine w_true rfl ?_
  refine ws 896 960 ?_
  refine qp (AB false) rfl ?_
  refine r_nil ?_
  refine w_ret ?_
  refine thenQ_r ?_
  cases hF
  exact eR
 ·
  refine qg (AS v0) rfl rfl (qg (AI (v0.length : Int)) rfl rfl (qg (AB (decide ((10 : Int) < (v0.length : Int)))) rfl rfl (qp (AB (decide ((10 : Int) < (v0.length : Int)))) rfl (qp (AB (decide ((10 : Int) < (v0.length : Int)))) rfl ?_))))
  refine q_case 11 hF rfl (fun hF => ?_) (fun hF => ?_)
  ·
   refine qn rfl (qn rfl (qn rfl (qn rfl (qp (AB true) rfl ?_))))
   refine r_nil ?_
   refine w_true rfl ?_
   refine ws 896 960 ?_
   refine qp (AB false) rfl ?_
   refine r_nil ?_
   refine w_ret ?_
   refine thenQ_r ?_
   cases hF
   exact eR
  ·
   refine qg (AS v0) rfl rfl ?_
   obtain ⟨v1000, e1000, hF⟩ := bind_get hF
   refine qg (.val none (.int .u8 (v1000.toNat : Int))) rfl (ev_ixs rfl rfl e1000) ?_
   obtain ⟨v1001, e1001, hF⟩ := bind_get hF
   refine qcg (AB v1001) [] false rfl (con_spec_l01Small e1001) c139_ok (by first | rfl | simp) rfl ?_
   refine qg (AB (!v1001)) rfl rfl (qp (AB (!v1001)) rfl ?_)
   refine r_nil ?_
   refine cF hF (fun hF => ?_) fun hF => ?_
   ·
    refine ws 896 960 ?_
    refine qp (AB false) rfl ?_
    refine r_nil ?_
    refine w_ret ?_
    refine thenQ_r ?_
    cases hF
    exact eR
   ·
    refine w_skip ?_
    refine thenQ_n ?_
    refine w_seq ?_
    refine ws 896 960 ?_
    refine qp (AI 0) rfl ?_
    refine r_nil ?_
    refine w_block ?_
    refine wr (l' := [(0, AS v0), (3, AI 0)]) (L := []) [0, 3] [] 1 ?_
    refine w_loopF (F_spec_l01Name_l0 v0) (fun s : Int => mkS [(0, AS v0), (3, AI s)] (fo []) 1) hF ?_
    rintro k1 v1011 hF
    rw [F_spec_l01Name_l0] at hF
    try dsimp only
    refine w_seq ?_
    refine ws 1 257 ?_
    refine qp (AI v1011) rfl (qp (AS v0) rfl (qp (AI (v0.length : Int)) rfl (qp (AB (decide (v1011 < (v0.length : Int)))) rfl ?_)))
    refine r_nil ?_
    refine cF hF (fun hF => ?_) fun hF => ?_
    ·
     refine w_skip ?_
     refine thenQ_n ?_
     refine w_seq ?_
     refine w_block ?_
     refine ws 257 1025 ?_
     refine qp (AS v0) rfl (qp (AI v1011) rfl ?_)
     obtain ⟨v1012, e1012, hF⟩ := bind_get hF
     refine qp (.val none (.int .u8 (v1012.toNat : Int))) (ev_ixs rfl rfl e1012) ?_
     obtain ⟨v1013, e1013, hF⟩ := bind_get hF
     refine qc (AB v1013) [] false (con_spec_l01Small e1013) c139_ok (by first | rfl | simp) rfl ?_
     refine qp (AB (!v1013)) rfl (qp (AB (!v1013)) rfl ?_)
     refine q_case 28 hF rfl (fun hF => ?_) (fun hF => ?_)
     ·
      refine qg (AS v0) rfl rfl (qg (AI v1011) rfl rfl ?_)
      obtain ⟨v1014, e1014, hF⟩ := bind_get hF
      refine qg (.val none (.int .u8 (v1014.toNat : Int))) rfl (ev_ixs rfl rfl e1014) ?_
      obtain ⟨v1015, e1015, hF⟩ := bind_get hF
      refine qcg (AB v1015) [] false rfl (con_spec_l01Digit e1015) c140_ok (by first | rfl | simp) rfl ?_
      refine qg (AB (!v1015)) rfl rfl (qp (AB (!v1015)) rfl ?_)
      refine r_nil ?_
      refine cF hF (fun hF => ?_) fun hF => ?_
      ·
       refine ws 1025 1089 ?_
       refine qp (AB false) rfl ?_
       refine r_nil ?_
       refine w_ret ?_
       refine blockQ_r ?_
       refine thenQ_r ?_
       refine thenQ_r ?_
       refine blockQ_r ?_
       refine thenQ_r ?_
       cases hF
       exact eR
      ·
       refine w_skip ?_
       refine blockQ_n ?_
       refine thenQ_n ?_
       refine w_reg 1025 1217 rfl rfl ?_
       refine qp (AI v1011) rfl (qp (AI (w64 (v1011 + 1))) rfl (qp (AI (w64 (v1011 + 1))) rfl ?_))
       refine r_nil ?_
       refine thenQ_n ?_
       refine ar (l' := [(0, AS v0), (3, AI (w64 (v1011 + 1)))]) (L := []) [0, 3] [] 1 ⟨_, by rfl, hF⟩
     ·
      refine qn rfl (qn rfl (qn rfl (qn rfl (qn rfl (qp (AB false) rfl ?_)))))
      refine r_nil ?_
      refine w_false rfl ?_
      refine w_skip ?_
      refine blockQ_n ?_
      refine thenQ_n ?_
      refine w_reg 1025 1217 rfl rfl ?_
      refine qp (AI v1011) rfl (qp (AI (w64 (v1011 + 1))) rfl (qp (AI (w64 (v1011 + 1))) rfl ?_))
      refine r_nil ?_
      refine thenQ_n ?_
      refine ar (l' := [(0, AS v0), (3, AI (w64 (v1011 + 1)))]) (L := []) [0, 3] [] 1 ⟨_, by rfl, hF⟩
    ·
     refine w_exit ?_
     refine thenQ_e ?_
     refine thenQ_e ?_
     refine blockQ_e ?_
     refine thenQ_n ?_
     refine ws 257 321 ?_
     refine qp (AB true) rfl ?_
     refine r_nil ?_
     refine w_ret ?_
     cases hF
     exact eR

def c100 : MC := (.seq (.reg [rg 2 (.p true (.mv (.c (.bool false))))]) (.seq (.reg [rg 3 (.p true (.mv (.t 0))), rg 4 (.p true (.nck (.t 3))), rg 5 (.p true (.fad (.t 4) 0)), rg 6 (.p true (.ld (.t 5) 1 false)), rg 7 (.call true 122 [(.t 6), (.c (.int .i64 0)), (.c (.int .i64 100000))]), rg 8 (.p true (.mv (.t 7))), ⟨(some 9), (some (8, true)), (.p true (.mv (.t 0)))⟩, ⟨(some 10), (some (8, true)), (.p true (.nck (.t 9)))⟩, ⟨(some 11), (some (8, true)), (.p true (.fad (.t 10) 1))⟩, ⟨(some 12), (some (8, true)), (.p true (.ld (.t 11) 1 false))⟩, ⟨(some 13), (some (8, true)), (.call true 121 [(.t 12)])⟩, rg 14 (.p true (.pick (.t 8) (.t 13) (.c (.bool false)))), rg 15 (.p true (.mv (.t 14))), ⟨(some 16), (some (15, true)), (.p true (.mv (.t 0)))⟩, ⟨(some 17), (some (15, true)), (.p true (.nck (.t 16)))⟩, ⟨(some 18), (some (15, true)), (.p true (.fad (.t 17) 2))⟩, ⟨(some 19), (some (15, true)), (.p true (.ld (.t 18) 1 false))⟩, ⟨(some 20), (some (15, true)), (.call true 121 [(.t 19)])⟩, rg 21 (.p true (.pick (.t 15) (.t 20) (.c (.bool false)))), rg 22 (.p true (.mv (.t 21))), ⟨(some 23), (some (22, true)), (.p true (.mv (.t 0)))⟩, ⟨(some 24), (some (22, true)), (.p true (.nck (.t 23)))⟩, ⟨(some 25), (some (22, true)), (.p true (.fad (.t 24) 3))⟩, ⟨(some 26), (some (22, true)), (.p true (.ld (.t 25) 1 false))⟩, ⟨(some 27), (some (22, true)), (.call true 122 [(.t 26), (.c (.int .i64 1)), (.c (.int .i64 480))])⟩, rg 28 (.p true (.pick (.t 22) (.t 27) (.c (.bool false)))), rg 29 (.p true (.mv (.t 28))), ⟨(some 30), (some (29, true)), (.p true (.mv (.t 0)))⟩, ⟨(some 31), (some (29, true)), (.p true (.nck (.t 30)))⟩, ⟨(some 32), (some (29, true)), (.p true (.fad (.t 31) 4))⟩, ⟨(some 33), (some (29, true)), (.p true (.ld (.t 32) 1 false))⟩, ⟨(some 34), (some (29, true)), (.call true 122 [(.t 33), (.c (.int .i64 0)), (.c (.int .i64 100))])⟩, rg 35 (.p true (.pick (.t 29) (.t 34) (.c (.bool false)))), rg 2 (.p true (.mv (.t 35)))]) .ret))
theorem c100_is : compFn Try.prog 100 = some (c100, [(.tmp 2)]) := by kernel_rfl
theorem c100_ok : okFn Try.prog 100 = true := by kernel_rfl

noncomputable def F_spec_l28One (v0 : TLesson) : Option (Bool) :=
 ((F_spec_l00In v0.1 0 100000).bind fun v1000 => (bif v1000 then ((F_spec_l01Name v0.2.1).bind fun v1001 => (bif v1001 then ((F_spec_l01Name v0.2.2.1).bind fun v1002 => (bif v1002 then ((F_spec_l00In v0.2.2.2.1 1 480).bind fun v1003 => (bif v1003 then ((F_spec_l00In v0.2.2.2.2 0 100).bind fun v1004 => some v1004)
 else some false))
 else some false))
 else some false))
 else some false))
@[simp] def res_spec_l28One (r : Bool) : RV := .one (.one (.val (.bool r)))
theorem con_spec_l28One {v0 : TLesson} {r : Bool} (hF : F_spec_l28One v0 = some r) : Con Try.prog 100 [.ptr [.int .i64 v0.1, .str v0.2.1, .str v0.2.2.1, .int .i64 v0.2.2.2.1, .int .i64 v0.2.2.2.2]] (res_spec_l28One r) := by
 unfold F_spec_l28One at hF
 refine con_of c100_is fun N => ?_
 refine ws 0 64 ?_
 refine qp (AB false) rfl ?_
 refine r_nil ?_
 refine ws 64 2240 ?_
 refine qp (.val none (.ptr [.int .i64 v0.1, .str v0.2.1, .str v0.2.2.1, .int .i64 v0.2.2.2.1, .int .i64 v0.2.2.2.2])) rfl (qp (.val none (.ptr [.int .i64 v0.1, .str v0.2.1, .str v0.2.2.1, .int .i64 v0.2.2.2.1, .int .i64 v0.2.2.2.2])) rfl (qp (.val none (.ptr [.int .i64 v0.1, .str v0.2.1, .str v0.2.2.1, .int .i64 v0.2.2.2.1, .int .i64 v0.2.2.2.2])) rfl (qp (AI v0.1) rfl ?_)))
 obtain ⟨v1000, e1000, hF⟩ := bind_get hF
 refine qc (AB v1000) [] false (con_spec_l00In e1000) c122_ok (by first | rfl | simp) rfl ?_
 refine qp (AB v1000) rfl ?_
 refine q_case 8 hF rfl (fun hF => ?_) (fun hF => ?_)
 ·
  refine qg (.val none (.ptr [.int .i64 v0.1, .str v0.2.1, .str v0.2.2.1, .int .i64 v0.2.2.2.1, .int .i64 v0.2.2.2.2])) rfl rfl (qg (.val none (.ptr [.int .i64 v0.1, .str v0.2.1, .str v0.2.2.1, .int .i64 v0.2.2.2.1, .int .i64 v0.2.2.2.2])) rfl rfl (qg (.val none (.ptr [.str v0.2.1, .str v0.2.2.1, .int .i64 v0.2.2.2.1, .int .i64 v0.2.2.2.2])) rfl rfl (qg (AS v0.2.1) rfl rfl ?_)))
  obtain ⟨v1001, e1001, hF⟩ := bind_get hF
  refine qcg (AB v1001) [] false rfl (con_spec_l01Name e1001) c121_ok (by first | rfl | simp) rfl ?_
  refine qp (AB v1001) rfl (qp (AB v1001) rfl ?_)
  refine q_case 15 hF rfl (fun hF => ?_) (fun hF => ?_)
  ·
   refine qg (.val none (.ptr [.int .i64 v0.1, .str v0.2.1, .str v0.2.2.1, .int .i64 v0.2.2.2.1, .int .i64 v0.2.2.2.2])) rfl rfl (qg (.val none (.ptr [.int .i64 v0.1, .str v0.2.1, .str v0.2.2.1, .int .i64 v0.2.2.2.1, .int .i64 v0.2.2.2.2])) rfl rfl (qg (.val none (.ptr [.str v0.2.2.1, .int .i64 v0.2.2.2.1, .int .i64 v0.2.2.2.2])) rfl rfl (qg (AS v0.2.2.1) rfl rfl ?_)))
   obtain ⟨v1002, e1002, hF⟩ := bind_get hF
   refine qcg (AB v1002) [] false rfl (con_spec_l01Name e1002) c121_ok (by first | rfl | simp) rfl ?_
   refine qp (AB v1002) rfl (qp (AB v1002) rfl ?_)
   refine q_case 22 hF rfl (fun hF => ?_) (fun hF => ?_)
   ·
    refine qg (.val none (.ptr [.int .i64 v0.1, .str v0.2.1, .str v0.2.2.1, .int .i64 v0.2.2.2.1, .int .i64 v0.2.2.2.2])) rfl rfl (qg (.val none (.ptr [.int .i64 v0.1, .str v0.2.1, .str v0.2.2.1, .int .i64 v0.2.2.2.1, .int .i64 v0.2.2.2.2])) rfl rfl (qg (.val none (.ptr [.int .i64 v0.2.2.2.1, .int .i64 v0.2.2.2.2])) rfl rfl (qg (AI v0.2.2.2.1) rfl rfl ?_)))
    obtain ⟨v1003, e1003, hF⟩ := bind_get hF
    refine qcg (AB v1003) [] false rfl (con_spec_l00In e1003) c122_ok (by first | rfl | simp) rfl ?_
    refine qp (AB v1003) rfl (qp (AB v1003) rfl ?_)
    refine q_case 29 hF rfl (fun hF => ?_) (fun hF => ?_)
    ·
     refine qg (.val none (.ptr [.int .i64 v0.1, .str v0.2.1, .str v0.2.2.1, .int .i64 v0.2.2.2.1, .int .i64 v0.2.2.2.2])) rfl rfl (qg (.val none (.ptr [.int .i64 v0.1, .str v0.2.1, .str v0.2.2.1, .int .i64 v0.2.2.2.1, .int .i64 v0.2.2.2.2])) rfl rfl (qg (.val none (.ptr [.int .i64 v0.2.2.2.2])) rfl rfl (qg (AI v0.2.2.2.2) rfl rfl ?_)))
     obtain ⟨v1004, e1004, hF⟩ := bind_get hF
     refine qcg (AB v1004) [] false rfl (con_spec_l00In e1004) c122_ok (by first | rfl | simp) rfl ?_
     refine qp (AB v1004) rfl (qp (AB v1004) rfl ?_)
     refine r_nil ?_
     refine w_ret ?_
     cases hF
     exact eR
    ·
     refine qn rfl (qn rfl (qn rfl (qn rfl (qn rfl (qp (AB false) rfl (qp (AB false) rfl ?_))))))
     refine r_nil ?_
     refine w_ret ?_
     cases hF
     exact eR
   ·
    refine qn rfl (qn rfl (qn rfl (qn rfl (qn rfl (qp (AB false) rfl (qp (AB false) rfl (qn rfl ?_)))))))
    refine qn rfl (qn rfl (qn rfl (qn rfl (qp (AB false) rfl (qp (AB false) rfl ?_)))))
    refine r_nil ?_
    refine w_ret ?_
    cases hF
    exact eR
  ·
   refine qn rfl (qn rfl (qn rfl (qn rfl (qn rfl (qp (AB false) rfl (qp (AB false) rfl (qn rfl ?_)))))))
   refine qn rfl (qn rfl (qn rfl (qn rfl (qp (AB false) rfl (qp (AB false) rfl (qn rfl (qn rfl ?_)))))))
   refine qn rfl (qn rfl (qn rfl (qp (AB false) rfl (qp (AB false) rfl ?_))))
   refine r_nil ?_
   refine w_ret ?_
   cases hF
   exact eR
 ·
  refine qn rfl (qn rfl (qn rfl (qn rfl (qn rfl (qp (AB false) rfl (qp (AB false) rfl (qn rfl ?_)))))))
  refine qn rfl (qn rfl (qn rfl (qn rfl (qp (AB false) rfl (qp (AB false) rfl (qn rfl (qn rfl ?_)))))))
  refine qn rfl (qn rfl (qn rfl (qp (AB false) rfl (qp (AB false) rfl (qn rfl (qn rfl (qn rfl ?_)))))))
  refine qn rfl (qn rfl (qp (AB false) rfl (qp (AB false) rfl ?_)))
  refine r_nil ?_
  refine w_ret ?_
  cases hF
  exact eR

def c101 : MC := (.seq (.reg [rg 4 (.p true (.mv (.c (.bool false))))]) (.seq (.seq (.reg [rg 5 (.p false (.mv (.t 0))), rg 6 (.p false (.nck (.t 5))), rg 7 (.p false (.fad (.t 6) 0)), rg 8 (.p false (.ld (.t 7) 1 false)), rg 9 (.p false (.mv (.t 1))), rg 10 (.p false (.nck (.t 9))), rg 11 (.p false (.fad (.t 10) 0)), rg 12 (.p false (.ld (.t 11) 1 false)), rg 13 (.p false (.bin .neq (.t 8) (.t 12)))]) (.cond (.t 13) (.seq (.reg [rg 14 (.p false (.mv (.t 0))), rg 15 (.p false (.nck (.t 14))), rg 16 (.p false (.fad (.t 15) 0)), rg 17 (.p false (.ld (.t 16) 1 false)), rg 18 (.p false (.mv (.t 1))), rg 19 (.p false (.nck (.t 18))), rg 20 (.p false (.fad (.t 19) 0)), rg 21 (.p false (.ld (.t 20) 1 false)), rg 22 (.p false (.bin .lss (.t 17) (.t 21))), rg 4 (.p false (.mv (.t 22)))]) .ret) .skip)) (.seq (.seq (.reg [rg 23 (.p false (.mv (.t 0))), rg 24 (.p false (.nck (.t 23))), rg 25 (.p false (.fad (.t 24) 1)), rg 26 (.p false (.ld (.t 25) 1 false)), rg 27 (.p false (.mv (.t 1))), rg 28 (.p false (.nck (.t 27))), rg 29 (.p false (.fad (.t 28) 1)), rg 30 (.p false (.ld (.t 29) 1 false)), rg 31 (.p false (.bin .neq (.t 26) (.t 30)))]) (.cond (.t 31) (.seq (.reg [rg 32 (.p false (.mv (.t 0))), rg 33 (.p false (.nck (.t 32))), rg 34 (.p false (.fad (.t 33) 1)), rg 35 (.p false (.ld (.t 34) 1 false)), rg 36 (.p false (.mv (.t 1))), rg 37 (.p false (.nck (.t 36))), rg 38 (.p false (.fad (.t 37) 1)), rg 39 (.p false (.ld (.t 38) 1 false)), rg 40 (.p false (.bin .lss (.t 35) (.t 39))), rg 4 (.p false (.mv (.t 40)))]) .ret) .skip)) (.seq (.reg [rg 41 (.p false (.mv (.t 0))), rg 42 (.p false (.nck (.t 41))), rg 43 (.p false (.fad (.t 42) 2)), rg 44 (.p false (.ld (.t 43) 1 false)), rg 45 (.p false (.mv (.t 1))), rg 46 (.p false (.nck (.t 45))), rg 47 (.p false (.fad (.t 46) 2)), rg 48 (.p false (.ld (.t 47) 1 false)), rg 49 (.p false (.bin .lss (.t 44) (.t 48))), rg 4 (.p false (.mv (.t 49)))]) .ret))))
theorem c101_is : compFn Try.prog 101 = some (c101, [(.tmp 4)]) := by kernel_rfl
theorem c101_ok : okFn Try.prog 101 = true := by kernel_rfl

noncomputable def F_spec_l28Before (v0 : TLesson) (v1 : TLesson) : Option (Bool) :=
 (bif (decide (v0.1 ≠ v1.1)) then some (decide (v0.1 < v1.1))
 else (bif (decide (v0.2.1 ≠ v1.2.1)) then some (Op.bytesLess v0.2.1 v1.2.1)
 else some (Op.bytesLess v0.2.2.1 v1.2.2.1)))
@[simp] def res_spec_l28Before (r : Bool) : RV := .one (.one (.val (.bool r)))
theorem con_spec_l28Before {v0 : TLesson} {v1 : TLesson} {r : Bool} (hF : F_spec_l28Before v0 v1 = some r) : Con Try.prog 101 [.ptr [.int .i64 v0.1, .str v0.2.1, .str v0.2.2.1, .int .i64 v0.2.2.2.1, .int .i64 v0.2.2.2.2], .ptr [.int .i64 v1.1, .str v1.2.1, .str v1.2.2.1, .int .i64 v1.2.2.2.1, .int .i64 v1.2.2.2.2]] (res_spec_l28Before r) := by
 unfold F_spec_l28Before at hF
 refine con_of c101_is fun N => ?_
 refine ws 0 64 ?_
 refine qp (AB false) rfl ?_
 refine r_nil ?_
 refine w_seq ?_
 refine ws 64 640 ?_
 refine qp (.val none (.ptr [.int .i64 v0.1, .str v0.2.1, .str v0.2.2.1, .int .i64 v0.2.2.2.1, .int .i64 v0.2.2.2.2])) rfl (qp (.val none (.ptr [.int .i64 v0.1, .str v0.2.1, .str v0.2.2.1, .int .i64 v0.2.2.2.1, .int .i64 v0.2.2.2.2])) rfl (qp (.val none (.ptr [.int .i64 v0.1, .str v0.2.1, .str v0.2.2.1, .int .i64 v0.2.2.2.1, .int .i64 v0.2.2.2.2])) rfl (qp (AI v0.1) rfl (qp (.val none (.ptr [.int .i64 v1.1, .str v1.2.1, .str v1.2.2.1, .int .i64 v1.2.2.2.1, .int .i64 v1.2.2.2.2])) rfl (qp (.val none (.ptr [.int .i64 v1.1, .str v1.2.1, .str v1.2.2.1, .int .i64 v1.2.2.2.1, .int .i64 v1.2.2.2.2])) rfl (qp (.val none (.ptr [.int .i64 v1.1, .str v1.2.1, .str v1.2.2.1, .int .i64 v1.2.2.2.1, .int .i64 v1.2.2.2.2])) rfl (qp (AI v1.1) rfl ?_)))))))
 refine qp (AB (decide (v0.1 ≠ v1.1))) rfl ?_
 refine r_nil ?_
 refine cF hF (fun hF => ?_) fun hF => ?_
 ·
  refine ws 640 1280 ?_
  refine qp (.val none (.ptr [.int .i64 v0.1, .str v0.2.1, .str v0.2.2.1, .int .i64 v0.2.2.2.1, .int .i64 v0.2.2.2.2])) rfl (qp (.val none (.ptr [.int .i64 v0.1, .str v0.2.1, .str v0.2.2.1, .int .i64 v0.2.2.2.1, .int .i64 v0.2.2.2.2])) rfl (qp (.val none (.ptr [.int .i64 v0.1, .str v0.2.1, .str v0.2.2.1, .int .i64 v0.2.2.2.1, .int .i64 v0.2.2.2.2])) rfl (qp (AI v0.1) rfl (qp (.val none (.ptr [.int .i64 v1.1, .str v1.2.1, .str v1.2.2.1, .int .i64 v1.2.2.2.1, .int .i64 v1.2.2.2.2])) rfl (qp (.val none (.ptr [.int .i64 v1.1, .str v1.2.1, .str v1.2.2.1, .int .i64 v1.2.2.2.1, .int .i64 v1.2.2.2.2])) rfl (qp (.val none (.ptr [.int .i64 v1.1, .str v1.2.1, .str v1.2.2.1, .int .i64 v1.2.2.2.1, .int .i64 v1.2.2.2.2])) rfl (qp (AI v1.1) rfl ?_)))))))
  refine qp (AB (decide (v0.1 < v1.1))) rfl (qp (AB (decide (v0.1 < v1.1))) rfl ?_)
  refine r_nil ?_
  refine w_ret ?_
  refine thenQ_r ?_
  cases hF
  exact eR
 ·
  refine w_skip ?_
  refine thenQ_n ?_
  refine w_seq ?_
  refine ws 640 1216 ?_
  refine qp (.val none (.ptr [.int .i64 v0.1, .str v0.2.1, .str v0.2.2.1, .int .i64 v0.2.2.2.1, .int .i64 v0.2.2.2.2])) rfl (qp (.val none (.ptr [.int .i64 v0.1, .str v0.2.1, .str v0.2.2.1, .int .i64 v0.2.2.2.1, .int .i64 v0.2.2.2.2])) rfl (qp (.val none (.ptr [.str v0.2.1, .str v0.2.2.1, .int .i64 v0.2.2.2.1, .int .i64 v0.2.2.2.2])) rfl (qp (AS v0.2.1) rfl (qp (.val none (.ptr [.int .i64 v1.1, .str v1.2.1, .str v1.2.2.1, .int .i64 v1.2.2.2.1, .int .i64 v1.2.2.2.2])) rfl (qp (.val none (.ptr [.int .i64 v1.1, .str v1.2.1, .str v1.2.2.1, .int .i64 v1.2.2.2.1, .int .i64 v1.2.2.2.2])) rfl (qp (.val none (.ptr [.str v1.2.1, .str v1.2.2.1, .int .i64 v1.2.2.2.1, .int .i64 v1.2.2.2.2])) rfl (qp (AS v1.2.1) rfl ?_)))))))
  refine qp (AB (decide (v0.2.1 ≠ v1.2.1))) rfl ?_
  refine r_nil ?_
  refine cF hF (fun hF => ?_) fun hF => ?_
  ·
   refine ws 1216 1856 ?_
   refine qp (.val none (.ptr [.int .i64 v0.1, .str v0.2.1, .str v0.2.2.1, .int .i64 v0.2.2.2.1, .int .i64 v0.2.2.2.2])) rfl (qp (.val none (.ptr [.int .i64 v0.1, .str v0.2.1, .str v0.2.2.1, .int .i64 v0.2.2.2.1, .int .i64 v0.2.2.2.2])) rfl (qp (.val none (.ptr [.str v0.2.1, .str v0.2.2.1, .int .i64 v0.2.2.2.1, .int .i64 v0.2.2.2.2])) rfl (qp (AS v0.2.1) rfl (qp (.val none (.ptr [.int .i64 v1.1, .str v1.2.1, .str v1.2.2.1, .int .i64 v1.2.2.2.1, .int .i64 v1.2.2.2.2])) rfl (qp (.val none (.ptr [.int .i64 v1.1, .str v1.2.1, .str v1.2.2.1, .int .i64 v1.2.2.2.1, .int .i64 v1.2.2.2.2])) rfl (qp (.val none (.ptr [.str v1.2.1, .str v1.2.2.1, .int .i64 v1.2.2.2.1, .int .i64 v1.2.2.2.2])) rfl (qp (AS v1.2.1) rfl ?_)))))))
   refine qp (AB (Op.bytesLess v0.2.1 v1.2.1)) rfl (qp (AB (Op.bytesLess v0.2.1 v1.2.1)) rfl ?_)
   refine r_nil ?_
   refine w_ret ?_
   refine thenQ_r ?_
   cases hF
   exact eR
  ·
   refine w_skip ?_
   refine thenQ_n ?_
   refine ws 1216 1856 ?_
   refine qp (.val none (.ptr [.int .i64 v0.1, .str v0.2.1, .str v0.2.2.1, .int .i64 v0.2.2.2.1, .int .i64 v0.2.2.2.2])) rfl (qp (.val none (.ptr [.int .i64 v0.1, .str v0.2.1, .str v0.2.2.1, .int .i64 v0.2.2.2.1, .int .i64 v0.2.2.2.2])) rfl (qp (.val none (.ptr [.str v0.2.2.1, .int .i64 v0.2.2.2.1, .int .i64 v0.2.2.2.2])) rfl (qp (AS v0.2.2.1) rfl (qp (.val none (.ptr [.int .i64 v1.1, .str v1.2.1, .str v1.2.2.1, .int .i64 v1.2.2.2.1, .int .i64 v1.2.2.2.2])) rfl (qp (.val none (.ptr [.int .i64 v1.1, .str v1.2.1, .str v1.2.2.1, .int .i64 v1.2.2.2.1, .int .i64 v1.2.2.2.2])) rfl (qp (.val none (.ptr [.str v1.2.2.1, .int .i64 v1.2.2.2.1, .int .i64 v1.2.2.2.2])) rfl (qp (AS v1.2.2.1) rfl ?_)))))))
   refine qp (AB (Op.bytesLess v0.2.2.1 v1.2.2.1)) rfl (qp (AB (Op.bytesLess v0.2.2.1 v1.2.2.1)) rfl ?_)
   refine r_nil ?_
   refine w_ret ?_
   cases hF
   exact eR

def c148 : MC := (.seq (.reg [rg 4 (.f (.nilrow 1))]) (.seq (.reg [rg 8 (.f (.bsl 1 [])), rg 5 (.p true (.mv (.t 8)))]) (.seq (.reg [rg 6 (.p true (.mv (.c (.bool false))))]) (.seq (.seq (.reg [rg 7 (.p true (.mv (.c (.int .i64 0))))]) (.block 0 (.loop (.seq (.seq (.reg [rg 9 (.p true (.mv (.t 7))), rg 10 (.p true (.mv (.t 0))), rg 11 (.p true (.len (.t 10))), rg 12 (.p true (.bin .lss (.t 9) (.t 11)))]) (.cond (.t 12) .skip (.exit 0))) (.seq (.block 1 (.seq (.seq (.reg [rg 15 (.p true (.mv (.t 6))), rg 16 (.p true (.not (.t 15))), rg 17 (.p true (.mv (.t 16))), ⟨(some 18), (some (17, true)), (.p true (.mv (.t 0)))⟩, ⟨(some 19), (some (17, true)), (.p true (.mv (.t 7)))⟩, ⟨(some 20), (some (17, true)), (.p true (.iad (.t 18) (.t 19) 1))⟩, ⟨(some 21), (some (17, true)), (.p true (.ld (.t 20) 1 false))⟩, ⟨(some 22), (some (17, true)), (.p true (.mv (.t 1)))⟩, ⟨(some 23), (some (17, true)), (.p true (.bin .geq (.t 21) (.t 22)))⟩, rg 24 (.p true (.pick (.t 17) (.t 23) (.c (.bool false))))]) (.cond (.t 24) (.seq (.reg [rg 25 (.p true (.mv (.t 5))), rg 26 (.p true (.mv (.t 1))), rg 27 (.f (.bsl 1 [(.t 26)])), rg 28 (.f (.app (.t 25) (.t 27) 1 16 true)), rg 5 (.p true (.mv (.t 28)))]) (.reg [rg 6 (.p true (.mv (.c (.bool true))))])) .skip)) (.seq (.reg [rg 29 (.p true (.mv (.t 0))), rg 30 (.p true (.mv (.t 7))), rg 31 (.p true (.iad (.t 29) (.t 30) 1)), rg 32 (.p true (.ld (.t 31) 1 false)), rg 33 (.p true (.mv (.t 1))), rg 34 (.p true (.bin .neq (.t 32) (.t 33)))]) (.cond (.t 34) (.reg [rg 35 (.p true (.mv (.t 5))), rg 36 (.p true (.mv (.t 0))), rg 37 (.p true (.mv (.t 7))), rg 38 (.p true (.iad (.t 36) (.t 37) 1)), rg 39 (.p true (.ld (.t 38) 1 false)), rg 40 (.f (.bsl 1 [(.t 39)])), rg 41 (.f (.app (.t 35) (.t 40) 1 16 true)), rg 5 (.p true (.mv (.t 41)))]) .skip)))) (.reg [rg 13 (.p true (.mv (.t 7))), rg 14 (.p true (.bin .add (.t 13) (.c (.int .i64 1)))), rg 7 (.p true (.mv (.t 14)))])))))) (.seq (.seq (.reg [rg 42 (.p true (.mv (.t 6))), rg 43 (.p true (.not (.t 42)))]) (.cond (.t 43) (.reg [rg 44 (.p true (.mv (.t 5))), rg 45 (.p true (.mv (.t 1))), rg 46 (.f (.bsl 1 [(.t 45)])), rg 47 (.f (.app (.t 44) (.t 46) 1 16 true)), rg 5 (.p true (.mv (.t 47)))]) .skip)) (.seq (.reg [rg 48 (.p true (.mv (.t 5))), rg 4 (.p true (.mv (.t 48)))]) .ret))))))
theorem c148_is : compFn Try.prog 148 = some (c148, [(.tmp 4)]) := by kernel_rfl
theorem c148_ok : okFn Try.prog 148 = true := by kernel_rfl

noncomputable def F_spec_l28Put_j1 (v0 : List (List UInt8)) (v1 : List UInt8) (v24 : Int) (k0 : Bool × Int × (List (List UInt8)) → Option (List (List UInt8))) (v28 : Bool) (v29 : List (List UInt8)) : Option (List (List UInt8)) :=
 ((ix v0 v24).bind fun v1002 => (bif (decide (v1002 ≠ v1)) then ((ix v0 v24).bind fun v1003 => (need (room (v29.length + [v1003].length) 16) (k0 (v28, w64 (v24 + 1), v29 ++ [v1003]))))
 else k0 (v28, w64 (v24 + 1), v29)))
noncomputable def F_spec_l28Put_l0 (v0 : List (List UInt8)) (v1 : List UInt8) (k0 : Bool × Int × (List (List UInt8)) → Option (List (List UInt8))) : Bool × Int × (List (List UInt8)) → Option (List (List UInt8))
 | (v23, v24, v25) => (bif (decide (v24 < (v0.length : Int))) then (bif (!v23) then ((ix v0 v24).bind fun v1000 => (bif (!Op.bytesLess v1000 v1) then (need (room (v25.length + [v1].length) 16) (F_spec_l28Put_j1 v0 v1 v24 k0 true (v25 ++ [v1])))
 else F_spec_l28Put_j1 v0 v1 v24 k0 v23 v25))
 else F_spec_l28Put_j1 v0 v1 v24 k0 v23 v25)
 else (bif (!v23) then (need (room (v25.length + [v1].length) 16) (some (v25 ++ [v1])))
 else some v25))
noncomputable def F_spec_l28Put (v0 : List (List UInt8)) (v1 : List UInt8) : Option (List (List UInt8)) :=
 loop (F_spec_l28Put_l0 v0 v1) (false, 0, [])
@[simp] def res_spec_l28Put (r : List (List UInt8)) : RV := .one (.one (.row true 1 (r.map V.str)))
theorem con_spec_l28Put {v0 : List (List UInt8)} {v1 : List UInt8} {r : List (List UInt8)} (hF : F_spec_l28Put v0 v1 = some r) : Con Try.prog 148 [.sl 1 (v0.map V.str), .str v1] (res_spec_l28Put r) := by
 unfold F_spec_l28Put at hF
 refine con_of c148_is fun N => ?_
 refine ws 0 64 ?_
 refine qf (.sl 0 0 0) [(0, .row true 1 (([] : List Int).map (V.int .i64)))] (by simp) ?_
 refine r_nil ?_
 refine ws 64 192 ?_
 refine qf (.sl 64 0 0) [(64, .row true 1 (([] : List (List UInt8)).map V.str)), (0, .row true 1 (([] : List Int).map (V.int .i64)))] (by simp [List.take_of_length_le]) ?_
 refine qp (.sl 64 0 0) rfl ?_
 refine r_nil ?_
 refine ws 192 256 ?_
 refine qp (AB false) rfl ?_
 refine r_nil ?_
 refine w_seq ?_
 refine ws 256 320 ?_
 refine qp (AI 0) rfl ?_
 refine r_nil ?_
 refine w_block ?_
 refine wr (l' := [(0, AL 1 (v0.map V.str)), (1, AS v1), (5, .sl 0 0 0), (6, AB false), (7, AI 0)]) (L := [(0, .row true 1 (([] : List (List UInt8)).map V.str))]) [0, 1, 5, 6, 7] [(64, 0)] 1 ?_
 refine w_loopF (F_spec_l28Put_l0 v0 v1) (fun s : Bool × Int × (List (List UInt8)) => mkS [(0, AL 1 (v0.map V.str)), (1, AS v1), (5, .sl 0 0 s.2.2.length), (6, AB s.1), (7, AI s.2.1)] (fo [(0, .row true 1 (s.2.2.map V.str))]) 1) hF ?_
 rintro k0 ⟨v23, v24, v25⟩ hF
 rw [F_spec_l28Put_l0] at hF
 try dsimp only
 refine w_seq ?_
 refine ws 1 257 ?_
 refine qp (AI v24) rfl (qp (AL 1 (v0.map V.str)) rfl (qp (AI (v0.length : Int)) (ev_len_n rfl) (qp (AB (decide (v24 < (v0.length : Int)))) rfl ?_)))
 refine r_nil ?_
 refine cF hF (fun hF => ?_) fun hF => ?_
 ·
  refine w_skip ?_
  refine thenQ_n ?_
  refine w_seq ?_
  refine w_block ?_
  refine w_meet (fun s' => ∃ (v28 : Bool) (v29 : List (List UInt8)), s' = mkS [(0, AL 1 (v0.map V.str)), (1, AS v1), (5, .sl 0 0 v29.length), (6, AB v28), (7, AI v24)] (fo [(0, .row true 1 (v29.map V.str))]) 1 ∧ F_spec_l28Put_j1 v0 v1 v24 k0 v28 v29 = some r) ?_ ?_
  ·
   refine ws 257 897 ?_
   refine qp (AB v23) rfl (qp (AB (!v23)) rfl (qp (AB (!v23)) rfl ?_))
   refine q_case 17 hF rfl (fun hF => ?_) (fun hF => ?_)
   ·
    refine qg (AL 1 (v0.map V.str)) rfl rfl (qg (AI v24) rfl rfl ?_)
    obtain ⟨v1000, e1000, hF⟩ := bind_get hF
    refine qg (.val none (.ptr [.str v1000])) rfl (ev_iad_n rfl rfl e1000 rfl) (qg (AS v1000) rfl rfl (qg (AS v1) rfl rfl (qg (AB (!Op.bytesLess v1000 v1)) rfl rfl (qp (AB (!Op.bytesLess v1000 v1)) rfl ?_))))
    refine r_nil ?_
    refine cF hF (fun hF => ?_) fun hF => ?_
    ·
     refine ws 897 1217 ?_
     refine qp (.sl 0 0 v25.length) rfl (qp (AS v1) rfl ?_)
     refine qf (.sl 1025 0 ([v1].length)) [(1025, .row true 1 ([v1].map V.str)), (0, .row true 1 (v25.map V.str))] (by simp [List.take_of_length_le]) ?_
     obtain ⟨g1001, hF⟩ := need_some hF
     refine qf (.sl 1089 0 ((v25 ++ [v1]).length)) [(1089, .row true 1 ((v25 ++ [v1]).map V.str)), (0, .dead), (1025, .dead), (1025, .row true 1 ([v1].map V.str)), (0, .row true 1 (v25.map V.str))] (effT_app_l rfl (by simp) rfl rfl (by simp) rfl (by decide) g1001 rfl) ?_
     refine qp (.sl 1089 0 ((v25 ++ [v1]).length)) rfl ?_
     refine r_nil ?_
     refine w_reg 1217 1281 rfl rfl ?_
     refine qp (AB true) rfl ?_
     refine r_nil ?_
     refine thenQ_n ?_
     refine aw_ren (l' := [(0, AL 1 (v0.map V.str)), (1, AS v1), (5, .sl 0 0 (v25 ++ [v1]).length), (6, AB true), (7, AI v24)]) (L := [(0, .row true 1 ((v25 ++ [v1]).map V.str))]) [0, 1, 5, 6, 7] [(1089, 0)] 1 (by first | rfl | simp) (by first | rfl | simp) (by decide) (by decide) (by decide) ⟨_, _, rfl, hF⟩
    ·
     refine w_skip ?_
     refine thenQ_n ?_
     refine aw_ren (l' := [(0, AL 1 (v0.map V.str)), (1, AS v1), (5, .sl 0 0 v25.length), (6, AB v23), (7, AI v24)]) (L := [(0, .row true 1 (v25.map V.str))]) [0, 1, 5, 6, 7] [(0, 0)] 1 (by first | rfl | simp) (by first | rfl | simp) (by decide) (by decide) (by decide) ⟨_, _, rfl, hF⟩
   ·
    refine qn rfl (qn rfl (qn rfl (qn rfl (qn rfl (qn rfl (qp (AB false) rfl ?_))))))
    refine r_nil ?_
    refine w_false rfl ?_
    refine w_skip ?_
    refine thenQ_n ?_
    refine aw_ren (l' := [(0, AL 1 (v0.map V.str)), (1, AS v1), (5, .sl 0 0 v25.length), (6, AB v23), (7, AI v24)]) (L := [(0, .row true 1 (v25.map V.str))]) [0, 1, 5, 6, 7] [(0, 0)] 1 (by first | rfl | simp) (by first | rfl | simp) (by decide) (by decide) (by decide) ⟨_, _, rfl, hF⟩
  ·
   rintro s' ⟨v28, v29, rfl, hF⟩
   unfold F_spec_l28Put_j1 at hF
   refine ws 1 385 ?_
   refine qp (AL 1 (v0.map V.str)) rfl (qp (AI v24) rfl ?_)
   obtain ⟨v1002, e1002, hF⟩ := bind_get hF
   refine qp (.val none (.ptr [.str v1002])) (ev_iad_n rfl rfl e1002 rfl) (qp (AS v1002) rfl (qp (AS v1) rfl (qp (AB (decide (v1002 ≠ v1))) rfl ?_)))
   refine r_nil ?_
   refine cF hF (fun hF => ?_) fun hF => ?_
   ·
    refine w_reg 385 897 rfl rfl ?_
    refine qp (.sl 0 0 v29.length) rfl (qp (AL 1 (v0.map V.str)) rfl (qp (AI v24) rfl ?_))
    obtain ⟨v1003, e1003, hF⟩ := bind_get hF
    refine qp (.val none (.ptr [.str v1003])) (ev_iad_n rfl rfl e1003 rfl) (qp (AS v1003) rfl ?_)
    refine qf (.sl 705 0 ([v1003].length)) [(705, .row true 1 ([v1003].map V.str)), (0, .row true 1 (v29.map V.str))] (by simp [List.take_of_length_le]) ?_
    obtain ⟨g1004, hF⟩ := need_some hF
    refine qf (.sl 769 0 ((v29 ++ [v1003]).length)) [(769, .row true 1 ((v29 ++ [v1003]).map V.str)), (0, .dead), (705, .dead), (705, .row true 1 ([v1003].map V.str)), (0, .row true 1 (v29.map V.str))] (effT_app_l rfl (by simp) rfl rfl (by simp) rfl (by decide) g1004 rfl) ?_
    refine qp (.sl 769 0 ((v29 ++ [v1003]).length)) rfl ?_
    refine r_nil ?_
    refine blockQ_n ?_
    refine thenQ_n ?_
    refine w_reg 897 1089 rfl rfl ?_
    refine qp (AI v24) rfl (qp (AI (w64 (v24 + 1))) rfl (qp (AI (w64 (v24 + 1))) rfl ?_))
    refine r_nil ?_
    refine thenQ_n ?_
    refine ar (l' := [(0, AL 1 (v0.map V.str)), (1, AS v1), (5, .sl 0 0 (v29 ++ [v1003]).length), (6, AB v28), (7, AI (w64 (v24 + 1)))]) (L := [(0, .row true 1 ((v29 ++ [v1003]).map V.str))]) [0, 1, 5, 6, 7] [(769, 0)] 1 ⟨_, by rfl, hF⟩
   ·
    refine w_skip ?_
    refine blockQ_n ?_
    refine thenQ_n ?_
    refine w_reg 385 577 rfl rfl ?_
    refine qp (AI v24) rfl (qp (AI (w64 (v24 + 1))) rfl (qp (AI (w64 (v24 + 1))) rfl ?_))
    refine r_nil ?_
    refine thenQ_n ?_
    refine ar (l' := [(0, AL 1 (v0.map V.str)), (1, AS v1), (5, .sl 0 0 v29.length), (6, AB v28), (7, AI (w64 (v24 + 1)))]) (L := [(0, .row true 1 (v29.map V.str))]) [0, 1, 5, 6, 7] [(0, 0)] 1 ⟨_, by rfl, hF⟩
 ·
  refine w_exit ?_
  refine thenQ_e ?_
  refine thenQ_e ?_
  refine blockQ_e ?_
  refine thenQ_n ?_
  refine w_seq ?_
  refine ws 257 385 ?_
  refine qp (AB v23) rfl (qp (AB (!v23)) rfl ?_)
  refine r_nil ?_
  refine cF hF (fun hF => ?_) fun hF => ?_
  ·
   refine w_reg 385 705 rfl rfl ?_
   refine qp (.sl 0 0 v25.length) rfl (qp (AS v1) rfl ?_)
   refine qf (.sl 513 0 ([v1].length)) [(513, .row true 1 ([v1].map V.str)), (0, .row true 1 (v25.map V.str))] (by simp [List.take_of_length_le]) ?_
   obtain ⟨g1005, hF⟩ := need_some hF
   refine qf (.sl 577 0 ((v25 ++ [v1]).length)) [(577, .row true 1 ((v25 ++ [v1]).map V.str)), (0, .dead), (513, .dead), (513, .row true 1 ([v1].map V.str)), (0, .row true 1 (v25.map V.str))] (effT_app_l rfl (by simp) rfl rfl (by simp) rfl (by decide) g1005 rfl) ?_
   refine qp (.sl 577 0 ((v25 ++ [v1]).length)) rfl ?_
   refine r_nil ?_
   refine thenQ_n ?_
   refine ws 705 833 ?_
   refine qp (.sl 577 0 ((v25 ++ [v1]).length)) rfl (qp (.sl 577 0 ((v25 ++ [v1]).length)) rfl ?_)
   refine r_nil ?_
   refine w_ret ?_
   cases hF
   exact eR
  ·
   refine w_skip ?_
   refine thenQ_n ?_
   refine ws 385 513 ?_
   refine qp (.sl 0 0 v25.length) rfl (qp (.sl 0 0 v25.length) rfl ?_)
   refine r_nil ?_
   refine w_ret ?_
   cases hF
   exact eR

def c133 : MC := (.seq (.reg [rg 2 (.f (.nilrow 1))]) (.seq (.reg [rg 5 (.f (.bsl 1 [])), rg 3 (.p true (.mv (.t 5)))]) (.seq (.seq (.reg [rg 4 (.p true (.mv (.c (.int .i64 0))))]) (.block 0 (.loop (.seq (.seq (.reg [rg 6 (.p true (.mv (.t 4))), rg 7 (.p true (.mv (.t 0))), rg 8 (.p true (.len (.t 7))), rg 9 (.p true (.bin .lss (.t 6) (.t 8)))]) (.cond (.t 9) .skip (.exit 0))) (.seq (.block 1 (.reg [rg 12 (.p true (.mv (.t 3))), rg 13 (.p true (.mv (.t 0))), rg 14 (.p true (.mv (.t 4))), rg 15 (.p true (.iad (.t 13) (.t 14) 5)), rg 16 (.p true (.fad (.t 15) 1)), rg 17 (.p true (.ld (.t 16) 1 false)), rg 18 (.call true 148 [(.t 12), (.t 17)]), rg 3 (.p true (.mv (.t 18)))])) (.reg [rg 10 (.p true (.mv (.t 4))), rg 11 (.p true (.bin .add (.t 10) (.c (.int .i64 1)))), rg 4 (.p true (.mv (.t 11)))])))))) (.seq (.reg [rg 19 (.p true (.mv (.t 3))), rg 2 (.p true (.mv (.t 19)))]) .ret))))
theorem c133_is : compFn Try.prog 133 = some (c133, [(.tmp 2)]) := by kernel_rfl
theorem c133_ok : okFn Try.prog 133 = true := by kernel_rfl

noncomputable def F_spec_l28Pupils_l0 (v0 : List TLesson) (k0 : Int × (List (List UInt8)) → Option (List (List UInt8))) : Int × (List (List UInt8)) → Option (List (List UInt8))
 | (v7, v8) => (bif (decide (v7 < (v0.length : Int))) then ((ix v0 v7).bind fun v1000 => ((F_spec_l28Put v8 v1000.2.1).bind fun v1001 => k0 (w64 (v7 + 1), v1001)))
 else some v8)
noncomputable def F_spec_l28Pupils (v0 : List TLesson) : Option (List (List UInt8)) :=
 loop (F_spec_l28Pupils_l0 v0) (0, [])
@[simp] def res_spec_l28Pupils (r : List (List UInt8)) : RV := .one (.one (.row true 1 (r.map V.str)))
theorem con_spec_l28Pupils {v0 : List TLesson} {r : List (List UInt8)} (hF : F_spec_l28Pupils v0 = some r) : Con Try.prog 133 [.sl 5 (v0.map eLesson)] (res_spec_l28Pupils r) := by
 unfold F_spec_l28Pupils at hF
 refine con_of c133_is fun N => ?_
 refine ws 0 64 ?_
 refine qf (.sl 0 0 0) [(0, .row true 1 (([] : List Int).map (V.int .i64)))] (by simp) ?_
 refine r_nil ?_
 refine ws 64 192 ?_
 refine qf (.sl 64 0 0) [(64, .row true 1 (([] : List (List UInt8)).map V.str)), (0, .row true 1 (([] : List Int).map (V.int .i64)))] (by simp [List.take_of_length_le]) ?_
 refine qp (.sl 64 0 0) rfl ?_
 refine r_nil ?_
 refine w_seq ?_
 refine ws 192 256 ?_
 refine qp (AI 0) rfl ?_
 refine r_nil ?_
 refine w_block ?_
 refine wr (l' := [(0, AL 5 (v0.map eLesson)), (3, .sl 0 0 0), (4, AI 0)]) (L := [(0, .row true 1 (([] : List (List UInt8)).map V.str))]) [0, 3, 4] [(64, 0)] 1 ?_
 refine w_loopF (F_spec_l28Pupils_l0 v0) (fun s : Int × (List (List UInt8)) => mkS [(0, AL 5 (v0.map eLesson)), (3, .sl 0 0 s.2.length), (4, AI s.1)] (fo [(0, .row true 1 (s.2.map V.str))]) 1) hF ?_
 rintro k0 ⟨v7, v8⟩ hF
 rw [F_spec_l28Pupils_l0] at hF
 try dsimp only
 refine w_seq ?_
 refine ws 1 257 ?_
 refine qp (AI v7) rfl (qp (AL 5 (v0.map eLesson)) rfl (qp (AI (v0.length : Int)) (ev_len_n rfl) (qp (AB (decide (v7 < (v0.length : Int)))) rfl ?_)))
 refine r_nil ?_
 refine cF hF (fun hF => ?_) fun hF => ?_
 ·
  refine w_skip ?_
  refine thenQ_n ?_
  refine w_seq ?_
  refine w_block ?_
  refine w_reg 257 769 rfl rfl ?_
  refine qp (.sl 0 0 v8.length) rfl (qp (AL 5 (v0.map eLesson)) rfl (qp (AI v7) rfl ?_))
  obtain ⟨v1000, e1000, hF⟩ := bind_get hF
  refine qp (.val none (.ptr [.int .i64 v1000.1, .str v1000.2.1, .str v1000.2.2.1, .int .i64 v1000.2.2.2.1, .int .i64 v1000.2.2.2.2])) (ev_iad_n rfl rfl e1000 rfl) (qp (.val none (.ptr [.str v1000.2.1, .str v1000.2.2.1, .int .i64 v1000.2.2.2.1, .int .i64 v1000.2.2.2.2])) rfl (qp (AS v1000.2.1) rfl ?_))
  obtain ⟨v1001, e1001, hF⟩ := bind_get hF
  refine qc (.sl 641 0 v1001.length) [(641, .row true 1 (v1001.map V.str)), (0, .row true 1 (v8.map V.str))] true (con_spec_l28Put e1001) c148_ok (by simp [List.take_of_length_le]) (by simp [res_spec_l28Put]) ?_
  refine qp (.sl 641 0 v1001.length) rfl ?_
  refine r_nil ?_
  refine blockQ_n ?_
  refine thenQ_n ?_
  refine w_reg 769 961 rfl rfl ?_
  refine qp (AI v7) rfl (qp (AI (w64 (v7 + 1))) rfl (qp (AI (w64 (v7 + 1))) rfl ?_))
  refine r_nil ?_
  refine thenQ_n ?_
  refine ar (l' := [(0, AL 5 (v0.map eLesson)), (3, .sl 0 0 v1001.length), (4, AI (w64 (v7 + 1)))]) (L := [(0, .row true 1 (v1001.map V.str))]) [0, 3, 4] [(641, 0)] 1 ⟨_, by rfl, hF⟩
 ·
  refine w_exit ?_
  refine thenQ_e ?_
  refine thenQ_e ?_
  refine blockQ_e ?_
  refine thenQ_n ?_
  refine ws 257 385 ?_
  refine qp (.sl 0 0 v8.length) rfl (qp (.sl 0 0 v8.length) rfl ?_)
  refine r_nil ?_
  refine w_ret ?_
  cases hF
  exact eR

def c99 : MC := (.seq (.reg [rg 2 (.p true (.mv (.c (.bool false))))]) (.seq (.seq (.reg [rg 3 (.p true (.mv (.c (.int .i64 0))))]) (.block 0 (.loop (.seq (.seq (.reg [rg 4 (.p true (.mv (.t 3))), rg 5 (.p true (.mv (.t 0))), rg 6 (.p true (.len (.t 5))), rg 7 (.p true (.bin .lss (.t 4) (.t 6)))]) (.cond (.t 7) .skip (.exit 0))) (.seq (.block 1 (.seq (.reg [rg 10 (.p false (.mv (.t 0))), rg 11 (.p false (.mv (.t 3))), rg 12 (.p false (.iad (.t 10) (.t 11) 5)), rg 13 (.call false 100 [(.t 12)]), rg 14 (.p false (.not (.t 13))), rg 15 (.p false (.mv (.t 14))), ⟨(some 16), (some (15, false)), (.p false (.mv (.t 3)))⟩, ⟨(some 17), (some (15, false)), (.p false (.bin .gtr (.t 16) (.c (.int .i64 0))))⟩, ⟨(some 18), (some (15, false)), (.p false (.mv (.t 17)))⟩, ⟨(some 19), (some (18, true)), (.p false (.mv (.t 0)))⟩, ⟨(some 20), (some (18, true)), (.p false (.mv (.t 3)))⟩, ⟨(some 21), (some (18, true)), (.p false (.bin .sub (.t 20) (.c (.int .i64 1))))⟩, ⟨(some 22), (some (18, true)), (.p false (.iad (.t 19) (.t 21) 5))⟩, ⟨(some 23), (some (18, true)), (.p false (.mv (.t 0)))⟩, ⟨(some 24), (some (18, true)), (.p false (.mv (.t 3)))⟩, ⟨(some 25), (some (18, true)), (.p false (.iad (.t 23) (.t 24) 5))⟩, ⟨(some 26), (some (18, true)), (.call false 101 [(.t 22), (.t 25)])⟩, ⟨(some 27), (some (18, true)), (.p false (.not (.t 26)))⟩, ⟨(some 28), (some (15, false)), (.p false (.pick (.t 18) (.t 27) (.c (.bool false))))⟩, rg 29 (.p false (.pick (.t 15) (.c (.bool true)) (.t 28)))]) (.cond (.t 29) (.seq (.reg [rg 2 (.p true (.mv (.c (.bool false))))]) .ret) .skip))) (.reg [rg 8 (.p true (.mv (.t 3))), rg 9 (.p true (.bin .add (.t 8) (.c (.int .i64 1)))), rg 3 (.p true (.mv (.t 9)))])))))) (.seq (.reg [rg 30 (.p true (.mv (.t 0))), rg 31 (.p true (.len (.t 30))), rg 32 (.p true (.bin .leq (.t 31) (.c (.int .i64 64)))), rg 33 (.p true (.mv (.t 32))), ⟨(some 34), (some (33, true)), (.p true (.mv (.t 0)))⟩, ⟨(some 35), (some (33, true)), (.call true 133 [(.t 34)])⟩, ⟨(some 36), (some (33, true)), (.p true (.len (.t 35)))⟩, ⟨(some 37), (some (33, true)), (.p true (.bin .leq (.t 36) (.c (.int .i64 12))))⟩, rg 38 (.p true (.pick (.t 33) (.t 37) (.c (.bool false)))), rg 2 (.p true (.mv (.t 38)))]) .ret)))
theorem c99_is : compFn Try.prog 99 = some (c99, [(.tmp 2)]) := by kernel_rfl
theorem c99_ok : okFn Try.prog 99 = true := by kernel_rfl

noncomputable def F_spec_l28Ok_l0 (v0 : List TLesson) (k0 : Int → Option (Bool)) : Int → Option (Bool)
 | v12 => (bif (decide (v12 < (v0.length : Int))) then ((ix v0 v12).bind fun v1000 => ((F_spec_l28One v1000).bind fun v1001 => (bif (!v1001) then some false
 else (bif (decide ((0 : Int) < v12)) then ((ix v0 (w64 (v12 - 1))).bind fun v1002 => ((ix v0 v12).bind fun v1003 => ((F_spec_l28Before v1002 v1003).bind fun v1004 => (bif (!v1004) then some false
 else k0 (w64 (v12 + 1))))))
 else k0 (w64 (v12 + 1))))))
 else (bif (decide ((v0.length : Int) ≤ (64 : Int))) then ((F_spec_l28Pupils v0).bind fun v1005 => some (decide ((v1005.length : Int) ≤ (12 : Int))))
 else some false))
noncomputable def F_spec_l28Ok (v0 : List TLesson) : Option (Bool) :=
 loop (F_spec_l28Ok_l0 v0) 0
@[simp] def res_spec_l28Ok (r : Bool) : RV := .one (.one (.val (.bool r)))
theorem con_spec_l28Ok {v0 : List TLesson} {r : Bool} (hF : F_spec_l28Ok v0 = some r) : Con Try.prog 99 [.sl 5 (v0.map eLesson)] (res_spec_l28Ok r) := by
 unfold F_spec_l28Ok at hF
 refine con_of c99_is fun N => ?_
 refine ws 0 64 ?_
 refine qp (AB false) rfl ?_
 refine r_nil ?_
 refine w_seq ?_
 refine ws 64 128 ?_
 refine qp (AI 0) rfl ?_
 refine r_nil ?_
 refine w_block ?_
 refine wr (l' := [(0, AL 5 (v0.map eLesson)), (3, AI 0)]) (L := []) [0, 3] [] 1 ?_
 refine w_loopF (F_spec_l28Ok_l0 v0) (fun s : Int => mkS [(0, AL 5 (v0.map eLesson)), (3, AI s)] (fo []) 1) hF ?_
 rintro k0 v12 hF
 rw [F_spec_l28Ok_l0] at hF
 try dsimp only
 refine w_seq ?_
 refine ws 1 257 ?_
 refine qp (AI v12) rfl (qp (AL 5 (v0.map eLesson)) rfl (qp (AI (v0.length : Int)) (ev_len_n rfl) (qp (AB (decide (v12 < (v0.length : Int)))) rfl ?_)))
 refine r_nil ?_
 refine cF hF (fun hF => ?_) fun hF => ?_
 ·
  refine w_skip ?_
  refine thenQ_n ?_
  refine w_seq ?_
  refine w_block ?_
  refine ws 257 1537 ?_
  refine qp (AL 5 (v0.map eLesson)) rfl (qp (AI v12) rfl ?_)
  obtain ⟨v1000, e1000, hF⟩ := bind_get hF
  refine qp (.val none (.ptr [.int .i64 v1000.1, .str v1000.2.1, .str v1000.2.2.1, .int .i64 v1000.2.2.2.1, .int .i64 v1000.2.2.2.2])) (ev_iad_n rfl rfl e1000 rfl) ?_
  obtain ⟨v1001, e1001, hF⟩ := bind_get hF
  refine qc (AB v1001) [] false (con_spec_l28One e1001) c100_ok (by first | rfl | simp) rfl ?_
  refine qp (AB (!v1001)) rfl (qp (AB (!v1001)) rfl ?_)
  refine q_case 15 hF rfl (fun hF => ?_) (fun hF => ?_)
  ·
   refine qn rfl (qn rfl (qn rfl (qu rfl (qu rfl (qu rfl (qu rfl (qu rfl ?_)))))))
   refine qu rfl (qu rfl (qu rfl (qu rfl (qn rfl (qp (AB true) rfl ?_)))))
   refine r_nil ?_
   refine w_true rfl ?_
   refine ws 1537 1601 ?_
   refine qp (AB false) rfl ?_
   refine r_nil ?_
   refine w_ret ?_
   refine blockQ_r ?_
   refine thenQ_r ?_
   refine thenQ_r ?_
   refine blockQ_r ?_
   refine thenQ_r ?_
   cases hF
   exact eR
  ·
   refine qg (AI v12) rfl rfl (qg (AB (decide ((0 : Int) < v12))) rfl rfl (qg (AB (decide ((0 : Int) < v12))) rfl rfl ?_))
   refine q_case 18 hF rfl (fun hF => ?_) (fun hF => ?_)
   ·
    refine qg (AL 5 (v0.map eLesson)) rfl rfl (qg (AI v12) rfl rfl (qg (AI (w64 (v12 - 1))) rfl rfl ?_))
    obtain ⟨v1002, e1002, hF⟩ := bind_get hF
    refine qg (.val none (.ptr [.int .i64 v1002.1, .str v1002.2.1, .str v1002.2.2.1, .int .i64 v1002.2.2.2.1, .int .i64 v1002.2.2.2.2])) rfl (ev_iad_n rfl rfl e1002 rfl) (qg (AL 5 (v0.map eLesson)) rfl rfl (qg (AI v12) rfl rfl ?_))
    obtain ⟨v1003, e1003, hF⟩ := bind_get hF
    refine qg (.val none (.ptr [.int .i64 v1003.1, .str v1003.2.1, .str v1003.2.2.1, .int .i64 v1003.2.2.2.1, .int .i64 v1003.2.2.2.2])) rfl (ev_iad_n rfl rfl e1003 rfl) ?_
    obtain ⟨v1004, e1004, hF⟩ := bind_get hF
    refine qcg (AB v1004) [] false rfl (con_spec_l28Before e1004) c101_ok (by first | rfl | simp) rfl ?_
    refine qg (AB (!v1004)) rfl rfl (qg (AB (!v1004)) rfl rfl (qp (AB (!v1004)) rfl ?_))
    refine r_nil ?_
    refine cF hF (fun hF => ?_) fun hF => ?_
    ·
     refine ws 1537 1601 ?_
     refine qp (AB false) rfl ?_
     refine r_nil ?_
     refine w_ret ?_
     refine blockQ_r ?_
     refine thenQ_r ?_
     refine thenQ_r ?_
     refine blockQ_r ?_
     refine thenQ_r ?_
     cases hF
     exact eR
    ·
     refine w_skip ?_
     refine blockQ_n ?_
     refine thenQ_n ?_
     refine w_reg 1537 1729 rfl rfl ?_
     refine qp (AI v12) rfl (qp (AI (w64 (v12 + 1))) rfl (qp (AI (w64 (v12 + 1))) rfl ?_))
     refine r_nil ?_
     refine thenQ_n ?_
     refine ar (l' := [(0, AL 5 (v0.map eLesson)), (3, AI (w64 (v12 + 1)))]) (L := []) [0, 3] [] 1 ⟨_, by rfl, hF⟩
   ·
    refine qn rfl (qn rfl (qn rfl (qn rfl (qn rfl (qn rfl (qn rfl (qn rfl ?_)))))))
    refine qn rfl (qg (AB false) rfl rfl (qp (AB false) rfl ?_))
    refine r_nil ?_
    refine w_false rfl ?_
    refine w_skip ?_
    refine blockQ_n ?_
    refine thenQ_n ?_
    refine w_reg 1537 1729 rfl rfl ?_
    refine qp (AI v12) rfl (qp (AI (w64 (v12 + 1))) rfl (qp (AI (w64 (v12 + 1))) rfl ?_))
    refine r_nil ?_
    refine thenQ_n ?_
    refine ar (l' := [(0, AL 5 (v0.map eLesson)), (3, AI (w64 (v12 + 1)))]) (L := []) [0, 3] [] 1 ⟨_, by rfl, hF⟩
 ·
  refine w_exit ?_
  refine thenQ_e ?_
  refine thenQ_e ?_
  refine blockQ_e ?_
  refine thenQ_n ?_
  refine ws 257 897 ?_
  refine qp (AL 5 (v0.map eLesson)) rfl (qp (AI (v0.length : Int)) (ev_len_n rfl) (qp (AB (decide ((v0.length : Int) ≤ (64 : Int)))) rfl (qp (AB (decide ((v0.length : Int) ≤ (64 : Int)))) rfl ?_)))
  refine q_case 33 hF rfl (fun hF => ?_) (fun hF => ?_)
  ·
   refine qg (AL 5 (v0.map eLesson)) rfl rfl ?_
   obtain ⟨v1005, e1005, hF⟩ := bind_get hF
   refine qcg (.sl 577 0 v1005.length) [(577, .row true 1 (v1005.map V.str))] false rfl (con_spec_l28Pupils e1005) c133_ok (by first | rfl | simp) (by simp [res_spec_l28Pupils]) ?_
   refine qg (AI (v1005.length : Int)) rfl rfl (qg (AB (decide ((v1005.length : Int) ≤ (12 : Int)))) rfl rfl (qp (AB (decide ((v1005.length : Int) ≤ (12 : Int)))) rfl (qp (AB (decide ((v1005.length : Int) ≤ (12 : Int)))) rfl ?_)))
   refine r_nil ?_
   refine w_ret ?_
   cases hF
   exact eR
  ·
   refine qn rfl (qn rfl (qn rfl (qn rfl (qp (AB false) rfl (qp (AB false) rfl ?_)))))
   refine r_nil ?_
   refine w_ret ?_
   cases hF
   exact eR

def c55 : MC := (.seq (.reg [rg 3 (.f (.box (.t 1))), rg 4 (.f (.nilrow 5)), rg 5 (.p true (.mv (.c (.int .i64 0))))]) (.seq (.seq (.reg [rg 8 (.p true (.mv (.t 0))), rg 9 (.call true 99 [(.t 8)]), rg 10 (.p true (.not (.t 9)))]) (.cond (.t 10) (.seq (.reg [rg 4 (.f (.nilrow 5)), rg 5 (.p true (.mv (.c (.int .i64 1))))]) .ret) .skip)) (.seq (.seq (.reg [rg 11 (.call true 100 [(.t 3)]), rg 12 (.p true (.not (.t 11)))]) (.cond (.t 12) (.seq (.reg [rg 4 (.f (.nilrow 5)), rg 5 (.p true (.mv (.c (.int .i64 2))))]) .ret) .skip)) (.seq (.reg [rg 6 (.p true (.mv (.c (.int .i64 0))))]) (.seq (.block 0 (.loop (.seq (.seq (.reg [rg 13 (.p true (.mv (.t 6))), rg 14 (.p true (.mv (.t 0))), rg 15 (.p true (.len (.t 14))), rg 16 (.p true (.bin .lss (.t 13) (.t 15))), rg 17 (.p true (.mv (.t 16))), ⟨(some 18), (some (17, true)), (.p true (.mv (.t 0)))⟩, ⟨(some 19), (some (17, true)), (.p true (.mv (.t 6)))⟩, ⟨(some 20), (some (17, true)), (.p true (.iad (.t 18) (.t 19) 5))⟩, ⟨(some 21), (some (17, true)), (.call true 101 [(.t 20), (.t 3)])⟩, rg 22 (.p true (.pick (.t 17) (.t 21) (.c (.bool false))))]) (.cond (.t 22) .skip (.exit 0))) (.block 1 (.reg [rg 23 (.p true (.mv (.t 6))), rg 24 (.p true (.bin .add (.t 23) (.c (.int .i64 1)))), rg 6 (.p true (.mv (.t 24)))]))))) (.seq (.seq (.reg [rg 25 (.p true (.mv (.t 6))), rg 26 (.p true (.mv (.t 0))), rg 27 (.p true (.len (.t 26))), rg 28 (.p true (.bin .lss (.t 25) (.t 27))), rg 29 (.p true (.mv (.t 28))), ⟨(some 30), (some (29, true)), (.p true (.mv (.t 0)))⟩, ⟨(some 31), (some (29, true)), (.p true (.mv (.t 6)))⟩, ⟨(some 32), (some (29, true)), (.p true (.iad (.t 30) (.t 31) 5))⟩, ⟨(some 33), (some (29, true)), (.call true 101 [(.t 3), (.t 32)])⟩, ⟨(some 34), (some (29, true)), (.p true (.not (.t 33)))⟩, rg 35 (.p true (.pick (.t 29) (.t 34) (.c (.bool false))))]) (.cond (.t 35) (.seq (.reg [rg 4 (.f (.nilrow 5)), rg 5 (.p true (.mv (.c (.int .i64 4))))]) .ret) .skip)) (.seq (.reg [rg 36 (.f (.bsl 5 [])), rg 37 (.p true (.mv (.t 0))), rg 38 (.p true (.mv (.t 6))), rg 39 (.p true (.slc (.t 37) none (some (.t 38)) 5)), rg 40 (.f (.app (.t 36) (.t 39) 5 56 false)), rg 7 (.p true (.mv (.t 40)))]) (.seq (.reg [rg 41 (.p true (.mv (.t 7))), rg 42 (.p true (.ld (.t 3) 5 true)), rg 43 (.f (.bsl 5 [(.t 42)])), rg 44 (.f (.app (.t 41) (.t 43) 5 56 true)), rg 7 (.p true (.mv (.t 44)))]) (.seq (.reg [rg 45 (.p true (.mv (.t 7))), rg 46 (.p true (.mv (.t 0))), rg 47 (.p true (.mv (.t 6))), rg 48 (.p true (.slc (.t 46) (some (.t 47)) none 5)), rg 49 (.f (.app (.t 45) (.t 48) 5 56 false)), rg 7 (.p true (.mv (.t 49)))]) (.seq (.seq (.reg [rg 50 (.p true (.mv (.t 7))), rg 51 (.call true 99 [(.t 50)]), rg 52 (.p true (.not (.t 51)))]) (.cond (.t 52) (.seq (.reg [rg 4 (.f (.nilrow 5)), rg 5 (.p true (.mv (.c (.int .i64 5))))]) .ret) .skip)) (.seq (.reg [rg 53 (.p true (.mv (.t 7))), rg 4 (.p true (.mv (.t 53))), rg 5 (.p true (.mv (.c (.int .i64 0))))]) .ret)))))))))))
theorem c55_is : compFn Try.prog 55 = some (c55, [(.tmp 4), (.tmp 5)]) := by kernel_rfl
theorem c55_ok : okFn Try.prog 55 = true := by kernel_rfl

noncomputable def F_spec_AddLesson_j3 (v0 : List TLesson) (v1 : TLesson) (v1010 : Int) : Option ((List TLesson) × Int) :=
 (need (0 ≤ (0 : Int) ∧ (0 : Int) ≤ v1010 ∧ v1010 ≤ (v0.length : Int)) ((need (room ((sub v0 0 v1010).length) 56) ((need (room ((sub v0 0 v1010).length + [v1].length) 56) ((need (0 ≤ v1010 ∧ v1010 ≤ (v0.length : Int) ∧ (v0.length : Int) ≤ (v0.length : Int)) ((need (room (((sub v0 0 v1010) ++ [v1]).length + (sub v0 v1010 (v0.length : Int)).length) 56) (((F_spec_l28Ok (((sub v0 0 v1010) ++ [v1]) ++ (sub v0 v1010 (v0.length : Int)))).bind fun v1020 => (bif (!v1020) then some ([], 5)
 else some (((sub v0 0 v1010) ++ [v1]) ++ (sub v0 v1010 (v0.length : Int)), 0)))))))))))))
noncomputable def F_spec_AddLesson_j1 (v0 : List TLesson) (v1 : TLesson) (v1010 : Int) : Option ((List TLesson) × Int) :=
 (bif (decide (v1010 < (v0.length : Int))) then ((ix v0 v1010).bind fun v1013 => ((F_spec_l28Before v1 v1013).bind fun v1014 => (bif (!v1014) then some ([], 4)
 else F_spec_AddLesson_j3 v0 v1 v1010)))
 else F_spec_AddLesson_j3 v0 v1 v1010)
noncomputable def F_spec_AddLesson_l2 (v0 : List TLesson) (v1 : TLesson) (k1 : Int → Option ((List TLesson) × Int)) : Int → Option ((List TLesson) × Int)
 | v1007 => (bif (decide (v1007 < (v0.length : Int))) then ((ix v0 v1007).bind fun v1011 => ((F_spec_l28Before v1011 v1).bind fun v1012 => (bif v1012 then k1 (w64 (v1007 + 1))
 else F_spec_AddLesson_j1 v0 v1 v1007)))
 else F_spec_AddLesson_j1 v0 v1 v1007)
noncomputable def F_spec_AddLesson (v0 : List TLesson) (v1 : TLesson) : Option ((List TLesson) × Int) :=
 ((F_spec_l28Ok v0).bind fun v1000 => (bif (!v1000) then some ([], 1)
 else ((F_spec_l28One v1).bind fun v1001 => (bif (!v1001) then some ([], 2)
 else loop (F_spec_AddLesson_l2 v0 v1) 0))))
@[simp] def res_spec_AddLesson (r : (List TLesson) × Int) : RV := .tup [.one (.row true 5 (r.1.map eLesson)), .one (.val (.int .i64 r.2))]
theorem con_spec_AddLesson {v0 : List TLesson} {v1 : TLesson} {r : (List TLesson) × Int} (hF : F_spec_AddLesson v0 v1 = some r) : Con Try.prog 55 [.sl 5 (v0.map eLesson), eLesson v1] (res_spec_AddLesson r) := by
 unfold F_spec_AddLesson at hF
 refine con_of c55_is fun N => ?_
 refine ws 0 192 ?_
 refine qf (.ptr 0 0 0) [(0, .box [AI v1.1, AS v1.2.1, AS v1.2.2.1, AI v1.2.2.2.1, AI v1.2.2.2.2])] (by simp) ?_
 refine qf (.sl 64 0 0) [(64, .row true 5 (([] : List Int).map (V.int .i64))), (0, .box [AI v1.1, AS v1.2.1, AS v1.2.2.1, AI v1.2.2.2.1, AI v1.2.2.2.2])] (by simp) ?_
 refine qp (AI 0) rfl ?_
 refine r_nil ?_
 refine w_seq ?_
 refine ws 192 384 ?_
 refine qp (AL 5 (v0.map eLesson)) rfl ?_
 obtain ⟨v1000, e1000, hF⟩ := bind_get hF
 refine qc (AB v1000) [(64, .row true 5 (([] : List Int).map (V.int .i64))), (0, .box [AI v1.1, AS v1.2.1, AS v1.2.2.1, AI v1.2.2.2.1, AI v1.2.2.2.2])] false (con_spec_l28Ok e1000) c99_ok (by first | rfl | simp) rfl ?_
 refine qp (AB (!v1000)) rfl ?_
 refine r_nil ?_
 refine cF hF (fun hF => ?_) fun hF => ?_
 ·
  refine ws 384 512 ?_
  refine qf (.sl 384 0 0) [(384, .row true 5 (([] : List TLesson).map eLesson)), (64, .row true 5 (([] : List Int).map (V.int .i64))), (0, .box [AI v1.1, AS v1.2.1, AS v1.2.2.1, AI v1.2.2.2.1, AI v1.2.2.2.2])] (by simp) ?_
  refine qp (AI 1) rfl ?_
  refine r_nil ?_
  refine w_ret ?_
  refine thenQ_r ?_
  cases hF
  exact eR
 ·
  refine w_skip ?_
  refine thenQ_n ?_
  refine w_seq ?_
  refine ws 384 512 ?_
  obtain ⟨v1001, e1001, hF⟩ := bind_get hF
  refine qc (AB v1001) [(64, .row true 5 (([] : List Int).map (V.int .i64))), (0, .box [AI v1.1, AS v1.2.1, AS v1.2.2.1, AI v1.2.2.2.1, AI v1.2.2.2.2])] true (con_spec_l28One e1001) c100_ok (by simp [List.take_of_length_le]) rfl ?_
  refine qp (AB (!v1001)) rfl ?_
  refine r_nil ?_
  refine cF hF (fun hF => ?_) fun hF => ?_
  ·
   refine ws 512 640 ?_
   refine qf (.sl 512 0 0) [(512, .row true 5 (([] : List TLesson).map eLesson)), (64, .row true 5 (([] : List Int).map (V.int .i64))), (0, .box [AI v1.1, AS v1.2.1, AS v1.2.2.1, AI v1.2.2.2.1, AI v1.2.2.2.2])] (by simp) ?_
   refine qp (AI 2) rfl ?_
   refine r_nil ?_
   refine w_ret ?_
   refine thenQ_r ?_
   cases hF
   exact eR
  ·
   refine w_skip ?_
   refine thenQ_n ?_
   refine ws 512 576 ?_
   refine qp (AI 0) rfl ?_
   refine r_nil ?_
   refine w_meet (fun s' => ∃ (v1010 : Int), s' = mkS [(0, AL 5 (v0.map eLesson)), (3, .ptr 0 0 0), (6, AI v1010)] (fo [(0, .box [AI v1.1, AS v1.2.1, AS v1.2.2.1, AI v1.2.2.2.1, AI v1.2.2.2.2])]) 1 ∧ F_spec_AddLesson_j1 v0 v1 v1010 = some r) ?_ ?_
   ·
    refine w_block ?_
    refine wr (l' := [(0, AL 5 (v0.map eLesson)), (3, .ptr 0 0 0), (6, AI 0)]) (L := [(0, .box [AI v1.1, AS v1.2.1, AS v1.2.2.1, AI v1.2.2.2.1, AI v1.2.2.2.2])]) [0, 3, 6] [(0, 0)] 1 ?_
    refine w_loopF (F_spec_AddLesson_l2 v0 v1) (fun s : Int => mkS [(0, AL 5 (v0.map eLesson)), (3, .ptr 0 0 0), (6, AI s)] (fo [(0, .box [AI v1.1, AS v1.2.1, AS v1.2.2.1, AI v1.2.2.2.1, AI v1.2.2.2.2])]) 1) hF ?_
    rintro k1 v1007 hF
    rw [F_spec_AddLesson_l2] at hF
    try dsimp only
    refine w_seq ?_
    refine ws 1 641 ?_
    refine qp (AI v1007) rfl (qp (AL 5 (v0.map eLesson)) rfl (qp (AI (v0.length : Int)) (ev_len_n rfl) (qp (AB (decide (v1007 < (v0.length : Int)))) rfl (qp (AB (decide (v1007 < (v0.length : Int)))) rfl ?_))))
    refine q_case 17 hF rfl (fun hF => ?_) (fun hF => ?_)
    ·
     refine qg (AL 5 (v0.map eLesson)) rfl rfl (qg (AI v1007) rfl rfl ?_)
     obtain ⟨v1011, e1011, hF⟩ := bind_get hF
     refine qg (.val none (.ptr [.int .i64 v1011.1, .str v1011.2.1, .str v1011.2.2.1, .int .i64 v1011.2.2.2.1, .int .i64 v1011.2.2.2.2])) rfl (ev_iad_n rfl rfl e1011 rfl) ?_
     obtain ⟨v1012, e1012, hF⟩ := bind_get hF
     refine qcg (AB v1012) [(0, .box [AI v1.1, AS v1.2.1, AS v1.2.2.1, AI v1.2.2.2.1, AI v1.2.2.2.2])] true rfl (con_spec_l28Before e1012) c101_ok (by simp [List.take_of_length_le]) rfl ?_
     refine qp (AB v1012) rfl ?_
     refine r_nil ?_
     refine cF hF (fun hF => ?_) fun hF => ?_
     ·
      refine w_skip ?_
      refine thenQ_n ?_
      refine w_block ?_
      refine w_reg 641 833 rfl rfl ?_
      refine qp (AI v1007) rfl (qp (AI (w64 (v1007 + 1))) rfl (qp (AI (w64 (v1007 + 1))) rfl ?_))
      refine r_nil ?_
      refine blockQ_n ?_
      refine thenQ_n ?_
      refine ar (l' := [(0, AL 5 (v0.map eLesson)), (3, .ptr 0 0 0), (6, AI (w64 (v1007 + 1)))]) (L := [(0, .box [AI v1.1, AS v1.2.1, AS v1.2.2.1, AI v1.2.2.2.1, AI v1.2.2.2.2])]) [0, 3, 6] [(0, 0)] 1 ⟨_, by rfl, hF⟩
     ·
      refine w_exit ?_
      refine thenQ_e ?_
      refine thenQ_e ?_
      refine blockQ_e ?_
      refine thenQ_n ?_
      refine aw_ren (l' := [(0, AL 5 (v0.map eLesson)), (3, .ptr 0 0 0), (6, AI v1007)]) (L := [(0, .box [AI v1.1, AS v1.2.1, AS v1.2.2.1, AI v1.2.2.2.1, AI v1.2.2.2.2])]) [0, 3, 6] [(0, 0)] 1 (by first | rfl | simp) (by first | rfl | simp) (by decide) (by decide) (by decide) ⟨_, rfl, hF⟩
    ·
     refine qn rfl (qn rfl (qn rfl (qn rfl (qp (AB false) rfl ?_))))
     refine r_nil ?_
     refine w_false rfl ?_
     refine w_exit ?_
     refine thenQ_e ?_
     refine thenQ_e ?_
     refine blockQ_e ?_
     refine thenQ_n ?_
     refine aw_ren (l' := [(0, AL 5 (v0.map eLesson)), (3, .ptr 0 0 0), (6, AI v1007)]) (L := [(0, .box [AI v1.1, AS v1.2.1, AS v1.2.2.1, AI v1.2.2.2.1, AI v1.2.2.2.2])]) [0, 3, 6] [(0, 0)] 1 (by first | rfl | simp) (by first | rfl | simp) (by decide) (by decide) (by decide) ⟨_, rfl, hF⟩
   ·
    rintro s' ⟨v1010, rfl, hF⟩
    unfold F_spec_AddLesson_j1 at hF
    refine w_meet (fun s' => s' = mkS [(0, AL 5 (v0.map eLesson)), (3, .ptr 0 0 0), (6, AI v1010)] (fo [(0, .box [AI v1.1, AS v1.2.1, AS v1.2.2.1, AI v1.2.2.2.1, AI v1.2.2.2.2])]) 1 ∧ F_spec_AddLesson_j3 v0 v1 v1010 = some r) ?_ ?_
    ·
     refine ws 1 705 ?_
     refine qp (AI v1010) rfl (qp (AL 5 (v0.map eLesson)) rfl (qp (AI (v0.length : Int)) (ev_len_n rfl) (qp (AB (decide (v1010 < (v0.length : Int)))) rfl (qp (AB (decide (v1010 < (v0.length : Int)))) rfl ?_))))
     refine q_case 29 hF rfl (fun hF => ?_) (fun hF => ?_)
     ·
      refine qg (AL 5 (v0.map eLesson)) rfl rfl (qg (AI v1010) rfl rfl ?_)
      obtain ⟨v1013, e1013, hF⟩ := bind_get hF
      refine qg (.val none (.ptr [.int .i64 v1013.1, .str v1013.2.1, .str v1013.2.2.1, .int .i64 v1013.2.2.2.1, .int .i64 v1013.2.2.2.2])) rfl (ev_iad_n rfl rfl e1013 rfl) ?_
      obtain ⟨v1014, e1014, hF⟩ := bind_get hF
      refine qcg (AB v1014) [(0, .box [AI v1.1, AS v1.2.1, AS v1.2.2.1, AI v1.2.2.2.1, AI v1.2.2.2.2])] true rfl (con_spec_l28Before e1014) c101_ok (by simp [List.take_of_length_le]) rfl ?_
      refine qg (AB (!v1014)) rfl rfl (qp (AB (!v1014)) rfl ?_)
      refine r_nil ?_
      refine cF hF (fun hF => ?_) fun hF => ?_
      ·
       refine ws 705 833 ?_
       refine qf (.sl 705 0 0) [(705, .row true 5 (([] : List TLesson).map eLesson)), (0, .box [AI v1.1, AS v1.2.1, AS v1.2.2.1, AI v1.2.2.2.1, AI v1.2.2.2.2])] (by simp) ?_
       refine qp (AI 4) rfl ?_
       refine r_nil ?_
       refine w_ret ?_
       refine thenQ_r ?_
       cases hF
       exact eR
      ·
       refine w_skip ?_
       refine thenQ_n ?_
       refine aw_ren (l' := [(0, AL 5 (v0.map eLesson)), (3, .ptr 0 0 0), (6, AI v1010)]) (L := [(0, .box [AI v1.1, AS v1.2.1, AS v1.2.2.1, AI v1.2.2.2.1, AI v1.2.2.2.2])]) [0, 3, 6] [(0, 0)] 1 (by first | rfl | simp) (by first | rfl | simp) (by decide) (by decide) (by decide) ⟨rfl, hF⟩
     ·
      refine qn rfl (qn rfl (qn rfl (qn rfl (qn rfl (qp (AB false) rfl ?_)))))
      refine r_nil ?_
      refine w_false rfl ?_
      refine w_skip ?_
      refine thenQ_n ?_
      refine aw_ren (l' := [(0, AL 5 (v0.map eLesson)), (3, .ptr 0 0 0), (6, AI v1010)]) (L := [(0, .box [AI v1.1, AS v1.2.1, AS v1.2.2.1, AI v1.2.2.2.1, AI v1.2.2.2.2])]) [0, 3, 6] [(0, 0)] 1 (by first | rfl | simp) (by first | rfl | simp) (by decide) (by decide) (by decide) ⟨rfl, hF⟩
    ·
     rintro s' ⟨rfl, hF⟩
     unfold F_spec_AddLesson_j3 at hF
     refine ws 1 385 ?_
     refine qf (.sl 1 0 0) [(1, .row true 5 (([] : List TLesson).map eLesson)), (0, .box [AI v1.1, AS v1.2.1, AS v1.2.2.1, AI v1.2.2.2.1, AI v1.2.2.2.2])] (by simp [List.take_of_length_le]) ?_
     refine qp (AL 5 (v0.map eLesson)) rfl (qp (AI v1010) rfl ?_)
     obtain ⟨g1015, hF⟩ := need_some hF
     refine qp (AL 5 ((sub v0 0 v1010).map eLesson)) (ev_slc_n rfl rfl (bnd_some rfl (Int.le_trans g1015.1 g1015.2.1)) g1015) ?_
     obtain ⟨g1016, hF⟩ := need_some hF
     refine qf (.sl 257 0 ((sub v0 0 v1010).length)) [(257, .row true 5 ((sub v0 0 v1010).map eLesson)), (1, .dead), (1, .row true 5 (([] : List TLesson).map eLesson)), (0, .box [AI v1.1, AS v1.2.1, AS v1.2.2.1, AI v1.2.2.2.1, AI v1.2.2.2.2])] (effT_app_v0 rfl (by simp) rfl rfl (fun _ => rfl) g1016) ?_
     refine qp (.sl 257 0 ((sub v0 0 v1010).length)) rfl ?_
     refine r_nil ?_
     refine ws 385 705 ?_
     refine qp (.sl 257 0 ((sub v0 0 v1010).length)) rfl (qp (.agg [AI v1.1, AS v1.2.1, AS v1.2.2.1, AI v1.2.2.2.1, AI v1.2.2.2.2]) rfl ?_)
     refine qf (.sl 513 0 ([v1].length)) [(513, .row true 5 ([v1].map eLesson)), (257, .row true 5 ((sub v0 0 v1010).map eLesson)), (1, .dead), (1, .row true 5 (([] : List TLesson).map eLesson)), (0, .box [AI v1.1, AS v1.2.1, AS v1.2.2.1, AI v1.2.2.2.1, AI v1.2.2.2.2])] (by simp [List.take_of_length_le]) ?_
     obtain ⟨g1017, hF⟩ := need_some hF
     refine qf (.sl 577 0 (((sub v0 0 v1010) ++ [v1]).length)) [(577, .row true 5 (((sub v0 0 v1010) ++ [v1]).map eLesson)), (257, .dead), (513, .dead), (513, .row true 5 ([v1].map eLesson)), (257, .row true 5 ((sub v0 0 v1010).map eLesson)), (1, .dead), (1, .row true 5 (([] : List TLesson).map eLesson)), (0, .box [AI v1.1, AS v1.2.1, AS v1.2.2.1, AI v1.2.2.2.1, AI v1.2.2.2.2])] (effT_app_l rfl (by simp) rfl rfl (by simp) rfl (by decide) g1017 rfl) ?_
     refine qp (.sl 577 0 (((sub v0 0 v1010) ++ [v1]).length)) rfl ?_
     refine r_nil ?_
     refine ws 705 1089 ?_
     refine qp (.sl 577 0 (((sub v0 0 v1010) ++ [v1]).length)) rfl (qp (AL 5 (v0.map eLesson)) rfl (qp (AI v1010) rfl ?_))
     obtain ⟨g1018, hF⟩ := need_some hF
     refine qp (AL 5 ((sub v0 v1010 (v0.length : Int)).map eLesson)) (ev_slc_n rfl (bnd_some rfl g1018.1) rfl g1018) ?_
     obtain ⟨g1019, hF⟩ := need_some hF
     refine qf (.sl 961 0 ((((sub v0 0 v1010) ++ [v1]) ++ (sub v0 v1010 (v0.length : Int))).length)) [(961, .row true 5 ((((sub v0 0 v1010) ++ [v1]) ++ (sub v0 v1010 (v0.length : Int))).map eLesson)), (577, .dead), (577, .row true 5 (((sub v0 0 v1010) ++ [v1]).map eLesson)), (257, .dead), (513, .dead), (513, .row true 5 ([v1].map eLesson)), (257, .row true 5 ((sub v0 0 v1010).map eLesson)), (1, .dead), (1, .row true 5 (([] : List TLesson).map eLesson)), (0, .box [AI v1.1, AS v1.2.1, AS v1.2.2.1, AI v1.2.2.2.1, AI v1.2.2.2.2])] (effT_app_v rfl (by simp) rfl rfl (fun _ => rfl) g1019) ?_
     refine qp (.sl 961 0 ((((sub v0 0 v1010) ++ [v1]) ++ (sub v0 v1010 (v0.length : Int))).length)) rfl ?_
     refine r_nil ?_
     refine w_seq ?_
     refine ws 1089 1281 ?_
     refine qp (.sl 961 0 ((((sub v0 0 v1010) ++ [v1]) ++ (sub v0 v1010 (v0.length : Int))).length)) rfl ?_
     obtain ⟨v1020, e1020, hF⟩ := bind_get hF
     refine qc (AB v1020) [(961, .row true 5 ((((sub v0 0 v1010) ++ [v1]) ++ (sub v0 v1010 (v0.length : Int))).map eLesson)), (577, .dead), (577, .row true 5 (((sub v0 0 v1010) ++ [v1]).map eLesson)), (257, .dead), (513, .dead), (513, .row true 5 ([v1].map eLesson)), (257, .row true 5 ((sub v0 0 v1010).map eLesson)), (1, .dead), (1, .row true 5 (([] : List TLesson).map eLesson)), (0, .box [AI v1.1, AS v1.2.1, AS v1.2.2.1, AI v1.2.2.2.1, AI v1.2.2.2.2])] true (con_spec_l28Ok e1020) c99_ok (by simp [List.take_of_length_le]) rfl ?_
     refine qp (AB (!v1020)) rfl ?_
     refine r_nil ?_
     refine cF hF (fun hF => ?_) fun hF => ?_
     ·
      refine ws 1281 1409 ?_
      refine qf (.sl 1281 0 0) [(1281, .row true 5 (([] : List TLesson).map eLesson)), (961, .row true 5 ((((sub v0 0 v1010) ++ [v1]) ++ (sub v0 v1010 (v0.length : Int))).map eLesson)), (577, .dead), (577, .row true 5 (((sub v0 0 v1010) ++ [v1]).map eLesson)), (257, .dead), (513, .dead), (513, .row true 5 ([v1].map eLesson)), (257, .row true 5 ((sub v0 0 v1010).map eLesson)), (1, .dead), (1, .row true 5 (([] : List TLesson).map eLesson)), (0, .box [AI v1.1, AS v1.2.1, AS v1.2.2.1, AI v1.2.2.2.1, AI v1.2.2.2.2])] (by simp) ?_
      refine qp (AI 5) rfl ?_
      refine r_nil ?_
      refine w_ret ?_
      refine thenQ_r ?_
      cases hF
      exact eR
     ·
      refine w_skip ?_
      refine thenQ_n ?_
      refine ws 1281 1473 ?_
      refine qp (.sl 961 0 ((((sub v0 0 v1010) ++ [v1]) ++ (sub v0 v1010 (v0.length : Int))).length)) rfl (qp (.sl 961 0 ((((sub v0 0 v1010) ++ [v1]) ++ (sub v0 v1010 (v0.length : Int))).length)) rfl (qp (AI 0) rfl ?_))
      refine r_nil ?_
      refine w_ret ?_
      cases hF
      exact eR

theorem c131_ok : okFn Try.prog 131 = true := by kernel_rfl




theorem c136_ok : okFn Try.prog 136 = true := by kernel_rfl




def c108 : MC := (.seq (.reg [rg 2 (.f (.nilrow 1))]) (.seq (.reg [rg 3 (.f (.nilrow 1))]) (.seq (.seq (.reg [rg 6 (.p true (.mv (.t 0))), rg 7 (.p true (.len (.t 6))), rg 8 (.p true (.mv (.c (.int .i64 0))))]) (.block 0 (.loop (.seq (.reg [rg 9 (.p true (.bin .lss (.t 8) (.t 7)))]) (.seq (.cond (.t 9) .skip (.exit 0)) (.seq (.block 1 (.seq (.reg [rg 10 (.p true (.iad (.t 6) (.t 8) 5)), rg 11 (.p true (.ld (.t 10) 5 true)), rg 5 (.f (.alloc [((.int .i64 0), (0, false)), ((.str []), (0, false)), ((.str []), (0, false)), ((.int .i64 0), (0, false)), ((.int .i64 0), (0, false))])), ⟨none, none, (.f (.st (.t 5) (.t 11) 5))⟩]) (.reg [rg 12 (.p true (.mv (.t 3))), rg 13 (.p true (.fad (.t 5) 1)), rg 14 (.p true (.ld (.t 13) 1 false)), rg 15 (.f (.bsl 1 [(.t 14)])), rg 16 (.f (.app (.t 12) (.t 15) 1 16 true)), rg 3 (.p true (.mv (.t 16)))]))) (.reg [rg 17 (.p true (.bin .add (.t 8) (.c (.int .i64 1)))), rg 8 (.p true (.mv (.t 17)))]))))))) (.seq (.reg [rg 18 (.p true (.mv (.t 3))), rg 19 (.call true 131 [(.t 18)])]) (.seq (.reg [rg 20 (.p true (.mv (.t 3))), rg 21 (.call true 136 [(.t 20)]), rg 2 (.p true (.mv (.t 21)))]) .ret)))))
theorem c108_is : compFn Try.prog 108 = some (c108, [(.tmp 2)]) := by kernel_rfl
theorem c108_ok : okFn Try.prog 108 = true := by kernel_rfl

noncomputable def F_impl_pupilsOf_l0 (v0 : List TLesson) (k0 : Int × (List (List UInt8)) → Option (List (List UInt8))) : Int × (List (List UInt8)) → Option (List (List UInt8))
 | (v7, v8) => (bif (decide (v7 < (v0.length : Int))) then ((ix v0 v7).bind fun v1000 => (need (room (v8.length + [v1000.2.1].length) 16) (k0 (w64 (v7 + 1), v8 ++ [v1000.2.1]))))
 else ((F_sortS v8).bind fun v1002 => need (v1002.length = v8.length) (((F_compactS v1002).bind fun v1003 => some v1003))))
noncomputable def F_impl_pupilsOf (v0 : List TLesson) : Option (List (List UInt8)) :=
 loop (F_impl_pupilsOf_l0 v0) (0, [])
@[simp] def res_impl_pupilsOf (r : List (List UInt8)) : RV := .one (.one (.row true 1 (r.map V.str)))
theorem con_impl_pupilsOf {v0 : List TLesson} {r : List (List UInt8)} (hF : F_impl_pupilsOf v0 = some r) : Con Try.prog 108 [.sl 5 (v0.map eLesson)] (res_impl_pupilsOf r) := by
 unfold F_impl_pupilsOf at hF
 refine con_of c108_is fun N => ?_
 refine ws 0 64 ?_
 refine qf (.sl 0 0 0) [(0, .row true 1 (([] : List Int).map (V.int .i64)))] (by simp) ?_
 refine r_nil ?_
 refine ws 64 128 ?_
 refine qf (.sl 64 0 0) [(64, .row true 1 (([] : List (List UInt8)).map V.str)), (0, .row true 1 (([] : List Int).map (V.int .i64)))] (by simp) ?_
 refine r_nil ?_
 refine w_seq ?_
 refine ws 128 320 ?_
 refine qp (AL 5 (v0.map eLesson)) rfl (qp (AI (v0.length : Int)) (ev_len_n rfl) (qp (AI 0) rfl ?_))
 refine r_nil ?_
 refine w_block ?_
 refine wr (l' := [(3, .sl 0 0 0), (6, AL 5 (v0.map eLesson)), (7, AI (v0.length : Int)), (8, AI 0)]) (L := [(0, .row true 1 (([] : List (List UInt8)).map V.str))]) [3, 6, 7, 8] [(64, 0)] 1 ?_
 refine w_loopF (F_impl_pupilsOf_l0 v0) (fun s : Int × (List (List UInt8)) => mkS [(3, .sl 0 0 s.2.length), (6, AL 5 (v0.map eLesson)), (7, AI (v0.length : Int)), (8, AI s.1)] (fo [(0, .row true 1 (s.2.map V.str))]) 1) hF ?_
 rintro k0 ⟨v7, v8⟩ hF
 rw [F_impl_pupilsOf_l0] at hF
 try dsimp only
 refine ws 1 65 ?_
 refine qp (AB (decide (v7 < (v0.length : Int)))) rfl ?_
 refine r_nil ?_
 refine w_seq ?_
 refine cF hF (fun hF => ?_) fun hF => ?_
 ·
  refine w_skip ?_
  refine thenQ_n ?_
  refine w_seq ?_
  refine w_block ?_
  refine ws 65 321 ?_
  obtain ⟨v1000, e1000, hF⟩ := bind_get hF
  refine qp (.val none (.ptr [.int .i64 v1000.1, .str v1000.2.1, .str v1000.2.2.1, .int .i64 v1000.2.2.2.1, .int .i64 v1000.2.2.2.2])) (ev_iad_n rfl rfl e1000 rfl) (qp (.val none (eLesson v1000)) rfl ?_)
  refine qf (.ptr 193 0 0) [(193, .box [AI 0, AS [], AS [], AI 0, AI 0]), (0, .row true 1 (v8.map V.str))] (by simp) ?_
  refine qf0 (.undef) [(193, .box [AI v1000.1, AS v1000.2.1, AS v1000.2.2.1, AI v1000.2.2.2.1, AI v1000.2.2.2.2]), (193, .box [AI 0, AS [], AS [], AI 0, AI 0]), (0, .row true 1 (v8.map V.str))] (by simp) ?_
  refine r_nil ?_
  refine w_reg 321 705 rfl rfl ?_
  refine qp (.sl 0 0 v8.length) rfl (qp (.ptr 193 0 1) rfl (qp (AS v1000.2.1) rfl ?_))
  refine qf (.sl 513 0 ([v1000.2.1].length)) [(513, .row true 1 ([v1000.2.1].map V.str)), (193, .box [AI v1000.1, AS v1000.2.1, AS v1000.2.2.1, AI v1000.2.2.2.1, AI v1000.2.2.2.2]), (193, .box [AI 0, AS [], AS [], AI 0, AI 0]), (0, .row true 1 (v8.map V.str))] (by simp [List.take_of_length_le]) ?_
  obtain ⟨g1001, hF⟩ := need_some hF
  refine qf (.sl 577 0 ((v8 ++ [v1000.2.1]).length)) [(577, .row true 1 ((v8 ++ [v1000.2.1]).map V.str)), (0, .dead), (513, .dead), (513, .row true 1 ([v1000.2.1].map V.str)), (193, .box [AI v1000.1, AS v1000.2.1, AS v1000.2.2.1, AI v1000.2.2.2.1, AI v1000.2.2.2.2]), (193, .box [AI 0, AS [], AS [], AI 0, AI 0]), (0, .row true 1 (v8.map V.str))] (effT_app_l rfl (by simp) rfl rfl (by simp) rfl (by decide) g1001 rfl) ?_
  refine qp (.sl 577 0 ((v8 ++ [v1000.2.1]).length)) rfl ?_
  refine r_nil ?_
  refine blockQ_n ?_
  refine thenQ_n ?_
  refine w_reg 705 833 rfl rfl ?_
  refine qp (AI (w64 (v7 + 1))) rfl (qp (AI (w64 (v7 + 1))) rfl ?_)
  refine r_nil ?_
  refine thenQ_n ?_
  refine ar (l' := [(3, .sl 0 0 (v8 ++ [v1000.2.1]).length), (6, AL 5 (v0.map eLesson)), (7, AI (v0.length : Int)), (8, AI (w64 (v7 + 1)))]) (L := [(0, .row true 1 ((v8 ++ [v1000.2.1]).map V.str))]) [3, 6, 7, 8] [(577, 0)] 1 ⟨_, by rfl, hF⟩
 ·
  refine w_exit ?_
  refine thenQ_e ?_
  refine thenQ_e ?_
  refine blockQ_e ?_
  refine thenQ_n ?_
  refine ws 65 193 ?_
  refine qp (.sl 0 0 v8.length) rfl ?_
  obtain ⟨v1002, e1002, hF⟩ := bind_get hF
  obtain ⟨g1002, hF⟩ := need_some hF
  refine qm1 (ls := [0]) [(0, .row true 1 (v1002.map V.str)), (0, .row true 1 (v8.map V.str))] (con_sortS_131 e1002) c131_ok (by first | rfl | simp [takeM, takeML, takeM1, g1002]) (by decide) (by simp [like2, likeL, like1, g1002]) rfl rfl (by simp [scrO_fo, newO2, newO, scrR, scrA, scrAs]) ?_
  refine r_nil ?_
  refine ws 193 385 ?_
  refine qp (.sl 0 0 v8.length) rfl ?_
  obtain ⟨v1003, e1003, hF⟩ := bind_get hF
  refine qX (.sl 257 0 v1003.length) [(257, .row true 1 (v1003.map V.str)), (0, .dead), (0, .row true 1 (v1002.map V.str)), (0, .row true 1 (v8.map V.str))] false rfl rfl (whole_row (by simp [g1002])) (con_compactS_136 e1003) c136_ok (by first | rfl | simp) (by simp [RV.r]) ?_
  refine qp (.sl 257 0 v1003.length) rfl ?_
  refine r_nil ?_
  refine w_ret ?_
  cases hF
  exact endQ_r rfl (.inl ⟨_, _, by first | rfl | (simp [List.take_of_length_le]; first | exact ⟨rfl, rfl⟩ | rfl), by simp, by first | rfl | simp [res_impl_pupilsOf, List.take_of_length_le, g1002]⟩)

def c124 : MC := (.seq (.reg [rg 6 (.p true (.mv (.c (.bool false))))]) (.seq (.reg [rg 7 (.p true (.mv (.t 0))), rg 8 (.p true (.mv (.t 1))), rg 9 (.p true (.bin .geq (.t 7) (.t 8))), rg 10 (.p true (.mv (.t 9))), ⟨(some 11), (some (10, true)), (.p true (.mv (.t 0)))⟩, ⟨(some 12), (some (10, true)), (.p true (.mv (.t 2)))⟩, ⟨(some 13), (some (10, true)), (.p true (.bin .leq (.t 11) (.t 12)))⟩, rg 14 (.p true (.pick (.t 10) (.t 13) (.c (.bool false)))), rg 6 (.p true (.mv (.t 14)))]) .ret))
theorem c124_is : compFn Try.prog 124 = some (c124, [(.tmp 6)]) := by kernel_rfl
theorem c124_ok : okFn Try.prog 124 = true := by kernel_rfl

noncomputable def F_impl_within (v0 : Int) (v1 : Int) (v2 : Int) : Option (Bool) :=
 (bif (decide (v1 ≤ v0)) then some (decide (v0 ≤ v2))
 else some false)
@[simp] def res_impl_within (r : Bool) : RV := .one (.one (.val (.bool r)))
theorem con_impl_within {v0 : Int} {v1 : Int} {v2 : Int} {r : Bool} (hF : F_impl_within v0 v1 v2 = some r) : Con Try.prog 124 [.int .i64 v0, .int .i64 v1, .int .i64 v2] (res_impl_within r) := by
 unfold F_impl_within at hF
 refine con_of c124_is fun N => ?_
 refine ws 0 64 ?_
 refine qp (AB false) rfl ?_
 refine r_nil ?_
 refine ws 64 640 ?_
 refine qp (AI v0) rfl (qp (AI v1) rfl (qp (AB (decide (v1 ≤ v0))) rfl (qp (AB (decide (v1 ≤ v0))) rfl ?_)))
 refine q_case 10 hF rfl (fun hF => ?_) (fun hF => ?_)
 ·
  refine qg (AI v0) rfl rfl (qg (AI v2) rfl rfl (qg (AB (decide (v0 ≤ v2))) rfl rfl (qp (AB (decide (v0 ≤ v2))) rfl (qp (AB (decide (v0 ≤ v2))) rfl ?_))))
  refine r_nil ?_
  refine w_ret ?_
  cases hF
  exact eR
 ·
  refine qn rfl (qn rfl (qn rfl (qp (AB false) rfl (qp (AB false) rfl ?_))))
  refine r_nil ?_
  refine w_ret ?_
  cases hF
  exact eR

def c141 : MC := (.seq (.reg [rg 2 (.p true (.mv (.c (.bool false))))]) (.seq (.seq (.reg [rg 5 (.p true (.mv (.t 0))), rg 6 (.p true (.lens (.t 5))), rg 7 (.p true (.mv (.c (.int .i64 0))))]) (.block 0 (.loop (.seq (.reg [rg 8 (.p true (.bin .lss (.t 7) (.t 6)))]) (.seq (.cond (.t 8) .skip (.exit 0)) (.seq (.block 1 (.seq (.reg [rg 9 (.p true (.mv (.t 7))), rg 3 (.p true (.mv (.t 9)))]) (.seq (.reg [rg 10 (.p true (.mv (.t 0))), rg 11 (.p true (.mv (.t 3))), rg 12 (.p true (.ixs (.t 10) (.t 11))), rg 4 (.p true (.mv (.t 12)))]) (.seq (.reg [rg 13 (.p true (.mv (.t 4))), rg 14 (.p true (.bin .lss (.t 13) (.c (.int .u8 97)))), rg 15 (.p true (.mv (.t 14))), ⟨(some 16), (some (15, false)), (.p true (.mv (.t 4)))⟩, ⟨(some 17), (some (15, false)), (.p true (.bin .gtr (.t 16) (.c (.int .u8 122))))⟩, rg 18 (.p true (.pick (.t 15) (.c (.bool true)) (.t 17))), rg 19 (.p true (.mv (.t 18))), ⟨(some 20), (some (19, true)), (.p true (.mv (.t 4)))⟩, ⟨(some 21), (some (19, true)), (.p true (.bin .lss (.t 20) (.c (.int .u8 48))))⟩, ⟨(some 22), (some (19, true)), (.p true (.mv (.t 21)))⟩, ⟨(some 23), (some (22, false)), (.p true (.mv (.t 4)))⟩, ⟨(some 24), (some (22, false)), (.p true (.bin .gtr (.t 23) (.c (.int .u8 57))))⟩, ⟨(some 25), (some (19, true)), (.p true (.pick (.t 22) (.c (.bool true)) (.t 24)))⟩, rg 26 (.p true (.pick (.t 19) (.t 25) (.c (.bool false))))]) (.cond (.t 26) (.seq (.reg [rg 2 (.p true (.mv (.c (.bool false))))]) .ret) .skip))))) (.reg [rg 27 (.p true (.bin .add (.t 7) (.c (.int .i64 1)))), rg 7 (.p true (.mv (.t 27)))]))))))) (.seq (.reg [rg 2 (.p true (.mv (.c (.bool true))))]) .ret)))
theorem c141_is : compFn Try.prog 141 = some (c141, [(.tmp 2)]) := by kernel_rfl
theorem c141_ok : okFn Try.prog 141 = true := by kernel_rfl

noncomputable def F_impl_onlyNameBytes_l0 (v0 : List UInt8) (k0 : Int → Option (Bool)) : Int → Option (Bool)
 | v4 => (bif (decide (v4 < (v0.length : Int))) then ((ix v0 v4).bind fun v1000 => (bif (decide ((v1000.toNat : Int) < (97 : Int))) then (bif (decide ((v1000.toNat : Int) < (48 : Int))) then some false
 else (bif (decide ((57 : Int) < (v1000.toNat : Int))) then some false
 else k0 (w64 (v4 + 1))))
 else (bif (decide ((122 : Int) < (v1000.toNat : Int))) then (bif (decide ((v1000.toNat : Int) < (48 : Int))) then some false
 else (bif (decide ((57 : Int) < (v1000.toNat : Int))) then some false
 else k0 (w64 (v4 + 1))))
 else k0 (w64 (v4 + 1)))))
 else some true)
noncomputable def F_impl_onlyNameBytes (v0 : List UInt8) : Option (Bool) :=
 loop (F_impl_onlyNameBytes_l0 v0) 0
@[simp] def res_impl_onlyNameBytes (r : Bool) : RV := .one (.one (.val (.bool r)))
theorem con_impl_onlyNameBytes {v0 : List UInt8} {r : Bool} (hF : F_impl_onlyNameBytes v0 = some r) : Con Try.prog 141 [.str v0] (res_impl_onlyNameBytes r) := by
 unfold F_impl_onlyNameBytes at hF
 refine con_of c141_is fun N => ?_
 refine ws 0 64 ?_
 refine qp (AB false) rfl ?_
 refine r_nil ?_
 refine w_seq ?_
 refine ws 64 256 ?_
 refine qp (AS v0) rfl (qp (AI (v0.length : Int)) rfl (qp (AI 0) rfl ?_))
 refine r_nil ?_
 refine w_block ?_
 refine wr (l' := [(0, AS v0), (6, AI (v0.length : Int)), (7, AI 0)]) (L := []) [0, 6, 7] [] 1 ?_
 refine w_loopF (F_impl_onlyNameBytes_l0 v0) (fun s : Int => mkS [(0, AS v0), (6, AI (v0.length : Int)), (7, AI s)] (fo []) 1) hF ?_
 rintro k0 v4 hF
 rw [F_impl_onlyNameBytes_l0] at hF
 try dsimp only
 refine ws 1 65 ?_
 refine qp (AB (decide (v4 < (v0.length : Int)))) rfl ?_
 refine r_nil ?_
 refine w_seq ?_
 refine cF hF (fun hF => ?_) fun hF => ?_
 ·
  refine w_skip ?_
  refine thenQ_n ?_
  refine w_seq ?_
  refine w_block ?_
  refine ws 65 193 ?_
  refine qp (AI v4) rfl (qp (AI v4) rfl ?_)
  refine r_nil ?_
  refine ws 193 449 ?_
  refine qp (AS v0) rfl (qp (AI v4) rfl ?_)
  obtain ⟨v1000, e1000, hF⟩ := bind_get hF
  refine qp (.val none (.int .u8 (v1000.toNat : Int))) (ev_ixs rfl rfl e1000) (qp (.val none (.int .u8 (v1000.toNat : Int))) rfl ?_)
  refine r_nil ?_
  refine ws 449 1345 ?_
  refine qp (.val none (.int .u8 (v1000.toNat : Int))) rfl (qp (AB (decide ((v1000.toNat : Int) < (97 : Int)))) rfl (qp (AB (decide ((v1000.toNat : Int) < (97 : Int)))) rfl ?_))
  refine q_case 15 hF rfl (fun hF => ?_) (fun hF => ?_)
  ·
   refine qn rfl (qn rfl (qp (AB true) rfl (qp (AB true) rfl (qg (.val none (.int .u8 (v1000.toNat : Int))) rfl rfl (qg (AB (decide ((v1000.toNat : Int) < (48 : Int)))) rfl rfl (qg (AB (decide ((v1000.toNat : Int) < (48 : Int)))) rfl rfl ?_))))))
   refine q_case 22 hF rfl (fun hF => ?_) (fun hF => ?_)
   ·
    refine qn rfl (qn rfl (qg (AB true) rfl rfl (qp (AB true) rfl ?_)))
    refine r_nil ?_
    refine w_true rfl ?_
    refine ws 1345 1409 ?_
    refine qp (AB false) rfl ?_
    refine r_nil ?_
    refine w_ret ?_
    refine blockQ_r ?_
    refine thenQ_r ?_
    refine thenQ_r ?_
    refine blockQ_r ?_
    refine thenQ_r ?_
    cases hF
    exact eR
   ·
    refine qg (.val none (.int .u8 (v1000.toNat : Int))) rfl rfl (qg (AB (decide ((57 : Int) < (v1000.toNat : Int)))) rfl rfl (qg (AB (decide ((57 : Int) < (v1000.toNat : Int)))) rfl rfl (qp (AB (decide ((57 : Int) < (v1000.toNat : Int)))) rfl ?_)))
    refine r_nil ?_
    refine cF hF (fun hF => ?_) fun hF => ?_
    ·
     refine ws 1345 1409 ?_
     refine qp (AB false) rfl ?_
     refine r_nil ?_
     refine w_ret ?_
     refine blockQ_r ?_
     refine thenQ_r ?_
     refine thenQ_r ?_
     refine blockQ_r ?_
     refine thenQ_r ?_
     cases hF
     exact eR
    ·
     refine w_skip ?_
     refine blockQ_n ?_
     refine thenQ_n ?_
     refine w_reg 1345 1473 rfl rfl ?_
     refine qp (AI (w64 (v4 + 1))) rfl (qp (AI (w64 (v4 + 1))) rfl ?_)
     refine r_nil ?_
     refine thenQ_n ?_
     refine ar (l' := [(0, AS v0), (6, AI (v0.length : Int)), (7, AI (w64 (v4 + 1)))]) (L := []) [0, 6, 7] [] 1 ⟨_, by rfl, hF⟩
  ·
   refine qg (.val none (.int .u8 (v1000.toNat : Int))) rfl rfl (qg (AB (decide ((122 : Int) < (v1000.toNat : Int)))) rfl rfl (qp (AB (decide ((122 : Int) < (v1000.toNat : Int)))) rfl (qp (AB (decide ((122 : Int) < (v1000.toNat : Int)))) rfl ?_)))
   refine q_case 19 hF rfl (fun hF => ?_) (fun hF => ?_)
   ·
    refine qg (.val none (.int .u8 (v1000.toNat : Int))) rfl rfl (qg (AB (decide ((v1000.toNat : Int) < (48 : Int)))) rfl rfl (qg (AB (decide ((v1000.toNat : Int) < (48 : Int)))) rfl rfl ?_))
    refine q_case 22 hF rfl (fun hF => ?_) (fun hF => ?_)
    ·
     refine qn rfl (qn rfl (qg (AB true) rfl rfl (qp (AB true) rfl ?_)))
     refine r_nil ?_
     refine w_true rfl ?_
     refine ws 1345 1409 ?_
     refine qp (AB false) rfl ?_
     refine r_nil ?_
     refine w_ret ?_
     refine blockQ_r ?_
     refine thenQ_r ?_
     refine thenQ_r ?_
     refine blockQ_r ?_
     refine thenQ_r ?_
     cases hF
     exact eR
    ·
     refine qg (.val none (.int .u8 (v1000.toNat : Int))) rfl rfl (qg (AB (decide ((57 : Int) < (v1000.toNat : Int)))) rfl rfl (qg (AB (decide ((57 : Int) < (v1000.toNat : Int)))) rfl rfl (qp (AB (decide ((57 : Int) < (v1000.toNat : Int)))) rfl ?_)))
     refine r_nil ?_
     refine cF hF (fun hF => ?_) fun hF => ?_
     ·
      refine ws 1345 1409 ?_
      refine qp (AB false) rfl ?_
      refine r_nil ?_
      refine w_ret ?_
      refine blockQ_r ?_
      refine thenQ_r ?_
      refine thenQ_r ?_
      refine blockQ_r ?_
      refine thenQ_r ?_
      cases hF
      exact eR
     ·
      refine w_skip ?_
      refine blockQ_n ?_
      refine thenQ_n ?_
      refine w_reg 1345 1473 rfl rfl ?_
      refine qp (AI (w64 (v4 + 1))) rfl (qp (AI (w64 (v4 + 1))) rfl ?_)
      refine r_nil ?_
      refine thenQ_n ?_
      refine ar (l' := [(0, AS v0), (6, AI (v0.length : Int)), (7, AI (w64 (v4 + 1)))]) (L := []) [0, 6, 7] [] 1 ⟨_, by rfl, hF⟩
   ·
    refine qn rfl (qn rfl (qn rfl (qu rfl (qu rfl (qn rfl (qp (AB false) rfl ?_))))))
    refine r_nil ?_
    refine w_false rfl ?_
    refine w_skip ?_
    refine blockQ_n ?_
    refine thenQ_n ?_
    refine w_reg 1345 1473 rfl rfl ?_
    refine qp (AI (w64 (v4 + 1))) rfl (qp (AI (w64 (v4 + 1))) rfl ?_)
    refine r_nil ?_
    refine thenQ_n ?_
    refine ar (l' := [(0, AS v0), (6, AI (v0.length : Int)), (7, AI (w64 (v4 + 1)))]) (L := []) [0, 6, 7] [] 1 ⟨_, by rfl, hF⟩
 ·
  refine w_exit ?_
  refine thenQ_e ?_
  refine thenQ_e ?_
  refine blockQ_e ?_
  refine thenQ_n ?_
  refine ws 65 129 ?_
  refine qp (AB true) rfl ?_
  refine r_nil ?_
  refine w_ret ?_
  cases hF
  exact eR

def c123 : MC := (.seq (.reg [rg 2 (.p true (.mv (.c (.bool false))))]) (.seq (.seq (.reg [rg 3 (.p true (.mv (.t 0))), rg 4 (.p true (.lens (.t 3))), rg 5 (.p true (.bin .lss (.t 4) (.c (.int .i64 1)))), rg 6 (.p true (.mv (.t 5))), ⟨(some 7), (some (6, false)), (.p true (.mv (.t 0)))⟩, ⟨(some 8), (some (6, false)), (.p true (.lens (.t 7)))⟩, ⟨(some 9), (some (6, false)), (.p true (.bin .gtr (.t 8) (.c (.int .i64 10))))⟩, rg 10 (.p true (.pick (.t 6) (.c (.bool true)) (.t 9))), rg 11 (.p true (.mv (.t 10))), ⟨(some 12), (some (11, false)), (.p true (.mv (.t 0)))⟩, ⟨(some 13), (some (11, false)), (.p true (.ixs (.t 12) (.c (.int .i64 0))))⟩, ⟨(some 14), (some (11, false)), (.p true (.bin .lss (.t 13) (.c (.int .u8 97))))⟩, rg 15 (.p true (.pick (.t 11) (.c (.bool true)) (.t 14))), rg 16 (.p true (.mv (.t 15))), ⟨(some 17), (some (16, false)), (.p true (.mv (.t 0)))⟩, ⟨(some 18), (some (16, false)), (.p true (.ixs (.t 17) (.c (.int .i64 0))))⟩, ⟨(some 19), (some (16, false)), (.p true (.bin .gtr (.t 18) (.c (.int .u8 122))))⟩, rg 20 (.p true (.pick (.t 16) (.c (.bool true)) (.t 19)))]) (.cond (.t 20) (.seq (.reg [rg 2 (.p true (.mv (.c (.bool false))))]) .ret) .skip)) (.seq (.reg [rg 21 (.p true (.mv (.t 0))), rg 22 (.call true 141 [(.t 21)]), rg 2 (.p true (.mv (.t 22)))]) .ret)))
theorem c123_is : compFn Try.prog 123 = some (c123, [(.tmp 2)]) := by kernel_rfl
theorem c123_ok : okFn Try.prog 123 = true := by kernel_rfl

noncomputable def F_impl_IsName (v0 : List UInt8) : Option (Bool) :=
 (bif (decide ((v0.length : Int) < (1 : Int))) then some false
 else (bif (decide ((10 : Int) < (v0.length : Int))) then some false
 else ((ix v0 0).bind fun v1000 => (bif (decide ((v1000.toNat : Int) < (97 : Int))) then some false
 else ((ix v0 0).bind fun v1001 => (bif (decide ((122 : Int) < (v1001.toNat : Int))) then some false
 else ((F_impl_onlyNameBytes v0).bind fun v1002 => some v1002)))))))
@[simp] def res_impl_IsName (r : Bool) : RV := .one (.one (.val (.bool r)))
theorem con_impl_IsName {v0 : List UInt8} {r : Bool} (hF : F_impl_IsName v0 = some r) : Con Try.prog 123 [.str v0] (res_impl_IsName r) := by
 unfold F_impl_IsName at hF
 refine con_of c123_is fun N => ?_
 refine ws 0 64 ?_
 refine qp (AB false) rfl ?_
 refine r_nil ?_
 refine w_seq ?_
 refine ws 64 1216 ?_
 refine qp (AS v0) rfl (qp (AI (v0.length : Int)) rfl (qp (AB (decide ((v0.length : Int) < (1 : Int)))) rfl (qp (AB (decide ((v0.length : Int) < (1 : Int)))) rfl ?_)))
 refine q_case 6 hF rfl (fun hF => ?_) (fun hF => ?_)
 ·
  refine qn rfl (qn rfl (qn rfl (qp (AB true) rfl (qp (AB true) rfl (qn rfl (qn rfl (qn rfl ?_)))))))
  refine qp (AB true) rfl (qp (AB true) rfl (qn rfl (qn rfl (qn rfl (qp (AB true) rfl ?_)))))
  refine r_nil ?_
  refine w_true rfl ?_
  refine ws 1216 1280 ?_
  refine qp (AB false) rfl ?_
  refine r_nil ?_
  refine w_ret ?_
  refine thenQ_r ?_
  cases hF
  exact eR
 ·
  refine qg (AS v0) rfl rfl (qg (AI (v0.length : Int)) rfl rfl (qg (AB (decide ((10 : Int) < (v0.length : Int)))) rfl rfl (qp (AB (decide ((10 : Int) < (v0.length : Int)))) rfl (qp (AB (decide ((10 : Int) < (v0.length : Int)))) rfl ?_))))
  refine q_case 11 hF rfl (fun hF => ?_) (fun hF => ?_)
  ·
   refine qn rfl (qn rfl (qn rfl (qp (AB true) rfl (qp (AB true) rfl (qn rfl (qn rfl (qn rfl ?_)))))))
   refine qp (AB true) rfl ?_
   refine r_nil ?_
   refine w_true rfl ?_
   refine ws 1216 1280 ?_
   refine qp (AB false) rfl ?_
   refine r_nil ?_
   refine w_ret ?_
   refine thenQ_r ?_
   cases hF
   exact eR
  ·
   refine qg (AS v0) rfl rfl ?_
   obtain ⟨v1000, e1000, hF⟩ := bind_get hF
   refine qg (.val none (.int .u8 (v1000.toNat : Int))) rfl (ev_ixs rfl rfl e1000) (qg (AB (decide ((v1000.toNat : Int) < (97 : Int)))) rfl rfl (qp (AB (decide ((v1000.toNat : Int) < (97 : Int)))) rfl (qp (AB (decide ((v1000.toNat : Int) < (97 : Int)))) rfl ?_)))
   refine q_case 16 hF rfl (fun hF => ?_) (fun hF => ?_)
   ·
    refine qn rfl (qn rfl (qn rfl (qp (AB true) rfl ?_)))
    refine r_nil ?_
    refine w_true rfl ?_
    refine ws 1216 1280 ?_
    refine qp (AB false) rfl ?_
    refine r_nil ?_
    refine w_ret ?_
    refine thenQ_r ?_
    cases hF
    exact eR
   ·
    refine qg (AS v0) rfl rfl ?_
    obtain ⟨v1001, e1001, hF⟩ := bind_get hF
    refine qg (.val none (.int .u8 (v1001.toNat : Int))) rfl (ev_ixs rfl rfl e1001) (qg (AB (decide ((122 : Int) < (v1001.toNat : Int)))) rfl rfl (qp (AB (decide ((122 : Int) < (v1001.toNat : Int)))) rfl ?_))
    refine r_nil ?_
    refine cF hF (fun hF => ?_) fun hF => ?_
    ·
     refine ws 1216 1280 ?_
     refine qp (AB false) rfl ?_
     refine r_nil ?_
     refine w_ret ?_
     refine thenQ_r ?_
     cases hF
     exact eR
    ·
     refine w_skip ?_
     refine thenQ_n ?_
     refine ws 1216 1408 ?_
     refine qp (AS v0) rfl ?_
     obtain ⟨v1002, e1002, hF⟩ := bind_get hF
     refine qc (AB v1002) [] false (con_impl_onlyNameBytes e1002) c141_ok (by first | rfl | simp) rfl ?_
     refine qp (AB v1002) rfl ?_
     refine r_nil ?_
     refine w_ret ?_
     cases hF
     exact eR

def c105 : MC := (.seq (.reg [rg 1 (.f (.box (.t 0))), rg 2 (.p true (.mv (.c (.bool false))))]) (.seq (.reg [rg 3 (.p true (.fad (.t 1) 0)), rg 4 (.p true (.ld (.t 3) 1 false)), rg 5 (.call true 124 [(.t 4), (.c (.int .i64 0)), (.c (.int .i64 100000))]), rg 6 (.p true (.mv (.t 5))), ⟨(some 7), (some (6, true)), (.p true (.fad (.t 1) 1))⟩, ⟨(some 8), (some (6, true)), (.p true (.ld (.t 7) 1 false))⟩, ⟨(some 9), (some (6, true)), (.call true 123 [(.t 8)])⟩, rg 10 (.p true (.pick (.t 6) (.t 9) (.c (.bool false)))), rg 11 (.p true (.mv (.t 10))), ⟨(some 12), (some (11, true)), (.p true (.fad (.t 1) 2))⟩, ⟨(some 13), (some (11, true)), (.p true (.ld (.t 12) 1 false))⟩, ⟨(some 14), (some (11, true)), (.call true 123 [(.t 13)])⟩, rg 15 (.p true (.pick (.t 11) (.t 14) (.c (.bool false)))), rg 16 (.p true (.mv (.t 15))), ⟨(some 17), (some (16, true)), (.p true (.fad (.t 1) 3))⟩, ⟨(some 18), (some (16, true)), (.p true (.ld (.t 17) 1 false))⟩, ⟨(some 19), (some (16, true)), (.call true 124 [(.t 18), (.c (.int .i64 1)), (.c (.int .i64 480))])⟩, rg 20 (.p true (.pick (.t 16) (.t 19) (.c (.bool false)))), rg 21 (.p true (.mv (.t 20))), ⟨(some 22), (some (21, true)), (.p true (.fad (.t 1) 4))⟩, ⟨(some 23), (some (21, true)), (.p true (.ld (.t 22) 1 false))⟩, ⟨(some 24), (some (21, true)), (.call true 124 [(.t 23), (.c (.int .i64 0)), (.c (.int .i64 100))])⟩, rg 25 (.p true (.pick (.t 21) (.t 24) (.c (.bool false)))), rg 2 (.p true (.mv (.t 25)))]) .ret))
theorem c105_is : compFn Try.prog 105 = some (c105, [(.tmp 2)]) := by kernel_rfl
theorem c105_ok : okFn Try.prog 105 = true := by kernel_rfl

noncomputable def F_impl_Lesson_valid (v0 : TLesson) : Option (Bool) :=
 ((F_impl_within v0.1 0 100000).bind fun v1000 => (bif v1000 then ((F_impl_IsName v0.2.1).bind fun v1001 => (bif v1001 then ((F_impl_IsName v0.2.2.1).bind fun v1002 => (bif v1002 then ((F_impl_within v0.2.2.2.1 1 480).bind fun v1003 => (bif v1003 then ((F_impl_within v0.2.2.2.2 0 100).bind fun v1004 => some v1004)
 else some false))
 else some false))
 else some false))
 else some false))
@[simp] def res_impl_Lesson_valid (r : Bool) : RV := .one (.one (.val (.bool r)))
theorem con_impl_Lesson_valid {v0 : TLesson} {r : Bool} (hF : F_impl_Lesson_valid v0 = some r) : Con Try.prog 105 [eLesson v0] (res_impl_Lesson_valid r) := by
 unfold F_impl_Lesson_valid at hF
 refine con_of c105_is fun N => ?_
 refine ws 0 128 ?_
 refine qf (.ptr 0 0 0) [(0, .box [AI v0.1, AS v0.2.1, AS v0.2.2.1, AI v0.2.2.2.1, AI v0.2.2.2.2])] (by simp) ?_
 refine qp (AB false) rfl ?_
 refine r_nil ?_
 refine ws 128 1664 ?_
 refine qp (.ptr 0 0 0) rfl (qp (AI v0.1) rfl ?_)
 obtain ⟨v1000, e1000, hF⟩ := bind_get hF
 refine qc (AB v1000) [(0, .box [AI v0.1, AS v0.2.1, AS v0.2.2.1, AI v0.2.2.2.1, AI v0.2.2.2.2])] false (con_impl_within e1000) c124_ok (by first | rfl | simp) rfl ?_
 refine qp (AB v1000) rfl ?_
 refine q_case 6 hF rfl (fun hF => ?_) (fun hF => ?_)
 ·
  refine qg (.ptr 0 0 1) rfl rfl (qg (AS v0.2.1) rfl rfl ?_)
  obtain ⟨v1001, e1001, hF⟩ := bind_get hF
  refine qcg (AB v1001) [(0, .box [AI v0.1, AS v0.2.1, AS v0.2.2.1, AI v0.2.2.2.1, AI v0.2.2.2.2])] false rfl (con_impl_IsName e1001) c123_ok (by first | rfl | simp) rfl ?_
  refine qp (AB v1001) rfl (qp (AB v1001) rfl ?_)
  refine q_case 11 hF rfl (fun hF => ?_) (fun hF => ?_)
  ·
   refine qg (.ptr 0 0 2) rfl rfl (qg (AS v0.2.2.1) rfl rfl ?_)
   obtain ⟨v1002, e1002, hF⟩ := bind_get hF
   refine qcg (AB v1002) [(0, .box [AI v0.1, AS v0.2.1, AS v0.2.2.1, AI v0.2.2.2.1, AI v0.2.2.2.2])] false rfl (con_impl_IsName e1002) c123_ok (by first | rfl | simp) rfl ?_
   refine qp (AB v1002) rfl (qp (AB v1002) rfl ?_)
   refine q_case 16 hF rfl (fun hF => ?_) (fun hF => ?_)
   ·
    refine qg (.ptr 0 0 3) rfl rfl (qg (AI v0.2.2.2.1) rfl rfl ?_)
    obtain ⟨v1003, e1003, hF⟩ := bind_get hF
    refine qcg (AB v1003) [(0, .box [AI v0.1, AS v0.2.1, AS v0.2.2.1, AI v0.2.2.2.1, AI v0.2.2.2.2])] false rfl (con_impl_within e1003) c124_ok (by first | rfl | simp) rfl ?_
    refine qp (AB v1003) rfl (qp (AB v1003) rfl ?_)
    refine q_case 21 hF rfl (fun hF => ?_) (fun hF => ?_)
    ·
     refine qg (.ptr 0 0 4) rfl rfl (qg (AI v0.2.2.2.2) rfl rfl ?_)
     obtain ⟨v1004, e1004, hF⟩ := bind_get hF
     refine qcg (AB v1004) [(0, .box [AI v0.1, AS v0.2.1, AS v0.2.2.1, AI v0.2.2.2.1, AI v0.2.2.2.2])] false rfl (con_impl_within e1004) c124_ok (by first | rfl | simp) rfl ?_
     refine qp (AB v1004) rfl (qp (AB v1004) rfl ?_)
     refine r_nil ?_
     refine w_ret ?_
     cases hF
     exact eR
    ·
     refine qn rfl (qn rfl (qn rfl (qp (AB false) rfl (qp (AB false) rfl ?_))))
     refine r_nil ?_
     refine w_ret ?_
     cases hF
     exact eR
   ·
    refine qn rfl (qn rfl (qn rfl (qp (AB false) rfl (qp (AB false) rfl (qn rfl (qn rfl (qn rfl ?_)))))))
    refine qp (AB false) rfl (qp (AB false) rfl ?_)
    refine r_nil ?_
    refine w_ret ?_
    cases hF
    exact eR
  ·
   refine qn rfl (qn rfl (qn rfl (qp (AB false) rfl (qp (AB false) rfl (qn rfl (qn rfl (qn rfl ?_)))))))
   refine qp (AB false) rfl (qp (AB false) rfl (qn rfl (qn rfl (qn rfl (qp (AB false) rfl (qp (AB false) rfl ?_))))))
   refine r_nil ?_
   refine w_ret ?_
   cases hF
   exact eR
 ·
  refine qn rfl (qn rfl (qn rfl (qp (AB false) rfl (qp (AB false) rfl (qn rfl (qn rfl (qn rfl ?_)))))))
  refine qp (AB false) rfl (qp (AB false) rfl (qn rfl (qn rfl (qn rfl (qp (AB false) rfl (qp (AB false) rfl (qn rfl ?_)))))))
  refine qn rfl (qn rfl (qp (AB false) rfl (qp (AB false) rfl ?_)))
  refine r_nil ?_
  refine w_ret ?_
  cases hF
  exact eR

def c138 : MC := (.seq (.reg [rg 2 (.p true (.mv (.c (.bool false))))]) (.seq (.reg [rg 3 (.p true (.mv (.t 0))), rg 4 (.p true (.mv (.t 0))), rg 5 (.p true (.bin .neq (.t 3) (.t 4))), rg 2 (.p true (.mv (.t 5)))]) .ret))
theorem c138_is : compFn Try.prog 138 = some (c138, [(.tmp 2)]) := by kernel_rfl
theorem c138_ok : okFn Try.prog 138 = true := by kernel_rfl

noncomputable def F_cmp_isNaN_int64 (v0 : Int) : Option (Bool) :=
 some (decide (v0 ≠ v0))
@[simp] def res_cmp_isNaN_int64 (r : Bool) : RV := .one (.one (.val (.bool r)))
theorem con_cmp_isNaN_int64 {v0 : Int} {r : Bool} (hF : F_cmp_isNaN_int64 v0 = some r) : Con Try.prog 138 [.int .i64 v0] (res_cmp_isNaN_int64 r) := by
 unfold F_cmp_isNaN_int64 at hF
 refine con_of c138_is fun N => ?_
 refine ws 0 64 ?_
 refine qp (AB false) rfl ?_
 refine r_nil ?_
 refine ws 64 320 ?_
 refine qp (AI v0) rfl (qp (AI v0) rfl (qp (AB (decide (v0 ≠ v0))) rfl (qp (AB (decide (v0 ≠ v0))) rfl ?_)))
 refine r_nil ?_
 refine w_ret ?_
 cases hF
 exact eR

def c120 : MC := (.seq (.reg [rg 4 (.p true (.mv (.c (.int .i64 0))))]) (.seq (.reg [rg 7 (.p true (.mv (.t 0))), rg 8 (.call true 138 [(.t 7)]), rg 5 (.p true (.mv (.t 8)))]) (.seq (.reg [rg 9 (.p true (.mv (.t 1))), rg 10 (.call true 138 [(.t 9)]), rg 6 (.p true (.mv (.t 10)))]) (.seq (.seq (.reg [rg 11 (.p true (.mv (.t 5)))]) (.cond (.t 11) (.seq (.seq (.reg [rg 12 (.p true (.mv (.t 6)))]) (.cond (.t 12) (.seq (.reg [rg 4 (.p true (.mv (.c (.int .i64 0))))]) .ret) .skip)) (.seq (.reg [rg 4 (.p true (.mv (.c (.int .i64 (-1)))))]) .ret)) .skip)) (.seq (.seq (.reg [rg 13 (.p true (.mv (.t 6)))]) (.cond (.t 13) (.seq (.reg [rg 4 (.p true (.mv (.c (.int .i64 1))))]) .ret) .skip)) (.seq (.seq (.reg [rg 14 (.p true (.mv (.t 0))), rg 15 (.p true (.mv (.t 1))), rg 16 (.p true (.bin .lss (.t 14) (.t 15)))]) (.cond (.t 16) (.seq (.reg [rg 4 (.p true (.mv (.c (.int .i64 (-1)))))]) .ret) .skip)) (.seq (.seq (.reg [rg 17 (.p true (.mv (.t 0))), rg 18 (.p true (.mv (.t 1))), rg 19 (.p true (.bin .gtr (.t 17) (.t 18)))]) (.cond (.t 19) (.seq (.reg [rg 4 (.p true (.mv (.c (.int .i64 1))))]) .ret) .skip)) (.seq (.reg [rg 4 (.p true (.mv (.c (.int .i64 0))))]) .ret))))))))
theorem c120_is : compFn Try.prog 120 = some (c120, [(.tmp 4)]) := by kernel_rfl
theorem c120_ok : okFn Try.prog 120 = true := by kernel_rfl

noncomputable def F_cmp_Compare_int64 (v0 : Int) (v1 : Int) : Option (Int) :=
 ((F_cmp_isNaN_int64 v0).bind fun v1000 => ((F_cmp_isNaN_int64 v1).bind fun v1001 => (bif v1000 then (bif v1001 then some 0
 else some (-1))
 else (bif v1001 then some 1
 else (bif (decide (v0 < v1)) then some (-1)
 else (bif (decide (v1 < v0)) then some 1
 else some 0))))))
@[simp] def res_cmp_Compare_int64 (r : Int) : RV := .one (.one (.val (.int .i64 r)))
theorem con_cmp_Compare_int64 {v0 : Int} {v1 : Int} {r : Int} (hF : F_cmp_Compare_int64 v0 v1 = some r) : Con Try.prog 120 [.int .i64 v0, .int .i64 v1] (res_cmp_Compare_int64 r) := by
 unfold F_cmp_Compare_int64 at hF
 refine con_of c120_is fun N => ?_
 refine ws 0 64 ?_
 refine qp (AI 0) rfl ?_
 refine r_nil ?_
 refine ws 64 256 ?_
 refine qp (AI v0) rfl ?_
 obtain ⟨v1000, e1000, hF⟩ := bind_get hF
 refine qc (AB v1000) [] false (con_cmp_isNaN_int64 e1000) c138_ok (by first | rfl | simp) rfl ?_
 refine qp (AB v1000) rfl ?_
 refine r_nil ?_
 refine ws 256 448 ?_
 refine qp (AI v1) rfl ?_
 obtain ⟨v1001, e1001, hF⟩ := bind_get hF
 refine qc (AB v1001) [] false (con_cmp_isNaN_int64 e1001) c138_ok (by first | rfl | simp) rfl ?_
 refine qp (AB v1001) rfl ?_
 refine r_nil ?_
 refine w_seq ?_
 refine ws 448 512 ?_
 refine qp (AB v1000) rfl ?_
 refine r_nil ?_
 refine cF hF (fun hF => ?_) fun hF => ?_
 ·
  refine w_seq ?_
  refine ws 512 576 ?_
  refine qp (AB v1001) rfl ?_
  refine r_nil ?_
  refine cF hF (fun hF => ?_) fun hF => ?_
  ·
   refine ws 576 640 ?_
   refine qp (AI 0) rfl ?_
   refine r_nil ?_
   refine w_ret ?_
   refine thenQ_r ?_
   refine thenQ_r ?_
   cases hF
   exact eR
  ·
   refine w_skip ?_
   refine thenQ_n ?_
   refine ws 576 640 ?_
   refine qp (AI (-1)) rfl ?_
   refine r_nil ?_
   refine w_ret ?_
   refine thenQ_r ?_
   cases hF
   exact eR
 ·
  refine w_skip ?_
  refine thenQ_n ?_
  refine w_seq ?_
  refine ws 512 576 ?_
  refine qp (AB v1001) rfl ?_
  refine r_nil ?_
  refine cF hF (fun hF => ?_) fun hF => ?_
  ·
   refine ws 576 640 ?_
   refine qp (AI 1) rfl ?_
   refine r_nil ?_
   refine w_ret ?_
   refine thenQ_r ?_
   cases hF
   exact eR
  ·
   refine w_skip ?_
   refine thenQ_n ?_
   refine w_seq ?_
   refine ws 576 768 ?_
   refine qp (AI v0) rfl (qp (AI v1) rfl (qp (AB (decide (v0 < v1))) rfl ?_))
   refine r_nil ?_
   refine cF hF (fun hF => ?_) fun hF => ?_
   ·
    refine ws 768 832 ?_
    refine qp (AI (-1)) rfl ?_
    refine r_nil ?_
    refine w_ret ?_
    refine thenQ_r ?_
    cases hF
    exact eR
   ·
    refine w_skip ?_
    refine thenQ_n ?_
    refine w_seq ?_
    refine ws 768 960 ?_
    refine qp (AI v0) rfl (qp (AI v1) rfl (qp (AB (decide (v1 < v0))) rfl ?_))
    refine r_nil ?_
    refine cF hF (fun hF => ?_) fun hF => ?_
    ·
     refine ws 960 1024 ?_
     refine qp (AI 1) rfl ?_
     refine r_nil ?_
     refine w_ret ?_
     refine thenQ_r ?_
     cases hF
     exact eR
    ·
     refine w_skip ?_
     refine thenQ_n ?_
     refine ws 960 1024 ?_
     refine qp (AI 0) rfl ?_
     refine r_nil ?_
     refine w_ret ?_
     cases hF
     exact eR

def c125 : MC := (.seq (.reg [rg 2 (.p true (.mv (.c (.bool false))))]) (.seq (.reg [rg 3 (.p true (.mv (.t 0))), rg 4 (.p true (.mv (.t 0))), rg 5 (.p true (.bin .neq (.t 3) (.t 4))), rg 2 (.p true (.mv (.t 5)))]) .ret))
theorem c125_is : compFn Try.prog 125 = some (c125, [(.tmp 2)]) := by kernel_rfl
theorem c125_ok : okFn Try.prog 125 = true := by kernel_rfl

noncomputable def F_cmp_isNaN_string (v0 : List UInt8) : Option (Bool) :=
 some (decide (v0 ≠ v0))
@[simp] def res_cmp_isNaN_string (r : Bool) : RV := .one (.one (.val (.bool r)))
theorem con_cmp_isNaN_string {v0 : List UInt8} {r : Bool} (hF : F_cmp_isNaN_string v0 = some r) : Con Try.prog 125 [.str v0] (res_cmp_isNaN_string r) := by
 unfold F_cmp_isNaN_string at hF
 refine con_of c125_is fun N => ?_
 refine ws 0 64 ?_
 refine qp (AB false) rfl ?_
 refine r_nil ?_
 refine ws 64 320 ?_
 refine qp (AS v0) rfl (qp (AS v0) rfl (qp (AB (decide (v0 ≠ v0))) rfl (qp (AB (decide (v0 ≠ v0))) rfl ?_)))
 refine r_nil ?_
 refine w_ret ?_
 cases hF
 exact eR

def c86 : MC := (.seq (.reg [rg 4 (.p true (.mv (.c (.int .i64 0))))]) (.seq (.reg [rg 7 (.p true (.mv (.t 0))), rg 8 (.call true 125 [(.t 7)]), rg 5 (.p true (.mv (.t 8)))]) (.seq (.reg [rg 9 (.p true (.mv (.t 1))), rg 10 (.call true 125 [(.t 9)]), rg 6 (.p true (.mv (.t 10)))]) (.seq (.seq (.reg [rg 11 (.p true (.mv (.t 5)))]) (.cond (.t 11) (.seq (.seq (.reg [rg 12 (.p true (.mv (.t 6)))]) (.cond (.t 12) (.seq (.reg [rg 4 (.p true (.mv (.c (.int .i64 0))))]) .ret) .skip)) (.seq (.reg [rg 4 (.p true (.mv (.c (.int .i64 (-1)))))]) .ret)) .skip)) (.seq (.seq (.reg [rg 13 (.p true (.mv (.t 6)))]) (.cond (.t 13) (.seq (.reg [rg 4 (.p true (.mv (.c (.int .i64 1))))]) .ret) .skip)) (.seq (.seq (.reg [rg 14 (.p true (.mv (.t 0))), rg 15 (.p true (.mv (.t 1))), rg 16 (.p true (.bin .lss (.t 14) (.t 15)))]) (.cond (.t 16) (.seq (.reg [rg 4 (.p true (.mv (.c (.int .i64 (-1)))))]) .ret) .skip)) (.seq (.seq (.reg [rg 17 (.p true (.mv (.t 0))), rg 18 (.p true (.mv (.t 1))), rg 19 (.p true (.bin .gtr (.t 17) (.t 18)))]) (.cond (.t 19) (.seq (.reg [rg 4 (.p true (.mv (.c (.int .i64 1))))]) .ret) .skip)) (.seq (.reg [rg 4 (.p true (.mv (.c (.int .i64 0))))]) .ret))))))))
theorem c86_is : compFn Try.prog 86 = some (c86, [(.tmp 4)]) := by kernel_rfl
theorem c86_ok : okFn Try.prog 86 = true := by kernel_rfl

noncomputable def F_cmp_Compare_string (v0 : List UInt8) (v1 : List UInt8) : Option (Int) :=
 ((F_cmp_isNaN_string v0).bind fun v1000 => ((F_cmp_isNaN_string v1).bind fun v1001 => (bif v1000 then (bif v1001 then some 0
 else some (-1))
 else (bif v1001 then some 1
 else (bif (Op.bytesLess v0 v1) then some (-1)
 else (bif (!(Op.bytesLess v0 v1 || decide (v0 = v1))) then some 1
 else some 0))))))
@[simp] def res_cmp_Compare_string (r : Int) : RV := .one (.one (.val (.int .i64 r)))
theorem con_cmp_Compare_string {v0 : List UInt8} {v1 : List UInt8} {r : Int} (hF : F_cmp_Compare_string v0 v1 = some r) : Con Try.prog 86 [.str v0, .str v1] (res_cmp_Compare_string r) := by
 unfold F_cmp_Compare_string at hF
 refine con_of c86_is fun N => ?_
 refine ws 0 64 ?_
 refine qp (AI 0) rfl ?_
 refine r_nil ?_
 refine ws 64 256 ?_
 refine qp (AS v0) rfl ?_
 obtain ⟨v1000, e1000, hF⟩ := bind_get hF
 refine qc (AB v1000) [] false (con_cmp_isNaN_string e1000) c125_ok (by first | rfl | simp) rfl ?_
 refine qp (AB v1000) rfl ?_
 refine r_nil ?_
 refine ws 256 448 ?_
 refine qp (AS v1) rfl ?_
 obtain ⟨v1001, e1001, hF⟩ := bind_get hF
 refine qc (AB v1001) [] false (con_cmp_isNaN_string e1001) c125_ok (by first | rfl | simp) rfl ?_
 refine qp (AB v1001) rfl ?_
 refine r_nil ?_
 refine w_seq ?_
 refine ws 448 512 ?_
 refine qp (AB v1000) rfl ?_
 refine r_nil ?_
 refine cF hF (fun hF => ?_) fun hF => ?_
 ·
  refine w_seq ?_
  refine ws 512 576 ?_
  refine qp (AB v1001) rfl ?_
  refine r_nil ?_
  refine cF hF (fun hF => ?_) fun hF => ?_
  ·
   refine ws 576 640 ?_
   refine qp (AI 0) rfl ?_
   refine r_nil ?_
   refine w_ret ?_
   refine thenQ_r ?_
   refine thenQ_r ?_
   cases hF
   exact eR
  ·
   refine w_skip ?_
   refine thenQ_n ?_
   refine ws 576 640 ?_
   refine qp (AI (-1)) rfl ?_
   refine r_nil ?_
   refine w_ret ?_
   refine thenQ_r ?_
   cases hF
   exact eR
 ·
  refine w_skip ?_
  refine thenQ_n ?_
  refine w_seq ?_
  refine ws 512 576 ?_
  refine qp (AB v1001) rfl ?_
  refine r_nil ?_
  refine cF hF (fun hF => ?_) fun hF => ?_
  ·
   refine ws 576 640 ?_
   refine qp (AI 1) rfl ?_
   refine r_nil ?_
   refine w_ret ?_
   refine thenQ_r ?_
   cases hF
   exact eR
  ·
   refine w_skip ?_
   refine thenQ_n ?_
   refine w_seq ?_
   refine ws 576 768 ?_
   refine qp (AS v0) rfl (qp (AS v1) rfl (qp (AB (Op.bytesLess v0 v1)) rfl ?_))
   refine r_nil ?_
   refine cF hF (fun hF => ?_) fun hF => ?_
   ·
    refine ws 768 832 ?_
    refine qp (AI (-1)) rfl ?_
    refine r_nil ?_
    refine w_ret ?_
    refine thenQ_r ?_
    cases hF
    exact eR
   ·
    refine w_skip ?_
    refine thenQ_n ?_
    refine w_seq ?_
    refine ws 768 960 ?_
    refine qp (AS v0) rfl (qp (AS v1) rfl (qp (AB (!(Op.bytesLess v0 v1 || decide (v0 = v1)))) rfl ?_))
    refine r_nil ?_
    refine cF hF (fun hF => ?_) fun hF => ?_
    ·
     refine ws 960 1024 ?_
     refine qp (AI 1) rfl ?_
     refine r_nil ?_
     refine w_ret ?_
     refine thenQ_r ?_
     cases hF
     exact eR
    ·
     refine w_skip ?_
     refine thenQ_n ?_
     refine ws 960 1024 ?_
     refine qp (AI 0) rfl ?_
     refine r_nil ?_
     refine w_ret ?_
     cases hF
     exact eR

def c117 : MC := (.seq (.reg [rg 2 (.p true (.mv (.c (.int .i64 0))))]) (.seq (.reg [rg 3 (.p true (.mv (.c (.int .i64 0))))]) (.seq (.seq (.reg [rg 6 (.p true (.mv (.t 0))), rg 7 (.p true (.len (.t 6))), rg 8 (.p true (.mv (.c (.int .i64 0))))]) (.block 0 (.loop (.seq (.reg [rg 9 (.p true (.bin .lss (.t 8) (.t 7)))]) (.seq (.cond (.t 9) .skip (.exit 0)) (.seq (.block 1 (.seq (.reg [rg 10 (.p true (.iad (.t 6) (.t 8) 1)), rg 11 (.p true (.ld (.t 10) 1 false)), rg 5 (.p true (.mv (.t 11)))]) (.seq (.reg [rg 12 (.p true (.mv (.t 5))), rg 13 (.p true (.mv (.t 3))), rg 14 (.p true (.bin .neq (.t 12) (.t 13)))]) (.cond (.t 14) (.seq (.reg [rg 15 (.p true (.mv (.t 5))), rg 2 (.p true (.mv (.t 15)))]) .ret) .skip)))) (.reg [rg 16 (.p true (.bin .add (.t 8) (.c (.int .i64 1)))), rg 8 (.p true (.mv (.t 16)))]))))))) (.seq (.reg [rg 17 (.p true (.mv (.t 3))), rg 2 (.p true (.mv (.t 17)))]) .ret))))
theorem c117_is : compFn Try.prog 117 = some (c117, [(.tmp 2)]) := by kernel_rfl
theorem c117_ok : okFn Try.prog 117 = true := by kernel_rfl

noncomputable def F_cmp_Or_int_l0 (v0 : List Int) (k0 : Int → Option (Int)) : Int → Option (Int)
 | v4 => (bif (decide (v4 < (v0.length : Int))) then ((ix v0 v4).bind fun v1000 => (bif (decide (v1000 ≠ (0 : Int))) then some v1000
 else k0 (w64 (v4 + 1))))
 else some 0)
noncomputable def F_cmp_Or_int (v0 : List Int) : Option (Int) :=
 loop (F_cmp_Or_int_l0 v0) 0
@[simp] def res_cmp_Or_int (r : Int) : RV := .one (.one (.val (.int .i64 r)))
theorem con_cmp_Or_int {v0 : List Int} {r : Int} (hF : F_cmp_Or_int v0 = some r) : Con Try.prog 117 [.sl 1 (v0.map (V.int .i64))] (res_cmp_Or_int r) := by
 unfold F_cmp_Or_int at hF
 refine con_of c117_is fun N => ?_
 refine ws 0 64 ?_
 refine qp (AI 0) rfl ?_
 refine r_nil ?_
 refine ws 64 128 ?_
 refine qp (AI 0) rfl ?_
 refine r_nil ?_
 refine w_seq ?_
 refine ws 128 320 ?_
 refine qp (AL 1 (v0.map (V.int .i64))) rfl (qp (AI (v0.length : Int)) (ev_len_n rfl) (qp (AI 0) rfl ?_))
 refine r_nil ?_
 refine w_block ?_
 refine wr (l' := [(3, AI 0), (6, AL 1 (v0.map (V.int .i64))), (7, AI (v0.length : Int)), (8, AI 0)]) (L := []) [3, 6, 7, 8] [] 1 ?_
 refine w_loopF (F_cmp_Or_int_l0 v0) (fun s : Int => mkS [(3, AI 0), (6, AL 1 (v0.map (V.int .i64))), (7, AI (v0.length : Int)), (8, AI s)] (fo []) 1) hF ?_
 rintro k0 v4 hF
 rw [F_cmp_Or_int_l0] at hF
 try dsimp only
 refine ws 1 65 ?_
 refine qp (AB (decide (v4 < (v0.length : Int)))) rfl ?_
 refine r_nil ?_
 refine w_seq ?_
 refine cF hF (fun hF => ?_) fun hF => ?_
 ·
  refine w_skip ?_
  refine thenQ_n ?_
  refine w_seq ?_
  refine w_block ?_
  refine ws 65 257 ?_
  obtain ⟨v1000, e1000, hF⟩ := bind_get hF
  refine qp (.val none (.ptr [.int .i64 v1000])) (ev_iad_n rfl rfl e1000 rfl) (qp (AI v1000) rfl (qp (AI v1000) rfl ?_))
  refine r_nil ?_
  refine ws 257 449 ?_
  refine qp (AI v1000) rfl (qp (AI 0) rfl (qp (AB (decide (v1000 ≠ (0 : Int)))) rfl ?_))
  refine r_nil ?_
  refine cF hF (fun hF => ?_) fun hF => ?_
  ·
   refine ws 449 577 ?_
   refine qp (AI v1000) rfl (qp (AI v1000) rfl ?_)
   refine r_nil ?_
   refine w_ret ?_
   refine blockQ_r ?_
   refine thenQ_r ?_
   refine thenQ_r ?_
   refine blockQ_r ?_
   refine thenQ_r ?_
   cases hF
   exact eR
  ·
   refine w_skip ?_
   refine blockQ_n ?_
   refine thenQ_n ?_
   refine w_reg 449 577 rfl rfl ?_
   refine qp (AI (w64 (v4 + 1))) rfl (qp (AI (w64 (v4 + 1))) rfl ?_)
   refine r_nil ?_
   refine thenQ_n ?_
   refine ar (l' := [(3, AI 0), (6, AL 1 (v0.map (V.int .i64))), (7, AI (v0.length : Int)), (8, AI (w64 (v4 + 1)))]) (L := []) [3, 6, 7, 8] [] 1 ⟨_, by rfl, hF⟩
 ·
  refine w_exit ?_
  refine thenQ_e ?_
  refine thenQ_e ?_
  refine blockQ_e ?_
  refine thenQ_n ?_
  refine ws 65 193 ?_
  refine qp (AI 0) rfl (qp (AI 0) rfl ?_)
  refine r_nil ?_
  refine w_ret ?_
  cases hF
  exact eR

def c104 : MC := (.seq (.reg [rg 2 (.f (.box (.t 0))), rg 3 (.f (.box (.t 1))), rg 4 (.p true (.mv (.c (.int .i64 0))))]) (.seq (.reg [rg 5 (.p false (.fad (.t 2) 0)), rg 6 (.p false (.ld (.t 5) 1 false)), rg 7 (.p false (.fad (.t 3) 0)), rg 8 (.p false (.ld (.t 7) 1 false)), rg 9 (.call false 120 [(.t 6), (.t 8)]), rg 10 (.p false (.fad (.t 2) 1)), rg 11 (.p false (.ld (.t 10) 1 false)), rg 12 (.p false (.fad (.t 3) 1)), rg 13 (.p false (.ld (.t 12) 1 false)), rg 14 (.call false 86 [(.t 11), (.t 13)]), rg 15 (.p false (.fad (.t 2) 2)), rg 16 (.p false (.ld (.t 15) 1 false)), rg 17 (.p false (.fad (.t 3) 2)), rg 18 (.p false (.ld (.t 17) 1 false)), rg 19 (.call false 86 [(.t 16), (.t 18)]), rg 20 (.f (.bsl 1 [(.t 9), (.t 14), (.t 19)])), rg 21 (.call false 117 [(.t 20)]), rg 4 (.p false (.mv (.t 21)))]) .ret))
theorem c104_is : compFn Try.prog 104 = some (c104, [(.tmp 4)]) := by kernel_rfl
theorem c104_ok : okFn Try.prog 104 = true := by kernel_rfl

noncomputable def F_impl_compareLessons (v0 : TLesson) (v1 : TLesson) : Option (Int) :=
 ((F_cmp_Compare_int64 v0.1 v1.1).bind fun v1000 => ((F_cmp_Compare_string v0.2.1 v1.2.1).bind fun v1001 => ((F_cmp_Compare_string v0.2.2.1 v1.2.2.1).bind fun v1002 => ((F_cmp_Or_int [v1000, v1001, v1002]).bind fun v1003 => some v1003))))
@[simp] def res_impl_compareLessons (r : Int) : RV := .one (.one (.val (.int .i64 r)))
theorem con_impl_compareLessons {v0 : TLesson} {v1 : TLesson} {r : Int} (hF : F_impl_compareLessons v0 v1 = some r) : Con Try.prog 104 [eLesson v0, eLesson v1] (res_impl_compareLessons r) := by
 unfold F_impl_compareLessons at hF
 refine con_of c104_is fun N => ?_
 refine ws 0 192 ?_
 refine qf (.ptr 0 0 0) [(0, .box [AI v0.1, AS v0.2.1, AS v0.2.2.1, AI v0.2.2.2.1, AI v0.2.2.2.2])] (by simp) ?_
 refine qf (.ptr 64 0 0) [(64, .box [AI v1.1, AS v1.2.1, AS v1.2.2.1, AI v1.2.2.2.1, AI v1.2.2.2.2]), (0, .box [AI v0.1, AS v0.2.1, AS v0.2.2.1, AI v0.2.2.2.1, AI v0.2.2.2.2])] (by simp) ?_
 refine qp (AI 0) rfl ?_
 refine r_nil ?_
 refine ws 192 1344 ?_
 refine qp (.ptr 0 0 0) rfl (qp (AI v0.1) rfl (qp (.ptr 64 0 0) rfl (qp (AI v1.1) rfl ?_)))
 obtain ⟨v1000, e1000, hF⟩ := bind_get hF
 refine qc (AI v1000) [(64, .box [AI v1.1, AS v1.2.1, AS v1.2.2.1, AI v1.2.2.2.1, AI v1.2.2.2.2]), (0, .box [AI v0.1, AS v0.2.1, AS v0.2.2.1, AI v0.2.2.2.1, AI v0.2.2.2.2])] false (con_cmp_Compare_int64 e1000) c120_ok (by first | rfl | simp) rfl ?_
 refine qp (.ptr 0 0 1) rfl (qp (AS v0.2.1) rfl (qp (.ptr 64 0 1) rfl (qp (AS v1.2.1) rfl ?_)))
 obtain ⟨v1001, e1001, hF⟩ := bind_get hF
 refine qc (AI v1001) [(64, .box [AI v1.1, AS v1.2.1, AS v1.2.2.1, AI v1.2.2.2.1, AI v1.2.2.2.2]), (0, .box [AI v0.1, AS v0.2.1, AS v0.2.2.1, AI v0.2.2.2.1, AI v0.2.2.2.2])] false (con_cmp_Compare_string e1001) c86_ok (by first | rfl | simp) rfl ?_
 refine qp (.ptr 0 0 2) rfl (qp (AS v0.2.2.1) rfl (qp (.ptr 64 0 2) rfl (qp (AS v1.2.2.1) rfl ?_)))
 obtain ⟨v1002, e1002, hF⟩ := bind_get hF
 refine qc (AI v1002) [(64, .box [AI v1.1, AS v1.2.1, AS v1.2.2.1, AI v1.2.2.2.1, AI v1.2.2.2.2]), (0, .box [AI v0.1, AS v0.2.1, AS v0.2.2.1, AI v0.2.2.2.1, AI v0.2.2.2.2])] false (con_cmp_Compare_string e1002) c86_ok (by first | rfl | simp) rfl ?_
 refine qf (.sl 1152 0 ([v1000, v1001, v1002].length)) [(1152, .row true 1 ([v1000, v1001, v1002].map (V.int .i64))), (64, .box [AI v1.1, AS v1.2.1, AS v1.2.2.1, AI v1.2.2.2.1, AI v1.2.2.2.2]), (0, .box [AI v0.1, AS v0.2.1, AS v0.2.2.1, AI v0.2.2.2.1, AI v0.2.2.2.2])] (by simp [List.take_of_length_le]) ?_
 obtain ⟨v1003, e1003, hF⟩ := bind_get hF
 refine qc (AI v1003) [(1152, .row true 1 ([v1000, v1001, v1002].map (V.int .i64))), (64, .box [AI v1.1, AS v1.2.1, AS v1.2.2.1, AI v1.2.2.2.1, AI v1.2.2.2.2]), (0, .box [AI v0.1, AS v0.2.1, AS v0.2.2.1, AI v0.2.2.2.1, AI v0.2.2.2.2])] true (con_cmp_Or_int e1003) c117_ok (by simp [List.take_of_length_le]) rfl ?_
 refine qp (AI v1003) rfl ?_
 refine r_nil ?_
 refine w_ret ?_
 cases hF
 exact eR

def c102 : MC := (.seq (.reg [rg 2 (.p true (.mv (.c (.bool false))))]) (.seq (.seq (.reg [rg 5 (.p true (.mv (.t 0))), rg 6 (.p true (.len (.t 5))), rg 7 (.p true (.bin .gtr (.t 6) (.c (.int .i64 64)))), rg 8 (.p true (.mv (.t 7))), ⟨(some 9), (some (8, false)), (.p true (.mv (.t 0)))⟩, ⟨(some 10), (some (8, false)), (.call true 108 [(.t 9)])⟩, ⟨(some 11), (some (8, false)), (.p true (.len (.t 10)))⟩, ⟨(some 12), (some (8, false)), (.p true (.bin .gtr (.t 11) (.c (.int .i64 12))))⟩, rg 13 (.p true (.pick (.t 8) (.c (.bool true)) (.t 12)))]) (.cond (.t 13) (.seq (.reg [rg 2 (.p true (.mv (.c (.bool false))))]) .ret) .skip)) (.seq (.seq (.reg [rg 14 (.p true (.mv (.t 0))), rg 15 (.p true (.len (.t 14))), rg 16 (.p true (.mv (.c (.int .i64 0))))]) (.block 0 (.loop (.seq (.reg [rg 17 (.p true (.bin .lss (.t 16) (.t 15)))]) (.seq (.cond (.t 17) .skip (.exit 0)) (.seq (.block 1 (.seq (.reg [rg 18 (.p true (.mv (.t 16))), rg 19 (.p true (.iad (.t 14) (.t 16) 5)), rg 20 (.p true (.ld (.t 19) 5 true)), rg 4 (.f (.alloc [((.int .i64 0), (0, false)), ((.str []), (0, false)), ((.str []), (0, false)), ((.int .i64 0), (0, false)), ((.int .i64 0), (0, false))])), rg 3 (.p true (.mv (.t 18))), ⟨none, none, (.f (.st (.t 4) (.t 20) 5))⟩]) (.seq (.reg [rg 21 (.p false (.ld (.t 4) 5 true)), rg 22 (.call false 105 [(.t 21)]), rg 23 (.p false (.not (.t 22))), rg 24 (.p false (.mv (.t 23))), ⟨(some 25), (some (24, false)), (.p false (.mv (.t 3)))⟩, ⟨(some 26), (some (24, false)), (.p false (.bin .gtr (.t 25) (.c (.int .i64 0))))⟩, ⟨(some 27), (some (24, false)), (.p false (.mv (.t 26)))⟩, ⟨(some 28), (some (27, true)), (.p false (.mv (.t 0)))⟩, ⟨(some 29), (some (27, true)), (.p false (.mv (.t 3)))⟩, ⟨(some 30), (some (27, true)), (.p false (.bin .sub (.t 29) (.c (.int .i64 1))))⟩, ⟨(some 31), (some (27, true)), (.p false (.iad (.t 28) (.t 30) 5))⟩, ⟨(some 32), (some (27, true)), (.p false (.ld (.t 31) 5 true))⟩, ⟨(some 33), (some (27, true)), (.p false (.ld (.t 4) 5 true))⟩, ⟨(some 34), (some (27, true)), (.call false 104 [(.t 32), (.t 33)])⟩, ⟨(some 35), (some (27, true)), (.p false (.bin .geq (.t 34) (.c (.int .i64 0))))⟩, ⟨(some 36), (some (24, false)), (.p false (.pick (.t 27) (.t 35) (.c (.bool false))))⟩, rg 37 (.p false (.pick (.t 24) (.c (.bool true)) (.t 36)))]) (.cond (.t 37) (.seq (.reg [rg 2 (.p true (.mv (.c (.bool false))))]) .ret) .skip)))) (.reg [rg 38 (.p true (.bin .add (.t 16) (.c (.int .i64 1)))), rg 16 (.p true (.mv (.t 38)))]))))))) (.seq (.reg [rg 2 (.p true (.mv (.c (.bool true))))]) .ret))))
theorem c102_is : compFn Try.prog 102 = some (c102, [(.tmp 2)]) := by kernel_rfl
theorem c102_ok : okFn Try.prog 102 = true := by kernel_rfl

noncomputable def F_impl_ValidLessons_l0 (v0 : List TLesson) (k1 : Int → Option (Bool)) : Int → Option (Bool)
 | v1010 => (bif (decide (v1010 < (v0.length : Int))) then ((ix v0 v1010).bind fun v1011 => ((F_impl_Lesson_valid v1011).bind fun v1012 => (bif (!v1012) then some false
 else (bif (decide ((0 : Int) < v1010)) then ((ix v0 (w64 (v1010 - 1))).bind fun v1013 => ((F_impl_compareLessons v1013 v1011).bind fun v1014 => (bif (decide ((0 : Int) ≤ v1014)) then some false
 else k1 (w64 (v1010 + 1)))))
 else k1 (w64 (v1010 + 1))))))
 else some true)
noncomputable def F_impl_ValidLessons (v0 : List TLesson) : Option (Bool) :=
 (bif (decide ((64 : Int) < (v0.length : Int))) then some false
 else ((F_impl_pupilsOf v0).bind fun v1000 => (bif (decide ((12 : Int) < (v1000.length : Int))) then some false
 else loop (F_impl_ValidLessons_l0 v0) 0)))
@[simp] def res_impl_ValidLessons (r : Bool) : RV := .one (.one (.val (.bool r)))
theorem con_impl_ValidLessons {v0 : List TLesson} {r : Bool} (hF : F_impl_ValidLessons v0 = some r) : Con Try.prog 102 [.sl 5 (v0.map eLesson)] (res_impl_ValidLessons r) := by
 unfold F_impl_ValidLessons at hF
 refine con_of c102_is fun N => ?_
 refine ws 0 64 ?_
 refine qp (AB false) rfl ?_
 refine r_nil ?_
 refine w_seq ?_
 refine ws 64 640 ?_
 refine qp (AL 5 (v0.map eLesson)) rfl (qp (AI (v0.length : Int)) (ev_len_n rfl) (qp (AB (decide ((64 : Int) < (v0.length : Int)))) rfl (qp (AB (decide ((64 : Int) < (v0.length : Int)))) rfl ?_)))
 refine q_case 8 hF rfl (fun hF => ?_) (fun hF => ?_)
 ·
  refine qn rfl (qn rfl (qn rfl (qn rfl (qp (AB true) rfl ?_))))
  refine r_nil ?_
  refine w_true rfl ?_
  refine ws 640 704 ?_
  refine qp (AB false) rfl ?_
  refine r_nil ?_
  refine w_ret ?_
  refine thenQ_r ?_
  cases hF
  exact eR
 ·
  refine qg (AL 5 (v0.map eLesson)) rfl rfl ?_
  obtain ⟨v1000, e1000, hF⟩ := bind_get hF
  refine qcg (.sl 384 0 v1000.length) [(384, .row true 1 (v1000.map V.str))] false rfl (con_impl_pupilsOf e1000) c108_ok (by first | rfl | simp) (by simp [res_impl_pupilsOf]) ?_
  refine qg (AI (v1000.length : Int)) rfl rfl (qg (AB (decide ((12 : Int) < (v1000.length : Int)))) rfl rfl (qp (AB (decide ((12 : Int) < (v1000.length : Int)))) rfl ?_))
  refine r_nil ?_
  refine cF hF (fun hF => ?_) fun hF => ?_
  ·
   refine ws 640 704 ?_
   refine qp (AB false) rfl ?_
   refine r_nil ?_
   refine w_ret ?_
   refine thenQ_r ?_
   cases hF
   exact eR
  ·
   refine w_skip ?_
   refine thenQ_n ?_
   refine w_seq ?_
   refine ws 640 832 ?_
   refine qp (AL 5 (v0.map eLesson)) rfl (qp (AI (v0.length : Int)) (ev_len_n rfl) (qp (AI 0) rfl ?_))
   refine r_nil ?_
   refine w_block ?_
   refine wr (l' := [(0, AL 5 (v0.map eLesson)), (14, AL 5 (v0.map eLesson)), (15, AI (v0.length : Int)), (16, AI 0)]) (L := []) [0, 14, 15, 16] [] 1 ?_
   refine w_loopF (F_impl_ValidLessons_l0 v0) (fun s : Int => mkS [(0, AL 5 (v0.map eLesson)), (14, AL 5 (v0.map eLesson)), (15, AI (v0.length : Int)), (16, AI s)] (fo []) 1) hF ?_
   rintro k1 v1010 hF
   rw [F_impl_ValidLessons_l0] at hF
   try dsimp only
   refine ws 1 65 ?_
   refine qp (AB (decide (v1010 < (v0.length : Int)))) rfl ?_
   refine r_nil ?_
   refine w_seq ?_
   refine cF hF (fun hF => ?_) fun hF => ?_
   ·
    refine w_skip ?_
    refine thenQ_n ?_
    refine w_seq ?_
    refine w_block ?_
    refine ws 65 449 ?_
    refine qp (AI v1010) rfl ?_
    obtain ⟨v1011, e1011, hF⟩ := bind_get hF
    refine qp (.val none (.ptr [.int .i64 v1011.1, .str v1011.2.1, .str v1011.2.2.1, .int .i64 v1011.2.2.2.1, .int .i64 v1011.2.2.2.2])) (ev_iad_n rfl rfl e1011 rfl) (qp (.val none (eLesson v1011)) rfl ?_)
    refine qf (.ptr 257 0 0) [(257, .box [AI 0, AS [], AS [], AI 0, AI 0])] (by simp) ?_
    refine qp (AI v1010) rfl ?_
    refine qf0 (.undef) [(257, .box [AI v1011.1, AS v1011.2.1, AS v1011.2.2.1, AI v1011.2.2.2.1, AI v1011.2.2.2.2]), (257, .box [AI 0, AS [], AS [], AI 0, AI 0])] (by simp) ?_
    refine r_nil ?_
    refine ws 449 1537 ?_
    refine qp (.agg [AI v1011.1, AS v1011.2.1, AS v1011.2.2.1, AI v1011.2.2.2.1, AI v1011.2.2.2.2]) rfl ?_
    obtain ⟨v1012, e1012, hF⟩ := bind_get hF
    refine qc (AB v1012) [(257, .box [AI v1011.1, AS v1011.2.1, AS v1011.2.2.1, AI v1011.2.2.2.1, AI v1011.2.2.2.2]), (257, .box [AI 0, AS [], AS [], AI 0, AI 0])] false (con_impl_Lesson_valid e1012) c105_ok (by first | rfl | simp) rfl ?_
    refine qp (AB (!v1012)) rfl (qp (AB (!v1012)) rfl ?_)
    refine q_case 24 hF rfl (fun hF => ?_) (fun hF => ?_)
    ·
     refine qn rfl (qn rfl (qn rfl (qu rfl (qu rfl (qu rfl (qu rfl (qu rfl ?_)))))))
     refine qu rfl (qu rfl (qu rfl (qn rfl (qp (AB true) rfl ?_))))
     refine r_nil ?_
     refine w_true rfl ?_
     refine ws 1537 1601 ?_
     refine qp (AB false) rfl ?_
     refine r_nil ?_
     refine w_ret ?_
     refine blockQ_r ?_
     refine thenQ_r ?_
     refine thenQ_r ?_
     refine blockQ_r ?_
     refine thenQ_r ?_
     cases hF
     exact eR
    ·
     refine qg (AI v1010) rfl rfl (qg (AB (decide ((0 : Int) < v1010))) rfl rfl (qg (AB (decide ((0 : Int) < v1010))) rfl rfl ?_))
     refine q_case 27 hF rfl (fun hF => ?_) (fun hF => ?_)
     ·
      refine qg (AL 5 (v0.map eLesson)) rfl rfl (qg (AI v1010) rfl rfl (qg (AI (w64 (v1010 - 1))) rfl rfl ?_))
      obtain ⟨v1013, e1013, hF⟩ := bind_get hF
      refine qg (.val none (.ptr [.int .i64 v1013.1, .str v1013.2.1, .str v1013.2.2.1, .int .i64 v1013.2.2.2.1, .int .i64 v1013.2.2.2.2])) rfl (ev_iad_n rfl rfl e1013 rfl) (qg (.val none (eLesson v1013)) rfl rfl (qg (.agg [AI v1011.1, AS v1011.2.1, AS v1011.2.2.1, AI v1011.2.2.2.1, AI v1011.2.2.2.2]) rfl rfl ?_))
      obtain ⟨v1014, e1014, hF⟩ := bind_get hF
      refine qcg (AI v1014) [(257, .box [AI v1011.1, AS v1011.2.1, AS v1011.2.2.1, AI v1011.2.2.2.1, AI v1011.2.2.2.2]), (257, .box [AI 0, AS [], AS [], AI 0, AI 0])] false rfl (con_impl_compareLessons e1014) c104_ok (by first | rfl | simp) rfl ?_
      refine qg (AB (decide ((0 : Int) ≤ v1014))) rfl rfl (qg (AB (decide ((0 : Int) ≤ v1014))) rfl rfl (qp (AB (decide ((0 : Int) ≤ v1014))) rfl ?_))
      refine r_nil ?_
      refine cF hF (fun hF => ?_) fun hF => ?_
      ·
       refine ws 1537 1601 ?_
       refine qp (AB false) rfl ?_
       refine r_nil ?_
       refine w_ret ?_
       refine blockQ_r ?_
       refine thenQ_r ?_
       refine thenQ_r ?_
       refine blockQ_r ?_
       refine thenQ_r ?_
       cases hF
       exact eR
      ·
       refine w_skip ?_
       refine blockQ_n ?_
       refine thenQ_n ?_
       refine w_reg 1537 1665 rfl rfl ?_
       refine qp (AI (w64 (v1010 + 1))) rfl (qp (AI (w64 (v1010 + 1))) rfl ?_)
       refine r_nil ?_
       refine thenQ_n ?_
       refine ar (l' := [(0, AL 5 (v0.map eLesson)), (14, AL 5 (v0.map eLesson)), (15, AI (v0.length : Int)), (16, AI (w64 (v1010 + 1)))]) (L := []) [0, 14, 15, 16] [] 1 ⟨_, by rfl, hF⟩
     ·
      refine qn rfl (qn rfl (qn rfl (qn rfl (qn rfl (qn rfl (qn rfl (qn rfl ?_)))))))
      refine qg (AB false) rfl rfl (qp (AB false) rfl ?_)
      refine r_nil ?_
      refine w_false rfl ?_
      refine w_skip ?_
      refine blockQ_n ?_
      refine thenQ_n ?_
      refine w_reg 1537 1665 rfl rfl ?_
      refine qp (AI (w64 (v1010 + 1))) rfl (qp (AI (w64 (v1010 + 1))) rfl ?_)
      refine r_nil ?_
      refine thenQ_n ?_
      refine ar (l' := [(0, AL 5 (v0.map eLesson)), (14, AL 5 (v0.map eLesson)), (15, AI (v0.length : Int)), (16, AI (w64 (v1010 + 1)))]) (L := []) [0, 14, 15, 16] [] 1 ⟨_, by rfl, hF⟩
   ·
    refine w_exit ?_
    refine thenQ_e ?_
    refine thenQ_e ?_
    refine blockQ_e ?_
    refine thenQ_n ?_
    refine ws 65 129 ?_
    refine qp (AB true) rfl ?_
    refine r_nil ?_
    refine w_ret ?_
    cases hF
    exact eR

def c103 : MC := (.seq (.reg [rg 4 (.f (.box (.t 1))), rg 6 (.p true (.mv (.c (.int .i64 0)))), rg 7 (.p true (.mv (.c (.bool false))))]) (.seq (.reg [rg 12 (.p true (.mv (.t 0))), rg 13 (.p true (.len (.t 12))), rg 8 (.p true (.mv (.t 13)))]) (.seq (.reg [rg 14 (.p true (.mv (.t 8))), rg 9 (.p true (.mv (.c (.int .i64 0)))), rg 10 (.p true (.mv (.t 14)))]) (.seq (.block 0 (.loop (.seq (.seq (.reg [rg 15 (.p true (.mv (.t 9))), rg 16 (.p true (.mv (.t 10))), rg 17 (.p true (.bin .lss (.t 15) (.t 16)))]) (.cond (.t 17) .skip (.exit 0))) (.block 1 (.seq (.reg [rg 18 (.p true (.mv (.t 9))), rg 19 (.p true (.mv (.t 10))), rg 20 (.p true (.bin .add (.t 18) (.t 19))), rg 21 (.p true (.conv .u64 (.t 20))), rg 22 (.p true (.bin .shr (.t 21) (.c (.int .u64 1)))), rg 23 (.p true (.conv .i64 (.t 22))), rg 11 (.p true (.mv (.t 23)))]) (.seq (.reg [rg 24 (.p false (.mv (.t 2))), rg 25 (.p false (.mv (.t 0))), rg 26 (.p false (.mv (.t 11))), rg 27 (.p false (.iad (.t 25) (.t 26) 5)), rg 28 (.p false (.ld (.t 27) 5 true)), rg 29 (.p false (.ld (.t 4) 5 true)), rg 30 (.callv (.t 24) [(.t 28), (.t 29)]), rg 31 (.p false (.bin .lss (.t 30) (.c (.int .i64 0))))]) (.cond (.t 31) (.reg [rg 32 (.p true (.mv (.t 11))), rg 33 (.p true (.bin .add (.t 32) (.c (.int .i64 1)))), rg 9 (.p true (.mv (.t 33)))]) (.reg [rg 34 (.p true (.mv (.t 11))), rg 10 (.p true (.mv (.t 34)))])))))))) (.seq (.reg [rg 35 (.p false (.mv (.t 9))), rg 36 (.p false (.mv (.t 9))), rg 37 (.p false (.mv (.t 8))), rg 38 (.p false (.bin .lss (.t 36) (.t 37))), rg 39 (.p false (.mv (.t 38))), ⟨(some 40), (some (39, true)), (.p false (.mv (.t 2)))⟩, ⟨(some 41), (some (39, true)), (.p false (.mv (.t 0)))⟩, ⟨(some 42), (some (39, true)), (.p false (.mv (.t 9)))⟩, ⟨(some 43), (some (39, true)), (.p false (.iad (.t 41) (.t 42) 5))⟩, ⟨(some 44), (some (39, true)), (.p false (.ld (.t 43) 5 true))⟩, ⟨(some 45), (some (39, true)), (.p false (.ld (.t 4) 5 true))⟩, ⟨(some 46), (some (39, true)), (.callv (.t 40) [(.t 44), (.t 45)])⟩, ⟨(some 47), (some (39, true)), (.p false (.bin .eql (.t 46) (.c (.int .i64 0))))⟩, rg 48 (.p false (.pick (.t 39) (.t 47) (.c (.bool false)))), rg 6 (.p false (.mv (.t 35))), rg 7 (.p false (.mv (.t 48)))]) .ret)))))
theorem c103_is : compFn Try.prog 103 = some (c103, [(.tmp 6), (.tmp 7)]) := by kernel_rfl
theorem c103_ok : okFn Try.prog 103 = true := by kernel_rfl

noncomputable def F_slices_BinarySearchFunc_SLesson_Lesson_l0 (v0 : List TLesson) (v1 : TLesson) (k0 : Int × Int → Option (Int × Bool)) : Int × Int → Option (Int × Bool)
 | (v10, v11) => (bif (decide (v10 < v11)) then (need (0 ≤ (1 : Int)) (((ix v0 (w64 (Int.fdiv (IntKind.wrap .u64 (w64 (v10 + v11))) (2 ^ (min ((1 : Int)).toNat (IntKind.bits .u64)))))).bind fun v1001 => ((F_impl_compareLessons v1001 v1).bind fun v1002 => (bif (decide (v1002 < (0 : Int))) then k0 (w64 ((w64 (Int.fdiv (IntKind.wrap .u64 (w64 (v10 + v11))) (2 ^ (min ((1 : Int)).toNat (IntKind.bits .u64))))) + 1), v11)
 else k0 (v10, w64 (Int.fdiv (IntKind.wrap .u64 (w64 (v10 + v11))) (2 ^ (min ((1 : Int)).toNat (IntKind.bits .u64))))))))))
 else (bif (decide (v10 < (v0.length : Int))) then ((ix v0 v10).bind fun v1003 => ((F_impl_compareLessons v1003 v1).bind fun v1004 => some (v10, (decide (v1004 = (0 : Int))))))
 else some (v10, false)))
noncomputable def F_slices_BinarySearchFunc_SLesson_Lesson (v0 : List TLesson) (v1 : TLesson) : Option (Int × Bool) :=
 loop (F_slices_BinarySearchFunc_SLesson_Lesson_l0 v0 v1) (0, (v0.length : Int))
@[simp] def res_slices_BinarySearchFunc_SLesson_Lesson (r : Int × Bool) : RV := .tup [.one (.val (.int .i64 r.1)), .one (.val (.bool r.2))]
theorem con_slices_BinarySearchFunc_SLesson_Lesson {v0 : List TLesson} {v1 : TLesson} {r : Int × Bool} (hF : F_slices_BinarySearchFunc_SLesson_Lesson v0 v1 = some r) : Con Try.prog 103 [.sl 5 (v0.map eLesson), eLesson v1, .fn 104 []] (res_slices_BinarySearchFunc_SLesson_Lesson r) := by
 unfold F_slices_BinarySearchFunc_SLesson_Lesson at hF
 refine con_of c103_is fun N => ?_
 refine ws 0 192 ?_
 refine qf (.ptr 0 0 0) [(0, .box [AI v1.1, AS v1.2.1, AS v1.2.2.1, AI v1.2.2.2.1, AI v1.2.2.2.2])] (by simp) ?_
 refine qp (AI 0) rfl (qp (AB false) rfl ?_)
 refine r_nil ?_
 refine ws 192 384 ?_
 refine qp (AL 5 (v0.map eLesson)) rfl (qp (AI (v0.length : Int)) (ev_len_n rfl) (qp (AI (v0.length : Int)) rfl ?_))
 refine r_nil ?_
 refine ws 384 576 ?_
 refine qp (AI (v0.length : Int)) rfl (qp (AI 0) rfl (qp (AI (v0.length : Int)) rfl ?_))
 refine r_nil ?_
 refine w_seq ?_
 refine w_block ?_
 refine wr (l' := [(0, AL 5 (v0.map eLesson)), (2, .val none (.fn 104 [])), (4, .ptr 0 0 0), (8, AI (v0.length : Int)), (9, AI 0), (10, AI (v0.length : Int))]) (L := [(0, .box [AI v1.1, AS v1.2.1, AS v1.2.2.1, AI v1.2.2.2.1, AI v1.2.2.2.2])]) [0, 2, 4, 8, 9, 10] [(0, 0)] 1 ?_
 refine w_loopF (F_slices_BinarySearchFunc_SLesson_Lesson_l0 v0 v1) (fun s : Int × Int => mkS [(0, AL 5 (v0.map eLesson)), (2, .val none (.fn 104 [])), (4, .ptr 0 0 0), (8, AI (v0.length : Int)), (9, AI s.1), (10, AI s.2)] (fo [(0, .box [AI v1.1, AS v1.2.1, AS v1.2.2.1, AI v1.2.2.2.1, AI v1.2.2.2.2])]) 1) hF ?_
 rintro k0 ⟨v10, v11⟩ hF
 rw [F_slices_BinarySearchFunc_SLesson_Lesson_l0] at hF
 try dsimp only
 refine w_seq ?_
 refine ws 1 193 ?_
 refine qp (AI v10) rfl (qp (AI v11) rfl (qp (AB (decide (v10 < v11))) rfl ?_))
 refine r_nil ?_
 refine cF hF (fun hF => ?_) fun hF => ?_
 ·
  refine w_skip ?_
  refine thenQ_n ?_
  refine w_block ?_
  refine ws 193 641 ?_
  refine qp (AI v10) rfl (qp (AI v11) rfl (qp (AI (w64 (v10 + v11))) rfl (qp (.val none (.int .u64 (IntKind.wrap .u64 (w64 (v10 + v11))))) rfl ?_)))
  obtain ⟨g1000, hF⟩ := need_some hF
  refine qp (.val none (.int .u64 (Int.fdiv (IntKind.wrap .u64 (w64 (v10 + v11))) (2 ^ (min ((1 : Int)).toNat (IntKind.bits .u64)))))) (ev_shr rfl rfl g1000) (qp (AI (w64 (Int.fdiv (IntKind.wrap .u64 (w64 (v10 + v11))) (2 ^ (min ((1 : Int)).toNat (IntKind.bits .u64)))))) rfl (qp (AI (w64 (Int.fdiv (IntKind.wrap .u64 (w64 (v10 + v11))) (2 ^ (min ((1 : Int)).toNat (IntKind.bits .u64)))))) rfl ?_))
  refine r_nil ?_
  refine ws 641 1153 ?_
  refine qp (.val none (.fn 104 [])) rfl (qp (AL 5 (v0.map eLesson)) rfl (qp (AI (w64 (Int.fdiv (IntKind.wrap .u64 (w64 (v10 + v11))) (2 ^ (min ((1 : Int)).toNat (IntKind.bits .u64)))))) rfl ?_))
  obtain ⟨v1001, e1001, hF⟩ := bind_get hF
  refine qp (.val none (.ptr [.int .i64 v1001.1, .str v1001.2.1, .str v1001.2.2.1, .int .i64 v1001.2.2.2.1, .int .i64 v1001.2.2.2.2])) (ev_iad_n rfl rfl e1001 rfl) (qp (.val none (eLesson v1001)) rfl (qp (.agg [AI v1.1, AS v1.2.1, AS v1.2.2.1, AI v1.2.2.2.1, AI v1.2.2.2.2]) rfl ?_))
  obtain ⟨v1002, e1002, hF⟩ := bind_get hF
  refine qcv (AI v1002) [(0, .box [AI v1.1, AS v1.2.1, AS v1.2.2.1, AI v1.2.2.2.1, AI v1.2.2.2.2])] false rfl (con_impl_compareLessons e1002) c104_ok (by first | rfl | simp) rfl ?_
  refine qp (AB (decide (v1002 < (0 : Int)))) rfl ?_
  refine r_nil ?_
  refine cF hF (fun hF => ?_) fun hF => ?_
  ·
   refine w_reg 1153 1345 rfl rfl ?_
   refine qp (AI (w64 (Int.fdiv (IntKind.wrap .u64 (w64 (v10 + v11))) (2 ^ (min ((1 : Int)).toNat (IntKind.bits .u64)))))) rfl (qp (AI (w64 ((w64 (Int.fdiv (IntKind.wrap .u64 (w64 (v10 + v11))) (2 ^ (min ((1 : Int)).toNat (IntKind.bits .u64))))) + 1))) rfl (qp (AI (w64 ((w64 (Int.fdiv (IntKind.wrap .u64 (w64 (v10 + v11))) (2 ^ (min ((1 : Int)).toNat (IntKind.bits .u64))))) + 1))) rfl ?_))
   refine r_nil ?_
   refine blockQ_n ?_
   refine thenQ_n ?_
   refine ar (l' := [(0, AL 5 (v0.map eLesson)), (2, .val none (.fn 104 [])), (4, .ptr 0 0 0), (8, AI (v0.length : Int)), (9, AI (w64 ((w64 (Int.fdiv (IntKind.wrap .u64 (w64 (v10 + v11))) (2 ^ (min ((1 : Int)).toNat (IntKind.bits .u64))))) + 1))), (10, AI v11)]) (L := [(0, .box [AI v1.1, AS v1.2.1, AS v1.2.2.1, AI v1.2.2.2.1, AI v1.2.2.2.2])]) [0, 2, 4, 8, 9, 10] [(0, 0)] 1 ⟨_, by rfl, hF⟩
  ·
   refine w_reg 1153 1281 rfl rfl ?_
   refine qp (AI (w64 (Int.fdiv (IntKind.wrap .u64 (w64 (v10 + v11))) (2 ^ (min ((1 : Int)).toNat (IntKind.bits .u64)))))) rfl (qp (AI (w64 (Int.fdiv (IntKind.wrap .u64 (w64 (v10 + v11))) (2 ^ (min ((1 : Int)).toNat (IntKind.bits .u64)))))) rfl ?_)
   refine r_nil ?_
   refine blockQ_n ?_
   refine thenQ_n ?_
   refine ar (l' := [(0, AL 5 (v0.map eLesson)), (2, .val none (.fn 104 [])), (4, .ptr 0 0 0), (8, AI (v0.length : Int)), (9, AI v10), (10, AI (w64 (Int.fdiv (IntKind.wrap .u64 (w64 (v10 + v11))) (2 ^ (min ((1 : Int)).toNat (IntKind.bits .u64))))))]) (L := [(0, .box [AI v1.1, AS v1.2.1, AS v1.2.2.1, AI v1.2.2.2.1, AI v1.2.2.2.2])]) [0, 2, 4, 8, 9, 10] [(0, 0)] 1 ⟨_, by rfl, hF⟩
 ·
  refine w_exit ?_
  refine thenQ_e ?_
  refine thenQ_e ?_
  refine blockQ_e ?_
  refine thenQ_n ?_
  refine ws 193 1217 ?_
  refine qp (AI v10) rfl (qp (AI v10) rfl (qp (AI (v0.length : Int)) rfl (qp (AB (decide (v10 < (v0.length : Int)))) rfl (qp (AB (decide (v10 < (v0.length : Int)))) rfl ?_))))
  refine q_case 39 hF rfl (fun hF => ?_) (fun hF => ?_)
  ·
   refine qg (.val none (.fn 104 [])) rfl rfl (qg (AL 5 (v0.map eLesson)) rfl rfl (qg (AI v10) rfl rfl ?_))
   obtain ⟨v1003, e1003, hF⟩ := bind_get hF
   refine qg (.val none (.ptr [.int .i64 v1003.1, .str v1003.2.1, .str v1003.2.2.1, .int .i64 v1003.2.2.2.1, .int .i64 v1003.2.2.2.2])) rfl (ev_iad_n rfl rfl e1003 rfl) (qg (.val none (eLesson v1003)) rfl rfl (qg (.agg [AI v1.1, AS v1.2.1, AS v1.2.2.1, AI v1.2.2.2.1, AI v1.2.2.2.2]) rfl rfl ?_))
   obtain ⟨v1004, e1004, hF⟩ := bind_get hF
   refine qcvg (AI v1004) [(0, .box [AI v1.1, AS v1.2.1, AS v1.2.2.1, AI v1.2.2.2.1, AI v1.2.2.2.2])] false rfl rfl (con_impl_compareLessons e1004) c104_ok (by first | rfl | simp) rfl ?_
   refine qg (AB (decide (v1004 = (0 : Int)))) rfl rfl (qp (AB (decide (v1004 = (0 : Int)))) rfl (qp (AI v10) rfl (qp (AB (decide (v1004 = (0 : Int)))) rfl ?_)))
   refine r_nil ?_
   refine w_ret ?_
   cases hF
   exact eR
  ·
   refine qn rfl (qn rfl (qn rfl (qn rfl (qn rfl (qn rfl (qn rfl (qn rfl ?_)))))))
   refine qp (AB false) rfl (qp (AI v10) rfl (qp (AB false) rfl ?_))
   refine r_nil ?_
   refine w_ret ?_
   cases hF
   exact eR

def c107 : MC := (.seq (.reg [rg 2 (.f (.nilrow 5))]) (.seq (.seq (.reg [rg 3 (.p true (.mv (.t 0))), rg 4 (.p true (.isn false (.t 3)))]) (.cond (.t 4) (.seq (.reg [rg 2 (.f (.nilrow 5))]) .ret) .skip)) (.seq (.reg [rg 5 (.f (.bsl 5 [])), rg 6 (.p true (.mv (.t 0))), rg 7 (.f (.app (.t 5) (.t 6) 5 56 false)), rg 2 (.p true (.mv (.t 7)))]) .ret)))
theorem c107_is : compFn Try.prog 107 = some (c107, [(.tmp 2)]) := by kernel_rfl
theorem c107_ok : okFn Try.prog 107 = true := by kernel_rfl

noncomputable def F_slices_Clone_SLesson_Lesson_j0 (v0 : List TLesson) : Option (List TLesson) :=
 (need (room (v0.length) 56) (some v0))
noncomputable def F_slices_Clone_SLesson_Lesson (v0 : List TLesson) : Option (List TLesson) :=
 (bif (decide (v0.length = 0)) then (both (some []) (F_slices_Clone_SLesson_Lesson_j0 v0))
 else F_slices_Clone_SLesson_Lesson_j0 v0)
@[simp] def res_slices_Clone_SLesson_Lesson (r : List TLesson) : RV := .one (.one (.row true 5 (r.map eLesson)))
theorem con_slices_Clone_SLesson_Lesson {v0 : List TLesson} {r : List TLesson} (hF : F_slices_Clone_SLesson_Lesson v0 = some r) : Con Try.prog 107 [.sl 5 (v0.map eLesson)] (res_slices_Clone_SLesson_Lesson r) := by
 unfold F_slices_Clone_SLesson_Lesson at hF
 refine con_of c107_is fun N => ?_
 refine ws 0 64 ?_
 refine qf (.sl 0 0 0) [(0, .row true 5 (([] : List Int).map (V.int .i64)))] (by simp) ?_
 refine r_nil ?_
 refine w_meet (fun s' => s' = mkS [(0, AL 5 (v0.map eLesson))] (fo []) 1 ∧ F_slices_Clone_SLesson_Lesson_j0 v0 = some r) ?_ ?_
 ·
  refine ws 64 192 ?_
  refine qp (AL 5 (v0.map eLesson)) rfl ?_
  refine b_case hF (fun z1000 hF => ?_) (fun z1000 hF => ?_)
  ·
   refine qp .ub (isn_e (by simpa using z1000)) ?_
   refine r_nil ?_
   refine w_condUF hF rfl (fun hF => ?_) (fun hF => ?_)
   ·
    refine ws 192 256 ?_
    refine qf (.sl 192 0 0) [(192, .row true 5 (([] : List TLesson).map eLesson)), (0, .row true 5 (([] : List Int).map (V.int .i64)))] (by simp) ?_
    refine r_nil ?_
    refine w_ret ?_
    refine thenQ_r ?_
    cases hF
    exact eR
   ·
    refine w_skip ?_
    refine thenQ_n ?_
    refine aw_ren (l' := [(0, AL 5 (v0.map eLesson))]) (L := []) [0] [] 1 (by first | rfl | simp) (by first | rfl | simp) (by decide) (by decide) (by decide) ⟨rfl, hF⟩
  ·
   refine qp (AB false) (isn_n (by simpa using z1000)) ?_
   refine r_nil ?_
   refine w_false rfl ?_
   refine w_skip ?_
   refine thenQ_n ?_
   refine aw_ren (l' := [(0, AL 5 (v0.map eLesson))]) (L := []) [0] [] 1 (by first | rfl | simp) (by first | rfl | simp) (by decide) (by decide) (by decide) ⟨rfl, hF⟩
 ·
  rintro s' ⟨rfl, hF⟩
  unfold F_slices_Clone_SLesson_Lesson_j0 at hF
  refine ws 1 257 ?_
  refine qf (.sl 1 0 0) [(1, .row true 5 (([] : List TLesson).map eLesson))] (by simp [List.take_of_length_le]) ?_
  refine qp (AL 5 (v0.map eLesson)) rfl ?_
  obtain ⟨g1001, hF⟩ := need_some hF
  refine qf (.sl 129 0 v0.length) [(129, .row true 5 (v0.map eLesson)), (1, .dead), (1, .row true 5 (([] : List TLesson).map eLesson))] (effT_app_v0 rfl (by simp) rfl rfl (fun _ => rfl) g1001) ?_
  refine qp (.sl 129 0 v0.length) rfl ?_
  refine r_nil ?_
  refine w_ret ?_
  cases hF
  exact eR

theorem c106_ok : okFn Try.prog 106 = true := by kernel_rfl




def c58 : MC := (.seq (.reg [rg 3 (.f (.box (.t 1))), rg 4 (.f (.nilrow 5)), rg 5 (.p true (.mv (.c (.int .i64 0))))]) (.seq (.seq (.reg [rg 9 (.p true (.mv (.t 0))), rg 10 (.call true 102 [(.t 9)]), rg 11 (.p true (.not (.t 10)))]) (.cond (.t 11) (.seq (.reg [rg 4 (.f (.nilrow 5)), rg 5 (.p true (.mv (.c (.int .i64 1))))]) .ret) .skip)) (.seq (.reg [rg 13 (.p true (.mv (.t 0))), rg 14 (.p true (.ld (.t 3) 5 true)), rg 15 (.call true 103 [(.t 13), (.t 14), (.f 104)]), rg 12 (.p true (.mv (.t 15))), rg 16 (.p true (.ext (.t 12) 0)), rg 17 (.p true (.ext (.t 12) 1)), rg 6 (.p true (.mv (.t 16))), rg 7 (.p true (.mv (.t 17)))]) (.seq (.block 0 (.seq (.reg [rg 19 (.p true (.ld (.t 3) 5 true)), rg 20 (.call true 105 [(.t 19)]), rg 21 (.p true (.not (.t 20))), rg 18 (.p true (.mv (.t 21)))]) (.cond (.t 18) (.seq (.reg [rg 4 (.f (.nilrow 5)), rg 5 (.p true (.mv (.c (.int .i64 2))))]) .ret) (.seq (.reg [rg 23 (.p true (.mv (.t 7))), rg 22 (.p true (.mv (.t 23)))]) (.cond (.t 22) (.seq (.reg [rg 4 (.f (.nilrow 5)), rg 5 (.p true (.mv (.c (.int .i64 4))))]) .ret) .skip))))) (.seq (.reg [rg 24 (.p false (.mv (.t 0))), rg 25 (.call false 107 [(.t 24)]), rg 26 (.p false (.mv (.t 6))), rg 27 (.p false (.ld (.t 3) 5 true)), rg 28 (.f (.bslp 5 [(.t 27)])), rg 29 (.call true 106 [(.t 25), (.t 26), (.t 28)]), rg 8 (.p false (.mv (.t 29)))]) (.seq (.seq (.reg [rg 30 (.p true (.mv (.t 8))), rg 31 (.p true (.len (.t 30))), rg 32 (.p true (.bin .gtr (.t 31) (.c (.int .i64 64)))), rg 33 (.p true (.mv (.t 32))), ⟨(some 34), (some (33, false)), (.p true (.mv (.t 8)))⟩, ⟨(some 35), (some (33, false)), (.call true 108 [(.t 34)])⟩, ⟨(some 36), (some (33, false)), (.p true (.len (.t 35)))⟩, ⟨(some 37), (some (33, false)), (.p true (.bin .gtr (.t 36) (.c (.int .i64 12))))⟩, rg 38 (.p true (.pick (.t 33) (.c (.bool true)) (.t 37)))]) (.cond (.t 38) (.seq (.reg [rg 4 (.f (.nilrow 5)), rg 5 (.p true (.mv (.c (.int .i64 5))))]) .ret) .skip)) (.seq (.reg [rg 39 (.p true (.mv (.t 8))), rg 4 (.p true (.mv (.t 39))), rg 5 (.p true (.mv (.c (.int .i64 0))))]) .ret)))))))
theorem c58_is : compFn Try.prog 58 = some (c58, [(.tmp 4), (.tmp 5)]) := by kernel_rfl
theorem c58_ok : okFn Try.prog 58 = true := by kernel_rfl

noncomputable def F_impl_AddLesson (v0 : List TLesson) (v1 : TLesson) : Option ((List TLesson) × Int) :=
 ((F_impl_ValidLessons v0).bind fun v1000 => (bif (!v1000) then some ([], 1)
 else ((F_slices_BinarySearchFunc_SLesson_Lesson v0 v1).bind fun v1001 => ((F_impl_Lesson_valid v1).bind fun v1002 => (bif (!v1002) then some ([], 2)
 else (bif v1001.2 then some ([], 4)
 else ((F_slices_Clone_SLesson_Lesson v0).bind fun v1003 => ((F_ins 56 v1003 v1001.1 [v1]).bind fun v1004 => (bif (decide ((64 : Int) < (v1004.length : Int))) then some ([], 5)
 else ((F_impl_pupilsOf v1004).bind fun v1005 => (bif (decide ((12 : Int) < (v1005.length : Int))) then some ([], 5)
 else some (v1004, 0))))))))))))
@[simp] def res_impl_AddLesson (r : (List TLesson) × Int) : RV := .tup [.one (.row true 5 (r.1.map eLesson)), .one (.val (.int .i64 r.2))]
theorem con_impl_AddLesson {v0 : List TLesson} {v1 : TLesson} {r : (List TLesson) × Int} (hF : F_impl_AddLesson v0 v1 = some r) : Con Try.prog 58 [.sl 5 (v0.map eLesson), eLesson v1] (res_impl_AddLesson r) := by
 unfold F_impl_AddLesson at hF
 refine con_of c58_is fun N => ?_
 refine ws 0 192 ?_
 refine qf (.ptr 0 0 0) [(0, .box [AI v1.1, AS v1.2.1, AS v1.2.2.1, AI v1.2.2.2.1, AI v1.2.2.2.2])] (by simp) ?_
 refine qf (.sl 64 0 0) [(64, .row true 5 (([] : List Int).map (V.int .i64))), (0, .box [AI v1.1, AS v1.2.1, AS v1.2.2.1, AI v1.2.2.2.1, AI v1.2.2.2.2])] (by simp) ?_
 refine qp (AI 0) rfl ?_
 refine r_nil ?_
 refine w_seq ?_
 refine ws 192 384 ?_
 refine qp (AL 5 (v0.map eLesson)) rfl ?_
 obtain ⟨v1000, e1000, hF⟩ := bind_get hF
 refine qc (AB v1000) [(64, .row true 5 (([] : List Int).map (V.int .i64))), (0, .box [AI v1.1, AS v1.2.1, AS v1.2.2.1, AI v1.2.2.2.1, AI v1.2.2.2.2])] false (con_impl_ValidLessons e1000) c102_ok (by first | rfl | simp) rfl ?_
 refine qp (AB (!v1000)) rfl ?_
 refine r_nil ?_
 refine cF hF (fun hF => ?_) fun hF => ?_
 ·
  refine ws 384 512 ?_
  refine qf (.sl 384 0 0) [(384, .row true 5 (([] : List TLesson).map eLesson)), (64, .row true 5 (([] : List Int).map (V.int .i64))), (0, .box [AI v1.1, AS v1.2.1, AS v1.2.2.1, AI v1.2.2.2.1, AI v1.2.2.2.2])] (by simp) ?_
  refine qp (AI 1) rfl ?_
  refine r_nil ?_
  refine w_ret ?_
  refine thenQ_r ?_
  cases hF
  exact eR
 ·
  refine w_skip ?_
  refine thenQ_n ?_
  refine ws 384 896 ?_
  refine qp (AL 5 (v0.map eLesson)) rfl (qp (.agg [AI v1.1, AS v1.2.1, AS v1.2.2.1, AI v1.2.2.2.1, AI v1.2.2.2.2]) rfl ?_)
  obtain ⟨v1001, e1001, hF⟩ := bind_get hF
  refine qc (.tup [AI v1001.1, AB v1001.2]) [(64, .row true 5 (([] : List Int).map (V.int .i64))), (0, .box [AI v1.1, AS v1.2.1, AS v1.2.2.1, AI v1.2.2.2.1, AI v1.2.2.2.2])] false (con_slices_BinarySearchFunc_SLesson_Lesson e1001) c103_ok (by first | rfl | simp) rfl ?_
  refine qp (.tup [AI v1001.1, AB v1001.2]) rfl (qp (AI v1001.1) rfl (qp (AB v1001.2) rfl (qp (AI v1001.1) rfl (qp (AB v1001.2) rfl ?_))))
  refine r_nil ?_
  refine w_seq ?_
  refine w_block ?_
  refine ws 896 1152 ?_
  refine qp (.agg [AI v1.1, AS v1.2.1, AS v1.2.2.1, AI v1.2.2.2.1, AI v1.2.2.2.2]) rfl ?_
  obtain ⟨v1002, e1002, hF⟩ := bind_get hF
  refine qc (AB v1002) [(64, .row true 5 (([] : List Int).map (V.int .i64))), (0, .box [AI v1.1, AS v1.2.1, AS v1.2.2.1, AI v1.2.2.2.1, AI v1.2.2.2.2])] false (con_impl_Lesson_valid e1002) c105_ok (by first | rfl | simp) rfl ?_
  refine qp (AB (!v1002)) rfl (qp (AB (!v1002)) rfl ?_)
  refine r_nil ?_
  refine cF hF (fun hF => ?_) fun hF => ?_
  ·
   refine ws 1152 1280 ?_
   refine qf (.sl 1152 0 0) [(1152, .row true 5 (([] : List TLesson).map eLesson)), (64, .row true 5 (([] : List Int).map (V.int .i64))), (0, .box [AI v1.1, AS v1.2.1, AS v1.2.2.1, AI v1.2.2.2.1, AI v1.2.2.2.2])] (by simp) ?_
   refine qp (AI 2) rfl ?_
   refine r_nil ?_
   refine w_ret ?_
   refine blockQ_r ?_
   refine thenQ_r ?_
   cases hF
   exact eR
  ·
   refine ws 1152 1280 ?_
   refine qp (AB v1001.2) rfl (qp (AB v1001.2) rfl ?_)
   refine r_nil ?_
   refine cF hF (fun hF => ?_) fun hF => ?_
   ·
    refine ws 1280 1408 ?_
    refine qf (.sl 1280 0 0) [(1280, .row true 5 (([] : List TLesson).map eLesson)), (64, .row true 5 (([] : List Int).map (V.int .i64))), (0, .box [AI v1.1, AS v1.2.1, AS v1.2.2.1, AI v1.2.2.2.1, AI v1.2.2.2.2])] (by simp) ?_
    refine qp (AI 4) rfl ?_
    refine r_nil ?_
    refine w_ret ?_
    refine blockQ_r ?_
    refine thenQ_r ?_
    cases hF
    exact eR
   ·
    refine w_skip ?_
    refine blockQ_n ?_
    refine thenQ_n ?_
    refine ws 1280 1728 ?_
    refine qp (AL 5 (v0.map eLesson)) rfl ?_
    obtain ⟨v1003, e1003, hF⟩ := bind_get hF
    refine qc (.sl 1344 0 v1003.length) [(1344, .row true 5 (v1003.map eLesson)), (64, .row true 5 (([] : List Int).map (V.int .i64))), (0, .box [AI v1.1, AS v1.2.1, AS v1.2.2.1, AI v1.2.2.2.1, AI v1.2.2.2.2])] false (con_slices_Clone_SLesson_Lesson e1003) c107_ok (by first | rfl | simp) (by simp [res_slices_Clone_SLesson_Lesson]) ?_
    refine qp (AI v1001.1) rfl (qp (.agg [AI v1.1, AS v1.2.1, AS v1.2.2.1, AI v1.2.2.2.1, AI v1.2.2.2.2]) rfl ?_)
    refine qf (.sl 1536 0 ([v1].length)) [(1536, .row true 5 ([v1].map eLesson)), (1344, .row true 5 (v1003.map eLesson)), (64, .row true 5 (([] : List Int).map (V.int .i64))), (0, .box [AI v1.1, AS v1.2.1, AS v1.2.2.1, AI v1.2.2.2.1, AI v1.2.2.2.2])] (by simp [List.take_of_length_le]) ?_
    obtain ⟨v1004, e1004, hF⟩ := bind_get hF
    refine qX (.sl 1600 0 v1004.length) [(1600, .row true 5 (v1004.map eLesson)), (1344, .dead), (1536, .row true 5 ([v1].map eLesson)), (1344, .row true 5 (v1003.map eLesson)), (64, .row true 5 (([] : List Int).map (V.int .i64))), (0, .box [AI v1.1, AS v1.2.1, AS v1.2.2.1, AI v1.2.2.2.1, AI v1.2.2.2.2])] true rfl rfl (whole_row (by simp)) (con_ins_106 (e := eLesson) e1004) c106_ok (by simp [List.take_of_length_le]) (by simp [RV.r]) ?_
    refine qp (.sl 1600 0 v1004.length) rfl ?_
    refine r_nil ?_
    refine w_seq ?_
    refine ws 1728 2304 ?_
    refine qp (.sl 1600 0 v1004.length) rfl (qp (AI (v1004.length : Int)) rfl (qp (AB (decide ((64 : Int) < (v1004.length : Int)))) rfl (qp (AB (decide ((64 : Int) < (v1004.length : Int)))) rfl ?_)))
    refine q_case 33 hF rfl (fun hF => ?_) (fun hF => ?_)
    ·
     refine qn rfl (qn rfl (qn rfl (qn rfl (qp (AB true) rfl ?_))))
     refine r_nil ?_
     refine w_true rfl ?_
     refine ws 2304 2432 ?_
     refine qf (.sl 2304 0 0) [(2304, .row true 5 (([] : List TLesson).map eLesson)), (1600, .row true 5 (v1004.map eLesson)), (1344, .dead), (1536, .row true 5 ([v1].map eLesson)), (1344, .row true 5 (v1003.map eLesson)), (64, .row true 5 (([] : List Int).map (V.int .i64))), (0, .box [AI v1.1, AS v1.2.1, AS v1.2.2.1, AI v1.2.2.2.1, AI v1.2.2.2.2])] (by simp) ?_
     refine qp (AI 5) rfl ?_
     refine r_nil ?_
     refine w_ret ?_
     refine thenQ_r ?_
     cases hF
     exact eR
    ·
     refine qg (.sl 1600 0 v1004.length) rfl rfl ?_
     obtain ⟨v1005, e1005, hF⟩ := bind_get hF
     refine qcg (.sl 2048 0 v1005.length) [(2048, .row true 1 (v1005.map V.str)), (1600, .row true 5 (v1004.map eLesson)), (1344, .dead), (1536, .row true 5 ([v1].map eLesson)), (1344, .row true 5 (v1003.map eLesson)), (64, .row true 5 (([] : List Int).map (V.int .i64))), (0, .box [AI v1.1, AS v1.2.1, AS v1.2.2.1, AI v1.2.2.2.1, AI v1.2.2.2.2])] true rfl (con_impl_pupilsOf e1005) c108_ok (by simp [List.take_of_length_le]) (by simp [res_impl_pupilsOf]) ?_
     refine qg (AI (v1005.length : Int)) rfl rfl (qg (AB (decide ((12 : Int) < (v1005.length : Int)))) rfl rfl (qp (AB (decide ((12 : Int) < (v1005.length : Int)))) rfl ?_))
     refine r_nil ?_
     refine cF hF (fun hF => ?_) fun hF => ?_
     ·
      refine ws 2304 2432 ?_
      refine qf (.sl 2304 0 0) [(2304, .row true 5 (([] : List TLesson).map eLesson)), (2048, .row true 1 (v1005.map V.str)), (1600, .row true 5 (v1004.map eLesson)), (1344, .dead), (1536, .row true 5 ([v1].map eLesson)), (1344, .row true 5 (v1003.map eLesson)), (64, .row true 5 (([] : List Int).map (V.int .i64))), (0, .box [AI v1.1, AS v1.2.1, AS v1.2.2.1, AI v1.2.2.2.1, AI v1.2.2.2.2])] (by simp) ?_
      refine qp (AI 5) rfl ?_
      refine r_nil ?_
      refine w_ret ?_
      refine thenQ_r ?_
      cases hF
      exact eR
     ·
      refine w_skip ?_
      refine thenQ_n ?_
      refine ws 2304 2496 ?_
      refine qp (.sl 1600 0 v1004.length) rfl (qp (.sl 1600 0 v1004.length) rfl (qp (AI 0) rfl ?_))
      refine r_nil ?_
      refine w_ret ?_
      cases hF
      exact eR

def c109 : MC := (.seq (.reg [rg 2 (.f (.box (.t 0))), rg 3 (.f (.box (.t 1))), rg 4 (.p true (.mv (.c (.bool false))))]) (.seq (.seq (.reg [rg 5 (.p true (.fad (.t 2) 0)), rg 6 (.p true (.ld (.t 5) 1 false)), rg 7 (.p true (.fad (.t 3) 0)), rg 8 (.p true (.ld (.t 7) 1 false)), rg 9 (.p true (.bin .neq (.t 6) (.t 8)))]) (.cond (.t 9) (.seq (.reg [rg 4 (.p true (.mv (.c (.bool false))))]) .ret) .skip)) (.seq (.seq (.reg [rg 10 (.p true (.fad (.t 2) 1)), rg 11 (.p true (.ld (.t 10) 1 false)), rg 12 (.p true (.fad (.t 3) 1)), rg 13 (.p true (.ld (.t 12) 1 false)), rg 14 (.p true (.bin .neq (.t 11) (.t 13)))]) (.cond (.t 14) (.seq (.reg [rg 4 (.p true (.mv (.c (.bool false))))]) .ret) .skip)) (.seq (.seq (.reg [rg 15 (.p true (.fad (.t 2) 2)), rg 16 (.p true (.ld (.t 15) 1 false)), rg 17 (.p true (.fad (.t 3) 2)), rg 18 (.p true (.ld (.t 17) 1 false)), rg 19 (.p true (.bin .neq (.t 16) (.t 18)))]) (.cond (.t 19) (.seq (.reg [rg 4 (.p true (.mv (.c (.bool false))))]) .ret) .skip)) (.seq (.seq (.reg [rg 20 (.p true (.fad (.t 2) 3)), rg 21 (.p true (.ld (.t 20) 1 false)), rg 22 (.p true (.fad (.t 3) 3)), rg 23 (.p true (.ld (.t 22) 1 false)), rg 24 (.p true (.bin .neq (.t 21) (.t 23)))]) (.cond (.t 24) (.seq (.reg [rg 4 (.p true (.mv (.c (.bool false))))]) .ret) .skip)) (.seq (.seq (.reg [rg 25 (.p true (.fad (.t 2) 4)), rg 26 (.p true (.ld (.t 25) 1 false)), rg 27 (.p true (.fad (.t 3) 4)), rg 28 (.p true (.ld (.t 27) 1 false)), rg 29 (.p true (.bin .neq (.t 26) (.t 28)))]) (.cond (.t 29) (.seq (.reg [rg 4 (.p true (.mv (.c (.bool false))))]) .ret) .skip)) (.seq (.reg [rg 4 (.p true (.mv (.c (.bool true))))]) .ret)))))))
theorem c109_is : compFn Try.prog 109 = some (c109, [(.tmp 4)]) := by kernel_rfl
theorem c109_ok : okFn Try.prog 109 = true := by kernel_rfl

noncomputable def F_laws_eqLesson (v0 : TLesson) (v1 : TLesson) : Option (Bool) :=
 (bif (decide (v0.1 ≠ v1.1)) then some false
 else (bif (decide (v0.2.1 ≠ v1.2.1)) then some false
 else (bif (decide (v0.2.2.1 ≠ v1.2.2.1)) then some false
 else (bif (decide (v0.2.2.2.1 ≠ v1.2.2.2.1)) then some false
 else (bif (decide (v0.2.2.2.2 ≠ v1.2.2.2.2)) then some false
 else some true)))))
@[simp] def res_laws_eqLesson (r : Bool) : RV := .one (.one (.val (.bool r)))
theorem con_laws_eqLesson {v0 : TLesson} {v1 : TLesson} {r : Bool} (hF : F_laws_eqLesson v0 v1 = some r) : Con Try.prog 109 [eLesson v0, eLesson v1] (res_laws_eqLesson r) := by
 unfold F_laws_eqLesson at hF
 refine con_of c109_is fun N => ?_
 refine ws 0 192 ?_
 refine qf (.ptr 0 0 0) [(0, .box [AI v0.1, AS v0.2.1, AS v0.2.2.1, AI v0.2.2.2.1, AI v0.2.2.2.2])] (by simp) ?_
 refine qf (.ptr 64 0 0) [(64, .box [AI v1.1, AS v1.2.1, AS v1.2.2.1, AI v1.2.2.2.1, AI v1.2.2.2.2]), (0, .box [AI v0.1, AS v0.2.1, AS v0.2.2.1, AI v0.2.2.2.1, AI v0.2.2.2.2])] (by simp) ?_
 refine qp (AB false) rfl ?_
 refine r_nil ?_
 refine w_seq ?_
 refine ws 192 512 ?_
 refine qp (.ptr 0 0 0) rfl (qp (AI v0.1) rfl (qp (.ptr 64 0 0) rfl (qp (AI v1.1) rfl (qp (AB (decide (v0.1 ≠ v1.1))) rfl ?_))))
 refine r_nil ?_
 refine cF hF (fun hF => ?_) fun hF => ?_
 ·
  refine ws 512 576 ?_
  refine qp (AB false) rfl ?_
  refine r_nil ?_
  refine w_ret ?_
  refine thenQ_r ?_
  cases hF
  exact eR
 ·
  refine w_skip ?_
  refine thenQ_n ?_
  refine w_seq ?_
  refine ws 512 832 ?_
  refine qp (.ptr 0 0 1) rfl (qp (AS v0.2.1) rfl (qp (.ptr 64 0 1) rfl (qp (AS v1.2.1) rfl (qp (AB (decide (v0.2.1 ≠ v1.2.1))) rfl ?_))))
  refine r_nil ?_
  refine cF hF (fun hF => ?_) fun hF => ?_
  ·
   refine ws 832 896 ?_
   refine qp (AB false) rfl ?_
   refine r_nil ?_
   refine w_ret ?_
   refine thenQ_r ?_
   cases hF
   exact eR
  ·
   refine w_skip ?_
   refine thenQ_n ?_
   refine w_seq ?_
   refine ws 832 1152 ?_
   refine qp (.ptr 0 0 2) rfl (qp (AS v0.2.2.1) rfl (qp (.ptr 64 0 2) rfl (qp (AS v1.2.2.1) rfl (qp (AB (decide (v0.2.2.1 ≠ v1.2.2.1))) rfl ?_))))
   refine r_nil ?_
   refine cF hF (fun hF => ?_) fun hF => ?_
   ·
    refine ws 1152 1216 ?_
    refine qp (AB false) rfl ?_
    refine r_nil ?_
    refine w_ret ?_
    refine thenQ_r ?_
    cases hF
    exact eR
   ·
    refine w_skip ?_
    refine thenQ_n ?_
    refine w_seq ?_
    refine ws 1152 1472 ?_
    refine qp (.ptr 0 0 3) rfl (qp (AI v0.2.2.2.1) rfl (qp (.ptr 64 0 3) rfl (qp (AI v1.2.2.2.1) rfl (qp (AB (decide (v0.2.2.2.1 ≠ v1.2.2.2.1))) rfl ?_))))
    refine r_nil ?_
    refine cF hF (fun hF => ?_) fun hF => ?_
    ·
     refine ws 1472 1536 ?_
     refine qp (AB false) rfl ?_
     refine r_nil ?_
     refine w_ret ?_
     refine thenQ_r ?_
     cases hF
     exact eR
    ·
     refine w_skip ?_
     refine thenQ_n ?_
     refine w_seq ?_
     refine ws 1472 1792 ?_
     refine qp (.ptr 0 0 4) rfl (qp (AI v0.2.2.2.2) rfl (qp (.ptr 64 0 4) rfl (qp (AI v1.2.2.2.2) rfl (qp (AB (decide (v0.2.2.2.2 ≠ v1.2.2.2.2))) rfl ?_))))
     refine r_nil ?_
     refine cF hF (fun hF => ?_) fun hF => ?_
     ·
      refine ws 1792 1856 ?_
      refine qp (AB false) rfl ?_
      refine r_nil ?_
      refine w_ret ?_
      refine thenQ_r ?_
      cases hF
      exact eR
     ·
      refine w_skip ?_
      refine thenQ_n ?_
      refine ws 1792 1856 ?_
      refine qp (AB true) rfl ?_
      refine r_nil ?_
      refine w_ret ?_
      cases hF
      exact eR

def c59 : MC := (.seq (.reg [rg 4 (.p true (.mv (.c (.bool false))))]) (.seq (.seq (.reg [rg 6 (.p true (.mv (.t 0))), rg 7 (.p true (.len (.t 6))), rg 8 (.p true (.mv (.t 1))), rg 9 (.p true (.len (.t 8))), rg 10 (.p true (.bin .neq (.t 7) (.t 9)))]) (.cond (.t 10) (.seq (.reg [rg 4 (.p true (.mv (.c (.bool false))))]) .ret) .skip)) (.seq (.seq (.reg [rg 5 (.p true (.mv (.c (.int .i64 0))))]) (.block 0 (.loop (.seq (.seq (.reg [rg 11 (.p true (.mv (.t 5))), rg 12 (.p true (.mv (.t 0))), rg 13 (.p true (.len (.t 12))), rg 14 (.p true (.bin .lss (.t 11) (.t 13)))]) (.cond (.t 14) .skip (.exit 0))) (.seq (.block 1 (.seq (.reg [rg 17 (.p false (.mv (.t 0))), rg 18 (.p false (.mv (.t 5))), rg 19 (.p false (.iad (.t 17) (.t 18) 5)), rg 20 (.p false (.ld (.t 19) 5 true)), rg 21 (.p false (.mv (.t 1))), rg 22 (.p false (.mv (.t 5))), rg 23 (.p false (.iad (.t 21) (.t 22) 5)), rg 24 (.p false (.ld (.t 23) 5 true)), rg 25 (.call false 109 [(.t 20), (.t 24)]), rg 26 (.p false (.not (.t 25)))]) (.cond (.t 26) (.seq (.reg [rg 4 (.p true (.mv (.c (.bool false))))]) .ret) .skip))) (.reg [rg 15 (.p true (.mv (.t 5))), rg 16 (.p true (.bin .add (.t 15) (.c (.int .i64 1)))), rg 5 (.p true (.mv (.t 16)))])))))) (.seq (.reg [rg 4 (.p true (.mv (.c (.bool true))))]) .ret))))
theorem c59_is : compFn Try.prog 59 = some (c59, [(.tmp 4)]) := by kernel_rfl
theorem c59_ok : okFn Try.prog 59 = true := by kernel_rfl

noncomputable def F_laws_eqLessonS_l0 (v0 : List TLesson) (v1 : List TLesson) (k0 : Int → Option (Bool)) : Int → Option (Bool)
 | v9 => (bif (decide (v9 < (v0.length : Int))) then ((ix v0 v9).bind fun v1000 => ((ix v1 v9).bind fun v1001 => ((F_laws_eqLesson v1000 v1001).bind fun v1002 => (bif (!v1002) then some false
 else k0 (w64 (v9 + 1))))))
 else some true)
noncomputable def F_laws_eqLessonS (v0 : List TLesson) (v1 : List TLesson) : Option (Bool) :=
 (bif (decide ((v0.length : Int) ≠ (v1.length : Int))) then some false
 else loop (F_laws_eqLessonS_l0 v0 v1) 0)
@[simp] def res_laws_eqLessonS (r : Bool) : RV := .one (.one (.val (.bool r)))
theorem con_laws_eqLessonS {v0 : List TLesson} {v1 : List TLesson} {r : Bool} (hF : F_laws_eqLessonS v0 v1 = some r) : Con Try.prog 59 [.sl 5 (v0.map eLesson), .sl 5 (v1.map eLesson)] (res_laws_eqLessonS r) := by
 unfold F_laws_eqLessonS at hF
 refine con_of c59_is fun N => ?_
 refine ws 0 64 ?_
 refine qp (AB false) rfl ?_
 refine r_nil ?_
 refine w_seq ?_
 refine ws 64 384 ?_
 refine qp (AL 5 (v0.map eLesson)) rfl (qp (AI (v0.length : Int)) (ev_len_n rfl) (qp (AL 5 (v1.map eLesson)) rfl (qp (AI (v1.length : Int)) (ev_len_n rfl) (qp (AB (decide ((v0.length : Int) ≠ (v1.length : Int)))) rfl ?_))))
 refine r_nil ?_
 refine cF hF (fun hF => ?_) fun hF => ?_
 ·
  refine ws 384 448 ?_
  refine qp (AB false) rfl ?_
  refine r_nil ?_
  refine w_ret ?_
  refine thenQ_r ?_
  cases hF
  exact eR
 ·
  refine w_skip ?_
  refine thenQ_n ?_
  refine w_seq ?_
  refine ws 384 448 ?_
  refine qp (AI 0) rfl ?_
  refine r_nil ?_
  refine w_block ?_
  refine wr (l' := [(0, AL 5 (v0.map eLesson)), (1, AL 5 (v1.map eLesson)), (5, AI 0)]) (L := []) [0, 1, 5] [] 1 ?_
  refine w_loopF (F_laws_eqLessonS_l0 v0 v1) (fun s : Int => mkS [(0, AL 5 (v0.map eLesson)), (1, AL 5 (v1.map eLesson)), (5, AI s)] (fo []) 1) hF ?_
  rintro k0 v9 hF
  rw [F_laws_eqLessonS_l0] at hF
  try dsimp only
  refine w_seq ?_
  refine ws 1 257 ?_
  refine qp (AI v9) rfl (qp (AL 5 (v0.map eLesson)) rfl (qp (AI (v0.length : Int)) (ev_len_n rfl) (qp (AB (decide (v9 < (v0.length : Int)))) rfl ?_)))
  refine r_nil ?_
  refine cF hF (fun hF => ?_) fun hF => ?_
  ·
   refine w_skip ?_
   refine thenQ_n ?_
   refine w_seq ?_
   refine w_block ?_
   refine ws 257 897 ?_
   refine qp (AL 5 (v0.map eLesson)) rfl (qp (AI v9) rfl ?_)
   obtain ⟨v1000, e1000, hF⟩ := bind_get hF
   refine qp (.val none (.ptr [.int .i64 v1000.1, .str v1000.2.1, .str v1000.2.2.1, .int .i64 v1000.2.2.2.1, .int .i64 v1000.2.2.2.2])) (ev_iad_n rfl rfl e1000 rfl) (qp (.val none (eLesson v1000)) rfl (qp (AL 5 (v1.map eLesson)) rfl (qp (AI v9) rfl ?_)))
   obtain ⟨v1001, e1001, hF⟩ := bind_get hF
   refine qp (.val none (.ptr [.int .i64 v1001.1, .str v1001.2.1, .str v1001.2.2.1, .int .i64 v1001.2.2.2.1, .int .i64 v1001.2.2.2.2])) (ev_iad_n rfl rfl e1001 rfl) (qp (.val none (eLesson v1001)) rfl ?_)
   obtain ⟨v1002, e1002, hF⟩ := bind_get hF
   refine qc (AB v1002) [] false (con_laws_eqLesson e1002) c109_ok (by first | rfl | simp) rfl ?_
   refine qp (AB (!v1002)) rfl ?_
   refine r_nil ?_
   refine cF hF (fun hF => ?_) fun hF => ?_
   ·
    refine ws 897 961 ?_
    refine qp (AB false) rfl ?_
    refine r_nil ?_
    refine w_ret ?_
    refine blockQ_r ?_
    refine thenQ_r ?_
    refine thenQ_r ?_
    refine blockQ_r ?_
    refine thenQ_r ?_
    cases hF
    exact eR
   ·
    refine w_skip ?_
    refine blockQ_n ?_
    refine thenQ_n ?_
    refine w_reg 897 1089 rfl rfl ?_
    refine qp (AI v9) rfl (qp (AI (w64 (v9 + 1))) rfl (qp (AI (w64 (v9 + 1))) rfl ?_))
    refine r_nil ?_
    refine thenQ_n ?_
    refine ar (l' := [(0, AL 5 (v0.map eLesson)), (1, AL 5 (v1.map eLesson)), (5, AI (w64 (v9 + 1)))]) (L := []) [0, 1, 5] [] 1 ⟨_, by rfl, hF⟩
  ·
   refine w_exit ?_
   refine thenQ_e ?_
   refine thenQ_e ?_
   refine blockQ_e ?_
   refine thenQ_n ?_
   refine ws 257 321 ?_
   refine qp (AB true) rfl ?_
   refine r_nil ?_
   refine w_ret ?_
   cases hF
   exact eR

end Go.Ab
