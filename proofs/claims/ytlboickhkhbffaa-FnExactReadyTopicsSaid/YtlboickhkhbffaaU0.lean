/- Walks (printed by auto.py, a program of this session's own). -/
import Derived.Test.YtlboickhkhbffaaS0
import Derived.Test.YtlboickhkhbffaaProg
import Derived.KernelRfl
import Derived.Test.YtlboickhkhbffaaSQ
set_option linter.unusedVariables false
set_option linter.unusedSimpArgs false
set_option maxRecDepth 8000
set_option maxHeartbeats 8000000
namespace Go.Ab
open Go.RowKit Go.Proofs

abbrev TLesson := Int × (List UInt8) × (List UInt8) × Int × Int
@[simp] def eLesson (p : TLesson) : V := .agg [.int .i64 p.1, .str p.2.1, .str p.2.2.1, .int .i64 p.2.2.2.1, .int .i64 p.2.2.2.2]
def c90 : MC := (.seq (.reg [rg 2 (.f (.box (.t 0))), rg 4 (.p true (.mv (.c (.int .i64 0))))]) (.seq (.reg [rg 5 (.p true (.mv (.t 1))), rg 6 (.p true (.fad (.t 2) 1)), rg 7 (.p true (.ld (.t 6) 1 false)), rg 8 (.p true (.lens (.t 7))), rg 9 (.p true (.bin .sub (.t 5) (.t 8))), rg 1 (.p true (.mv (.t 9)))]) (.seq (.seq (.reg [rg 10 (.p true (.mv (.t 1))), rg 11 (.p true (.bin .lss (.t 10) (.c (.int .i64 0))))]) (.cond (.t 11) (.seq (.reg [rg 4 (.p true (.mv (.c (.int .i64 (-1)))))]) .ret) .skip)) (.seq (.reg [rg 12 (.p true (.mv (.t 1))), rg 13 (.p true (.fad (.t 2) 2)), rg 14 (.p true (.ld (.t 13) 1 false)), rg 15 (.p true (.lens (.t 14))), rg 16 (.p true (.bin .sub (.t 12) (.t 15))), rg 1 (.p true (.mv (.t 16)))]) (.seq (.seq (.reg [rg 17 (.p true (.mv (.t 1))), rg 18 (.p true (.bin .lss (.t 17) (.c (.int .i64 0))))]) (.cond (.t 18) (.seq (.reg [rg 4 (.p true (.mv (.c (.int .i64 (-1)))))]) .ret) .skip)) (.seq (.reg [rg 19 (.p true (.mv (.t 1))), rg 4 (.p true (.mv (.t 19)))]) .ret))))))
theorem c90_is : compFn Try.prog 90 = some (c90, [(.tmp 4)]) := by kernel_rfl
theorem c90_ok : okFn Try.prog 90 = true := by kernel_rfl

noncomputable def F_laws_szLesson (v0 : TLesson) (v1 : Int) : Option (Int) :=
 (bif (decide (w64 (v1 - (v0.2.1.length : Int)) < (0 : Int))) then some (-1)
 else (bif (decide (w64 ((w64 (v1 - (v0.2.1.length : Int))) - (v0.2.2.1.length : Int)) < (0 : Int))) then some (-1)
 else some (w64 ((w64 (v1 - (v0.2.1.length : Int))) - (v0.2.2.1.length : Int)))))
@[simp] def res_laws_szLesson (r : Int) : RV := .one (.one (.val (.int .i64 r)))
theorem con_laws_szLesson {v0 : TLesson} {v1 : Int} {r : Int} (hF : F_laws_szLesson v0 v1 = some r) : Con Try.prog 90 [eLesson v0, .int .i64 v1] (res_laws_szLesson r) := by
 unfold F_laws_szLesson at hF
 refine con_of c90_is fun N => ?_
 refine ws 0 128 ?_
 refine qf (.ptr 0 0 0) [(0, .box [AI v0.1, AS v0.2.1, AS v0.2.2.1, AI v0.2.2.2.1, AI v0.2.2.2.2])] (by simp) ?_
 refine qp (AI 0) rfl ?_
 refine r_nil ?_
 refine ws 128 512 ?_
 refine qp (AI v1) rfl (qp (.ptr 0 0 1) rfl (qp (AS v0.2.1) rfl (qp (AI (v0.2.1.length : Int)) rfl (qp (AI (w64 (v1 - (v0.2.1.length : Int)))) rfl (qp (AI (w64 (v1 - (v0.2.1.length : Int)))) rfl ?_)))))
 refine r_nil ?_
 refine w_seq ?_
 refine ws 512 640 ?_
 refine qp (AI (w64 (v1 - (v0.2.1.length : Int)))) rfl (qp (AB (decide (w64 (v1 - (v0.2.1.length : Int)) < (0 : Int)))) rfl ?_)
 refine r_nil ?_
 refine cF hF (fun hF => ?_) fun hF => ?_
 ·
  refine ws 640 704 ?_
  refine qp (AI (-1)) rfl ?_
  refine r_nil ?_
  refine w_ret ?_
  refine thenQ_r ?_
  cases hF
  exact eR
 ·
  refine w_skip ?_
  refine thenQ_n ?_
  refine ws 640 1024 ?_
  refine qp (AI (w64 (v1 - (v0.2.1.length : Int)))) rfl (qp (.ptr 0 0 2) rfl (qp (AS v0.2.2.1) rfl (qp (AI (v0.2.2.1.length : Int)) rfl (qp (AI (w64 ((w64 (v1 - (v0.2.1.length : Int))) - (v0.2.2.1.length : Int)))) rfl (qp (AI (w64 ((w64 (v1 - (v0.2.1.length : Int))) - (v0.2.2.1.length : Int)))) rfl ?_)))))
  refine r_nil ?_
  refine w_seq ?_
  refine ws 1024 1152 ?_
  refine qp (AI (w64 ((w64 (v1 - (v0.2.1.length : Int))) - (v0.2.2.1.length : Int)))) rfl (qp (AB (decide (w64 ((w64 (v1 - (v0.2.1.length : Int))) - (v0.2.2.1.length : Int)) < (0 : Int)))) rfl ?_)
  refine r_nil ?_
  refine cF hF (fun hF => ?_) fun hF => ?_
  ·
   refine ws 1152 1216 ?_
   refine qp (AI (-1)) rfl ?_
   refine r_nil ?_
   refine w_ret ?_
   refine thenQ_r ?_
   cases hF
   exact eR
  ·
   refine w_skip ?_
   refine thenQ_n ?_
   refine ws 1152 1280 ?_
   refine qp (AI (w64 ((w64 (v1 - (v0.2.1.length : Int))) - (v0.2.2.1.length : Int)))) rfl (qp (AI (w64 ((w64 (v1 - (v0.2.1.length : Int))) - (v0.2.2.1.length : Int)))) rfl ?_)
   refine r_nil ?_
   refine w_ret ?_
   cases hF
   exact eR

def c18 : MC := (.seq (.reg [rg 4 (.p true (.mv (.c (.int .i64 0))))]) (.seq (.reg [rg 6 (.p true (.mv (.t 1))), rg 7 (.p true (.mv (.t 0))), rg 8 (.p true (.len (.t 7))), rg 9 (.p true (.bin .sub (.t 6) (.t 8))), rg 1 (.p true (.mv (.t 9)))]) (.seq (.seq (.reg [rg 10 (.p true (.mv (.t 1))), rg 11 (.p true (.bin .lss (.t 10) (.c (.int .i64 0))))]) (.cond (.t 11) (.seq (.reg [rg 4 (.p true (.mv (.c (.int .i64 (-1)))))]) .ret) .skip)) (.seq (.seq (.reg [rg 5 (.p true (.mv (.c (.int .i64 0))))]) (.block 0 (.loop (.seq (.seq (.reg [rg 12 (.p true (.mv (.t 5))), rg 13 (.p true (.mv (.t 0))), rg 14 (.p true (.len (.t 13))), rg 15 (.p true (.bin .lss (.t 12) (.t 14)))]) (.cond (.t 15) .skip (.exit 0))) (.seq (.block 1 (.seq (.reg [rg 18 (.p true (.mv (.t 0))), rg 19 (.p true (.mv (.t 5))), rg 20 (.p true (.iad (.t 18) (.t 19) 5)), rg 21 (.p true (.ld (.t 20) 5 true)), rg 22 (.p true (.mv (.t 1))), rg 23 (.call true 90 [(.t 21), (.t 22)]), rg 1 (.p true (.mv (.t 23)))]) (.seq (.reg [rg 24 (.p true (.mv (.t 1))), rg 25 (.p true (.bin .lss (.t 24) (.c (.int .i64 0))))]) (.cond (.t 25) (.seq (.reg [rg 4 (.p true (.mv (.c (.int .i64 (-1)))))]) .ret) .skip)))) (.reg [rg 16 (.p true (.mv (.t 5))), rg 17 (.p true (.bin .add (.t 16) (.c (.int .i64 1)))), rg 5 (.p true (.mv (.t 17)))])))))) (.seq (.reg [rg 26 (.p true (.mv (.t 1))), rg 4 (.p true (.mv (.t 26)))]) .ret)))))
theorem c18_is : compFn Try.prog 18 = some (c18, [(.tmp 4)]) := by kernel_rfl
theorem c18_ok : okFn Try.prog 18 = true := by kernel_rfl

noncomputable def F_laws_szLessonS_l0 (v0 : List TLesson) (k0 : Int × Int → Option (Int)) : Int × Int → Option (Int)
 | (v8, v9) => (bif (decide (v9 < (v0.length : Int))) then ((ix v0 v9).bind fun v1000 => ((F_laws_szLesson v1000 v8).bind fun v1001 => (bif (decide (v1001 < (0 : Int))) then some (-1)
 else k0 (v1001, w64 (v9 + 1)))))
 else some v8)
noncomputable def F_laws_szLessonS (v0 : List TLesson) (v1 : Int) : Option (Int) :=
 (bif (decide (w64 (v1 - (v0.length : Int)) < (0 : Int))) then some (-1)
 else loop (F_laws_szLessonS_l0 v0) (w64 (v1 - (v0.length : Int)), 0))
@[simp] def res_laws_szLessonS (r : Int) : RV := .one (.one (.val (.int .i64 r)))
theorem con_laws_szLessonS {v0 : List TLesson} {v1 : Int} {r : Int} (hF : F_laws_szLessonS v0 v1 = some r) : Con Try.prog 18 [.sl 5 (v0.map eLesson), .int .i64 v1] (res_laws_szLessonS r) := by
 unfold F_laws_szLessonS at hF
 refine con_of c18_is fun N => ?_
 refine ws 0 64 ?_
 refine qp (AI 0) rfl ?_
 refine r_nil ?_
 refine ws 64 384 ?_
 refine qp (AI v1) rfl (qp (AL 5 (v0.map eLesson)) rfl (qp (AI (v0.length : Int)) (ev_len_n rfl) (qp (AI (w64 (v1 - (v0.length : Int)))) rfl (qp (AI (w64 (v1 - (v0.length : Int)))) rfl ?_))))
 refine r_nil ?_
 refine w_seq ?_
 refine ws 384 512 ?_
 refine qp (AI (w64 (v1 - (v0.length : Int)))) rfl (qp (AB (decide (w64 (v1 - (v0.length : Int)) < (0 : Int)))) rfl ?_)
 refine r_nil ?_
 refine cF hF (fun hF => ?_) fun hF => ?_
 ·
  refine ws 512 576 ?_
  refine qp (AI (-1)) rfl ?_
  refine r_nil ?_
  refine w_ret ?_
  refine thenQ_r ?_
  cases hF
  exact eR
 ·
  refine w_skip ?_
  refine thenQ_n ?_
  refine w_seq ?_
  refine ws 512 576 ?_
  refine qp (AI 0) rfl ?_
  refine r_nil ?_
  refine w_block ?_
  refine wr (l' := [(0, AL 5 (v0.map eLesson)), (1, AI (w64 (v1 - (v0.length : Int)))), (5, AI 0)]) (L := []) [0, 1, 5] [] 1 ?_
  refine w_loopF (F_laws_szLessonS_l0 v0) (fun s : Int × Int => mkS [(0, AL 5 (v0.map eLesson)), (1, AI s.1), (5, AI s.2)] (fo []) 1) hF ?_
  rintro k0 ⟨v8, v9⟩ hF
  rw [F_laws_szLessonS_l0] at hF
  try dsimp only
  refine w_seq ?_
  refine ws 1 257 ?_
  refine qp (AI v9) rfl (qp (AL 5 (v0.map eLesson)) rfl (qp (AI (v0.length : Int)) (ev_len_n rfl) (qp (AB (decide (v9 < (v0.length : Int)))) rfl ?_)))
  refine r_nil ?_
  refine cF hF (fun hF => ?_) fun hF => ?_
  ·
   refine w_skip ?_
   refine thenQ_n ?_
   refine w_seq ?_
   refine w_block ?_
   refine ws 257 705 ?_
   refine qp (AL 5 (v0.map eLesson)) rfl (qp (AI v9) rfl ?_)
   obtain ⟨v1000, e1000, hF⟩ := bind_get hF
   refine qp (.val none (.ptr [.int .i64 v1000.1, .str v1000.2.1, .str v1000.2.2.1, .int .i64 v1000.2.2.2.1, .int .i64 v1000.2.2.2.2])) (ev_iad_n rfl rfl e1000 rfl) (qp (.val none (eLesson v1000)) rfl (qp (AI v8) rfl ?_))
   obtain ⟨v1001, e1001, hF⟩ := bind_get hF
   refine qc (AI v1001) [] false (con_laws_szLesson e1001) c90_ok (by first | rfl | simp) rfl ?_
   refine qp (AI v1001) rfl ?_
   refine r_nil ?_
   refine ws 705 833 ?_
   refine qp (AI v1001) rfl (qp (AB (decide (v1001 < (0 : Int)))) rfl ?_)
   refine r_nil ?_
   refine cF hF (fun hF => ?_) fun hF => ?_
   ·
    refine ws 833 897 ?_
    refine qp (AI (-1)) rfl ?_
    refine r_nil ?_
    refine w_ret ?_
    refine blockQ_r ?_
    refine thenQ_r ?_
    refine thenQ_r ?_
    refine blockQ_r ?_
    refine thenQ_r ?_
    cases hF
    exact eR
   ·
    refine w_skip ?_
    refine blockQ_n ?_
    refine thenQ_n ?_
    refine w_reg 833 1025 rfl rfl ?_
    refine qp (AI v9) rfl (qp (AI (w64 (v9 + 1))) rfl (qp (AI (w64 (v9 + 1))) rfl ?_))
    refine r_nil ?_
    refine thenQ_n ?_
    refine ar (l' := [(0, AL 5 (v0.map eLesson)), (1, AI v1001), (5, AI (w64 (v9 + 1)))]) (L := []) [0, 1, 5] [] 1 ⟨_, by rfl, hF⟩
  ·
   refine w_exit ?_
   refine thenQ_e ?_
   refine thenQ_e ?_
   refine blockQ_e ?_
   refine thenQ_n ?_
   refine ws 257 385 ?_
   refine qp (AI v8) rfl (qp (AI v8) rfl ?_)
   refine r_nil ?_
   refine w_ret ?_
   cases hF
   exact eR

def c91 : MC := (.seq (.reg [rg 4 (.p true (.mv (.c (.int .i64 0))))]) (.seq (.reg [rg 6 (.p true (.mv (.t 1))), rg 7 (.p true (.mv (.t 0))), rg 8 (.p true (.len (.t 7))), rg 9 (.p true (.bin .sub (.t 6) (.t 8))), rg 1 (.p true (.mv (.t 9)))]) (.seq (.seq (.reg [rg 10 (.p true (.mv (.t 1))), rg 11 (.p true (.bin .lss (.t 10) (.c (.int .i64 0))))]) (.cond (.t 11) (.seq (.reg [rg 4 (.p true (.mv (.c (.int .i64 (-1)))))]) .ret) .skip)) (.seq (.seq (.reg [rg 5 (.p true (.mv (.c (.int .i64 0))))]) (.block 0 (.loop (.seq (.seq (.reg [rg 12 (.p true (.mv (.t 5))), rg 13 (.p true (.mv (.t 0))), rg 14 (.p true (.len (.t 13))), rg 15 (.p true (.bin .lss (.t 12) (.t 14)))]) (.cond (.t 15) .skip (.exit 0))) (.seq (.block 1 (.seq (.reg [rg 18 (.p true (.mv (.t 1))), rg 19 (.p true (.mv (.t 0))), rg 20 (.p true (.mv (.t 5))), rg 21 (.p true (.iad (.t 19) (.t 20) 1)), rg 22 (.p true (.ld (.t 21) 1 false)), rg 23 (.p true (.lens (.t 22))), rg 24 (.p true (.bin .sub (.t 18) (.t 23))), rg 1 (.p true (.mv (.t 24)))]) (.seq (.reg [rg 25 (.p true (.mv (.t 1))), rg 26 (.p true (.bin .lss (.t 25) (.c (.int .i64 0))))]) (.cond (.t 26) (.seq (.reg [rg 4 (.p true (.mv (.c (.int .i64 (-1)))))]) .ret) .skip)))) (.reg [rg 16 (.p true (.mv (.t 5))), rg 17 (.p true (.bin .add (.t 16) (.c (.int .i64 1)))), rg 5 (.p true (.mv (.t 17)))])))))) (.seq (.reg [rg 27 (.p true (.mv (.t 1))), rg 4 (.p true (.mv (.t 27)))]) .ret)))))
theorem c91_is : compFn Try.prog 91 = some (c91, [(.tmp 4)]) := by kernel_rfl
theorem c91_ok : okFn Try.prog 91 = true := by kernel_rfl

noncomputable def F_laws_szStringS_l0 (v0 : List (List UInt8)) (k0 : Int × Int → Option (Int)) : Int × Int → Option (Int)
 | (v6, v7) => (bif (decide (v7 < (v0.length : Int))) then ((ix v0 v7).bind fun v1000 => (bif (decide (w64 (v6 - (v1000.length : Int)) < (0 : Int))) then some (-1)
 else k0 (w64 (v6 - (v1000.length : Int)), w64 (v7 + 1))))
 else some v6)
noncomputable def F_laws_szStringS (v0 : List (List UInt8)) (v1 : Int) : Option (Int) :=
 (bif (decide (w64 (v1 - (v0.length : Int)) < (0 : Int))) then some (-1)
 else loop (F_laws_szStringS_l0 v0) (w64 (v1 - (v0.length : Int)), 0))
@[simp] def res_laws_szStringS (r : Int) : RV := .one (.one (.val (.int .i64 r)))
theorem con_laws_szStringS {v0 : List (List UInt8)} {v1 : Int} {r : Int} (hF : F_laws_szStringS v0 v1 = some r) : Con Try.prog 91 [.sl 1 (v0.map V.str), .int .i64 v1] (res_laws_szStringS r) := by
 unfold F_laws_szStringS at hF
 refine con_of c91_is fun N => ?_
 refine ws 0 64 ?_
 refine qp (AI 0) rfl ?_
 refine r_nil ?_
 refine ws 64 384 ?_
 refine qp (AI v1) rfl (qp (AL 1 (v0.map V.str)) rfl (qp (AI (v0.length : Int)) (ev_len_n rfl) (qp (AI (w64 (v1 - (v0.length : Int)))) rfl (qp (AI (w64 (v1 - (v0.length : Int)))) rfl ?_))))
 refine r_nil ?_
 refine w_seq ?_
 refine ws 384 512 ?_
 refine qp (AI (w64 (v1 - (v0.length : Int)))) rfl (qp (AB (decide (w64 (v1 - (v0.length : Int)) < (0 : Int)))) rfl ?_)
 refine r_nil ?_
 refine cF hF (fun hF => ?_) fun hF => ?_
 ·
  refine ws 512 576 ?_
  refine qp (AI (-1)) rfl ?_
  refine r_nil ?_
  refine w_ret ?_
  refine thenQ_r ?_
  cases hF
  exact eR
 ·
  refine w_skip ?_
  refine thenQ_n ?_
  refine w_seq ?_
  refine ws 512 576 ?_
  refine qp (AI 0) rfl ?_
  refine r_nil ?_
  refine w_block ?_
  refine wr (l' := [(0, AL 1 (v0.map V.str)), (1, AI (w64 (v1 - (v0.length : Int)))), (5, AI 0)]) (L := []) [0, 1, 5] [] 1 ?_
  refine w_loopF (F_laws_szStringS_l0 v0) (fun s : Int × Int => mkS [(0, AL 1 (v0.map V.str)), (1, AI s.1), (5, AI s.2)] (fo []) 1) hF ?_
  rintro k0 ⟨v6, v7⟩ hF
  rw [F_laws_szStringS_l0] at hF
  try dsimp only
  refine w_seq ?_
  refine ws 1 257 ?_
  refine qp (AI v7) rfl (qp (AL 1 (v0.map V.str)) rfl (qp (AI (v0.length : Int)) (ev_len_n rfl) (qp (AB (decide (v7 < (v0.length : Int)))) rfl ?_)))
  refine r_nil ?_
  refine cF hF (fun hF => ?_) fun hF => ?_
  ·
   refine w_skip ?_
   refine thenQ_n ?_
   refine w_seq ?_
   refine w_block ?_
   refine ws 257 769 ?_
   refine qp (AI v6) rfl (qp (AL 1 (v0.map V.str)) rfl (qp (AI v7) rfl ?_))
   obtain ⟨v1000, e1000, hF⟩ := bind_get hF
   refine qp (.val none (.ptr [.str v1000])) (ev_iad_n rfl rfl e1000 rfl) (qp (AS v1000) rfl (qp (AI (v1000.length : Int)) rfl (qp (AI (w64 (v6 - (v1000.length : Int)))) rfl (qp (AI (w64 (v6 - (v1000.length : Int)))) rfl ?_))))
   refine r_nil ?_
   refine ws 769 897 ?_
   refine qp (AI (w64 (v6 - (v1000.length : Int)))) rfl (qp (AB (decide (w64 (v6 - (v1000.length : Int)) < (0 : Int)))) rfl ?_)
   refine r_nil ?_
   refine cF hF (fun hF => ?_) fun hF => ?_
   ·
    refine ws 897 961 ?_
    refine qp (AI (-1)) rfl ?_
    refine r_nil ?_
    refine w_ret ?_
    refine blockQ_r ?_
    refine thenQ_r ?_
    refine thenQ_r ?_
    refine blockQ_r ?_
    refine thenQ_r ?_
    cases hF
    exact eR
   ·
    refine w_skip ?_
    refine blockQ_n ?_
    refine thenQ_n ?_
    refine w_reg 897 1089 rfl rfl ?_
    refine qp (AI v7) rfl (qp (AI (w64 (v7 + 1))) rfl (qp (AI (w64 (v7 + 1))) rfl ?_))
    refine r_nil ?_
    refine thenQ_n ?_
    refine ar (l' := [(0, AL 1 (v0.map V.str)), (1, AI (w64 (v6 - (v1000.length : Int)))), (5, AI (w64 (v7 + 1)))]) (L := []) [0, 1, 5] [] 1 ⟨_, by rfl, hF⟩
  ·
   refine w_exit ?_
   refine thenQ_e ?_
   refine thenQ_e ?_
   refine blockQ_e ?_
   refine thenQ_n ?_
   refine ws 257 385 ?_
   refine qp (AI v6) rfl (qp (AI v6) rfl ?_)
   refine r_nil ?_
   refine w_ret ?_
   cases hF
   exact eR

def c19 : MC := (.seq (.reg [rg 4 (.p true (.mv (.c (.int .i64 0))))]) (.seq (.reg [rg 6 (.p true (.mv (.t 1))), rg 7 (.p true (.mv (.t 0))), rg 8 (.p true (.len (.t 7))), rg 9 (.p true (.bin .sub (.t 6) (.t 8))), rg 1 (.p true (.mv (.t 9)))]) (.seq (.seq (.reg [rg 10 (.p true (.mv (.t 1))), rg 11 (.p true (.bin .lss (.t 10) (.c (.int .i64 0))))]) (.cond (.t 11) (.seq (.reg [rg 4 (.p true (.mv (.c (.int .i64 (-1)))))]) .ret) .skip)) (.seq (.seq (.reg [rg 5 (.p true (.mv (.c (.int .i64 0))))]) (.block 0 (.loop (.seq (.seq (.reg [rg 12 (.p true (.mv (.t 5))), rg 13 (.p true (.mv (.t 0))), rg 14 (.p true (.len (.t 13))), rg 15 (.p true (.bin .lss (.t 12) (.t 14)))]) (.cond (.t 15) .skip (.exit 0))) (.seq (.block 1 (.seq (.reg [rg 18 (.p true (.mv (.t 0))), rg 19 (.p true (.mv (.t 5))), rg 20 (.p true (.iad (.t 18) (.t 19) 1)), rg 21 (.p true (.ld (.t 20) 1 false)), rg 22 (.p true (.mv (.t 1))), rg 23 (.call true 91 [(.t 21), (.t 22)]), rg 1 (.p true (.mv (.t 23)))]) (.seq (.reg [rg 24 (.p true (.mv (.t 1))), rg 25 (.p true (.bin .lss (.t 24) (.c (.int .i64 0))))]) (.cond (.t 25) (.seq (.reg [rg 4 (.p true (.mv (.c (.int .i64 (-1)))))]) .ret) .skip)))) (.reg [rg 16 (.p true (.mv (.t 5))), rg 17 (.p true (.bin .add (.t 16) (.c (.int .i64 1)))), rg 5 (.p true (.mv (.t 17)))])))))) (.seq (.reg [rg 26 (.p true (.mv (.t 1))), rg 4 (.p true (.mv (.t 26)))]) .ret)))))
theorem c19_is : compFn Try.prog 19 = some (c19, [(.tmp 4)]) := by kernel_rfl
theorem c19_ok : okFn Try.prog 19 = true := by kernel_rfl

noncomputable def F_laws_szStringSS_l0 (v0 : List (List (List UInt8))) (k0 : Int × Int → Option (Int)) : Int × Int → Option (Int)
 | (v8, v9) => (bif (decide (v9 < (v0.length : Int))) then ((ix v0 v9).bind fun v1000 => ((F_laws_szStringS v1000 v8).bind fun v1001 => (bif (decide (v1001 < (0 : Int))) then some (-1)
 else k0 (v1001, w64 (v9 + 1)))))
 else some v8)
noncomputable def F_laws_szStringSS (v0 : List (List (List UInt8))) (v1 : Int) : Option (Int) :=
 (bif (decide (w64 (v1 - (v0.length : Int)) < (0 : Int))) then some (-1)
 else loop (F_laws_szStringSS_l0 v0) (w64 (v1 - (v0.length : Int)), 0))
@[simp] def res_laws_szStringSS (r : Int) : RV := .one (.one (.val (.int .i64 r)))
theorem con_laws_szStringSS {v0 : List (List (List UInt8))} {v1 : Int} {r : Int} (hF : F_laws_szStringSS v0 v1 = some r) : Con Try.prog 19 [.sl 1 (v0.map (eL 1 V.str)), .int .i64 v1] (res_laws_szStringSS r) := by
 unfold F_laws_szStringSS at hF
 refine con_of c19_is fun N => ?_
 refine ws 0 64 ?_
 refine qp (AI 0) rfl ?_
 refine r_nil ?_
 refine ws 64 384 ?_
 refine qp (AI v1) rfl (qp (AL 1 (v0.map (eL 1 V.str))) rfl (qp (AI (v0.length : Int)) (ev_len_n rfl) (qp (AI (w64 (v1 - (v0.length : Int)))) rfl (qp (AI (w64 (v1 - (v0.length : Int)))) rfl ?_))))
 refine r_nil ?_
 refine w_seq ?_
 refine ws 384 512 ?_
 refine qp (AI (w64 (v1 - (v0.length : Int)))) rfl (qp (AB (decide (w64 (v1 - (v0.length : Int)) < (0 : Int)))) rfl ?_)
 refine r_nil ?_
 refine cF hF (fun hF => ?_) fun hF => ?_
 ·
  refine ws 512 576 ?_
  refine qp (AI (-1)) rfl ?_
  refine r_nil ?_
  refine w_ret ?_
  refine thenQ_r ?_
  cases hF
  exact eR
 ·
  refine w_skip ?_
  refine thenQ_n ?_
  refine w_seq ?_
  refine ws 512 576 ?_
  refine qp (AI 0) rfl ?_
  refine r_nil ?_
  refine w_block ?_
  refine wr (l' := [(0, AL 1 (v0.map (eL 1 V.str))), (1, AI (w64 (v1 - (v0.length : Int)))), (5, AI 0)]) (L := []) [0, 1, 5] [] 1 ?_
  refine w_loopF (F_laws_szStringSS_l0 v0) (fun s : Int × Int => mkS [(0, AL 1 (v0.map (eL 1 V.str))), (1, AI s.1), (5, AI s.2)] (fo []) 1) hF ?_
  rintro k0 ⟨v8, v9⟩ hF
  rw [F_laws_szStringSS_l0] at hF
  try dsimp only
  refine w_seq ?_
  refine ws 1 257 ?_
  refine qp (AI v9) rfl (qp (AL 1 (v0.map (eL 1 V.str))) rfl (qp (AI (v0.length : Int)) (ev_len_n rfl) (qp (AB (decide (v9 < (v0.length : Int)))) rfl ?_)))
  refine r_nil ?_
  refine cF hF (fun hF => ?_) fun hF => ?_
  ·
   refine w_skip ?_
   refine thenQ_n ?_
   refine w_seq ?_
   refine w_block ?_
   refine ws 257 705 ?_
   refine qp (AL 1 (v0.map (eL 1 V.str))) rfl (qp (AI v9) rfl ?_)
   obtain ⟨v1000, e1000, hF⟩ := bind_get hF
   refine qp (.val none (.ptr [.sl 1 (v1000.map V.str)])) (ev_iad_n rfl rfl e1000 rfl) (qp (AL 1 (v1000.map V.str)) rfl (qp (AI v8) rfl ?_))
   obtain ⟨v1001, e1001, hF⟩ := bind_get hF
   refine qc (AI v1001) [] false (con_laws_szStringS e1001) c91_ok (by first | rfl | simp) rfl ?_
   refine qp (AI v1001) rfl ?_
   refine r_nil ?_
   refine ws 705 833 ?_
   refine qp (AI v1001) rfl (qp (AB (decide (v1001 < (0 : Int)))) rfl ?_)
   refine r_nil ?_
   refine cF hF (fun hF => ?_) fun hF => ?_
   ·
    refine ws 833 897 ?_
    refine qp (AI (-1)) rfl ?_
    refine r_nil ?_
    refine w_ret ?_
    refine blockQ_r ?_
    refine thenQ_r ?_
    refine thenQ_r ?_
    refine blockQ_r ?_
    refine thenQ_r ?_
    cases hF
    exact eR
   ·
    refine w_skip ?_
    refine blockQ_n ?_
    refine thenQ_n ?_
    refine w_reg 833 1025 rfl rfl ?_
    refine qp (AI v9) rfl (qp (AI (w64 (v9 + 1))) rfl (qp (AI (w64 (v9 + 1))) rfl ?_))
    refine r_nil ?_
    refine thenQ_n ?_
    refine ar (l' := [(0, AL 1 (v0.map (eL 1 V.str))), (1, AI v1001), (5, AI (w64 (v9 + 1)))]) (L := []) [0, 1, 5] [] 1 ⟨_, by rfl, hF⟩
  ·
   refine w_exit ?_
   refine thenQ_e ?_
   refine thenQ_e ?_
   refine blockQ_e ?_
   refine thenQ_n ?_
   refine ws 257 385 ?_
   refine qp (AI v8) rfl (qp (AI v8) rfl ?_)
   refine r_nil ?_
   refine w_ret ?_
   cases hF
   exact eR

def c98 : MC := (.seq (.reg [rg 1 (.f (.box (.t 0))), rg 2 (.f (.alloc [((.int .i64 0), (0, false)), ((.str []), (0, false)), ((.str []), (0, false)), ((.int .i64 0), (0, false)), ((.int .i64 0), (0, false))]))]) (.seq (.reg [rg 3 (.f (.alloc [((.int .i64 0), (0, false)), ((.str []), (0, false)), ((.str []), (0, false)), ((.int .i64 0), (0, false)), ((.int .i64 0), (0, false))]))]) (.seq (.reg [rg 4 (.p true (.fad (.t 1) 0)), rg 5 (.p true (.ld (.t 4) 1 false)), rg 6 (.p true (.fad (.t 3) 0)), ⟨none, none, (.f (.st (.t 6) (.t 5) 1))⟩]) (.seq (.reg [rg 7 (.p true (.fad (.t 1) 1)), rg 8 (.p true (.ld (.t 7) 1 false)), rg 9 (.p true (.fad (.t 3) 1)), ⟨none, none, (.f (.st (.t 9) (.t 8) 1))⟩]) (.seq (.reg [rg 10 (.p true (.fad (.t 1) 2)), rg 11 (.p true (.ld (.t 10) 1 false)), rg 12 (.p true (.fad (.t 3) 2)), ⟨none, none, (.f (.st (.t 12) (.t 11) 1))⟩]) (.seq (.reg [rg 13 (.p true (.fad (.t 1) 3)), rg 14 (.p true (.ld (.t 13) 1 false)), rg 15 (.p true (.fad (.t 3) 3)), ⟨none, none, (.f (.st (.t 15) (.t 14) 1))⟩]) (.seq (.reg [rg 16 (.p true (.fad (.t 1) 4)), rg 17 (.p true (.ld (.t 16) 1 false)), rg 18 (.p true (.fad (.t 3) 4)), ⟨none, none, (.f (.st (.t 18) (.t 17) 1))⟩]) (.seq (.reg [rg 19 (.p true (.ld (.t 3) 5 true)), ⟨none, none, (.f (.st (.t 2) (.t 19) 5))⟩]) .ret))))))))
theorem c98_is : compFn Try.prog 98 = some (c98, [(.cell (.ld (.t 2) 5 true))]) := by kernel_rfl
theorem c98_ok : okFn Try.prog 98 = true := by kernel_rfl

noncomputable def F_laws_toLesson (v0 : TLesson) : Option (TLesson) :=
 some v0
@[simp] def res_laws_toLesson (r : TLesson) : RV := .one (.one (.val (eLesson r)))
theorem con_laws_toLesson {v0 : TLesson} {r : TLesson} (hF : F_laws_toLesson v0 = some r) : Con Try.prog 98 [eLesson v0] (res_laws_toLesson r) := by
 unfold F_laws_toLesson at hF
 refine con_of c98_is fun N => ?_
 refine ws 0 128 ?_
 refine qf (.ptr 0 0 0) [(0, .box [AI v0.1, AS v0.2.1, AS v0.2.2.1, AI v0.2.2.2.1, AI v0.2.2.2.2])] (by simp) ?_
 refine qf (.ptr 64 0 0) [(64, .box [AI 0, AS [], AS [], AI 0, AI 0]), (0, .box [AI v0.1, AS v0.2.1, AS v0.2.2.1, AI v0.2.2.2.1, AI v0.2.2.2.2])] (by simp) ?_
 refine r_nil ?_
 refine ws 128 192 ?_
 refine qf (.ptr 128 0 0) [(128, .box [AI 0, AS [], AS [], AI 0, AI 0]), (64, .box [AI 0, AS [], AS [], AI 0, AI 0]), (0, .box [AI v0.1, AS v0.2.1, AS v0.2.2.1, AI v0.2.2.2.1, AI v0.2.2.2.2])] (by simp) ?_
 refine r_nil ?_
 refine ws 192 448 ?_
 refine qp (.ptr 0 0 0) rfl (qp (AI v0.1) rfl (qp (.ptr 128 0 0) rfl ?_))
 refine qf0 (.undef) [(128, .box [AI v0.1, AS [], AS [], AI 0, AI 0]), (128, .box [AI 0, AS [], AS [], AI 0, AI 0]), (64, .box [AI 0, AS [], AS [], AI 0, AI 0]), (0, .box [AI v0.1, AS v0.2.1, AS v0.2.2.1, AI v0.2.2.2.1, AI v0.2.2.2.2])] (by simp) ?_
 refine r_nil ?_
 refine ws 448 704 ?_
 refine qp (.ptr 0 0 1) rfl (qp (AS v0.2.1) rfl (qp (.ptr 128 0 1) rfl ?_))
 refine qf0 (.undef) [(128, .box [AI v0.1, AS v0.2.1, AS [], AI 0, AI 0]), (128, .box [AI v0.1, AS [], AS [], AI 0, AI 0]), (128, .box [AI 0, AS [], AS [], AI 0, AI 0]), (64, .box [AI 0, AS [], AS [], AI 0, AI 0]), (0, .box [AI v0.1, AS v0.2.1, AS v0.2.2.1, AI v0.2.2.2.1, AI v0.2.2.2.2])] (by simp) ?_
 refine r_nil ?_
 refine ws 704 960 ?_
 refine qp (.ptr 0 0 2) rfl (qp (AS v0.2.2.1) rfl (qp (.ptr 128 0 2) rfl ?_))
 refine qf0 (.undef) [(128, .box [AI v0.1, AS v0.2.1, AS v0.2.2.1, AI 0, AI 0]), (128, .box [AI v0.1, AS v0.2.1, AS [], AI 0, AI 0]), (128, .box [AI v0.1, AS [], AS [], AI 0, AI 0]), (128, .box [AI 0, AS [], AS [], AI 0, AI 0]), (64, .box [AI 0, AS [], AS [], AI 0, AI 0]), (0, .box [AI v0.1, AS v0.2.1, AS v0.2.2.1, AI v0.2.2.2.1, AI v0.2.2.2.2])] (by simp) ?_
 refine r_nil ?_
 refine ws 960 1216 ?_
 refine qp (.ptr 0 0 3) rfl (qp (AI v0.2.2.2.1) rfl (qp (.ptr 128 0 3) rfl ?_))
 refine qf0 (.undef) [(128, .box [AI v0.1, AS v0.2.1, AS v0.2.2.1, AI v0.2.2.2.1, AI 0]), (128, .box [AI v0.1, AS v0.2.1, AS v0.2.2.1, AI 0, AI 0]), (128, .box [AI v0.1, AS v0.2.1, AS [], AI 0, AI 0]), (128, .box [AI v0.1, AS [], AS [], AI 0, AI 0]), (128, .box [AI 0, AS [], AS [], AI 0, AI 0]), (64, .box [AI 0, AS [], AS [], AI 0, AI 0]), (0, .box [AI v0.1, AS v0.2.1, AS v0.2.2.1, AI v0.2.2.2.1, AI v0.2.2.2.2])] (by simp) ?_
 refine r_nil ?_
 refine ws 1216 1472 ?_
 refine qp (.ptr 0 0 4) rfl (qp (AI v0.2.2.2.2) rfl (qp (.ptr 128 0 4) rfl ?_))
 refine qf0 (.undef) [(128, .box [AI v0.1, AS v0.2.1, AS v0.2.2.1, AI v0.2.2.2.1, AI v0.2.2.2.2]), (128, .box [AI v0.1, AS v0.2.1, AS v0.2.2.1, AI v0.2.2.2.1, AI 0]), (128, .box [AI v0.1, AS v0.2.1, AS v0.2.2.1, AI 0, AI 0]), (128, .box [AI v0.1, AS v0.2.1, AS [], AI 0, AI 0]), (128, .box [AI v0.1, AS [], AS [], AI 0, AI 0]), (128, .box [AI 0, AS [], AS [], AI 0, AI 0]), (64, .box [AI 0, AS [], AS [], AI 0, AI 0]), (0, .box [AI v0.1, AS v0.2.1, AS v0.2.2.1, AI v0.2.2.2.1, AI v0.2.2.2.2])] (by simp) ?_
 refine r_nil ?_
 refine ws 1472 1600 ?_
 refine qp (.agg [AI v0.1, AS v0.2.1, AS v0.2.2.1, AI v0.2.2.2.1, AI v0.2.2.2.2]) rfl ?_
 refine qf0 (.undef) [(64, .box [AI v0.1, AS v0.2.1, AS v0.2.2.1, AI v0.2.2.2.1, AI v0.2.2.2.2]), (128, .box [AI v0.1, AS v0.2.1, AS v0.2.2.1, AI v0.2.2.2.1, AI v0.2.2.2.2]), (128, .box [AI v0.1, AS v0.2.1, AS v0.2.2.1, AI v0.2.2.2.1, AI 0]), (128, .box [AI v0.1, AS v0.2.1, AS v0.2.2.1, AI 0, AI 0]), (128, .box [AI v0.1, AS v0.2.1, AS [], AI 0, AI 0]), (128, .box [AI v0.1, AS [], AS [], AI 0, AI 0]), (128, .box [AI 0, AS [], AS [], AI 0, AI 0]), (64, .box [AI 0, AS [], AS [], AI 0, AI 0]), (0, .box [AI v0.1, AS v0.2.1, AS v0.2.2.1, AI v0.2.2.2.1, AI v0.2.2.2.2])] (by simp) ?_
 refine r_nil ?_
 refine w_ret ?_
 cases hF
 exact eR

def c21 : MC := (.seq (.reg [rg 2 (.f (.nilrow 5))]) (.seq (.reg [rg 5 (.p true (.mv (.t 0))), rg 6 (.p true (.len (.t 5))), rg 7 (.f (.mks 5 56 (.agg [(.int .i64 0), (.str []), (.str []), (.int .i64 0), (.int .i64 0)]) (.t 6) (.t 6))), rg 3 (.p true (.mv (.t 7)))]) (.seq (.seq (.reg [rg 4 (.p true (.mv (.c (.int .i64 0))))]) (.block 0 (.loop (.seq (.seq (.reg [rg 8 (.p true (.mv (.t 4))), rg 9 (.p true (.mv (.t 0))), rg 10 (.p true (.len (.t 9))), rg 11 (.p true (.bin .lss (.t 8) (.t 10)))]) (.cond (.t 11) .skip (.exit 0))) (.seq (.block 1 (.reg [rg 14 (.p true (.mv (.t 3))), rg 15 (.p true (.mv (.t 4))), rg 16 (.p true (.mv (.t 0))), rg 17 (.p true (.mv (.t 4))), rg 18 (.p true (.iad (.t 16) (.t 17) 5)), rg 19 (.p true (.ld (.t 18) 5 true)), rg 20 (.call true 98 [(.t 19)]), rg 21 (.p true (.iad (.t 14) (.t 15) 5)), ⟨none, none, (.f (.st (.t 21) (.t 20) 5))⟩])) (.reg [rg 12 (.p true (.mv (.t 4))), rg 13 (.p true (.bin .add (.t 12) (.c (.int .i64 1)))), rg 4 (.p true (.mv (.t 13)))])))))) (.seq (.reg [rg 22 (.p true (.mv (.t 3))), rg 2 (.p true (.mv (.t 22)))]) .ret))))
theorem c21_is : compFn Try.prog 21 = some (c21, [(.tmp 2)]) := by kernel_rfl
theorem c21_ok : okFn Try.prog 21 = true := by kernel_rfl

noncomputable def F_laws_toLessonS_l0 (v0 : List TLesson) (k1 : Int × (List TLesson) → Option (List TLesson)) : Int × (List TLesson) → Option (List TLesson)
 | (v1009, v1010) => (bif (decide (v1009 < (v0.length : Int))) then ((ix v0 v1009).bind fun v1011 => ((F_laws_toLesson v1011).bind fun v1012 => ((ix v1010 v1009).bind fun v1013 => k1 (w64 (v1009 + 1), List.set v1010 v1009.toNat v1012))))
 else some v1010)
noncomputable def F_laws_toLessonS (v0 : List TLesson) : Option (List TLesson) :=
 (need (0 ≤ (v0.length : Int) ∧ (v0.length : Int) ≤ (v0.length : Int) ∧ (v0.length : Int) ≤ 9223372036854775807 ∧ 56 * (v0.length : Int) ≤ 281474976710656) (loop (F_laws_toLessonS_l0 v0) (0, List.replicate ((v0.length : Int)).toNat ((0, [], [], 0, 0) : TLesson))))
@[simp] def res_laws_toLessonS (r : List TLesson) : RV := .one (.one (.row true 5 (r.map eLesson)))
theorem con_laws_toLessonS {v0 : List TLesson} {r : List TLesson} (hF : F_laws_toLessonS v0 = some r) : Con Try.prog 21 [.sl 5 (v0.map eLesson)] (res_laws_toLessonS r) := by
 unfold F_laws_toLessonS at hF
 refine con_of c21_is fun N => ?_
 refine ws 0 64 ?_
 refine qf (.sl 0 0 0) [(0, .row true 5 (([] : List Int).map (V.int .i64)))] (by simp) ?_
 refine r_nil ?_
 refine ws 64 320 ?_
 refine qp (AL 5 (v0.map eLesson)) rfl (qp (AI (v0.length : Int)) (ev_len_n rfl) ?_)
 obtain ⟨g1000, hF⟩ := need_some hF
 refine qf (.sl 192 0 ((List.replicate ((v0.length : Int)).toNat ((0, [], [], 0, 0) : TLesson)).length)) [(192, .row true 5 ((List.replicate ((v0.length : Int)).toNat ((0, [], [], 0, 0) : TLesson)).map eLesson)), (0, .row true 5 (([] : List Int).map (V.int .i64)))] (effT_mks rfl rfl g1000 rfl) ?_
 refine qp (.sl 192 0 ((List.replicate ((v0.length : Int)).toNat ((0, [], [], 0, 0) : TLesson)).length)) rfl ?_
 refine r_nil ?_
 refine w_seq ?_
 refine ws 320 384 ?_
 refine qp (AI 0) rfl ?_
 refine r_nil ?_
 refine w_block ?_
 refine wr (l' := [(0, AL 5 (v0.map eLesson)), (3, .sl 0 0 (List.replicate ((v0.length : Int)).toNat ((0, [], [], 0, 0) : TLesson)).length), (4, AI 0)]) (L := [(0, .row true 5 ((List.replicate ((v0.length : Int)).toNat ((0, [], [], 0, 0) : TLesson)).map eLesson))]) [0, 3, 4] [(192, 0)] 1 ?_
 refine w_loopF (F_laws_toLessonS_l0 v0) (fun s : Int × (List TLesson) => mkS [(0, AL 5 (v0.map eLesson)), (3, .sl 0 0 s.2.length), (4, AI s.1)] (fo [(0, .row true 5 (s.2.map eLesson))]) 1) hF ?_
 rintro k1 ⟨v1009, v1010⟩ hF
 rw [F_laws_toLessonS_l0] at hF
 try dsimp only
 refine w_seq ?_
 refine ws 1 257 ?_
 refine qp (AI v1009) rfl (qp (AL 5 (v0.map eLesson)) rfl (qp (AI (v0.length : Int)) (ev_len_n rfl) (qp (AB (decide (v1009 < (v0.length : Int)))) rfl ?_)))
 refine r_nil ?_
 refine cF hF (fun hF => ?_) fun hF => ?_
 ·
  refine w_skip ?_
  refine thenQ_n ?_
  refine w_seq ?_
  refine w_block ?_
  refine w_reg 257 833 rfl rfl ?_
  refine qp (.sl 0 0 v1010.length) rfl (qp (AI v1009) rfl (qp (AL 5 (v0.map eLesson)) rfl (qp (AI v1009) rfl ?_)))
  obtain ⟨v1011, e1011, hF⟩ := bind_get hF
  refine qp (.val none (.ptr [.int .i64 v1011.1, .str v1011.2.1, .str v1011.2.2.1, .int .i64 v1011.2.2.2.1, .int .i64 v1011.2.2.2.2])) (ev_iad_n rfl rfl e1011 rfl) (qp (.val none (eLesson v1011)) rfl ?_)
  obtain ⟨v1012, e1012, hF⟩ := bind_get hF
  refine qc (.val none (eLesson v1012)) [(0, .row true 5 (v1010.map eLesson))] false (con_laws_toLesson e1012) c98_ok (by first | rfl | simp) rfl ?_
  obtain ⟨v1013, e1013, hF⟩ := bind_get hF
  refine qp (.ptr 0 v1009.toNat 0) (ev_iad_r rfl (by simp) rfl rfl e1013) ?_
  refine qf0 (.undef) [(0, .row true 5 ((List.set v1010 v1009.toNat v1012).map eLesson)), (0, .row true 5 (v1010.map eLesson))] (effT_st rfl rfl (ix_some e1013).2 rfl rfl (by rfl) (by first | rfl | simp [patch, reb, List.take_of_length_le]) (by rfl) rfl) ?_
  refine r_nil ?_
  refine blockQ_n ?_
  refine thenQ_n ?_
  refine w_reg 833 1025 rfl rfl ?_
  refine qp (AI v1009) rfl (qp (AI (w64 (v1009 + 1))) rfl (qp (AI (w64 (v1009 + 1))) rfl ?_))
  refine r_nil ?_
  refine thenQ_n ?_
  refine ar (l' := [(0, AL 5 (v0.map eLesson)), (3, .sl 0 0 (List.set v1010 v1009.toNat v1012).length), (4, AI (w64 (v1009 + 1)))]) (L := [(0, .row true 5 ((List.set v1010 v1009.toNat v1012).map eLesson))]) [0, 3, 4] [(0, 0)] 1 ⟨_, by rfl, hF⟩
 ·
  refine w_exit ?_
  refine thenQ_e ?_
  refine thenQ_e ?_
  refine blockQ_e ?_
  refine thenQ_n ?_
  refine ws 257 385 ?_
  refine qp (.sl 0 0 v1010.length) rfl (qp (.sl 0 0 v1010.length) rfl ?_)
  refine r_nil ?_
  refine w_ret ?_
  cases hF
  exact eR

def c99 : MC := (.seq (.reg [rg 2 (.f (.nilrow 1))]) (.seq (.reg [rg 5 (.p true (.mv (.t 0))), rg 6 (.p true (.len (.t 5))), rg 7 (.f (.mks 1 16 (.str []) (.t 6) (.t 6))), rg 3 (.p true (.mv (.t 7)))]) (.seq (.seq (.reg [rg 4 (.p true (.mv (.c (.int .i64 0))))]) (.block 0 (.loop (.seq (.seq (.reg [rg 8 (.p true (.mv (.t 4))), rg 9 (.p true (.mv (.t 0))), rg 10 (.p true (.len (.t 9))), rg 11 (.p true (.bin .lss (.t 8) (.t 10)))]) (.cond (.t 11) .skip (.exit 0))) (.seq (.block 1 (.reg [rg 14 (.p true (.mv (.t 3))), rg 15 (.p true (.mv (.t 4))), rg 16 (.p true (.mv (.t 0))), rg 17 (.p true (.mv (.t 4))), rg 18 (.p true (.iad (.t 16) (.t 17) 1)), rg 19 (.p true (.ld (.t 18) 1 false)), rg 20 (.p true (.iad (.t 14) (.t 15) 1)), ⟨none, none, (.f (.st (.t 20) (.t 19) 1))⟩])) (.reg [rg 12 (.p true (.mv (.t 4))), rg 13 (.p true (.bin .add (.t 12) (.c (.int .i64 1)))), rg 4 (.p true (.mv (.t 13)))])))))) (.seq (.reg [rg 21 (.p true (.mv (.t 3))), rg 2 (.p true (.mv (.t 21)))]) .ret))))
theorem c99_is : compFn Try.prog 99 = some (c99, [(.tmp 2)]) := by kernel_rfl
theorem c99_ok : okFn Try.prog 99 = true := by kernel_rfl

noncomputable def F_laws_toStringS_l0 (v0 : List (List UInt8)) (k1 : Int × (List (List UInt8)) → Option (List (List UInt8))) : Int × (List (List UInt8)) → Option (List (List UInt8))
 | (v1007, v1008) => (bif (decide (v1007 < (v0.length : Int))) then ((ix v0 v1007).bind fun v1009 => ((ix v1008 v1007).bind fun v1010 => k1 (w64 (v1007 + 1), List.set v1008 v1007.toNat v1009)))
 else some v1008)
noncomputable def F_laws_toStringS (v0 : List (List UInt8)) : Option (List (List UInt8)) :=
 (need (0 ≤ (v0.length : Int) ∧ (v0.length : Int) ≤ (v0.length : Int) ∧ (v0.length : Int) ≤ 9223372036854775807 ∧ 16 * (v0.length : Int) ≤ 281474976710656) (loop (F_laws_toStringS_l0 v0) (0, List.replicate ((v0.length : Int)).toNat ([] : List UInt8))))
@[simp] def res_laws_toStringS (r : List (List UInt8)) : RV := .one (.one (.row true 1 (r.map V.str)))
theorem con_laws_toStringS {v0 : List (List UInt8)} {r : List (List UInt8)} (hF : F_laws_toStringS v0 = some r) : Con Try.prog 99 [.sl 1 (v0.map V.str)] (res_laws_toStringS r) := by
 unfold F_laws_toStringS at hF
 refine con_of c99_is fun N => ?_
 refine ws 0 64 ?_
 refine qf (.sl 0 0 0) [(0, .row true 1 (([] : List Int).map (V.int .i64)))] (by simp) ?_
 refine r_nil ?_
 refine ws 64 320 ?_
 refine qp (AL 1 (v0.map V.str)) rfl (qp (AI (v0.length : Int)) (ev_len_n rfl) ?_)
 obtain ⟨g1000, hF⟩ := need_some hF
 refine qf (.sl 192 0 ((List.replicate ((v0.length : Int)).toNat ([] : List UInt8)).length)) [(192, .row true 1 ((List.replicate ((v0.length : Int)).toNat ([] : List UInt8)).map V.str)), (0, .row true 1 (([] : List Int).map (V.int .i64)))] (effT_mks rfl rfl g1000 rfl) ?_
 refine qp (.sl 192 0 ((List.replicate ((v0.length : Int)).toNat ([] : List UInt8)).length)) rfl ?_
 refine r_nil ?_
 refine w_seq ?_
 refine ws 320 384 ?_
 refine qp (AI 0) rfl ?_
 refine r_nil ?_
 refine w_block ?_
 refine wr (l' := [(0, AL 1 (v0.map V.str)), (3, .sl 0 0 (List.replicate ((v0.length : Int)).toNat ([] : List UInt8)).length), (4, AI 0)]) (L := [(0, .row true 1 ((List.replicate ((v0.length : Int)).toNat ([] : List UInt8)).map V.str))]) [0, 3, 4] [(192, 0)] 1 ?_
 refine w_loopF (F_laws_toStringS_l0 v0) (fun s : Int × (List (List UInt8)) => mkS [(0, AL 1 (v0.map V.str)), (3, .sl 0 0 s.2.length), (4, AI s.1)] (fo [(0, .row true 1 (s.2.map V.str))]) 1) hF ?_
 rintro k1 ⟨v1007, v1008⟩ hF
 rw [F_laws_toStringS_l0] at hF
 try dsimp only
 refine w_seq ?_
 refine ws 1 257 ?_
 refine qp (AI v1007) rfl (qp (AL 1 (v0.map V.str)) rfl (qp (AI (v0.length : Int)) (ev_len_n rfl) (qp (AB (decide (v1007 < (v0.length : Int)))) rfl ?_)))
 refine r_nil ?_
 refine cF hF (fun hF => ?_) fun hF => ?_
 ·
  refine w_skip ?_
  refine thenQ_n ?_
  refine w_seq ?_
  refine w_block ?_
  refine w_reg 257 769 rfl rfl ?_
  refine qp (.sl 0 0 v1008.length) rfl (qp (AI v1007) rfl (qp (AL 1 (v0.map V.str)) rfl (qp (AI v1007) rfl ?_)))
  obtain ⟨v1009, e1009, hF⟩ := bind_get hF
  refine qp (.val none (.ptr [.str v1009])) (ev_iad_n rfl rfl e1009 rfl) (qp (AS v1009) rfl ?_)
  obtain ⟨v1010, e1010, hF⟩ := bind_get hF
  refine qp (.ptr 0 v1007.toNat 0) (ev_iad_r rfl (by simp) rfl rfl e1010) ?_
  refine qf0 (.undef) [(0, .row true 1 ((List.set v1008 v1007.toNat v1009).map V.str)), (0, .row true 1 (v1008.map V.str))] (effT_st rfl rfl (ix_some e1010).2 rfl rfl (by rfl) (by first | rfl | simp [patch, reb, List.take_of_length_le]) (by rfl) rfl) ?_
  refine r_nil ?_
  refine blockQ_n ?_
  refine thenQ_n ?_
  refine w_reg 769 961 rfl rfl ?_
  refine qp (AI v1007) rfl (qp (AI (w64 (v1007 + 1))) rfl (qp (AI (w64 (v1007 + 1))) rfl ?_))
  refine r_nil ?_
  refine thenQ_n ?_
  refine ar (l' := [(0, AL 1 (v0.map V.str)), (3, .sl 0 0 (List.set v1008 v1007.toNat v1009).length), (4, AI (w64 (v1007 + 1)))]) (L := [(0, .row true 1 ((List.set v1008 v1007.toNat v1009).map V.str))]) [0, 3, 4] [(0, 0)] 1 ⟨_, by rfl, hF⟩
 ·
  refine w_exit ?_
  refine thenQ_e ?_
  refine thenQ_e ?_
  refine blockQ_e ?_
  refine thenQ_n ?_
  refine ws 257 385 ?_
  refine qp (.sl 0 0 v1008.length) rfl (qp (.sl 0 0 v1008.length) rfl ?_)
  refine r_nil ?_
  refine w_ret ?_
  cases hF
  exact eR

def c22 : MC := (.seq (.reg [rg 2 (.f (.nilrow 1))]) (.seq (.reg [rg 5 (.p true (.mv (.t 0))), rg 6 (.p true (.len (.t 5))), rg 7 (.f (.mks 1 24 (.sl 1 []) (.t 6) (.t 6))), rg 3 (.p true (.mv (.t 7)))]) (.seq (.seq (.reg [rg 4 (.p true (.mv (.c (.int .i64 0))))]) (.block 0 (.loop (.seq (.seq (.reg [rg 8 (.p true (.mv (.t 4))), rg 9 (.p true (.mv (.t 0))), rg 10 (.p true (.len (.t 9))), rg 11 (.p true (.bin .lss (.t 8) (.t 10)))]) (.cond (.t 11) .skip (.exit 0))) (.seq (.block 1 (.reg [rg 14 (.p true (.mv (.t 3))), rg 15 (.p true (.mv (.t 4))), rg 16 (.p true (.mv (.t 0))), rg 17 (.p true (.mv (.t 4))), rg 18 (.p true (.iad (.t 16) (.t 17) 1)), rg 19 (.p true (.ld (.t 18) 1 false)), rg 20 (.call true 99 [(.t 19)]), rg 21 (.p true (.iad (.t 14) (.t 15) 1)), ⟨none, none, (.f (.st (.t 21) (.t 20) 1))⟩])) (.reg [rg 12 (.p true (.mv (.t 4))), rg 13 (.p true (.bin .add (.t 12) (.c (.int .i64 1)))), rg 4 (.p true (.mv (.t 13)))])))))) (.seq (.reg [rg 22 (.p true (.mv (.t 3))), rg 2 (.p true (.mv (.t 22)))]) .ret))))
theorem c22_is : compFn Try.prog 22 = some (c22, [(.tmp 2)]) := by kernel_rfl
theorem c22_ok : okFn Try.prog 22 = true := by kernel_rfl

noncomputable def F_laws_toStringSS_l0 (v0 : List (List (List UInt8))) (k1 : Int × (List (List (List UInt8))) → Option (List (List (List UInt8)))) : Int × (List (List (List UInt8))) → Option (List (List (List UInt8)))
 | (v1009, v1010) => (bif (decide (v1009 < (v0.length : Int))) then ((ix v0 v1009).bind fun v1011 => ((F_laws_toStringS v1011).bind fun v1012 => ((ix v1010 v1009).bind fun v1013 => k1 (w64 (v1009 + 1), List.set v1010 v1009.toNat v1012))))
 else some v1010)
noncomputable def F_laws_toStringSS (v0 : List (List (List UInt8))) : Option (List (List (List UInt8))) :=
 (need (0 ≤ (v0.length : Int) ∧ (v0.length : Int) ≤ (v0.length : Int) ∧ (v0.length : Int) ≤ 9223372036854775807 ∧ 24 * (v0.length : Int) ≤ 281474976710656) (loop (F_laws_toStringSS_l0 v0) (0, List.replicate ((v0.length : Int)).toNat ([] : List (List UInt8)))))
@[simp] def res_laws_toStringSS (r : List (List (List UInt8))) : RV := .one (.one (.row true 1 (r.map (eL 1 V.str))))
theorem con_laws_toStringSS {v0 : List (List (List UInt8))} {r : List (List (List UInt8))} (hF : F_laws_toStringSS v0 = some r) : Con Try.prog 22 [.sl 1 (v0.map (eL 1 V.str))] (res_laws_toStringSS r) := by
 unfold F_laws_toStringSS at hF
 refine con_of c22_is fun N => ?_
 refine ws 0 64 ?_
 refine qf (.sl 0 0 0) [(0, .row true 1 (([] : List Int).map (V.int .i64)))] (by simp) ?_
 refine r_nil ?_
 refine ws 64 320 ?_
 refine qp (AL 1 (v0.map (eL 1 V.str))) rfl (qp (AI (v0.length : Int)) (ev_len_n rfl) ?_)
 obtain ⟨g1000, hF⟩ := need_some hF
 refine qf (.sl 192 0 ((List.replicate ((v0.length : Int)).toNat ([] : List (List UInt8))).length)) [(192, .row true 1 ((List.replicate ((v0.length : Int)).toNat ([] : List (List UInt8))).map (eL 1 V.str))), (0, .row true 1 (([] : List Int).map (V.int .i64)))] (effT_mks rfl rfl g1000 rfl) ?_
 refine qp (.sl 192 0 ((List.replicate ((v0.length : Int)).toNat ([] : List (List UInt8))).length)) rfl ?_
 refine r_nil ?_
 refine w_seq ?_
 refine ws 320 384 ?_
 refine qp (AI 0) rfl ?_
 refine r_nil ?_
 refine w_block ?_
 refine wr (l' := [(0, AL 1 (v0.map (eL 1 V.str))), (3, .sl 0 0 (List.replicate ((v0.length : Int)).toNat ([] : List (List UInt8))).length), (4, AI 0)]) (L := [(0, .row true 1 ((List.replicate ((v0.length : Int)).toNat ([] : List (List UInt8))).map (eL 1 V.str)))]) [0, 3, 4] [(192, 0)] 1 ?_
 refine w_loopF (F_laws_toStringSS_l0 v0) (fun s : Int × (List (List (List UInt8))) => mkS [(0, AL 1 (v0.map (eL 1 V.str))), (3, .sl 0 0 s.2.length), (4, AI s.1)] (fo [(0, .row true 1 (s.2.map (eL 1 V.str)))]) 1) hF ?_
 rintro k1 ⟨v1009, v1010⟩ hF
 rw [F_laws_toStringSS_l0] at hF
 try dsimp only
 refine w_seq ?_
 refine ws 1 257 ?_
 refine qp (AI v1009) rfl (qp (AL 1 (v0.map (eL 1 V.str))) rfl (qp (AI (v0.length : Int)) (ev_len_n rfl) (qp (AB (decide (v1009 < (v0.length : Int)))) rfl ?_)))
 refine r_nil ?_
 refine cF hF (fun hF => ?_) fun hF => ?_
 ·
  refine w_skip ?_
  refine thenQ_n ?_
  refine w_seq ?_
  refine w_block ?_
  refine w_reg 257 833 rfl rfl ?_
  refine qp (.sl 0 0 v1010.length) rfl (qp (AI v1009) rfl (qp (AL 1 (v0.map (eL 1 V.str))) rfl (qp (AI v1009) rfl ?_)))
  obtain ⟨v1011, e1011, hF⟩ := bind_get hF
  refine qp (.val none (.ptr [.sl 1 (v1011.map V.str)])) (ev_iad_n rfl rfl e1011 rfl) (qp (AL 1 (v1011.map V.str)) rfl ?_)
  obtain ⟨v1012, e1012, hF⟩ := bind_get hF
  refine qc (.sl 641 0 v1012.length) [(641, .row true 1 (v1012.map V.str)), (0, .row true 1 (v1010.map (eL 1 V.str)))] false (con_laws_toStringS e1012) c99_ok (by first | rfl | simp) (by simp [res_laws_toStringS]) ?_
  obtain ⟨v1013, e1013, hF⟩ := bind_get hF
  refine qp (.ptr 0 v1009.toNat 0) (ev_iad_r rfl (by simp) rfl rfl e1013) ?_
  refine qf0 (.undef) [(0, .row true 1 ((List.set v1010 v1009.toNat v1012).map (eL 1 V.str))), (641, .dead), (641, .row true 1 (v1012.map V.str)), (0, .row true 1 (v1010.map (eL 1 V.str)))] (effT_st rfl rfl (ix_some e1013).2 rfl rfl (by rfl) (by first | rfl | simp [patch, reb, List.take_of_length_le]) (by rfl) rfl) ?_
  refine r_nil ?_
  refine blockQ_n ?_
  refine thenQ_n ?_
  refine w_reg 833 1025 rfl rfl ?_
  refine qp (AI v1009) rfl (qp (AI (w64 (v1009 + 1))) rfl (qp (AI (w64 (v1009 + 1))) rfl ?_))
  refine r_nil ?_
  refine thenQ_n ?_
  refine ar (l' := [(0, AL 1 (v0.map (eL 1 V.str))), (3, .sl 0 0 (List.set v1010 v1009.toNat v1012).length), (4, AI (w64 (v1009 + 1)))]) (L := [(0, .row true 1 ((List.set v1010 v1009.toNat v1012).map (eL 1 V.str)))]) [0, 3, 4] [(0, 0)] 1 ⟨_, by rfl, hF⟩
 ·
  refine w_exit ?_
  refine thenQ_e ?_
  refine thenQ_e ?_
  refine blockQ_e ?_
  refine thenQ_n ?_
  refine ws 257 385 ?_
  refine qp (.sl 0 0 v1010.length) rfl (qp (.sl 0 0 v1010.length) rfl ?_)
  refine r_nil ?_
  refine w_ret ?_
  cases hF
  exact eR

def c93 : MC := (.seq (.reg [rg 6 (.p true (.mv (.c (.bool false))))]) (.seq (.reg [rg 7 (.p true (.mv (.t 0))), rg 8 (.p true (.mv (.t 1))), rg 9 (.p true (.bin .geq (.t 7) (.t 8))), rg 10 (.p true (.mv (.t 9))), ⟨(some 11), (some (10, true)), (.p true (.mv (.t 0)))⟩, ⟨(some 12), (some (10, true)), (.p true (.mv (.t 2)))⟩, ⟨(some 13), (some (10, true)), (.p true (.bin .leq (.t 11) (.t 12)))⟩, rg 14 (.p true (.pick (.t 10) (.t 13) (.c (.bool false)))), rg 6 (.p true (.mv (.t 14)))]) .ret))
theorem c93_is : compFn Try.prog 93 = some (c93, [(.tmp 6)]) := by kernel_rfl
theorem c93_ok : okFn Try.prog 93 = true := by kernel_rfl

noncomputable def F_spec_l00In (v0 : Int) (v1 : Int) (v2 : Int) : Option (Bool) :=
 (bif (decide (v1 ≤ v0)) then some (decide (v0 ≤ v2))
 else some false)
@[simp] def res_spec_l00In (r : Bool) : RV := .one (.one (.val (.bool r)))
theorem con_spec_l00In {v0 : Int} {v1 : Int} {v2 : Int} {r : Bool} (hF : F_spec_l00In v0 v1 v2 = some r) : Con Try.prog 93 [.int .i64 v0, .int .i64 v1, .int .i64 v2] (res_spec_l00In r) := by
 unfold F_spec_l00In at hF
 refine con_of c93_is fun N => ?_
 refine ws 0 64 ?_
 refine qp (AB false) rfl ?_
 refine r_nil ?_
 refine ws 64 640 ?_
 refine qp (AI v0) rfl (qp (AI v1) rfl (qp (AB (decide (v1 ≤ v0))) rfl (qp (AB (decide (v1 ≤ v0))) rfl ?_)))
 refine q_case 10 hF rfl (fun hF => ?_) (fun hF => ?_)
 ·
  refine qg (AI v0) rfl rfl (qg (AI v2) rfl rfl (qg (AB (decide (v0 ≤ v2))) rfl rfl (qp (AB (decide (v0 ≤ v2))) rfl (qp (AB (decide (v0 ≤ v2))) rfl ?_))))
  refine r_nil ?_
  refine w_ret ?_
  cases hF
  exact eR
 ·
  refine qn rfl (qn rfl (qn rfl (qp (AB false) rfl (qp (AB false) rfl ?_))))
  refine r_nil ?_
  refine w_ret ?_
  cases hF
  exact eR

def c185 : MC := (.seq (.reg [rg 2 (.p true (.mv (.c (.bool false))))]) (.seq (.reg [rg 3 (.p true (.mv (.t 0))), rg 4 (.p true (.bin .geq (.t 3) (.c (.int .u8 97)))), rg 5 (.p true (.mv (.t 4))), ⟨(some 6), (some (5, true)), (.p true (.mv (.t 0)))⟩, ⟨(some 7), (some (5, true)), (.p true (.bin .leq (.t 6) (.c (.int .u8 122))))⟩, rg 8 (.p true (.pick (.t 5) (.t 7) (.c (.bool false)))), rg 2 (.p true (.mv (.t 8)))]) .ret))
theorem c185_is : compFn Try.prog 185 = some (c185, [(.tmp 2)]) := by kernel_rfl
theorem c185_ok : okFn Try.prog 185 = true := by kernel_rfl

noncomputable def F_spec_l01Small (v0 : Int) : Option (Bool) :=
 (bif (decide ((97 : Int) ≤ v0)) then some (decide (v0 ≤ (122 : Int)))
 else some false)
@[simp] def res_spec_l01Small (r : Bool) : RV := .one (.one (.val (.bool r)))
theorem con_spec_l01Small {v0 : Int} {r : Bool} (hF : F_spec_l01Small v0 = some r) : Con Try.prog 185 [.int .u8 v0] (res_spec_l01Small r) := by
 unfold F_spec_l01Small at hF
 refine con_of c185_is fun N => ?_
 refine ws 0 64 ?_
 refine qp (AB false) rfl ?_
 refine r_nil ?_
 refine ws 64 512 ?_
 refine qp (.val none (.int .u8 v0)) rfl (qp (AB (decide ((97 : Int) ≤ v0))) rfl (qp (AB (decide ((97 : Int) ≤ v0))) rfl ?_))
 refine q_case 5 hF rfl (fun hF => ?_) (fun hF => ?_)
 ·
  refine qg (.val none (.int .u8 v0)) rfl rfl (qg (AB (decide (v0 ≤ (122 : Int)))) rfl rfl (qp (AB (decide (v0 ≤ (122 : Int)))) rfl (qp (AB (decide (v0 ≤ (122 : Int)))) rfl ?_)))
  refine r_nil ?_
  refine w_ret ?_
  cases hF
  exact eR
 ·
  refine qn rfl (qn rfl (qp (AB false) rfl (qp (AB false) rfl ?_)))
  refine r_nil ?_
  refine w_ret ?_
  cases hF
  exact eR

def c186 : MC := (.seq (.reg [rg 2 (.p true (.mv (.c (.bool false))))]) (.seq (.reg [rg 3 (.p true (.mv (.t 0))), rg 4 (.p true (.bin .geq (.t 3) (.c (.int .u8 48)))), rg 5 (.p true (.mv (.t 4))), ⟨(some 6), (some (5, true)), (.p true (.mv (.t 0)))⟩, ⟨(some 7), (some (5, true)), (.p true (.bin .leq (.t 6) (.c (.int .u8 57))))⟩, rg 8 (.p true (.pick (.t 5) (.t 7) (.c (.bool false)))), rg 2 (.p true (.mv (.t 8)))]) .ret))
theorem c186_is : compFn Try.prog 186 = some (c186, [(.tmp 2)]) := by kernel_rfl
theorem c186_ok : okFn Try.prog 186 = true := by kernel_rfl

noncomputable def F_spec_l01Digit (v0 : Int) : Option (Bool) :=
 (bif (decide ((48 : Int) ≤ v0)) then some (decide (v0 ≤ (57 : Int)))
 else some false)
@[simp] def res_spec_l01Digit (r : Bool) : RV := .one (.one (.val (.bool r)))
theorem con_spec_l01Digit {v0 : Int} {r : Bool} (hF : F_spec_l01Digit v0 = some r) : Con Try.prog 186 [.int .u8 v0] (res_spec_l01Digit r) := by
 unfold F_spec_l01Digit at hF
 refine con_of c186_is fun N => ?_
 refine ws 0 64 ?_
 refine qp (AB false) rfl ?_
 refine r_nil ?_
 refine ws 64 512 ?_
 refine qp (.val none (.int .u8 v0)) rfl (qp (AB (decide ((48 : Int) ≤ v0))) rfl (qp (AB (decide ((48 : Int) ≤ v0))) rfl ?_))
 refine q_case 5 hF rfl (fun hF => ?_) (fun hF => ?_)
 ·
  refine qg (.val none (.int .u8 v0)) rfl rfl (qg (AB (decide (v0 ≤ (57 : Int)))) rfl rfl (qp (AB (decide (v0 ≤ (57 : Int)))) rfl (qp (AB (decide (v0 ≤ (57 : Int)))) rfl ?_)))
  refine r_nil ?_
  refine w_ret ?_
  cases hF
  exact eR
 ·
  refine qn rfl (qn rfl (qp (AB false) rfl (qp (AB false) rfl ?_)))
  refine r_nil ?_
  refine w_ret ?_
  cases hF
  exact eR

def c94 : MC := (.seq (.reg [rg 2 (.p true (.mv (.c (.bool false))))]) (.seq (.seq (.reg [rg 4 (.p true (.mv (.t 0))), rg 5 (.p true (.bin .eql (.t 4) (.c (.str [])))), rg 6 (.p true (.mv (.t 5))), ⟨(some 7), (some (6, false)), (.p true (.mv (.t 0)))⟩, ⟨(some 8), (some (6, false)), (.p true (.lens (.t 7)))⟩, ⟨(some 9), (some (6, false)), (.p true (.bin .gtr (.t 8) (.c (.int .i64 10))))⟩, rg 10 (.p true (.pick (.t 6) (.c (.bool true)) (.t 9))), rg 11 (.p true (.mv (.t 10))), ⟨(some 12), (some (11, false)), (.p true (.mv (.t 0)))⟩, ⟨(some 13), (some (11, false)), (.p true (.ixs (.t 12) (.c (.int .i64 0))))⟩, ⟨(some 14), (some (11, false)), (.call true 185 [(.t 13)])⟩, ⟨(some 15), (some (11, false)), (.p true (.not (.t 14)))⟩, rg 16 (.p true (.pick (.t 11) (.c (.bool true)) (.t 15)))]) (.cond (.t 16) (.seq (.reg [rg 2 (.p true (.mv (.c (.bool false))))]) .ret) .skip)) (.seq (.seq (.reg [rg 3 (.p true (.mv (.c (.int .i64 0))))]) (.block 0 (.loop (.seq (.seq (.reg [rg 17 (.p true (.mv (.t 3))), rg 18 (.p true (.mv (.t 0))), rg 19 (.p true (.lens (.t 18))), rg 20 (.p true (.bin .lss (.t 17) (.t 19)))]) (.cond (.t 20) .skip (.exit 0))) (.seq (.block 1 (.seq (.reg [rg 23 (.p true (.mv (.t 0))), rg 24 (.p true (.mv (.t 3))), rg 25 (.p true (.ixs (.t 23) (.t 24))), rg 26 (.call true 185 [(.t 25)]), rg 27 (.p true (.not (.t 26))), rg 28 (.p true (.mv (.t 27))), ⟨(some 29), (some (28, true)), (.p true (.mv (.t 0)))⟩, ⟨(some 30), (some (28, true)), (.p true (.mv (.t 3)))⟩, ⟨(some 31), (some (28, true)), (.p true (.ixs (.t 29) (.t 30)))⟩, ⟨(some 32), (some (28, true)), (.call true 186 [(.t 31)])⟩, ⟨(some 33), (some (28, true)), (.p true (.not (.t 32)))⟩, rg 34 (.p true (.pick (.t 28) (.t 33) (.c (.bool false))))]) (.cond (.t 34) (.seq (.reg [rg 2 (.p true (.mv (.c (.bool false))))]) .ret) .skip))) (.reg [rg 21 (.p true (.mv (.t 3))), rg 22 (.p true (.bin .add (.t 21) (.c (.int .i64 1)))), rg 3 (.p true (.mv (.t 22)))])))))) (.seq (.reg [rg 2 (.p true (.mv (.c (.bool true))))]) .ret))))
theorem c94_is : compFn Try.prog 94 = some (c94, [(.tmp 2)]) := by kernel_rfl
theorem c94_ok : okFn Try.prog 94 = true := by kernel_rfl

noncomputable def F_spec_l01Name_l0 (v0 : List UInt8) (k1 : Int → Option (Bool)) : Int → Option (Bool)
 | v1011 => (bif (decide (v1011 < (v0.length : Int))) then ((ix v0 v1011).bind fun v1012 => ((F_spec_l01Small (v1012.toNat : Int)).bind fun v1013 => (bif (!v1013) then ((ix v0 v1011).bind fun v1014 => ((F_spec_l01Digit (v1014.toNat : Int)).bind fun v1015 => (bif (!v1015) then some false
 else k1 (w64 (v1011 + 1)))))
 else k1 (w64 (v1011 + 1)))))
 else some true)
noncomputable def F_spec_l01Name (v0 : List UInt8) : Option (Bool) :=
 (bif (decide (v0 = [])) then some false
 else (bif (decide ((10 : Int) < (v0.length : Int))) then some false
 else ((ix v0 0).bind fun v1000 => ((F_spec_l01Small (v1000.toNat : Int)).bind fun v1001 => (bif (!v1001) then some false
 else loop (F_spec_l01Name_l0 v0) 0)))))
@[simp] def res_spec_l01Name (r : Bool) : RV := .one (.one (.val (.bool r)))
theorem con_spec_l01Name {v0 : List UInt8} {r : Bool} (hF : F_spec_l01Name v0 = some r) : Con Try.prog 94 [.str v0] (res_spec_l01Name r) := by
 unfold F_spec_l01Name at hF
 refine con_of c94_is fun N => ?_
 refine ws 0 64 ?_
 refine qp (AB false) rfl ?_
 refine r_nil ?_
 refine w_seq ?_
 refine ws 64 896 ?_
 refine qp (AS v0) rfl (qp (AB (decide (v0 = []))) rfl (qp (AB (decide (v0 = []))) rfl ?_))
 refine q_case 6 hF rfl (fun hF => ?_) (fun hF => ?_)
 ·
  refine qn rfl (qn rfl (qn rfl (qp (AB true) rfl (qp (AB true) rfl (qn rfl (qn rfl (qn rfl ?_)))))))
  refine qn rfl (qp (AB true) rfl ?_)
  refine r_nil ?_
  refine w_true rfl ?_
  refine ws 896 960 ?_
  refine qp (AB false) rfl ?_
  refine r_nil ?_
  refine w_ret ?_
  refine thenQ_r ?_
  cases hF
  exact eR
 ·
  refine qg (AS v0) rfl rfl (qg (AI (v0.length : Int)) rfl rfl (qg (AB (decide ((10 : Int) < (v0.length : Int)))) rfl rfl (qp (AB (decide ((10 : Int) < (v0.length : Int)))) rfl (qp (AB (decide ((10 : Int) < (v0.length : Int)))) rfl ?_))))
  refine q_case 11 hF rfl (fun hF => ?_) (fun hF => ?_)
  ·
   refine qn rfl (qn rfl (qn rfl (qn rfl (qp (AB true) rfl ?_))))
   refine r_nil ?_
   refine w_true rfl ?_
   refine ws 896 960 ?_
   refine qp (AB false) rfl ?_
   refine r_nil ?_
   refine w_ret ?_
   refine thenQ_r ?_
   cases hF
   exact eR
  ·
   refine qg (AS v0) rfl rfl ?_
   obtain ⟨v1000, e1000, hF⟩ := bind_get hF
   refine qg (.val none (.int .u8 (v1000.toNat : Int))) rfl (ev_ixs rfl rfl e1000) ?_
   obtain ⟨v1001, e1001, hF⟩ := bind_get hF
   refine qcg (AB v1001) [] false rfl (con_spec_l01Small e1001) c185_ok (by first | rfl | simp) rfl ?_
   refine qg (AB (!v1001)) rfl rfl (qp (AB (!v1001)) rfl ?_)
   refine r_nil ?_
   refine cF hF (fun hF => ?_) fun hF => ?_
   ·
    refine ws 896 960 ?_
    refine qp (AB false) rfl ?_
    refine r_nil ?_
    refine w_ret ?_
    refine thenQ_r ?_
    cases hF
    exact eR
   ·
    refine w_skip ?_
    refine thenQ_n ?_
    refine w_seq ?_
    refine ws 896 960 ?_
    refine qp (AI 0) rfl ?_
    refine r_nil ?_
    refine w_block ?_
    refine wr (l' := [(0, AS v0), (3, AI 0)]) (L := []) [0, 3] [] 1 ?_
    refine w_loopF (F_spec_l01Name_l0 v0) (fun s : Int => mkS [(0, AS v0), (3, AI s)] (fo []) 1) hF ?_
    rintro k1 v1011 hF
    rw [F_spec_l01Name_l0] at hF
    try dsimp only
    refine w_seq ?_
    refine ws 1 257 ?_
    refine qp (AI v1011) rfl (qp (AS v0) rfl (qp (AI (v0.length : Int)) rfl (qp (AB (decide (v1011 < (v0.length : Int)))) rfl ?_)))
    refine r_nil ?_
    refine cF hF (fun hF => ?_) fun hF => ?_
    ·
     refine w_skip ?_
     refine thenQ_n ?_
     refine w_seq ?_
     refine w_block ?_
     refine ws 257 1025 ?_
     refine qp (AS v0) rfl (qp (AI v1011) rfl ?_)
     obtain ⟨v1012, e1012, hF⟩ := bind_get hF
     refine qp (.val none (.int .u8 (v1012.toNat : Int))) (ev_ixs rfl rfl e1012) ?_
     obtain ⟨v1013, e1013, hF⟩ := bind_get hF
     refine qc (AB v1013) [] false (con_spec_l01Small e1013) c185_ok (by first | rfl | simp) rfl ?_
     refine qp (AB (!v1013)) rfl (qp (AB (!v1013)) rfl ?_)
     refine q_case 28 hF rfl (fun hF => ?_) (fun hF => ?_)
     ·
      refine qg (AS v0) rfl rfl (qg (AI v1011) rfl rfl ?_)
      obtain ⟨v1014, e1014, hF⟩ := bind_get hF
      refine qg (.val none (.int .u8 (v1014.toNat : Int))) rfl (ev_ixs rfl rfl e1014) ?_
      obtain ⟨v1015, e1015, hF⟩ := bind_get hF
      refine qcg (AB v1015) [] false rfl (con_spec_l01Digit e1015) c186_ok (by first | rfl | simp) rfl ?_
      refine qg (AB (!v1015)) rfl rfl (qp (AB (!v1015)) rfl ?_)
      refine r_nil ?_
      refine cF hF (fun hF => ?_) fun hF => ?_
      ·
       refine ws 1025 1089 ?_
       refine qp (AB false) rfl ?_
       refine r_nil ?_
       refine w_ret ?_
       refine blockQ_r ?_
       refine thenQ_r ?_
       refine thenQ_r ?_
       refine blockQ_r ?_
       refine thenQ_r ?_
       cases hF
       exact eR
      ·
       refine w_skip ?_
       refine blockQ_n ?_
       refine thenQ_n ?_
       refine w_reg 1025 1217 rfl rfl ?_
       refine qp (AI v1011) rfl (qp (AI (w64 (v1011 + 1))) rfl (qp (AI (w64 (v1011 + 1))) rfl ?_))
       refine r_nil ?_
       refine thenQ_n ?_
       refine ar (l' := [(0, AS v0), (3, AI (w64 (v1011 + 1)))]) (L := []) [0, 3] [] 1 ⟨_, by rfl, hF⟩
     ·
      refine qn rfl (qn rfl (qn rfl (qn rfl (qn rfl (qp (AB false) rfl ?_)))))
      refine r_nil ?_
      refine w_false rfl ?_
      refine w_skip ?_
      refine blockQ_n ?_
      refine thenQ_n ?_
      refine w_reg 1025 1217 rfl rfl ?_
      refine qp (AI v1011) rfl (qp (AI (w64 (v1011 + 1))) rfl (qp (AI (w64 (v1011 + 1))) rfl ?_))
      refine r_nil ?_
      refine thenQ_n ?_
      refine ar (l' := [(0, AS v0), (3, AI (w64 (v1011 + 1)))]) (L := []) [0, 3] [] 1 ⟨_, by rfl, hF⟩
    ·
     refine w_exit ?_
     refine thenQ_e ?_
     refine thenQ_e ?_
     refine blockQ_e ?_
     refine thenQ_n ?_
     refine ws 257 321 ?_
     refine qp (AB true) rfl ?_
     refine r_nil ?_
     refine w_ret ?_
     cases hF
     exact eR

def c193 : MC := (.seq (.reg [rg 2 (.p true (.mv (.c (.bool false))))]) (.seq (.reg [rg 3 (.p true (.mv (.t 0))), rg 4 (.p true (.nck (.t 3))), rg 5 (.p true (.fad (.t 4) 0)), rg 6 (.p true (.ld (.t 5) 1 false)), rg 7 (.call true 93 [(.t 6), (.c (.int .i64 0)), (.c (.int .i64 100000))]), rg 8 (.p true (.mv (.t 7))), ⟨(some 9), (some (8, true)), (.p true (.mv (.t 0)))⟩, ⟨(some 10), (some (8, true)), (.p true (.nck (.t 9)))⟩, ⟨(some 11), (some (8, true)), (.p true (.fad (.t 10) 1))⟩, ⟨(some 12), (some (8, true)), (.p true (.ld (.t 11) 1 false))⟩, ⟨(some 13), (some (8, true)), (.call true 94 [(.t 12)])⟩, rg 14 (.p true (.pick (.t 8) (.t 13) (.c (.bool false)))), rg 15 (.p true (.mv (.t 14))), ⟨(some 16), (some (15, true)), (.p true (.mv (.t 0)))⟩, ⟨(some 17), (some (15, true)), (.p true (.nck (.t 16)))⟩, ⟨(some 18), (some (15, true)), (.p true (.fad (.t 17) 2))⟩, ⟨(some 19), (some (15, true)), (.p true (.ld (.t 18) 1 false))⟩, ⟨(some 20), (some (15, true)), (.call true 94 [(.t 19)])⟩, rg 21 (.p true (.pick (.t 15) (.t 20) (.c (.bool false)))), rg 22 (.p true (.mv (.t 21))), ⟨(some 23), (some (22, true)), (.p true (.mv (.t 0)))⟩, ⟨(some 24), (some (22, true)), (.p true (.nck (.t 23)))⟩, ⟨(some 25), (some (22, true)), (.p true (.fad (.t 24) 3))⟩, ⟨(some 26), (some (22, true)), (.p true (.ld (.t 25) 1 false))⟩, ⟨(some 27), (some (22, true)), (.call true 93 [(.t 26), (.c (.int .i64 1)), (.c (.int .i64 480))])⟩, rg 28 (.p true (.pick (.t 22) (.t 27) (.c (.bool false)))), rg 29 (.p true (.mv (.t 28))), ⟨(some 30), (some (29, true)), (.p true (.mv (.t 0)))⟩, ⟨(some 31), (some (29, true)), (.p true (.nck (.t 30)))⟩, ⟨(some 32), (some (29, true)), (.p true (.fad (.t 31) 4))⟩, ⟨(some 33), (some (29, true)), (.p true (.ld (.t 32) 1 false))⟩, ⟨(some 34), (some (29, true)), (.call true 93 [(.t 33), (.c (.int .i64 0)), (.c (.int .i64 100))])⟩, rg 35 (.p true (.pick (.t 29) (.t 34) (.c (.bool false)))), rg 2 (.p true (.mv (.t 35)))]) .ret))
theorem c193_is : compFn Try.prog 193 = some (c193, [(.tmp 2)]) := by kernel_rfl
theorem c193_ok : okFn Try.prog 193 = true := by kernel_rfl

noncomputable def F_spec_l28One (v0 : TLesson) : Option (Bool) :=
 ((F_spec_l00In v0.1 0 100000).bind fun v1000 => (bif v1000 then ((F_spec_l01Name v0.2.1).bind fun v1001 => (bif v1001 then ((F_spec_l01Name v0.2.2.1).bind fun v1002 => (bif v1002 then ((F_spec_l00In v0.2.2.2.1 1 480).bind fun v1003 => (bif v1003 then ((F_spec_l00In v0.2.2.2.2 0 100).bind fun v1004 => some v1004)
 else some false))
 else some false))
 else some false))
 else some false))
@[simp] def res_spec_l28One (r : Bool) : RV := .one (.one (.val (.bool r)))
theorem con_spec_l28One {v0 : TLesson} {r : Bool} (hF : F_spec_l28One v0 = some r) : Con Try.prog 193 [.ptr [.int .i64 v0.1, .str v0.2.1, .str v0.2.2.1, .int .i64 v0.2.2.2.1, .int .i64 v0.2.2.2.2]] (res_spec_l28One r) := by
 unfold F_spec_l28One at hF
 refine con_of c193_is fun N => ?_
 refine ws 0 64 ?_
 refine qp (AB false) rfl ?_
 refine r_nil ?_
 refine ws 64 2240 ?_
 refine qp (.val none (.ptr [.int .i64 v0.1, .str v0.2.1, .str v0.2.2.1, .int .i64 v0.2.2.2.1, .int .i64 v0.2.2.2.2])) rfl (qp (.val none (.ptr [.int .i64 v0.1, .str v0.2.1, .str v0.2.2.1, .int .i64 v0.2.2.2.1, .int .i64 v0.2.2.2.2])) rfl (qp (.val none (.ptr [.int .i64 v0.1, .str v0.2.1, .str v0.2.2.1, .int .i64 v0.2.2.2.1, .int .i64 v0.2.2.2.2])) rfl (qp (AI v0.1) rfl ?_)))
 obtain ⟨v1000, e1000, hF⟩ := bind_get hF
 refine qc (AB v1000) [] false (con_spec_l00In e1000) c93_ok (by first | rfl | simp) rfl ?_
 refine qp (AB v1000) rfl ?_
 refine q_case 8 hF rfl (fun hF => ?_) (fun hF => ?_)
 ·
  refine qg (.val none (.ptr [.int .i64 v0.1, .str v0.2.1, .str v0.2.2.1, .int .i64 v0.2.2.2.1, .int .i64 v0.2.2.2.2])) rfl rfl (qg (.val none (.ptr [.int .i64 v0.1, .str v0.2.1, .str v0.2.2.1, .int .i64 v0.2.2.2.1, .int .i64 v0.2.2.2.2])) rfl rfl (qg (.val none (.ptr [.str v0.2.1, .str v0.2.2.1, .int .i64 v0.2.2.2.1, .int .i64 v0.2.2.2.2])) rfl rfl (qg (AS v0.2.1) rfl rfl ?_)))
  obtain ⟨v1001, e1001, hF⟩ := bind_get hF
  refine qcg (AB v1001) [] false rfl (con_spec_l01Name e1001) c94_ok (by first | rfl | simp) rfl ?_
  refine qp (AB v1001) rfl (qp (AB v1001) rfl ?_)
  refine q_case 15 hF rfl (fun hF => ?_) (fun hF => ?_)
  ·
   refine qg (.val none (.ptr [.int .i64 v0.1, .str v0.2.1, .str v0.2.2.1, .int .i64 v0.2.2.2.1, .int .i64 v0.2.2.2.2])) rfl rfl (qg (.val none (.ptr [.int .i64 v0.1, .str v0.2.1, .str v0.2.2.1, .int .i64 v0.2.2.2.1, .int .i64 v0.2.2.2.2])) rfl rfl (qg (.val none (.ptr [.str v0.2.2.1, .int .i64 v0.2.2.2.1, .int .i64 v0.2.2.2.2])) rfl rfl (qg (AS v0.2.2.1) rfl rfl ?_)))
   obtain ⟨v1002, e1002, hF⟩ := bind_get hF
   refine qcg (AB v1002) [] false rfl (con_spec_l01Name e1002) c94_ok (by first | rfl | simp) rfl ?_
   refine qp (AB v1002) rfl (qp (AB v1002) rfl ?_)
   refine q_case 22 hF rfl (fun hF => ?_) (fun hF => ?_)
   ·
    refine qg (.val none (.ptr [.int .i64 v0.1, .str v0.2.1, .str v0.2.2.1, .int .i64 v0.2.2.2.1, .int .i64 v0.2.2.2.2])) rfl rfl (qg (.val none (.ptr [.int .i64 v0.1, .str v0.2.1, .str v0.2.2.1, .int .i64 v0.2.2.2.1, .int .i64 v0.2.2.2.2])) rfl rfl (qg (.val none (.ptr [.int .i64 v0.2.2.2.1, .int .i64 v0.2.2.2.2])) rfl rfl (qg (AI v0.2.2.2.1) rfl rfl ?_)))
    obtain ⟨v1003, e1003, hF⟩ := bind_get hF
    refine qcg (AB v1003) [] false rfl (con_spec_l00In e1003) c93_ok (by first | rfl | simp) rfl ?_
    refine qp (AB v1003) rfl (qp (AB v1003) rfl ?_)
    refine q_case 29 hF rfl (fun hF => ?_) (fun hF => ?_)
    ·
     refine qg (.val none (.ptr [.int .i64 v0.1, .str v0.2.1, .str v0.2.2.1, .int .i64 v0.2.2.2.1, .int .i64 v0.2.2.2.2])) rfl rfl (qg (.val none (.ptr [.int .i64 v0.1, .str v0.2.1, .str v0.2.2.1, .int .i64 v0.2.2.2.1, .int .i64 v0.2.2.2.2])) rfl rfl (qg (.val none (.ptr [.int .i64 v0.2.2.2.2])) rfl rfl (qg (AI v0.2.2.2.2) rfl rfl ?_)))
     obtain ⟨v1004, e1004, hF⟩ := bind_get hF
     refine qcg (AB v1004) [] false rfl (con_spec_l00In e1004) c93_ok (by first | rfl | simp) rfl ?_
     refine qp (AB v1004) rfl (qp (AB v1004) rfl ?_)
     refine r_nil ?_
     refine w_ret ?_
     cases hF
     exact eR
    ·
     refine qn rfl (qn rfl (qn rfl (qn rfl (qn rfl (qp (AB false) rfl (qp (AB false) rfl ?_))))))
     refine r_nil ?_
     refine w_ret ?_
     cases hF
     exact eR
   ·
    refine qn rfl (qn rfl (qn rfl (qn rfl (qn rfl (qp (AB false) rfl (qp (AB false) rfl (qn rfl ?_)))))))
    refine qn rfl (qn rfl (qn rfl (qn rfl (qp (AB false) rfl (qp (AB false) rfl ?_)))))
    refine r_nil ?_
    refine w_ret ?_
    cases hF
    exact eR
  ·
   refine qn rfl (qn rfl (qn rfl (qn rfl (qn rfl (qp (AB false) rfl (qp (AB false) rfl (qn rfl ?_)))))))
   refine qn rfl (qn rfl (qn rfl (qn rfl (qp (AB false) rfl (qp (AB false) rfl (qn rfl (qn rfl ?_)))))))
   refine qn rfl (qn rfl (qn rfl (qp (AB false) rfl (qp (AB false) rfl ?_))))
   refine r_nil ?_
   refine w_ret ?_
   cases hF
   exact eR
 ·
  refine qn rfl (qn rfl (qn rfl (qn rfl (qn rfl (qp (AB false) rfl (qp (AB false) rfl (qn rfl ?_)))))))
  refine qn rfl (qn rfl (qn rfl (qn rfl (qp (AB false) rfl (qp (AB false) rfl (qn rfl (qn rfl ?_)))))))
  refine qn rfl (qn rfl (qn rfl (qp (AB false) rfl (qp (AB false) rfl (qn rfl (qn rfl (qn rfl ?_)))))))
  refine qn rfl (qn rfl (qp (AB false) rfl (qp (AB false) rfl ?_)))
  refine r_nil ?_
  refine w_ret ?_
  cases hF
  exact eR

def c194 : MC := (.seq (.reg [rg 4 (.p true (.mv (.c (.bool false))))]) (.seq (.seq (.reg [rg 5 (.p false (.mv (.t 0))), rg 6 (.p false (.nck (.t 5))), rg 7 (.p false (.fad (.t 6) 0)), rg 8 (.p false (.ld (.t 7) 1 false)), rg 9 (.p false (.mv (.t 1))), rg 10 (.p false (.nck (.t 9))), rg 11 (.p false (.fad (.t 10) 0)), rg 12 (.p false (.ld (.t 11) 1 false)), rg 13 (.p false (.bin .neq (.t 8) (.t 12)))]) (.cond (.t 13) (.seq (.reg [rg 14 (.p false (.mv (.t 0))), rg 15 (.p false (.nck (.t 14))), rg 16 (.p false (.fad (.t 15) 0)), rg 17 (.p false (.ld (.t 16) 1 false)), rg 18 (.p false (.mv (.t 1))), rg 19 (.p false (.nck (.t 18))), rg 20 (.p false (.fad (.t 19) 0)), rg 21 (.p false (.ld (.t 20) 1 false)), rg 22 (.p false (.bin .lss (.t 17) (.t 21))), rg 4 (.p false (.mv (.t 22)))]) .ret) .skip)) (.seq (.seq (.reg [rg 23 (.p false (.mv (.t 0))), rg 24 (.p false (.nck (.t 23))), rg 25 (.p false (.fad (.t 24) 1)), rg 26 (.p false (.ld (.t 25) 1 false)), rg 27 (.p false (.mv (.t 1))), rg 28 (.p false (.nck (.t 27))), rg 29 (.p false (.fad (.t 28) 1)), rg 30 (.p false (.ld (.t 29) 1 false)), rg 31 (.p false (.bin .neq (.t 26) (.t 30)))]) (.cond (.t 31) (.seq (.reg [rg 32 (.p false (.mv (.t 0))), rg 33 (.p false (.nck (.t 32))), rg 34 (.p false (.fad (.t 33) 1)), rg 35 (.p false (.ld (.t 34) 1 false)), rg 36 (.p false (.mv (.t 1))), rg 37 (.p false (.nck (.t 36))), rg 38 (.p false (.fad (.t 37) 1)), rg 39 (.p false (.ld (.t 38) 1 false)), rg 40 (.p false (.bin .lss (.t 35) (.t 39))), rg 4 (.p false (.mv (.t 40)))]) .ret) .skip)) (.seq (.reg [rg 41 (.p false (.mv (.t 0))), rg 42 (.p false (.nck (.t 41))), rg 43 (.p false (.fad (.t 42) 2)), rg 44 (.p false (.ld (.t 43) 1 false)), rg 45 (.p false (.mv (.t 1))), rg 46 (.p false (.nck (.t 45))), rg 47 (.p false (.fad (.t 46) 2)), rg 48 (.p false (.ld (.t 47) 1 false)), rg 49 (.p false (.bin .lss (.t 44) (.t 48))), rg 4 (.p false (.mv (.t 49)))]) .ret))))
theorem c194_is : compFn Try.prog 194 = some (c194, [(.tmp 4)]) := by kernel_rfl
theorem c194_ok : okFn Try.prog 194 = true := by kernel_rfl

noncomputable def F_spec_l28Before (v0 : TLesson) (v1 : TLesson) : Option (Bool) :=
 (bif (decide (v0.1 ≠ v1.1)) then some (decide (v0.1 < v1.1))
 else (bif (decide (v0.2.1 ≠ v1.2.1)) then some (Op.bytesLess v0.2.1 v1.2.1)
 else some (Op.bytesLess v0.2.2.1 v1.2.2.1)))
@[simp] def res_spec_l28Before (r : Bool) : RV := .one (.one (.val (.bool r)))
theorem con_spec_l28Before {v0 : TLesson} {v1 : TLesson} {r : Bool} (hF : F_spec_l28Before v0 v1 = some r) : Con Try.prog 194 [.ptr [.int .i64 v0.1, .str v0.2.1, .str v0.2.2.1, .int .i64 v0.2.2.2.1, .int .i64 v0.2.2.2.2], .ptr [.int .i64 v1.1, .str v1.2.1, .str v1.2.2.1, .int .i64 v1.2.2.2.1, .int .i64 v1.2.2.2.2]] (res_spec_l28Before r) := by
 unfold F_spec_l28Before at hF
 refine con_of c194_is fun N => ?_
 refine ws 0 64 ?_
 refine qp (AB false) rfl ?_
 refine r_nil ?_
 refine w_seq ?_
 refine ws 64 640 ?_
 refine qp (.val none (.ptr [.int .i64 v0.1, .str v0.2.1, .str v0.2.2.1, .int .i64 v0.2.2.2.1, .int .i64 v0.2.2.2.2])) rfl (qp (.val none (.ptr [.int .i64 v0.1, .str v0.2.1, .str v0.2.2.1, .int .i64 v0.2.2.2.1, .int .i64 v0.2.2.2.2])) rfl (qp (.val none (.ptr [.int .i64 v0.1, .str v0.2.1, .str v0.2.2.1, .int .i64 v0.2.2.2.1, .int .i64 v0.2.2.2.2])) rfl (qp (AI v0.1) rfl (qp (.val none (.ptr [.int .i64 v1.1, .str v1.2.1, .str v1.2.2.1, .int .i64 v1.2.2.2.1, .int .i64 v1.2.2.2.2])) rfl (qp (.val none (.ptr [.int .i64 v1.1, .str v1.2.1, .str v1.2.2.1, .int .i64 v1.2.2.2.1, .int .i64 v1.2.2.2.2])) rfl (qp (.val none (.ptr [.int .i64 v1.1, .str v1.2.1, .str v1.2.2.1, .int .i64 v1.2.2.2.1, .int .i64 v1.2.2.2.2])) rfl (qp (AI v1.1) rfl ?_)))))))
 refine qp (AB (decide (v0.1 ≠ v1.1))) rfl ?_
 refine r_nil ?_
 refine cF hF (fun hF => ?_) fun hF => ?_
 ·
  refine ws 640 1280 ?_
  refine qp (.val none (.ptr [.int .i64 v0.1, .str v0.2.1, .str v0.2.2.1, .int .i64 v0.2.2.2.1, .int .i64 v0.2.2.2.2])) rfl (qp (.val none (.ptr [.int .i64 v0.1, .str v0.2.1, .str v0.2.2.1, .int .i64 v0.2.2.2.1, .int .i64 v0.2.2.2.2])) rfl (qp (.val none (.ptr [.int .i64 v0.1, .str v0.2.1, .str v0.2.2.1, .int .i64 v0.2.2.2.1, .int .i64 v0.2.2.2.2])) rfl (qp (AI v0.1) rfl (qp (.val none (.ptr [.int .i64 v1.1, .str v1.2.1, .str v1.2.2.1, .int .i64 v1.2.2.2.1, .int .i64 v1.2.2.2.2])) rfl (qp (.val none (.ptr [.int .i64 v1.1, .str v1.2.1, .str v1.2.2.1, .int .i64 v1.2.2.2.1, .int .i64 v1.2.2.2.2])) rfl (qp (.val none (.ptr [.int .i64 v1.1, .str v1.2.1, .str v1.2.2.1, .int .i64 v1.2.2.2.1, .int .i64 v1.2.2.2.2])) rfl (qp (AI v1.1) rfl ?_)))))))
  refine qp (AB (decide (v0.1 < v1.1))) rfl (qp (AB (decide (v0.1 < v1.1))) rfl ?_)
  refine r_nil ?_
  refine w_ret ?_
  refine thenQ_r ?_
  cases hF
  exact eR
 ·
  refine w_skip ?_
  refine thenQ_n ?_
  refine w_seq ?_
  refine ws 640 1216 ?_
  refine qp (.val none (.ptr [.int .i64 v0.1, .str v0.2.1, .str v0.2.2.1, .int .i64 v0.2.2.2.1, .int .i64 v0.2.2.2.2])) rfl (qp (.val none (.ptr [.int .i64 v0.1, .str v0.2.1, .str v0.2.2.1, .int .i64 v0.2.2.2.1, .int .i64 v0.2.2.2.2])) rfl (qp (.val none (.ptr [.str v0.2.1, .str v0.2.2.1, .int .i64 v0.2.2.2.1, .int .i64 v0.2.2.2.2])) rfl (qp (AS v0.2.1) rfl (qp (.val none (.ptr [.int .i64 v1.1, .str v1.2.1, .str v1.2.2.1, .int .i64 v1.2.2.2.1, .int .i64 v1.2.2.2.2])) rfl (qp (.val none (.ptr [.int .i64 v1.1, .str v1.2.1, .str v1.2.2.1, .int .i64 v1.2.2.2.1, .int .i64 v1.2.2.2.2])) rfl (qp (.val none (.ptr [.str v1.2.1, .str v1.2.2.1, .int .i64 v1.2.2.2.1, .int .i64 v1.2.2.2.2])) rfl (qp (AS v1.2.1) rfl ?_)))))))
  refine qp (AB (decide (v0.2.1 ≠ v1.2.1))) rfl ?_
  refine r_nil ?_
  refine cF hF (fun hF => ?_) fun hF => ?_
  ·
   refine ws 1216 1856 ?_
   refine qp (.val none (.ptr [.int .i64 v0.1, .str v0.2.1, .str v0.2.2.1, .int .i64 v0.2.2.2.1, .int .i64 v0.2.2.2.2])) rfl (qp (.val none (.ptr [.int .i64 v0.1, .str v0.2.1, .str v0.2.2.1, .int .i64 v0.2.2.2.1, .int .i64 v0.2.2.2.2])) rfl (qp (.val none (.ptr [.str v0.2.1, .str v0.2.2.1, .int .i64 v0.2.2.2.1, .int .i64 v0.2.2.2.2])) rfl (qp (AS v0.2.1) rfl (qp (.val none (.ptr [.int .i64 v1.1, .str v1.2.1, .str v1.2.2.1, .int .i64 v1.2.2.2.1, .int .i64 v1.2.2.2.2])) rfl (qp (.val none (.ptr [.int .i64 v1.1, .str v1.2.1, .str v1.2.2.1, .int .i64 v1.2.2.2.1, .int .i64 v1.2.2.2.2])) rfl (qp (.val none (.ptr [.str v1.2.1, .str v1.2.2.1, .int .i64 v1.2.2.2.1, .int .i64 v1.2.2.2.2])) rfl (qp (AS v1.2.1) rfl ?_)))))))
   refine qp (AB (Op.bytesLess v0.2.1 v1.2.1)) rfl (qp (AB (Op.bytesLess v0.2.1 v1.2.1)) rfl ?_)
   refine r_nil ?_
   refine w_ret ?_
   refine thenQ_r ?_
   cases hF
   exact eR
  ·
   refine w_skip ?_
   refine thenQ_n ?_
   refine ws 1216 1856 ?_
   refine qp (.val none (.ptr [.int .i64 v0.1, .str v0.2.1, .str v0.2.2.1, .int .i64 v0.2.2.2.1, .int .i64 v0.2.2.2.2])) rfl (qp (.val none (.ptr [.int .i64 v0.1, .str v0.2.1, .str v0.2.2.1, .int .i64 v0.2.2.2.1, .int .i64 v0.2.2.2.2])) rfl (qp (.val none (.ptr [.str v0.2.2.1, .int .i64 v0.2.2.2.1, .int .i64 v0.2.2.2.2])) rfl (qp (AS v0.2.2.1) rfl (qp (.val none (.ptr [.int .i64 v1.1, .str v1.2.1, .str v1.2.2.1, .int .i64 v1.2.2.2.1, .int .i64 v1.2.2.2.2])) rfl (qp (.val none (.ptr [.int .i64 v1.1, .str v1.2.1, .str v1.2.2.1, .int .i64 v1.2.2.2.1, .int .i64 v1.2.2.2.2])) rfl (qp (.val none (.ptr [.str v1.2.2.1, .int .i64 v1.2.2.2.1, .int .i64 v1.2.2.2.2])) rfl (qp (AS v1.2.2.1) rfl ?_)))))))
   refine qp (AB (Op.bytesLess v0.2.2.1 v1.2.2.1)) rfl (qp (AB (Op.bytesLess v0.2.2.1 v1.2.2.1)) rfl ?_)
   refine r_nil ?_
   refine w_ret ?_
   cases hF
   exact eR

def c97 : MC := (.seq (.reg [rg 4 (.f (.nilrow 1))]) (.seq (.reg [rg 8 (.f (.bsl 1 [])), rg 5 (.p true (.mv (.t 8)))]) (.seq (.reg [rg 6 (.p true (.mv (.c (.bool false))))]) (.seq (.seq (.reg [rg 7 (.p true (.mv (.c (.int .i64 0))))]) (.block 0 (.loop (.seq (.seq (.reg [rg 9 (.p true (.mv (.t 7))), rg 10 (.p true (.mv (.t 0))), rg 11 (.p true (.len (.t 10))), rg 12 (.p true (.bin .lss (.t 9) (.t 11)))]) (.cond (.t 12) .skip (.exit 0))) (.seq (.block 1 (.seq (.seq (.reg [rg 15 (.p true (.mv (.t 6))), rg 16 (.p true (.not (.t 15))), rg 17 (.p true (.mv (.t 16))), ⟨(some 18), (some (17, true)), (.p true (.mv (.t 0)))⟩, ⟨(some 19), (some (17, true)), (.p true (.mv (.t 7)))⟩, ⟨(some 20), (some (17, true)), (.p true (.iad (.t 18) (.t 19) 1))⟩, ⟨(some 21), (some (17, true)), (.p true (.ld (.t 20) 1 false))⟩, ⟨(some 22), (some (17, true)), (.p true (.mv (.t 1)))⟩, ⟨(some 23), (some (17, true)), (.p true (.bin .geq (.t 21) (.t 22)))⟩, rg 24 (.p true (.pick (.t 17) (.t 23) (.c (.bool false))))]) (.cond (.t 24) (.seq (.reg [rg 25 (.p true (.mv (.t 5))), rg 26 (.p true (.mv (.t 1))), rg 27 (.f (.bsl 1 [(.t 26)])), rg 28 (.f (.app (.t 25) (.t 27) 1 16 true)), rg 5 (.p true (.mv (.t 28)))]) (.reg [rg 6 (.p true (.mv (.c (.bool true))))])) .skip)) (.seq (.reg [rg 29 (.p true (.mv (.t 0))), rg 30 (.p true (.mv (.t 7))), rg 31 (.p true (.iad (.t 29) (.t 30) 1)), rg 32 (.p true (.ld (.t 31) 1 false)), rg 33 (.p true (.mv (.t 1))), rg 34 (.p true (.bin .neq (.t 32) (.t 33)))]) (.cond (.t 34) (.reg [rg 35 (.p true (.mv (.t 5))), rg 36 (.p true (.mv (.t 0))), rg 37 (.p true (.mv (.t 7))), rg 38 (.p true (.iad (.t 36) (.t 37) 1)), rg 39 (.p true (.ld (.t 38) 1 false)), rg 40 (.f (.bsl 1 [(.t 39)])), rg 41 (.f (.app (.t 35) (.t 40) 1 16 true)), rg 5 (.p true (.mv (.t 41)))]) .skip)))) (.reg [rg 13 (.p true (.mv (.t 7))), rg 14 (.p true (.bin .add (.t 13) (.c (.int .i64 1)))), rg 7 (.p true (.mv (.t 14)))])))))) (.seq (.seq (.reg [rg 42 (.p true (.mv (.t 6))), rg 43 (.p true (.not (.t 42)))]) (.cond (.t 43) (.reg [rg 44 (.p true (.mv (.t 5))), rg 45 (.p true (.mv (.t 1))), rg 46 (.f (.bsl 1 [(.t 45)])), rg 47 (.f (.app (.t 44) (.t 46) 1 16 true)), rg 5 (.p true (.mv (.t 47)))]) .skip)) (.seq (.reg [rg 48 (.p true (.mv (.t 5))), rg 4 (.p true (.mv (.t 48)))]) .ret))))))
theorem c97_is : compFn Try.prog 97 = some (c97, [(.tmp 4)]) := by kernel_rfl
theorem c97_ok : okFn Try.prog 97 = true := by kernel_rfl

noncomputable def F_spec_l28Put_j1 (v0 : List (List UInt8)) (v1 : List UInt8) (v24 : Int) (k0 : Bool × Int × (List (List UInt8)) → Option (List (List UInt8))) (v28 : Bool) (v29 : List (List UInt8)) : Option (List (List UInt8)) :=
 ((ix v0 v24).bind fun v1002 => (bif (decide (v1002 ≠ v1)) then ((ix v0 v24).bind fun v1003 => (need (room (v29.length + [v1003].length) 16) (k0 (v28, w64 (v24 + 1), v29 ++ [v1003]))))
 else k0 (v28, w64 (v24 + 1), v29)))
noncomputable def F_spec_l28Put_l0 (v0 : List (List UInt8)) (v1 : List UInt8) (k0 : Bool × Int × (List (List UInt8)) → Option (List (List UInt8))) : Bool × Int × (List (List UInt8)) → Option (List (List UInt8))
 | (v23, v24, v25) => (bif (decide (v24 < (v0.length : Int))) then (bif (!v23) then ((ix v0 v24).bind fun v1000 => (bif (!Op.bytesLess v1000 v1) then (need (room (v25.length + [v1].length) 16) (F_spec_l28Put_j1 v0 v1 v24 k0 true (v25 ++ [v1])))
 else F_spec_l28Put_j1 v0 v1 v24 k0 v23 v25))
 else F_spec_l28Put_j1 v0 v1 v24 k0 v23 v25)
 else (bif (!v23) then (need (room (v25.length + [v1].length) 16) (some (v25 ++ [v1])))
 else some v25))
noncomputable def F_spec_l28Put (v0 : List (List UInt8)) (v1 : List UInt8) : Option (List (List UInt8)) :=
 loop (F_spec_l28Put_l0 v0 v1) (false, 0, [])
@[simp] def res_spec_l28Put (r : List (List UInt8)) : RV := .one (.one (.row true 1 (r.map V.str)))
theorem con_spec_l28Put {v0 : List (List UInt8)} {v1 : List UInt8} {r : List (List UInt8)} (hF : F_spec_l28Put v0 v1 = some r) : Con Try.prog 97 [.sl 1 (v0.map V.str), .str v1] (res_spec_l28Put r) := by
 unfold F_spec_l28Put at hF
 refine con_of c97_is fun N => ?_
 refine ws 0 64 ?_
 refine qf (.sl 0 0 0) [(0, .row true 1 (([] : List Int).map (V.int .i64)))] (by simp) ?_
 refine r_nil ?_
 refine ws 64 192 ?_
 refine qf (.sl 64 0 0) [(64, .row true 1 (([] : List (List UInt8)).map V.str)), (0, .row true 1 (([] : List Int).map (V.int .i64)))] (by simp [List.take_of_length_le]) ?_
 refine qp (.sl 64 0 0) rfl ?_
 refine r_nil ?_
 refine ws 192 256 ?_
 refine qp (AB false) rfl ?_
 refine r_nil ?_
 refine w_seq ?_
 refine ws 256 320 ?_
 refine qp (AI 0) rfl ?_
 refine r_nil ?_
 refine w_block ?_
 refine wr (l' := [(0, AL 1 (v0.map V.str)), (1, AS v1), (5, .sl 0 0 0), (6, AB false), (7, AI 0)]) (L := [(0, .row true 1 (([] : List (List UInt8)).map V.str))]) [0, 1, 5, 6, 7] [(64, 0)] 1 ?_
 refine w_loopF (F_spec_l28Put_l0 v0 v1) (fun s : Bool × Int × (List (List UInt8)) => mkS [(0, AL 1 (v0.map V.str)), (1, AS v1), (5, .sl 0 0 s.2.2.length), (6, AB s.1), (7, AI s.2.1)] (fo [(0, .row true 1 (s.2.2.map V.str))]) 1) hF ?_
 rintro k0 ⟨v23, v24, v25⟩ hF
 rw [F_spec_l28Put_l0] at hF
 try dsimp only
 refine w_seq ?_
 refine ws 1 257 ?_
 refine qp (AI v24) rfl (qp (AL 1 (v0.map V.str)) rfl (qp (AI (v0.length : Int)) (ev_len_n rfl) (qp (AB (decide (v24 < (v0.length : Int)))) rfl ?_)))
 refine r_nil ?_
 refine cF hF (fun hF => ?_) fun hF => ?_
 ·
  refine w_skip ?_
  refine thenQ_n ?_
  refine w_seq ?_
  refine w_block ?_
  refine w_meet (fun s' => ∃ (v28 : Bool) (v29 : List (List UInt8)), s' = mkS [(0, AL 1 (v0.map V.str)), (1, AS v1), (5, .sl 0 0 v29.length), (6, AB v28), (7, AI v24)] (fo [(0, .row true 1 (v29.map V.str))]) 1 ∧ F_spec_l28Put_j1 v0 v1 v24 k0 v28 v29 = some r) ?_ ?_
  ·
   refine ws 257 897 ?_
   refine qp (AB v23) rfl (qp (AB (!v23)) rfl (qp (AB (!v23)) rfl ?_))
   refine q_case 17 hF rfl (fun hF => ?_) (fun hF => ?_)
   ·
    refine qg (AL 1 (v0.map V.str)) rfl rfl (qg (AI v24) rfl rfl ?_)
    obtain ⟨v1000, e1000, hF⟩ := bind_get hF
    refine qg (.val none (.ptr [.str v1000])) rfl (ev_iad_n rfl rfl e1000 rfl) (qg (AS v1000) rfl rfl (qg (AS v1) rfl rfl (qg (AB (!Op.bytesLess v1000 v1)) rfl rfl (qp (AB (!Op.bytesLess v1000 v1)) rfl ?_))))
    refine r_nil ?_
    refine cF hF (fun hF => ?_) fun hF => ?_
    ·
     refine ws 897 1217 ?_
     refine qp (.sl 0 0 v25.length) rfl (qp (AS v1) rfl ?_)
     refine qf (.sl 1025 0 ([v1].length)) [(1025, .row true 1 ([v1].map V.str)), (0, .row true 1 (v25.map V.str))] (by simp [List.take_of_length_le]) ?_
     obtain ⟨g1001, hF⟩ := need_some hF
     refine qf (.sl 1089 0 ((v25 ++ [v1]).length)) [(1089, .row true 1 ((v25 ++ [v1]).map V.str)), (0, .dead), (1025, .dead), (1025, .row true 1 ([v1].map V.str)), (0, .row true 1 (v25.map V.str))] (effT_app_l rfl (by simp) rfl rfl (by simp) rfl (by decide) g1001 rfl) ?_
     refine qp (.sl 1089 0 ((v25 ++ [v1]).length)) rfl ?_
     refine r_nil ?_
     refine w_reg 1217 1281 rfl rfl ?_
     refine qp (AB true) rfl ?_
     refine r_nil ?_
     refine thenQ_n ?_
     refine aw_ren (l' := [(0, AL 1 (v0.map V.str)), (1, AS v1), (5, .sl 0 0 (v25 ++ [v1]).length), (6, AB true), (7, AI v24)]) (L := [(0, .row true 1 ((v25 ++ [v1]).map V.str))]) [0, 1, 5, 6, 7] [(1089, 0)] 1 (by first | rfl | simp) (by first | rfl | simp) (by decide) (by decide) (by decide) ⟨_, _, rfl, hF⟩
    ·
     refine w_skip ?_
     refine thenQ_n ?_
     refine aw_ren (l' := [(0, AL 1 (v0.map V.str)), (1, AS v1), (5, .sl 0 0 v25.length), (6, AB v23), (7, AI v24)]) (L := [(0, .row true 1 (v25.map V.str))]) [0, 1, 5, 6, 7] [(0, 0)] 1 (by first | rfl | simp) (by first | rfl | simp) (by decide) (by decide) (by decide) ⟨_, _, rfl, hF⟩
   ·
    refine qn rfl (qn rfl (qn rfl (qn rfl (qn rfl (qn rfl (qp (AB false) rfl ?_))))))
    refine r_nil ?_
    refine w_false rfl ?_
    refine w_skip ?_
    refine thenQ_n ?_
    refine aw_ren (l' := [(0, AL 1 (v0.map V.str)), (1, AS v1), (5, .sl 0 0 v25.length), (6, AB v23), (7, AI v24)]) (L := [(0, .row true 1 (v25.map V.str))]) [0, 1, 5, 6, 7] [(0, 0)] 1 (by first | rfl | simp) (by first | rfl | simp) (by decide) (by decide) (by decide) ⟨_, _, rfl, hF⟩
  ·
   rintro s' ⟨v28, v29, rfl, hF⟩
   unfold F_spec_l28Put_j1 at hF
   refine ws 1 385 ?_
   refine qp (AL 1 (v0.map V.str)) rfl (qp (AI v24) rfl ?_)
   obtain ⟨v1002, e1002, hF⟩ := bind_get hF
   refine qp (.val none (.ptr [.str v1002])) (ev_iad_n rfl rfl e1002 rfl) (qp (AS v1002) rfl (qp (AS v1) rfl (qp (AB (decide (v1002 ≠ v1))) rfl ?_)))
   refine r_nil ?_
   refine cF hF (fun hF => ?_) fun hF => ?_
   ·
    refine w_reg 385 897 rfl rfl ?_
    refine qp (.sl 0 0 v29.length) rfl (qp (AL 1 (v0.map V.str)) rfl (qp (AI v24) rfl ?_))
    obtain ⟨v1003, e1003, hF⟩ := bind_get hF
    refine qp (.val none (.ptr [.str v1003])) (ev_iad_n rfl rfl e1003 rfl) (qp (AS v1003) rfl ?_)
    refine qf (.sl 705 0 ([v1003].length)) [(705, .row true 1 ([v1003].map V.str)), (0, .row true 1 (v29.map V.str))] (by simp [List.take_of_length_le]) ?_
    obtain ⟨g1004, hF⟩ := need_some hF
    refine qf (.sl 769 0 ((v29 ++ [v1003]).length)) [(769, .row true 1 ((v29 ++ [v1003]).map V.str)), (0, .dead), (705, .dead), (705, .row true 1 ([v1003].map V.str)), (0, .row true 1 (v29.map V.str))] (effT_app_l rfl (by simp) rfl rfl (by simp) rfl (by decide) g1004 rfl) ?_
    refine qp (.sl 769 0 ((v29 ++ [v1003]).length)) rfl ?_
    refine r_nil ?_
    refine blockQ_n ?_
    refine thenQ_n ?_
    refine w_reg 897 1089 rfl rfl ?_
    refine qp (AI v24) rfl (qp (AI (w64 (v24 + 1))) rfl (qp (AI (w64 (v24 + 1))) rfl ?_))
    refine r_nil ?_
    refine thenQ_n ?_
    refine ar (l' := [(0, AL 1 (v0.map V.str)), (1, AS v1), (5, .sl 0 0 (v29 ++ [v1003]).length), (6, AB v28), (7, AI (w64 (v24 + 1)))]) (L := [(0, .row true 1 ((v29 ++ [v1003]).map V.str))]) [0, 1, 5, 6, 7] [(769, 0)] 1 ⟨_, by rfl, hF⟩
   ·
    refine w_skip ?_
    refine blockQ_n ?_
    refine thenQ_n ?_
    refine w_reg 385 577 rfl rfl ?_
    refine qp (AI v24) rfl (qp (AI (w64 (v24 + 1))) rfl (qp (AI (w64 (v24 + 1))) rfl ?_))
    refine r_nil ?_
    refine thenQ_n ?_
    refine ar (l' := [(0, AL 1 (v0.map V.str)), (1, AS v1), (5, .sl 0 0 v29.length), (6, AB v28), (7, AI (w64 (v24 + 1)))]) (L := [(0, .row true 1 (v29.map V.str))]) [0, 1, 5, 6, 7] [(0, 0)] 1 ⟨_, by rfl, hF⟩
 ·
  refine w_exit ?_
  refine thenQ_e ?_
  refine thenQ_e ?_
  refine blockQ_e ?_
  refine thenQ_n ?_
  refine w_seq ?_
  refine ws 257 385 ?_
  refine qp (AB v23) rfl (qp (AB (!v23)) rfl ?_)
  refine r_nil ?_
  refine cF hF (fun hF => ?_) fun hF => ?_
  ·
   refine w_reg 385 705 rfl rfl ?_
   refine qp (.sl 0 0 v25.length) rfl (qp (AS v1) rfl ?_)
   refine qf (.sl 513 0 ([v1].length)) [(513, .row true 1 ([v1].map V.str)), (0, .row true 1 (v25.map V.str))] (by simp [List.take_of_length_le]) ?_
   obtain ⟨g1005, hF⟩ := need_some hF
   refine qf (.sl 577 0 ((v25 ++ [v1]).length)) [(577, .row true 1 ((v25 ++ [v1]).map V.str)), (0, .dead), (513, .dead), (513, .row true 1 ([v1].map V.str)), (0, .row true 1 (v25.map V.str))] (effT_app_l rfl (by simp) rfl rfl (by simp) rfl (by decide) g1005 rfl) ?_
   refine qp (.sl 577 0 ((v25 ++ [v1]).length)) rfl ?_
   refine r_nil ?_
   refine thenQ_n ?_
   refine ws 705 833 ?_
   refine qp (.sl 577 0 ((v25 ++ [v1]).length)) rfl (qp (.sl 577 0 ((v25 ++ [v1]).length)) rfl ?_)
   refine r_nil ?_
   refine w_ret ?_
   cases hF
   exact eR
  ·
   refine w_skip ?_
   refine thenQ_n ?_
   refine ws 385 513 ?_
   refine qp (.sl 0 0 v25.length) rfl (qp (.sl 0 0 v25.length) rfl ?_)
   refine r_nil ?_
   refine w_ret ?_
   cases hF
   exact eR

def c113 : MC := (.seq (.reg [rg 2 (.f (.nilrow 1))]) (.seq (.reg [rg 5 (.f (.bsl 1 [])), rg 3 (.p true (.mv (.t 5)))]) (.seq (.seq (.reg [rg 4 (.p true (.mv (.c (.int .i64 0))))]) (.block 0 (.loop (.seq (.seq (.reg [rg 6 (.p true (.mv (.t 4))), rg 7 (.p true (.mv (.t 0))), rg 8 (.p true (.len (.t 7))), rg 9 (.p true (.bin .lss (.t 6) (.t 8)))]) (.cond (.t 9) .skip (.exit 0))) (.seq (.block 1 (.reg [rg 12 (.p true (.mv (.t 3))), rg 13 (.p true (.mv (.t 0))), rg 14 (.p true (.mv (.t 4))), rg 15 (.p true (.iad (.t 13) (.t 14) 5)), rg 16 (.p true (.fad (.t 15) 1)), rg 17 (.p true (.ld (.t 16) 1 false)), rg 18 (.call true 97 [(.t 12), (.t 17)]), rg 3 (.p true (.mv (.t 18)))])) (.reg [rg 10 (.p true (.mv (.t 4))), rg 11 (.p true (.bin .add (.t 10) (.c (.int .i64 1)))), rg 4 (.p true (.mv (.t 11)))])))))) (.seq (.reg [rg 19 (.p true (.mv (.t 3))), rg 2 (.p true (.mv (.t 19)))]) .ret))))
theorem c113_is : compFn Try.prog 113 = some (c113, [(.tmp 2)]) := by kernel_rfl
theorem c113_ok : okFn Try.prog 113 = true := by kernel_rfl

noncomputable def F_spec_l28Pupils_l0 (v0 : List TLesson) (k0 : Int × (List (List UInt8)) → Option (List (List UInt8))) : Int × (List (List UInt8)) → Option (List (List UInt8))
 | (v7, v8) => (bif (decide (v7 < (v0.length : Int))) then ((ix v0 v7).bind fun v1000 => ((F_spec_l28Put v8 v1000.2.1).bind fun v1001 => k0 (w64 (v7 + 1), v1001)))
 else some v8)
noncomputable def F_spec_l28Pupils (v0 : List TLesson) : Option (List (List UInt8)) :=
 loop (F_spec_l28Pupils_l0 v0) (0, [])
@[simp] def res_spec_l28Pupils (r : List (List UInt8)) : RV := .one (.one (.row true 1 (r.map V.str)))
theorem con_spec_l28Pupils {v0 : List TLesson} {r : List (List UInt8)} (hF : F_spec_l28Pupils v0 = some r) : Con Try.prog 113 [.sl 5 (v0.map eLesson)] (res_spec_l28Pupils r) := by
 unfold F_spec_l28Pupils at hF
 refine con_of c113_is fun N => ?_
 refine ws 0 64 ?_
 refine qf (.sl 0 0 0) [(0, .row true 1 (([] : List Int).map (V.int .i64)))] (by simp) ?_
 refine r_nil ?_
 refine ws 64 192 ?_
 refine qf (.sl 64 0 0) [(64, .row true 1 (([] : List (List UInt8)).map V.str)), (0, .row true 1 (([] : List Int).map (V.int .i64)))] (by simp [List.take_of_length_le]) ?_
 refine qp (.sl 64 0 0) rfl ?_
 refine r_nil ?_
 refine w_seq ?_
 refine ws 192 256 ?_
 refine qp (AI 0) rfl ?_
 refine r_nil ?_
 refine w_block ?_
 refine wr (l' := [(0, AL 5 (v0.map eLesson)), (3, .sl 0 0 0), (4, AI 0)]) (L := [(0, .row true 1 (([] : List (List UInt8)).map V.str))]) [0, 3, 4] [(64, 0)] 1 ?_
 refine w_loopF (F_spec_l28Pupils_l0 v0) (fun s : Int × (List (List UInt8)) => mkS [(0, AL 5 (v0.map eLesson)), (3, .sl 0 0 s.2.length), (4, AI s.1)] (fo [(0, .row true 1 (s.2.map V.str))]) 1) hF ?_
 rintro k0 ⟨v7, v8⟩ hF
 rw [F_spec_l28Pupils_l0] at hF
 try dsimp only
 refine w_seq ?_
 refine ws 1 257 ?_
 refine qp (AI v7) rfl (qp (AL 5 (v0.map eLesson)) rfl (qp (AI (v0.length : Int)) (ev_len_n rfl) (qp (AB (decide (v7 < (v0.length : Int)))) rfl ?_)))
 refine r_nil ?_
 refine cF hF (fun hF => ?_) fun hF => ?_
 ·
  refine w_skip ?_
  refine thenQ_n ?_
  refine w_seq ?_
  refine w_block ?_
  refine w_reg 257 769 rfl rfl ?_
  refine qp (.sl 0 0 v8.length) rfl (qp (AL 5 (v0.map eLesson)) rfl (qp (AI v7) rfl ?_))
  obtain ⟨v1000, e1000, hF⟩ := bind_get hF
  refine qp (.val none (.ptr [.int .i64 v1000.1, .str v1000.2.1, .str v1000.2.2.1, .int .i64 v1000.2.2.2.1, .int .i64 v1000.2.2.2.2])) (ev_iad_n rfl rfl e1000 rfl) (qp (.val none (.ptr [.str v1000.2.1, .str v1000.2.2.1, .int .i64 v1000.2.2.2.1, .int .i64 v1000.2.2.2.2])) rfl (qp (AS v1000.2.1) rfl ?_))
  obtain ⟨v1001, e1001, hF⟩ := bind_get hF
  refine qc (.sl 641 0 v1001.length) [(641, .row true 1 (v1001.map V.str)), (0, .row true 1 (v8.map V.str))] true (con_spec_l28Put e1001) c97_ok (by simp [List.take_of_length_le]) (by simp [res_spec_l28Put]) ?_
  refine qp (.sl 641 0 v1001.length) rfl ?_
  refine r_nil ?_
  refine blockQ_n ?_
  refine thenQ_n ?_
  refine w_reg 769 961 rfl rfl ?_
  refine qp (AI v7) rfl (qp (AI (w64 (v7 + 1))) rfl (qp (AI (w64 (v7 + 1))) rfl ?_))
  refine r_nil ?_
  refine thenQ_n ?_
  refine ar (l' := [(0, AL 5 (v0.map eLesson)), (3, .sl 0 0 v1001.length), (4, AI (w64 (v7 + 1)))]) (L := [(0, .row true 1 (v1001.map V.str))]) [0, 3, 4] [(641, 0)] 1 ⟨_, by rfl, hF⟩
 ·
  refine w_exit ?_
  refine thenQ_e ?_
  refine thenQ_e ?_
  refine blockQ_e ?_
  refine thenQ_n ?_
  refine ws 257 385 ?_
  refine qp (.sl 0 0 v8.length) rfl (qp (.sl 0 0 v8.length) rfl ?_)
  refine r_nil ?_
  refine w_ret ?_
  cases hF
  exact eR

def c112 : MC := (.seq (.reg [rg 2 (.p true (.mv (.c (.bool false))))]) (.seq (.seq (.reg [rg 3 (.p true (.mv (.c (.int .i64 0))))]) (.block 0 (.loop (.seq (.seq (.reg [rg 4 (.p true (.mv (.t 3))), rg 5 (.p true (.mv (.t 0))), rg 6 (.p true (.len (.t 5))), rg 7 (.p true (.bin .lss (.t 4) (.t 6)))]) (.cond (.t 7) .skip (.exit 0))) (.seq (.block 1 (.seq (.reg [rg 10 (.p false (.mv (.t 0))), rg 11 (.p false (.mv (.t 3))), rg 12 (.p false (.iad (.t 10) (.t 11) 5)), rg 13 (.call false 193 [(.t 12)]), rg 14 (.p false (.not (.t 13))), rg 15 (.p false (.mv (.t 14))), ⟨(some 16), (some (15, false)), (.p false (.mv (.t 3)))⟩, ⟨(some 17), (some (15, false)), (.p false (.bin .gtr (.t 16) (.c (.int .i64 0))))⟩, ⟨(some 18), (some (15, false)), (.p false (.mv (.t 17)))⟩, ⟨(some 19), (some (18, true)), (.p false (.mv (.t 0)))⟩, ⟨(some 20), (some (18, true)), (.p false (.mv (.t 3)))⟩, ⟨(some 21), (some (18, true)), (.p false (.bin .sub (.t 20) (.c (.int .i64 1))))⟩, ⟨(some 22), (some (18, true)), (.p false (.iad (.t 19) (.t 21) 5))⟩, ⟨(some 23), (some (18, true)), (.p false (.mv (.t 0)))⟩, ⟨(some 24), (some (18, true)), (.p false (.mv (.t 3)))⟩, ⟨(some 25), (some (18, true)), (.p false (.iad (.t 23) (.t 24) 5))⟩, ⟨(some 26), (some (18, true)), (.call false 194 [(.t 22), (.t 25)])⟩, ⟨(some 27), (some (18, true)), (.p false (.not (.t 26)))⟩, ⟨(some 28), (some (15, false)), (.p false (.pick (.t 18) (.t 27) (.c (.bool false))))⟩, rg 29 (.p false (.pick (.t 15) (.c (.bool true)) (.t 28)))]) (.cond (.t 29) (.seq (.reg [rg 2 (.p true (.mv (.c (.bool false))))]) .ret) .skip))) (.reg [rg 8 (.p true (.mv (.t 3))), rg 9 (.p true (.bin .add (.t 8) (.c (.int .i64 1)))), rg 3 (.p true (.mv (.t 9)))])))))) (.seq (.reg [rg 30 (.p true (.mv (.t 0))), rg 31 (.p true (.len (.t 30))), rg 32 (.p true (.bin .leq (.t 31) (.c (.int .i64 64)))), rg 33 (.p true (.mv (.t 32))), ⟨(some 34), (some (33, true)), (.p true (.mv (.t 0)))⟩, ⟨(some 35), (some (33, true)), (.call true 113 [(.t 34)])⟩, ⟨(some 36), (some (33, true)), (.p true (.len (.t 35)))⟩, ⟨(some 37), (some (33, true)), (.p true (.bin .leq (.t 36) (.c (.int .i64 12))))⟩, rg 38 (.p true (.pick (.t 33) (.t 37) (.c (.bool false)))), rg 2 (.p true (.mv (.t 38)))]) .ret)))
theorem c112_is : compFn Try.prog 112 = some (c112, [(.tmp 2)]) := by kernel_rfl
theorem c112_ok : okFn Try.prog 112 = true := by kernel_rfl

noncomputable def F_spec_l28Ok_l0 (v0 : List TLesson) (k0 : Int → Option (Bool)) : Int → Option (Bool)
 | v12 => (bif (decide (v12 < (v0.length : Int))) then ((ix v0 v12).bind fun v1000 => ((F_spec_l28One v1000).bind fun v1001 => (bif (!v1001) then some false
 else (bif (decide ((0 : Int) < v12)) then ((ix v0 (w64 (v12 - 1))).bind fun v1002 => ((ix v0 v12).bind fun v1003 => ((F_spec_l28Before v1002 v1003).bind fun v1004 => (bif (!v1004) then some false
 else k0 (w64 (v12 + 1))))))
 else k0 (w64 (v12 + 1))))))
 else (bif (decide ((v0.length : Int) ≤ (64 : Int))) then ((F_spec_l28Pupils v0).bind fun v1005 => some (decide ((v1005.length : Int) ≤ (12 : Int))))
 else some false))
noncomputable def F_spec_l28Ok (v0 : List TLesson) : Option (Bool) :=
 loop (F_spec_l28Ok_l0 v0) 0
@[simp] def res_spec_l28Ok (r : Bool) : RV := .one (.one (.val (.bool r)))
theorem con_spec_l28Ok {v0 : List TLesson} {r : Bool} (hF : F_spec_l28Ok v0 = some r) : Con Try.prog 112 [.sl 5 (v0.map eLesson)] (res_spec_l28Ok r) := by
 unfold F_spec_l28Ok at hF
 refine con_of c112_is fun N => ?_
 refine ws 0 64 ?_
 refine qp (AB false) rfl ?_
 refine r_nil ?_
 refine w_seq ?_
 refine ws 64 128 ?_
 refine qp (AI 0) rfl ?_
 refine r_nil ?_
 refine w_block ?_
 refine wr (l' := [(0, AL 5 (v0.map eLesson)), (3, AI 0)]) (L := []) [0, 3] [] 1 ?_
 refine w_loopF (F_spec_l28Ok_l0 v0) (fun s : Int => mkS [(0, AL 5 (v0.map eLesson)), (3, AI s)] (fo []) 1) hF ?_
 rintro k0 v12 hF
 rw [F_spec_l28Ok_l0] at hF
 try dsimp only
 refine w_seq ?_
 refine ws 1 257 ?_
 refine qp (AI v12) rfl (qp (AL 5 (v0.map eLesson)) rfl (qp (AI (v0.length : Int)) (ev_len_n rfl) (qp (AB (decide (v12 < (v0.length : Int)))) rfl ?_)))
 refine r_nil ?_
 refine cF hF (fun hF => ?_) fun hF => ?_
 ·
  refine w_skip ?_
  refine thenQ_n ?_
  refine w_seq ?_
  refine w_block ?_
  refine ws 257 1537 ?_
  refine qp (AL 5 (v0.map eLesson)) rfl (qp (AI v12) rfl ?_)
  obtain ⟨v1000, e1000, hF⟩ := bind_get hF
  refine qp (.val none (.ptr [.int .i64 v1000.1, .str v1000.2.1, .str v1000.2.2.1, .int .i64 v1000.2.2.2.1, .int .i64 v1000.2.2.2.2])) (ev_iad_n rfl rfl e1000 rfl) ?_
  obtain ⟨v1001, e1001, hF⟩ := bind_get hF
  refine qc (AB v1001) [] false (con_spec_l28One e1001) c193_ok (by first | rfl | simp) rfl ?_
  refine qp (AB (!v1001)) rfl (qp (AB (!v1001)) rfl ?_)
  refine q_case 15 hF rfl (fun hF => ?_) (fun hF => ?_)
  ·
   refine qn rfl (qn rfl (qn rfl (qu rfl (qu rfl (qu rfl (qu rfl (qu rfl ?_)))))))
   refine qu rfl (qu rfl (qu rfl (qu rfl (qn rfl (qp (AB true) rfl ?_)))))
   refine r_nil ?_
   refine w_true rfl ?_
   refine ws 1537 1601 ?_
   refine qp (AB false) rfl ?_
   refine r_nil ?_
   refine w_ret ?_
   refine blockQ_r ?_
   refine thenQ_r ?_
   refine thenQ_r ?_
   refine blockQ_r ?_
   refine thenQ_r ?_
   cases hF
   exact eR
  ·
   refine qg (AI v12) rfl rfl (qg (AB (decide ((0 : Int) < v12))) rfl rfl (qg (AB (decide ((0 : Int) < v12))) rfl rfl ?_))
   refine q_case 18 hF rfl (fun hF => ?_) (fun hF => ?_)
   ·
    refine qg (AL 5 (v0.map eLesson)) rfl rfl (qg (AI v12) rfl rfl (qg (AI (w64 (v12 - 1))) rfl rfl ?_))
    obtain ⟨v1002, e1002, hF⟩ := bind_get hF
    refine qg (.val none (.ptr [.int .i64 v1002.1, .str v1002.2.1, .str v1002.2.2.1, .int .i64 v1002.2.2.2.1, .int .i64 v1002.2.2.2.2])) rfl (ev_iad_n rfl rfl e1002 rfl) (qg (AL 5 (v0.map eLesson)) rfl rfl (qg (AI v12) rfl rfl ?_))
    obtain ⟨v1003, e1003, hF⟩ := bind_get hF
    refine qg (.val none (.ptr [.int .i64 v1003.1, .str v1003.2.1, .str v1003.2.2.1, .int .i64 v1003.2.2.2.1, .int .i64 v1003.2.2.2.2])) rfl (ev_iad_n rfl rfl e1003 rfl) ?_
    obtain ⟨v1004, e1004, hF⟩ := bind_get hF
    refine qcg (AB v1004) [] false rfl (con_spec_l28Before e1004) c194_ok (by first | rfl | simp) rfl ?_
    refine qg (AB (!v1004)) rfl rfl (qg (AB (!v1004)) rfl rfl (qp (AB (!v1004)) rfl ?_))
    refine r_nil ?_
    refine cF hF (fun hF => ?_) fun hF => ?_
    ·
     refine ws 1537 1601 ?_
     refine qp (AB false) rfl ?_
     refine r_nil ?_
     refine w_ret ?_
     refine blockQ_r ?_
     refine thenQ_r ?_
     refine thenQ_r ?_
     refine blockQ_r ?_
     refine thenQ_r ?_
     cases hF
     exact eR
    ·
     refine w_skip ?_
     refine blockQ_n ?_
     refine thenQ_n ?_
     refine w_reg 1537 1729 rfl rfl ?_
     refine qp (AI v12) rfl (qp (AI (w64 (v12 + 1))) rfl (qp (AI (w64 (v12 + 1))) rfl ?_))
     refine r_nil ?_
     refine thenQ_n ?_
     refine ar (l' := [(0, AL 5 (v0.map eLesson)), (3, AI (w64 (v12 + 1)))]) (L := []) [0, 3] [] 1 ⟨_, by rfl, hF⟩
   ·
    refine qn rfl (qn rfl (qn rfl (qn rfl (qn rfl (qn rfl (qn rfl (qn rfl ?_)))))))
    refine qn rfl (qg (AB false) rfl rfl (qp (AB false) rfl ?_))
    refine r_nil ?_
    refine w_false rfl ?_
    refine w_skip ?_
    refine blockQ_n ?_
    refine thenQ_n ?_
    refine w_reg 1537 1729 rfl rfl ?_
    refine qp (AI v12) rfl (qp (AI (w64 (v12 + 1))) rfl (qp (AI (w64 (v12 + 1))) rfl ?_))
    refine r_nil ?_
    refine thenQ_n ?_
    refine ar (l' := [(0, AL 5 (v0.map eLesson)), (3, AI (w64 (v12 + 1)))]) (L := []) [0, 3] [] 1 ⟨_, by rfl, hF⟩
 ·
  refine w_exit ?_
  refine thenQ_e ?_
  refine thenQ_e ?_
  refine blockQ_e ?_
  refine thenQ_n ?_
  refine ws 257 897 ?_
  refine qp (AL 5 (v0.map eLesson)) rfl (qp (AI (v0.length : Int)) (ev_len_n rfl) (qp (AB (decide ((v0.length : Int) ≤ (64 : Int)))) rfl (qp (AB (decide ((v0.length : Int) ≤ (64 : Int)))) rfl ?_)))
  refine q_case 33 hF rfl (fun hF => ?_) (fun hF => ?_)
  ·
   refine qg (AL 5 (v0.map eLesson)) rfl rfl ?_
   obtain ⟨v1005, e1005, hF⟩ := bind_get hF
   refine qcg (.sl 577 0 v1005.length) [(577, .row true 1 (v1005.map V.str))] false rfl (con_spec_l28Pupils e1005) c113_ok (by first | rfl | simp) (by simp [res_spec_l28Pupils]) ?_
   refine qg (AI (v1005.length : Int)) rfl rfl (qg (AB (decide ((v1005.length : Int) ≤ (12 : Int)))) rfl rfl (qp (AB (decide ((v1005.length : Int) ≤ (12 : Int)))) rfl (qp (AB (decide ((v1005.length : Int) ≤ (12 : Int)))) rfl ?_)))
   refine r_nil ?_
   refine w_ret ?_
   cases hF
   exact eR
  ·
   refine qn rfl (qn rfl (qn rfl (qn rfl (qp (AB false) rfl (qp (AB false) rfl ?_)))))
   refine r_nil ?_
   refine w_ret ?_
   cases hF
   exact eR

def c95 : MC := (.seq (.reg [rg 4 (.f (.nilrow 5))]) (.seq (.reg [rg 7 (.f (.bsl 5 [])), rg 5 (.p true (.mv (.t 7)))]) (.seq (.seq (.reg [rg 6 (.p true (.mv (.c (.int .i64 0))))]) (.block 0 (.loop (.seq (.seq (.reg [rg 8 (.p true (.mv (.t 6))), rg 9 (.p true (.mv (.t 0))), rg 10 (.p true (.len (.t 9))), rg 11 (.p true (.bin .lss (.t 8) (.t 10)))]) (.cond (.t 11) .skip (.exit 0))) (.seq (.block 1 (.seq (.reg [rg 14 (.p true (.mv (.t 0))), rg 15 (.p true (.mv (.t 6))), rg 16 (.p true (.iad (.t 14) (.t 15) 5)), rg 17 (.p true (.fad (.t 16) 1)), rg 18 (.p true (.ld (.t 17) 1 false)), rg 19 (.p true (.mv (.t 1))), rg 20 (.p true (.bin .eql (.t 18) (.t 19)))]) (.cond (.t 20) (.reg [rg 21 (.p true (.mv (.t 5))), rg 22 (.p true (.mv (.t 0))), rg 23 (.p true (.mv (.t 6))), rg 24 (.p true (.iad (.t 22) (.t 23) 5)), rg 25 (.p true (.ld (.t 24) 5 true)), rg 26 (.f (.bsl 5 [(.t 25)])), rg 27 (.f (.app (.t 21) (.t 26) 5 56 true)), rg 5 (.p true (.mv (.t 27)))]) .skip))) (.reg [rg 12 (.p true (.mv (.t 6))), rg 13 (.p true (.bin .add (.t 12) (.c (.int .i64 1)))), rg 6 (.p true (.mv (.t 13)))])))))) (.seq (.reg [rg 28 (.p true (.mv (.t 5))), rg 4 (.p true (.mv (.t 28)))]) .ret))))
theorem c95_is : compFn Try.prog 95 = some (c95, [(.tmp 4)]) := by kernel_rfl
theorem c95_ok : okFn Try.prog 95 = true := by kernel_rfl

noncomputable def F_spec_l28Of_l0 (v0 : List TLesson) (v1 : List UInt8) (k0 : Int × (List TLesson) → Option (List TLesson)) : Int × (List TLesson) → Option (List TLesson)
 | (v10, v11) => (bif (decide (v10 < (v0.length : Int))) then ((ix v0 v10).bind fun v1000 => (bif (decide (v1000.2.1 = v1)) then ((ix v0 v10).bind fun v1001 => (need (room (v11.length + [v1001].length) 56) (k0 (w64 (v10 + 1), v11 ++ [v1001]))))
 else k0 (w64 (v10 + 1), v11)))
 else some v11)
noncomputable def F_spec_l28Of (v0 : List TLesson) (v1 : List UInt8) : Option (List TLesson) :=
 loop (F_spec_l28Of_l0 v0 v1) (0, [])
@[simp] def res_spec_l28Of (r : List TLesson) : RV := .one (.one (.row true 5 (r.map eLesson)))
theorem con_spec_l28Of {v0 : List TLesson} {v1 : List UInt8} {r : List TLesson} (hF : F_spec_l28Of v0 v1 = some r) : Con Try.prog 95 [.sl 5 (v0.map eLesson), .str v1] (res_spec_l28Of r) := by
 unfold F_spec_l28Of at hF
 refine con_of c95_is fun N => ?_
 refine ws 0 64 ?_
 refine qf (.sl 0 0 0) [(0, .row true 5 (([] : List Int).map (V.int .i64)))] (by simp) ?_
 refine r_nil ?_
 refine ws 64 192 ?_
 refine qf (.sl 64 0 0) [(64, .row true 5 (([] : List TLesson).map eLesson)), (0, .row true 5 (([] : List Int).map (V.int .i64)))] (by simp [List.take_of_length_le]) ?_
 refine qp (.sl 64 0 0) rfl ?_
 refine r_nil ?_
 refine w_seq ?_
 refine ws 192 256 ?_
 refine qp (AI 0) rfl ?_
 refine r_nil ?_
 refine w_block ?_
 refine wr (l' := [(0, AL 5 (v0.map eLesson)), (1, AS v1), (5, .sl 0 0 0), (6, AI 0)]) (L := [(0, .row true 5 (([] : List TLesson).map eLesson))]) [0, 1, 5, 6] [(64, 0)] 1 ?_
 refine w_loopF (F_spec_l28Of_l0 v0 v1) (fun s : Int × (List TLesson) => mkS [(0, AL 5 (v0.map eLesson)), (1, AS v1), (5, .sl 0 0 s.2.length), (6, AI s.1)] (fo [(0, .row true 5 (s.2.map eLesson))]) 1) hF ?_
 rintro k0 ⟨v10, v11⟩ hF
 rw [F_spec_l28Of_l0] at hF
 try dsimp only
 refine w_seq ?_
 refine ws 1 257 ?_
 refine qp (AI v10) rfl (qp (AL 5 (v0.map eLesson)) rfl (qp (AI (v0.length : Int)) (ev_len_n rfl) (qp (AB (decide (v10 < (v0.length : Int)))) rfl ?_)))
 refine r_nil ?_
 refine cF hF (fun hF => ?_) fun hF => ?_
 ·
  refine w_skip ?_
  refine thenQ_n ?_
  refine w_seq ?_
  refine w_block ?_
  refine ws 257 705 ?_
  refine qp (AL 5 (v0.map eLesson)) rfl (qp (AI v10) rfl ?_)
  obtain ⟨v1000, e1000, hF⟩ := bind_get hF
  refine qp (.val none (.ptr [.int .i64 v1000.1, .str v1000.2.1, .str v1000.2.2.1, .int .i64 v1000.2.2.2.1, .int .i64 v1000.2.2.2.2])) (ev_iad_n rfl rfl e1000 rfl) (qp (.val none (.ptr [.str v1000.2.1, .str v1000.2.2.1, .int .i64 v1000.2.2.2.1, .int .i64 v1000.2.2.2.2])) rfl (qp (AS v1000.2.1) rfl (qp (AS v1) rfl (qp (AB (decide (v1000.2.1 = v1))) rfl ?_))))
  refine r_nil ?_
  refine cF hF (fun hF => ?_) fun hF => ?_
  ·
   refine w_reg 705 1217 rfl rfl ?_
   refine qp (.sl 0 0 v11.length) rfl (qp (AL 5 (v0.map eLesson)) rfl (qp (AI v10) rfl ?_))
   obtain ⟨v1001, e1001, hF⟩ := bind_get hF
   refine qp (.val none (.ptr [.int .i64 v1001.1, .str v1001.2.1, .str v1001.2.2.1, .int .i64 v1001.2.2.2.1, .int .i64 v1001.2.2.2.2])) (ev_iad_n rfl rfl e1001 rfl) (qp (.val none (eLesson v1001)) rfl ?_)
   refine qf (.sl 1025 0 ([v1001].length)) [(1025, .row true 5 ([v1001].map eLesson)), (0, .row true 5 (v11.map eLesson))] (by simp [List.take_of_length_le]) ?_
   obtain ⟨g1002, hF⟩ := need_some hF
   refine qf (.sl 1089 0 ((v11 ++ [v1001]).length)) [(1089, .row true 5 ((v11 ++ [v1001]).map eLesson)), (0, .dead), (1025, .dead), (1025, .row true 5 ([v1001].map eLesson)), (0, .row true 5 (v11.map eLesson))] (effT_app_l rfl (by simp) rfl rfl (by simp) rfl (by decide) g1002 rfl) ?_
   refine qp (.sl 1089 0 ((v11 ++ [v1001]).length)) rfl ?_
   refine r_nil ?_
   refine blockQ_n ?_
   refine thenQ_n ?_
   refine w_reg 1217 1409 rfl rfl ?_
   refine qp (AI v10) rfl (qp (AI (w64 (v10 + 1))) rfl (qp (AI (w64 (v10 + 1))) rfl ?_))
   refine r_nil ?_
   refine thenQ_n ?_
   refine ar (l' := [(0, AL 5 (v0.map eLesson)), (1, AS v1), (5, .sl 0 0 (v11 ++ [v1001]).length), (6, AI (w64 (v10 + 1)))]) (L := [(0, .row true 5 ((v11 ++ [v1001]).map eLesson))]) [0, 1, 5, 6] [(1089, 0)] 1 ⟨_, by rfl, hF⟩
  ·
   refine w_skip ?_
   refine blockQ_n ?_
   refine thenQ_n ?_
   refine w_reg 705 897 rfl rfl ?_
   refine qp (AI v10) rfl (qp (AI (w64 (v10 + 1))) rfl (qp (AI (w64 (v10 + 1))) rfl ?_))
   refine r_nil ?_
   refine thenQ_n ?_
   refine ar (l' := [(0, AL 5 (v0.map eLesson)), (1, AS v1), (5, .sl 0 0 v11.length), (6, AI (w64 (v10 + 1)))]) (L := [(0, .row true 5 (v11.map eLesson))]) [0, 1, 5, 6] [(0, 0)] 1 ⟨_, by rfl, hF⟩
 ·
  refine w_exit ?_
  refine thenQ_e ?_
  refine thenQ_e ?_
  refine blockQ_e ?_
  refine thenQ_n ?_
  refine ws 257 385 ?_
  refine qp (.sl 0 0 v11.length) rfl (qp (.sl 0 0 v11.length) rfl ?_)
  refine r_nil ?_
  refine w_ret ?_
  cases hF
  exact eR

def c92 : MC := (.seq (.reg [rg 4 (.p true (.mv (.c (.int .i64 0))))]) (.seq (.seq (.reg [rg 5 (.p true (.mv (.t 0))), rg 6 (.call true 112 [(.t 5)]), rg 7 (.p true (.not (.t 6)))]) (.cond (.t 7) (.seq (.reg [rg 4 (.p true (.mv (.c (.int .i64 1))))]) .ret) .skip)) (.seq (.seq (.reg [rg 8 (.p true (.mv (.t 0))), rg 9 (.p true (.mv (.t 1))), rg 10 (.call true 95 [(.t 8), (.t 9)]), rg 11 (.p true (.len (.t 10))), rg 12 (.p true (.bin .eql (.t 11) (.c (.int .i64 0))))]) (.cond (.t 12) (.seq (.reg [rg 4 (.p true (.mv (.c (.int .i64 3))))]) .ret) .skip)) (.seq (.reg [rg 4 (.p true (.mv (.c (.int .i64 0))))]) .ret))))
theorem c92_is : compFn Try.prog 92 = some (c92, [(.tmp 4)]) := by kernel_rfl
theorem c92_ok : okFn Try.prog 92 = true := by kernel_rfl

noncomputable def F_spec_l28Ask (v0 : List TLesson) (v1 : List UInt8) : Option (Int) :=
 ((F_spec_l28Ok v0).bind fun v1000 => (bif (!v1000) then some 1
 else ((F_spec_l28Of v0 v1).bind fun v1001 => (bif (decide ((v1001.length : Int) = (0 : Int))) then some 3
 else some 0))))
@[simp] def res_spec_l28Ask (r : Int) : RV := .one (.one (.val (.int .i64 r)))
theorem con_spec_l28Ask {v0 : List TLesson} {v1 : List UInt8} {r : Int} (hF : F_spec_l28Ask v0 v1 = some r) : Con Try.prog 92 [.sl 5 (v0.map eLesson), .str v1] (res_spec_l28Ask r) := by
 unfold F_spec_l28Ask at hF
 refine con_of c92_is fun N => ?_
 refine ws 0 64 ?_
 refine qp (AI 0) rfl ?_
 refine r_nil ?_
 refine w_seq ?_
 refine ws 64 256 ?_
 refine qp (AL 5 (v0.map eLesson)) rfl ?_
 obtain ⟨v1000, e1000, hF⟩ := bind_get hF
 refine qc (AB v1000) [] false (con_spec_l28Ok e1000) c112_ok (by first | rfl | simp) rfl ?_
 refine qp (AB (!v1000)) rfl ?_
 refine r_nil ?_
 refine cF hF (fun hF => ?_) fun hF => ?_
 ·
  refine ws 256 320 ?_
  refine qp (AI 1) rfl ?_
  refine r_nil ?_
  refine w_ret ?_
  refine thenQ_r ?_
  cases hF
  exact eR
 ·
  refine w_skip ?_
  refine thenQ_n ?_
  refine w_seq ?_
  refine ws 256 576 ?_
  refine qp (AL 5 (v0.map eLesson)) rfl (qp (AS v1) rfl ?_)
  obtain ⟨v1001, e1001, hF⟩ := bind_get hF
  refine qc (.sl 384 0 v1001.length) [(384, .row true 5 (v1001.map eLesson))] false (con_spec_l28Of e1001) c95_ok (by first | rfl | simp) (by simp [res_spec_l28Of]) ?_
  refine qp (AI (v1001.length : Int)) rfl (qp (AB (decide ((v1001.length : Int) = (0 : Int)))) rfl ?_)
  refine r_nil ?_
  refine cF hF (fun hF => ?_) fun hF => ?_
  ·
   refine ws 576 640 ?_
   refine qp (AI 3) rfl ?_
   refine r_nil ?_
   refine w_ret ?_
   refine thenQ_r ?_
   cases hF
   exact eR
  ·
   refine w_skip ?_
   refine thenQ_n ?_
   refine ws 576 640 ?_
   refine qp (AI 0) rfl ?_
   refine r_nil ?_
   refine w_ret ?_
   cases hF
   exact eR

def c187 : MC := (.seq (.reg [rg 4 (.p true (.mv (.c (.int .i64 0))))]) (.seq (.seq (.reg [rg 5 (.p true (.mv (.t 0))), rg 6 (.p true (.mv (.t 1))), rg 7 (.p true (.bin .gtr (.t 5) (.t 6)))]) (.cond (.t 7) (.seq (.reg [rg 8 (.p true (.mv (.t 0))), rg 4 (.p true (.mv (.t 8)))]) .ret) .skip)) (.seq (.reg [rg 9 (.p true (.mv (.t 1))), rg 4 (.p true (.mv (.t 9)))]) .ret)))
theorem c187_is : compFn Try.prog 187 = some (c187, [(.tmp 4)]) := by kernel_rfl
theorem c187_ok : okFn Try.prog 187 = true := by kernel_rfl

noncomputable def F_spec_l00Max (v0 : Int) (v1 : Int) : Option (Int) :=
 (bif (decide (v1 < v0)) then some v0
 else some v1)
@[simp] def res_spec_l00Max (r : Int) : RV := .one (.one (.val (.int .i64 r)))
theorem con_spec_l00Max {v0 : Int} {v1 : Int} {r : Int} (hF : F_spec_l00Max v0 v1 = some r) : Con Try.prog 187 [.int .i64 v0, .int .i64 v1] (res_spec_l00Max r) := by
 unfold F_spec_l00Max at hF
 refine con_of c187_is fun N => ?_
 refine ws 0 64 ?_
 refine qp (AI 0) rfl ?_
 refine r_nil ?_
 refine w_seq ?_
 refine ws 64 256 ?_
 refine qp (AI v0) rfl (qp (AI v1) rfl (qp (AB (decide (v1 < v0))) rfl ?_))
 refine r_nil ?_
 refine cF hF (fun hF => ?_) fun hF => ?_
 ·
  refine ws 256 384 ?_
  refine qp (AI v0) rfl (qp (AI v0) rfl ?_)
  refine r_nil ?_
  refine w_ret ?_
  refine thenQ_r ?_
  cases hF
  exact eR
 ·
  refine w_skip ?_
  refine thenQ_n ?_
  refine ws 256 384 ?_
  refine qp (AI v1) rfl (qp (AI v1) rfl ?_)
  refine r_nil ?_
  refine w_ret ?_
  cases hF
  exact eR

def c96 : MC := (.seq (.reg [rg 4 (.p true (.mv (.c (.int .i64 0))))]) (.seq (.reg [rg 5 (.p true (.mv (.c (.int .i64 (-1)))))]) (.seq (.seq (.reg [rg 6 (.p true (.mv (.c (.int .i64 0))))]) (.block 0 (.loop (.seq (.seq (.reg [rg 7 (.p true (.mv (.t 6))), rg 8 (.p true (.mv (.t 0))), rg 9 (.p true (.len (.t 8))), rg 10 (.p true (.bin .lss (.t 7) (.t 9)))]) (.cond (.t 10) .skip (.exit 0))) (.seq (.block 1 (.seq (.reg [rg 13 (.p true (.mv (.t 0))), rg 14 (.p true (.mv (.t 6))), rg 15 (.p true (.iad (.t 13) (.t 14) 5)), rg 16 (.p true (.fad (.t 15) 2)), rg 17 (.p true (.ld (.t 16) 1 false)), rg 18 (.p true (.mv (.t 1))), rg 19 (.p true (.bin .eql (.t 17) (.t 18)))]) (.cond (.t 19) (.reg [rg 20 (.p true (.mv (.t 5))), rg 21 (.p true (.mv (.t 0))), rg 22 (.p true (.mv (.t 6))), rg 23 (.p true (.iad (.t 21) (.t 22) 5)), rg 24 (.p true (.fad (.t 23) 4)), rg 25 (.p true (.ld (.t 24) 1 false)), rg 26 (.call true 187 [(.t 20), (.t 25)]), rg 5 (.p true (.mv (.t 26)))]) .skip))) (.reg [rg 11 (.p true (.mv (.t 6))), rg 12 (.p true (.bin .add (.t 11) (.c (.int .i64 1)))), rg 6 (.p true (.mv (.t 12)))])))))) (.seq (.reg [rg 27 (.p true (.mv (.t 5))), rg 4 (.p true (.mv (.t 27)))]) .ret))))
theorem c96_is : compFn Try.prog 96 = some (c96, [(.tmp 4)]) := by kernel_rfl
theorem c96_ok : okFn Try.prog 96 = true := by kernel_rfl

noncomputable def F_spec_l28Best_l0 (v0 : List TLesson) (v1 : List UInt8) (k0 : Int × Int → Option (Int)) : Int × Int → Option (Int)
 | (v10, v11) => (bif (decide (v11 < (v0.length : Int))) then ((ix v0 v11).bind fun v1000 => (bif (decide (v1000.2.2.1 = v1)) then ((ix v0 v11).bind fun v1001 => ((F_spec_l00Max v10 v1001.2.2.2.2).bind fun v1002 => k0 (v1002, w64 (v11 + 1))))
 else k0 (v10, w64 (v11 + 1))))
 else some v10)
noncomputable def F_spec_l28Best (v0 : List TLesson) (v1 : List UInt8) : Option (Int) :=
 loop (F_spec_l28Best_l0 v0 v1) ((-1), 0)
@[simp] def res_spec_l28Best (r : Int) : RV := .one (.one (.val (.int .i64 r)))
theorem con_spec_l28Best {v0 : List TLesson} {v1 : List UInt8} {r : Int} (hF : F_spec_l28Best v0 v1 = some r) : Con Try.prog 96 [.sl 5 (v0.map eLesson), .str v1] (res_spec_l28Best r) := by
 unfold F_spec_l28Best at hF
 refine con_of c96_is fun N => ?_
 refine ws 0 64 ?_
 refine qp (AI 0) rfl ?_
 refine r_nil ?_
 refine ws 64 128 ?_
 refine qp (AI (-1)) rfl ?_
 refine r_nil ?_
 refine w_seq ?_
 refine ws 128 192 ?_
 refine qp (AI 0) rfl ?_
 refine r_nil ?_
 refine w_block ?_
 refine wr (l' := [(0, AL 5 (v0.map eLesson)), (1, AS v1), (5, AI (-1)), (6, AI 0)]) (L := []) [0, 1, 5, 6] [] 1 ?_
 refine w_loopF (F_spec_l28Best_l0 v0 v1) (fun s : Int × Int => mkS [(0, AL 5 (v0.map eLesson)), (1, AS v1), (5, AI s.1), (6, AI s.2)] (fo []) 1) hF ?_
 rintro k0 ⟨v10, v11⟩ hF
 rw [F_spec_l28Best_l0] at hF
 try dsimp only
 refine w_seq ?_
 refine ws 1 257 ?_
 refine qp (AI v11) rfl (qp (AL 5 (v0.map eLesson)) rfl (qp (AI (v0.length : Int)) (ev_len_n rfl) (qp (AB (decide (v11 < (v0.length : Int)))) rfl ?_)))
 refine r_nil ?_
 refine cF hF (fun hF => ?_) fun hF => ?_
 ·
  refine w_skip ?_
  refine thenQ_n ?_
  refine w_seq ?_
  refine w_block ?_
  refine ws 257 705 ?_
  refine qp (AL 5 (v0.map eLesson)) rfl (qp (AI v11) rfl ?_)
  obtain ⟨v1000, e1000, hF⟩ := bind_get hF
  refine qp (.val none (.ptr [.int .i64 v1000.1, .str v1000.2.1, .str v1000.2.2.1, .int .i64 v1000.2.2.2.1, .int .i64 v1000.2.2.2.2])) (ev_iad_n rfl rfl e1000 rfl) (qp (.val none (.ptr [.str v1000.2.2.1, .int .i64 v1000.2.2.2.1, .int .i64 v1000.2.2.2.2])) rfl (qp (AS v1000.2.2.1) rfl (qp (AS v1) rfl (qp (AB (decide (v1000.2.2.1 = v1))) rfl ?_))))
  refine r_nil ?_
  refine cF hF (fun hF => ?_) fun hF => ?_
  ·
   refine w_reg 705 1217 rfl rfl ?_
   refine qp (AI v10) rfl (qp (AL 5 (v0.map eLesson)) rfl (qp (AI v11) rfl ?_))
   obtain ⟨v1001, e1001, hF⟩ := bind_get hF
   refine qp (.val none (.ptr [.int .i64 v1001.1, .str v1001.2.1, .str v1001.2.2.1, .int .i64 v1001.2.2.2.1, .int .i64 v1001.2.2.2.2])) (ev_iad_n rfl rfl e1001 rfl) (qp (.val none (.ptr [.int .i64 v1001.2.2.2.2])) rfl (qp (AI v1001.2.2.2.2) rfl ?_))
   obtain ⟨v1002, e1002, hF⟩ := bind_get hF
   refine qc (AI v1002) [] false (con_spec_l00Max e1002) c187_ok (by first | rfl | simp) rfl ?_
   refine qp (AI v1002) rfl ?_
   refine r_nil ?_
   refine blockQ_n ?_
   refine thenQ_n ?_
   refine w_reg 1217 1409 rfl rfl ?_
   refine qp (AI v11) rfl (qp (AI (w64 (v11 + 1))) rfl (qp (AI (w64 (v11 + 1))) rfl ?_))
   refine r_nil ?_
   refine thenQ_n ?_
   refine ar (l' := [(0, AL 5 (v0.map eLesson)), (1, AS v1), (5, AI v1002), (6, AI (w64 (v11 + 1)))]) (L := []) [0, 1, 5, 6] [] 1 ⟨_, by rfl, hF⟩
  ·
   refine w_skip ?_
   refine blockQ_n ?_
   refine thenQ_n ?_
   refine w_reg 705 897 rfl rfl ?_
   refine qp (AI v11) rfl (qp (AI (w64 (v11 + 1))) rfl (qp (AI (w64 (v11 + 1))) rfl ?_))
   refine r_nil ?_
   refine thenQ_n ?_
   refine ar (l' := [(0, AL 5 (v0.map eLesson)), (1, AS v1), (5, AI v10), (6, AI (w64 (v11 + 1)))]) (L := []) [0, 1, 5, 6] [] 1 ⟨_, by rfl, hF⟩
 ·
  refine w_exit ?_
  refine thenQ_e ?_
  refine thenQ_e ?_
  refine blockQ_e ?_
  refine thenQ_n ?_
  refine ws 257 385 ?_
  refine qp (AI v10) rfl (qp (AI v10) rfl ?_)
  refine r_nil ?_
  refine w_ret ?_
  cases hF
  exact eR

def c20 : MC := (.seq (.reg [rg 8 (.f (.nilrow 1)), rg 9 (.p true (.mv (.c (.int .i64 0))))]) (.seq (.reg [rg 20 (.p true (.mv (.t 0))), rg 21 (.p true (.mv (.t 1))), rg 22 (.call true 92 [(.t 20), (.t 21)]), rg 10 (.p true (.mv (.t 22)))]) (.seq (.seq (.reg [rg 23 (.p true (.mv (.t 10))), rg 24 (.p true (.bin .eql (.t 23) (.c (.int .i64 0)))), rg 25 (.p true (.mv (.t 24))), ⟨(some 26), (some (25, true)), (.p true (.mv (.t 2)))⟩, ⟨(some 27), (some (25, true)), (.p true (.len (.t 26)))⟩, ⟨(some 28), (some (25, true)), (.p true (.bin .gtr (.t 27) (.c (.int .i64 64))))⟩, ⟨(some 29), (some (25, true)), (.p true (.mv (.t 28)))⟩, ⟨(some 30), (some (29, false)), (.p true (.mv (.t 3)))⟩, ⟨(some 31), (some (29, false)), (.call true 93 [(.t 30), (.c (.int .i64 0)), (.c (.int .i64 100))])⟩, ⟨(some 32), (some (29, false)), (.p true (.not (.t 31)))⟩, ⟨(some 33), (some (25, true)), (.p true (.pick (.t 29) (.c (.bool true)) (.t 32)))⟩, rg 34 (.p true (.pick (.t 25) (.t 33) (.c (.bool false))))]) (.cond (.t 34) (.reg [rg 10 (.p true (.mv (.c (.int .i64 2))))]) .skip)) (.seq (.seq (.reg [rg 11 (.p true (.mv (.c (.int .i64 0))))]) (.block 0 (.loop (.seq (.seq (.reg [rg 35 (.p true (.mv (.t 11))), rg 36 (.p true (.mv (.t 2))), rg 37 (.p true (.len (.t 36))), rg 38 (.p true (.bin .lss (.t 35) (.t 37))), rg 39 (.p true (.mv (.t 38))), ⟨(some 40), (some (39, true)), (.p true (.mv (.t 10)))⟩, ⟨(some 41), (some (39, true)), (.p true (.bin .eql (.t 40) (.c (.int .i64 0))))⟩, rg 42 (.p true (.pick (.t 39) (.t 41) (.c (.bool false))))]) (.cond (.t 42) .skip (.exit 0))) (.seq (.block 1 (.seq (.reg [rg 45 (.p true (.mv (.t 2))), rg 46 (.p true (.mv (.t 11))), rg 47 (.p true (.iad (.t 45) (.t 46) 1)), rg 48 (.p true (.ld (.t 47) 1 false)), rg 12 (.p true (.mv (.t 48)))]) (.seq (.reg [rg 49 (.p false (.mv (.t 12))), rg 50 (.p false (.len (.t 49))), rg 51 (.p false (.bin .neq (.t 50) (.c (.int .i64 2)))), rg 52 (.p false (.mv (.t 51))), ⟨(some 53), (some (52, false)), (.p false (.mv (.t 12)))⟩, ⟨(some 54), (some (52, false)), (.p false (.iad (.t 53) (.c (.int .i64 0)) 1))⟩, ⟨(some 55), (some (52, false)), (.p false (.ld (.t 54) 1 false))⟩, ⟨(some 56), (some (52, false)), (.call false 94 [(.t 55)])⟩, ⟨(some 57), (some (52, false)), (.p false (.not (.t 56)))⟩, rg 58 (.p false (.pick (.t 52) (.c (.bool true)) (.t 57))), rg 59 (.p false (.mv (.t 58))), ⟨(some 60), (some (59, false)), (.p false (.mv (.t 12)))⟩, ⟨(some 61), (some (59, false)), (.p false (.iad (.t 60) (.c (.int .i64 1)) 1))⟩, ⟨(some 62), (some (59, false)), (.p false (.ld (.t 61) 1 false))⟩, ⟨(some 63), (some (59, false)), (.call false 94 [(.t 62)])⟩, ⟨(some 64), (some (59, false)), (.p false (.not (.t 63)))⟩, rg 65 (.p false (.pick (.t 59) (.c (.bool true)) (.t 64))), rg 66 (.p false (.mv (.t 65))), ⟨(some 67), (some (66, false)), (.p false (.mv (.t 12)))⟩, ⟨(some 68), (some (66, false)), (.p false (.iad (.t 67) (.c (.int .i64 0)) 1))⟩, ⟨(some 69), (some (66, false)), (.p false (.ld (.t 68) 1 false))⟩, ⟨(some 70), (some (66, false)), (.p false (.mv (.t 12)))⟩, ⟨(some 71), (some (66, false)), (.p false (.iad (.t 70) (.c (.int .i64 1)) 1))⟩, ⟨(some 72), (some (66, false)), (.p false (.ld (.t 71) 1 false))⟩, ⟨(some 73), (some (66, false)), (.p false (.bin .eql (.t 69) (.t 72)))⟩, rg 74 (.p false (.pick (.t 66) (.c (.bool true)) (.t 73)))]) (.cond (.t 74) (.reg [rg 10 (.p true (.mv (.c (.int .i64 2))))]) .skip)))) (.reg [rg 43 (.p true (.mv (.t 11))), rg 44 (.p true (.bin .add (.t 43) (.c (.int .i64 1)))), rg 11 (.p true (.mv (.t 44)))])))))) (.seq (.seq (.reg [rg 75 (.p true (.mv (.t 10))), rg 76 (.p true (.bin .neq (.t 75) (.c (.int .i64 0))))]) (.cond (.t 76) (.seq (.reg [rg 77 (.p true (.mv (.t 10))), rg 8 (.f (.nilrow 1)), rg 9 (.p true (.mv (.t 77)))]) .ret) .skip)) (.seq (.reg [rg 78 (.p true (.mv (.t 0))), rg 79 (.p true (.mv (.t 1))), rg 80 (.call true 95 [(.t 78), (.t 79)]), rg 13 (.p true (.mv (.t 80)))]) (.seq (.reg [rg 81 (.f (.bsl 1 [])), rg 14 (.p true (.mv (.t 81)))]) (.seq (.seq (.reg [rg 15 (.p true (.mv (.c (.int .i64 0))))]) (.block 2 (.loop (.seq (.seq (.reg [rg 82 (.p true (.mv (.t 15))), rg 83 (.p true (.mv (.t 2))), rg 84 (.p true (.len (.t 83))), rg 85 (.p true (.bin .lss (.t 82) (.t 84)))]) (.cond (.t 85) .skip (.exit 2))) (.seq (.block 3 (.seq (.reg [rg 88 (.p true (.mv (.t 2))), rg 89 (.p true (.mv (.t 15))), rg 90 (.p true (.iad (.t 88) (.t 89) 1)), rg 91 (.p true (.ld (.t 90) 1 false)), rg 92 (.p true (.iad (.t 91) (.c (.int .i64 0)) 1)), rg 93 (.p true (.ld (.t 92) 1 false)), rg 16 (.p true (.mv (.t 93)))]) (.seq (.reg [rg 94 (.p true (.mv (.t 13))), rg 95 (.p true (.mv (.t 16))), rg 96 (.call true 96 [(.t 94), (.t 95)]), rg 97 (.p true (.bin .lss (.t 96) (.c (.int .i64 0)))), rg 17 (.p true (.mv (.t 97)))]) (.seq (.seq (.reg [rg 18 (.p true (.mv (.c (.int .i64 0))))]) (.block 4 (.loop (.seq (.seq (.reg [rg 98 (.p true (.mv (.t 18))), rg 99 (.p true (.mv (.t 2))), rg 100 (.p true (.len (.t 99))), rg 101 (.p true (.bin .lss (.t 98) (.t 100)))]) (.cond (.t 101) .skip (.exit 4))) (.seq (.block 5 (.seq (.reg [rg 104 (.p true (.mv (.t 2))), rg 105 (.p true (.mv (.t 18))), rg 106 (.p true (.iad (.t 104) (.t 105) 1)), rg 107 (.p true (.ld (.t 106) 1 false)), rg 108 (.p true (.iad (.t 107) (.c (.int .i64 0)) 1)), rg 109 (.p true (.ld (.t 108) 1 false)), rg 110 (.p true (.mv (.t 16))), rg 111 (.p true (.bin .eql (.t 109) (.t 110)))]) (.cond (.t 111) (.seq (.reg [rg 112 (.p true (.mv (.t 13))), rg 113 (.p true (.mv (.t 2))), rg 114 (.p true (.mv (.t 18))), rg 115 (.p true (.iad (.t 113) (.t 114) 1)), rg 116 (.p true (.ld (.t 115) 1 false)), rg 117 (.p true (.iad (.t 116) (.c (.int .i64 1)) 1)), rg 118 (.p true (.ld (.t 117) 1 false)), rg 119 (.call true 96 [(.t 112), (.t 118)]), rg 19 (.p true (.mv (.t 119)))]) (.reg [rg 120 (.p true (.mv (.t 17))), rg 121 (.p true (.mv (.t 120))), ⟨(some 122), (some (121, true)), (.p true (.mv (.t 19)))⟩, ⟨(some 123), (some (121, true)), (.p true (.bin .geq (.t 122) (.c (.int .i64 0))))⟩, rg 124 (.p true (.pick (.t 121) (.t 123) (.c (.bool false)))), rg 125 (.p true (.mv (.t 124))), ⟨(some 126), (some (125, true)), (.p true (.mv (.t 19)))⟩, ⟨(some 127), (some (125, true)), (.p true (.mv (.t 3)))⟩, ⟨(some 128), (some (125, true)), (.p true (.bin .geq (.t 126) (.t 127)))⟩, rg 129 (.p true (.pick (.t 125) (.t 128) (.c (.bool false)))), rg 17 (.p true (.mv (.t 129)))])) .skip))) (.reg [rg 102 (.p true (.mv (.t 18))), rg 103 (.p true (.bin .add (.t 102) (.c (.int .i64 1)))), rg 18 (.p true (.mv (.t 103)))])))))) (.seq (.reg [rg 130 (.p true (.mv (.t 17)))]) (.cond (.t 130) (.reg [rg 131 (.p true (.mv (.t 14))), rg 132 (.p true (.mv (.t 16))), rg 133 (.call true 97 [(.t 131), (.t 132)]), rg 14 (.p true (.mv (.t 133)))]) .skip)))))) (.reg [rg 86 (.p true (.mv (.t 15))), rg 87 (.p true (.bin .add (.t 86) (.c (.int .i64 1)))), rg 15 (.p true (.mv (.t 87)))])))))) (.seq (.reg [rg 134 (.p true (.mv (.t 14))), rg 8 (.p true (.mv (.t 134))), rg 9 (.p true (.mv (.c (.int .i64 0))))]) .ret)))))))))
theorem c20_is : compFn Try.prog 20 = some (c20, [(.tmp 8), (.tmp 9)]) := by kernel_rfl
theorem c20_ok : okFn Try.prog 20 = true := by kernel_rfl

noncomputable def F_spec_ReadyTopics_l6 (v2 : List (List (List UInt8))) (v3 : Int) (v1011 : List TLesson) (v1060 : Int) (v1061 : List (List UInt8)) (v1063 : List UInt8) (k24 : Int × (List (List UInt8)) → Option ((List (List UInt8)) × Int)) (k25 : Bool × Int → Option ((List (List UInt8)) × Int)) : Bool × Int → Option ((List (List UInt8)) × Int)
 | (v1077, v1078) => (bif (decide (v1078 < (v2.length : Int))) then ((ix v2 v1078).bind fun v1079 => ((ix v1079 0).bind fun v1080 => (bif (decide (v1080 = v1063)) then ((ix v2 v1078).bind fun v1081 => ((ix v1081 1).bind fun v1082 => ((F_spec_l28Best v1011 v1082).bind fun v1083 => (bif v1077 then (bif (decide ((0 : Int) ≤ v1083)) then k25 ((decide (v3 ≤ v1083)), w64 (v1078 + 1))
 else k25 (false, w64 (v1078 + 1)))
 else k25 (false, w64 (v1078 + 1))))))
 else k25 (v1077, w64 (v1078 + 1)))))
 else (bif v1077 then ((F_spec_l28Put v1061 v1063).bind fun v1084 => k24 (w64 (v1060 + 1), v1084))
 else k24 (w64 (v1060 + 1), v1061)))
noncomputable def F_spec_ReadyTopics_l5 (v2 : List (List (List UInt8))) (v3 : Int) (v1011 : List TLesson) (k24 : Int × (List (List UInt8)) → Option ((List (List UInt8)) × Int)) : Int × (List (List UInt8)) → Option ((List (List UInt8)) × Int)
 | (v1060, v1061) => (bif (decide (v1060 < (v2.length : Int))) then ((ix v2 v1060).bind fun v1062 => ((ix v1062 0).bind fun v1063 => ((F_spec_l28Best v1011 v1063).bind fun v1064 => loop (F_spec_ReadyTopics_l6 v2 v3 v1011 v1060 v1061 v1063 k24) ((decide (v1064 < (0 : Int))), 0))))
 else some (v1061, 0))
noncomputable def F_spec_ReadyTopics_j1 (v0 : List TLesson) (v1 : List UInt8) (v2 : List (List (List UInt8))) (v3 : Int) (v1028 : Int) : Option ((List (List UInt8)) × Int) :=
 (bif (decide (v1028 ≠ (0 : Int))) then some ([], v1028)
 else ((F_spec_l28Of v0 v1).bind fun v1011 => loop (F_spec_ReadyTopics_l5 v2 v3 v1011) (0, [])))
noncomputable def F_spec_ReadyTopics_l2 (v0 : List TLesson) (v1 : List UInt8) (v2 : List (List (List UInt8))) (v3 : Int) (k13 : Int × Int → Option ((List (List UInt8)) × Int)) : Int × Int → Option ((List (List UInt8)) × Int)
 | (v1019, v1020) => (bif (decide (v1020 < (v2.length : Int))) then (bif (decide (v1019 = (0 : Int))) then ((ix v2 v1020).bind fun v1004 => (bif (decide ((v1004.length : Int) ≠ (2 : Int))) then k13 (2, w64 (v1020 + 1))
 else ((ix v1004 0).bind fun v1005 => ((F_spec_l01Name v1005).bind fun v1006 => (bif (!v1006) then k13 (2, w64 (v1020 + 1))
 else ((ix v1004 1).bind fun v1007 => ((F_spec_l01Name v1007).bind fun v1008 => (bif (!v1008) then k13 (2, w64 (v1020 + 1))
 else ((ix v1004 0).bind fun v1009 => ((ix v1004 1).bind fun v1010 => (bif (decide (v1009 = v1010)) then k13 (2, w64 (v1020 + 1))
 else k13 (v1019, w64 (v1020 + 1)))))))))))))
 else F_spec_ReadyTopics_j1 v0 v1 v2 v3 v1019)
 else F_spec_ReadyTopics_j1 v0 v1 v2 v3 v1019)
noncomputable def F_spec_ReadyTopics_j0 (v0 : List TLesson) (v1 : List UInt8) (v2 : List (List (List UInt8))) (v3 : Int) (v1002 : Int) : Option ((List (List UInt8)) × Int) :=
 loop (F_spec_ReadyTopics_l2 v0 v1 v2 v3) (v1002, 0)
noncomputable def F_spec_ReadyTopics (v0 : List TLesson) (v1 : List UInt8) (v2 : List (List (List UInt8))) (v3 : Int) : Option ((List (List UInt8)) × Int) :=
 ((F_spec_l28Ask v0 v1).bind fun v1000 => (bif (decide (v1000 = (0 : Int))) then (bif (decide ((64 : Int) < (v2.length : Int))) then F_spec_ReadyTopics_j0 v0 v1 v2 v3 2
 else ((F_spec_l00In v3 0 100).bind fun v1003 => (bif (!v1003) then F_spec_ReadyTopics_j0 v0 v1 v2 v3 2
 else F_spec_ReadyTopics_j0 v0 v1 v2 v3 v1000)))
 else F_spec_ReadyTopics_j0 v0 v1 v2 v3 v1000))
@[simp] def res_spec_ReadyTopics (r : (List (List UInt8)) × Int) : RV := .tup [.one (.row true 1 (r.1.map V.str)), .one (.val (.int .i64 r.2))]
theorem con_spec_ReadyTopics {v0 : List TLesson} {v1 : List UInt8} {v2 : List (List (List UInt8))} {v3 : Int} {r : (List (List UInt8)) × Int} (hF : F_spec_ReadyTopics v0 v1 v2 v3 = some r) : Con Try.prog 20 [.sl 5 (v0.map eLesson), .str v1, .sl 1 (v2.map (eL 1 V.str)), .int .i64 v3] (res_spec_ReadyTopics r) := by
 unfold F_spec_ReadyTopics at hF
 refine con_of c20_is fun N => ?_
 refine ws 0 128 ?_
 refine qf (.sl 0 0 0) [(0, .row true 1 (([] : List Int).map (V.int .i64)))] (by simp) ?_
 refine qp (AI 0) rfl ?_
 refine r_nil ?_
 refine ws 128 384 ?_
 refine qp (AL 5 (v0.map eLesson)) rfl (qp (AS v1) rfl ?_)
 obtain ⟨v1000, e1000, hF⟩ := bind_get hF
 refine qc (AI v1000) [(0, .row true 1 (([] : List Int).map (V.int .i64)))] false (con_spec_l28Ask e1000) c92_ok (by first | rfl | simp) rfl ?_
 refine qp (AI v1000) rfl ?_
 refine r_nil ?_
 refine w_meet (fun s' => ∃ (v1002 : Int), s' = mkS [(0, AL 5 (v0.map eLesson)), (1, AS v1), (2, AL 1 (v2.map (eL 1 V.str))), (3, AI v3), (10, AI v1002)] (fo []) 1 ∧ F_spec_ReadyTopics_j0 v0 v1 v2 v3 v1002 = some r) ?_ ?_
 ·
  refine ws 384 1152 ?_
  refine qp (AI v1000) rfl (qp (AB (decide (v1000 = (0 : Int)))) rfl (qp (AB (decide (v1000 = (0 : Int)))) rfl ?_))
  refine q_case 25 hF rfl (fun hF => ?_) (fun hF => ?_)
  ·
   refine qg (AL 1 (v2.map (eL 1 V.str))) rfl rfl (qg (AI (v2.length : Int)) rfl (ev_len_n rfl) (qg (AB (decide ((64 : Int) < (v2.length : Int)))) rfl rfl (qg (AB (decide ((64 : Int) < (v2.length : Int)))) rfl rfl ?_)))
   refine q_case 29 hF rfl (fun hF => ?_) (fun hF => ?_)
   ·
    refine qn rfl (qn rfl (qn rfl (qg (AB true) rfl rfl (qp (AB true) rfl ?_))))
    refine r_nil ?_
    refine w_true rfl ?_
    refine w_reg 1152 1216 rfl rfl ?_
    refine qp (AI 2) rfl ?_
    refine r_nil ?_
    refine thenQ_n ?_
    refine aw_ren (l' := [(0, AL 5 (v0.map eLesson)), (1, AS v1), (2, AL 1 (v2.map (eL 1 V.str))), (3, AI v3), (10, AI 2)]) (L := []) [0, 1, 2, 3, 10] [] 1 (by first | rfl | simp) (by first | rfl | simp) (by decide) (by decide) (by decide) ⟨_, rfl, hF⟩
   ·
    refine qg (AI v3) rfl rfl ?_
    obtain ⟨v1003, e1003, hF⟩ := bind_get hF
    refine qcg (AB v1003) [(0, .row true 1 (([] : List Int).map (V.int .i64)))] false rfl (con_spec_l00In e1003) c93_ok (by first | rfl | simp) rfl ?_
    refine qg (AB (!v1003)) rfl rfl (qg (AB (!v1003)) rfl rfl (qp (AB (!v1003)) rfl ?_))
    refine r_nil ?_
    refine cF hF (fun hF => ?_) fun hF => ?_
    ·
     refine w_reg 1152 1216 rfl rfl ?_
     refine qp (AI 2) rfl ?_
     refine r_nil ?_
     refine thenQ_n ?_
     refine aw_ren (l' := [(0, AL 5 (v0.map eLesson)), (1, AS v1), (2, AL 1 (v2.map (eL 1 V.str))), (3, AI v3), (10, AI 2)]) (L := []) [0, 1, 2, 3, 10] [] 1 (by first | rfl | simp) (by first | rfl | simp) (by decide) (by decide) (by decide) ⟨_, rfl, hF⟩
    ·
     refine w_skip ?_
     refine thenQ_n ?_
     refine aw_ren (l' := [(0, AL 5 (v0.map eLesson)), (1, AS v1), (2, AL 1 (v2.map (eL 1 V.str))), (3, AI v3), (10, AI v1000)]) (L := []) [0, 1, 2, 3, 10] [] 1 (by first | rfl | simp) (by first | rfl | simp) (by decide) (by decide) (by decide) ⟨_, rfl, hF⟩
  ·
   refine qn rfl (qn rfl (qn rfl (qn rfl (qu rfl (qu rfl (qu rfl (qn rfl ?_)))))))
   refine qp (AB false) rfl ?_
   refine r_nil ?_
   refine w_false rfl ?_
   refine w_skip ?_
   refine thenQ_n ?_
   refine aw_ren (l' := [(0, AL 5 (v0.map eLesson)), (1, AS v1), (2, AL 1 (v2.map (eL 1 V.str))), (3, AI v3), (10, AI v1000)]) (L := []) [0, 1, 2, 3, 10] [] 1 (by first | rfl | simp) (by first | rfl | simp) (by decide) (by decide) (by decide) ⟨_, rfl, hF⟩
 ·
  rintro s' ⟨v1002, rfl, hF⟩
  unfold F_spec_ReadyTopics_j0 at hF
  refine w_meet (fun s' => ∃ (v1028 : Int), s' = mkS [(0, AL 5 (v0.map eLesson)), (1, AS v1), (2, AL 1 (v2.map (eL 1 V.str))), (3, AI v3), (10, AI v1028)] (fo []) 1 ∧ F_spec_ReadyTopics_j1 v0 v1 v2 v3 v1028 = some r) ?_ ?_
  ·
   refine ws 1 65 ?_
   refine qp (AI 0) rfl ?_
   refine r_nil ?_
   refine w_block ?_
   refine wr (l' := [(0, AL 5 (v0.map eLesson)), (1, AS v1), (2, AL 1 (v2.map (eL 1 V.str))), (3, AI v3), (10, AI v1002), (11, AI 0)]) (L := []) [0, 1, 2, 3, 10, 11] [] 1 ?_
   refine w_loopF (F_spec_ReadyTopics_l2 v0 v1 v2 v3) (fun s : Int × Int => mkS [(0, AL 5 (v0.map eLesson)), (1, AS v1), (2, AL 1 (v2.map (eL 1 V.str))), (3, AI v3), (10, AI s.1), (11, AI s.2)] (fo []) 1) hF ?_
   rintro k13 ⟨v1019, v1020⟩ hF
   rw [F_spec_ReadyTopics_l2] at hF
   try dsimp only
   refine w_seq ?_
   refine ws 1 513 ?_
   refine qp (AI v1020) rfl (qp (AL 1 (v2.map (eL 1 V.str))) rfl (qp (AI (v2.length : Int)) (ev_len_n rfl) (qp (AB (decide (v1020 < (v2.length : Int)))) rfl (qp (AB (decide (v1020 < (v2.length : Int)))) rfl ?_))))
   refine q_case 39 hF rfl (fun hF => ?_) (fun hF => ?_)
   ·
    refine qg (AI v1019) rfl rfl (qg (AB (decide (v1019 = (0 : Int)))) rfl rfl (qp (AB (decide (v1019 = (0 : Int)))) rfl ?_))
    refine r_nil ?_
    refine cF hF (fun hF => ?_) fun hF => ?_
    ·
     refine w_skip ?_
     refine thenQ_n ?_
     refine w_seq ?_
     refine w_block ?_
     refine ws 513 833 ?_
     refine qp (AL 1 (v2.map (eL 1 V.str))) rfl (qp (AI v1020) rfl ?_)
     obtain ⟨v1004, e1004, hF⟩ := bind_get hF
     refine qp (.val none (.ptr [.sl 1 (v1004.map V.str)])) (ev_iad_n rfl rfl e1004 rfl) (qp (AL 1 (v1004.map V.str)) rfl (qp (AL 1 (v1004.map V.str)) rfl ?_))
     refine r_nil ?_
     refine ws 833 2497 ?_
     refine qp (AL 1 (v1004.map V.str)) rfl (qp (AI (v1004.length : Int)) (ev_len_n rfl) (qp (AB (decide ((v1004.length : Int) ≠ (2 : Int)))) rfl (qp (AB (decide ((v1004.length : Int) ≠ (2 : Int)))) rfl ?_)))
     refine q_case 52 hF rfl (fun hF => ?_) (fun hF => ?_)
     ·
      refine qn rfl (qn rfl (qn rfl (qn rfl (qn rfl (qp (AB true) rfl (qp (AB true) rfl (qn rfl ?_)))))))
      refine qn rfl (qn rfl (qn rfl (qn rfl (qp (AB true) rfl (qp (AB true) rfl (qn rfl (qn rfl ?_)))))))
      refine qn rfl (qn rfl (qn rfl (qn rfl (qn rfl (qp (AB true) rfl ?_)))))
      refine r_nil ?_
      refine w_true rfl ?_
      refine w_reg 2497 2561 rfl rfl ?_
      refine qp (AI 2) rfl ?_
      refine r_nil ?_
      refine blockQ_n ?_
      refine thenQ_n ?_
      refine w_reg 2561 2753 rfl rfl ?_
      refine qp (AI v1020) rfl (qp (AI (w64 (v1020 + 1))) rfl (qp (AI (w64 (v1020 + 1))) rfl ?_))
      refine r_nil ?_
      refine thenQ_n ?_
      refine ar (l' := [(0, AL 5 (v0.map eLesson)), (1, AS v1), (2, AL 1 (v2.map (eL 1 V.str))), (3, AI v3), (10, AI 2), (11, AI (w64 (v1020 + 1)))]) (L := []) [0, 1, 2, 3, 10, 11] [] 1 ⟨_, by rfl, hF⟩
     ·
      refine qg (AL 1 (v1004.map V.str)) rfl rfl ?_
      obtain ⟨v1005, e1005, hF⟩ := bind_get hF
      refine qg (.val none (.ptr [.str v1005])) rfl (ev_iad_n rfl rfl e1005 rfl) (qg (AS v1005) rfl rfl ?_)
      obtain ⟨v1006, e1006, hF⟩ := bind_get hF
      refine qcg (AB v1006) [] false rfl (con_spec_l01Name e1006) c94_ok (by first | rfl | simp) rfl ?_
      refine qg (AB (!v1006)) rfl rfl (qp (AB (!v1006)) rfl (qp (AB (!v1006)) rfl ?_))
      refine q_case 59 hF rfl (fun hF => ?_) (fun hF => ?_)
      ·
       refine qn rfl (qn rfl (qn rfl (qn rfl (qn rfl (qp (AB true) rfl (qp (AB true) rfl (qn rfl ?_)))))))
       refine qn rfl (qn rfl (qn rfl (qn rfl (qn rfl (qn rfl (qp (AB true) rfl ?_))))))
       refine r_nil ?_
       refine w_true rfl ?_
       refine w_reg 2497 2561 rfl rfl ?_
       refine qp (AI 2) rfl ?_
       refine r_nil ?_
       refine blockQ_n ?_
       refine thenQ_n ?_
       refine w_reg 2561 2753 rfl rfl ?_
       refine qp (AI v1020) rfl (qp (AI (w64 (v1020 + 1))) rfl (qp (AI (w64 (v1020 + 1))) rfl ?_))
       refine r_nil ?_
       refine thenQ_n ?_
       refine ar (l' := [(0, AL 5 (v0.map eLesson)), (1, AS v1), (2, AL 1 (v2.map (eL 1 V.str))), (3, AI v3), (10, AI 2), (11, AI (w64 (v1020 + 1)))]) (L := []) [0, 1, 2, 3, 10, 11] [] 1 ⟨_, by rfl, hF⟩
      ·
       refine qg (AL 1 (v1004.map V.str)) rfl rfl ?_
       obtain ⟨v1007, e1007, hF⟩ := bind_get hF
       refine qg (.val none (.ptr [.str v1007])) rfl (ev_iad_n rfl rfl e1007 rfl) (qg (AS v1007) rfl rfl ?_)
       obtain ⟨v1008, e1008, hF⟩ := bind_get hF
       refine qcg (AB v1008) [] false rfl (con_spec_l01Name e1008) c94_ok (by first | rfl | simp) rfl ?_
       refine qg (AB (!v1008)) rfl rfl (qp (AB (!v1008)) rfl (qp (AB (!v1008)) rfl ?_))
       refine q_case 66 hF rfl (fun hF => ?_) (fun hF => ?_)
       ·
        refine qn rfl (qn rfl (qn rfl (qn rfl (qn rfl (qn rfl (qn rfl (qp (AB true) rfl ?_)))))))
        refine r_nil ?_
        refine w_true rfl ?_
        refine w_reg 2497 2561 rfl rfl ?_
        refine qp (AI 2) rfl ?_
        refine r_nil ?_
        refine blockQ_n ?_
        refine thenQ_n ?_
        refine w_reg 2561 2753 rfl rfl ?_
        refine qp (AI v1020) rfl (qp (AI (w64 (v1020 + 1))) rfl (qp (AI (w64 (v1020 + 1))) rfl ?_))
        refine r_nil ?_
        refine thenQ_n ?_
        refine ar (l' := [(0, AL 5 (v0.map eLesson)), (1, AS v1), (2, AL 1 (v2.map (eL 1 V.str))), (3, AI v3), (10, AI 2), (11, AI (w64 (v1020 + 1)))]) (L := []) [0, 1, 2, 3, 10, 11] [] 1 ⟨_, by rfl, hF⟩
       ·
        refine qg (AL 1 (v1004.map V.str)) rfl rfl ?_
        obtain ⟨v1009, e1009, hF⟩ := bind_get hF
        refine qg (.val none (.ptr [.str v1009])) rfl (ev_iad_n rfl rfl e1009 rfl) (qg (AS v1009) rfl rfl (qg (AL 1 (v1004.map V.str)) rfl rfl ?_))
        obtain ⟨v1010, e1010, hF⟩ := bind_get hF
        refine qg (.val none (.ptr [.str v1010])) rfl (ev_iad_n rfl rfl e1010 rfl) (qg (AS v1010) rfl rfl (qg (AB (decide (v1009 = v1010))) rfl rfl (qp (AB (decide (v1009 = v1010))) rfl ?_)))
        refine r_nil ?_
        refine cF hF (fun hF => ?_) fun hF => ?_
        ·
         refine w_reg 2497 2561 rfl rfl ?_
         refine qp (AI 2) rfl ?_
         refine r_nil ?_
         refine blockQ_n ?_
         refine thenQ_n ?_
         refine w_reg 2561 2753 rfl rfl ?_
         refine qp (AI v1020) rfl (qp (AI (w64 (v1020 + 1))) rfl (qp (AI (w64 (v1020 + 1))) rfl ?_))
         refine r_nil ?_
         refine thenQ_n ?_
         refine ar (l' := [(0, AL 5 (v0.map eLesson)), (1, AS v1), (2, AL 1 (v2.map (eL 1 V.str))), (3, AI v3), (10, AI 2), (11, AI (w64 (v1020 + 1)))]) (L := []) [0, 1, 2, 3, 10, 11] [] 1 ⟨_, by rfl, hF⟩
        ·
         refine w_skip ?_
         refine blockQ_n ?_
         refine thenQ_n ?_
         refine w_reg 2497 2689 rfl rfl ?_
         refine qp (AI v1020) rfl (qp (AI (w64 (v1020 + 1))) rfl (qp (AI (w64 (v1020 + 1))) rfl ?_))
         refine r_nil ?_
         refine thenQ_n ?_
         refine ar (l' := [(0, AL 5 (v0.map eLesson)), (1, AS v1), (2, AL 1 (v2.map (eL 1 V.str))), (3, AI v3), (10, AI v1019), (11, AI (w64 (v1020 + 1)))]) (L := []) [0, 1, 2, 3, 10, 11] [] 1 ⟨_, by rfl, hF⟩
    ·
     refine w_exit ?_
     refine thenQ_e ?_
     refine thenQ_e ?_
     refine blockQ_e ?_
     refine thenQ_n ?_
     refine aw_ren (l' := [(0, AL 5 (v0.map eLesson)), (1, AS v1), (2, AL 1 (v2.map (eL 1 V.str))), (3, AI v3), (10, AI v1019)]) (L := []) [0, 1, 2, 3, 10] [] 1 (by first | rfl | simp) (by first | rfl | simp) (by decide) (by decide) (by decide) ⟨_, rfl, hF⟩
   ·
    refine qn rfl (qn rfl (qp (AB false) rfl ?_))
    refine r_nil ?_
    refine w_false rfl ?_
    refine w_exit ?_
    refine thenQ_e ?_
    refine thenQ_e ?_
    refine blockQ_e ?_
    refine thenQ_n ?_
    refine aw_ren (l' := [(0, AL 5 (v0.map eLesson)), (1, AS v1), (2, AL 1 (v2.map (eL 1 V.str))), (3, AI v3), (10, AI v1019)]) (L := []) [0, 1, 2, 3, 10] [] 1 (by first | rfl | simp) (by first | rfl | simp) (by decide) (by decide) (by decide) ⟨_, rfl, hF⟩
  ·
   rintro s' ⟨v1028, rfl, hF⟩
   unfold F_spec_ReadyTopics_j1 at hF
   refine w_seq ?_
   refine ws 1 129 ?_
   refine qp (AI v1028) rfl (qp (AB (decide (v1028 ≠ (0 : Int)))) rfl ?_)
   refine r_nil ?_
   refine cF hF (fun hF => ?_) fun hF => ?_
   ·
    refine ws 129 321 ?_
    refine qp (AI v1028) rfl ?_
    refine qf (.sl 193 0 0) [(193, .row true 1 (([] : List (List UInt8)).map V.str))] (by simp) ?_
    refine qp (AI v1028) rfl ?_
    refine r_nil ?_
    refine w_ret ?_
    refine thenQ_r ?_
    cases hF
    exact eR
   ·
    refine w_skip ?_
    refine thenQ_n ?_
    refine ws 129 385 ?_
    refine qp (AL 5 (v0.map eLesson)) rfl (qp (AS v1) rfl ?_)
    obtain ⟨v1011, e1011, hF⟩ := bind_get hF
    refine qc (.sl 257 0 v1011.length) [(257, .row true 5 (v1011.map eLesson))] false (con_spec_l28Of e1011) c95_ok (by first | rfl | simp) (by simp [res_spec_l28Of]) ?_
    refine qp (.sl 257 0 v1011.length) rfl ?_
    refine r_nil ?_
    refine ws 385 513 ?_
    refine qf (.sl 385 0 0) [(385, .row true 1 (([] : List (List UInt8)).map V.str)), (257, .row true 5 (v1011.map eLesson))] (by simp [List.take_of_length_le]) ?_
    refine qp (.sl 385 0 0) rfl ?_
    refine r_nil ?_
    refine w_seq ?_
    refine ws 513 577 ?_
    refine qp (AI 0) rfl ?_
    refine r_nil ?_
    refine w_block ?_
    refine wr (l' := [(2, AL 1 (v2.map (eL 1 V.str))), (3, AI v3), (13, .sl 0 0 v1011.length), (14, .sl 1 0 0), (15, AI 0)]) (L := [(1, .row true 1 (([] : List (List UInt8)).map V.str)), (0, .row true 5 (v1011.map eLesson))]) [2, 3, 13, 14, 15] [(385, 1), (257, 0)] 2 ?_
    refine w_loopF (F_spec_ReadyTopics_l5 v2 v3 v1011) (fun s : Int × (List (List UInt8)) => mkS [(2, AL 1 (v2.map (eL 1 V.str))), (3, AI v3), (13, .sl 0 0 v1011.length), (14, .sl 1 0 s.2.length), (15, AI s.1)] (fo [(1, .row true 1 (s.2.map V.str)), (0, .row true 5 (v1011.map eLesson))]) 2) hF ?_
    rintro k24 ⟨v1060, v1061⟩ hF
    rw [F_spec_ReadyTopics_l5] at hF
    try dsimp only
    refine w_seq ?_
    refine ws 2 258 ?_
    refine qp (AI v1060) rfl (qp (AL 1 (v2.map (eL 1 V.str))) rfl (qp (AI (v2.length : Int)) (ev_len_n rfl) (qp (AB (decide (v1060 < (v2.length : Int)))) rfl ?_)))
    refine r_nil ?_
    refine cF hF (fun hF => ?_) fun hF => ?_
    ·
     refine w_skip ?_
     refine thenQ_n ?_
     refine w_seq ?_
     refine w_block ?_
     refine ws 258 706 ?_
     refine qp (AL 1 (v2.map (eL 1 V.str))) rfl (qp (AI v1060) rfl ?_)
     obtain ⟨v1062, e1062, hF⟩ := bind_get hF
     refine qp (.val none (.ptr [.sl 1 (v1062.map V.str)])) (ev_iad_n rfl rfl e1062 rfl) (qp (AL 1 (v1062.map V.str)) rfl ?_)
     obtain ⟨v1063, e1063, hF⟩ := bind_get hF
     refine qp (.val none (.ptr [.str v1063])) (ev_iad_n rfl rfl e1063 rfl) (qp (AS v1063) rfl (qp (AS v1063) rfl ?_))
     refine r_nil ?_
     refine ws 706 1026 ?_
     refine qp (.sl 0 0 v1011.length) rfl (qp (AS v1063) rfl ?_)
     obtain ⟨v1064, e1064, hF⟩ := bind_get hF
     refine qc (AI v1064) [(1, .row true 1 (v1061.map V.str)), (0, .row true 5 (v1011.map eLesson))] true (con_spec_l28Best e1064) c96_ok (by simp [List.take_of_length_le]) rfl ?_
     refine qp (AB (decide (v1064 < (0 : Int)))) rfl (qp (AB (decide (v1064 < (0 : Int)))) rfl ?_)
     refine r_nil ?_
     refine w_seq ?_
     refine ws 1026 1090 ?_
     refine qp (AI 0) rfl ?_
     refine r_nil ?_
     refine w_block ?_
     refine wr (l' := [(2, AL 1 (v2.map (eL 1 V.str))), (3, AI v3), (13, .sl 0 0 v1011.length), (14, .sl 1 0 v1061.length), (15, AI v1060), (16, AS v1063), (17, AB (decide (v1064 < (0 : Int)))), (18, AI 0)]) (L := [(1, .row true 1 (v1061.map V.str)), (0, .row true 5 (v1011.map eLesson))]) [2, 3, 13, 14, 15, 16, 17, 18] [(1, 1), (0, 0)] 2 ?_
     refine w_loopF (F_spec_ReadyTopics_l6 v2 v3 v1011 v1060 v1061 v1063 k24) (fun s : Bool × Int => mkS [(2, AL 1 (v2.map (eL 1 V.str))), (3, AI v3), (13, .sl 0 0 v1011.length), (14, .sl 1 0 v1061.length), (15, AI v1060), (16, AS v1063), (17, AB s.1), (18, AI s.2)] (fo [(1, .row true 1 (v1061.map V.str)), (0, .row true 5 (v1011.map eLesson))]) 2) hF ?_
     rintro k25 ⟨v1077, v1078⟩ hF
     rw [F_spec_ReadyTopics_l6] at hF
     try dsimp only
     refine w_seq ?_
     refine ws 2 258 ?_
     refine qp (AI v1078) rfl (qp (AL 1 (v2.map (eL 1 V.str))) rfl (qp (AI (v2.length : Int)) (ev_len_n rfl) (qp (AB (decide (v1078 < (v2.length : Int)))) rfl ?_)))
     refine r_nil ?_
     refine cF hF (fun hF => ?_) fun hF => ?_
     ·
      refine w_skip ?_
      refine thenQ_n ?_
      refine w_seq ?_
      refine w_block ?_
      refine ws 258 770 ?_
      refine qp (AL 1 (v2.map (eL 1 V.str))) rfl (qp (AI v1078) rfl ?_)
      obtain ⟨v1079, e1079, hF⟩ := bind_get hF
      refine qp (.val none (.ptr [.sl 1 (v1079.map V.str)])) (ev_iad_n rfl rfl e1079 rfl) (qp (AL 1 (v1079.map V.str)) rfl ?_)
      obtain ⟨v1080, e1080, hF⟩ := bind_get hF
      refine qp (.val none (.ptr [.str v1080])) (ev_iad_n rfl rfl e1080 rfl) (qp (AS v1080) rfl (qp (AS v1063) rfl (qp (AB (decide (v1080 = v1063))) rfl ?_)))
      refine r_nil ?_
      refine cF hF (fun hF => ?_) fun hF => ?_
      ·
       refine ws 770 1346 ?_
       refine qp (.sl 0 0 v1011.length) rfl (qp (AL 1 (v2.map (eL 1 V.str))) rfl (qp (AI v1078) rfl ?_))
       obtain ⟨v1081, e1081, hF⟩ := bind_get hF
       refine qp (.val none (.ptr [.sl 1 (v1081.map V.str)])) (ev_iad_n rfl rfl e1081 rfl) (qp (AL 1 (v1081.map V.str)) rfl ?_)
       obtain ⟨v1082, e1082, hF⟩ := bind_get hF
       refine qp (.val none (.ptr [.str v1082])) (ev_iad_n rfl rfl e1082 rfl) (qp (AS v1082) rfl ?_)
       obtain ⟨v1083, e1083, hF⟩ := bind_get hF
       refine qc (AI v1083) [(1, .row true 1 (v1061.map V.str)), (0, .row true 5 (v1011.map eLesson))] true (con_spec_l28Best e1083) c96_ok (by simp [List.take_of_length_le]) rfl ?_
       refine qp (AI v1083) rfl ?_
       refine r_nil ?_
       refine w_reg 1346 2050 rfl rfl ?_
       refine qp (AB v1077) rfl (qp (AB v1077) rfl ?_)
       refine q_case 121 hF rfl (fun hF => ?_) (fun hF => ?_)
       ·
        refine qg (AI v1083) rfl rfl (qg (AB (decide ((0 : Int) ≤ v1083))) rfl rfl (qp (AB (decide ((0 : Int) ≤ v1083))) rfl (qp (AB (decide ((0 : Int) ≤ v1083))) rfl ?_)))
        refine q_case 125 hF rfl (fun hF => ?_) (fun hF => ?_)
        ·
         refine qg (AI v1083) rfl rfl (qg (AI v3) rfl rfl (qg (AB (decide (v3 ≤ v1083))) rfl rfl (qp (AB (decide (v3 ≤ v1083))) rfl (qp (AB (decide (v3 ≤ v1083))) rfl ?_))))
         refine r_nil ?_
         refine blockQ_n ?_
         refine thenQ_n ?_
         refine w_reg 2050 2242 rfl rfl ?_
         refine qp (AI v1078) rfl (qp (AI (w64 (v1078 + 1))) rfl (qp (AI (w64 (v1078 + 1))) rfl ?_))
         refine r_nil ?_
         refine thenQ_n ?_
         refine ar (l' := [(2, AL 1 (v2.map (eL 1 V.str))), (3, AI v3), (13, .sl 0 0 v1011.length), (14, .sl 1 0 v1061.length), (15, AI v1060), (16, AS v1063), (17, AB (decide (v3 ≤ v1083))), (18, AI (w64 (v1078 + 1)))]) (L := [(1, .row true 1 (v1061.map V.str)), (0, .row true 5 (v1011.map eLesson))]) [2, 3, 13, 14, 15, 16, 17, 18] [(1, 1), (0, 0)] 2 ⟨_, by rfl, hF⟩
        ·
         refine qn rfl (qn rfl (qn rfl (qp (AB false) rfl (qp (AB false) rfl ?_))))
         refine r_nil ?_
         refine blockQ_n ?_
         refine thenQ_n ?_
         refine w_reg 2050 2242 rfl rfl ?_
         refine qp (AI v1078) rfl (qp (AI (w64 (v1078 + 1))) rfl (qp (AI (w64 (v1078 + 1))) rfl ?_))
         refine r_nil ?_
         refine thenQ_n ?_
         refine ar (l' := [(2, AL 1 (v2.map (eL 1 V.str))), (3, AI v3), (13, .sl 0 0 v1011.length), (14, .sl 1 0 v1061.length), (15, AI v1060), (16, AS v1063), (17, AB false), (18, AI (w64 (v1078 + 1)))]) (L := [(1, .row true 1 (v1061.map V.str)), (0, .row true 5 (v1011.map eLesson))]) [2, 3, 13, 14, 15, 16, 17, 18] [(1, 1), (0, 0)] 2 ⟨_, by rfl, hF⟩
       ·
        refine qn rfl (qn rfl (qp (AB false) rfl (qp (AB false) rfl (qn rfl (qn rfl (qn rfl (qp (AB false) rfl ?_)))))))
        refine qp (AB false) rfl ?_
        refine r_nil ?_
        refine blockQ_n ?_
        refine thenQ_n ?_
        refine w_reg 2050 2242 rfl rfl ?_
        refine qp (AI v1078) rfl (qp (AI (w64 (v1078 + 1))) rfl (qp (AI (w64 (v1078 + 1))) rfl ?_))
        refine r_nil ?_
        refine thenQ_n ?_
        refine ar (l' := [(2, AL 1 (v2.map (eL 1 V.str))), (3, AI v3), (13, .sl 0 0 v1011.length), (14, .sl 1 0 v1061.length), (15, AI v1060), (16, AS v1063), (17, AB false), (18, AI (w64 (v1078 + 1)))]) (L := [(1, .row true 1 (v1061.map V.str)), (0, .row true 5 (v1011.map eLesson))]) [2, 3, 13, 14, 15, 16, 17, 18] [(1, 1), (0, 0)] 2 ⟨_, by rfl, hF⟩
      ·
       refine w_skip ?_
       refine blockQ_n ?_
       refine thenQ_n ?_
       refine w_reg 770 962 rfl rfl ?_
       refine qp (AI v1078) rfl (qp (AI (w64 (v1078 + 1))) rfl (qp (AI (w64 (v1078 + 1))) rfl ?_))
       refine r_nil ?_
       refine thenQ_n ?_
       refine ar (l' := [(2, AL 1 (v2.map (eL 1 V.str))), (3, AI v3), (13, .sl 0 0 v1011.length), (14, .sl 1 0 v1061.length), (15, AI v1060), (16, AS v1063), (17, AB v1077), (18, AI (w64 (v1078 + 1)))]) (L := [(1, .row true 1 (v1061.map V.str)), (0, .row true 5 (v1011.map eLesson))]) [2, 3, 13, 14, 15, 16, 17, 18] [(1, 1), (0, 0)] 2 ⟨_, by rfl, hF⟩
     ·
      refine w_exit ?_
      refine thenQ_e ?_
      refine thenQ_e ?_
      refine blockQ_e ?_
      refine thenQ_n ?_
      refine ws 258 322 ?_
      refine qp (AB v1077) rfl ?_
      refine r_nil ?_
      refine cF hF (fun hF => ?_) fun hF => ?_
      ·
       refine w_reg 322 578 rfl rfl ?_
       refine qp (.sl 1 0 v1061.length) rfl (qp (AS v1063) rfl ?_)
       obtain ⟨v1084, e1084, hF⟩ := bind_get hF
       refine qc (.sl 450 0 v1084.length) [(450, .row true 1 (v1084.map V.str)), (1, .row true 1 (v1061.map V.str)), (0, .row true 5 (v1011.map eLesson))] true (con_spec_l28Put e1084) c97_ok (by simp [List.take_of_length_le]) (by simp [res_spec_l28Put]) ?_
       refine qp (.sl 450 0 v1084.length) rfl ?_
       refine r_nil ?_
       refine blockQ_n ?_
       refine thenQ_n ?_
       refine w_reg 578 770 rfl rfl ?_
       refine qp (AI v1060) rfl (qp (AI (w64 (v1060 + 1))) rfl (qp (AI (w64 (v1060 + 1))) rfl ?_))
       refine r_nil ?_
       refine thenQ_n ?_
       refine ar (l' := [(2, AL 1 (v2.map (eL 1 V.str))), (3, AI v3), (13, .sl 0 0 v1011.length), (14, .sl 1 0 v1084.length), (15, AI (w64 (v1060 + 1)))]) (L := [(1, .row true 1 (v1084.map V.str)), (0, .row true 5 (v1011.map eLesson))]) [2, 3, 13, 14, 15] [(450, 1), (0, 0)] 2 ⟨_, by rfl, hF⟩
      ·
       refine w_skip ?_
       refine blockQ_n ?_
       refine thenQ_n ?_
       refine w_reg 322 514 rfl rfl ?_
       refine qp (AI v1060) rfl (qp (AI (w64 (v1060 + 1))) rfl (qp (AI (w64 (v1060 + 1))) rfl ?_))
       refine r_nil ?_
       refine thenQ_n ?_
       refine ar (l' := [(2, AL 1 (v2.map (eL 1 V.str))), (3, AI v3), (13, .sl 0 0 v1011.length), (14, .sl 1 0 v1061.length), (15, AI (w64 (v1060 + 1)))]) (L := [(1, .row true 1 (v1061.map V.str)), (0, .row true 5 (v1011.map eLesson))]) [2, 3, 13, 14, 15] [(1, 1), (0, 0)] 2 ⟨_, by rfl, hF⟩
    ·
     refine w_exit ?_
     refine thenQ_e ?_
     refine thenQ_e ?_
     refine blockQ_e ?_
     refine thenQ_n ?_
     refine ws 258 450 ?_
     refine qp (.sl 1 0 v1061.length) rfl (qp (.sl 1 0 v1061.length) rfl (qp (AI 0) rfl ?_))
     refine r_nil ?_
     refine w_ret ?_
     cases hF
     exact eR

theorem c108_ok : okFn Try.prog 108 = true := by kernel_rfl




theorem c109_ok : okFn Try.prog 109 = true := by kernel_rfl




def c116 : MC := (.seq (.reg [rg 2 (.f (.nilrow 1))]) (.seq (.reg [rg 3 (.f (.nilrow 1))]) (.seq (.seq (.reg [rg 6 (.p true (.mv (.t 0))), rg 7 (.p true (.len (.t 6))), rg 8 (.p true (.mv (.c (.int .i64 0))))]) (.block 0 (.loop (.seq (.reg [rg 9 (.p true (.bin .lss (.t 8) (.t 7)))]) (.seq (.cond (.t 9) .skip (.exit 0)) (.seq (.block 1 (.seq (.reg [rg 10 (.p true (.iad (.t 6) (.t 8) 5)), rg 11 (.p true (.ld (.t 10) 5 true)), rg 5 (.f (.alloc [((.int .i64 0), (0, false)), ((.str []), (0, false)), ((.str []), (0, false)), ((.int .i64 0), (0, false)), ((.int .i64 0), (0, false))])), ⟨none, none, (.f (.st (.t 5) (.t 11) 5))⟩]) (.reg [rg 12 (.p true (.mv (.t 3))), rg 13 (.p true (.fad (.t 5) 1)), rg 14 (.p true (.ld (.t 13) 1 false)), rg 15 (.f (.bsl 1 [(.t 14)])), rg 16 (.f (.app (.t 12) (.t 15) 1 16 true)), rg 3 (.p true (.mv (.t 16)))]))) (.reg [rg 17 (.p true (.bin .add (.t 8) (.c (.int .i64 1)))), rg 8 (.p true (.mv (.t 17)))]))))))) (.seq (.reg [rg 18 (.p true (.mv (.t 3))), rg 19 (.call true 108 [(.t 18)])]) (.seq (.reg [rg 20 (.p true (.mv (.t 3))), rg 21 (.call true 109 [(.t 20)]), rg 2 (.p true (.mv (.t 21)))]) .ret)))))
theorem c116_is : compFn Try.prog 116 = some (c116, [(.tmp 2)]) := by kernel_rfl
theorem c116_ok : okFn Try.prog 116 = true := by kernel_rfl

noncomputable def F_impl_pupilsOf_l0 (v0 : List TLesson) (k0 : Int × (List (List UInt8)) → Option (List (List UInt8))) : Int × (List (List UInt8)) → Option (List (List UInt8))
 | (v7, v8) => (bif (decide (v7 < (v0.length : Int))) then ((ix v0 v7).bind fun v1000 => (need (room (v8.length + [v1000.2.1].length) 16) (k0 (w64 (v7 + 1), v8 ++ [v1000.2.1]))))
 else ((F_sortS v8).bind fun v1002 => need (v1002.length = v8.length) (((F_compactS v1002).bind fun v1003 => some v1003))))
noncomputable def F_impl_pupilsOf (v0 : List TLesson) : Option (List (List UInt8)) :=
 loop (F_impl_pupilsOf_l0 v0) (0, [])
@[simp] def res_impl_pupilsOf (r : List (List UInt8)) : RV := .one (.one (.row true 1 (r.map V.str)))
theorem con_impl_pupilsOf {v0 : List TLesson} {r : List (List UInt8)} (hF : F_impl_pupilsOf v0 = some r) : Con Try.prog 116 [.sl 5 (v0.map eLesson)] (res_impl_pupilsOf r) := by
 unfold F_impl_pupilsOf at hF
 refine con_of c116_is fun N => ?_
 refine ws 0 64 ?_
 refine qf (.sl 0 0 0) [(0, .row true 1 (([] : List Int).map (V.int .i64)))] (by simp) ?_
 refine r_nil ?_
 refine ws 64 128 ?_
 refine qf (.sl 64 0 0) [(64, .row true 1 (([] : List (List UInt8)).map V.str)), (0, .row true 1 (([] : List Int).map (V.int .i64)))] (by simp) ?_
 refine r_nil ?_
 refine w_seq ?_
 refine ws 128 320 ?_
 refine qp (AL 5 (v0.map eLesson)) rfl (qp (AI (v0.length : Int)) (ev_len_n rfl) (qp (AI 0) rfl ?_))
 refine r_nil ?_
 refine w_block ?_
 refine wr (l' := [(3, .sl 0 0 0), (6, AL 5 (v0.map eLesson)), (7, AI (v0.length : Int)), (8, AI 0)]) (L := [(0, .row true 1 (([] : List (List UInt8)).map V.str))]) [3, 6, 7, 8] [(64, 0)] 1 ?_
 refine w_loopF (F_impl_pupilsOf_l0 v0) (fun s : Int × (List (List UInt8)) => mkS [(3, .sl 0 0 s.2.length), (6, AL 5 (v0.map eLesson)), (7, AI (v0.length : Int)), (8, AI s.1)] (fo [(0, .row true 1 (s.2.map V.str))]) 1) hF ?_
 rintro k0 ⟨v7, v8⟩ hF
 rw [F_impl_pupilsOf_l0] at hF
 try dsimp only
 refine ws 1 65 ?_
 refine qp (AB (decide (v7 < (v0.length : Int)))) rfl ?_
 refine r_nil ?_
 refine w_seq ?_
 refine cF hF (fun hF => ?_) fun hF => ?_
 ·
  refine w_skip ?_
  refine thenQ_n ?_
  refine w_seq ?_
  refine w_block ?_
  refine ws 65 321 ?_
  obtain ⟨v1000, e1000, hF⟩ := bind_get hF
  refine qp (.val none (.ptr [.int .i64 v1000.1, .str v1000.2.1, .str v1000.2.2.1, .int .i64 v1000.2.2.2.1, .int .i64 v1000.2.2.2.2])) (ev_iad_n rfl rfl e1000 rfl) (qp (.val none (eLesson v1000)) rfl ?_)
  refine qf (.ptr 193 0 0) [(193, .box [AI 0, AS [], AS [], AI 0, AI 0]), (0, .row true 1 (v8.map V.str))] (by simp) ?_
  refine qf0 (.undef) [(193, .box [AI v1000.1, AS v1000.2.1, AS v1000.2.2.1, AI v1000.2.2.2.1, AI v1000.2.2.2.2]), (193, .box [AI 0, AS [], AS [], AI 0, AI 0]), (0, .row true 1 (v8.map V.str))] (by simp) ?_
  refine r_nil ?_
  refine w_reg 321 705 rfl rfl ?_
  refine qp (.sl 0 0 v8.length) rfl (qp (.ptr 193 0 1) rfl (qp (AS v1000.2.1) rfl ?_))
  refine qf (.sl 513 0 ([v1000.2.1].length)) [(513, .row true 1 ([v1000.2.1].map V.str)), (193, .box [AI v1000.1, AS v1000.2.1, AS v1000.2.2.1, AI v1000.2.2.2.1, AI v1000.2.2.2.2]), (193, .box [AI 0, AS [], AS [], AI 0, AI 0]), (0, .row true 1 (v8.map V.str))] (by simp [List.take_of_length_le]) ?_
  obtain ⟨g1001, hF⟩ := need_some hF
  refine qf (.sl 577 0 ((v8 ++ [v1000.2.1]).length)) [(577, .row true 1 ((v8 ++ [v1000.2.1]).map V.str)), (0, .dead), (513, .dead), (513, .row true 1 ([v1000.2.1].map V.str)), (193, .box [AI v1000.1, AS v1000.2.1, AS v1000.2.2.1, AI v1000.2.2.2.1, AI v1000.2.2.2.2]), (193, .box [AI 0, AS [], AS [], AI 0, AI 0]), (0, .row true 1 (v8.map V.str))] (effT_app_l rfl (by simp) rfl rfl (by simp) rfl (by decide) g1001 rfl) ?_
  refine qp (.sl 577 0 ((v8 ++ [v1000.2.1]).length)) rfl ?_
  refine r_nil ?_
  refine blockQ_n ?_
  refine thenQ_n ?_
  refine w_reg 705 833 rfl rfl ?_
  refine qp (AI (w64 (v7 + 1))) rfl (qp (AI (w64 (v7 + 1))) rfl ?_)
  refine r_nil ?_
  refine thenQ_n ?_
  refine ar (l' := [(3, .sl 0 0 (v8 ++ [v1000.2.1]).length), (6, AL 5 (v0.map eLesson)), (7, AI (v0.length : Int)), (8, AI (w64 (v7 + 1)))]) (L := [(0, .row true 1 ((v8 ++ [v1000.2.1]).map V.str))]) [3, 6, 7, 8] [(577, 0)] 1 ⟨_, by rfl, hF⟩
 ·
  refine w_exit ?_
  refine thenQ_e ?_
  refine thenQ_e ?_
  refine blockQ_e ?_
  refine thenQ_n ?_
  refine ws 65 193 ?_
  refine qp (.sl 0 0 v8.length) rfl ?_
  obtain ⟨v1002, e1002, hF⟩ := bind_get hF
  obtain ⟨g1002, hF⟩ := need_some hF
  refine qm1 (ls := [0]) [(0, .row true 1 (v1002.map V.str)), (0, .row true 1 (v8.map V.str))] (con_sortS_108 e1002) c108_ok (by first | rfl | simp [takeM, takeML, takeM1, g1002]) (by decide) (by simp [like2, likeL, like1, g1002]) rfl rfl (by simp [scrO_fo, newO2, newO, scrR, scrA, scrAs]) ?_
  refine r_nil ?_
  refine ws 193 385 ?_
  refine qp (.sl 0 0 v8.length) rfl ?_
  obtain ⟨v1003, e1003, hF⟩ := bind_get hF
  refine qX (.sl 257 0 v1003.length) [(257, .row true 1 (v1003.map V.str)), (0, .dead), (0, .row true 1 (v1002.map V.str)), (0, .row true 1 (v8.map V.str))] false rfl rfl (whole_row (by simp [g1002])) (con_compactS_109 e1003) c109_ok (by first | rfl | simp) (by simp [RV.r]) ?_
  refine qp (.sl 257 0 v1003.length) rfl ?_
  refine r_nil ?_
  refine w_ret ?_
  cases hF
  exact endQ_r rfl (.inl ⟨_, _, by first | rfl | (simp [List.take_of_length_le]; first | exact ⟨rfl, rfl⟩ | rfl), by simp, by first | rfl | simp [res_impl_pupilsOf, List.take_of_length_le, g1002]⟩)

def c103 : MC := (.seq (.reg [rg 6 (.p true (.mv (.c (.bool false))))]) (.seq (.reg [rg 7 (.p true (.mv (.t 0))), rg 8 (.p true (.mv (.t 1))), rg 9 (.p true (.bin .geq (.t 7) (.t 8))), rg 10 (.p true (.mv (.t 9))), ⟨(some 11), (some (10, true)), (.p true (.mv (.t 0)))⟩, ⟨(some 12), (some (10, true)), (.p true (.mv (.t 2)))⟩, ⟨(some 13), (some (10, true)), (.p true (.bin .leq (.t 11) (.t 12)))⟩, rg 14 (.p true (.pick (.t 10) (.t 13) (.c (.bool false)))), rg 6 (.p true (.mv (.t 14)))]) .ret))
theorem c103_is : compFn Try.prog 103 = some (c103, [(.tmp 6)]) := by kernel_rfl
theorem c103_ok : okFn Try.prog 103 = true := by kernel_rfl

noncomputable def F_impl_within (v0 : Int) (v1 : Int) (v2 : Int) : Option (Bool) :=
 (bif (decide (v1 ≤ v0)) then some (decide (v0 ≤ v2))
 else some false)
@[simp] def res_impl_within (r : Bool) : RV := .one (.one (.val (.bool r)))
theorem con_impl_within {v0 : Int} {v1 : Int} {v2 : Int} {r : Bool} (hF : F_impl_within v0 v1 v2 = some r) : Con Try.prog 103 [.int .i64 v0, .int .i64 v1, .int .i64 v2] (res_impl_within r) := by
 unfold F_impl_within at hF
 refine con_of c103_is fun N => ?_
 refine ws 0 64 ?_
 refine qp (AB false) rfl ?_
 refine r_nil ?_
 refine ws 64 640 ?_
 refine qp (AI v0) rfl (qp (AI v1) rfl (qp (AB (decide (v1 ≤ v0))) rfl (qp (AB (decide (v1 ≤ v0))) rfl ?_)))
 refine q_case 10 hF rfl (fun hF => ?_) (fun hF => ?_)
 ·
  refine qg (AI v0) rfl rfl (qg (AI v2) rfl rfl (qg (AB (decide (v0 ≤ v2))) rfl rfl (qp (AB (decide (v0 ≤ v2))) rfl (qp (AB (decide (v0 ≤ v2))) rfl ?_))))
  refine r_nil ?_
  refine w_ret ?_
  cases hF
  exact eR
 ·
  refine qn rfl (qn rfl (qn rfl (qp (AB false) rfl (qp (AB false) rfl ?_))))
  refine r_nil ?_
  refine w_ret ?_
  cases hF
  exact eR

def c244 : MC := (.seq (.reg [rg 2 (.p true (.mv (.c (.bool false))))]) (.seq (.seq (.reg [rg 5 (.p true (.mv (.t 0))), rg 6 (.p true (.lens (.t 5))), rg 7 (.p true (.mv (.c (.int .i64 0))))]) (.block 0 (.loop (.seq (.reg [rg 8 (.p true (.bin .lss (.t 7) (.t 6)))]) (.seq (.cond (.t 8) .skip (.exit 0)) (.seq (.block 1 (.seq (.reg [rg 9 (.p true (.mv (.t 7))), rg 3 (.p true (.mv (.t 9)))]) (.seq (.reg [rg 10 (.p true (.mv (.t 0))), rg 11 (.p true (.mv (.t 3))), rg 12 (.p true (.ixs (.t 10) (.t 11))), rg 4 (.p true (.mv (.t 12)))]) (.seq (.reg [rg 13 (.p true (.mv (.t 4))), rg 14 (.p true (.bin .lss (.t 13) (.c (.int .u8 97)))), rg 15 (.p true (.mv (.t 14))), ⟨(some 16), (some (15, false)), (.p true (.mv (.t 4)))⟩, ⟨(some 17), (some (15, false)), (.p true (.bin .gtr (.t 16) (.c (.int .u8 122))))⟩, rg 18 (.p true (.pick (.t 15) (.c (.bool true)) (.t 17))), rg 19 (.p true (.mv (.t 18))), ⟨(some 20), (some (19, true)), (.p true (.mv (.t 4)))⟩, ⟨(some 21), (some (19, true)), (.p true (.bin .lss (.t 20) (.c (.int .u8 48))))⟩, ⟨(some 22), (some (19, true)), (.p true (.mv (.t 21)))⟩, ⟨(some 23), (some (22, false)), (.p true (.mv (.t 4)))⟩, ⟨(some 24), (some (22, false)), (.p true (.bin .gtr (.t 23) (.c (.int .u8 57))))⟩, ⟨(some 25), (some (19, true)), (.p true (.pick (.t 22) (.c (.bool true)) (.t 24)))⟩, rg 26 (.p true (.pick (.t 19) (.t 25) (.c (.bool false))))]) (.cond (.t 26) (.seq (.reg [rg 2 (.p true (.mv (.c (.bool false))))]) .ret) .skip))))) (.reg [rg 27 (.p true (.bin .add (.t 7) (.c (.int .i64 1)))), rg 7 (.p true (.mv (.t 27)))]))))))) (.seq (.reg [rg 2 (.p true (.mv (.c (.bool true))))]) .ret)))
theorem c244_is : compFn Try.prog 244 = some (c244, [(.tmp 2)]) := by kernel_rfl
theorem c244_ok : okFn Try.prog 244 = true := by kernel_rfl

noncomputable def F_impl_onlyNameBytes_l0 (v0 : List UInt8) (k0 : Int → Option (Bool)) : Int → Option (Bool)
 | v4 => (bif (decide (v4 < (v0.length : Int))) then ((ix v0 v4).bind fun v1000 => (bif (decide ((v1000.toNat : Int) < (97 : Int))) then (bif (decide ((v1000.toNat : Int) < (48 : Int))) then some false
 else (bif (decide ((57 : Int) < (v1000.toNat : Int))) then some false
 else k0 (w64 (v4 + 1))))
 else (bif (decide ((122 : Int) < (v1000.toNat : Int))) then (bif (decide ((v1000.toNat : Int) < (48 : Int))) then some false
 else (bif (decide ((57 : Int) < (v1000.toNat : Int))) then some false
 else k0 (w64 (v4 + 1))))
 else k0 (w64 (v4 + 1)))))
 else some true)
noncomputable def F_impl_onlyNameBytes (v0 : List UInt8) : Option (Bool) :=
 loop (F_impl_onlyNameBytes_l0 v0) 0
@[simp] def res_impl_onlyNameBytes (r : Bool) : RV := .one (.one (.val (.bool r)))
theorem con_impl_onlyNameBytes {v0 : List UInt8} {r : Bool} (hF : F_impl_onlyNameBytes v0 = some r) : Con Try.prog 244 [.str v0] (res_impl_onlyNameBytes r) := by
 unfold F_impl_onlyNameBytes at hF
 refine con_of c244_is fun N => ?_
 refine ws 0 64 ?_
 refine qp (AB false) rfl ?_
 refine r_nil ?_
 refine w_seq ?_
 refine ws 64 256 ?_
 refine qp (AS v0) rfl (qp (AI (v0.length : Int)) rfl (qp (AI 0) rfl ?_))
 refine r_nil ?_
 refine w_block ?_
 refine wr (l' := [(0, AS v0), (6, AI (v0.length : Int)), (7, AI 0)]) (L := []) [0, 6, 7] [] 1 ?_
 refine w_loopF (F_impl_onlyNameBytes_l0 v0) (fun s : Int => mkS [(0, AS v0), (6, AI (v0.length : Int)), (7, AI s)] (fo []) 1) hF ?_
 rintro k0 v4 hF
 rw [F_impl_onlyNameBytes_l0] at hF
 try dsimp only
 refine ws 1 65 ?_
 refine qp (AB (decide (v4 < (v0.length : Int)))) rfl ?_
 refine r_nil ?_
 refine w_seq ?_
 refine cF hF (fun hF => ?_) fun hF => ?_
 ·
  refine w_skip ?_
  refine thenQ_n ?_
  refine w_seq ?_
  refine w_block ?_
  refine ws 65 193 ?_
  refine qp (AI v4) rfl (qp (AI v4) rfl ?_)
  refine r_nil ?_
  refine ws 193 449 ?_
  refine qp (AS v0) rfl (qp (AI v4) rfl ?_)
  obtain ⟨v1000, e1000, hF⟩ := bind_get hF
  refine qp (.val none (.int .u8 (v1000.toNat : Int))) (ev_ixs rfl rfl e1000) (qp (.val none (.int .u8 (v1000.toNat : Int))) rfl ?_)
  refine r_nil ?_
  refine ws 449 1345 ?_
  refine qp (.val none (.int .u8 (v1000.toNat : Int))) rfl (qp (AB (decide ((v1000.toNat : Int) < (97 : Int)))) rfl (qp (AB (decide ((v1000.toNat : Int) < (97 : Int)))) rfl ?_))
  refine q_case 15 hF rfl (fun hF => ?_) (fun hF => ?_)
  ·
   refine qn rfl (qn rfl (qp (AB true) rfl (qp (AB true) rfl (qg (.val none (.int .u8 (v1000.toNat : Int))) rfl rfl (qg (AB (decide ((v1000.toNat : Int) < (48 : Int)))) rfl rfl (qg (AB (decide ((v1000.toNat : Int) < (48 : Int)))) rfl rfl ?_))))))
   refine q_case 22 hF rfl (fun hF => ?_) (fun hF => ?_)
   ·
    refine qn rfl (qn rfl (qg (AB true) rfl rfl (qp (AB true) rfl ?_)))
    refine r_nil ?_
    refine w_true rfl ?_
    refine ws 1345 1409 ?_
    refine qp (AB false) rfl ?_
    refine r_nil ?_
    refine w_ret ?_
    refine blockQ_r ?_
    refine thenQ_r ?_
    refine thenQ_r ?_
    refine blockQ_r ?_
    refine thenQ_r ?_
    cases hF
    exact eR
   ·
    refine qg (.val none (.int .u8 (v1000.toNat : Int))) rfl rfl (qg (AB (decide ((57 : Int) < (v1000.toNat : Int)))) rfl rfl (qg (AB (decide ((57 : Int) < (v1000.toNat : Int)))) rfl rfl (qp (AB (decide ((57 : Int) < (v1000.toNat : Int)))) rfl ?_)))
    refine r_nil ?_
    refine cF hF (fun hF => ?_) fun hF => ?_
    ·
     refine ws 1345 1409 ?_
     refine qp (AB false) rfl ?_
     refine r_nil ?_
     refine w_ret ?_
     refine blockQ_r ?_
     refine thenQ_r ?_
     refine thenQ_r ?_
     refine blockQ_r ?_
     refine thenQ_r ?_
     cases hF
     exact eR
    ·
     refine w_skip ?_
     refine blockQ_n ?_
     refine thenQ_n ?_
     refine w_reg 1345 1473 rfl rfl ?_
     refine qp (AI (w64 (v4 + 1))) rfl (qp (AI (w64 (v4 + 1))) rfl ?_)
     refine r_nil ?_
     refine thenQ_n ?_
     refine ar (l' := [(0, AS v0), (6, AI (v0.length : Int)), (7, AI (w64 (v4 + 1)))]) (L := []) [0, 6, 7] [] 1 ⟨_, by rfl, hF⟩
  ·
   refine qg (.val none (.int .u8 (v1000.toNat : Int))) rfl rfl (qg (AB (decide ((122 : Int) < (v1000.toNat : Int)))) rfl rfl (qp (AB (decide ((122 : Int) < (v1000.toNat : Int)))) rfl (qp (AB (decide ((122 : Int) < (v1000.toNat : Int)))) rfl ?_)))
   refine q_case 19 hF rfl (fun hF => ?_) (fun hF => ?_)
   ·
    refine qg (.val none (.int .u8 (v1000.toNat : Int))) rfl rfl (qg (AB (decide ((v1000.toNat : Int) < (48 : Int)))) rfl rfl (qg (AB (decide ((v1000.toNat : Int) < (48 : Int)))) rfl rfl ?_))
    refine q_case 22 hF rfl (fun hF => ?_) (fun hF => ?_)
    ·
     refine qn rfl (qn rfl (qg (AB true) rfl rfl (qp (AB true) rfl ?_)))
     refine r_nil ?_
     refine w_true rfl ?_
     refine ws 1345 1409 ?_
     refine qp (AB false) rfl ?_
     refine r_nil ?_
     refine w_ret ?_
     refine blockQ_r ?_
     refine thenQ_r ?_
     refine thenQ_r ?_
     refine blockQ_r ?_
     refine thenQ_r ?_
     cases hF
     exact eR
    ·
     refine qg (.val none (.int .u8 (v1000.toNat : Int))) rfl rfl (qg (AB (decide ((57 : Int) < (v1000.toNat : Int)))) rfl rfl (qg (AB (decide ((57 : Int) < (v1000.toNat : Int)))) rfl rfl (qp (AB (decide ((57 : Int) < (v1000.toNat : Int)))) rfl ?_)))
     refine r_nil ?_
     refine cF hF (fun hF => ?_) fun hF => ?_
     ·
      refine ws 1345 1409 ?_
      refine qp (AB false) rfl ?_
      refine r_nil ?_
      refine w_ret ?_
      refine blockQ_r ?_
      refine thenQ_r ?_
      refine thenQ_r ?_
      refine blockQ_r ?_
      refine thenQ_r ?_
      cases hF
      exact eR
     ·
      refine w_skip ?_
      refine blockQ_n ?_
      refine thenQ_n ?_
      refine w_reg 1345 1473 rfl rfl ?_
      refine qp (AI (w64 (v4 + 1))) rfl (qp (AI (w64 (v4 + 1))) rfl ?_)
      refine r_nil ?_
      refine thenQ_n ?_
      refine ar (l' := [(0, AS v0), (6, AI (v0.length : Int)), (7, AI (w64 (v4 + 1)))]) (L := []) [0, 6, 7] [] 1 ⟨_, by rfl, hF⟩
   ·
    refine qn rfl (qn rfl (qn rfl (qu rfl (qu rfl (qn rfl (qp (AB false) rfl ?_))))))
    refine r_nil ?_
    refine w_false rfl ?_
    refine w_skip ?_
    refine blockQ_n ?_
    refine thenQ_n ?_
    refine w_reg 1345 1473 rfl rfl ?_
    refine qp (AI (w64 (v4 + 1))) rfl (qp (AI (w64 (v4 + 1))) rfl ?_)
    refine r_nil ?_
    refine thenQ_n ?_
    refine ar (l' := [(0, AS v0), (6, AI (v0.length : Int)), (7, AI (w64 (v4 + 1)))]) (L := []) [0, 6, 7] [] 1 ⟨_, by rfl, hF⟩
 ·
  refine w_exit ?_
  refine thenQ_e ?_
  refine thenQ_e ?_
  refine blockQ_e ?_
  refine thenQ_n ?_
  refine ws 65 129 ?_
  refine qp (AB true) rfl ?_
  refine r_nil ?_
  refine w_ret ?_
  cases hF
  exact eR

def c189 : MC := (.seq (.reg [rg 2 (.p true (.mv (.c (.bool false))))]) (.seq (.seq (.reg [rg 3 (.p true (.mv (.t 0))), rg 4 (.p true (.lens (.t 3))), rg 5 (.p true (.bin .lss (.t 4) (.c (.int .i64 1)))), rg 6 (.p true (.mv (.t 5))), ⟨(some 7), (some (6, false)), (.p true (.mv (.t 0)))⟩, ⟨(some 8), (some (6, false)), (.p true (.lens (.t 7)))⟩, ⟨(some 9), (some (6, false)), (.p true (.bin .gtr (.t 8) (.c (.int .i64 10))))⟩, rg 10 (.p true (.pick (.t 6) (.c (.bool true)) (.t 9))), rg 11 (.p true (.mv (.t 10))), ⟨(some 12), (some (11, false)), (.p true (.mv (.t 0)))⟩, ⟨(some 13), (some (11, false)), (.p true (.ixs (.t 12) (.c (.int .i64 0))))⟩, ⟨(some 14), (some (11, false)), (.p true (.bin .lss (.t 13) (.c (.int .u8 97))))⟩, rg 15 (.p true (.pick (.t 11) (.c (.bool true)) (.t 14))), rg 16 (.p true (.mv (.t 15))), ⟨(some 17), (some (16, false)), (.p true (.mv (.t 0)))⟩, ⟨(some 18), (some (16, false)), (.p true (.ixs (.t 17) (.c (.int .i64 0))))⟩, ⟨(some 19), (some (16, false)), (.p true (.bin .gtr (.t 18) (.c (.int .u8 122))))⟩, rg 20 (.p true (.pick (.t 16) (.c (.bool true)) (.t 19)))]) (.cond (.t 20) (.seq (.reg [rg 2 (.p true (.mv (.c (.bool false))))]) .ret) .skip)) (.seq (.reg [rg 21 (.p true (.mv (.t 0))), rg 22 (.call true 244 [(.t 21)]), rg 2 (.p true (.mv (.t 22)))]) .ret)))
theorem c189_is : compFn Try.prog 189 = some (c189, [(.tmp 2)]) := by kernel_rfl
theorem c189_ok : okFn Try.prog 189 = true := by kernel_rfl

noncomputable def F_impl_IsName (v0 : List UInt8) : Option (Bool) :=
 (bif (decide ((v0.length : Int) < (1 : Int))) then some false
 else (bif (decide ((10 : Int) < (v0.length : Int))) then some false
 else ((ix v0 0).bind fun v1000 => (bif (decide ((v1000.toNat : Int) < (97 : Int))) then some false
 else ((ix v0 0).bind fun v1001 => (bif (decide ((122 : Int) < (v1001.toNat : Int))) then some false
 else ((F_impl_onlyNameBytes v0).bind fun v1002 => some v1002)))))))
@[simp] def res_impl_IsName (r : Bool) : RV := .one (.one (.val (.bool r)))
theorem con_impl_IsName {v0 : List UInt8} {r : Bool} (hF : F_impl_IsName v0 = some r) : Con Try.prog 189 [.str v0] (res_impl_IsName r) := by
 unfold F_impl_IsName at hF
 refine con_of c189_is fun N => ?_
 refine ws 0 64 ?_
 refine qp (AB false) rfl ?_
 refine r_nil ?_
 refine w_seq ?_
 refine ws 64 1216 ?_
 refine qp (AS v0) rfl (qp (AI (v0.length : Int)) rfl (qp (AB (decide ((v0.length : Int) < (1 : Int)))) rfl (qp (AB (decide ((v0.length : Int) < (1 : Int)))) rfl ?_)))
 refine q_case 6 hF rfl (fun hF => ?_) (fun hF => ?_)
 ·
  refine qn rfl (qn rfl (qn rfl (qp (AB true) rfl (qp (AB true) rfl (qn rfl (qn rfl (qn rfl ?_)))))))
  refine qp (AB true) rfl (qp (AB true) rfl (qn rfl (qn rfl (qn rfl (qp (AB true) rfl ?_)))))
  refine r_nil ?_
  refine w_true rfl ?_
  refine ws 1216 1280 ?_
  refine qp (AB false) rfl ?_
  refine r_nil ?_
  refine w_ret ?_
  refine thenQ_r ?_
  cases hF
  exact eR
 ·
  refine qg (AS v0) rfl rfl (qg (AI (v0.length : Int)) rfl rfl (qg (AB (decide ((10 : Int) < (v0.length : Int)))) rfl rfl (qp (AB (decide ((10 : Int) < (v0.length : Int)))) rfl (qp (AB (decide ((10 : Int) < (v0.length : Int)))) rfl ?_))))
  refine q_case 11 hF rfl (fun hF => ?_) (fun hF => ?_)
  ·
   refine qn rfl (qn rfl (qn rfl (qp (AB true) rfl (qp (AB true) rfl (qn rfl (qn rfl (qn rfl ?_)))))))
   refine qp (AB true) rfl ?_
   refine r_nil ?_
   refine w_true rfl ?_
   refine ws 1216 1280 ?_
   refine qp (AB false) rfl ?_
   refine r_nil ?_
   refine w_ret ?_
   refine thenQ_r ?_
   cases hF
   exact eR
  ·
   refine qg (AS v0) rfl rfl ?_
   obtain ⟨v1000, e1000, hF⟩ := bind_get hF
   refine qg (.val none (.int .u8 (v1000.toNat : Int))) rfl (ev_ixs rfl rfl e1000) (qg (AB (decide ((v1000.toNat : Int) < (97 : Int)))) rfl rfl (qp (AB (decide ((v1000.toNat : Int) < (97 : Int)))) rfl (qp (AB (decide ((v1000.toNat : Int) < (97 : Int)))) rfl ?_)))
   refine q_case 16 hF rfl (fun hF => ?_) (fun hF => ?_)
   ·
    refine qn rfl (qn rfl (qn rfl (qp (AB true) rfl ?_)))
    refine r_nil ?_
    refine w_true rfl ?_
    refine ws 1216 1280 ?_
    refine qp (AB false) rfl ?_
    refine r_nil ?_
    refine w_ret ?_
    refine thenQ_r ?_
    cases hF
    exact eR
   ·
    refine qg (AS v0) rfl rfl ?_
    obtain ⟨v1001, e1001, hF⟩ := bind_get hF
    refine qg (.val none (.int .u8 (v1001.toNat : Int))) rfl (ev_ixs rfl rfl e1001) (qg (AB (decide ((122 : Int) < (v1001.toNat : Int)))) rfl rfl (qp (AB (decide ((122 : Int) < (v1001.toNat : Int)))) rfl ?_))
    refine r_nil ?_
    refine cF hF (fun hF => ?_) fun hF => ?_
    ·
     refine ws 1216 1280 ?_
     refine qp (AB false) rfl ?_
     refine r_nil ?_
     refine w_ret ?_
     refine thenQ_r ?_
     cases hF
     exact eR
    ·
     refine w_skip ?_
     refine thenQ_n ?_
     refine ws 1216 1408 ?_
     refine qp (AS v0) rfl ?_
     obtain ⟨v1002, e1002, hF⟩ := bind_get hF
     refine qc (AB v1002) [] false (con_impl_onlyNameBytes e1002) c244_ok (by first | rfl | simp) rfl ?_
     refine qp (AB v1002) rfl ?_
     refine r_nil ?_
     refine w_ret ?_
     cases hF
     exact eR

def c196 : MC := (.seq (.reg [rg 1 (.f (.box (.t 0))), rg 2 (.p true (.mv (.c (.bool false))))]) (.seq (.reg [rg 3 (.p true (.fad (.t 1) 0)), rg 4 (.p true (.ld (.t 3) 1 false)), rg 5 (.call true 103 [(.t 4), (.c (.int .i64 0)), (.c (.int .i64 100000))]), rg 6 (.p true (.mv (.t 5))), ⟨(some 7), (some (6, true)), (.p true (.fad (.t 1) 1))⟩, ⟨(some 8), (some (6, true)), (.p true (.ld (.t 7) 1 false))⟩, ⟨(some 9), (some (6, true)), (.call true 189 [(.t 8)])⟩, rg 10 (.p true (.pick (.t 6) (.t 9) (.c (.bool false)))), rg 11 (.p true (.mv (.t 10))), ⟨(some 12), (some (11, true)), (.p true (.fad (.t 1) 2))⟩, ⟨(some 13), (some (11, true)), (.p true (.ld (.t 12) 1 false))⟩, ⟨(some 14), (some (11, true)), (.call true 189 [(.t 13)])⟩, rg 15 (.p true (.pick (.t 11) (.t 14) (.c (.bool false)))), rg 16 (.p true (.mv (.t 15))), ⟨(some 17), (some (16, true)), (.p true (.fad (.t 1) 3))⟩, ⟨(some 18), (some (16, true)), (.p true (.ld (.t 17) 1 false))⟩, ⟨(some 19), (some (16, true)), (.call true 103 [(.t 18), (.c (.int .i64 1)), (.c (.int .i64 480))])⟩, rg 20 (.p true (.pick (.t 16) (.t 19) (.c (.bool false)))), rg 21 (.p true (.mv (.t 20))), ⟨(some 22), (some (21, true)), (.p true (.fad (.t 1) 4))⟩, ⟨(some 23), (some (21, true)), (.p true (.ld (.t 22) 1 false))⟩, ⟨(some 24), (some (21, true)), (.call true 103 [(.t 23), (.c (.int .i64 0)), (.c (.int .i64 100))])⟩, rg 25 (.p true (.pick (.t 21) (.t 24) (.c (.bool false)))), rg 2 (.p true (.mv (.t 25)))]) .ret))
theorem c196_is : compFn Try.prog 196 = some (c196, [(.tmp 2)]) := by kernel_rfl
theorem c196_ok : okFn Try.prog 196 = true := by kernel_rfl

noncomputable def F_impl_Lesson_valid (v0 : TLesson) : Option (Bool) :=
 ((F_impl_within v0.1 0 100000).bind fun v1000 => (bif v1000 then ((F_impl_IsName v0.2.1).bind fun v1001 => (bif v1001 then ((F_impl_IsName v0.2.2.1).bind fun v1002 => (bif v1002 then ((F_impl_within v0.2.2.2.1 1 480).bind fun v1003 => (bif v1003 then ((F_impl_within v0.2.2.2.2 0 100).bind fun v1004 => some v1004)
 else some false))
 else some false))
 else some false))
 else some false))
@[simp] def res_impl_Lesson_valid (r : Bool) : RV := .one (.one (.val (.bool r)))
theorem con_impl_Lesson_valid {v0 : TLesson} {r : Bool} (hF : F_impl_Lesson_valid v0 = some r) : Con Try.prog 196 [eLesson v0] (res_impl_Lesson_valid r) := by
 unfold F_impl_Lesson_valid at hF
 refine con_of c196_is fun N => ?_
 refine ws 0 128 ?_
 refine qf (.ptr 0 0 0) [(0, .box [AI v0.1, AS v0.2.1, AS v0.2.2.1, AI v0.2.2.2.1, AI v0.2.2.2.2])] (by simp) ?_
 refine qp (AB false) rfl ?_
 refine r_nil ?_
 refine ws 128 1664 ?_
 refine qp (.ptr 0 0 0) rfl (qp (AI v0.1) rfl ?_)
 obtain ⟨v1000, e1000, hF⟩ := bind_get hF
 refine qc (AB v1000) [(0, .box [AI v0.1, AS v0.2.1, AS v0.2.2.1, AI v0.2.2.2.1, AI v0.2.2.2.2])] false (con_impl_within e1000) c103_ok (by first | rfl | simp) rfl ?_
 refine qp (AB v1000) rfl ?_
 refine q_case 6 hF rfl (fun hF => ?_) (fun hF => ?_)
 ·
  refine qg (.ptr 0 0 1) rfl rfl (qg (AS v0.2.1) rfl rfl ?_)
  obtain ⟨v1001, e1001, hF⟩ := bind_get hF
  refine qcg (AB v1001) [(0, .box [AI v0.1, AS v0.2.1, AS v0.2.2.1, AI v0.2.2.2.1, AI v0.2.2.2.2])] false rfl (con_impl_IsName e1001) c189_ok (by first | rfl | simp) rfl ?_
  refine qp (AB v1001) rfl (qp (AB v1001) rfl ?_)
  refine q_case 11 hF rfl (fun hF => ?_) (fun hF => ?_)
  ·
   refine qg (.ptr 0 0 2) rfl rfl (qg (AS v0.2.2.1) rfl rfl ?_)
   obtain ⟨v1002, e1002, hF⟩ := bind_get hF
   refine qcg (AB v1002) [(0, .box [AI v0.1, AS v0.2.1, AS v0.2.2.1, AI v0.2.2.2.1, AI v0.2.2.2.2])] false rfl (con_impl_IsName e1002) c189_ok (by first | rfl | simp) rfl ?_
   refine qp (AB v1002) rfl (qp (AB v1002) rfl ?_)
   refine q_case 16 hF rfl (fun hF => ?_) (fun hF => ?_)
   ·
    refine qg (.ptr 0 0 3) rfl rfl (qg (AI v0.2.2.2.1) rfl rfl ?_)
    obtain ⟨v1003, e1003, hF⟩ := bind_get hF
    refine qcg (AB v1003) [(0, .box [AI v0.1, AS v0.2.1, AS v0.2.2.1, AI v0.2.2.2.1, AI v0.2.2.2.2])] false rfl (con_impl_within e1003) c103_ok (by first | rfl | simp) rfl ?_
    refine qp (AB v1003) rfl (qp (AB v1003) rfl ?_)
    refine q_case 21 hF rfl (fun hF => ?_) (fun hF => ?_)
    ·
     refine qg (.ptr 0 0 4) rfl rfl (qg (AI v0.2.2.2.2) rfl rfl ?_)
     obtain ⟨v1004, e1004, hF⟩ := bind_get hF
     refine qcg (AB v1004) [(0, .box [AI v0.1, AS v0.2.1, AS v0.2.2.1, AI v0.2.2.2.1, AI v0.2.2.2.2])] false rfl (con_impl_within e1004) c103_ok (by first | rfl | simp) rfl ?_
     refine qp (AB v1004) rfl (qp (AB v1004) rfl ?_)
     refine r_nil ?_
     refine w_ret ?_
     cases hF
     exact eR
    ·
     refine qn rfl (qn rfl (qn rfl (qp (AB false) rfl (qp (AB false) rfl ?_))))
     refine r_nil ?_
     refine w_ret ?_
     cases hF
     exact eR
   ·
    refine qn rfl (qn rfl (qn rfl (qp (AB false) rfl (qp (AB false) rfl (qn rfl (qn rfl (qn rfl ?_)))))))
    refine qp (AB false) rfl (qp (AB false) rfl ?_)
    refine r_nil ?_
    refine w_ret ?_
    cases hF
    exact eR
  ·
   refine qn rfl (qn rfl (qn rfl (qp (AB false) rfl (qp (AB false) rfl (qn rfl (qn rfl (qn rfl ?_)))))))
   refine qp (AB false) rfl (qp (AB false) rfl (qn rfl (qn rfl (qn rfl (qp (AB false) rfl (qp (AB false) rfl ?_))))))
   refine r_nil ?_
   refine w_ret ?_
   cases hF
   exact eR
 ·
  refine qn rfl (qn rfl (qn rfl (qp (AB false) rfl (qp (AB false) rfl (qn rfl (qn rfl (qn rfl ?_)))))))
  refine qp (AB false) rfl (qp (AB false) rfl (qn rfl (qn rfl (qn rfl (qp (AB false) rfl (qp (AB false) rfl (qn rfl ?_)))))))
  refine qn rfl (qn rfl (qp (AB false) rfl (qp (AB false) rfl ?_)))
  refine r_nil ?_
  refine w_ret ?_
  cases hF
  exact eR

def c200 : MC := (.seq (.reg [rg 2 (.p true (.mv (.c (.bool false))))]) (.seq (.reg [rg 3 (.p true (.mv (.t 0))), rg 4 (.p true (.mv (.t 0))), rg 5 (.p true (.bin .neq (.t 3) (.t 4))), rg 2 (.p true (.mv (.t 5)))]) .ret))
theorem c200_is : compFn Try.prog 200 = some (c200, [(.tmp 2)]) := by kernel_rfl
theorem c200_ok : okFn Try.prog 200 = true := by kernel_rfl

noncomputable def F_cmp_isNaN_int64 (v0 : Int) : Option (Bool) :=
 some (decide (v0 ≠ v0))
@[simp] def res_cmp_isNaN_int64 (r : Bool) : RV := .one (.one (.val (.bool r)))
theorem con_cmp_isNaN_int64 {v0 : Int} {r : Bool} (hF : F_cmp_isNaN_int64 v0 = some r) : Con Try.prog 200 [.int .i64 v0] (res_cmp_isNaN_int64 r) := by
 unfold F_cmp_isNaN_int64 at hF
 refine con_of c200_is fun N => ?_
 refine ws 0 64 ?_
 refine qp (AB false) rfl ?_
 refine r_nil ?_
 refine ws 64 320 ?_
 refine qp (AI v0) rfl (qp (AI v0) rfl (qp (AB (decide (v0 ≠ v0))) rfl (qp (AB (decide (v0 ≠ v0))) rfl ?_)))
 refine r_nil ?_
 refine w_ret ?_
 cases hF
 exact eR

def c120 : MC := (.seq (.reg [rg 4 (.p true (.mv (.c (.int .i64 0))))]) (.seq (.reg [rg 7 (.p true (.mv (.t 0))), rg 8 (.call true 200 [(.t 7)]), rg 5 (.p true (.mv (.t 8)))]) (.seq (.reg [rg 9 (.p true (.mv (.t 1))), rg 10 (.call true 200 [(.t 9)]), rg 6 (.p true (.mv (.t 10)))]) (.seq (.seq (.reg [rg 11 (.p true (.mv (.t 5)))]) (.cond (.t 11) (.seq (.seq (.reg [rg 12 (.p true (.mv (.t 6)))]) (.cond (.t 12) (.seq (.reg [rg 4 (.p true (.mv (.c (.int .i64 0))))]) .ret) .skip)) (.seq (.reg [rg 4 (.p true (.mv (.c (.int .i64 (-1)))))]) .ret)) .skip)) (.seq (.seq (.reg [rg 13 (.p true (.mv (.t 6)))]) (.cond (.t 13) (.seq (.reg [rg 4 (.p true (.mv (.c (.int .i64 1))))]) .ret) .skip)) (.seq (.seq (.reg [rg 14 (.p true (.mv (.t 0))), rg 15 (.p true (.mv (.t 1))), rg 16 (.p true (.bin .lss (.t 14) (.t 15)))]) (.cond (.t 16) (.seq (.reg [rg 4 (.p true (.mv (.c (.int .i64 (-1)))))]) .ret) .skip)) (.seq (.seq (.reg [rg 17 (.p true (.mv (.t 0))), rg 18 (.p true (.mv (.t 1))), rg 19 (.p true (.bin .gtr (.t 17) (.t 18)))]) (.cond (.t 19) (.seq (.reg [rg 4 (.p true (.mv (.c (.int .i64 1))))]) .ret) .skip)) (.seq (.reg [rg 4 (.p true (.mv (.c (.int .i64 0))))]) .ret))))))))
theorem c120_is : compFn Try.prog 120 = some (c120, [(.tmp 4)]) := by kernel_rfl
theorem c120_ok : okFn Try.prog 120 = true := by kernel_rfl

noncomputable def F_cmp_Compare_int64 (v0 : Int) (v1 : Int) : Option (Int) :=
 ((F_cmp_isNaN_int64 v0).bind fun v1000 => ((F_cmp_isNaN_int64 v1).bind fun v1001 => (bif v1000 then (bif v1001 then some 0
 else some (-1))
 else (bif v1001 then some 1
 else (bif (decide (v0 < v1)) then some (-1)
 else (bif (decide (v1 < v0)) then some 1
 else some 0))))))
@[simp] def res_cmp_Compare_int64 (r : Int) : RV := .one (.one (.val (.int .i64 r)))
theorem con_cmp_Compare_int64 {v0 : Int} {v1 : Int} {r : Int} (hF : F_cmp_Compare_int64 v0 v1 = some r) : Con Try.prog 120 [.int .i64 v0, .int .i64 v1] (res_cmp_Compare_int64 r) := by
 unfold F_cmp_Compare_int64 at hF
 refine con_of c120_is fun N => ?_
 refine ws 0 64 ?_
 refine qp (AI 0) rfl ?_
 refine r_nil ?_
 refine ws 64 256 ?_
 refine qp (AI v0) rfl ?_
 obtain ⟨v1000, e1000, hF⟩ := bind_get hF
 refine qc (AB v1000) [] false (con_cmp_isNaN_int64 e1000) c200_ok (by first | rfl | simp) rfl ?_
 refine qp (AB v1000) rfl ?_
 refine r_nil ?_
 refine ws 256 448 ?_
 refine qp (AI v1) rfl ?_
 obtain ⟨v1001, e1001, hF⟩ := bind_get hF
 refine qc (AB v1001) [] false (con_cmp_isNaN_int64 e1001) c200_ok (by first | rfl | simp) rfl ?_
 refine qp (AB v1001) rfl ?_
 refine r_nil ?_
 refine w_seq ?_
 refine ws 448 512 ?_
 refine qp (AB v1000) rfl ?_
 refine r_nil ?_
 refine cF hF (fun hF => ?_) fun hF => ?_
 ·
  refine w_seq ?_
  refine ws 512 576 ?_
  refine qp (AB v1001) rfl ?_
  refine r_nil ?_
  refine cF hF (fun hF => ?_) fun hF => ?_
  ·
   refine ws 576 640 ?_
   refine qp (AI 0) rfl ?_
   refine r_nil ?_
   refine w_ret ?_
   refine thenQ_r ?_
   refine thenQ_r ?_
   cases hF
   exact eR
  ·
   refine w_skip ?_
   refine thenQ_n ?_
   refine ws 576 640 ?_
   refine qp (AI (-1)) rfl ?_
   refine r_nil ?_
   refine w_ret ?_
   refine thenQ_r ?_
   cases hF
   exact eR
 ·
  refine w_skip ?_
  refine thenQ_n ?_
  refine w_seq ?_
  refine ws 512 576 ?_
  refine qp (AB v1001) rfl ?_
  refine r_nil ?_
  refine cF hF (fun hF => ?_) fun hF => ?_
  ·
   refine ws 576 640 ?_
   refine qp (AI 1) rfl ?_
   refine r_nil ?_
   refine w_ret ?_
   refine thenQ_r ?_
   cases hF
   exact eR
  ·
   refine w_skip ?_
   refine thenQ_n ?_
   refine w_seq ?_
   refine ws 576 768 ?_
   refine qp (AI v0) rfl (qp (AI v1) rfl (qp (AB (decide (v0 < v1))) rfl ?_))
   refine r_nil ?_
   refine cF hF (fun hF => ?_) fun hF => ?_
   ·
    refine ws 768 832 ?_
    refine qp (AI (-1)) rfl ?_
    refine r_nil ?_
    refine w_ret ?_
    refine thenQ_r ?_
    cases hF
    exact eR
   ·
    refine w_skip ?_
    refine thenQ_n ?_
    refine w_seq ?_
    refine ws 768 960 ?_
    refine qp (AI v0) rfl (qp (AI v1) rfl (qp (AB (decide (v1 < v0))) rfl ?_))
    refine r_nil ?_
    refine cF hF (fun hF => ?_) fun hF => ?_
    ·
     refine ws 960 1024 ?_
     refine qp (AI 1) rfl ?_
     refine r_nil ?_
     refine w_ret ?_
     refine thenQ_r ?_
     cases hF
     exact eR
    ·
     refine w_skip ?_
     refine thenQ_n ?_
     refine ws 960 1024 ?_
     refine qp (AI 0) rfl ?_
     refine r_nil ?_
     refine w_ret ?_
     cases hF
     exact eR

def c276 : MC := (.seq (.reg [rg 2 (.p true (.mv (.c (.bool false))))]) (.seq (.reg [rg 3 (.p true (.mv (.t 0))), rg 4 (.p true (.mv (.t 0))), rg 5 (.p true (.bin .neq (.t 3) (.t 4))), rg 2 (.p true (.mv (.t 5)))]) .ret))
theorem c276_is : compFn Try.prog 276 = some (c276, [(.tmp 2)]) := by kernel_rfl
theorem c276_ok : okFn Try.prog 276 = true := by kernel_rfl

noncomputable def F_cmp_isNaN_string (v0 : List UInt8) : Option (Bool) :=
 some (decide (v0 ≠ v0))
@[simp] def res_cmp_isNaN_string (r : Bool) : RV := .one (.one (.val (.bool r)))
theorem con_cmp_isNaN_string {v0 : List UInt8} {r : Bool} (hF : F_cmp_isNaN_string v0 = some r) : Con Try.prog 276 [.str v0] (res_cmp_isNaN_string r) := by
 unfold F_cmp_isNaN_string at hF
 refine con_of c276_is fun N => ?_
 refine ws 0 64 ?_
 refine qp (AB false) rfl ?_
 refine r_nil ?_
 refine ws 64 320 ?_
 refine qp (AS v0) rfl (qp (AS v0) rfl (qp (AB (decide (v0 ≠ v0))) rfl (qp (AB (decide (v0 ≠ v0))) rfl ?_)))
 refine r_nil ?_
 refine w_ret ?_
 cases hF
 exact eR

def c241 : MC := (.seq (.reg [rg 4 (.p true (.mv (.c (.int .i64 0))))]) (.seq (.reg [rg 7 (.p true (.mv (.t 0))), rg 8 (.call true 276 [(.t 7)]), rg 5 (.p true (.mv (.t 8)))]) (.seq (.reg [rg 9 (.p true (.mv (.t 1))), rg 10 (.call true 276 [(.t 9)]), rg 6 (.p true (.mv (.t 10)))]) (.seq (.seq (.reg [rg 11 (.p true (.mv (.t 5)))]) (.cond (.t 11) (.seq (.seq (.reg [rg 12 (.p true (.mv (.t 6)))]) (.cond (.t 12) (.seq (.reg [rg 4 (.p true (.mv (.c (.int .i64 0))))]) .ret) .skip)) (.seq (.reg [rg 4 (.p true (.mv (.c (.int .i64 (-1)))))]) .ret)) .skip)) (.seq (.seq (.reg [rg 13 (.p true (.mv (.t 6)))]) (.cond (.t 13) (.seq (.reg [rg 4 (.p true (.mv (.c (.int .i64 1))))]) .ret) .skip)) (.seq (.seq (.reg [rg 14 (.p true (.mv (.t 0))), rg 15 (.p true (.mv (.t 1))), rg 16 (.p true (.bin .lss (.t 14) (.t 15)))]) (.cond (.t 16) (.seq (.reg [rg 4 (.p true (.mv (.c (.int .i64 (-1)))))]) .ret) .skip)) (.seq (.seq (.reg [rg 17 (.p true (.mv (.t 0))), rg 18 (.p true (.mv (.t 1))), rg 19 (.p true (.bin .gtr (.t 17) (.t 18)))]) (.cond (.t 19) (.seq (.reg [rg 4 (.p true (.mv (.c (.int .i64 1))))]) .ret) .skip)) (.seq (.reg [rg 4 (.p true (.mv (.c (.int .i64 0))))]) .ret))))))))
theorem c241_is : compFn Try.prog 241 = some (c241, [(.tmp 4)]) := by kernel_rfl
theorem c241_ok : okFn Try.prog 241 = true := by kernel_rfl

noncomputable def F_cmp_Compare_string (v0 : List UInt8) (v1 : List UInt8) : Option (Int) :=
 ((F_cmp_isNaN_string v0).bind fun v1000 => ((F_cmp_isNaN_string v1).bind fun v1001 => (bif v1000 then (bif v1001 then some 0
 else some (-1))
 else (bif v1001 then some 1
 else (bif (Op.bytesLess v0 v1) then some (-1)
 else (bif (!(Op.bytesLess v0 v1 || decide (v0 = v1))) then some 1
 else some 0))))))
@[simp] def res_cmp_Compare_string (r : Int) : RV := .one (.one (.val (.int .i64 r)))
theorem con_cmp_Compare_string {v0 : List UInt8} {v1 : List UInt8} {r : Int} (hF : F_cmp_Compare_string v0 v1 = some r) : Con Try.prog 241 [.str v0, .str v1] (res_cmp_Compare_string r) := by
 unfold F_cmp_Compare_string at hF
 refine con_of c241_is fun N => ?_
 refine ws 0 64 ?_
 refine qp (AI 0) rfl ?_
 refine r_nil ?_
 refine ws 64 256 ?_
 refine qp (AS v0) rfl ?_
 obtain ⟨v1000, e1000, hF⟩ := bind_get hF
 refine qc (AB v1000) [] false (con_cmp_isNaN_string e1000) c276_ok (by first | rfl | simp) rfl ?_
 refine qp (AB v1000) rfl ?_
 refine r_nil ?_
 refine ws 256 448 ?_
 refine qp (AS v1) rfl ?_
 obtain ⟨v1001, e1001, hF⟩ := bind_get hF
 refine qc (AB v1001) [] false (con_cmp_isNaN_string e1001) c276_ok (by first | rfl | simp) rfl ?_
 refine qp (AB v1001) rfl ?_
 refine r_nil ?_
 refine w_seq ?_
 refine ws 448 512 ?_
 refine qp (AB v1000) rfl ?_
 refine r_nil ?_
 refine cF hF (fun hF => ?_) fun hF => ?_
 ·
  refine w_seq ?_
  refine ws 512 576 ?_
  refine qp (AB v1001) rfl ?_
  refine r_nil ?_
  refine cF hF (fun hF => ?_) fun hF => ?_
  ·
   refine ws 576 640 ?_
   refine qp (AI 0) rfl ?_
   refine r_nil ?_
   refine w_ret ?_
   refine thenQ_r ?_
   refine thenQ_r ?_
   cases hF
   exact eR
  ·
   refine w_skip ?_
   refine thenQ_n ?_
   refine ws 576 640 ?_
   refine qp (AI (-1)) rfl ?_
   refine r_nil ?_
   refine w_ret ?_
   refine thenQ_r ?_
   cases hF
   exact eR
 ·
  refine w_skip ?_
  refine thenQ_n ?_
  refine w_seq ?_
  refine ws 512 576 ?_
  refine qp (AB v1001) rfl ?_
  refine r_nil ?_
  refine cF hF (fun hF => ?_) fun hF => ?_
  ·
   refine ws 576 640 ?_
   refine qp (AI 1) rfl ?_
   refine r_nil ?_
   refine w_ret ?_
   refine thenQ_r ?_
   cases hF
   exact eR
  ·
   refine w_skip ?_
   refine thenQ_n ?_
   refine w_seq ?_
   refine ws 576 768 ?_
   refine qp (AS v0) rfl (qp (AS v1) rfl (qp (AB (Op.bytesLess v0 v1)) rfl ?_))
   refine r_nil ?_
   refine cF hF (fun hF => ?_) fun hF => ?_
   ·
    refine ws 768 832 ?_
    refine qp (AI (-1)) rfl ?_
    refine r_nil ?_
    refine w_ret ?_
    refine thenQ_r ?_
    cases hF
    exact eR
   ·
    refine w_skip ?_
    refine thenQ_n ?_
    refine w_seq ?_
    refine ws 768 960 ?_
    refine qp (AS v0) rfl (qp (AS v1) rfl (qp (AB (!(Op.bytesLess v0 v1 || decide (v0 = v1)))) rfl ?_))
    refine r_nil ?_
    refine cF hF (fun hF => ?_) fun hF => ?_
    ·
     refine ws 960 1024 ?_
     refine qp (AI 1) rfl ?_
     refine r_nil ?_
     refine w_ret ?_
     refine thenQ_r ?_
     cases hF
     exact eR
    ·
     refine w_skip ?_
     refine thenQ_n ?_
     refine ws 960 1024 ?_
     refine qp (AI 0) rfl ?_
     refine r_nil ?_
     refine w_ret ?_
     cases hF
     exact eR

end Go.Ab
