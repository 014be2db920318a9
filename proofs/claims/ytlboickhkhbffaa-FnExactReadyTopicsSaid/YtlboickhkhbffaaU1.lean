/- Walks (printed by auto.py, a program of this session's own). -/
import Derived.Test.YtlboickhkhbffaaU0
import Derived.Test.YtlboickhkhbffaaProg
import Derived.KernelRfl
import Derived.Test.YtlboickhkhbffaaSQ
set_option linter.unusedVariables false
set_option linter.unusedSimpArgs false
set_option maxRecDepth 8000
set_option maxHeartbeats 8000000
namespace Go.Ab
open Go.RowKit Go.Proofs

def c240 : MC := (.seq (.reg [rg 2 (.p true (.mv (.c (.int .i64 0))))]) (.seq (.reg [rg 3 (.p true (.mv (.c (.int .i64 0))))]) (.seq (.seq (.reg [rg 6 (.p true (.mv (.t 0))), rg 7 (.p true (.len (.t 6))), rg 8 (.p true (.mv (.c (.int .i64 0))))]) (.block 0 (.loop (.seq (.reg [rg 9 (.p true (.bin .lss (.t 8) (.t 7)))]) (.seq (.cond (.t 9) .skip (.exit 0)) (.seq (.block 1 (.seq (.reg [rg 10 (.p true (.iad (.t 6) (.t 8) 1)), rg 11 (.p true (.ld (.t 10) 1 false)), rg 5 (.p true (.mv (.t 11)))]) (.seq (.reg [rg 12 (.p true (.mv (.t 5))), rg 13 (.p true (.mv (.t 3))), rg 14 (.p true (.bin .neq (.t 12) (.t 13)))]) (.cond (.t 14) (.seq (.reg [rg 15 (.p true (.mv (.t 5))), rg 2 (.p true (.mv (.t 15)))]) .ret) .skip)))) (.reg [rg 16 (.p true (.bin .add (.t 8) (.c (.int .i64 1)))), rg 8 (.p true (.mv (.t 16)))]))))))) (.seq (.reg [rg 17 (.p true (.mv (.t 3))), rg 2 (.p true (.mv (.t 17)))]) .ret))))
theorem c240_is : compFn Try.prog 240 = some (c240, [(.tmp 2)]) := by kernel_rfl
theorem c240_ok : okFn Try.prog 240 = true := by kernel_rfl

noncomputable def F_cmp_Or_int_l0 (v0 : List Int) (k0 : Int → Option (Int)) : Int → Option (Int)
 | v4 => (bif (decide (v4 < (v0.length : Int))) then ((ix v0 v4).bind fun v1000 => (bif (decide (v1000 ≠ (0 : Int))) then some v1000
 else k0 (w64 (v4 + 1))))
 else some 0)
noncomputable def F_cmp_Or_int (v0 : List Int) : Option (Int) :=
 loop (F_cmp_Or_int_l0 v0) 0
@[simp] def res_cmp_Or_int (r : Int) : RV := .one (.one (.val (.int .i64 r)))
theorem con_cmp_Or_int {v0 : List Int} {r : Int} (hF : F_cmp_Or_int v0 = some r) : Con Try.prog 240 [.sl 1 (v0.map (V.int .i64))] (res_cmp_Or_int r) := by
 unfold F_cmp_Or_int at hF
 refine con_of c240_is fun N => ?_
 refine ws 0 64 ?_
 refine qp (AI 0) rfl ?_
 refine r_nil ?_
 refine ws 64 128 ?_
 refine qp (AI 0) rfl ?_
 refine r_nil ?_
 refine w_seq ?_
 refine ws 128 320 ?_
 refine qp (AL 1 (v0.map (V.int .i64))) rfl (qp (AI (v0.length : Int)) (ev_len_n rfl) (qp (AI 0) rfl ?_))
 refine r_nil ?_
 refine w_block ?_
 refine wr (l' := [(3, AI 0), (6, AL 1 (v0.map (V.int .i64))), (7, AI (v0.length : Int)), (8, AI 0)]) (L := []) [3, 6, 7, 8] [] 1 ?_
 refine w_loopF (F_cmp_Or_int_l0 v0) (fun s : Int => mkS [(3, AI 0), (6, AL 1 (v0.map (V.int .i64))), (7, AI (v0.length : Int)), (8, AI s)] (fo []) 1) hF ?_
 rintro k0 v4 hF
 rw [F_cmp_Or_int_l0] at hF
 try dsimp only
 refine ws 1 65 ?_
 refine qp (AB (decide (v4 < (v0.length : Int)))) rfl ?_
 refine r_nil ?_
 refine w_seq ?_
 refine cF hF (fun hF => ?_) fun hF => ?_
 ·
  refine w_skip ?_
  refine thenQ_n ?_
  refine w_seq ?_
  refine w_block ?_
  refine ws 65 257 ?_
  obtain ⟨v1000, e1000, hF⟩ := bind_get hF
  refine qp (.val none (.ptr [.int .i64 v1000])) (ev_iad_n rfl rfl e1000 rfl) (qp (AI v1000) rfl (qp (AI v1000) rfl ?_))
  refine r_nil ?_
  refine ws 257 449 ?_
  refine qp (AI v1000) rfl (qp (AI 0) rfl (qp (AB (decide (v1000 ≠ (0 : Int)))) rfl ?_))
  refine r_nil ?_
  refine cF hF (fun hF => ?_) fun hF => ?_
  ·
   refine ws 449 577 ?_
   refine qp (AI v1000) rfl (qp (AI v1000) rfl ?_)
   refine r_nil ?_
   refine w_ret ?_
   refine blockQ_r ?_
   refine thenQ_r ?_
   refine thenQ_r ?_
   refine blockQ_r ?_
   refine thenQ_r ?_
   cases hF
   exact eR
  ·
   refine w_skip ?_
   refine blockQ_n ?_
   refine thenQ_n ?_
   refine w_reg 449 577 rfl rfl ?_
   refine qp (AI (w64 (v4 + 1))) rfl (qp (AI (w64 (v4 + 1))) rfl ?_)
   refine r_nil ?_
   refine thenQ_n ?_
   refine ar (l' := [(3, AI 0), (6, AL 1 (v0.map (V.int .i64))), (7, AI (v0.length : Int)), (8, AI (w64 (v4 + 1)))]) (L := []) [3, 6, 7, 8] [] 1 ⟨_, by rfl, hF⟩
 ·
  refine w_exit ?_
  refine thenQ_e ?_
  refine thenQ_e ?_
  refine blockQ_e ?_
  refine thenQ_n ?_
  refine ws 65 193 ?_
  refine qp (AI 0) rfl (qp (AI 0) rfl ?_)
  refine r_nil ?_
  refine w_ret ?_
  cases hF
  exact eR

def c197 : MC := (.seq (.reg [rg 2 (.f (.box (.t 0))), rg 3 (.f (.box (.t 1))), rg 4 (.p true (.mv (.c (.int .i64 0))))]) (.seq (.reg [rg 5 (.p false (.fad (.t 2) 0)), rg 6 (.p false (.ld (.t 5) 1 false)), rg 7 (.p false (.fad (.t 3) 0)), rg 8 (.p false (.ld (.t 7) 1 false)), rg 9 (.call false 120 [(.t 6), (.t 8)]), rg 10 (.p false (.fad (.t 2) 1)), rg 11 (.p false (.ld (.t 10) 1 false)), rg 12 (.p false (.fad (.t 3) 1)), rg 13 (.p false (.ld (.t 12) 1 false)), rg 14 (.call false 241 [(.t 11), (.t 13)]), rg 15 (.p false (.fad (.t 2) 2)), rg 16 (.p false (.ld (.t 15) 1 false)), rg 17 (.p false (.fad (.t 3) 2)), rg 18 (.p false (.ld (.t 17) 1 false)), rg 19 (.call false 241 [(.t 16), (.t 18)]), rg 20 (.f (.bsl 1 [(.t 9), (.t 14), (.t 19)])), rg 21 (.call false 240 [(.t 20)]), rg 4 (.p false (.mv (.t 21)))]) .ret))
theorem c197_is : compFn Try.prog 197 = some (c197, [(.tmp 4)]) := by kernel_rfl
theorem c197_ok : okFn Try.prog 197 = true := by kernel_rfl

noncomputable def F_impl_compareLessons (v0 : TLesson) (v1 : TLesson) : Option (Int) :=
 ((F_cmp_Compare_int64 v0.1 v1.1).bind fun v1000 => ((F_cmp_Compare_string v0.2.1 v1.2.1).bind fun v1001 => ((F_cmp_Compare_string v0.2.2.1 v1.2.2.1).bind fun v1002 => ((F_cmp_Or_int [v1000, v1001, v1002]).bind fun v1003 => some v1003))))
@[simp] def res_impl_compareLessons (r : Int) : RV := .one (.one (.val (.int .i64 r)))
theorem con_impl_compareLessons {v0 : TLesson} {v1 : TLesson} {r : Int} (hF : F_impl_compareLessons v0 v1 = some r) : Con Try.prog 197 [eLesson v0, eLesson v1] (res_impl_compareLessons r) := by
 unfold F_impl_compareLessons at hF
 refine con_of c197_is fun N => ?_
 refine ws 0 192 ?_
 refine qf (.ptr 0 0 0) [(0, .box [AI v0.1, AS v0.2.1, AS v0.2.2.1, AI v0.2.2.2.1, AI v0.2.2.2.2])] (by simp) ?_
 refine qf (.ptr 64 0 0) [(64, .box [AI v1.1, AS v1.2.1, AS v1.2.2.1, AI v1.2.2.2.1, AI v1.2.2.2.2]), (0, .box [AI v0.1, AS v0.2.1, AS v0.2.2.1, AI v0.2.2.2.1, AI v0.2.2.2.2])] (by simp) ?_
 refine qp (AI 0) rfl ?_
 refine r_nil ?_
 refine ws 192 1344 ?_
 refine qp (.ptr 0 0 0) rfl (qp (AI v0.1) rfl (qp (.ptr 64 0 0) rfl (qp (AI v1.1) rfl ?_)))
 obtain ⟨v1000, e1000, hF⟩ := bind_get hF
 refine qc (AI v1000) [(64, .box [AI v1.1, AS v1.2.1, AS v1.2.2.1, AI v1.2.2.2.1, AI v1.2.2.2.2]), (0, .box [AI v0.1, AS v0.2.1, AS v0.2.2.1, AI v0.2.2.2.1, AI v0.2.2.2.2])] false (con_cmp_Compare_int64 e1000) c120_ok (by first | rfl | simp) rfl ?_
 refine qp (.ptr 0 0 1) rfl (qp (AS v0.2.1) rfl (qp (.ptr 64 0 1) rfl (qp (AS v1.2.1) rfl ?_)))
 obtain ⟨v1001, e1001, hF⟩ := bind_get hF
 refine qc (AI v1001) [(64, .box [AI v1.1, AS v1.2.1, AS v1.2.2.1, AI v1.2.2.2.1, AI v1.2.2.2.2]), (0, .box [AI v0.1, AS v0.2.1, AS v0.2.2.1, AI v0.2.2.2.1, AI v0.2.2.2.2])] false (con_cmp_Compare_string e1001) c241_ok (by first | rfl | simp) rfl ?_
 refine qp (.ptr 0 0 2) rfl (qp (AS v0.2.2.1) rfl (qp (.ptr 64 0 2) rfl (qp (AS v1.2.2.1) rfl ?_)))
 obtain ⟨v1002, e1002, hF⟩ := bind_get hF
 refine qc (AI v1002) [(64, .box [AI v1.1, AS v1.2.1, AS v1.2.2.1, AI v1.2.2.2.1, AI v1.2.2.2.2]), (0, .box [AI v0.1, AS v0.2.1, AS v0.2.2.1, AI v0.2.2.2.1, AI v0.2.2.2.2])] false (con_cmp_Compare_string e1002) c241_ok (by first | rfl | simp) rfl ?_
 refine qf (.sl 1152 0 ([v1000, v1001, v1002].length)) [(1152, .row true 1 ([v1000, v1001, v1002].map (V.int .i64))), (64, .box [AI v1.1, AS v1.2.1, AS v1.2.2.1, AI v1.2.2.2.1, AI v1.2.2.2.2]), (0, .box [AI v0.1, AS v0.2.1, AS v0.2.2.1, AI v0.2.2.2.1, AI v0.2.2.2.2])] (by simp [List.take_of_length_le]) ?_
 obtain ⟨v1003, e1003, hF⟩ := bind_get hF
 refine qc (AI v1003) [(1152, .row true 1 ([v1000, v1001, v1002].map (V.int .i64))), (64, .box [AI v1.1, AS v1.2.1, AS v1.2.2.1, AI v1.2.2.2.1, AI v1.2.2.2.2]), (0, .box [AI v0.1, AS v0.2.1, AS v0.2.2.1, AI v0.2.2.2.1, AI v0.2.2.2.2])] true (con_cmp_Or_int e1003) c240_ok (by simp [List.take_of_length_le]) rfl ?_
 refine qp (AI v1003) rfl ?_
 refine r_nil ?_
 refine w_ret ?_
 cases hF
 exact eR

def c115 : MC := (.seq (.reg [rg 2 (.p true (.mv (.c (.bool false))))]) (.seq (.seq (.reg [rg 5 (.p true (.mv (.t 0))), rg 6 (.p true (.len (.t 5))), rg 7 (.p true (.bin .gtr (.t 6) (.c (.int .i64 64)))), rg 8 (.p true (.mv (.t 7))), ⟨(some 9), (some (8, false)), (.p true (.mv (.t 0)))⟩, ⟨(some 10), (some (8, false)), (.call true 116 [(.t 9)])⟩, ⟨(some 11), (some (8, false)), (.p true (.len (.t 10)))⟩, ⟨(some 12), (some (8, false)), (.p true (.bin .gtr (.t 11) (.c (.int .i64 12))))⟩, rg 13 (.p true (.pick (.t 8) (.c (.bool true)) (.t 12)))]) (.cond (.t 13) (.seq (.reg [rg 2 (.p true (.mv (.c (.bool false))))]) .ret) .skip)) (.seq (.seq (.reg [rg 14 (.p true (.mv (.t 0))), rg 15 (.p true (.len (.t 14))), rg 16 (.p true (.mv (.c (.int .i64 0))))]) (.block 0 (.loop (.seq (.reg [rg 17 (.p true (.bin .lss (.t 16) (.t 15)))]) (.seq (.cond (.t 17) .skip (.exit 0)) (.seq (.block 1 (.seq (.reg [rg 18 (.p true (.mv (.t 16))), rg 19 (.p true (.iad (.t 14) (.t 16) 5)), rg 20 (.p true (.ld (.t 19) 5 true)), rg 4 (.f (.alloc [((.int .i64 0), (0, false)), ((.str []), (0, false)), ((.str []), (0, false)), ((.int .i64 0), (0, false)), ((.int .i64 0), (0, false))])), rg 3 (.p true (.mv (.t 18))), ⟨none, none, (.f (.st (.t 4) (.t 20) 5))⟩]) (.seq (.reg [rg 21 (.p false (.ld (.t 4) 5 true)), rg 22 (.call false 196 [(.t 21)]), rg 23 (.p false (.not (.t 22))), rg 24 (.p false (.mv (.t 23))), ⟨(some 25), (some (24, false)), (.p false (.mv (.t 3)))⟩, ⟨(some 26), (some (24, false)), (.p false (.bin .gtr (.t 25) (.c (.int .i64 0))))⟩, ⟨(some 27), (some (24, false)), (.p false (.mv (.t 26)))⟩, ⟨(some 28), (some (27, true)), (.p false (.mv (.t 0)))⟩, ⟨(some 29), (some (27, true)), (.p false (.mv (.t 3)))⟩, ⟨(some 30), (some (27, true)), (.p false (.bin .sub (.t 29) (.c (.int .i64 1))))⟩, ⟨(some 31), (some (27, true)), (.p false (.iad (.t 28) (.t 30) 5))⟩, ⟨(some 32), (some (27, true)), (.p false (.ld (.t 31) 5 true))⟩, ⟨(some 33), (some (27, true)), (.p false (.ld (.t 4) 5 true))⟩, ⟨(some 34), (some (27, true)), (.call false 197 [(.t 32), (.t 33)])⟩, ⟨(some 35), (some (27, true)), (.p false (.bin .geq (.t 34) (.c (.int .i64 0))))⟩, ⟨(some 36), (some (24, false)), (.p false (.pick (.t 27) (.t 35) (.c (.bool false))))⟩, rg 37 (.p false (.pick (.t 24) (.c (.bool true)) (.t 36)))]) (.cond (.t 37) (.seq (.reg [rg 2 (.p true (.mv (.c (.bool false))))]) .ret) .skip)))) (.reg [rg 38 (.p true (.bin .add (.t 16) (.c (.int .i64 1)))), rg 16 (.p true (.mv (.t 38)))]))))))) (.seq (.reg [rg 2 (.p true (.mv (.c (.bool true))))]) .ret))))
theorem c115_is : compFn Try.prog 115 = some (c115, [(.tmp 2)]) := by kernel_rfl
theorem c115_ok : okFn Try.prog 115 = true := by kernel_rfl

noncomputable def F_impl_ValidLessons_l0 (v0 : List TLesson) (k1 : Int → Option (Bool)) : Int → Option (Bool)
 | v1010 => (bif (decide (v1010 < (v0.length : Int))) then ((ix v0 v1010).bind fun v1011 => ((F_impl_Lesson_valid v1011).bind fun v1012 => (bif (!v1012) then some false
 else (bif (decide ((0 : Int) < v1010)) then ((ix v0 (w64 (v1010 - 1))).bind fun v1013 => ((F_impl_compareLessons v1013 v1011).bind fun v1014 => (bif (decide ((0 : Int) ≤ v1014)) then some false
 else k1 (w64 (v1010 + 1)))))
 else k1 (w64 (v1010 + 1))))))
 else some true)
noncomputable def F_impl_ValidLessons (v0 : List TLesson) : Option (Bool) :=
 (bif (decide ((64 : Int) < (v0.length : Int))) then some false
 else ((F_impl_pupilsOf v0).bind fun v1000 => (bif (decide ((12 : Int) < (v1000.length : Int))) then some false
 else loop (F_impl_ValidLessons_l0 v0) 0)))
@[simp] def res_impl_ValidLessons (r : Bool) : RV := .one (.one (.val (.bool r)))
theorem con_impl_ValidLessons {v0 : List TLesson} {r : Bool} (hF : F_impl_ValidLessons v0 = some r) : Con Try.prog 115 [.sl 5 (v0.map eLesson)] (res_impl_ValidLessons r) := by
 unfold F_impl_ValidLessons at hF
 refine con_of c115_is fun N => ?_
 refine ws 0 64 ?_
 refine qp (AB false) rfl ?_
 refine r_nil ?_
 refine w_seq ?_
 refine ws 64 640 ?_
 refine qp (AL 5 (v0.map eLesson)) rfl (qp (AI (v0.length : Int)) (ev_len_n rfl) (qp (AB (decide ((64 : Int) < (v0.length : Int)))) rfl (qp (AB (decide ((64 : Int) < (v0.length : Int)))) rfl ?_)))
 refine q_case 8 hF rfl (fun hF => ?_) (fun hF => ?_)
 ·
  refine qn rfl (qn rfl (qn rfl (qn rfl (qp (AB true) rfl ?_))))
  refine r_nil ?_
  refine w_true rfl ?_
  refine ws 640 704 ?_
  refine qp (AB false) rfl ?_
  refine r_nil ?_
  refine w_ret ?_
  refine thenQ_r ?_
  cases hF
  exact eR
 ·
  refine qg (AL 5 (v0.map eLesson)) rfl rfl ?_
  obtain ⟨v1000, e1000, hF⟩ := bind_get hF
  refine qcg (.sl 384 0 v1000.length) [(384, .row true 1 (v1000.map V.str))] false rfl (con_impl_pupilsOf e1000) c116_ok (by first | rfl | simp) (by simp [res_impl_pupilsOf]) ?_
  refine qg (AI (v1000.length : Int)) rfl rfl (qg (AB (decide ((12 : Int) < (v1000.length : Int)))) rfl rfl (qp (AB (decide ((12 : Int) < (v1000.length : Int)))) rfl ?_))
  refine r_nil ?_
  refine cF hF (fun hF => ?_) fun hF => ?_
  ·
   refine ws 640 704 ?_
   refine qp (AB false) rfl ?_
   refine r_nil ?_
   refine w_ret ?_
   refine thenQ_r ?_
   cases hF
   exact eR
  ·
   refine w_skip ?_
   refine thenQ_n ?_
   refine w_seq ?_
   refine ws 640 832 ?_
   refine qp (AL 5 (v0.map eLesson)) rfl (qp (AI (v0.length : Int)) (ev_len_n rfl) (qp (AI 0) rfl ?_))
   refine r_nil ?_
   refine w_block ?_
   refine wr (l' := [(0, AL 5 (v0.map eLesson)), (14, AL 5 (v0.map eLesson)), (15, AI (v0.length : Int)), (16, AI 0)]) (L := []) [0, 14, 15, 16] [] 1 ?_
   refine w_loopF (F_impl_ValidLessons_l0 v0) (fun s : Int => mkS [(0, AL 5 (v0.map eLesson)), (14, AL 5 (v0.map eLesson)), (15, AI (v0.length : Int)), (16, AI s)] (fo []) 1) hF ?_
   rintro k1 v1010 hF
   rw [F_impl_ValidLessons_l0] at hF
   try dsimp only
   refine ws 1 65 ?_
   refine qp (AB (decide (v1010 < (v0.length : Int)))) rfl ?_
   refine r_nil ?_
   refine w_seq ?_
   refine cF hF (fun hF => ?_) fun hF => ?_
   ·
    refine w_skip ?_
    refine thenQ_n ?_
    refine w_seq ?_
    refine w_block ?_
    refine ws 65 449 ?_
    refine qp (AI v1010) rfl ?_
    obtain ⟨v1011, e1011, hF⟩ := bind_get hF
    refine qp (.val none (.ptr [.int .i64 v1011.1, .str v1011.2.1, .str v1011.2.2.1, .int .i64 v1011.2.2.2.1, .int .i64 v1011.2.2.2.2])) (ev_iad_n rfl rfl e1011 rfl) (qp (.val none (eLesson v1011)) rfl ?_)
    refine qf (.ptr 257 0 0) [(257, .box [AI 0, AS [], AS [], AI 0, AI 0])] (by simp) ?_
    refine qp (AI v1010) rfl ?_
    refine qf0 (.undef) [(257, .box [AI v1011.1, AS v1011.2.1, AS v1011.2.2.1, AI v1011.2.2.2.1, AI v1011.2.2.2.2]), (257, .box [AI 0, AS [], AS [], AI 0, AI 0])] (by simp) ?_
    refine r_nil ?_
    refine ws 449 1537 ?_
    refine qp (.agg [AI v1011.1, AS v1011.2.1, AS v1011.2.2.1, AI v1011.2.2.2.1, AI v1011.2.2.2.2]) rfl ?_
    obtain ⟨v1012, e1012, hF⟩ := bind_get hF
    refine qc (AB v1012) [(257, .box [AI v1011.1, AS v1011.2.1, AS v1011.2.2.1, AI v1011.2.2.2.1, AI v1011.2.2.2.2]), (257, .box [AI 0, AS [], AS [], AI 0, AI 0])] false (con_impl_Lesson_valid e1012) c196_ok (by first | rfl | simp) rfl ?_
    refine qp (AB (!v1012)) rfl (qp (AB (!v1012)) rfl ?_)
    refine q_case 24 hF rfl (fun hF => ?_) (fun hF => ?_)
    ·
     refine qn rfl (qn rfl (qn rfl (qu rfl (qu rfl (qu rfl (qu rfl (qu rfl ?_)))))))
     refine qu rfl (qu rfl (qu rfl (qn rfl (qp (AB true) rfl ?_))))
     refine r_nil ?_
     refine w_true rfl ?_
     refine ws 1537 1601 ?_
     refine qp (AB false) rfl ?_
     refine r_nil ?_
     refine w_ret ?_
     refine blockQ_r ?_
     refine thenQ_r ?_
     refine thenQ_r ?_
     refine blockQ_r ?_
     refine thenQ_r ?_
     cases hF
     exact eR
    ·
     refine qg (AI v1010) rfl rfl (qg (AB (decide ((0 : Int) < v1010))) rfl rfl (qg (AB (decide ((0 : Int) < v1010))) rfl rfl ?_))
     refine q_case 27 hF rfl (fun hF => ?_) (fun hF => ?_)
     ·
      refine qg (AL 5 (v0.map eLesson)) rfl rfl (qg (AI v1010) rfl rfl (qg (AI (w64 (v1010 - 1))) rfl rfl ?_))
      obtain ⟨v1013, e1013, hF⟩ := bind_get hF
      refine qg (.val none (.ptr [.int .i64 v1013.1, .str v1013.2.1, .str v1013.2.2.1, .int .i64 v1013.2.2.2.1, .int .i64 v1013.2.2.2.2])) rfl (ev_iad_n rfl rfl e1013 rfl) (qg (.val none (eLesson v1013)) rfl rfl (qg (.agg [AI v1011.1, AS v1011.2.1, AS v1011.2.2.1, AI v1011.2.2.2.1, AI v1011.2.2.2.2]) rfl rfl ?_))
      obtain ⟨v1014, e1014, hF⟩ := bind_get hF
      refine qcg (AI v1014) [(257, .box [AI v1011.1, AS v1011.2.1, AS v1011.2.2.1, AI v1011.2.2.2.1, AI v1011.2.2.2.2]), (257, .box [AI 0, AS [], AS [], AI 0, AI 0])] false rfl (con_impl_compareLessons e1014) c197_ok (by first | rfl | simp) rfl ?_
      refine qg (AB (decide ((0 : Int) ≤ v1014))) rfl rfl (qg (AB (decide ((0 : Int) ≤ v1014))) rfl rfl (qp (AB (decide ((0 : Int) ≤ v1014))) rfl ?_))
      refine r_nil ?_
      refine cF hF (fun hF => ?_) fun hF => ?_
      ·
       refine ws 1537 1601 ?_
       refine qp (AB false) rfl ?_
       refine r_nil ?_
       refine w_ret ?_
       refine blockQ_r ?_
       refine thenQ_r ?_
       refine thenQ_r ?_
       refine blockQ_r ?_
       refine thenQ_r ?_
       cases hF
       exact eR
      ·
       refine w_skip ?_
       refine blockQ_n ?_
       refine thenQ_n ?_
       refine w_reg 1537 1665 rfl rfl ?_
       refine qp (AI (w64 (v1010 + 1))) rfl (qp (AI (w64 (v1010 + 1))) rfl ?_)
       refine r_nil ?_
       refine thenQ_n ?_
       refine ar (l' := [(0, AL 5 (v0.map eLesson)), (14, AL 5 (v0.map eLesson)), (15, AI (v0.length : Int)), (16, AI (w64 (v1010 + 1)))]) (L := []) [0, 14, 15, 16] [] 1 ⟨_, by rfl, hF⟩
     ·
      refine qn rfl (qn rfl (qn rfl (qn rfl (qn rfl (qn rfl (qn rfl (qn rfl ?_)))))))
      refine qg (AB false) rfl rfl (qp (AB false) rfl ?_)
      refine r_nil ?_
      refine w_false rfl ?_
      refine w_skip ?_
      refine blockQ_n ?_
      refine thenQ_n ?_
      refine w_reg 1537 1665 rfl rfl ?_
      refine qp (AI (w64 (v1010 + 1))) rfl (qp (AI (w64 (v1010 + 1))) rfl ?_)
      refine r_nil ?_
      refine thenQ_n ?_
      refine ar (l' := [(0, AL 5 (v0.map eLesson)), (14, AL 5 (v0.map eLesson)), (15, AI (v0.length : Int)), (16, AI (w64 (v1010 + 1)))]) (L := []) [0, 14, 15, 16] [] 1 ⟨_, by rfl, hF⟩
   ·
    refine w_exit ?_
    refine thenQ_e ?_
    refine thenQ_e ?_
    refine blockQ_e ?_
    refine thenQ_n ?_
    refine ws 65 129 ?_
    refine qp (AB true) rfl ?_
    refine r_nil ?_
    refine w_ret ?_
    cases hF
    exact eR

def c100 : MC := (.seq (.reg [rg 4 (.f (.nilrow 5)), rg 5 (.p true (.mv (.c (.int .i64 0))))]) (.seq (.seq (.reg [rg 9 (.p true (.mv (.t 0))), rg 10 (.call true 115 [(.t 9)]), rg 11 (.p true (.not (.t 10)))]) (.cond (.t 11) (.seq (.reg [rg 4 (.f (.nilrow 5)), rg 5 (.p true (.mv (.c (.int .i64 1))))]) .ret) .skip)) (.seq (.reg [rg 6 (.f (.nilrow 5))]) (.seq (.seq (.reg [rg 12 (.p true (.mv (.t 0))), rg 13 (.p true (.len (.t 12))), rg 14 (.p true (.mv (.c (.int .i64 0))))]) (.block 0 (.loop (.seq (.reg [rg 15 (.p true (.bin .lss (.t 14) (.t 13)))]) (.seq (.cond (.t 15) .skip (.exit 0)) (.seq (.block 1 (.seq (.reg [rg 16 (.p true (.iad (.t 12) (.t 14) 5)), rg 17 (.p true (.ld (.t 16) 5 true)), rg 8 (.f (.alloc [((.int .i64 0), (0, false)), ((.str []), (0, false)), ((.str []), (0, false)), ((.int .i64 0), (0, false)), ((.int .i64 0), (0, false))])), ⟨none, none, (.f (.st (.t 8) (.t 17) 5))⟩]) (.seq (.reg [rg 18 (.p true (.fad (.t 8) 1)), rg 19 (.p true (.ld (.t 18) 1 false)), rg 20 (.p true (.mv (.t 1))), rg 21 (.p true (.bin .eql (.t 19) (.t 20)))]) (.cond (.t 21) (.reg [rg 22 (.p true (.mv (.t 6))), rg 23 (.p true (.ld (.t 8) 5 true)), rg 24 (.f (.bsl 5 [(.t 23)])), rg 25 (.f (.app (.t 22) (.t 24) 5 56 true)), rg 6 (.p true (.mv (.t 25)))]) .skip)))) (.reg [rg 26 (.p true (.bin .add (.t 14) (.c (.int .i64 1)))), rg 14 (.p true (.mv (.t 26)))]))))))) (.seq (.seq (.reg [rg 27 (.p true (.mv (.t 6))), rg 28 (.p true (.len (.t 27))), rg 29 (.p true (.bin .eql (.t 28) (.c (.int .i64 0))))]) (.cond (.t 29) (.seq (.reg [rg 4 (.f (.nilrow 5)), rg 5 (.p true (.mv (.c (.int .i64 3))))]) .ret) .skip)) (.seq (.reg [rg 30 (.p true (.mv (.t 6))), rg 4 (.p true (.mv (.t 30))), rg 5 (.p true (.mv (.c (.int .i64 0))))]) .ret))))))
theorem c100_is : compFn Try.prog 100 = some (c100, [(.tmp 4), (.tmp 5)]) := by kernel_rfl
theorem c100_ok : okFn Try.prog 100 = true := by kernel_rfl

noncomputable def F_impl_lessonsOf_l0 (v0 : List TLesson) (v1 : List UInt8) (k1 : Int × (List TLesson) → Option ((List TLesson) × Int)) : Int × (List TLesson) → Option ((List TLesson) × Int)
 | (v1007, v1008) => (bif (decide (v1007 < (v0.length : Int))) then ((ix v0 v1007).bind fun v1009 => (bif (decide (v1009.2.1 = v1)) then (need (room (v1008.length + [v1009].length) 56) (k1 (w64 (v1007 + 1), v1008 ++ [v1009])))
 else k1 (w64 (v1007 + 1), v1008)))
 else (bif (decide ((v1008.length : Int) = (0 : Int))) then some ([], 3)
 else some (v1008, 0)))
noncomputable def F_impl_lessonsOf (v0 : List TLesson) (v1 : List UInt8) : Option ((List TLesson) × Int) :=
 ((F_impl_ValidLessons v0).bind fun v1000 => (bif (!v1000) then some ([], 1)
 else loop (F_impl_lessonsOf_l0 v0 v1) (0, [])))
@[simp] def res_impl_lessonsOf (r : (List TLesson) × Int) : RV := .tup [.one (.row true 5 (r.1.map eLesson)), .one (.val (.int .i64 r.2))]
theorem con_impl_lessonsOf {v0 : List TLesson} {v1 : List UInt8} {r : (List TLesson) × Int} (hF : F_impl_lessonsOf v0 v1 = some r) : Con Try.prog 100 [.sl 5 (v0.map eLesson), .str v1] (res_impl_lessonsOf r) := by
 unfold F_impl_lessonsOf at hF
 refine con_of c100_is fun N => ?_
 refine ws 0 128 ?_
 refine qf (.sl 0 0 0) [(0, .row true 5 (([] : List Int).map (V.int .i64)))] (by simp) ?_
 refine qp (AI 0) rfl ?_
 refine r_nil ?_
 refine w_seq ?_
 refine ws 128 320 ?_
 refine qp (AL 5 (v0.map eLesson)) rfl ?_
 obtain ⟨v1000, e1000, hF⟩ := bind_get hF
 refine qc (AB v1000) [(0, .row true 5 (([] : List Int).map (V.int .i64)))] false (con_impl_ValidLessons e1000) c115_ok (by first | rfl | simp) rfl ?_
 refine qp (AB (!v1000)) rfl ?_
 refine r_nil ?_
 refine cF hF (fun hF => ?_) fun hF => ?_
 ·
  refine ws 320 448 ?_
  refine qf (.sl 320 0 0) [(320, .row true 5 (([] : List TLesson).map eLesson)), (0, .row true 5 (([] : List Int).map (V.int .i64)))] (by simp) ?_
  refine qp (AI 1) rfl ?_
  refine r_nil ?_
  refine w_ret ?_
  refine thenQ_r ?_
  cases hF
  exact eR
 ·
  refine w_skip ?_
  refine thenQ_n ?_
  refine ws 320 384 ?_
  refine qf (.sl 320 0 0) [(320, .row true 5 (([] : List TLesson).map eLesson)), (0, .row true 5 (([] : List Int).map (V.int .i64)))] (by simp) ?_
  refine r_nil ?_
  refine w_seq ?_
  refine ws 384 576 ?_
  refine qp (AL 5 (v0.map eLesson)) rfl (qp (AI (v0.length : Int)) (ev_len_n rfl) (qp (AI 0) rfl ?_))
  refine r_nil ?_
  refine w_block ?_
  refine wr (l' := [(1, AS v1), (6, .sl 0 0 0), (12, AL 5 (v0.map eLesson)), (13, AI (v0.length : Int)), (14, AI 0)]) (L := [(0, .row true 5 (([] : List TLesson).map eLesson))]) [1, 6, 12, 13, 14] [(320, 0)] 1 ?_
  refine w_loopF (F_impl_lessonsOf_l0 v0 v1) (fun s : Int × (List TLesson) => mkS [(1, AS v1), (6, .sl 0 0 s.2.length), (12, AL 5 (v0.map eLesson)), (13, AI (v0.length : Int)), (14, AI s.1)] (fo [(0, .row true 5 (s.2.map eLesson))]) 1) hF ?_
  rintro k1 ⟨v1007, v1008⟩ hF
  rw [F_impl_lessonsOf_l0] at hF
  try dsimp only
  refine ws 1 65 ?_
  refine qp (AB (decide (v1007 < (v0.length : Int)))) rfl ?_
  refine r_nil ?_
  refine w_seq ?_
  refine cF hF (fun hF => ?_) fun hF => ?_
  ·
   refine w_skip ?_
   refine thenQ_n ?_
   refine w_seq ?_
   refine w_block ?_
   refine ws 65 321 ?_
   obtain ⟨v1009, e1009, hF⟩ := bind_get hF
   refine qp (.val none (.ptr [.int .i64 v1009.1, .str v1009.2.1, .str v1009.2.2.1, .int .i64 v1009.2.2.2.1, .int .i64 v1009.2.2.2.2])) (ev_iad_n rfl rfl e1009 rfl) (qp (.val none (eLesson v1009)) rfl ?_)
   refine qf (.ptr 193 0 0) [(193, .box [AI 0, AS [], AS [], AI 0, AI 0]), (0, .row true 5 (v1008.map eLesson))] (by simp) ?_
   refine qf0 (.undef) [(193, .box [AI v1009.1, AS v1009.2.1, AS v1009.2.2.1, AI v1009.2.2.2.1, AI v1009.2.2.2.2]), (193, .box [AI 0, AS [], AS [], AI 0, AI 0]), (0, .row true 5 (v1008.map eLesson))] (by simp) ?_
   refine r_nil ?_
   refine ws 321 577 ?_
   refine qp (.ptr 193 0 1) rfl (qp (AS v1009.2.1) rfl (qp (AS v1) rfl (qp (AB (decide (v1009.2.1 = v1))) rfl ?_)))
   refine r_nil ?_
   refine cF hF (fun hF => ?_) fun hF => ?_
   ·
    refine w_reg 577 897 rfl rfl ?_
    refine qp (.sl 0 0 v1008.length) rfl (qp (.agg [AI v1009.1, AS v1009.2.1, AS v1009.2.2.1, AI v1009.2.2.2.1, AI v1009.2.2.2.2]) rfl ?_)
    refine qf (.sl 705 0 ([v1009].length)) [(705, .row true 5 ([v1009].map eLesson)), (193, .box [AI v1009.1, AS v1009.2.1, AS v1009.2.2.1, AI v1009.2.2.2.1, AI v1009.2.2.2.2]), (193, .box [AI 0, AS [], AS [], AI 0, AI 0]), (0, .row true 5 (v1008.map eLesson))] (by simp [List.take_of_length_le]) ?_
    obtain ⟨g1010, hF⟩ := need_some hF
    refine qf (.sl 769 0 ((v1008 ++ [v1009]).length)) [(769, .row true 5 ((v1008 ++ [v1009]).map eLesson)), (0, .dead), (705, .dead), (705, .row true 5 ([v1009].map eLesson)), (193, .box [AI v1009.1, AS v1009.2.1, AS v1009.2.2.1, AI v1009.2.2.2.1, AI v1009.2.2.2.2]), (193, .box [AI 0, AS [], AS [], AI 0, AI 0]), (0, .row true 5 (v1008.map eLesson))] (effT_app_l rfl (by simp) rfl rfl (by simp) rfl (by decide) g1010 rfl) ?_
    refine qp (.sl 769 0 ((v1008 ++ [v1009]).length)) rfl ?_
    refine r_nil ?_
    refine blockQ_n ?_
    refine thenQ_n ?_
    refine w_reg 897 1025 rfl rfl ?_
    refine qp (AI (w64 (v1007 + 1))) rfl (qp (AI (w64 (v1007 + 1))) rfl ?_)
    refine r_nil ?_
    refine thenQ_n ?_
    refine ar (l' := [(1, AS v1), (6, .sl 0 0 (v1008 ++ [v1009]).length), (12, AL 5 (v0.map eLesson)), (13, AI (v0.length : Int)), (14, AI (w64 (v1007 + 1)))]) (L := [(0, .row true 5 ((v1008 ++ [v1009]).map eLesson))]) [1, 6, 12, 13, 14] [(769, 0)] 1 ⟨_, by rfl, hF⟩
   ·
    refine w_skip ?_
    refine blockQ_n ?_
    refine thenQ_n ?_
    refine w_reg 577 705 rfl rfl ?_
    refine qp (AI (w64 (v1007 + 1))) rfl (qp (AI (w64 (v1007 + 1))) rfl ?_)
    refine r_nil ?_
    refine thenQ_n ?_
    refine ar (l' := [(1, AS v1), (6, .sl 0 0 v1008.length), (12, AL 5 (v0.map eLesson)), (13, AI (v0.length : Int)), (14, AI (w64 (v1007 + 1)))]) (L := [(0, .row true 5 (v1008.map eLesson))]) [1, 6, 12, 13, 14] [(0, 0)] 1 ⟨_, by rfl, hF⟩
  ·
   refine w_exit ?_
   refine thenQ_e ?_
   refine thenQ_e ?_
   refine blockQ_e ?_
   refine thenQ_n ?_
   refine w_seq ?_
   refine ws 65 257 ?_
   refine qp (.sl 0 0 v1008.length) rfl (qp (AI (v1008.length : Int)) rfl (qp (AB (decide ((v1008.length : Int) = (0 : Int)))) rfl ?_))
   refine r_nil ?_
   refine cF hF (fun hF => ?_) fun hF => ?_
   ·
    refine ws 257 385 ?_
    refine qf (.sl 257 0 0) [(257, .row true 5 (([] : List TLesson).map eLesson)), (0, .row true 5 (v1008.map eLesson))] (by simp) ?_
    refine qp (AI 3) rfl ?_
    refine r_nil ?_
    refine w_ret ?_
    refine thenQ_r ?_
    cases hF
    exact eR
   ·
    refine w_skip ?_
    refine thenQ_n ?_
    refine ws 257 449 ?_
    refine qp (.sl 0 0 v1008.length) rfl (qp (.sl 0 0 v1008.length) rfl (qp (AI 0) rfl ?_))
    refine r_nil ?_
    refine w_ret ?_
    cases hF
    exact eR

def c102 : MC := (.seq (.reg [rg 2 (.p true (.mv (.c (.bool false))))]) (.seq (.reg [rg 3 (.p false (.mv (.t 0))), rg 4 (.p false (.len (.t 3))), rg 5 (.p false (.bin .neq (.t 4) (.c (.int .i64 2)))), rg 6 (.p false (.mv (.t 5))), ⟨(some 7), (some (6, false)), (.p false (.mv (.t 0)))⟩, ⟨(some 8), (some (6, false)), (.p false (.iad (.t 7) (.c (.int .i64 0)) 1))⟩, ⟨(some 9), (some (6, false)), (.p false (.ld (.t 8) 1 false))⟩, ⟨(some 10), (some (6, false)), (.call false 189 [(.t 9)])⟩, ⟨(some 11), (some (6, false)), (.p false (.not (.t 10)))⟩, rg 12 (.p false (.pick (.t 6) (.c (.bool true)) (.t 11))), rg 13 (.p false (.mv (.t 12))), ⟨(some 14), (some (13, false)), (.p false (.mv (.t 0)))⟩, ⟨(some 15), (some (13, false)), (.p false (.iad (.t 14) (.c (.int .i64 1)) 1))⟩, ⟨(some 16), (some (13, false)), (.p false (.ld (.t 15) 1 false))⟩, ⟨(some 17), (some (13, false)), (.call false 189 [(.t 16)])⟩, ⟨(some 18), (some (13, false)), (.p false (.not (.t 17)))⟩, rg 19 (.p false (.pick (.t 13) (.c (.bool true)) (.t 18))), rg 20 (.p false (.mv (.t 19))), ⟨(some 21), (some (20, false)), (.p false (.mv (.t 0)))⟩, ⟨(some 22), (some (20, false)), (.p false (.iad (.t 21) (.c (.int .i64 0)) 1))⟩, ⟨(some 23), (some (20, false)), (.p false (.ld (.t 22) 1 false))⟩, ⟨(some 24), (some (20, false)), (.p false (.mv (.t 0)))⟩, ⟨(some 25), (some (20, false)), (.p false (.iad (.t 24) (.c (.int .i64 1)) 1))⟩, ⟨(some 26), (some (20, false)), (.p false (.ld (.t 25) 1 false))⟩, ⟨(some 27), (some (20, false)), (.p false (.bin .eql (.t 23) (.t 26)))⟩, rg 28 (.p false (.pick (.t 20) (.c (.bool true)) (.t 27))), rg 2 (.p false (.mv (.t 28)))]) .ret))
theorem c102_is : compFn Try.prog 102 = some (c102, [(.tmp 2)]) := by kernel_rfl
theorem c102_ok : okFn Try.prog 102 = true := by kernel_rfl

noncomputable def F_impl_wrongPair (v0 : List (List UInt8)) : Option (Bool) :=
 (bif (decide ((v0.length : Int) ≠ (2 : Int))) then some true
 else ((ix v0 0).bind fun v1000 => ((F_impl_IsName v1000).bind fun v1001 => (bif (!v1001) then some true
 else ((ix v0 1).bind fun v1002 => ((F_impl_IsName v1002).bind fun v1003 => (bif (!v1003) then some true
 else ((ix v0 0).bind fun v1004 => ((ix v0 1).bind fun v1005 => some (decide (v1004 = v1005)))))))))))
@[simp] def res_impl_wrongPair (r : Bool) : RV := .one (.one (.val (.bool r)))
theorem con_impl_wrongPair {v0 : List (List UInt8)} {r : Bool} (hF : F_impl_wrongPair v0 = some r) : Con Try.prog 102 [.sl 1 (v0.map V.str)] (res_impl_wrongPair r) := by
 unfold F_impl_wrongPair at hF
 refine con_of c102_is fun N => ?_
 refine ws 0 64 ?_
 refine qp (AB false) rfl ?_
 refine r_nil ?_
 refine ws 64 1792 ?_
 refine qp (AL 1 (v0.map V.str)) rfl (qp (AI (v0.length : Int)) (ev_len_n rfl) (qp (AB (decide ((v0.length : Int) ≠ (2 : Int)))) rfl (qp (AB (decide ((v0.length : Int) ≠ (2 : Int)))) rfl ?_)))
 refine q_case 6 hF rfl (fun hF => ?_) (fun hF => ?_)
 ·
  refine qn rfl (qn rfl (qn rfl (qn rfl (qn rfl (qp (AB true) rfl (qp (AB true) rfl (qn rfl ?_)))))))
  refine qn rfl (qn rfl (qn rfl (qn rfl (qp (AB true) rfl (qp (AB true) rfl (qn rfl (qn rfl ?_)))))))
  refine qn rfl (qn rfl (qn rfl (qn rfl (qn rfl (qp (AB true) rfl (qp (AB true) rfl ?_))))))
  refine r_nil ?_
  refine w_ret ?_
  cases hF
  exact eR
 ·
  refine qg (AL 1 (v0.map V.str)) rfl rfl ?_
  obtain ⟨v1000, e1000, hF⟩ := bind_get hF
  refine qg (.val none (.ptr [.str v1000])) rfl (ev_iad_n rfl rfl e1000 rfl) (qg (AS v1000) rfl rfl ?_)
  obtain ⟨v1001, e1001, hF⟩ := bind_get hF
  refine qcg (AB v1001) [] false rfl (con_impl_IsName e1001) c189_ok (by first | rfl | simp) rfl ?_
  refine qg (AB (!v1001)) rfl rfl (qp (AB (!v1001)) rfl (qp (AB (!v1001)) rfl ?_))
  refine q_case 13 hF rfl (fun hF => ?_) (fun hF => ?_)
  ·
   refine qn rfl (qn rfl (qn rfl (qn rfl (qn rfl (qp (AB true) rfl (qp (AB true) rfl (qn rfl ?_)))))))
   refine qn rfl (qn rfl (qn rfl (qn rfl (qn rfl (qn rfl (qp (AB true) rfl (qp (AB true) rfl ?_)))))))
   refine r_nil ?_
   refine w_ret ?_
   cases hF
   exact eR
  ·
   refine qg (AL 1 (v0.map V.str)) rfl rfl ?_
   obtain ⟨v1002, e1002, hF⟩ := bind_get hF
   refine qg (.val none (.ptr [.str v1002])) rfl (ev_iad_n rfl rfl e1002 rfl) (qg (AS v1002) rfl rfl ?_)
   obtain ⟨v1003, e1003, hF⟩ := bind_get hF
   refine qcg (AB v1003) [] false rfl (con_impl_IsName e1003) c189_ok (by first | rfl | simp) rfl ?_
   refine qg (AB (!v1003)) rfl rfl (qp (AB (!v1003)) rfl (qp (AB (!v1003)) rfl ?_))
   refine q_case 20 hF rfl (fun hF => ?_) (fun hF => ?_)
   ·
    refine qn rfl (qn rfl (qn rfl (qn rfl (qn rfl (qn rfl (qn rfl (qp (AB true) rfl ?_)))))))
    refine qp (AB true) rfl ?_
    refine r_nil ?_
    refine w_ret ?_
    cases hF
    exact eR
   ·
    refine qg (AL 1 (v0.map V.str)) rfl rfl ?_
    obtain ⟨v1004, e1004, hF⟩ := bind_get hF
    refine qg (.val none (.ptr [.str v1004])) rfl (ev_iad_n rfl rfl e1004 rfl) (qg (AS v1004) rfl rfl (qg (AL 1 (v0.map V.str)) rfl rfl ?_))
    obtain ⟨v1005, e1005, hF⟩ := bind_get hF
    refine qg (.val none (.ptr [.str v1005])) rfl (ev_iad_n rfl rfl e1005 rfl) (qg (AS v1005) rfl rfl (qg (AB (decide (v1004 = v1005))) rfl rfl (qp (AB (decide (v1004 = v1005))) rfl (qp (AB (decide (v1004 = v1005))) rfl ?_))))
    refine r_nil ?_
    refine w_ret ?_
    cases hF
    exact eR

def c188 : MC := (.seq (.reg [rg 4 (.p true (.mv (.c (.int .i64 0))))]) (.seq (.seq (.reg [rg 6 (.p true (.mv (.t 0))), rg 7 (.p true (.len (.t 6))), rg 8 (.p true (.mv (.c (.int .i64 0))))]) (.block 0 (.loop (.seq (.reg [rg 9 (.p true (.bin .lss (.t 8) (.t 7)))]) (.seq (.cond (.t 9) .skip (.exit 0)) (.seq (.block 1 (.seq (.reg [rg 10 (.p true (.mv (.t 8))), rg 5 (.p true (.mv (.t 10)))]) (.seq (.reg [rg 11 (.p true (.mv (.t 1))), rg 12 (.p true (.mv (.t 0))), rg 13 (.p true (.mv (.t 5))), rg 14 (.p true (.iad (.t 12) (.t 13) 1)), rg 15 (.p true (.ld (.t 14) 1 false)), rg 16 (.callv (.t 11) [(.t 15)])]) (.cond (.t 16) (.seq (.reg [rg 17 (.p true (.mv (.t 5))), rg 4 (.p true (.mv (.t 17)))]) .ret) .skip)))) (.reg [rg 18 (.p true (.bin .add (.t 8) (.c (.int .i64 1)))), rg 8 (.p true (.mv (.t 18)))]))))))) (.seq (.reg [rg 4 (.p true (.mv (.c (.int .i64 (-1)))))]) .ret)))
theorem c188_is : compFn Try.prog 188 = some (c188, [(.tmp 4)]) := by kernel_rfl
theorem c188_ok : okFn Try.prog 188 = true := by kernel_rfl

noncomputable def F_slices_IndexFunc_SSstring_Sstring_l0 (v0 : List (List (List UInt8))) (k0 : Int → Option (Int)) : Int → Option (Int)
 | v6 => (bif (decide (v6 < (v0.length : Int))) then ((ix v0 v6).bind fun v1000 => ((F_impl_wrongPair v1000).bind fun v1001 => (bif v1001 then some v6
 else k0 (w64 (v6 + 1)))))
 else some (-1))
noncomputable def F_slices_IndexFunc_SSstring_Sstring (v0 : List (List (List UInt8))) : Option (Int) :=
 loop (F_slices_IndexFunc_SSstring_Sstring_l0 v0) 0
@[simp] def res_slices_IndexFunc_SSstring_Sstring (r : Int) : RV := .one (.one (.val (.int .i64 r)))
theorem con_slices_IndexFunc_SSstring_Sstring {v0 : List (List (List UInt8))} {r : Int} (hF : F_slices_IndexFunc_SSstring_Sstring v0 = some r) : Con Try.prog 188 [.sl 1 (v0.map (eL 1 V.str)), .fn 102 []] (res_slices_IndexFunc_SSstring_Sstring r) := by
 unfold F_slices_IndexFunc_SSstring_Sstring at hF
 refine con_of c188_is fun N => ?_
 refine ws 0 64 ?_
 refine qp (AI 0) rfl ?_
 refine r_nil ?_
 refine w_seq ?_
 refine ws 64 256 ?_
 refine qp (AL 1 (v0.map (eL 1 V.str))) rfl (qp (AI (v0.length : Int)) (ev_len_n rfl) (qp (AI 0) rfl ?_))
 refine r_nil ?_
 refine w_block ?_
 refine wr (l' := [(0, AL 1 (v0.map (eL 1 V.str))), (1, .val none (.fn 102 [])), (7, AI (v0.length : Int)), (8, AI 0)]) (L := []) [0, 1, 7, 8] [] 1 ?_
 refine w_loopF (F_slices_IndexFunc_SSstring_Sstring_l0 v0) (fun s : Int => mkS [(0, AL 1 (v0.map (eL 1 V.str))), (1, .val none (.fn 102 [])), (7, AI (v0.length : Int)), (8, AI s)] (fo []) 1) hF ?_
 rintro k0 v6 hF
 rw [F_slices_IndexFunc_SSstring_Sstring_l0] at hF
 try dsimp only
 refine ws 1 65 ?_
 refine qp (AB (decide (v6 < (v0.length : Int)))) rfl ?_
 refine r_nil ?_
 refine w_seq ?_
 refine cF hF (fun hF => ?_) fun hF => ?_
 ·
  refine w_skip ?_
  refine thenQ_n ?_
  refine w_seq ?_
  refine w_block ?_
  refine ws 65 193 ?_
  refine qp (AI v6) rfl (qp (AI v6) rfl ?_)
  refine r_nil ?_
  refine ws 193 577 ?_
  refine qp (.val none (.fn 102 [])) rfl (qp (AL 1 (v0.map (eL 1 V.str))) rfl (qp (AI v6) rfl ?_))
  obtain ⟨v1000, e1000, hF⟩ := bind_get hF
  refine qp (.val none (.ptr [.sl 1 (v1000.map V.str)])) (ev_iad_n rfl rfl e1000 rfl) (qp (AL 1 (v1000.map V.str)) rfl ?_)
  obtain ⟨v1001, e1001, hF⟩ := bind_get hF
  refine qcv (AB v1001) [] false rfl (con_impl_wrongPair e1001) c102_ok (by first | rfl | simp) rfl ?_
  refine r_nil ?_
  refine cF hF (fun hF => ?_) fun hF => ?_
  ·
   refine ws 577 705 ?_
   refine qp (AI v6) rfl (qp (AI v6) rfl ?_)
   refine r_nil ?_
   refine w_ret ?_
   refine blockQ_r ?_
   refine thenQ_r ?_
   refine thenQ_r ?_
   refine blockQ_r ?_
   refine thenQ_r ?_
   cases hF
   exact eR
  ·
   refine w_skip ?_
   refine blockQ_n ?_
   refine thenQ_n ?_
   refine w_reg 577 705 rfl rfl ?_
   refine qp (AI (w64 (v6 + 1))) rfl (qp (AI (w64 (v6 + 1))) rfl ?_)
   refine r_nil ?_
   refine thenQ_n ?_
   refine ar (l' := [(0, AL 1 (v0.map (eL 1 V.str))), (1, .val none (.fn 102 [])), (7, AI (v0.length : Int)), (8, AI (w64 (v6 + 1)))]) (L := []) [0, 1, 7, 8] [] 1 ⟨_, by rfl, hF⟩
 ·
  refine w_exit ?_
  refine thenQ_e ?_
  refine thenQ_e ?_
  refine blockQ_e ?_
  refine thenQ_n ?_
  refine ws 65 129 ?_
  refine qp (AI (-1)) rfl ?_
  refine r_nil ?_
  refine w_ret ?_
  cases hF
  exact eR

def c101 : MC := (.seq (.reg [rg 4 (.p true (.mv (.c (.bool false))))]) (.seq (.reg [rg 5 (.p true (.mv (.t 0))), rg 6 (.p true (.mv (.t 1))), rg 7 (.call true 188 [(.t 5), (.t 6)]), rg 8 (.p true (.bin .geq (.t 7) (.c (.int .i64 0)))), rg 4 (.p true (.mv (.t 8)))]) .ret))
theorem c101_is : compFn Try.prog 101 = some (c101, [(.tmp 4)]) := by kernel_rfl
theorem c101_ok : okFn Try.prog 101 = true := by kernel_rfl

noncomputable def F_slices_ContainsFunc_SSstring_Sstring (v0 : List (List (List UInt8))) : Option (Bool) :=
 ((F_slices_IndexFunc_SSstring_Sstring v0).bind fun v1000 => some (decide ((0 : Int) ≤ v1000)))
@[simp] def res_slices_ContainsFunc_SSstring_Sstring (r : Bool) : RV := .one (.one (.val (.bool r)))
theorem con_slices_ContainsFunc_SSstring_Sstring {v0 : List (List (List UInt8))} {r : Bool} (hF : F_slices_ContainsFunc_SSstring_Sstring v0 = some r) : Con Try.prog 101 [.sl 1 (v0.map (eL 1 V.str)), .fn 102 []] (res_slices_ContainsFunc_SSstring_Sstring r) := by
 unfold F_slices_ContainsFunc_SSstring_Sstring at hF
 refine con_of c101_is fun N => ?_
 refine ws 0 64 ?_
 refine qp (AB false) rfl ?_
 refine r_nil ?_
 refine ws 64 384 ?_
 refine qp (AL 1 (v0.map (eL 1 V.str))) rfl (qp (.val none (.fn 102 [])) rfl ?_)
 obtain ⟨v1000, e1000, hF⟩ := bind_get hF
 refine qc (AI v1000) [] false (con_slices_IndexFunc_SSstring_Sstring e1000) c188_ok (by first | rfl | simp) rfl ?_
 refine qp (AB (decide ((0 : Int) ≤ v1000))) rfl (qp (AB (decide ((0 : Int) ≤ v1000))) rfl ?_)
 refine r_nil ?_
 refine w_ret ?_
 cases hF
 exact eR

def c105 : MC := (.seq (.reg [rg 4 (.p true (.mv (.c (.int .i64 0))))]) (.seq (.reg [rg 5 (.p true (.mv (.c (.int .i64 (-1)))))]) (.seq (.seq (.reg [rg 8 (.p true (.mv (.t 0))), rg 9 (.p true (.len (.t 8))), rg 10 (.p true (.mv (.c (.int .i64 0))))]) (.block 0 (.loop (.seq (.reg [rg 11 (.p true (.bin .lss (.t 10) (.t 9)))]) (.seq (.cond (.t 11) .skip (.exit 0)) (.seq (.block 1 (.seq (.reg [rg 12 (.p true (.iad (.t 8) (.t 10) 5)), rg 13 (.p true (.ld (.t 12) 5 true)), rg 7 (.f (.alloc [((.int .i64 0), (0, false)), ((.str []), (0, false)), ((.str []), (0, false)), ((.int .i64 0), (0, false)), ((.int .i64 0), (0, false))])), ⟨none, none, (.f (.st (.t 7) (.t 13) 5))⟩]) (.seq (.reg [rg 14 (.p true (.fad (.t 7) 2)), rg 15 (.p true (.ld (.t 14) 1 false)), rg 16 (.p true (.mv (.t 1))), rg 17 (.p true (.bin .eql (.t 15) (.t 16)))]) (.cond (.t 17) (.reg [rg 18 (.p true (.mv (.t 5))), rg 19 (.p true (.fad (.t 7) 4)), rg 20 (.p true (.ld (.t 19) 1 false)), rg 21 (.p true (.mnx true (.t 18) (.t 20))), rg 5 (.p true (.mv (.t 21)))]) .skip)))) (.reg [rg 22 (.p true (.bin .add (.t 10) (.c (.int .i64 1)))), rg 10 (.p true (.mv (.t 22)))]))))))) (.seq (.reg [rg 23 (.p true (.mv (.t 5))), rg 4 (.p true (.mv (.t 23)))]) .ret))))
theorem c105_is : compFn Try.prog 105 = some (c105, [(.tmp 4)]) := by kernel_rfl
theorem c105_ok : okFn Try.prog 105 = true := by kernel_rfl

noncomputable def F_impl_bestMark_l0 (v0 : List TLesson) (v1 : List UInt8) (k0 : Int × Int → Option (Int)) : Int × Int → Option (Int)
 | (v6, v7) => (bif (decide (v7 < (v0.length : Int))) then ((ix v0 v7).bind fun v1000 => (bif (decide (v1000.2.2.1 = v1)) then k0 ((if v1000.2.2.2.2 > v6 then v1000.2.2.2.2 else v6), w64 (v7 + 1))
 else k0 (v6, w64 (v7 + 1))))
 else some v6)
noncomputable def F_impl_bestMark (v0 : List TLesson) (v1 : List UInt8) : Option (Int) :=
 loop (F_impl_bestMark_l0 v0 v1) ((-1), 0)
@[simp] def res_impl_bestMark (r : Int) : RV := .one (.one (.val (.int .i64 r)))
theorem con_impl_bestMark {v0 : List TLesson} {v1 : List UInt8} {r : Int} (hF : F_impl_bestMark v0 v1 = some r) : Con Try.prog 105 [.sl 5 (v0.map eLesson), .str v1] (res_impl_bestMark r) := by
 unfold F_impl_bestMark at hF
 refine con_of c105_is fun N => ?_
 refine ws 0 64 ?_
 refine qp (AI 0) rfl ?_
 refine r_nil ?_
 refine ws 64 128 ?_
 refine qp (AI (-1)) rfl ?_
 refine r_nil ?_
 refine w_seq ?_
 refine ws 128 320 ?_
 refine qp (AL 5 (v0.map eLesson)) rfl (qp (AI (v0.length : Int)) (ev_len_n rfl) (qp (AI 0) rfl ?_))
 refine r_nil ?_
 refine w_block ?_
 refine wr (l' := [(1, AS v1), (5, AI (-1)), (8, AL 5 (v0.map eLesson)), (9, AI (v0.length : Int)), (10, AI 0)]) (L := []) [1, 5, 8, 9, 10] [] 1 ?_
 refine w_loopF (F_impl_bestMark_l0 v0 v1) (fun s : Int × Int => mkS [(1, AS v1), (5, AI s.1), (8, AL 5 (v0.map eLesson)), (9, AI (v0.length : Int)), (10, AI s.2)] (fo []) 1) hF ?_
 rintro k0 ⟨v6, v7⟩ hF
 rw [F_impl_bestMark_l0] at hF
 try dsimp only
 refine ws 1 65 ?_
 refine qp (AB (decide (v7 < (v0.length : Int)))) rfl ?_
 refine r_nil ?_
 refine w_seq ?_
 refine cF hF (fun hF => ?_) fun hF => ?_
 ·
  refine w_skip ?_
  refine thenQ_n ?_
  refine w_seq ?_
  refine w_block ?_
  refine ws 65 321 ?_
  obtain ⟨v1000, e1000, hF⟩ := bind_get hF
  refine qp (.val none (.ptr [.int .i64 v1000.1, .str v1000.2.1, .str v1000.2.2.1, .int .i64 v1000.2.2.2.1, .int .i64 v1000.2.2.2.2])) (ev_iad_n rfl rfl e1000 rfl) (qp (.val none (eLesson v1000)) rfl ?_)
  refine qf (.ptr 193 0 0) [(193, .box [AI 0, AS [], AS [], AI 0, AI 0])] (by simp) ?_
  refine qf0 (.undef) [(193, .box [AI v1000.1, AS v1000.2.1, AS v1000.2.2.1, AI v1000.2.2.2.1, AI v1000.2.2.2.2]), (193, .box [AI 0, AS [], AS [], AI 0, AI 0])] (by simp) ?_
  refine r_nil ?_
  refine ws 321 577 ?_
  refine qp (.ptr 193 0 2) rfl (qp (AS v1000.2.2.1) rfl (qp (AS v1) rfl (qp (AB (decide (v1000.2.2.1 = v1))) rfl ?_)))
  refine r_nil ?_
  refine cF hF (fun hF => ?_) fun hF => ?_
  ·
   refine w_reg 577 897 rfl rfl ?_
   refine qp (AI v6) rfl (qp (.ptr 193 0 4) rfl (qp (AI v1000.2.2.2.2) rfl (qp (AI (if v1000.2.2.2.2 > v6 then v1000.2.2.2.2 else v6)) rfl (qp (AI (if v1000.2.2.2.2 > v6 then v1000.2.2.2.2 else v6)) rfl ?_))))
   refine r_nil ?_
   refine blockQ_n ?_
   refine thenQ_n ?_
   refine w_reg 897 1025 rfl rfl ?_
   refine qp (AI (w64 (v7 + 1))) rfl (qp (AI (w64 (v7 + 1))) rfl ?_)
   refine r_nil ?_
   refine thenQ_n ?_
   refine ar (l' := [(1, AS v1), (5, AI (if v1000.2.2.2.2 > v6 then v1000.2.2.2.2 else v6)), (8, AL 5 (v0.map eLesson)), (9, AI (v0.length : Int)), (10, AI (w64 (v7 + 1)))]) (L := []) [1, 5, 8, 9, 10] [] 1 ⟨_, by rfl, hF⟩
  ·
   refine w_skip ?_
   refine blockQ_n ?_
   refine thenQ_n ?_
   refine w_reg 577 705 rfl rfl ?_
   refine qp (AI (w64 (v7 + 1))) rfl (qp (AI (w64 (v7 + 1))) rfl ?_)
   refine r_nil ?_
   refine thenQ_n ?_
   refine ar (l' := [(1, AS v1), (5, AI v6), (8, AL 5 (v0.map eLesson)), (9, AI (v0.length : Int)), (10, AI (w64 (v7 + 1)))]) (L := []) [1, 5, 8, 9, 10] [] 1 ⟨_, by rfl, hF⟩
 ·
  refine w_exit ?_
  refine thenQ_e ?_
  refine thenQ_e ?_
  refine blockQ_e ?_
  refine thenQ_n ?_
  refine ws 65 193 ?_
  refine qp (AI v6) rfl (qp (AI v6) rfl ?_)
  refine r_nil ?_
  refine w_ret ?_
  cases hF
  exact eR

def c104 : MC := (.seq (.reg [rg 5 (.p true (.mv (.c (.bool false))))]) (.seq (.reg [rg 6 (.p false (.mv (.t 0))), rg 7 (.p false (.iad (.t 6) (.c (.int .i64 0)) 1)), rg 8 (.p false (.ld (.t 7) 1 false)), rg 9 (.p false (.ld (.t 1) 1 false)), rg 10 (.p false (.iad (.t 9) (.c (.int .i64 0)) 1)), rg 11 (.p false (.ld (.t 10) 1 false)), rg 12 (.p false (.bin .eql (.t 8) (.t 11))), rg 13 (.p false (.mv (.t 12))), ⟨(some 14), (some (13, true)), (.p false (.ld (.t 2) 1 false))⟩, ⟨(some 15), (some (13, true)), (.p false (.mv (.t 0)))⟩, ⟨(some 16), (some (13, true)), (.p false (.iad (.t 15) (.c (.int .i64 1)) 1))⟩, ⟨(some 17), (some (13, true)), (.p false (.ld (.t 16) 1 false))⟩, ⟨(some 18), (some (13, true)), (.call false 105 [(.t 14), (.t 17)])⟩, ⟨(some 19), (some (13, true)), (.p false (.ld (.t 3) 1 false))⟩, ⟨(some 20), (some (13, true)), (.p false (.bin .lss (.t 18) (.t 19)))⟩, rg 21 (.p false (.pick (.t 13) (.t 20) (.c (.bool false)))), rg 5 (.p false (.mv (.t 21)))]) .ret))
theorem c104_is : compFn Try.prog 104 = some (c104, [(.tmp 5)]) := by kernel_rfl
theorem c104_ok : okFn Try.prog 104 = true := by kernel_rfl

noncomputable def F_impl_ReadyTopics_1 (v0 : List (List UInt8)) (v1 : List (List UInt8)) (v2 : List TLesson) (v3 : Int) : Option (Bool) :=
 ((ix v0 0).bind fun v1000 => ((ix v1 0).bind fun v1001 => (bif (decide (v1000 = v1001)) then ((ix v0 1).bind fun v1002 => ((F_impl_bestMark v2 v1002).bind fun v1003 => some (decide (v1003 < v3))))
 else some false)))
@[simp] def res_impl_ReadyTopics_1 (r : Bool) : RV := .one (.one (.val (.bool r)))
theorem con_impl_ReadyTopics_1 {v0 : List (List UInt8)} {v1 : List (List UInt8)} {v2 : List TLesson} {v3 : Int} {r : Bool} (hF : F_impl_ReadyTopics_1 v0 v1 v2 v3 = some r) : Con Try.prog 104 [.sl 1 (v0.map V.str), .ptr [.sl 1 (v1.map V.str)], .ptr [.sl 5 (v2.map eLesson)], .ptr [.int .i64 v3]] (res_impl_ReadyTopics_1 r) := by
 unfold F_impl_ReadyTopics_1 at hF
 refine con_of c104_is fun N => ?_
 refine ws 0 64 ?_
 refine qp (AB false) rfl ?_
 refine r_nil ?_
 refine ws 64 1152 ?_
 refine qp (AL 1 (v0.map V.str)) rfl ?_
 obtain ⟨v1000, e1000, hF⟩ := bind_get hF
 refine qp (.val none (.ptr [.str v1000])) (ev_iad_n rfl rfl e1000 rfl) (qp (AS v1000) rfl (qp (AL 1 (v1.map V.str)) rfl ?_))
 obtain ⟨v1001, e1001, hF⟩ := bind_get hF
 refine qp (.val none (.ptr [.str v1001])) (ev_iad_n rfl rfl e1001 rfl) (qp (AS v1001) rfl (qp (AB (decide (v1000 = v1001))) rfl (qp (AB (decide (v1000 = v1001))) rfl ?_)))
 refine q_case 13 hF rfl (fun hF => ?_) (fun hF => ?_)
 ·
  refine qg (AL 5 (v2.map eLesson)) rfl rfl (qg (AL 1 (v0.map V.str)) rfl rfl ?_)
  obtain ⟨v1002, e1002, hF⟩ := bind_get hF
  refine qg (.val none (.ptr [.str v1002])) rfl (ev_iad_n rfl rfl e1002 rfl) (qg (AS v1002) rfl rfl ?_)
  obtain ⟨v1003, e1003, hF⟩ := bind_get hF
  refine qcg (AI v1003) [] false rfl (con_impl_bestMark e1003) c105_ok (by first | rfl | simp) rfl ?_
  refine qg (AI v3) rfl rfl (qg (AB (decide (v1003 < v3))) rfl rfl (qp (AB (decide (v1003 < v3))) rfl (qp (AB (decide (v1003 < v3))) rfl ?_)))
  refine r_nil ?_
  refine w_ret ?_
  cases hF
  exact eR
 ·
  refine qn rfl (qn rfl (qn rfl (qn rfl (qn rfl (qn rfl (qn rfl (qp (AB false) rfl ?_)))))))
  refine qp (AB false) rfl ?_
  refine r_nil ?_
  refine w_ret ?_
  cases hF
  exact eR

noncomputable def F_slices_IndexFunc_SSstring_Sstring_1_l0 (v0 : List (List (List UInt8))) (v1 : List (List UInt8)) (v2 : List TLesson) (v3 : Int) (k0 : Int → Option (Int)) : Int → Option (Int)
 | v9 => (bif (decide (v9 < (v0.length : Int))) then ((ix v0 v9).bind fun v1000 => ((F_impl_ReadyTopics_1 v1000 v1 v2 v3).bind fun v1001 => (bif v1001 then some v9
 else k0 (w64 (v9 + 1)))))
 else some (-1))
noncomputable def F_slices_IndexFunc_SSstring_Sstring_1 (v0 : List (List (List UInt8))) (v1 : List (List UInt8)) (v2 : List TLesson) (v3 : Int) : Option (Int) :=
 loop (F_slices_IndexFunc_SSstring_Sstring_1_l0 v0 v1 v2 v3) 0
@[simp] def res_slices_IndexFunc_SSstring_Sstring_1 (r : Int) : RV := .one (.one (.val (.int .i64 r)))
theorem con_slices_IndexFunc_SSstring_Sstring_1 {v0 : List (List (List UInt8))} {v1 : List (List UInt8)} {v2 : List TLesson} {v3 : Int} {r : Int} (hF : F_slices_IndexFunc_SSstring_Sstring_1 v0 v1 v2 v3 = some r) : Con Try.prog 188 [.sl 1 (v0.map (eL 1 V.str)), .fn 104 [.ptr [.sl 1 (v1.map V.str)], .ptr [.sl 5 (v2.map eLesson)], .ptr [.int .i64 v3]]] (res_slices_IndexFunc_SSstring_Sstring_1 r) := by
 unfold F_slices_IndexFunc_SSstring_Sstring_1 at hF
 refine con_of c188_is fun N => ?_
 refine ws 0 64 ?_
 refine qp (AI 0) rfl ?_
 refine r_nil ?_
 refine w_seq ?_
 refine ws 64 256 ?_
 refine qp (AL 1 (v0.map (eL 1 V.str))) rfl (qp (AI (v0.length : Int)) (ev_len_n rfl) (qp (AI 0) rfl ?_))
 refine r_nil ?_
 refine w_block ?_
 refine wr (l' := [(0, AL 1 (v0.map (eL 1 V.str))), (1, .val none (.fn 104 [.ptr [.sl 1 (v1.map V.str)], .ptr [.sl 5 (v2.map eLesson)], .ptr [.int .i64 v3]])), (7, AI (v0.length : Int)), (8, AI 0)]) (L := []) [0, 1, 7, 8] [] 1 ?_
 refine w_loopF (F_slices_IndexFunc_SSstring_Sstring_1_l0 v0 v1 v2 v3) (fun s : Int => mkS [(0, AL 1 (v0.map (eL 1 V.str))), (1, .val none (.fn 104 [.ptr [.sl 1 (v1.map V.str)], .ptr [.sl 5 (v2.map eLesson)], .ptr [.int .i64 v3]])), (7, AI (v0.length : Int)), (8, AI s)] (fo []) 1) hF ?_
 rintro k0 v9 hF
 rw [F_slices_IndexFunc_SSstring_Sstring_1_l0] at hF
 try dsimp only
 refine ws 1 65 ?_
 refine qp (AB (decide (v9 < (v0.length : Int)))) rfl ?_
 refine r_nil ?_
 refine w_seq ?_
 refine cF hF (fun hF => ?_) fun hF => ?_
 ·
  refine w_skip ?_
  refine thenQ_n ?_
  refine w_seq ?_
  refine w_block ?_
  refine ws 65 193 ?_
  refine qp (AI v9) rfl (qp (AI v9) rfl ?_)
  refine r_nil ?_
  refine ws 193 577 ?_
  refine qp (.val none (.fn 104 [.ptr [.sl 1 (v1.map V.str)], .ptr [.sl 5 (v2.map eLesson)], .ptr [.int .i64 v3]])) rfl (qp (AL 1 (v0.map (eL 1 V.str))) rfl (qp (AI v9) rfl ?_))
  obtain ⟨v1000, e1000, hF⟩ := bind_get hF
  refine qp (.val none (.ptr [.sl 1 (v1000.map V.str)])) (ev_iad_n rfl rfl e1000 rfl) (qp (AL 1 (v1000.map V.str)) rfl ?_)
  obtain ⟨v1001, e1001, hF⟩ := bind_get hF
  refine qcv (AB v1001) [] false rfl (con_impl_ReadyTopics_1 e1001) c104_ok (by first | rfl | simp) rfl ?_
  refine r_nil ?_
  refine cF hF (fun hF => ?_) fun hF => ?_
  ·
   refine ws 577 705 ?_
   refine qp (AI v9) rfl (qp (AI v9) rfl ?_)
   refine r_nil ?_
   refine w_ret ?_
   refine blockQ_r ?_
   refine thenQ_r ?_
   refine thenQ_r ?_
   refine blockQ_r ?_
   refine thenQ_r ?_
   cases hF
   exact eR
  ·
   refine w_skip ?_
   refine blockQ_n ?_
   refine thenQ_n ?_
   refine w_reg 577 705 rfl rfl ?_
   refine qp (AI (w64 (v9 + 1))) rfl (qp (AI (w64 (v9 + 1))) rfl ?_)
   refine r_nil ?_
   refine thenQ_n ?_
   refine ar (l' := [(0, AL 1 (v0.map (eL 1 V.str))), (1, .val none (.fn 104 [.ptr [.sl 1 (v1.map V.str)], .ptr [.sl 5 (v2.map eLesson)], .ptr [.int .i64 v3]])), (7, AI (v0.length : Int)), (8, AI (w64 (v9 + 1)))]) (L := []) [0, 1, 7, 8] [] 1 ⟨_, by rfl, hF⟩
 ·
  refine w_exit ?_
  refine thenQ_e ?_
  refine thenQ_e ?_
  refine blockQ_e ?_
  refine thenQ_n ?_
  refine ws 65 129 ?_
  refine qp (AI (-1)) rfl ?_
  refine r_nil ?_
  refine w_ret ?_
  cases hF
  exact eR

noncomputable def F_slices_ContainsFunc_SSstring_Sstring_1 (v0 : List (List (List UInt8))) (v1 : List (List UInt8)) (v2 : List TLesson) (v3 : Int) : Option (Bool) :=
 ((F_slices_IndexFunc_SSstring_Sstring_1 v0 v1 v2 v3).bind fun v1000 => some (decide ((0 : Int) ≤ v1000)))
@[simp] def res_slices_ContainsFunc_SSstring_Sstring_1 (r : Bool) : RV := .one (.one (.val (.bool r)))
theorem con_slices_ContainsFunc_SSstring_Sstring_1 {v0 : List (List (List UInt8))} {v1 : List (List UInt8)} {v2 : List TLesson} {v3 : Int} {r : Bool} (hF : F_slices_ContainsFunc_SSstring_Sstring_1 v0 v1 v2 v3 = some r) : Con Try.prog 101 [.sl 1 (v0.map (eL 1 V.str)), .fn 104 [.ptr [.sl 1 (v1.map V.str)], .ptr [.sl 5 (v2.map eLesson)], .ptr [.int .i64 v3]]] (res_slices_ContainsFunc_SSstring_Sstring_1 r) := by
 unfold F_slices_ContainsFunc_SSstring_Sstring_1 at hF
 refine con_of c101_is fun N => ?_
 refine ws 0 64 ?_
 refine qp (AB false) rfl ?_
 refine r_nil ?_
 refine ws 64 384 ?_
 refine qp (AL 1 (v0.map (eL 1 V.str))) rfl (qp (.val none (.fn 104 [.ptr [.sl 1 (v1.map V.str)], .ptr [.sl 5 (v2.map eLesson)], .ptr [.int .i64 v3]])) rfl ?_)
 obtain ⟨v1000, e1000, hF⟩ := bind_get hF
 refine qc (AI v1000) [] false (con_slices_IndexFunc_SSstring_Sstring_1 e1000) c188_ok (by first | rfl | simp) rfl ?_
 refine qp (AB (decide ((0 : Int) ≤ v1000))) rfl (qp (AB (decide ((0 : Int) ≤ v1000))) rfl ?_)
 refine r_nil ?_
 refine w_ret ?_
 cases hF
 exact eR

def c107 : MC := (.seq (.reg [rg 2 (.f (.nilrow 1))]) (.seq (.reg [rg 3 (.f (.nilrow 1))]) (.seq (.seq (.reg [rg 6 (.p true (.mv (.t 0))), rg 7 (.p true (.len (.t 6))), rg 8 (.p true (.mv (.c (.int .i64 0))))]) (.block 0 (.loop (.seq (.reg [rg 9 (.p true (.bin .lss (.t 8) (.t 7)))]) (.seq (.cond (.t 9) .skip (.exit 0)) (.seq (.block 1 (.seq (.reg [rg 10 (.p true (.iad (.t 6) (.t 8) 5)), rg 11 (.p true (.ld (.t 10) 5 true)), rg 5 (.f (.alloc [((.int .i64 0), (0, false)), ((.str []), (0, false)), ((.str []), (0, false)), ((.int .i64 0), (0, false)), ((.int .i64 0), (0, false))])), ⟨none, none, (.f (.st (.t 5) (.t 11) 5))⟩]) (.reg [rg 12 (.p true (.mv (.t 3))), rg 13 (.p true (.fad (.t 5) 2)), rg 14 (.p true (.ld (.t 13) 1 false)), rg 15 (.f (.bsl 1 [(.t 14)])), rg 16 (.f (.app (.t 12) (.t 15) 1 16 true)), rg 3 (.p true (.mv (.t 16)))]))) (.reg [rg 17 (.p true (.bin .add (.t 8) (.c (.int .i64 1)))), rg 8 (.p true (.mv (.t 17)))]))))))) (.seq (.reg [rg 18 (.p true (.mv (.t 3))), rg 19 (.call true 108 [(.t 18)])]) (.seq (.reg [rg 20 (.p true (.mv (.t 3))), rg 21 (.call true 109 [(.t 20)]), rg 2 (.p true (.mv (.t 21)))]) .ret)))))
theorem c107_is : compFn Try.prog 107 = some (c107, [(.tmp 2)]) := by kernel_rfl
theorem c107_ok : okFn Try.prog 107 = true := by kernel_rfl

noncomputable def F_impl_topicsOf_l0 (v0 : List TLesson) (k0 : Int × (List (List UInt8)) → Option (List (List UInt8))) : Int × (List (List UInt8)) → Option (List (List UInt8))
 | (v7, v8) => (bif (decide (v7 < (v0.length : Int))) then ((ix v0 v7).bind fun v1000 => (need (room (v8.length + [v1000.2.2.1].length) 16) (k0 (w64 (v7 + 1), v8 ++ [v1000.2.2.1]))))
 else ((F_sortS v8).bind fun v1002 => need (v1002.length = v8.length) (((F_compactS v1002).bind fun v1003 => some v1003))))
noncomputable def F_impl_topicsOf (v0 : List TLesson) : Option (List (List UInt8)) :=
 loop (F_impl_topicsOf_l0 v0) (0, [])
@[simp] def res_impl_topicsOf (r : List (List UInt8)) : RV := .one (.one (.row true 1 (r.map V.str)))
theorem con_impl_topicsOf {v0 : List TLesson} {r : List (List UInt8)} (hF : F_impl_topicsOf v0 = some r) : Con Try.prog 107 [.sl 5 (v0.map eLesson)] (res_impl_topicsOf r) := by
 unfold F_impl_topicsOf at hF
 refine con_of c107_is fun N => ?_
 refine ws 0 64 ?_
 refine qf (.sl 0 0 0) [(0, .row true 1 (([] : List Int).map (V.int .i64)))] (by simp) ?_
 refine r_nil ?_
 refine ws 64 128 ?_
 refine qf (.sl 64 0 0) [(64, .row true 1 (([] : List (List UInt8)).map V.str)), (0, .row true 1 (([] : List Int).map (V.int .i64)))] (by simp) ?_
 refine r_nil ?_
 refine w_seq ?_
 refine ws 128 320 ?_
 refine qp (AL 5 (v0.map eLesson)) rfl (qp (AI (v0.length : Int)) (ev_len_n rfl) (qp (AI 0) rfl ?_))
 refine r_nil ?_
 refine w_block ?_
 refine wr (l' := [(3, .sl 0 0 0), (6, AL 5 (v0.map eLesson)), (7, AI (v0.length : Int)), (8, AI 0)]) (L := [(0, .row true 1 (([] : List (List UInt8)).map V.str))]) [3, 6, 7, 8] [(64, 0)] 1 ?_
 refine w_loopF (F_impl_topicsOf_l0 v0) (fun s : Int × (List (List UInt8)) => mkS [(3, .sl 0 0 s.2.length), (6, AL 5 (v0.map eLesson)), (7, AI (v0.length : Int)), (8, AI s.1)] (fo [(0, .row true 1 (s.2.map V.str))]) 1) hF ?_
 rintro k0 ⟨v7, v8⟩ hF
 rw [F_impl_topicsOf_l0] at hF
 try dsimp only
 refine ws 1 65 ?_
 refine qp (AB (decide (v7 < (v0.length : Int)))) rfl ?_
 refine r_nil ?_
 refine w_seq ?_
 refine cF hF (fun hF => ?_) fun hF => ?_
 ·
  refine w_skip ?_
  refine thenQ_n ?_
  refine w_seq ?_
  refine w_block ?_
  refine ws 65 321 ?_
  obtain ⟨v1000, e1000, hF⟩ := bind_get hF
  refine qp (.val none (.ptr [.int .i64 v1000.1, .str v1000.2.1, .str v1000.2.2.1, .int .i64 v1000.2.2.2.1, .int .i64 v1000.2.2.2.2])) (ev_iad_n rfl rfl e1000 rfl) (qp (.val none (eLesson v1000)) rfl ?_)
  refine qf (.ptr 193 0 0) [(193, .box [AI 0, AS [], AS [], AI 0, AI 0]), (0, .row true 1 (v8.map V.str))] (by simp) ?_
  refine qf0 (.undef) [(193, .box [AI v1000.1, AS v1000.2.1, AS v1000.2.2.1, AI v1000.2.2.2.1, AI v1000.2.2.2.2]), (193, .box [AI 0, AS [], AS [], AI 0, AI 0]), (0, .row true 1 (v8.map V.str))] (by simp) ?_
  refine r_nil ?_
  refine w_reg 321 705 rfl rfl ?_
  refine qp (.sl 0 0 v8.length) rfl (qp (.ptr 193 0 2) rfl (qp (AS v1000.2.2.1) rfl ?_))
  refine qf (.sl 513 0 ([v1000.2.2.1].length)) [(513, .row true 1 ([v1000.2.2.1].map V.str)), (193, .box [AI v1000.1, AS v1000.2.1, AS v1000.2.2.1, AI v1000.2.2.2.1, AI v1000.2.2.2.2]), (193, .box [AI 0, AS [], AS [], AI 0, AI 0]), (0, .row true 1 (v8.map V.str))] (by simp [List.take_of_length_le]) ?_
  obtain ⟨g1001, hF⟩ := need_some hF
  refine qf (.sl 577 0 ((v8 ++ [v1000.2.2.1]).length)) [(577, .row true 1 ((v8 ++ [v1000.2.2.1]).map V.str)), (0, .dead), (513, .dead), (513, .row true 1 ([v1000.2.2.1].map V.str)), (193, .box [AI v1000.1, AS v1000.2.1, AS v1000.2.2.1, AI v1000.2.2.2.1, AI v1000.2.2.2.2]), (193, .box [AI 0, AS [], AS [], AI 0, AI 0]), (0, .row true 1 (v8.map V.str))] (effT_app_l rfl (by simp) rfl rfl (by simp) rfl (by decide) g1001 rfl) ?_
  refine qp (.sl 577 0 ((v8 ++ [v1000.2.2.1]).length)) rfl ?_
  refine r_nil ?_
  refine blockQ_n ?_
  refine thenQ_n ?_
  refine w_reg 705 833 rfl rfl ?_
  refine qp (AI (w64 (v7 + 1))) rfl (qp (AI (w64 (v7 + 1))) rfl ?_)
  refine r_nil ?_
  refine thenQ_n ?_
  refine ar (l' := [(3, .sl 0 0 (v8 ++ [v1000.2.2.1]).length), (6, AL 5 (v0.map eLesson)), (7, AI (v0.length : Int)), (8, AI (w64 (v7 + 1)))]) (L := [(0, .row true 1 ((v8 ++ [v1000.2.2.1]).map V.str))]) [3, 6, 7, 8] [(577, 0)] 1 ⟨_, by rfl, hF⟩
 ·
  refine w_exit ?_
  refine thenQ_e ?_
  refine thenQ_e ?_
  refine blockQ_e ?_
  refine thenQ_n ?_
  refine ws 65 193 ?_
  refine qp (.sl 0 0 v8.length) rfl ?_
  obtain ⟨v1002, e1002, hF⟩ := bind_get hF
  obtain ⟨g1002, hF⟩ := need_some hF
  refine qm1 (ls := [0]) [(0, .row true 1 (v1002.map V.str)), (0, .row true 1 (v8.map V.str))] (con_sortS_108 e1002) c108_ok (by first | rfl | simp [takeM, takeML, takeM1, g1002]) (by decide) (by simp [like2, likeL, like1, g1002]) rfl rfl (by simp [scrO_fo, newO2, newO, scrR, scrA, scrAs]) ?_
  refine r_nil ?_
  refine ws 193 385 ?_
  refine qp (.sl 0 0 v8.length) rfl ?_
  obtain ⟨v1003, e1003, hF⟩ := bind_get hF
  refine qX (.sl 257 0 v1003.length) [(257, .row true 1 (v1003.map V.str)), (0, .dead), (0, .row true 1 (v1002.map V.str)), (0, .row true 1 (v8.map V.str))] false rfl rfl (whole_row (by simp [g1002])) (con_compactS_109 e1003) c109_ok (by first | rfl | simp) (by simp [RV.r]) ?_
  refine qp (.sl 257 0 v1003.length) rfl ?_
  refine r_nil ?_
  refine w_ret ?_
  cases hF
  exact endQ_r rfl (.inl ⟨_, _, by first | rfl | (simp [List.take_of_length_le]; first | exact ⟨rfl, rfl⟩ | rfl), by simp, by first | rfl | simp [res_impl_topicsOf, List.take_of_length_le, g1002]⟩)

def c190 : MC := (.seq (.reg [rg 4 (.p true (.mv (.c (.int .i64 0))))]) (.seq (.seq (.reg [rg 6 (.p true (.mv (.t 0))), rg 7 (.p true (.len (.t 6))), rg 8 (.p true (.mv (.c (.int .i64 0))))]) (.block 0 (.loop (.seq (.reg [rg 9 (.p true (.bin .lss (.t 8) (.t 7)))]) (.seq (.cond (.t 9) .skip (.exit 0)) (.seq (.block 1 (.seq (.reg [rg 10 (.p true (.mv (.t 8))), rg 5 (.p true (.mv (.t 10)))]) (.seq (.reg [rg 11 (.p true (.mv (.t 1))), rg 12 (.p true (.mv (.t 0))), rg 13 (.p true (.mv (.t 5))), rg 14 (.p true (.iad (.t 12) (.t 13) 1)), rg 15 (.p true (.ld (.t 14) 1 false)), rg 16 (.p true (.bin .eql (.t 11) (.t 15)))]) (.cond (.t 16) (.seq (.reg [rg 17 (.p true (.mv (.t 5))), rg 4 (.p true (.mv (.t 17)))]) .ret) .skip)))) (.reg [rg 18 (.p true (.bin .add (.t 8) (.c (.int .i64 1)))), rg 8 (.p true (.mv (.t 18)))]))))))) (.seq (.reg [rg 4 (.p true (.mv (.c (.int .i64 (-1)))))]) .ret)))
theorem c190_is : compFn Try.prog 190 = some (c190, [(.tmp 4)]) := by kernel_rfl
theorem c190_ok : okFn Try.prog 190 = true := by kernel_rfl

noncomputable def F_slices_Index_Sstring_string_l0 (v0 : List (List UInt8)) (v1 : List UInt8) (k0 : Int → Option (Int)) : Int → Option (Int)
 | v5 => (bif (decide (v5 < (v0.length : Int))) then ((ix v0 v5).bind fun v1000 => (bif (decide (v1 = v1000)) then some v5
 else k0 (w64 (v5 + 1))))
 else some (-1))
noncomputable def F_slices_Index_Sstring_string (v0 : List (List UInt8)) (v1 : List UInt8) : Option (Int) :=
 loop (F_slices_Index_Sstring_string_l0 v0 v1) 0
@[simp] def res_slices_Index_Sstring_string (r : Int) : RV := .one (.one (.val (.int .i64 r)))
theorem con_slices_Index_Sstring_string {v0 : List (List UInt8)} {v1 : List UInt8} {r : Int} (hF : F_slices_Index_Sstring_string v0 v1 = some r) : Con Try.prog 190 [.sl 1 (v0.map V.str), .str v1] (res_slices_Index_Sstring_string r) := by
 unfold F_slices_Index_Sstring_string at hF
 refine con_of c190_is fun N => ?_
 refine ws 0 64 ?_
 refine qp (AI 0) rfl ?_
 refine r_nil ?_
 refine w_seq ?_
 refine ws 64 256 ?_
 refine qp (AL 1 (v0.map V.str)) rfl (qp (AI (v0.length : Int)) (ev_len_n rfl) (qp (AI 0) rfl ?_))
 refine r_nil ?_
 refine w_block ?_
 refine wr (l' := [(0, AL 1 (v0.map V.str)), (1, AS v1), (7, AI (v0.length : Int)), (8, AI 0)]) (L := []) [0, 1, 7, 8] [] 1 ?_
 refine w_loopF (F_slices_Index_Sstring_string_l0 v0 v1) (fun s : Int => mkS [(0, AL 1 (v0.map V.str)), (1, AS v1), (7, AI (v0.length : Int)), (8, AI s)] (fo []) 1) hF ?_
 rintro k0 v5 hF
 rw [F_slices_Index_Sstring_string_l0] at hF
 try dsimp only
 refine ws 1 65 ?_
 refine qp (AB (decide (v5 < (v0.length : Int)))) rfl ?_
 refine r_nil ?_
 refine w_seq ?_
 refine cF hF (fun hF => ?_) fun hF => ?_
 ·
  refine w_skip ?_
  refine thenQ_n ?_
  refine w_seq ?_
  refine w_block ?_
  refine ws 65 193 ?_
  refine qp (AI v5) rfl (qp (AI v5) rfl ?_)
  refine r_nil ?_
  refine ws 193 577 ?_
  refine qp (AS v1) rfl (qp (AL 1 (v0.map V.str)) rfl (qp (AI v5) rfl ?_))
  obtain ⟨v1000, e1000, hF⟩ := bind_get hF
  refine qp (.val none (.ptr [.str v1000])) (ev_iad_n rfl rfl e1000 rfl) (qp (AS v1000) rfl (qp (AB (decide (v1 = v1000))) rfl ?_))
  refine r_nil ?_
  refine cF hF (fun hF => ?_) fun hF => ?_
  ·
   refine ws 577 705 ?_
   refine qp (AI v5) rfl (qp (AI v5) rfl ?_)
   refine r_nil ?_
   refine w_ret ?_
   refine blockQ_r ?_
   refine thenQ_r ?_
   refine thenQ_r ?_
   refine blockQ_r ?_
   refine thenQ_r ?_
   cases hF
   exact eR
  ·
   refine w_skip ?_
   refine blockQ_n ?_
   refine thenQ_n ?_
   refine w_reg 577 705 rfl rfl ?_
   refine qp (AI (w64 (v5 + 1))) rfl (qp (AI (w64 (v5 + 1))) rfl ?_)
   refine r_nil ?_
   refine thenQ_n ?_
   refine ar (l' := [(0, AL 1 (v0.map V.str)), (1, AS v1), (7, AI (v0.length : Int)), (8, AI (w64 (v5 + 1)))]) (L := []) [0, 1, 7, 8] [] 1 ⟨_, by rfl, hF⟩
 ·
  refine w_exit ?_
  refine thenQ_e ?_
  refine thenQ_e ?_
  refine blockQ_e ?_
  refine thenQ_n ?_
  refine ws 65 129 ?_
  refine qp (AI (-1)) rfl ?_
  refine r_nil ?_
  refine w_ret ?_
  cases hF
  exact eR

def c106 : MC := (.seq (.reg [rg 4 (.p true (.mv (.c (.bool false))))]) (.seq (.reg [rg 5 (.p true (.mv (.t 0))), rg 6 (.p true (.mv (.t 1))), rg 7 (.call true 190 [(.t 5), (.t 6)]), rg 8 (.p true (.bin .geq (.t 7) (.c (.int .i64 0)))), rg 4 (.p true (.mv (.t 8)))]) .ret))
theorem c106_is : compFn Try.prog 106 = some (c106, [(.tmp 4)]) := by kernel_rfl
theorem c106_ok : okFn Try.prog 106 = true := by kernel_rfl

noncomputable def F_slices_Contains_Sstring_string (v0 : List (List UInt8)) (v1 : List UInt8) : Option (Bool) :=
 ((F_slices_Index_Sstring_string v0 v1).bind fun v1000 => some (decide ((0 : Int) ≤ v1000)))
@[simp] def res_slices_Contains_Sstring_string (r : Bool) : RV := .one (.one (.val (.bool r)))
theorem con_slices_Contains_Sstring_string {v0 : List (List UInt8)} {v1 : List UInt8} {r : Bool} (hF : F_slices_Contains_Sstring_string v0 v1 = some r) : Con Try.prog 106 [.sl 1 (v0.map V.str), .str v1] (res_slices_Contains_Sstring_string r) := by
 unfold F_slices_Contains_Sstring_string at hF
 refine con_of c106_is fun N => ?_
 refine ws 0 64 ?_
 refine qp (AB false) rfl ?_
 refine r_nil ?_
 refine ws 64 384 ?_
 refine qp (AL 1 (v0.map V.str)) rfl (qp (AS v1) rfl ?_)
 obtain ⟨v1000, e1000, hF⟩ := bind_get hF
 refine qc (AI v1000) [] false (con_slices_Index_Sstring_string e1000) c190_ok (by first | rfl | simp) rfl ?_
 refine qp (AB (decide ((0 : Int) ≤ v1000))) rfl (qp (AB (decide ((0 : Int) ≤ v1000))) rfl ?_)
 refine r_nil ?_
 refine w_ret ?_
 cases hF
 exact eR

def c23 : MC := (.seq (.reg [rg 7 (.f (.box (.t 3))), rg 8 (.f (.nilrow 1)), rg 9 (.p true (.mv (.c (.int .i64 0))))]) (.seq (.reg [rg 17 (.p true (.mv (.t 0))), rg 18 (.p true (.mv (.t 1))), rg 19 (.call true 100 [(.t 17), (.t 18)]), rg 16 (.p true (.mv (.t 19))), rg 20 (.p true (.ext (.t 16) 0)), rg 21 (.p true (.ext (.t 16) 1)), rg 10 (.f (.alloc [((.sl 0 []), (5, false))])), ⟨none, none, (.f (.st (.t 10) (.t 20) 1))⟩, rg 11 (.p true (.mv (.t 21)))]) (.seq (.block 0 (.seq (.reg [rg 23 (.p true (.mv (.t 11))), rg 24 (.p true (.bin .neq (.t 23) (.c (.int .i64 0)))), rg 22 (.p true (.mv (.t 24)))]) (.cond (.t 22) (.seq (.reg [rg 25 (.p true (.mv (.t 11))), rg 8 (.f (.nilrow 1)), rg 9 (.p true (.mv (.t 25)))]) .ret) (.seq (.reg [rg 27 (.p true (.mv (.t 2))), rg 28 (.p true (.len (.t 27))), rg 29 (.p true (.bin .gtr (.t 28) (.c (.int .i64 64)))), rg 30 (.p true (.mv (.t 29))), ⟨(some 31), (some (30, false)), (.p true (.mv (.t 2)))⟩, ⟨(some 32), (some (30, false)), (.call true 101 [(.t 31), (.f 102)])⟩, rg 33 (.p true (.pick (.t 30) (.c (.bool true)) (.t 32))), rg 34 (.p true (.mv (.t 33))), ⟨(some 35), (some (34, false)), (.p true (.ld (.t 7) 1 false))⟩, ⟨(some 36), (some (34, false)), (.call true 103 [(.t 35), (.c (.int .i64 0)), (.c (.int .i64 100))])⟩, ⟨(some 37), (some (34, false)), (.p true (.not (.t 36)))⟩, rg 38 (.p true (.pick (.t 34) (.c (.bool true)) (.t 37))), rg 26 (.p true (.mv (.t 38)))]) (.cond (.t 26) (.seq (.reg [rg 8 (.f (.nilrow 1)), rg 9 (.p true (.mv (.c (.int .i64 2))))]) .ret) .skip))))) (.seq (.reg [rg 12 (.f (.nilrow 1))]) (.seq (.seq (.reg [rg 39 (.p true (.mv (.t 2))), rg 40 (.p true (.len (.t 39))), rg 41 (.p true (.mv (.c (.int .i64 0))))]) (.block 1 (.loop (.seq (.reg [rg 42 (.p true (.bin .lss (.t 41) (.t 40)))]) (.seq (.cond (.t 42) .skip (.exit 1)) (.seq (.block 2 (.seq (.reg [rg 43 (.p true (.iad (.t 39) (.t 41) 1)), rg 44 (.p true (.ld (.t 43) 1 false)), rg 14 (.f (.alloc [((.sl 0 []), (1, false))])), ⟨none, none, (.f (.st (.t 14) (.t 44) 1))⟩]) (.seq (.reg [rg 45 (.p true (.mv (.t 2))), rg 46 (.p true (.mkf 104 [(.t 14), (.t 10), (.t 7)])), rg 47 (.call true 101 [(.t 45), (.t 46)]), rg 15 (.p true (.mv (.t 47)))]) (.seq (.reg [rg 48 (.p false (.mv (.t 15))), rg 49 (.p false (.not (.t 48))), rg 50 (.p false (.mv (.t 49))), ⟨(some 51), (some (50, true)), (.p false (.ld (.t 10) 1 false))⟩, ⟨(some 52), (some (50, true)), (.call false 107 [(.t 51)])⟩, ⟨(some 53), (some (50, true)), (.p false (.ld (.t 14) 1 false))⟩, ⟨(some 54), (some (50, true)), (.p false (.iad (.t 53) (.c (.int .i64 0)) 1))⟩, ⟨(some 55), (some (50, true)), (.p false (.ld (.t 54) 1 false))⟩, ⟨(some 56), (some (50, true)), (.call false 106 [(.t 52), (.t 55)])⟩, ⟨(some 57), (some (50, true)), (.p false (.not (.t 56)))⟩, rg 58 (.p false (.pick (.t 50) (.t 57) (.c (.bool false))))]) (.cond (.t 58) (.reg [rg 59 (.p true (.mv (.t 12))), rg 60 (.p true (.ld (.t 14) 1 false)), rg 61 (.p true (.iad (.t 60) (.c (.int .i64 0)) 1)), rg 62 (.p true (.ld (.t 61) 1 false)), rg 63 (.f (.bsl 1 [(.t 62)])), rg 64 (.f (.app (.t 59) (.t 63) 1 16 true)), rg 12 (.p true (.mv (.t 64)))]) .skip))))) (.reg [rg 65 (.p true (.bin .add (.t 41) (.c (.int .i64 1)))), rg 41 (.p true (.mv (.t 65)))]))))))) (.seq (.reg [rg 66 (.p true (.mv (.t 12))), rg 67 (.call true 108 [(.t 66)])]) (.seq (.reg [rg 68 (.p true (.mv (.t 12))), rg 69 (.call true 109 [(.t 68)]), rg 8 (.p true (.mv (.t 69))), rg 9 (.p true (.mv (.c (.int .i64 0))))]) .ret)))))))
theorem c23_is : compFn Try.prog 23 = some (c23, [(.tmp 8), (.tmp 9)]) := by kernel_rfl
theorem c23_ok : okFn Try.prog 23 = true := by kernel_rfl

noncomputable def F_impl_ReadyTopics_l0 (v2 : List (List (List UInt8))) (v3 : Int) (v1000 : (List TLesson) × Int) (k1 : Int × (List (List UInt8)) → Option ((List (List UInt8)) × Int)) : Int × (List (List UInt8)) → Option ((List (List UInt8)) × Int)
 | (v1021, v1022) => (bif (decide (v1021 < (v2.length : Int))) then ((ix v2 v1021).bind fun v1023 => ((F_slices_ContainsFunc_SSstring_Sstring_1 v2 v1023 v1000.1 v3).bind fun v1024 => (bif (!v1024) then ((F_impl_topicsOf v1000.1).bind fun v1025 => ((ix v1023 0).bind fun v1026 => ((F_slices_Contains_Sstring_string v1025 v1026).bind fun v1027 => (bif (!v1027) then ((ix v1023 0).bind fun v1028 => (need (room (v1022.length + [v1028].length) 16) (k1 (w64 (v1021 + 1), v1022 ++ [v1028]))))
 else k1 (w64 (v1021 + 1), v1022)))))
 else k1 (w64 (v1021 + 1), v1022))))
 else ((F_sortS v1022).bind fun v1030 => need (v1030.length = v1022.length) (((F_compactS v1030).bind fun v1031 => some (v1031, 0)))))
noncomputable def F_impl_ReadyTopics (v0 : List TLesson) (v1 : List UInt8) (v2 : List (List (List UInt8))) (v3 : Int) : Option ((List (List UInt8)) × Int) :=
 ((F_impl_lessonsOf v0 v1).bind fun v1000 => (bif (decide (v1000.2 ≠ (0 : Int))) then some ([], v1000.2)
 else (bif (decide ((64 : Int) < (v2.length : Int))) then some ([], 2)
 else ((F_slices_ContainsFunc_SSstring_Sstring v2).bind fun v1003 => (bif v1003 then some ([], 2)
 else ((F_impl_within v3 0 100).bind fun v1004 => (bif (!v1004) then some ([], 2)
 else loop (F_impl_ReadyTopics_l0 v2 v3 v1000) (0, []))))))))
@[simp] def res_impl_ReadyTopics (r : (List (List UInt8)) × Int) : RV := .tup [.one (.row true 1 (r.1.map V.str)), .one (.val (.int .i64 r.2))]
theorem con_impl_ReadyTopics {v0 : List TLesson} {v1 : List UInt8} {v2 : List (List (List UInt8))} {v3 : Int} {r : (List (List UInt8)) × Int} (hF : F_impl_ReadyTopics v0 v1 v2 v3 = some r) : Con Try.prog 23 [.sl 5 (v0.map eLesson), .str v1, .sl 1 (v2.map (eL 1 V.str)), .int .i64 v3] (res_impl_ReadyTopics r) := by
 unfold F_impl_ReadyTopics at hF
 refine con_of c23_is fun N => ?_
 refine ws 0 192 ?_
 refine qf (.ptr 0 0 0) [(0, .box [AI v3])] (by simp) ?_
 refine qf (.sl 64 0 0) [(64, .row true 1 (([] : List Int).map (V.int .i64))), (0, .box [AI v3])] (by simp) ?_
 refine qp (AI 0) rfl ?_
 refine r_nil ?_
 refine ws 192 768 ?_
 refine qp (AL 5 (v0.map eLesson)) rfl (qp (AS v1) rfl ?_)
 obtain ⟨v1000, e1000, hF⟩ := bind_get hF
 refine qc (.tup [.sl 320 0 v1000.1.length, AI v1000.2]) [(320, .row true 5 (v1000.1.map eLesson)), (64, .row true 1 (([] : List Int).map (V.int .i64))), (0, .box [AI v3])] false (con_impl_lessonsOf e1000) c100_ok (by first | rfl | simp) (by simp [res_impl_lessonsOf]) ?_
 refine qp (.tup [.sl 320 0 v1000.1.length, AI v1000.2]) rfl (qp (.sl 320 0 v1000.1.length) rfl (qp (AI v1000.2) rfl ?_))
 refine qf (.ptr 576 0 0) [(576, .box [.sl 577 0 0]), (577, .row true 5 (([] : List Int).map (V.int .i64))), (320, .row true 5 (v1000.1.map eLesson)), (64, .row true 1 (([] : List Int).map (V.int .i64))), (0, .box [AI v3])] (by simp) ?_
 refine qf0 (.undef) [(576, .box [.sl 320 0 v1000.1.length]), (576, .box [.sl 577 0 0]), (577, .row true 5 (([] : List Int).map (V.int .i64))), (320, .row true 5 (v1000.1.map eLesson)), (64, .row true 1 (([] : List Int).map (V.int .i64))), (0, .box [AI v3])] (by simp) ?_
 refine qp (AI v1000.2) rfl ?_
 refine r_nil ?_
 refine w_seq ?_
 refine w_block ?_
 refine ws 768 960 ?_
 refine qp (AI v1000.2) rfl (qp (AB (decide (v1000.2 ≠ (0 : Int)))) rfl (qp (AB (decide (v1000.2 ≠ (0 : Int)))) rfl ?_))
 refine r_nil ?_
 refine cF hF (fun hF => ?_) fun hF => ?_
 ·
  refine ws 960 1152 ?_
  refine qp (AI v1000.2) rfl ?_
  refine qf (.sl 1024 0 0) [(1024, .row true 1 (([] : List (List UInt8)).map V.str)), (576, .box [.sl 320 0 v1000.1.length]), (576, .box [.sl 577 0 0]), (577, .row true 5 (([] : List Int).map (V.int .i64))), (320, .row true 5 (v1000.1.map eLesson)), (64, .row true 1 (([] : List Int).map (V.int .i64))), (0, .box [AI v3])] (by simp) ?_
  refine qp (AI v1000.2) rfl ?_
  refine r_nil ?_
  refine w_ret ?_
  refine blockQ_r ?_
  refine thenQ_r ?_
  cases hF
  exact eR
 ·
  refine ws 960 1792 ?_
  refine qp (AL 1 (v2.map (eL 1 V.str))) rfl (qp (AI (v2.length : Int)) (ev_len_n rfl) (qp (AB (decide ((64 : Int) < (v2.length : Int)))) rfl (qp (AB (decide ((64 : Int) < (v2.length : Int)))) rfl ?_)))
  refine q_case 30 hF rfl (fun hF => ?_) (fun hF => ?_)
  ·
   refine qn rfl (qn rfl (qp (AB true) rfl (qp (AB true) rfl (qn rfl (qn rfl (qn rfl (qp (AB true) rfl ?_)))))))
   refine qp (AB true) rfl ?_
   refine r_nil ?_
   refine w_true rfl ?_
   refine ws 1792 1920 ?_
   refine qf (.sl 1792 0 0) [(1792, .row true 1 (([] : List (List UInt8)).map V.str)), (576, .box [.sl 320 0 v1000.1.length]), (576, .box [.sl 577 0 0]), (577, .row true 5 (([] : List Int).map (V.int .i64))), (320, .row true 5 (v1000.1.map eLesson)), (64, .row true 1 (([] : List Int).map (V.int .i64))), (0, .box [AI v3])] (by simp) ?_
   refine qp (AI 2) rfl ?_
   refine r_nil ?_
   refine w_ret ?_
   refine blockQ_r ?_
   refine thenQ_r ?_
   cases hF
   exact eR
  ·
   refine qg (AL 1 (v2.map (eL 1 V.str))) rfl rfl ?_
   obtain ⟨v1003, e1003, hF⟩ := bind_get hF
   refine qcg (AB v1003) [(576, .box [.sl 320 0 v1000.1.length]), (576, .box [.sl 577 0 0]), (577, .row true 5 (([] : List Int).map (V.int .i64))), (320, .row true 5 (v1000.1.map eLesson)), (64, .row true 1 (([] : List Int).map (V.int .i64))), (0, .box [AI v3])] false rfl (con_slices_ContainsFunc_SSstring_Sstring e1003) c101_ok (by first | rfl | simp) rfl ?_
   refine qp (AB v1003) rfl (qp (AB v1003) rfl ?_)
   refine q_case 34 hF rfl (fun hF => ?_) (fun hF => ?_)
   ·
    refine qn rfl (qn rfl (qn rfl (qp (AB true) rfl (qp (AB true) rfl ?_))))
    refine r_nil ?_
    refine w_true rfl ?_
    refine ws 1792 1920 ?_
    refine qf (.sl 1792 0 0) [(1792, .row true 1 (([] : List (List UInt8)).map V.str)), (576, .box [.sl 320 0 v1000.1.length]), (576, .box [.sl 577 0 0]), (577, .row true 5 (([] : List Int).map (V.int .i64))), (320, .row true 5 (v1000.1.map eLesson)), (64, .row true 1 (([] : List Int).map (V.int .i64))), (0, .box [AI v3])] (by simp) ?_
    refine qp (AI 2) rfl ?_
    refine r_nil ?_
    refine w_ret ?_
    refine blockQ_r ?_
    refine thenQ_r ?_
    cases hF
    exact eR
   ·
    refine qg (AI v3) rfl rfl ?_
    obtain ⟨v1004, e1004, hF⟩ := bind_get hF
    refine qcg (AB v1004) [(576, .box [.sl 320 0 v1000.1.length]), (576, .box [.sl 577 0 0]), (577, .row true 5 (([] : List Int).map (V.int .i64))), (320, .row true 5 (v1000.1.map eLesson)), (64, .row true 1 (([] : List Int).map (V.int .i64))), (0, .box [AI v3])] false rfl (con_impl_within e1004) c103_ok (by first | rfl | simp) rfl ?_
    refine qg (AB (!v1004)) rfl rfl (qp (AB (!v1004)) rfl (qp (AB (!v1004)) rfl ?_))
    refine r_nil ?_
    refine cF hF (fun hF => ?_) fun hF => ?_
    ·
     refine ws 1792 1920 ?_
     refine qf (.sl 1792 0 0) [(1792, .row true 1 (([] : List (List UInt8)).map V.str)), (576, .box [.sl 320 0 v1000.1.length]), (576, .box [.sl 577 0 0]), (577, .row true 5 (([] : List Int).map (V.int .i64))), (320, .row true 5 (v1000.1.map eLesson)), (64, .row true 1 (([] : List Int).map (V.int .i64))), (0, .box [AI v3])] (by simp) ?_
     refine qp (AI 2) rfl ?_
     refine r_nil ?_
     refine w_ret ?_
     refine blockQ_r ?_
     refine thenQ_r ?_
     cases hF
     exact eR
    ·
     refine w_skip ?_
     refine blockQ_n ?_
     refine thenQ_n ?_
     refine ws 1792 1856 ?_
     refine qf (.sl 1792 0 0) [(1792, .row true 1 (([] : List (List UInt8)).map V.str)), (576, .box [.sl 320 0 v1000.1.length]), (576, .box [.sl 577 0 0]), (577, .row true 5 (([] : List Int).map (V.int .i64))), (320, .row true 5 (v1000.1.map eLesson)), (64, .row true 1 (([] : List Int).map (V.int .i64))), (0, .box [AI v3])] (by simp) ?_
     refine r_nil ?_
     refine w_seq ?_
     refine ws 1856 2048 ?_
     refine qp (AL 1 (v2.map (eL 1 V.str))) rfl (qp (AI (v2.length : Int)) (ev_len_n rfl) (qp (AI 0) rfl ?_))
     refine r_nil ?_
     refine w_block ?_
     refine wr (l' := [(2, AL 1 (v2.map (eL 1 V.str))), (7, .ptr 0 0 0), (10, .ptr 1 0 0), (12, .sl 2 0 0), (39, AL 1 (v2.map (eL 1 V.str))), (40, AI (v2.length : Int)), (41, AI 0)]) (L := [(3, .row true 5 (v1000.1.map eLesson)), (2, .row true 1 (([] : List (List UInt8)).map V.str)), (1, .box [.sl 3 0 v1000.1.length]), (0, .box [AI v3])]) [2, 7, 10, 12, 39, 40, 41] [(320, 3), (1792, 2), (576, 1), (0, 0)] 4 ?_
     refine w_loopF (F_impl_ReadyTopics_l0 v2 v3 v1000) (fun s : Int × (List (List UInt8)) => mkS [(2, AL 1 (v2.map (eL 1 V.str))), (7, .ptr 0 0 0), (10, .ptr 1 0 0), (12, .sl 2 0 s.2.length), (39, AL 1 (v2.map (eL 1 V.str))), (40, AI (v2.length : Int)), (41, AI s.1)] (fo [(3, .row true 5 (v1000.1.map eLesson)), (2, .row true 1 (s.2.map V.str)), (1, .box [.sl 3 0 v1000.1.length]), (0, .box [AI v3])]) 4) hF ?_
     rintro k1 ⟨v1021, v1022⟩ hF
     rw [F_impl_ReadyTopics_l0] at hF
     try dsimp only
     refine ws 4 68 ?_
     refine qp (AB (decide (v1021 < (v2.length : Int)))) rfl ?_
     refine r_nil ?_
     refine w_seq ?_
     refine cF hF (fun hF => ?_) fun hF => ?_
     ·
      refine w_skip ?_
      refine thenQ_n ?_
      refine w_seq ?_
      refine w_block ?_
      refine ws 68 324 ?_
      obtain ⟨v1023, e1023, hF⟩ := bind_get hF
      refine qp (.val none (.ptr [.sl 1 (v1023.map V.str)])) (ev_iad_n rfl rfl e1023 rfl) (qp (AL 1 (v1023.map V.str)) rfl ?_)
      refine qf (.ptr 196 0 0) [(196, .box [.sl 197 0 0]), (197, .row true 1 (([] : List Int).map (V.int .i64))), (3, .row true 5 (v1000.1.map eLesson)), (2, .row true 1 (v1022.map V.str)), (1, .box [.sl 3 0 v1000.1.length]), (0, .box [AI v3])] (by simp) ?_
      refine qf0 (.undef) [(196, .box [.val none (.sl 1 (v1023.map V.str))]), (196, .box [.sl 197 0 0]), (197, .row true 1 (([] : List Int).map (V.int .i64))), (3, .row true 5 (v1000.1.map eLesson)), (2, .row true 1 (v1022.map V.str)), (1, .box [.sl 3 0 v1000.1.length]), (0, .box [AI v3])] (by simp) ?_
      refine r_nil ?_
      refine ws 324 580 ?_
      refine qp (AL 1 (v2.map (eL 1 V.str))) rfl (qp (.fn 104 [.ptr 196 0 0, .ptr 1 0 0, .ptr 0 0 0]) rfl ?_)
      obtain ⟨v1024, e1024, hF⟩ := bind_get hF
      refine qc (AB v1024) [(196, .box [.val none (.sl 1 (v1023.map V.str))]), (196, .box [.sl 197 0 0]), (197, .row true 1 (([] : List Int).map (V.int .i64))), (3, .row true 5 (v1000.1.map eLesson)), (2, .row true 1 (v1022.map V.str)), (1, .box [.sl 3 0 v1000.1.length]), (0, .box [AI v3])] true (con_slices_ContainsFunc_SSstring_Sstring_1 e1024) c101_ok (by simp [List.take_of_length_le]) rfl ?_
      refine qp (AB v1024) rfl ?_
      refine r_nil ?_
      refine ws 580 1284 ?_
      refine qp (AB v1024) rfl (qp (AB (!v1024)) rfl (qp (AB (!v1024)) rfl ?_))
      refine q_case 50 hF rfl (fun hF => ?_) (fun hF => ?_)
      ·
       refine qg (.sl 3 0 v1000.1.length) rfl rfl ?_
       obtain ⟨v1025, e1025, hF⟩ := bind_get hF
       refine qcg (.sl 836 0 v1025.length) [(836, .row true 1 (v1025.map V.str)), (196, .box [.val none (.sl 1 (v1023.map V.str))]), (196, .box [.sl 197 0 0]), (197, .row true 1 (([] : List Int).map (V.int .i64))), (3, .row true 5 (v1000.1.map eLesson)), (2, .row true 1 (v1022.map V.str)), (1, .box [.sl 3 0 v1000.1.length]), (0, .box [AI v3])] true rfl (con_impl_topicsOf e1025) c107_ok (by simp [List.take_of_length_le]) (by simp [res_impl_topicsOf]) ?_
       refine qg (AL 1 (v1023.map V.str)) rfl rfl ?_
       obtain ⟨v1026, e1026, hF⟩ := bind_get hF
       refine qg (.val none (.ptr [.str v1026])) rfl (ev_iad_n rfl rfl e1026 rfl) (qg (AS v1026) rfl rfl ?_)
       obtain ⟨v1027, e1027, hF⟩ := bind_get hF
       refine qcg (AB v1027) [(836, .row true 1 (v1025.map V.str)), (196, .box [.val none (.sl 1 (v1023.map V.str))]), (196, .box [.sl 197 0 0]), (197, .row true 1 (([] : List Int).map (V.int .i64))), (3, .row true 5 (v1000.1.map eLesson)), (2, .row true 1 (v1022.map V.str)), (1, .box [.sl 3 0 v1000.1.length]), (0, .box [AI v3])] true rfl (con_slices_Contains_Sstring_string e1027) c106_ok (by simp [List.take_of_length_le]) rfl ?_
       refine qg (AB (!v1027)) rfl rfl (qp (AB (!v1027)) rfl ?_)
       refine r_nil ?_
       refine cF hF (fun hF => ?_) fun hF => ?_
       ·
        refine w_reg 1284 1732 rfl rfl ?_
        refine qp (.sl 2 0 v1022.length) rfl (qp (AL 1 (v1023.map V.str)) rfl ?_)
        obtain ⟨v1028, e1028, hF⟩ := bind_get hF
        refine qp (.val none (.ptr [.str v1028])) (ev_iad_n rfl rfl e1028 rfl) (qp (AS v1028) rfl ?_)
        refine qf (.sl 1540 0 ([v1028].length)) [(1540, .row true 1 ([v1028].map V.str)), (836, .row true 1 (v1025.map V.str)), (196, .box [.val none (.sl 1 (v1023.map V.str))]), (196, .box [.sl 197 0 0]), (197, .row true 1 (([] : List Int).map (V.int .i64))), (3, .row true 5 (v1000.1.map eLesson)), (2, .row true 1 (v1022.map V.str)), (1, .box [.sl 3 0 v1000.1.length]), (0, .box [AI v3])] (by simp [List.take_of_length_le]) ?_
        obtain ⟨g1029, hF⟩ := need_some hF
        refine qf (.sl 1604 0 ((v1022 ++ [v1028]).length)) [(1604, .row true 1 ((v1022 ++ [v1028]).map V.str)), (2, .dead), (1540, .dead), (1540, .row true 1 ([v1028].map V.str)), (836, .row true 1 (v1025.map V.str)), (196, .box [.val none (.sl 1 (v1023.map V.str))]), (196, .box [.sl 197 0 0]), (197, .row true 1 (([] : List Int).map (V.int .i64))), (3, .row true 5 (v1000.1.map eLesson)), (2, .row true 1 (v1022.map V.str)), (1, .box [.sl 3 0 v1000.1.length]), (0, .box [AI v3])] (effT_app_l rfl (by simp) rfl rfl (by simp) rfl (by decide) g1029 rfl) ?_
        refine qp (.sl 1604 0 ((v1022 ++ [v1028]).length)) rfl ?_
        refine r_nil ?_
        refine blockQ_n ?_
        refine thenQ_n ?_
        refine w_reg 1732 1860 rfl rfl ?_
        refine qp (AI (w64 (v1021 + 1))) rfl (qp (AI (w64 (v1021 + 1))) rfl ?_)
        refine r_nil ?_
        refine thenQ_n ?_
        refine ar (l' := [(2, AL 1 (v2.map (eL 1 V.str))), (7, .ptr 0 0 0), (10, .ptr 1 0 0), (12, .sl 2 0 (v1022 ++ [v1028]).length), (39, AL 1 (v2.map (eL 1 V.str))), (40, AI (v2.length : Int)), (41, AI (w64 (v1021 + 1)))]) (L := [(3, .row true 5 (v1000.1.map eLesson)), (2, .row true 1 ((v1022 ++ [v1028]).map V.str)), (1, .box [.sl 3 0 v1000.1.length]), (0, .box [AI v3])]) [2, 7, 10, 12, 39, 40, 41] [(3, 3), (1604, 2), (1, 1), (0, 0)] 4 ⟨_, by rfl, hF⟩
       ·
        refine w_skip ?_
        refine blockQ_n ?_
        refine thenQ_n ?_
        refine w_reg 1284 1412 rfl rfl ?_
        refine qp (AI (w64 (v1021 + 1))) rfl (qp (AI (w64 (v1021 + 1))) rfl ?_)
        refine r_nil ?_
        refine thenQ_n ?_
        refine ar (l' := [(2, AL 1 (v2.map (eL 1 V.str))), (7, .ptr 0 0 0), (10, .ptr 1 0 0), (12, .sl 2 0 v1022.length), (39, AL 1 (v2.map (eL 1 V.str))), (40, AI (v2.length : Int)), (41, AI (w64 (v1021 + 1)))]) (L := [(3, .row true 5 (v1000.1.map eLesson)), (2, .row true 1 (v1022.map V.str)), (1, .box [.sl 3 0 v1000.1.length]), (0, .box [AI v3])]) [2, 7, 10, 12, 39, 40, 41] [(3, 3), (2, 2), (1, 1), (0, 0)] 4 ⟨_, by rfl, hF⟩
      ·
       refine qn rfl (qn rfl (qn rfl (qn rfl (qn rfl (qn rfl (qn rfl (qp (AB false) rfl ?_)))))))
       refine r_nil ?_
       refine w_false rfl ?_
       refine w_skip ?_
       refine blockQ_n ?_
       refine thenQ_n ?_
       refine w_reg 1284 1412 rfl rfl ?_
       refine qp (AI (w64 (v1021 + 1))) rfl (qp (AI (w64 (v1021 + 1))) rfl ?_)
       refine r_nil ?_
       refine thenQ_n ?_
       refine ar (l' := [(2, AL 1 (v2.map (eL 1 V.str))), (7, .ptr 0 0 0), (10, .ptr 1 0 0), (12, .sl 2 0 v1022.length), (39, AL 1 (v2.map (eL 1 V.str))), (40, AI (v2.length : Int)), (41, AI (w64 (v1021 + 1)))]) (L := [(3, .row true 5 (v1000.1.map eLesson)), (2, .row true 1 (v1022.map V.str)), (1, .box [.sl 3 0 v1000.1.length]), (0, .box [AI v3])]) [2, 7, 10, 12, 39, 40, 41] [(3, 3), (2, 2), (1, 1), (0, 0)] 4 ⟨_, by rfl, hF⟩
     ·
      refine w_exit ?_
      refine thenQ_e ?_
      refine thenQ_e ?_
      refine blockQ_e ?_
      refine thenQ_n ?_
      refine ws 68 196 ?_
      refine qp (.sl 2 0 v1022.length) rfl ?_
      obtain ⟨v1030, e1030, hF⟩ := bind_get hF
      obtain ⟨g1030, hF⟩ := need_some hF
      refine qm1 (ls := [2]) [(2, .row true 1 (v1030.map V.str)), (3, .row true 5 (v1000.1.map eLesson)), (2, .row true 1 (v1022.map V.str)), (1, .box [.sl 3 0 v1000.1.length]), (0, .box [AI v3])] (con_sortS_108 e1030) c108_ok (by first | rfl | simp [takeM, takeML, takeM1, g1030]) (by decide) (by simp [like2, likeL, like1, g1030]) rfl rfl (by simp [scrO_fo, newO2, newO, scrR, scrA, scrAs]) ?_
      refine r_nil ?_
      refine ws 196 452 ?_
      refine qp (.sl 2 0 v1022.length) rfl ?_
      obtain ⟨v1031, e1031, hF⟩ := bind_get hF
      refine qX (.sl 260 0 v1031.length) [(260, .row true 1 (v1031.map V.str)), (2, .dead), (2, .row true 1 (v1030.map V.str)), (3, .row true 5 (v1000.1.map eLesson)), (2, .row true 1 (v1022.map V.str)), (1, .box [.sl 3 0 v1000.1.length]), (0, .box [AI v3])] false rfl rfl (whole_row (by simp [g1030])) (con_compactS_109 e1031) c109_ok (by first | rfl | simp) (by simp [RV.r]) ?_
      refine qp (.sl 260 0 v1031.length) rfl (qp (AI 0) rfl ?_)
      refine r_nil ?_
      refine w_ret ?_
      cases hF
      exact endQ_r rfl (.inl ⟨_, _, by first | rfl | (simp [List.take_of_length_le]; first | exact ⟨rfl, rfl⟩ | rfl), by simp, by first | rfl | simp [res_impl_ReadyTopics, List.take_of_length_le, g1030]⟩)

def c24 : MC := (.seq (.reg [rg 4 (.p true (.mv (.c (.bool false))))]) (.seq (.seq (.reg [rg 6 (.p true (.mv (.t 0))), rg 7 (.p true (.len (.t 6))), rg 8 (.p true (.mv (.t 1))), rg 9 (.p true (.len (.t 8))), rg 10 (.p true (.bin .neq (.t 7) (.t 9)))]) (.cond (.t 10) (.seq (.reg [rg 4 (.p true (.mv (.c (.bool false))))]) .ret) .skip)) (.seq (.seq (.reg [rg 5 (.p true (.mv (.c (.int .i64 0))))]) (.block 0 (.loop (.seq (.seq (.reg [rg 11 (.p true (.mv (.t 5))), rg 12 (.p true (.mv (.t 0))), rg 13 (.p true (.len (.t 12))), rg 14 (.p true (.bin .lss (.t 11) (.t 13)))]) (.cond (.t 14) .skip (.exit 0))) (.seq (.block 1 (.seq (.reg [rg 17 (.p false (.mv (.t 0))), rg 18 (.p false (.mv (.t 5))), rg 19 (.p false (.iad (.t 17) (.t 18) 1)), rg 20 (.p false (.ld (.t 19) 1 false)), rg 21 (.p false (.mv (.t 1))), rg 22 (.p false (.mv (.t 5))), rg 23 (.p false (.iad (.t 21) (.t 22) 1)), rg 24 (.p false (.ld (.t 23) 1 false)), rg 25 (.p false (.bin .neq (.t 20) (.t 24)))]) (.cond (.t 25) (.seq (.reg [rg 4 (.p true (.mv (.c (.bool false))))]) .ret) .skip))) (.reg [rg 15 (.p true (.mv (.t 5))), rg 16 (.p true (.bin .add (.t 15) (.c (.int .i64 1)))), rg 5 (.p true (.mv (.t 16)))])))))) (.seq (.reg [rg 4 (.p true (.mv (.c (.bool true))))]) .ret))))
theorem c24_is : compFn Try.prog 24 = some (c24, [(.tmp 4)]) := by kernel_rfl
theorem c24_ok : okFn Try.prog 24 = true := by kernel_rfl

noncomputable def F_laws_eqStringS_l0 (v0 : List (List UInt8)) (v1 : List (List UInt8)) (k0 : Int → Option (Bool)) : Int → Option (Bool)
 | v7 => (bif (decide (v7 < (v0.length : Int))) then ((ix v0 v7).bind fun v1000 => ((ix v1 v7).bind fun v1001 => (bif (decide (v1000 ≠ v1001)) then some false
 else k0 (w64 (v7 + 1)))))
 else some true)
noncomputable def F_laws_eqStringS (v0 : List (List UInt8)) (v1 : List (List UInt8)) : Option (Bool) :=
 (bif (decide ((v0.length : Int) ≠ (v1.length : Int))) then some false
 else loop (F_laws_eqStringS_l0 v0 v1) 0)
@[simp] def res_laws_eqStringS (r : Bool) : RV := .one (.one (.val (.bool r)))
theorem con_laws_eqStringS {v0 : List (List UInt8)} {v1 : List (List UInt8)} {r : Bool} (hF : F_laws_eqStringS v0 v1 = some r) : Con Try.prog 24 [.sl 1 (v0.map V.str), .sl 1 (v1.map V.str)] (res_laws_eqStringS r) := by
 unfold F_laws_eqStringS at hF
 refine con_of c24_is fun N => ?_
 refine ws 0 64 ?_
 refine qp (AB false) rfl ?_
 refine r_nil ?_
 refine w_seq ?_
 refine ws 64 384 ?_
 refine qp (AL 1 (v0.map V.str)) rfl (qp (AI (v0.length : Int)) (ev_len_n rfl) (qp (AL 1 (v1.map V.str)) rfl (qp (AI (v1.length : Int)) (ev_len_n rfl) (qp (AB (decide ((v0.length : Int) ≠ (v1.length : Int)))) rfl ?_))))
 refine r_nil ?_
 refine cF hF (fun hF => ?_) fun hF => ?_
 ·
  refine ws 384 448 ?_
  refine qp (AB false) rfl ?_
  refine r_nil ?_
  refine w_ret ?_
  refine thenQ_r ?_
  cases hF
  exact eR
 ·
  refine w_skip ?_
  refine thenQ_n ?_
  refine w_seq ?_
  refine ws 384 448 ?_
  refine qp (AI 0) rfl ?_
  refine r_nil ?_
  refine w_block ?_
  refine wr (l' := [(0, AL 1 (v0.map V.str)), (1, AL 1 (v1.map V.str)), (5, AI 0)]) (L := []) [0, 1, 5] [] 1 ?_
  refine w_loopF (F_laws_eqStringS_l0 v0 v1) (fun s : Int => mkS [(0, AL 1 (v0.map V.str)), (1, AL 1 (v1.map V.str)), (5, AI s)] (fo []) 1) hF ?_
  rintro k0 v7 hF
  rw [F_laws_eqStringS_l0] at hF
  try dsimp only
  refine w_seq ?_
  refine ws 1 257 ?_
  refine qp (AI v7) rfl (qp (AL 1 (v0.map V.str)) rfl (qp (AI (v0.length : Int)) (ev_len_n rfl) (qp (AB (decide (v7 < (v0.length : Int)))) rfl ?_)))
  refine r_nil ?_
  refine cF hF (fun hF => ?_) fun hF => ?_
  ·
   refine w_skip ?_
   refine thenQ_n ?_
   refine w_seq ?_
   refine w_block ?_
   refine ws 257 833 ?_
   refine qp (AL 1 (v0.map V.str)) rfl (qp (AI v7) rfl ?_)
   obtain ⟨v1000, e1000, hF⟩ := bind_get hF
   refine qp (.val none (.ptr [.str v1000])) (ev_iad_n rfl rfl e1000 rfl) (qp (AS v1000) rfl (qp (AL 1 (v1.map V.str)) rfl (qp (AI v7) rfl ?_)))
   obtain ⟨v1001, e1001, hF⟩ := bind_get hF
   refine qp (.val none (.ptr [.str v1001])) (ev_iad_n rfl rfl e1001 rfl) (qp (AS v1001) rfl (qp (AB (decide (v1000 ≠ v1001))) rfl ?_))
   refine r_nil ?_
   refine cF hF (fun hF => ?_) fun hF => ?_
   ·
    refine ws 833 897 ?_
    refine qp (AB false) rfl ?_
    refine r_nil ?_
    refine w_ret ?_
    refine blockQ_r ?_
    refine thenQ_r ?_
    refine thenQ_r ?_
    refine blockQ_r ?_
    refine thenQ_r ?_
    cases hF
    exact eR
   ·
    refine w_skip ?_
    refine blockQ_n ?_
    refine thenQ_n ?_
    refine w_reg 833 1025 rfl rfl ?_
    refine qp (AI v7) rfl (qp (AI (w64 (v7 + 1))) rfl (qp (AI (w64 (v7 + 1))) rfl ?_))
    refine r_nil ?_
    refine thenQ_n ?_
    refine ar (l' := [(0, AL 1 (v0.map V.str)), (1, AL 1 (v1.map V.str)), (5, AI (w64 (v7 + 1)))]) (L := []) [0, 1, 5] [] 1 ⟨_, by rfl, hF⟩
  ·
   refine w_exit ?_
   refine thenQ_e ?_
   refine thenQ_e ?_
   refine blockQ_e ?_
   refine thenQ_n ?_
   refine ws 257 321 ?_
   refine qp (AB true) rfl ?_
   refine r_nil ?_
   refine w_ret ?_
   cases hF
   exact eR

def c110 : MC := (.seq (.reg [rg 2 (.f (.box (.t 0))), rg 3 (.f (.box (.t 1))), rg 4 (.p true (.mv (.c (.bool false))))]) (.seq (.seq (.reg [rg 5 (.p true (.fad (.t 2) 0)), rg 6 (.p true (.ld (.t 5) 1 false)), rg 7 (.p true (.fad (.t 3) 0)), rg 8 (.p true (.ld (.t 7) 1 false)), rg 9 (.p true (.bin .neq (.t 6) (.t 8)))]) (.cond (.t 9) (.seq (.reg [rg 4 (.p true (.mv (.c (.bool false))))]) .ret) .skip)) (.seq (.seq (.reg [rg 10 (.p true (.fad (.t 2) 1)), rg 11 (.p true (.ld (.t 10) 1 false)), rg 12 (.p true (.fad (.t 3) 1)), rg 13 (.p true (.ld (.t 12) 1 false)), rg 14 (.p true (.bin .neq (.t 11) (.t 13)))]) (.cond (.t 14) (.seq (.reg [rg 4 (.p true (.mv (.c (.bool false))))]) .ret) .skip)) (.seq (.seq (.reg [rg 15 (.p true (.fad (.t 2) 2)), rg 16 (.p true (.ld (.t 15) 1 false)), rg 17 (.p true (.fad (.t 3) 2)), rg 18 (.p true (.ld (.t 17) 1 false)), rg 19 (.p true (.bin .neq (.t 16) (.t 18)))]) (.cond (.t 19) (.seq (.reg [rg 4 (.p true (.mv (.c (.bool false))))]) .ret) .skip)) (.seq (.seq (.reg [rg 20 (.p true (.fad (.t 2) 3)), rg 21 (.p true (.ld (.t 20) 1 false)), rg 22 (.p true (.fad (.t 3) 3)), rg 23 (.p true (.ld (.t 22) 1 false)), rg 24 (.p true (.bin .neq (.t 21) (.t 23)))]) (.cond (.t 24) (.seq (.reg [rg 4 (.p true (.mv (.c (.bool false))))]) .ret) .skip)) (.seq (.seq (.reg [rg 25 (.p true (.fad (.t 2) 4)), rg 26 (.p true (.ld (.t 25) 1 false)), rg 27 (.p true (.fad (.t 3) 4)), rg 28 (.p true (.ld (.t 27) 1 false)), rg 29 (.p true (.bin .neq (.t 26) (.t 28)))]) (.cond (.t 29) (.seq (.reg [rg 4 (.p true (.mv (.c (.bool false))))]) .ret) .skip)) (.seq (.reg [rg 4 (.p true (.mv (.c (.bool true))))]) .ret)))))))
theorem c110_is : compFn Try.prog 110 = some (c110, [(.tmp 4)]) := by kernel_rfl
theorem c110_ok : okFn Try.prog 110 = true := by kernel_rfl

noncomputable def F_laws_eqLesson (v0 : TLesson) (v1 : TLesson) : Option (Bool) :=
 (bif (decide (v0.1 ≠ v1.1)) then some false
 else (bif (decide (v0.2.1 ≠ v1.2.1)) then some false
 else (bif (decide (v0.2.2.1 ≠ v1.2.2.1)) then some false
 else (bif (decide (v0.2.2.2.1 ≠ v1.2.2.2.1)) then some false
 else (bif (decide (v0.2.2.2.2 ≠ v1.2.2.2.2)) then some false
 else some true)))))
@[simp] def res_laws_eqLesson (r : Bool) : RV := .one (.one (.val (.bool r)))
theorem con_laws_eqLesson {v0 : TLesson} {v1 : TLesson} {r : Bool} (hF : F_laws_eqLesson v0 v1 = some r) : Con Try.prog 110 [eLesson v0, eLesson v1] (res_laws_eqLesson r) := by
 unfold F_laws_eqLesson at hF
 refine con_of c110_is fun N => ?_
 refine ws 0 192 ?_
 refine qf (.ptr 0 0 0) [(0, .box [AI v0.1, AS v0.2.1, AS v0.2.2.1, AI v0.2.2.2.1, AI v0.2.2.2.2])] (by simp) ?_
 refine qf (.ptr 64 0 0) [(64, .box [AI v1.1, AS v1.2.1, AS v1.2.2.1, AI v1.2.2.2.1, AI v1.2.2.2.2]), (0, .box [AI v0.1, AS v0.2.1, AS v0.2.2.1, AI v0.2.2.2.1, AI v0.2.2.2.2])] (by simp) ?_
 refine qp (AB false) rfl ?_
 refine r_nil ?_
 refine w_seq ?_
 refine ws 192 512 ?_
 refine qp (.ptr 0 0 0) rfl (qp (AI v0.1) rfl (qp (.ptr 64 0 0) rfl (qp (AI v1.1) rfl (qp (AB (decide (v0.1 ≠ v1.1))) rfl ?_))))
 refine r_nil ?_
 refine cF hF (fun hF => ?_) fun hF => ?_
 ·
  refine ws 512 576 ?_
  refine qp (AB false) rfl ?_
  refine r_nil ?_
  refine w_ret ?_
  refine thenQ_r ?_
  cases hF
  exact eR
 ·
  refine w_skip ?_
  refine thenQ_n ?_
  refine w_seq ?_
  refine ws 512 832 ?_
  refine qp (.ptr 0 0 1) rfl (qp (AS v0.2.1) rfl (qp (.ptr 64 0 1) rfl (qp (AS v1.2.1) rfl (qp (AB (decide (v0.2.1 ≠ v1.2.1))) rfl ?_))))
  refine r_nil ?_
  refine cF hF (fun hF => ?_) fun hF => ?_
  ·
   refine ws 832 896 ?_
   refine qp (AB false) rfl ?_
   refine r_nil ?_
   refine w_ret ?_
   refine thenQ_r ?_
   cases hF
   exact eR
  ·
   refine w_skip ?_
   refine thenQ_n ?_
   refine w_seq ?_
   refine ws 832 1152 ?_
   refine qp (.ptr 0 0 2) rfl (qp (AS v0.2.2.1) rfl (qp (.ptr 64 0 2) rfl (qp (AS v1.2.2.1) rfl (qp (AB (decide (v0.2.2.1 ≠ v1.2.2.1))) rfl ?_))))
   refine r_nil ?_
   refine cF hF (fun hF => ?_) fun hF => ?_
   ·
    refine ws 1152 1216 ?_
    refine qp (AB false) rfl ?_
    refine r_nil ?_
    refine w_ret ?_
    refine thenQ_r ?_
    cases hF
    exact eR
   ·
    refine w_skip ?_
    refine thenQ_n ?_
    refine w_seq ?_
    refine ws 1152 1472 ?_
    refine qp (.ptr 0 0 3) rfl (qp (AI v0.2.2.2.1) rfl (qp (.ptr 64 0 3) rfl (qp (AI v1.2.2.2.1) rfl (qp (AB (decide (v0.2.2.2.1 ≠ v1.2.2.2.1))) rfl ?_))))
    refine r_nil ?_
    refine cF hF (fun hF => ?_) fun hF => ?_
    ·
     refine ws 1472 1536 ?_
     refine qp (AB false) rfl ?_
     refine r_nil ?_
     refine w_ret ?_
     refine thenQ_r ?_
     cases hF
     exact eR
    ·
     refine w_skip ?_
     refine thenQ_n ?_
     refine w_seq ?_
     refine ws 1472 1792 ?_
     refine qp (.ptr 0 0 4) rfl (qp (AI v0.2.2.2.2) rfl (qp (.ptr 64 0 4) rfl (qp (AI v1.2.2.2.2) rfl (qp (AB (decide (v0.2.2.2.2 ≠ v1.2.2.2.2))) rfl ?_))))
     refine r_nil ?_
     refine cF hF (fun hF => ?_) fun hF => ?_
     ·
      refine ws 1792 1856 ?_
      refine qp (AB false) rfl ?_
      refine r_nil ?_
      refine w_ret ?_
      refine thenQ_r ?_
      cases hF
      exact eR
     ·
      refine w_skip ?_
      refine thenQ_n ?_
      refine ws 1792 1856 ?_
      refine qp (AB true) rfl ?_
      refine r_nil ?_
      refine w_ret ?_
      cases hF
      exact eR

def c25 : MC := (.seq (.reg [rg 4 (.p true (.mv (.c (.bool false))))]) (.seq (.seq (.reg [rg 6 (.p true (.mv (.t 0))), rg 7 (.p true (.len (.t 6))), rg 8 (.p true (.mv (.t 1))), rg 9 (.p true (.len (.t 8))), rg 10 (.p true (.bin .neq (.t 7) (.t 9)))]) (.cond (.t 10) (.seq (.reg [rg 4 (.p true (.mv (.c (.bool false))))]) .ret) .skip)) (.seq (.seq (.reg [rg 5 (.p true (.mv (.c (.int .i64 0))))]) (.block 0 (.loop (.seq (.seq (.reg [rg 11 (.p true (.mv (.t 5))), rg 12 (.p true (.mv (.t 0))), rg 13 (.p true (.len (.t 12))), rg 14 (.p true (.bin .lss (.t 11) (.t 13)))]) (.cond (.t 14) .skip (.exit 0))) (.seq (.block 1 (.seq (.reg [rg 17 (.p false (.mv (.t 0))), rg 18 (.p false (.mv (.t 5))), rg 19 (.p false (.iad (.t 17) (.t 18) 5)), rg 20 (.p false (.ld (.t 19) 5 true)), rg 21 (.p false (.mv (.t 1))), rg 22 (.p false (.mv (.t 5))), rg 23 (.p false (.iad (.t 21) (.t 22) 5)), rg 24 (.p false (.ld (.t 23) 5 true)), rg 25 (.call false 110 [(.t 20), (.t 24)]), rg 26 (.p false (.not (.t 25)))]) (.cond (.t 26) (.seq (.reg [rg 4 (.p true (.mv (.c (.bool false))))]) .ret) .skip))) (.reg [rg 15 (.p true (.mv (.t 5))), rg 16 (.p true (.bin .add (.t 15) (.c (.int .i64 1)))), rg 5 (.p true (.mv (.t 16)))])))))) (.seq (.reg [rg 4 (.p true (.mv (.c (.bool true))))]) .ret))))
theorem c25_is : compFn Try.prog 25 = some (c25, [(.tmp 4)]) := by kernel_rfl
theorem c25_ok : okFn Try.prog 25 = true := by kernel_rfl

noncomputable def F_laws_eqLessonS_l0 (v0 : List TLesson) (v1 : List TLesson) (k0 : Int → Option (Bool)) : Int → Option (Bool)
 | v9 => (bif (decide (v9 < (v0.length : Int))) then ((ix v0 v9).bind fun v1000 => ((ix v1 v9).bind fun v1001 => ((F_laws_eqLesson v1000 v1001).bind fun v1002 => (bif (!v1002) then some false
 else k0 (w64 (v9 + 1))))))
 else some true)
noncomputable def F_laws_eqLessonS (v0 : List TLesson) (v1 : List TLesson) : Option (Bool) :=
 (bif (decide ((v0.length : Int) ≠ (v1.length : Int))) then some false
 else loop (F_laws_eqLessonS_l0 v0 v1) 0)
@[simp] def res_laws_eqLessonS (r : Bool) : RV := .one (.one (.val (.bool r)))
theorem con_laws_eqLessonS {v0 : List TLesson} {v1 : List TLesson} {r : Bool} (hF : F_laws_eqLessonS v0 v1 = some r) : Con Try.prog 25 [.sl 5 (v0.map eLesson), .sl 5 (v1.map eLesson)] (res_laws_eqLessonS r) := by
 unfold F_laws_eqLessonS at hF
 refine con_of c25_is fun N => ?_
 refine ws 0 64 ?_
 refine qp (AB false) rfl ?_
 refine r_nil ?_
 refine w_seq ?_
 refine ws 64 384 ?_
 refine qp (AL 5 (v0.map eLesson)) rfl (qp (AI (v0.length : Int)) (ev_len_n rfl) (qp (AL 5 (v1.map eLesson)) rfl (qp (AI (v1.length : Int)) (ev_len_n rfl) (qp (AB (decide ((v0.length : Int) ≠ (v1.length : Int)))) rfl ?_))))
 refine r_nil ?_
 refine cF hF (fun hF => ?_) fun hF => ?_
 ·
  refine ws 384 448 ?_
  refine qp (AB false) rfl ?_
  refine r_nil ?_
  refine w_ret ?_
  refine thenQ_r ?_
  cases hF
  exact eR
 ·
  refine w_skip ?_
  refine thenQ_n ?_
  refine w_seq ?_
  refine ws 384 448 ?_
  refine qp (AI 0) rfl ?_
  refine r_nil ?_
  refine w_block ?_
  refine wr (l' := [(0, AL 5 (v0.map eLesson)), (1, AL 5 (v1.map eLesson)), (5, AI 0)]) (L := []) [0, 1, 5] [] 1 ?_
  refine w_loopF (F_laws_eqLessonS_l0 v0 v1) (fun s : Int => mkS [(0, AL 5 (v0.map eLesson)), (1, AL 5 (v1.map eLesson)), (5, AI s)] (fo []) 1) hF ?_
  rintro k0 v9 hF
  rw [F_laws_eqLessonS_l0] at hF
  try dsimp only
  refine w_seq ?_
  refine ws 1 257 ?_
  refine qp (AI v9) rfl (qp (AL 5 (v0.map eLesson)) rfl (qp (AI (v0.length : Int)) (ev_len_n rfl) (qp (AB (decide (v9 < (v0.length : Int)))) rfl ?_)))
  refine r_nil ?_
  refine cF hF (fun hF => ?_) fun hF => ?_
  ·
   refine w_skip ?_
   refine thenQ_n ?_
   refine w_seq ?_
   refine w_block ?_
   refine ws 257 897 ?_
   refine qp (AL 5 (v0.map eLesson)) rfl (qp (AI v9) rfl ?_)
   obtain ⟨v1000, e1000, hF⟩ := bind_get hF
   refine qp (.val none (.ptr [.int .i64 v1000.1, .str v1000.2.1, .str v1000.2.2.1, .int .i64 v1000.2.2.2.1, .int .i64 v1000.2.2.2.2])) (ev_iad_n rfl rfl e1000 rfl) (qp (.val none (eLesson v1000)) rfl (qp (AL 5 (v1.map eLesson)) rfl (qp (AI v9) rfl ?_)))
   obtain ⟨v1001, e1001, hF⟩ := bind_get hF
   refine qp (.val none (.ptr [.int .i64 v1001.1, .str v1001.2.1, .str v1001.2.2.1, .int .i64 v1001.2.2.2.1, .int .i64 v1001.2.2.2.2])) (ev_iad_n rfl rfl e1001 rfl) (qp (.val none (eLesson v1001)) rfl ?_)
   obtain ⟨v1002, e1002, hF⟩ := bind_get hF
   refine qc (AB v1002) [] false (con_laws_eqLesson e1002) c110_ok (by first | rfl | simp) rfl ?_
   refine qp (AB (!v1002)) rfl ?_
   refine r_nil ?_
   refine cF hF (fun hF => ?_) fun hF => ?_
   ·
    refine ws 897 961 ?_
    refine qp (AB false) rfl ?_
    refine r_nil ?_
    refine w_ret ?_
    refine blockQ_r ?_
    refine thenQ_r ?_
    refine thenQ_r ?_
    refine blockQ_r ?_
    refine thenQ_r ?_
    cases hF
    exact eR
   ·
    refine w_skip ?_
    refine blockQ_n ?_
    refine thenQ_n ?_
    refine w_reg 897 1089 rfl rfl ?_
    refine qp (AI v9) rfl (qp (AI (w64 (v9 + 1))) rfl (qp (AI (w64 (v9 + 1))) rfl ?_))
    refine r_nil ?_
    refine thenQ_n ?_
    refine ar (l' := [(0, AL 5 (v0.map eLesson)), (1, AL 5 (v1.map eLesson)), (5, AI (w64 (v9 + 1)))]) (L := []) [0, 1, 5] [] 1 ⟨_, by rfl, hF⟩
  ·
   refine w_exit ?_
   refine thenQ_e ?_
   refine thenQ_e ?_
   refine blockQ_e ?_
   refine thenQ_n ?_
   refine ws 257 321 ?_
   refine qp (AB true) rfl ?_
   refine r_nil ?_
   refine w_ret ?_
   cases hF
   exact eR

def c26 : MC := (.seq (.reg [rg 4 (.p true (.mv (.c (.bool false))))]) (.seq (.seq (.reg [rg 6 (.p true (.mv (.t 0))), rg 7 (.p true (.len (.t 6))), rg 8 (.p true (.mv (.t 1))), rg 9 (.p true (.len (.t 8))), rg 10 (.p true (.bin .neq (.t 7) (.t 9)))]) (.cond (.t 10) (.seq (.reg [rg 4 (.p true (.mv (.c (.bool false))))]) .ret) .skip)) (.seq (.seq (.reg [rg 5 (.p true (.mv (.c (.int .i64 0))))]) (.block 0 (.loop (.seq (.seq (.reg [rg 11 (.p true (.mv (.t 5))), rg 12 (.p true (.mv (.t 0))), rg 13 (.p true (.len (.t 12))), rg 14 (.p true (.bin .lss (.t 11) (.t 13)))]) (.cond (.t 14) .skip (.exit 0))) (.seq (.block 1 (.seq (.reg [rg 17 (.p false (.mv (.t 0))), rg 18 (.p false (.mv (.t 5))), rg 19 (.p false (.iad (.t 17) (.t 18) 1)), rg 20 (.p false (.ld (.t 19) 1 false)), rg 21 (.p false (.mv (.t 1))), rg 22 (.p false (.mv (.t 5))), rg 23 (.p false (.iad (.t 21) (.t 22) 1)), rg 24 (.p false (.ld (.t 23) 1 false)), rg 25 (.call false 24 [(.t 20), (.t 24)]), rg 26 (.p false (.not (.t 25)))]) (.cond (.t 26) (.seq (.reg [rg 4 (.p true (.mv (.c (.bool false))))]) .ret) .skip))) (.reg [rg 15 (.p true (.mv (.t 5))), rg 16 (.p true (.bin .add (.t 15) (.c (.int .i64 1)))), rg 5 (.p true (.mv (.t 16)))])))))) (.seq (.reg [rg 4 (.p true (.mv (.c (.bool true))))]) .ret))))
theorem c26_is : compFn Try.prog 26 = some (c26, [(.tmp 4)]) := by kernel_rfl
theorem c26_ok : okFn Try.prog 26 = true := by kernel_rfl

noncomputable def F_laws_eqStringSS_l0 (v0 : List (List (List UInt8))) (v1 : List (List (List UInt8))) (k0 : Int → Option (Bool)) : Int → Option (Bool)
 | v9 => (bif (decide (v9 < (v0.length : Int))) then ((ix v0 v9).bind fun v1000 => ((ix v1 v9).bind fun v1001 => ((F_laws_eqStringS v1000 v1001).bind fun v1002 => (bif (!v1002) then some false
 else k0 (w64 (v9 + 1))))))
 else some true)
noncomputable def F_laws_eqStringSS (v0 : List (List (List UInt8))) (v1 : List (List (List UInt8))) : Option (Bool) :=
 (bif (decide ((v0.length : Int) ≠ (v1.length : Int))) then some false
 else loop (F_laws_eqStringSS_l0 v0 v1) 0)
@[simp] def res_laws_eqStringSS (r : Bool) : RV := .one (.one (.val (.bool r)))
theorem con_laws_eqStringSS {v0 : List (List (List UInt8))} {v1 : List (List (List UInt8))} {r : Bool} (hF : F_laws_eqStringSS v0 v1 = some r) : Con Try.prog 26 [.sl 1 (v0.map (eL 1 V.str)), .sl 1 (v1.map (eL 1 V.str))] (res_laws_eqStringSS r) := by
 unfold F_laws_eqStringSS at hF
 refine con_of c26_is fun N => ?_
 refine ws 0 64 ?_
 refine qp (AB false) rfl ?_
 refine r_nil ?_
 refine w_seq ?_
 refine ws 64 384 ?_
 refine qp (AL 1 (v0.map (eL 1 V.str))) rfl (qp (AI (v0.length : Int)) (ev_len_n rfl) (qp (AL 1 (v1.map (eL 1 V.str))) rfl (qp (AI (v1.length : Int)) (ev_len_n rfl) (qp (AB (decide ((v0.length : Int) ≠ (v1.length : Int)))) rfl ?_))))
 refine r_nil ?_
 refine cF hF (fun hF => ?_) fun hF => ?_
 ·
  refine ws 384 448 ?_
  refine qp (AB false) rfl ?_
  refine r_nil ?_
  refine w_ret ?_
  refine thenQ_r ?_
  cases hF
  exact eR
 ·
  refine w_skip ?_
  refine thenQ_n ?_
  refine w_seq ?_
  refine ws 384 448 ?_
  refine qp (AI 0) rfl ?_
  refine r_nil ?_
  refine w_block ?_
  refine wr (l' := [(0, AL 1 (v0.map (eL 1 V.str))), (1, AL 1 (v1.map (eL 1 V.str))), (5, AI 0)]) (L := []) [0, 1, 5] [] 1 ?_
  refine w_loopF (F_laws_eqStringSS_l0 v0 v1) (fun s : Int => mkS [(0, AL 1 (v0.map (eL 1 V.str))), (1, AL 1 (v1.map (eL 1 V.str))), (5, AI s)] (fo []) 1) hF ?_
  rintro k0 v9 hF
  rw [F_laws_eqStringSS_l0] at hF
  try dsimp only
  refine w_seq ?_
  refine ws 1 257 ?_
  refine qp (AI v9) rfl (qp (AL 1 (v0.map (eL 1 V.str))) rfl (qp (AI (v0.length : Int)) (ev_len_n rfl) (qp (AB (decide (v9 < (v0.length : Int)))) rfl ?_)))
  refine r_nil ?_
  refine cF hF (fun hF => ?_) fun hF => ?_
  ·
   refine w_skip ?_
   refine thenQ_n ?_
   refine w_seq ?_
   refine w_block ?_
   refine ws 257 897 ?_
   refine qp (AL 1 (v0.map (eL 1 V.str))) rfl (qp (AI v9) rfl ?_)
   obtain ⟨v1000, e1000, hF⟩ := bind_get hF
   refine qp (.val none (.ptr [.sl 1 (v1000.map V.str)])) (ev_iad_n rfl rfl e1000 rfl) (qp (AL 1 (v1000.map V.str)) rfl (qp (AL 1 (v1.map (eL 1 V.str))) rfl (qp (AI v9) rfl ?_)))
   obtain ⟨v1001, e1001, hF⟩ := bind_get hF
   refine qp (.val none (.ptr [.sl 1 (v1001.map V.str)])) (ev_iad_n rfl rfl e1001 rfl) (qp (AL 1 (v1001.map V.str)) rfl ?_)
   obtain ⟨v1002, e1002, hF⟩ := bind_get hF
   refine qc (AB v1002) [] false (con_laws_eqStringS e1002) c24_ok (by first | rfl | simp) rfl ?_
   refine qp (AB (!v1002)) rfl ?_
   refine r_nil ?_
   refine cF hF (fun hF => ?_) fun hF => ?_
   ·
    refine ws 897 961 ?_
    refine qp (AB false) rfl ?_
    refine r_nil ?_
    refine w_ret ?_
    refine blockQ_r ?_
    refine thenQ_r ?_
    refine thenQ_r ?_
    refine blockQ_r ?_
    refine thenQ_r ?_
    cases hF
    exact eR
   ·
    refine w_skip ?_
    refine blockQ_n ?_
    refine thenQ_n ?_
    refine w_reg 897 1089 rfl rfl ?_
    refine qp (AI v9) rfl (qp (AI (w64 (v9 + 1))) rfl (qp (AI (w64 (v9 + 1))) rfl ?_))
    refine r_nil ?_
    refine thenQ_n ?_
    refine ar (l' := [(0, AL 1 (v0.map (eL 1 V.str))), (1, AL 1 (v1.map (eL 1 V.str))), (5, AI (w64 (v9 + 1)))]) (L := []) [0, 1, 5] [] 1 ⟨_, by rfl, hF⟩
  ·
   refine w_exit ?_
   refine thenQ_e ?_
   refine thenQ_e ?_
   refine blockQ_e ?_
   refine thenQ_n ?_
   refine ws 257 321 ?_
   refine qp (AB true) rfl ?_
   refine r_nil ?_
   refine w_ret ?_
   cases hF
   exact eR

def c111 : MC := (.seq (.reg [rg 2 (.p true (.mv (.c (.str []))))]) (.seq (.seq (.reg [rg 4 (.p true (.mv (.t 0))), rg 5 (.p true (.bin .leq (.t 4) (.c (.int .i64 0))))]) (.cond (.t 5) (.seq (.reg [rg 2 (.p true (.mv (.c (.str [109, 48]))))]) .ret) .skip)) (.seq (.reg [rg 3 (.p true (.mv (.c (.str []))))]) (.seq (.block 0 (.loop (.seq (.seq (.reg [rg 6 (.p true (.mv (.t 0))), rg 7 (.p true (.bin .gtr (.t 6) (.c (.int .i64 0))))]) (.cond (.t 7) .skip (.exit 0))) (.block 1 (.seq (.reg [rg 8 (.p true (.mv (.t 0))), rg 9 (.p true (.bin .rem (.t 8) (.c (.int .i64 10)))), rg 10 (.p true (.bin .add (.c (.int .i64 48)) (.t 9))), rg 11 (.p true (.conv .u8 (.t 10))), rg 12 (.f (.bsl 1 [(.t 11)])), rg 13 (.p true (.bts (.t 12))), rg 14 (.p true (.mv (.t 3))), rg 15 (.p true (.bin .add (.t 13) (.t 14))), rg 3 (.p true (.mv (.t 15)))]) (.reg [rg 16 (.p true (.mv (.t 0))), rg 17 (.p true (.bin .quo (.t 16) (.c (.int .i64 10)))), rg 0 (.p true (.mv (.t 17)))])))))) (.seq (.reg [rg 18 (.p true (.mv (.t 3))), rg 19 (.p true (.bin .add (.c (.str [109])) (.t 18))), rg 2 (.p true (.mv (.t 19)))]) .ret)))))
theorem c111_is : compFn Try.prog 111 = some (c111, [(.tmp 2)]) := by kernel_rfl
theorem c111_ok : okFn Try.prog 111 = true := by kernel_rfl

noncomputable def F_laws_markText_l0 (k0 : Int × (List UInt8) → Option (List UInt8)) : Int × (List UInt8) → Option (List UInt8)
 | (v5, v6) => (bif (decide ((0 : Int) < v5)) then (need ((bytesI [IntKind.wrap .u8 (w64 (48 + (Int.tmod v5 10)))]).length + v6.length < 9223372036854775808) (k0 (w64 (Int.tdiv v5 10), (bytesI [IntKind.wrap .u8 (w64 (48 + (Int.tmod v5 10)))]) ++ v6)))
 else (need ([109].length + v6.length < 9223372036854775808) (some ([109] ++ v6))))
noncomputable def F_laws_markText (v0 : Int) : Option (List UInt8) :=
 (bif (decide (v0 ≤ (0 : Int))) then some [109, 48]
 else loop (F_laws_markText_l0) (v0, []))
@[simp] def res_laws_markText (r : List UInt8) : RV := .one (.one (.val (.str r)))
theorem con_laws_markText {v0 : Int} {r : List UInt8} (hF : F_laws_markText v0 = some r) : Con Try.prog 111 [.int .i64 v0] (res_laws_markText r) := by
 unfold F_laws_markText at hF
 refine con_of c111_is fun N => ?_
 refine ws 0 64 ?_
 refine qp (AS []) rfl ?_
 refine r_nil ?_
 refine w_seq ?_
 refine ws 64 192 ?_
 refine qp (AI v0) rfl (qp (AB (decide (v0 ≤ (0 : Int)))) rfl ?_)
 refine r_nil ?_
 refine cF hF (fun hF => ?_) fun hF => ?_
 ·
  refine ws 192 256 ?_
  refine qp (AS [109, 48]) rfl ?_
  refine r_nil ?_
  refine w_ret ?_
  refine thenQ_r ?_
  cases hF
  exact eR
 ·
  refine w_skip ?_
  refine thenQ_n ?_
  refine ws 192 256 ?_
  refine qp (AS []) rfl ?_
  refine r_nil ?_
  refine w_seq ?_
  refine w_block ?_
  refine wr (l' := [(0, AI v0), (3, AS ([] : List UInt8))]) (L := []) [0, 3] [] 1 ?_
  refine w_loopF (F_laws_markText_l0) (fun s : Int × (List UInt8) => mkS [(0, AI s.1), (3, AS s.2)] (fo []) 1) hF ?_
  rintro k0 ⟨v5, v6⟩ hF
  rw [F_laws_markText_l0] at hF
  try dsimp only
  refine w_seq ?_
  refine ws 1 129 ?_
  refine qp (AI v5) rfl (qp (AB (decide ((0 : Int) < v5))) rfl ?_)
  refine r_nil ?_
  refine cF hF (fun hF => ?_) fun hF => ?_
  ·
   refine w_skip ?_
   refine thenQ_n ?_
   refine w_block ?_
   refine ws 129 705 ?_
   refine qp (AI v5) rfl (qp (AI (Int.tmod v5 10)) (ev_rem rfl rfl (by decide)) (qp (AI (w64 (48 + (Int.tmod v5 10)))) rfl (qp (.val none (.int .u8 (IntKind.wrap .u8 (w64 (48 + (Int.tmod v5 10)))))) rfl ?_)))
   refine qf (.sl 385 0 ([IntKind.wrap .u8 (w64 (48 + (Int.tmod v5 10)))].length)) [(385, .row true 1 ([IntKind.wrap .u8 (w64 (48 + (Int.tmod v5 10)))].map (V.int .u8)))] (by simp [List.take_of_length_le]) ?_
   refine qp (AS (bytesI [IntKind.wrap .u8 (w64 (48 + (Int.tmod v5 10)))])) (ev_bts_r rfl (by simp) rfl) (qp (AS v6) rfl ?_)
   obtain ⟨g1000, hF⟩ := need_some hF
   refine qp (AS ((bytesI [IntKind.wrap .u8 (w64 (48 + (Int.tmod v5 10)))]) ++ v6)) (ev_add_s rfl rfl g1000) (qp (AS ((bytesI [IntKind.wrap .u8 (w64 (48 + (Int.tmod v5 10)))]) ++ v6)) rfl ?_)
   refine r_nil ?_
   refine w_reg 705 897 rfl rfl ?_
   refine qp (AI v5) rfl (qp (AI (w64 (Int.tdiv v5 10))) (ev_quo rfl rfl (by decide)) (qp (AI (w64 (Int.tdiv v5 10))) rfl ?_))
   refine r_nil ?_
   refine blockQ_n ?_
   refine thenQ_n ?_
   refine ar (l' := [(0, AI (w64 (Int.tdiv v5 10))), (3, AS ((bytesI [IntKind.wrap .u8 (w64 (48 + (Int.tmod v5 10)))]) ++ v6))]) (L := []) [0, 3] [] 1 ⟨_, by rfl, hF⟩
  ·
   refine w_exit ?_
   refine thenQ_e ?_
   refine thenQ_e ?_
   refine blockQ_e ?_
   refine thenQ_n ?_
   refine ws 129 321 ?_
   refine qp (AS v6) rfl ?_
   obtain ⟨g1001, hF⟩ := need_some hF
   refine qp (AS ([109] ++ v6)) (ev_add_s rfl rfl g1001) (qp (AS ([109] ++ v6)) rfl ?_)
   refine r_nil ?_
   refine w_ret ?_
   cases hF
   exact eR

def c27 : MC := (.seq (.reg [rg 4 (.p true (.mv (.c (.int .i64 0))))]) (.seq (.seq (.reg [rg 5 (.p true (.mv (.c (.int .i64 0))))]) (.block 0 (.loop (.seq (.seq (.reg [rg 6 (.p true (.mv (.t 5))), rg 7 (.p true (.mv (.t 0))), rg 8 (.p true (.len (.t 7))), rg 9 (.p true (.bin .lss (.t 6) (.t 8)))]) (.cond (.t 9) .skip (.exit 0))) (.seq (.block 1 (.seq (.reg [rg 12 (.p true (.mv (.t 0))), rg 13 (.p true (.mv (.t 5))), rg 14 (.p true (.mv (.t 1))), rg 15 (.p true (.iad (.t 12) (.t 13) 5)), rg 16 (.p true (.fad (.t 15) 0)), ⟨none, none, (.f (.st (.t 16) (.t 14) 1))⟩]) (.seq (.reg [rg 17 (.p true (.mv (.t 1))), rg 18 (.p true (.bin .add (.t 17) (.c (.int .i64 1)))), rg 1 (.p true (.mv (.t 18)))]) (.seq (.reg [rg 19 (.p true (.mv (.t 0))), rg 20 (.p true (.mv (.t 5))), rg 21 (.p true (.mv (.t 1))), rg 22 (.call true 111 [(.t 21)]), rg 23 (.p true (.iad (.t 19) (.t 20) 5)), rg 24 (.p true (.fad (.t 23) 1)), ⟨none, none, (.f (.st (.t 24) (.t 22) 1))⟩]) (.seq (.reg [rg 25 (.p true (.mv (.t 1))), rg 26 (.p true (.bin .add (.t 25) (.c (.int .i64 1)))), rg 1 (.p true (.mv (.t 26)))]) (.seq (.reg [rg 27 (.p true (.mv (.t 0))), rg 28 (.p true (.mv (.t 5))), rg 29 (.p true (.mv (.t 1))), rg 30 (.call true 111 [(.t 29)]), rg 31 (.p true (.iad (.t 27) (.t 28) 5)), rg 32 (.p true (.fad (.t 31) 2)), ⟨none, none, (.f (.st (.t 32) (.t 30) 1))⟩]) (.seq (.reg [rg 33 (.p true (.mv (.t 1))), rg 34 (.p true (.bin .add (.t 33) (.c (.int .i64 1)))), rg 1 (.p true (.mv (.t 34)))]) (.seq (.reg [rg 35 (.p true (.mv (.t 0))), rg 36 (.p true (.mv (.t 5))), rg 37 (.p true (.mv (.t 1))), rg 38 (.p true (.iad (.t 35) (.t 36) 5)), rg 39 (.p true (.fad (.t 38) 3)), ⟨none, none, (.f (.st (.t 39) (.t 37) 1))⟩]) (.seq (.reg [rg 40 (.p true (.mv (.t 1))), rg 41 (.p true (.bin .add (.t 40) (.c (.int .i64 1)))), rg 1 (.p true (.mv (.t 41)))]) (.seq (.reg [rg 42 (.p true (.mv (.t 0))), rg 43 (.p true (.mv (.t 5))), rg 44 (.p true (.mv (.t 1))), rg 45 (.p true (.iad (.t 42) (.t 43) 5)), rg 46 (.p true (.fad (.t 45) 4)), ⟨none, none, (.f (.st (.t 46) (.t 44) 1))⟩]) (.reg [rg 47 (.p true (.mv (.t 1))), rg 48 (.p true (.bin .add (.t 47) (.c (.int .i64 1)))), rg 1 (.p true (.mv (.t 48)))]))))))))))) (.reg [rg 10 (.p true (.mv (.t 5))), rg 11 (.p true (.bin .add (.t 10) (.c (.int .i64 1)))), rg 5 (.p true (.mv (.t 11)))])))))) (.seq (.reg [rg 49 (.p true (.mv (.t 1))), rg 4 (.p true (.mv (.t 49)))]) .ret)))
theorem c27_is : compFnM Try.prog 27 = some (c27, [(.tmp 4)]) := by kernel_rfl
theorem c27_ok : okFn Try.prog 27 = true := by kernel_rfl

noncomputable def F_laws_markLessonS_l0 (k0 : Int × Int × (List TLesson) → Option ((List TLesson) × Int)) : Int × Int × (List TLesson) → Option ((List TLesson) × Int)
 | (v19, v20, v21) => (bif (decide (v20 < (v21.length : Int))) then ((ix v21 v20).bind fun v1000 => ((F_laws_markText (w64 (v19 + 1))).bind fun v1001 => ((ix (List.set v21 v20.toNat (v19, v1000.2.1, v1000.2.2.1, v1000.2.2.2.1, v1000.2.2.2.2)) v20).bind fun v1002 => ((F_laws_markText (w64 ((w64 (v19 + 1)) + 1))).bind fun v1003 => ((ix (List.set (List.set v21 v20.toNat (v19, v1000.2.1, v1000.2.2.1, v1000.2.2.2.1, v1000.2.2.2.2)) v20.toNat (v1002.1, v1001, v1002.2.2.1, v1002.2.2.2.1, v1002.2.2.2.2)) v20).bind fun v1004 => ((ix (List.set (List.set (List.set v21 v20.toNat (v19, v1000.2.1, v1000.2.2.1, v1000.2.2.2.1, v1000.2.2.2.2)) v20.toNat (v1002.1, v1001, v1002.2.2.1, v1002.2.2.2.1, v1002.2.2.2.2)) v20.toNat (v1004.1, v1004.2.1, v1003, v1004.2.2.2.1, v1004.2.2.2.2)) v20).bind fun v1005 => ((ix (List.set (List.set (List.set (List.set v21 v20.toNat (v19, v1000.2.1, v1000.2.2.1, v1000.2.2.2.1, v1000.2.2.2.2)) v20.toNat (v1002.1, v1001, v1002.2.2.1, v1002.2.2.2.1, v1002.2.2.2.2)) v20.toNat (v1004.1, v1004.2.1, v1003, v1004.2.2.2.1, v1004.2.2.2.2)) v20.toNat (v1005.1, v1005.2.1, v1005.2.2.1, w64 ((w64 ((w64 (v19 + 1)) + 1)) + 1), v1005.2.2.2.2)) v20).bind fun v1006 => k0 (w64 ((w64 ((w64 ((w64 ((w64 (v19 + 1)) + 1)) + 1)) + 1)) + 1), w64 (v20 + 1), List.set (List.set (List.set (List.set (List.set v21 v20.toNat (v19, v1000.2.1, v1000.2.2.1, v1000.2.2.2.1, v1000.2.2.2.2)) v20.toNat (v1002.1, v1001, v1002.2.2.1, v1002.2.2.2.1, v1002.2.2.2.2)) v20.toNat (v1004.1, v1004.2.1, v1003, v1004.2.2.2.1, v1004.2.2.2.2)) v20.toNat (v1005.1, v1005.2.1, v1005.2.2.1, w64 ((w64 ((w64 (v19 + 1)) + 1)) + 1), v1005.2.2.2.2)) v20.toNat (v1006.1, v1006.2.1, v1006.2.2.1, v1006.2.2.2.1, w64 ((w64 ((w64 ((w64 (v19 + 1)) + 1)) + 1)) + 1))))))))))
 else some (v21, v19))
noncomputable def F_laws_markLessonS (v0 : List TLesson) (v1 : Int) : Option ((List TLesson) × Int) :=
 loop (F_laws_markLessonS_l0) (v1, 0, v0)
theorem con_laws_markLessonS {v0 : List TLesson} {v1 : Int} {r : (List TLesson) × Int} (hF : F_laws_markLessonS v0 v1 = some r) : ConM Try.prog 27 (.one (.row true 5 (v0.map eLesson))) (.one (.row true 5 (r.1.map eLesson))) [.int .i64 v1] (.int .i64 r.2) := by
 unfold F_laws_markLessonS at hF
 refine conM_of (av := .sl 0 0 v0.length) (L := [(0, .row true 5 (v0.map eLesson))]) c27_is rfl rfl rfl (by simp) fun N => ?_
 refine ws 64 128 ?_
 refine qp (AI 0) rfl ?_
 refine r_nil ?_
 refine w_seq ?_
 refine ws 128 192 ?_
 refine qp (AI 0) rfl ?_
 refine r_nil ?_
 refine w_block ?_
 refine wr (l' := [(0, .sl 0 0 v0.length), (1, AI v1), (5, AI 0)]) (L := [(0, .row true 5 (v0.map eLesson))]) [0, 1, 5] [(0, 0)] 1 ?_
 refine w_loopF (F_laws_markLessonS_l0) (fun s : Int × Int × (List TLesson) => mkS [(0, .sl 0 0 s.2.2.length), (1, AI s.1), (5, AI s.2.1)] (fo [(0, .row true 5 (s.2.2.map eLesson))]) 1) hF ?_
 rintro k0 ⟨v19, v20, v21⟩ hF
 rw [F_laws_markLessonS_l0] at hF
 try dsimp only
 refine w_seq ?_
 refine ws 1 257 ?_
 refine qp (AI v20) rfl (qp (.sl 0 0 v21.length) rfl (qp (AI (v21.length : Int)) rfl (qp (AB (decide (v20 < (v21.length : Int)))) rfl ?_)))
 refine r_nil ?_
 refine cF hF (fun hF => ?_) fun hF => ?_
 ·
  refine w_skip ?_
  refine thenQ_n ?_
  refine w_seq ?_
  refine w_block ?_
  refine ws 257 641 ?_
  refine qp (.sl 0 0 v21.length) rfl (qp (AI v20) rfl (qp (AI v19) rfl ?_))
  obtain ⟨v1000, e1000, hF⟩ := bind_get hF
  refine qp (.ptr 0 v20.toNat 0) (ev_iad_r rfl (by simp) rfl rfl e1000) (qp (.ptr 0 v20.toNat 0) rfl ?_)
  refine qf0 (.undef) [(0, .row true 5 ((List.set v21 v20.toNat (v19, v1000.2.1, v1000.2.2.1, v1000.2.2.2.1, v1000.2.2.2.2)).map eLesson)), (0, .row true 5 (v21.map eLesson))] (effT_st rfl rfl (ix_some e1000).2 rfl rfl (by rfl) (by first | rfl | simp [patch, reb, List.take_of_length_le]) (by rfl) rfl) ?_
  refine r_nil ?_
  refine ws 641 833 ?_
  refine qp (AI v19) rfl (qp (AI (w64 (v19 + 1))) rfl (qp (AI (w64 (v19 + 1))) rfl ?_))
  refine r_nil ?_
  refine ws 833 1281 ?_
  refine qp (.sl 0 0 v21.length) rfl (qp (AI v20) rfl (qp (AI (w64 (v19 + 1))) rfl ?_))
  obtain ⟨v1001, e1001, hF⟩ := bind_get hF
  refine qc (AS v1001) [(0, .row true 5 ((List.set v21 v20.toNat (v19, v1000.2.1, v1000.2.2.1, v1000.2.2.2.1, v1000.2.2.2.2)).map eLesson)), (0, .row true 5 (v21.map eLesson))] false (con_laws_markText e1001) c111_ok (by first | rfl | simp) rfl ?_
  obtain ⟨v1002, e1002, hF⟩ := bind_get hF
  refine qp (.ptr 0 v20.toNat 0) (ev_iad_r rfl (by simp) rfl rfl e1002) (qp (.ptr 0 v20.toNat 1) rfl ?_)
  refine qf0 (.undef) [(0, .row true 5 ((List.set (List.set v21 v20.toNat (v19, v1000.2.1, v1000.2.2.1, v1000.2.2.2.1, v1000.2.2.2.2)) v20.toNat (v1002.1, v1001, v1002.2.2.1, v1002.2.2.2.1, v1002.2.2.2.2)).map eLesson)), (0, .row true 5 ((List.set v21 v20.toNat (v19, v1000.2.1, v1000.2.2.1, v1000.2.2.2.1, v1000.2.2.2.2)).map eLesson)), (0, .row true 5 (v21.map eLesson))] (effT_st rfl rfl (ix_some e1002).2 rfl rfl (by rfl) (by first | rfl | simp [patch, reb, List.take_of_length_le]) (by rfl) rfl) ?_
  refine r_nil ?_
  refine ws 1281 1473 ?_
  refine qp (AI (w64 (v19 + 1))) rfl (qp (AI (w64 ((w64 (v19 + 1)) + 1))) rfl (qp (AI (w64 ((w64 (v19 + 1)) + 1))) rfl ?_))
  refine r_nil ?_
  refine ws 1473 1921 ?_
  refine qp (.sl 0 0 v21.length) rfl (qp (AI v20) rfl (qp (AI (w64 ((w64 (v19 + 1)) + 1))) rfl ?_))
  obtain ⟨v1003, e1003, hF⟩ := bind_get hF
  refine qc (AS v1003) [(0, .row true 5 ((List.set (List.set v21 v20.toNat (v19, v1000.2.1, v1000.2.2.1, v1000.2.2.2.1, v1000.2.2.2.2)) v20.toNat (v1002.1, v1001, v1002.2.2.1, v1002.2.2.2.1, v1002.2.2.2.2)).map eLesson)), (0, .row true 5 ((List.set v21 v20.toNat (v19, v1000.2.1, v1000.2.2.1, v1000.2.2.2.1, v1000.2.2.2.2)).map eLesson)), (0, .row true 5 (v21.map eLesson))] false (con_laws_markText e1003) c111_ok (by first | rfl | simp) rfl ?_
  obtain ⟨v1004, e1004, hF⟩ := bind_get hF
  refine qp (.ptr 0 v20.toNat 0) (ev_iad_r rfl (by simp) rfl rfl e1004) (qp (.ptr 0 v20.toNat 2) rfl ?_)
  refine qf0 (.undef) [(0, .row true 5 ((List.set (List.set (List.set v21 v20.toNat (v19, v1000.2.1, v1000.2.2.1, v1000.2.2.2.1, v1000.2.2.2.2)) v20.toNat (v1002.1, v1001, v1002.2.2.1, v1002.2.2.2.1, v1002.2.2.2.2)) v20.toNat (v1004.1, v1004.2.1, v1003, v1004.2.2.2.1, v1004.2.2.2.2)).map eLesson)), (0, .row true 5 ((List.set (List.set v21 v20.toNat (v19, v1000.2.1, v1000.2.2.1, v1000.2.2.2.1, v1000.2.2.2.2)) v20.toNat (v1002.1, v1001, v1002.2.2.1, v1002.2.2.2.1, v1002.2.2.2.2)).map eLesson)), (0, .row true 5 ((List.set v21 v20.toNat (v19, v1000.2.1, v1000.2.2.1, v1000.2.2.2.1, v1000.2.2.2.2)).map eLesson)), (0, .row true 5 (v21.map eLesson))] (effT_st rfl rfl (ix_some e1004).2 rfl rfl (by rfl) (by first | rfl | simp [patch, reb, List.take_of_length_le]) (by rfl) rfl) ?_
  refine r_nil ?_
  refine ws 1921 2113 ?_
  refine qp (AI (w64 ((w64 (v19 + 1)) + 1))) rfl (qp (AI (w64 ((w64 ((w64 (v19 + 1)) + 1)) + 1))) rfl (qp (AI (w64 ((w64 ((w64 (v19 + 1)) + 1)) + 1))) rfl ?_))
  refine r_nil ?_
  refine ws 2113 2497 ?_
  refine qp (.sl 0 0 v21.length) rfl (qp (AI v20) rfl (qp (AI (w64 ((w64 ((w64 (v19 + 1)) + 1)) + 1))) rfl ?_))
  obtain ⟨v1005, e1005, hF⟩ := bind_get hF
  refine qp (.ptr 0 v20.toNat 0) (ev_iad_r rfl (by simp) rfl rfl e1005) (qp (.ptr 0 v20.toNat 3) rfl ?_)
  refine qf0 (.undef) [(0, .row true 5 ((List.set (List.set (List.set (List.set v21 v20.toNat (v19, v1000.2.1, v1000.2.2.1, v1000.2.2.2.1, v1000.2.2.2.2)) v20.toNat (v1002.1, v1001, v1002.2.2.1, v1002.2.2.2.1, v1002.2.2.2.2)) v20.toNat (v1004.1, v1004.2.1, v1003, v1004.2.2.2.1, v1004.2.2.2.2)) v20.toNat (v1005.1, v1005.2.1, v1005.2.2.1, w64 ((w64 ((w64 (v19 + 1)) + 1)) + 1), v1005.2.2.2.2)).map eLesson)), (0, .row true 5 ((List.set (List.set (List.set v21 v20.toNat (v19, v1000.2.1, v1000.2.2.1, v1000.2.2.2.1, v1000.2.2.2.2)) v20.toNat (v1002.1, v1001, v1002.2.2.1, v1002.2.2.2.1, v1002.2.2.2.2)) v20.toNat (v1004.1, v1004.2.1, v1003, v1004.2.2.2.1, v1004.2.2.2.2)).map eLesson)), (0, .row true 5 ((List.set (List.set v21 v20.toNat (v19, v1000.2.1, v1000.2.2.1, v1000.2.2.2.1, v1000.2.2.2.2)) v20.toNat (v1002.1, v1001, v1002.2.2.1, v1002.2.2.2.1, v1002.2.2.2.2)).map eLesson)), (0, .row true 5 ((List.set v21 v20.toNat (v19, v1000.2.1, v1000.2.2.1, v1000.2.2.2.1, v1000.2.2.2.2)).map eLesson)), (0, .row true 5 (v21.map eLesson))] (effT_st rfl rfl (ix_some e1005).2 rfl rfl (by rfl) (by first | rfl | simp [patch, reb, List.take_of_length_le]) (by rfl) rfl) ?_
  refine r_nil ?_
  refine ws 2497 2689 ?_
  refine qp (AI (w64 ((w64 ((w64 (v19 + 1)) + 1)) + 1))) rfl (qp (AI (w64 ((w64 ((w64 ((w64 (v19 + 1)) + 1)) + 1)) + 1))) rfl (qp (AI (w64 ((w64 ((w64 ((w64 (v19 + 1)) + 1)) + 1)) + 1))) rfl ?_))
  refine r_nil ?_
  refine ws 2689 3073 ?_
  refine qp (.sl 0 0 v21.length) rfl (qp (AI v20) rfl (qp (AI (w64 ((w64 ((w64 ((w64 (v19 + 1)) + 1)) + 1)) + 1))) rfl ?_))
  obtain ⟨v1006, e1006, hF⟩ := bind_get hF
  refine qp (.ptr 0 v20.toNat 0) (ev_iad_r rfl (by simp) rfl rfl e1006) (qp (.ptr 0 v20.toNat 4) rfl ?_)
  refine qf0 (.undef) [(0, .row true 5 ((List.set (List.set (List.set (List.set (List.set v21 v20.toNat (v19, v1000.2.1, v1000.2.2.1, v1000.2.2.2.1, v1000.2.2.2.2)) v20.toNat (v1002.1, v1001, v1002.2.2.1, v1002.2.2.2.1, v1002.2.2.2.2)) v20.toNat (v1004.1, v1004.2.1, v1003, v1004.2.2.2.1, v1004.2.2.2.2)) v20.toNat (v1005.1, v1005.2.1, v1005.2.2.1, w64 ((w64 ((w64 (v19 + 1)) + 1)) + 1), v1005.2.2.2.2)) v20.toNat (v1006.1, v1006.2.1, v1006.2.2.1, v1006.2.2.2.1, w64 ((w64 ((w64 ((w64 (v19 + 1)) + 1)) + 1)) + 1))).map eLesson)), (0, .row true 5 ((List.set (List.set (List.set (List.set v21 v20.toNat (v19, v1000.2.1, v1000.2.2.1, v1000.2.2.2.1, v1000.2.2.2.2)) v20.toNat (v1002.1, v1001, v1002.2.2.1, v1002.2.2.2.1, v1002.2.2.2.2)) v20.toNat (v1004.1, v1004.2.1, v1003, v1004.2.2.2.1, v1004.2.2.2.2)) v20.toNat (v1005.1, v1005.2.1, v1005.2.2.1, w64 ((w64 ((w64 (v19 + 1)) + 1)) + 1), v1005.2.2.2.2)).map eLesson)), (0, .row true 5 ((List.set (List.set (List.set v21 v20.toNat (v19, v1000.2.1, v1000.2.2.1, v1000.2.2.2.1, v1000.2.2.2.2)) v20.toNat (v1002.1, v1001, v1002.2.2.1, v1002.2.2.2.1, v1002.2.2.2.2)) v20.toNat (v1004.1, v1004.2.1, v1003, v1004.2.2.2.1, v1004.2.2.2.2)).map eLesson)), (0, .row true 5 ((List.set (List.set v21 v20.toNat (v19, v1000.2.1, v1000.2.2.1, v1000.2.2.2.1, v1000.2.2.2.2)) v20.toNat (v1002.1, v1001, v1002.2.2.1, v1002.2.2.2.1, v1002.2.2.2.2)).map eLesson)), (0, .row true 5 ((List.set v21 v20.toNat (v19, v1000.2.1, v1000.2.2.1, v1000.2.2.2.1, v1000.2.2.2.2)).map eLesson)), (0, .row true 5 (v21.map eLesson))] (effT_st rfl rfl (ix_some e1006).2 rfl rfl (by rfl) (by first | rfl | simp [patch, reb, List.take_of_length_le]) (by rfl) rfl) ?_
  refine r_nil ?_
  refine w_reg 3073 3265 rfl rfl ?_
  refine qp (AI (w64 ((w64 ((w64 ((w64 (v19 + 1)) + 1)) + 1)) + 1))) rfl (qp (AI (w64 ((w64 ((w64 ((w64 ((w64 (v19 + 1)) + 1)) + 1)) + 1)) + 1))) rfl (qp (AI (w64 ((w64 ((w64 ((w64 ((w64 (v19 + 1)) + 1)) + 1)) + 1)) + 1))) rfl ?_))
  refine r_nil ?_
  refine blockQ_n ?_
  refine thenQ_n ?_
  refine w_reg 3265 3457 rfl rfl ?_
  refine qp (AI v20) rfl (qp (AI (w64 (v20 + 1))) rfl (qp (AI (w64 (v20 + 1))) rfl ?_))
  refine r_nil ?_
  refine thenQ_n ?_
  refine ar (l' := [(0, .sl 0 0 (List.set (List.set (List.set (List.set (List.set v21 v20.toNat (v19, v1000.2.1, v1000.2.2.1, v1000.2.2.2.1, v1000.2.2.2.2)) v20.toNat (v1002.1, v1001, v1002.2.2.1, v1002.2.2.2.1, v1002.2.2.2.2)) v20.toNat (v1004.1, v1004.2.1, v1003, v1004.2.2.2.1, v1004.2.2.2.2)) v20.toNat (v1005.1, v1005.2.1, v1005.2.2.1, w64 ((w64 ((w64 (v19 + 1)) + 1)) + 1), v1005.2.2.2.2)) v20.toNat (v1006.1, v1006.2.1, v1006.2.2.1, v1006.2.2.2.1, w64 ((w64 ((w64 ((w64 (v19 + 1)) + 1)) + 1)) + 1))).length), (1, AI (w64 ((w64 ((w64 ((w64 ((w64 (v19 + 1)) + 1)) + 1)) + 1)) + 1))), (5, AI (w64 (v20 + 1)))]) (L := [(0, .row true 5 ((List.set (List.set (List.set (List.set (List.set v21 v20.toNat (v19, v1000.2.1, v1000.2.2.1, v1000.2.2.2.1, v1000.2.2.2.2)) v20.toNat (v1002.1, v1001, v1002.2.2.1, v1002.2.2.2.1, v1002.2.2.2.2)) v20.toNat (v1004.1, v1004.2.1, v1003, v1004.2.2.2.1, v1004.2.2.2.2)) v20.toNat (v1005.1, v1005.2.1, v1005.2.2.1, w64 ((w64 ((w64 (v19 + 1)) + 1)) + 1), v1005.2.2.2.2)) v20.toNat (v1006.1, v1006.2.1, v1006.2.2.1, v1006.2.2.2.1, w64 ((w64 ((w64 ((w64 (v19 + 1)) + 1)) + 1)) + 1))).map eLesson))]) [0, 1, 5] [(0, 0)] 1 ⟨_, by rfl, hF⟩
 ·
  refine w_exit ?_
  refine thenQ_e ?_
  refine thenQ_e ?_
  refine blockQ_e ?_
  refine thenQ_n ?_
  refine ws 257 385 ?_
  refine qp (AI v19) rfl (qp (AI v19) rfl ?_)
  refine r_nil ?_
  refine w_ret ?_
  cases hF
  exact endM_r rfl rfl (by first | rfl | (simp [List.take_of_length_le]; first | exact ⟨rfl, rfl⟩ | rfl)) (by simp)

def c29 : MC := (.seq (.reg [rg 4 (.p true (.mv (.c (.int .i64 0))))]) (.seq (.seq (.reg [rg 5 (.p true (.mv (.c (.int .i64 0))))]) (.block 0 (.loop (.seq (.seq (.reg [rg 6 (.p true (.mv (.t 5))), rg 7 (.p true (.mv (.t 0))), rg 8 (.p true (.len (.t 7))), rg 9 (.p true (.bin .lss (.t 6) (.t 8)))]) (.cond (.t 9) .skip (.exit 0))) (.seq (.block 1 (.seq (.reg [rg 12 (.p true (.mv (.t 0))), rg 13 (.p true (.mv (.t 5))), rg 14 (.p true (.mv (.t 1))), rg 15 (.call true 111 [(.t 14)]), rg 16 (.p true (.iad (.t 12) (.t 13) 1)), ⟨none, none, (.f (.st (.t 16) (.t 15) 1))⟩]) (.reg [rg 17 (.p true (.mv (.t 1))), rg 18 (.p true (.bin .add (.t 17) (.c (.int .i64 1)))), rg 1 (.p true (.mv (.t 18)))]))) (.reg [rg 10 (.p true (.mv (.t 5))), rg 11 (.p true (.bin .add (.t 10) (.c (.int .i64 1)))), rg 5 (.p true (.mv (.t 11)))])))))) (.seq (.reg [rg 19 (.p true (.mv (.t 1))), rg 4 (.p true (.mv (.t 19)))]) .ret)))
theorem c29_is : compFnM Try.prog 29 = some (c29, [(.tmp 4)]) := by kernel_rfl
theorem c29_ok : okFn Try.prog 29 = true := by kernel_rfl

noncomputable def F_laws_markStringS_l0 (k0 : Int × Int × (List (List UInt8)) → Option ((List (List UInt8)) × Int)) : Int × Int × (List (List UInt8)) → Option ((List (List UInt8)) × Int)
 | (v9, v10, v11) => (bif (decide (v10 < (v11.length : Int))) then ((F_laws_markText v9).bind fun v1000 => ((ix v11 v10).bind fun v1001 => k0 (w64 (v9 + 1), w64 (v10 + 1), List.set v11 v10.toNat v1000)))
 else some (v11, v9))
noncomputable def F_laws_markStringS (v0 : List (List UInt8)) (v1 : Int) : Option ((List (List UInt8)) × Int) :=
 loop (F_laws_markStringS_l0) (v1, 0, v0)
theorem con_laws_markStringS {v0 : List (List UInt8)} {v1 : Int} {r : (List (List UInt8)) × Int} (hF : F_laws_markStringS v0 v1 = some r) : ConM Try.prog 29 (.one (.row true 1 (v0.map V.str))) (.one (.row true 1 (r.1.map V.str))) [.int .i64 v1] (.int .i64 r.2) := by
 unfold F_laws_markStringS at hF
 refine conM_of (av := .sl 0 0 v0.length) (L := [(0, .row true 1 (v0.map V.str))]) c29_is rfl rfl rfl (by simp) fun N => ?_
 refine ws 64 128 ?_
 refine qp (AI 0) rfl ?_
 refine r_nil ?_
 refine w_seq ?_
 refine ws 128 192 ?_
 refine qp (AI 0) rfl ?_
 refine r_nil ?_
 refine w_block ?_
 refine wr (l' := [(0, .sl 0 0 v0.length), (1, AI v1), (5, AI 0)]) (L := [(0, .row true 1 (v0.map V.str))]) [0, 1, 5] [(0, 0)] 1 ?_
 refine w_loopF (F_laws_markStringS_l0) (fun s : Int × Int × (List (List UInt8)) => mkS [(0, .sl 0 0 s.2.2.length), (1, AI s.1), (5, AI s.2.1)] (fo [(0, .row true 1 (s.2.2.map V.str))]) 1) hF ?_
 rintro k0 ⟨v9, v10, v11⟩ hF
 rw [F_laws_markStringS_l0] at hF
 try dsimp only
 refine w_seq ?_
 refine ws 1 257 ?_
 refine qp (AI v10) rfl (qp (.sl 0 0 v11.length) rfl (qp (AI (v11.length : Int)) rfl (qp (AB (decide (v10 < (v11.length : Int)))) rfl ?_)))
 refine r_nil ?_
 refine cF hF (fun hF => ?_) fun hF => ?_
 ·
  refine w_skip ?_
  refine thenQ_n ?_
  refine w_seq ?_
  refine w_block ?_
  refine ws 257 641 ?_
  refine qp (.sl 0 0 v11.length) rfl (qp (AI v10) rfl (qp (AI v9) rfl ?_))
  obtain ⟨v1000, e1000, hF⟩ := bind_get hF
  refine qc (AS v1000) [(0, .row true 1 (v11.map V.str))] false (con_laws_markText e1000) c111_ok (by first | rfl | simp) rfl ?_
  obtain ⟨v1001, e1001, hF⟩ := bind_get hF
  refine qp (.ptr 0 v10.toNat 0) (ev_iad_r rfl (by simp) rfl rfl e1001) ?_
  refine qf0 (.undef) [(0, .row true 1 ((List.set v11 v10.toNat v1000).map V.str)), (0, .row true 1 (v11.map V.str))] (effT_st rfl rfl (ix_some e1001).2 rfl rfl (by rfl) (by first | rfl | simp [patch, reb, List.take_of_length_le]) (by rfl) rfl) ?_
  refine r_nil ?_
  refine w_reg 641 833 rfl rfl ?_
  refine qp (AI v9) rfl (qp (AI (w64 (v9 + 1))) rfl (qp (AI (w64 (v9 + 1))) rfl ?_))
  refine r_nil ?_
  refine blockQ_n ?_
  refine thenQ_n ?_
  refine w_reg 833 1025 rfl rfl ?_
  refine qp (AI v10) rfl (qp (AI (w64 (v10 + 1))) rfl (qp (AI (w64 (v10 + 1))) rfl ?_))
  refine r_nil ?_
  refine thenQ_n ?_
  refine ar (l' := [(0, .sl 0 0 (List.set v11 v10.toNat v1000).length), (1, AI (w64 (v9 + 1))), (5, AI (w64 (v10 + 1)))]) (L := [(0, .row true 1 ((List.set v11 v10.toNat v1000).map V.str))]) [0, 1, 5] [(0, 0)] 1 ⟨_, by rfl, hF⟩
 ·
  refine w_exit ?_
  refine thenQ_e ?_
  refine thenQ_e ?_
  refine blockQ_e ?_
  refine thenQ_n ?_
  refine ws 257 385 ?_
  refine qp (AI v9) rfl (qp (AI v9) rfl ?_)
  refine r_nil ?_
  refine w_ret ?_
  cases hF
  exact endM_r rfl rfl (by first | rfl | (simp [List.take_of_length_le]; first | exact ⟨rfl, rfl⟩ | rfl)) (by simp)

def c28 : MC := (.seq (.reg [rg 4 (.p true (.mv (.c (.int .i64 0))))]) (.seq (.seq (.reg [rg 5 (.p true (.mv (.c (.int .i64 0))))]) (.block 0 (.loop (.seq (.seq (.reg [rg 6 (.p true (.mv (.t 5))), rg 7 (.p true (.mv (.t 0))), rg 8 (.p true (.len (.t 7))), rg 9 (.p true (.bin .lss (.t 6) (.t 8)))]) (.cond (.t 9) .skip (.exit 0))) (.seq (.block 1 (.reg [rg 12 (.p true (.mv (.t 0))), rg 13 (.p true (.mv (.t 5))), rg 14 (.p true (.iad (.t 12) (.t 13) 1)), rg 15 (.p true (.ld (.t 14) 1 false)), rg 16 (.p true (.mv (.t 1))), rg 17 (.call true 29 [(.t 15), (.t 16)]), rg 1 (.p true (.mv (.t 17)))])) (.reg [rg 10 (.p true (.mv (.t 5))), rg 11 (.p true (.bin .add (.t 10) (.c (.int .i64 1)))), rg 5 (.p true (.mv (.t 11)))])))))) (.seq (.reg [rg 18 (.p true (.mv (.t 1))), rg 4 (.p true (.mv (.t 18)))]) .ret)))
theorem c28_is : compFnM Try.prog 28 = some (c28, [(.tmp 4)]) := by kernel_rfl
theorem c28_ok : okFn Try.prog 28 = true := by kernel_rfl

noncomputable def F_laws_markStringSS_l0 (k0 : Int × Int × (List (List (List UInt8))) → Option ((List (List (List UInt8))) × Int)) : Int × Int × (List (List (List UInt8))) → Option ((List (List (List UInt8))) × Int)
 | (v11, v12, v13) => (bif (decide (v12 < (v13.length : Int))) then ((ix v13 v12).bind fun v1000 => ((F_laws_markStringS v1000 v11).bind fun v1001 => need (v1001.1.length = v1000.length) (k0 (v1001.2, w64 (v12 + 1), List.set v13 v12.toNat v1001.1))))
 else some (v13, v11))
noncomputable def F_laws_markStringSS (v0 : List (List (List UInt8))) (v1 : Int) : Option ((List (List (List UInt8))) × Int) :=
 loop (F_laws_markStringSS_l0) (v1, 0, v0)
theorem con_laws_markStringSS {v0 : List (List (List UInt8))} {v1 : Int} {r : (List (List (List UInt8))) × Int} (hF : F_laws_markStringSS v0 v1 = some r) : ConM Try.prog 28 (.one (.row true 1 (v0.map (eL 1 V.str)))) (.one (.row true 1 (r.1.map (eL 1 V.str)))) [.int .i64 v1] (.int .i64 r.2) := by
 unfold F_laws_markStringSS at hF
 refine conM_of (av := .sl 0 0 v0.length) (L := [(0, .row true 1 (v0.map (eL 1 V.str)))]) c28_is rfl rfl rfl (by simp) fun N => ?_
 refine ws 64 128 ?_
 refine qp (AI 0) rfl ?_
 refine r_nil ?_
 refine w_seq ?_
 refine ws 128 192 ?_
 refine qp (AI 0) rfl ?_
 refine r_nil ?_
 refine w_block ?_
 refine wr (l' := [(0, .sl 0 0 v0.length), (1, AI v1), (5, AI 0)]) (L := [(0, .row true 1 (v0.map (eL 1 V.str)))]) [0, 1, 5] [(0, 0)] 1 ?_
 refine w_loopF (F_laws_markStringSS_l0) (fun s : Int × Int × (List (List (List UInt8))) => mkS [(0, .sl 0 0 s.2.2.length), (1, AI s.1), (5, AI s.2.1)] (fo [(0, .row true 1 (s.2.2.map (eL 1 V.str)))]) 1) hF ?_
 rintro k0 ⟨v11, v12, v13⟩ hF
 rw [F_laws_markStringSS_l0] at hF
 try dsimp only
 refine w_seq ?_
 refine ws 1 257 ?_
 refine qp (AI v12) rfl (qp (.sl 0 0 v13.length) rfl (qp (AI (v13.length : Int)) rfl (qp (AB (decide (v12 < (v13.length : Int)))) rfl ?_)))
 refine r_nil ?_
 refine cF hF (fun hF => ?_) fun hF => ?_
 ·
  refine w_skip ?_
  refine thenQ_n ?_
  refine w_seq ?_
  refine w_block ?_
  refine w_reg 257 705 rfl rfl ?_
  refine qp (.sl 0 0 v13.length) rfl (qp (AI v12) rfl ?_)
  obtain ⟨v1000, e1000, hF⟩ := bind_get hF
  refine qp (.ptr 0 v12.toNat 0) (ev_iad_r rfl (by simp) rfl rfl e1000) ?_
  obtain ⟨v1001, e1001, hF⟩ := bind_get hF
  obtain ⟨g1002, hF⟩ := need_some hF
  refine qm_l [(0, .row true 1 ((List.set v13 v12.toNat v1001.1).map (eL 1 V.str))), (0, .row true 1 (v13.map (eL 1 V.str)))] rfl rfl (map_get (ix_some e1000).2) rfl rfl rfl (con_laws_markStringS e1001) c29_ok (by simp [g1002]) rfl rfl rfl (by simp [scrO_fo, scrR, scrA, scrAs, patch, reb, List.map_set]) ?_
  refine qp (AI v1001.2) rfl ?_
  refine r_nil ?_
  refine blockQ_n ?_
  refine thenQ_n ?_
  refine w_reg 705 897 rfl rfl ?_
  refine qp (AI v12) rfl (qp (AI (w64 (v12 + 1))) rfl (qp (AI (w64 (v12 + 1))) rfl ?_))
  refine r_nil ?_
  refine thenQ_n ?_
  refine ar (l' := [(0, .sl 0 0 (List.set v13 v12.toNat v1001.1).length), (1, AI v1001.2), (5, AI (w64 (v12 + 1)))]) (L := [(0, .row true 1 ((List.set v13 v12.toNat v1001.1).map (eL 1 V.str)))]) [0, 1, 5] [(0, 0)] 1 ⟨_, by rfl, hF⟩
 ·
  refine w_exit ?_
  refine thenQ_e ?_
  refine thenQ_e ?_
  refine blockQ_e ?_
  refine thenQ_n ?_
  refine ws 257 385 ?_
  refine qp (AI v11) rfl (qp (AI v11) rfl ?_)
  refine r_nil ?_
  refine w_ret ?_
  cases hF
  exact endM_r rfl rfl (by first | rfl | (simp [List.take_of_length_le]; first | exact ⟨rfl, rfl⟩ | rfl)) (by simp)

def c30 : MC := (.seq (.reg [rg 4 (.p true (.mv (.c (.int .i64 0))))]) (.seq (.seq (.reg [rg 5 (.p true (.mv (.c (.int .i64 0))))]) (.block 0 (.loop (.seq (.seq (.reg [rg 6 (.p true (.mv (.t 5))), rg 7 (.p true (.mv (.t 0))), rg 8 (.p true (.len (.t 7))), rg 9 (.p true (.bin .lss (.t 6) (.t 8)))]) (.cond (.t 9) .skip (.exit 0))) (.seq (.block 1 (.seq (.seq (.reg [rg 12 (.p false (.mv (.t 0))), rg 13 (.p false (.mv (.t 5))), rg 14 (.p false (.iad (.t 12) (.t 13) 1)), rg 15 (.p false (.ld (.t 14) 1 false)), rg 16 (.p false (.mv (.t 1))), rg 17 (.call false 111 [(.t 16)]), rg 18 (.p false (.bin .neq (.t 15) (.t 17)))]) (.cond (.t 18) (.seq (.reg [rg 4 (.p true (.mv (.c (.int .i64 (-1)))))]) .ret) .skip)) (.reg [rg 19 (.p true (.mv (.t 1))), rg 20 (.p true (.bin .add (.t 19) (.c (.int .i64 1)))), rg 1 (.p true (.mv (.t 20)))]))) (.reg [rg 10 (.p true (.mv (.t 5))), rg 11 (.p true (.bin .add (.t 10) (.c (.int .i64 1)))), rg 5 (.p true (.mv (.t 11)))])))))) (.seq (.reg [rg 21 (.p true (.mv (.t 1))), rg 4 (.p true (.mv (.t 21)))]) .ret)))
theorem c30_is : compFn Try.prog 30 = some (c30, [(.tmp 4)]) := by kernel_rfl
theorem c30_ok : okFn Try.prog 30 = true := by kernel_rfl

noncomputable def F_laws_heldStringS_l0 (v0 : List (List UInt8)) (k0 : Int × Int → Option (Int)) : Int × Int → Option (Int)
 | (v8, v9) => (bif (decide (v9 < (v0.length : Int))) then ((ix v0 v9).bind fun v1000 => ((F_laws_markText v8).bind fun v1001 => (bif (decide (v1000 ≠ v1001)) then some (-1)
 else k0 (w64 (v8 + 1), w64 (v9 + 1)))))
 else some v8)
noncomputable def F_laws_heldStringS (v0 : List (List UInt8)) (v1 : Int) : Option (Int) :=
 loop (F_laws_heldStringS_l0 v0) (v1, 0)
@[simp] def res_laws_heldStringS (r : Int) : RV := .one (.one (.val (.int .i64 r)))
theorem con_laws_heldStringS {v0 : List (List UInt8)} {v1 : Int} {r : Int} (hF : F_laws_heldStringS v0 v1 = some r) : Con Try.prog 30 [.sl 1 (v0.map V.str), .int .i64 v1] (res_laws_heldStringS r) := by
 unfold F_laws_heldStringS at hF
 refine con_of c30_is fun N => ?_
 refine ws 0 64 ?_
 refine qp (AI 0) rfl ?_
 refine r_nil ?_
 refine w_seq ?_
 refine ws 64 128 ?_
 refine qp (AI 0) rfl ?_
 refine r_nil ?_
 refine w_block ?_
 refine wr (l' := [(0, AL 1 (v0.map V.str)), (1, AI v1), (5, AI 0)]) (L := []) [0, 1, 5] [] 1 ?_
 refine w_loopF (F_laws_heldStringS_l0 v0) (fun s : Int × Int => mkS [(0, AL 1 (v0.map V.str)), (1, AI s.1), (5, AI s.2)] (fo []) 1) hF ?_
 rintro k0 ⟨v8, v9⟩ hF
 rw [F_laws_heldStringS_l0] at hF
 try dsimp only
 refine w_seq ?_
 refine ws 1 257 ?_
 refine qp (AI v9) rfl (qp (AL 1 (v0.map V.str)) rfl (qp (AI (v0.length : Int)) (ev_len_n rfl) (qp (AB (decide (v9 < (v0.length : Int)))) rfl ?_)))
 refine r_nil ?_
 refine cF hF (fun hF => ?_) fun hF => ?_
 ·
  refine w_skip ?_
  refine thenQ_n ?_
  refine w_seq ?_
  refine w_block ?_
  refine w_seq ?_
  refine ws 257 705 ?_
  refine qp (AL 1 (v0.map V.str)) rfl (qp (AI v9) rfl ?_)
  obtain ⟨v1000, e1000, hF⟩ := bind_get hF
  refine qp (.val none (.ptr [.str v1000])) (ev_iad_n rfl rfl e1000 rfl) (qp (AS v1000) rfl (qp (AI v8) rfl ?_))
  obtain ⟨v1001, e1001, hF⟩ := bind_get hF
  refine qc (AS v1001) [] false (con_laws_markText e1001) c111_ok (by first | rfl | simp) rfl ?_
  refine qp (AB (decide (v1000 ≠ v1001))) rfl ?_
  refine r_nil ?_
  refine cF hF (fun hF => ?_) fun hF => ?_
  ·
   refine ws 705 769 ?_
   refine qp (AI (-1)) rfl ?_
   refine r_nil ?_
   refine w_ret ?_
   refine thenQ_r ?_
   refine blockQ_r ?_
   refine thenQ_r ?_
   refine thenQ_r ?_
   refine blockQ_r ?_
   refine thenQ_r ?_
   cases hF
   exact eR
  ·
   refine w_skip ?_
   refine thenQ_n ?_
   refine w_reg 705 897 rfl rfl ?_
   refine qp (AI v8) rfl (qp (AI (w64 (v8 + 1))) rfl (qp (AI (w64 (v8 + 1))) rfl ?_))
   refine r_nil ?_
   refine blockQ_n ?_
   refine thenQ_n ?_
   refine w_reg 897 1089 rfl rfl ?_
   refine qp (AI v9) rfl (qp (AI (w64 (v9 + 1))) rfl (qp (AI (w64 (v9 + 1))) rfl ?_))
   refine r_nil ?_
   refine thenQ_n ?_
   refine ar (l' := [(0, AL 1 (v0.map V.str)), (1, AI (w64 (v8 + 1))), (5, AI (w64 (v9 + 1)))]) (L := []) [0, 1, 5] [] 1 ⟨_, by rfl, hF⟩
 ·
  refine w_exit ?_
  refine thenQ_e ?_
  refine thenQ_e ?_
  refine blockQ_e ?_
  refine thenQ_n ?_
  refine ws 257 385 ?_
  refine qp (AI v8) rfl (qp (AI v8) rfl ?_)
  refine r_nil ?_
  refine w_ret ?_
  cases hF
  exact eR

def c5 : MC := (.seq (.reg [rg 8 (.p true (.mv (.c (.bool false))))]) (.seq (.seq (.reg [rg 21 (.p true (.mv (.t 1))), rg 22 (.p true (.lens (.t 21))), rg 23 (.p true (.bin .gtr (.t 22) (.c (.int .i64 1048576))))]) (.cond (.t 23) (.seq (.reg [rg 8 (.p true (.mv (.c (.bool true))))]) .ret) .skip)) (.seq (.reg [rg 9 (.p true (.mv (.c (.int .i64 1048576))))]) (.seq (.reg [rg 24 (.p true (.mv (.t 0))), rg 25 (.p true (.mv (.t 9))), rg 26 (.call true 18 [(.t 24), (.t 25)]), rg 9 (.p true (.mv (.t 26)))]) (.seq (.seq (.reg [rg 27 (.p true (.mv (.t 9))), rg 28 (.p true (.bin .lss (.t 27) (.c (.int .i64 0))))]) (.cond (.t 28) (.seq (.reg [rg 8 (.p true (.mv (.c (.bool true))))]) .ret) .skip)) (.seq (.reg [rg 29 (.p true (.mv (.t 2))), rg 30 (.p true (.mv (.t 9))), rg 31 (.call true 19 [(.t 29), (.t 30)]), rg 9 (.p true (.mv (.t 31)))]) (.seq (.seq (.reg [rg 32 (.p true (.mv (.t 9))), rg 33 (.p true (.bin .lss (.t 32) (.c (.int .i64 0))))]) (.cond (.t 33) (.seq (.reg [rg 8 (.p true (.mv (.c (.bool true))))]) .ret) .skip)) (.seq (.reg [rg 35 (.p true (.mv (.t 0))), rg 36 (.call true 21 [(.t 35)]), rg 37 (.p true (.mv (.t 1))), rg 38 (.p true (.mv (.t 2))), rg 39 (.call true 22 [(.t 38)]), rg 40 (.p true (.mv (.t 3))), rg 41 (.call true 20 [(.t 36), (.t 37), (.t 39), (.t 40)]), rg 34 (.p true (.mv (.t 41))), rg 42 (.p true (.ext (.t 34) 0)), rg 43 (.p true (.ext (.t 34) 1)), rg 10 (.p true (.mv (.t 42))), rg 11 (.p true (.mv (.t 43)))]) (.seq (.reg [rg 44 (.p true (.mv (.t 0))), rg 45 (.call true 21 [(.t 44)]), rg 12 (.p true (.mv (.t 45)))]) (.seq (.reg [rg 46 (.p true (.mv (.t 2))), rg 47 (.call true 22 [(.t 46)]), rg 13 (.p true (.mv (.t 47)))]) (.seq (.reg [rg 49 (.p true (.mv (.t 12))), rg 50 (.p true (.mv (.t 1))), rg 51 (.p true (.mv (.t 13))), rg 52 (.p true (.mv (.t 3))), rg 53 (.call true 23 [(.t 49), (.t 50), (.t 51), (.t 52)]), rg 48 (.p true (.mv (.t 53))), rg 54 (.p true (.ext (.t 48) 0)), rg 55 (.p true (.ext (.t 48) 1)), rg 14 (.p true (.mv (.t 54))), rg 15 (.p true (.mv (.t 55)))]) (.seq (.seq (.reg [rg 56 (.p true (.mv (.t 14))), rg 57 (.p true (.mv (.t 10))), rg 58 (.call true 24 [(.t 56), (.t 57)]), rg 59 (.p true (.not (.t 58))), rg 60 (.p true (.mv (.t 59))), ⟨(some 61), (some (60, false)), (.p true (.mv (.t 15)))⟩, ⟨(some 62), (some (60, false)), (.p true (.mv (.t 11)))⟩, ⟨(some 63), (some (60, false)), (.p true (.bin .neq (.t 61) (.t 62)))⟩, rg 64 (.p true (.pick (.t 60) (.c (.bool true)) (.t 63)))]) (.cond (.t 64) (.seq (.reg [rg 8 (.p true (.mv (.c (.bool false))))]) .ret) .skip)) (.seq (.seq (.reg [rg 65 (.p true (.mv (.t 12))), rg 66 (.p true (.mv (.t 0))), rg 67 (.call true 21 [(.t 66)]), rg 68 (.call true 25 [(.t 65), (.t 67)]), rg 69 (.p true (.not (.t 68)))]) (.cond (.t 69) (.seq (.reg [rg 8 (.p true (.mv (.c (.bool false))))]) .ret) .skip)) (.seq (.seq (.reg [rg 70 (.p true (.mv (.t 13))), rg 71 (.p true (.mv (.t 2))), rg 72 (.call true 22 [(.t 71)]), rg 73 (.call true 26 [(.t 70), (.t 72)]), rg 74 (.p true (.not (.t 73)))]) (.cond (.t 74) (.seq (.reg [rg 8 (.p true (.mv (.c (.bool false))))]) .ret) .skip)) (.seq (.reg [rg 16 (.p true (.mv (.c (.int .i64 1))))]) (.seq (.reg [rg 75 (.p true (.mv (.t 12))), rg 76 (.p true (.mv (.t 16))), rg 77 (.call true 27 [(.t 75), (.t 76)]), rg 16 (.p true (.mv (.t 77)))]) (.seq (.reg [rg 78 (.p true (.mv (.t 13))), rg 79 (.p true (.mv (.t 16))), rg 80 (.call true 28 [(.t 78), (.t 79)]), rg 16 (.p true (.mv (.t 80)))]) (.seq (.seq (.reg [rg 81 (.p true (.mv (.t 16))), rg 82 (.p true (.bin .lss (.t 81) (.c (.int .i64 0)))), rg 83 (.p true (.mv (.t 82))), ⟨(some 84), (some (83, false)), (.p true (.mv (.t 14)))⟩, ⟨(some 85), (some (83, false)), (.p true (.mv (.t 10)))⟩, ⟨(some 86), (some (83, false)), (.call true 24 [(.t 84), (.t 85)])⟩, ⟨(some 87), (some (83, false)), (.p true (.not (.t 86)))⟩, rg 88 (.p true (.pick (.t 83) (.c (.bool true)) (.t 87))), rg 89 (.p true (.mv (.t 88))), ⟨(some 90), (some (89, false)), (.p true (.mv (.t 15)))⟩, ⟨(some 91), (some (89, false)), (.p true (.mv (.t 11)))⟩, ⟨(some 92), (some (89, false)), (.p true (.bin .neq (.t 90) (.t 91)))⟩, rg 93 (.p true (.pick (.t 89) (.c (.bool true)) (.t 92)))]) (.cond (.t 93) (.seq (.reg [rg 8 (.p true (.mv (.c (.bool false))))]) .ret) .skip)) (.seq (.reg [rg 17 (.p true (.mv (.c (.int .i64 1))))]) (.seq (.reg [rg 94 (.p true (.mv (.t 14))), rg 95 (.p true (.mv (.t 17))), rg 96 (.call true 29 [(.t 94), (.t 95)]), rg 17 (.p true (.mv (.t 96)))]) (.seq (.reg [rg 18 (.p true (.mv (.c (.int .i64 1))))]) (.seq (.reg [rg 97 (.p true (.mv (.t 14))), rg 98 (.p true (.mv (.t 18))), rg 99 (.call true 30 [(.t 97), (.t 98)]), rg 18 (.p true (.mv (.t 99)))]) (.seq (.seq (.reg [rg 100 (.p true (.mv (.t 18))), rg 101 (.p true (.bin .lss (.t 100) (.c (.int .i64 0))))]) (.cond (.t 101) (.seq (.reg [rg 8 (.p true (.mv (.c (.bool false))))]) .ret) .skip)) (.seq (.seq (.reg [rg 102 (.p true (.mv (.t 18))), rg 103 (.p true (.mv (.t 17))), rg 104 (.p true (.bin .neq (.t 102) (.t 103)))]) (.cond (.t 104) (.seq (.reg [rg 8 (.p true (.mv (.c (.bool false))))]) .ret) .skip)) (.seq (.reg [rg 106 (.p true (.mv (.t 0))), rg 107 (.call true 21 [(.t 106)]), rg 108 (.p true (.mv (.t 1))), rg 109 (.p true (.mv (.t 2))), rg 110 (.call true 22 [(.t 109)]), rg 111 (.p true (.mv (.t 3))), rg 112 (.call true 23 [(.t 107), (.t 108), (.t 110), (.t 111)]), rg 105 (.p true (.mv (.t 112))), rg 113 (.p true (.ext (.t 105) 0)), rg 114 (.p true (.ext (.t 105) 1)), rg 19 (.p true (.mv (.t 113))), rg 20 (.p true (.mv (.t 114)))]) (.seq (.seq (.reg [rg 115 (.p true (.mv (.t 19))), rg 116 (.p true (.mv (.t 10))), rg 117 (.call true 24 [(.t 115), (.t 116)]), rg 118 (.p true (.not (.t 117))), rg 119 (.p true (.mv (.t 118))), ⟨(some 120), (some (119, false)), (.p true (.mv (.t 20)))⟩, ⟨(some 121), (some (119, false)), (.p true (.mv (.t 11)))⟩, ⟨(some 122), (some (119, false)), (.p true (.bin .neq (.t 120) (.t 121)))⟩, rg 123 (.p true (.pick (.t 119) (.c (.bool true)) (.t 122)))]) (.cond (.t 123) (.seq (.reg [rg 8 (.p true (.mv (.c (.bool false))))]) .ret) .skip)) (.seq (.reg [rg 18 (.p true (.mv (.c (.int .i64 1))))]) (.seq (.reg [rg 124 (.p true (.mv (.t 14))), rg 125 (.p true (.mv (.t 18))), rg 126 (.call true 30 [(.t 124), (.t 125)]), rg 18 (.p true (.mv (.t 126)))]) (.seq (.seq (.reg [rg 127 (.p true (.mv (.t 18))), rg 128 (.p true (.bin .lss (.t 127) (.c (.int .i64 0))))]) (.cond (.t 128) (.seq (.reg [rg 8 (.p true (.mv (.c (.bool false))))]) .ret) .skip)) (.seq (.seq (.reg [rg 129 (.p true (.mv (.t 18))), rg 130 (.p true (.mv (.t 17))), rg 131 (.p true (.bin .neq (.t 129) (.t 130)))]) (.cond (.t 131) (.seq (.reg [rg 8 (.p true (.mv (.c (.bool false))))]) .ret) .skip)) (.seq (.reg [rg 8 (.p true (.mv (.c (.bool true))))]) .ret)))))))))))))))))))))))))))))))
theorem c5_is : compFn Try.prog 5 = some (c5, [(.tmp 8)]) := by kernel_rfl
theorem c5_ok : okFn Try.prog 5 = true := by kernel_rfl

noncomputable def F_laws_FnExactReadyTopics (v0 : List TLesson) (v1 : List UInt8) (v2 : List (List (List UInt8))) (v3 : Int) : Option (Bool) :=
 (bif (decide ((1048576 : Int) < (v1.length : Int))) then some true
 else ((F_laws_szLessonS v0 1048576).bind fun v1000 => (bif (decide (v1000 < (0 : Int))) then some true
 else ((F_laws_szStringSS v2 v1000).bind fun v1001 => (bif (decide (v1001 < (0 : Int))) then some true
 else ((F_laws_toLessonS v0).bind fun v1002 => ((F_laws_toStringSS v2).bind fun v1003 => ((F_spec_ReadyTopics v1002 v1 v1003 v3).bind fun v1004 => ((F_laws_toLessonS v0).bind fun v1005 => ((F_laws_toStringSS v2).bind fun v1006 => ((F_impl_ReadyTopics v1005 v1 v1006 v3).bind fun v1007 => ((F_laws_eqStringS v1007.1 v1004.1).bind fun v1009 => (bif (!v1009) then some false
 else (bif (decide (v1007.2 ≠ v1004.2)) then some false
 else ((F_laws_toLessonS v0).bind fun v1010 => ((F_laws_eqLessonS v1005 v1010).bind fun v1011 => (bif (!v1011) then some false
 else ((F_laws_toStringSS v2).bind fun v1012 => ((F_laws_eqStringSS v1006 v1012).bind fun v1013 => (bif (!v1013) then some false
 else ((F_laws_markLessonS v1005 1).bind fun v1014 => need (v1014.1.length = v1005.length) (((F_laws_markStringSS v1006 v1014.2).bind fun v1016 => need (v1016.1.length = v1006.length) ((bif (decide (v1016.2 < (0 : Int))) then some false
 else ((F_laws_eqStringS v1007.1 v1004.1).bind fun v1019 => (bif (!v1019) then some false
 else (bif (decide (v1007.2 ≠ v1004.2)) then some false
 else ((F_laws_markStringS v1007.1 1).bind fun v1020 => need (v1020.1.length = v1007.1.length) (((F_laws_heldStringS v1020.1 1).bind fun v1022 => (bif (decide (v1022 < (0 : Int))) then some false
 else (bif (decide (v1022 ≠ v1020.2)) then some false
 else ((F_laws_toLessonS v0).bind fun v1023 => ((F_laws_toStringSS v2).bind fun v1024 => ((F_impl_ReadyTopics v1023 v1 v1024 v3).bind fun v1025 => ((F_laws_eqStringS v1025.1 v1004.1).bind fun v1027 => (bif (!v1027) then some false
 else (bif (decide (v1025.2 ≠ v1004.2)) then some false
 else ((F_laws_heldStringS v1020.1 1).bind fun v1028 => (bif (decide (v1028 < (0 : Int))) then some false
 else (bif (decide (v1028 ≠ v1020.2)) then some false
 else some true))))))))))))))))))))))))))))))))))))))))))
@[simp] def res_laws_FnExactReadyTopics (r : Bool) : RV := .one (.one (.val (.bool r)))
theorem con_laws_FnExactReadyTopics {v0 : List TLesson} {v1 : List UInt8} {v2 : List (List (List UInt8))} {v3 : Int} {r : Bool} (hF : F_laws_FnExactReadyTopics v0 v1 v2 v3 = some r) : Con Try.prog 5 [.sl 5 (v0.map eLesson), .str v1, .sl 1 (v2.map (eL 1 V.str)), .int .i64 v3] (res_laws_FnExactReadyTopics r) := by
 unfold F_laws_FnExactReadyTopics at hF
 refine con_of c5_is fun N => ?_
 refine ws 0 64 ?_
 refine qp (AB false) rfl ?_
 refine r_nil ?_
 refine w_seq ?_
 refine ws 64 256 ?_
 refine qp (AS v1) rfl (qp (AI (v1.length : Int)) rfl (qp (AB (decide ((1048576 : Int) < (v1.length : Int)))) rfl ?_))
 refine r_nil ?_
 refine cF hF (fun hF => ?_) fun hF => ?_
 ·
  refine ws 256 320 ?_
  refine qp (AB true) rfl ?_
  refine r_nil ?_
  refine w_ret ?_
  refine thenQ_r ?_
  cases hF
  exact eR
 ·
  refine w_skip ?_
  refine thenQ_n ?_
  refine ws 256 320 ?_
  refine qp (AI 1048576) rfl ?_
  refine r_nil ?_
  refine ws 320 576 ?_
  refine qp (AL 5 (v0.map eLesson)) rfl (qp (AI 1048576) rfl ?_)
  obtain ⟨v1000, e1000, hF⟩ := bind_get hF
  refine qc (AI v1000) [] false (con_laws_szLessonS e1000) c18_ok (by first | rfl | simp) rfl ?_
  refine qp (AI v1000) rfl ?_
  refine r_nil ?_
  refine w_seq ?_
  refine ws 576 704 ?_
  refine qp (AI v1000) rfl (qp (AB (decide (v1000 < (0 : Int)))) rfl ?_)
  refine r_nil ?_
  refine cF hF (fun hF => ?_) fun hF => ?_
  ·
   refine ws 704 768 ?_
   refine qp (AB true) rfl ?_
   refine r_nil ?_
   refine w_ret ?_
   refine thenQ_r ?_
   cases hF
   exact eR
  ·
   refine w_skip ?_
   refine thenQ_n ?_
   refine ws 704 960 ?_
   refine qp (AL 1 (v2.map (eL 1 V.str))) rfl (qp (AI v1000) rfl ?_)
   obtain ⟨v1001, e1001, hF⟩ := bind_get hF
   refine qc (AI v1001) [] false (con_laws_szStringSS e1001) c19_ok (by first | rfl | simp) rfl ?_
   refine qp (AI v1001) rfl ?_
   refine r_nil ?_
   refine w_seq ?_
   refine ws 960 1088 ?_
   refine qp (AI v1001) rfl (qp (AB (decide (v1001 < (0 : Int)))) rfl ?_)
   refine r_nil ?_
   refine cF hF (fun hF => ?_) fun hF => ?_
   ·
    refine ws 1088 1152 ?_
    refine qp (AB true) rfl ?_
    refine r_nil ?_
    refine w_ret ?_
    refine thenQ_r ?_
    cases hF
    exact eR
   ·
    refine w_skip ?_
    refine thenQ_n ?_
    refine ws 1088 1856 ?_
    refine qp (AL 5 (v0.map eLesson)) rfl ?_
    obtain ⟨v1002, e1002, hF⟩ := bind_get hF
    refine qc (.sl 1152 0 v1002.length) [(1152, .row true 5 (v1002.map eLesson))] false (con_laws_toLessonS e1002) c21_ok (by first | rfl | simp) (by simp [res_laws_toLessonS]) ?_
    refine qp (AS v1) rfl (qp (AL 1 (v2.map (eL 1 V.str))) rfl ?_)
    obtain ⟨v1003, e1003, hF⟩ := bind_get hF
    refine qc (.sl 1344 0 v1003.length) [(1344, .row true 1 (v1003.map (eL 1 V.str))), (1152, .row true 5 (v1002.map eLesson))] false (con_laws_toStringSS e1003) c22_ok (by first | rfl | simp) (by simp [res_laws_toStringSS]) ?_
    refine qp (AI v3) rfl ?_
    obtain ⟨v1004, e1004, hF⟩ := bind_get hF
    refine qc (.tup [.sl 1472 0 v1004.1.length, AI v1004.2]) [(1472, .row true 1 (v1004.1.map V.str)), (1344, .row true 1 (v1003.map (eL 1 V.str))), (1152, .row true 5 (v1002.map eLesson))] true (con_spec_ReadyTopics e1004) c20_ok (by simp [List.take_of_length_le]) (by simp [res_spec_ReadyTopics]) ?_
    refine qp (.tup [.sl 1472 0 v1004.1.length, AI v1004.2]) rfl (qp (.sl 1472 0 v1004.1.length) rfl (qp (AI v1004.2) rfl (qp (.sl 1472 0 v1004.1.length) rfl (qp (AI v1004.2) rfl ?_))))
    refine r_nil ?_
    refine ws 1856 2048 ?_
    refine qp (AL 5 (v0.map eLesson)) rfl ?_
    obtain ⟨v1005, e1005, hF⟩ := bind_get hF
    refine qc (.sl 1920 0 v1005.length) [(1920, .row true 5 (v1005.map eLesson)), (1472, .row true 1 (v1004.1.map V.str)), (1344, .row true 1 (v1003.map (eL 1 V.str))), (1152, .row true 5 (v1002.map eLesson))] false (con_laws_toLessonS e1005) c21_ok (by first | rfl | simp) (by simp [res_laws_toLessonS]) ?_
    refine qp (.sl 1920 0 v1005.length) rfl ?_
    refine r_nil ?_
    refine ws 2048 2240 ?_
    refine qp (AL 1 (v2.map (eL 1 V.str))) rfl ?_
    obtain ⟨v1006, e1006, hF⟩ := bind_get hF
    refine qc (.sl 2112 0 v1006.length) [(2112, .row true 1 (v1006.map (eL 1 V.str))), (1920, .row true 5 (v1005.map eLesson)), (1472, .row true 1 (v1004.1.map V.str)), (1344, .row true 1 (v1003.map (eL 1 V.str))), (1152, .row true 5 (v1002.map eLesson))] false (con_laws_toStringSS e1006) c22_ok (by first | rfl | simp) (by simp [res_laws_toStringSS]) ?_
    refine qp (.sl 2112 0 v1006.length) rfl ?_
    refine r_nil ?_
    refine ws 2240 2880 ?_
    refine qp (.sl 1920 0 v1005.length) rfl (qp (AS v1) rfl (qp (.sl 2112 0 v1006.length) rfl (qp (AI v3) rfl ?_)))
    obtain ⟨v1007, e1007, hF⟩ := bind_get hF
    refine qc (.tup [.sl 2496 0 v1007.1.length, AI v1007.2]) [(2496, .row true 1 (v1007.1.map V.str)), (2112, .row true 1 (v1006.map (eL 1 V.str))), (1920, .row true 5 (v1005.map eLesson)), (1472, .row true 1 (v1004.1.map V.str)), (1344, .row true 1 (v1003.map (eL 1 V.str))), (1152, .row true 5 (v1002.map eLesson))] true (con_impl_ReadyTopics e1007) c23_ok (by simp [List.take_of_length_le]) (by simp [res_impl_ReadyTopics]) ?_
    refine qp (.tup [.sl 2496 0 v1007.1.length, AI v1007.2]) rfl (qp (.sl 2496 0 v1007.1.length) rfl (qp (AI v1007.2) rfl (qp (.sl 2496 0 v1007.1.length) rfl (qp (AI v1007.2) rfl ?_))))
    refine r_nil ?_
    refine w_seq ?_
    refine ws 2880 3456 ?_
    refine qp (.sl 2496 0 v1007.1.length) rfl (qp (.sl 1472 0 v1004.1.length) rfl ?_)
    obtain ⟨v1009, e1009, hF⟩ := bind_get hF
    refine qc (AB v1009) [(2496, .row true 1 (v1007.1.map V.str)), (2112, .row true 1 (v1006.map (eL 1 V.str))), (1920, .row true 5 (v1005.map eLesson)), (1472, .row true 1 (v1004.1.map V.str)), (1344, .row true 1 (v1003.map (eL 1 V.str))), (1152, .row true 5 (v1002.map eLesson))] true (con_laws_eqStringS e1009) c24_ok (by simp [List.take_of_length_le]) rfl ?_
    refine qp (AB (!v1009)) rfl (qp (AB (!v1009)) rfl ?_)
    refine q_case 60 hF rfl (fun hF => ?_) (fun hF => ?_)
    ·
     refine qn rfl (qn rfl (qn rfl (qp (AB true) rfl ?_)))
     refine r_nil ?_
     refine w_true rfl ?_
     refine ws 3456 3520 ?_
     refine qp (AB false) rfl ?_
     refine r_nil ?_
     refine w_ret ?_
     refine thenQ_r ?_
     cases hF
     exact eR
    ·
     refine qg (AI v1007.2) rfl rfl (qg (AI v1004.2) rfl rfl (qg (AB (decide (v1007.2 ≠ v1004.2))) rfl rfl (qp (AB (decide (v1007.2 ≠ v1004.2))) rfl ?_)))
     refine r_nil ?_
     refine cF hF (fun hF => ?_) fun hF => ?_
     ·
      refine ws 3456 3520 ?_
      refine qp (AB false) rfl ?_
      refine r_nil ?_
      refine w_ret ?_
      refine thenQ_r ?_
      cases hF
      exact eR
     ·
      refine w_skip ?_
      refine thenQ_n ?_
      refine w_seq ?_
      refine ws 3456 3776 ?_
      refine qp (.sl 1920 0 v1005.length) rfl (qp (AL 5 (v0.map eLesson)) rfl ?_)
      obtain ⟨v1010, e1010, hF⟩ := bind_get hF
      refine qc (.sl 3584 0 v1010.length) [(3584, .row true 5 (v1010.map eLesson)), (2496, .row true 1 (v1007.1.map V.str)), (2112, .row true 1 (v1006.map (eL 1 V.str))), (1920, .row true 5 (v1005.map eLesson)), (1472, .row true 1 (v1004.1.map V.str)), (1344, .row true 1 (v1003.map (eL 1 V.str))), (1152, .row true 5 (v1002.map eLesson))] false (con_laws_toLessonS e1010) c21_ok (by first | rfl | simp) (by simp [res_laws_toLessonS]) ?_
      obtain ⟨v1011, e1011, hF⟩ := bind_get hF
      refine qc (AB v1011) [(3584, .row true 5 (v1010.map eLesson)), (2496, .row true 1 (v1007.1.map V.str)), (2112, .row true 1 (v1006.map (eL 1 V.str))), (1920, .row true 5 (v1005.map eLesson)), (1472, .row true 1 (v1004.1.map V.str)), (1344, .row true 1 (v1003.map (eL 1 V.str))), (1152, .row true 5 (v1002.map eLesson))] true (con_laws_eqLessonS e1011) c25_ok (by simp [List.take_of_length_le]) rfl ?_
      refine qp (AB (!v1011)) rfl ?_
      refine r_nil ?_
      refine cF hF (fun hF => ?_) fun hF => ?_
      ·
       refine ws 3776 3840 ?_
       refine qp (AB false) rfl ?_
       refine r_nil ?_
       refine w_ret ?_
       refine thenQ_r ?_
       cases hF
       exact eR
      ·
       refine w_skip ?_
       refine thenQ_n ?_
       refine w_seq ?_
       refine ws 3776 4096 ?_
       refine qp (.sl 2112 0 v1006.length) rfl (qp (AL 1 (v2.map (eL 1 V.str))) rfl ?_)
       obtain ⟨v1012, e1012, hF⟩ := bind_get hF
       refine qc (.sl 3904 0 v1012.length) [(3904, .row true 1 (v1012.map (eL 1 V.str))), (3584, .row true 5 (v1010.map eLesson)), (2496, .row true 1 (v1007.1.map V.str)), (2112, .row true 1 (v1006.map (eL 1 V.str))), (1920, .row true 5 (v1005.map eLesson)), (1472, .row true 1 (v1004.1.map V.str)), (1344, .row true 1 (v1003.map (eL 1 V.str))), (1152, .row true 5 (v1002.map eLesson))] false (con_laws_toStringSS e1012) c22_ok (by first | rfl | simp) (by simp [res_laws_toStringSS]) ?_
       obtain ⟨v1013, e1013, hF⟩ := bind_get hF
       refine qc (AB v1013) [(3904, .row true 1 (v1012.map (eL 1 V.str))), (3584, .row true 5 (v1010.map eLesson)), (2496, .row true 1 (v1007.1.map V.str)), (2112, .row true 1 (v1006.map (eL 1 V.str))), (1920, .row true 5 (v1005.map eLesson)), (1472, .row true 1 (v1004.1.map V.str)), (1344, .row true 1 (v1003.map (eL 1 V.str))), (1152, .row true 5 (v1002.map eLesson))] true (con_laws_eqStringSS e1013) c26_ok (by simp [List.take_of_length_le]) rfl ?_
       refine qp (AB (!v1013)) rfl ?_
       refine r_nil ?_
       refine cF hF (fun hF => ?_) fun hF => ?_
       ·
        refine ws 4096 4160 ?_
        refine qp (AB false) rfl ?_
        refine r_nil ?_
        refine w_ret ?_
        refine thenQ_r ?_
        cases hF
        exact eR
       ·
        refine w_skip ?_
        refine thenQ_n ?_
        refine ws 4096 4160 ?_
        refine qp (AI 1) rfl ?_
        refine r_nil ?_
        refine ws 4160 4416 ?_
        refine qp (.sl 1920 0 v1005.length) rfl (qp (AI 1) rfl ?_)
        obtain ⟨v1014, e1014, hF⟩ := bind_get hF
        obtain ⟨g1015, hF⟩ := need_some hF
        refine qm (ls := [1920]) [(1920, .row true 5 (v1014.1.map eLesson)), (3904, .row true 1 (v1012.map (eL 1 V.str))), (3584, .row true 5 (v1010.map eLesson)), (2496, .row true 1 (v1007.1.map V.str)), (2112, .row true 1 (v1006.map (eL 1 V.str))), (1920, .row true 5 (v1005.map eLesson)), (1472, .row true 1 (v1004.1.map V.str)), (1344, .row true 1 (v1003.map (eL 1 V.str))), (1152, .row true 5 (v1002.map eLesson))] (con_laws_markLessonS e1014) c27_ok (by first | rfl | simp [takeM, takeML, takeM1, g1015]) (by decide) (by simp [like2, likeL, like1, g1015]) rfl rfl rfl (by simp [scrO_fo, newO2, newO, scrR, scrA, scrAs]) ?_
        refine qp (AI v1014.2) rfl ?_
        refine r_nil ?_
        refine ws 4416 4672 ?_
        refine qp (.sl 2112 0 v1006.length) rfl (qp (AI v1014.2) rfl ?_)
        obtain ⟨v1016, e1016, hF⟩ := bind_get hF
        obtain ⟨g1017, hF⟩ := need_some hF
        refine qm (ls := [2112]) [(2112, .row true 1 (v1016.1.map (eL 1 V.str))), (1920, .row true 5 (v1014.1.map eLesson)), (3904, .row true 1 (v1012.map (eL 1 V.str))), (3584, .row true 5 (v1010.map eLesson)), (2496, .row true 1 (v1007.1.map V.str)), (2112, .row true 1 (v1006.map (eL 1 V.str))), (1920, .row true 5 (v1005.map eLesson)), (1472, .row true 1 (v1004.1.map V.str)), (1344, .row true 1 (v1003.map (eL 1 V.str))), (1152, .row true 5 (v1002.map eLesson))] (con_laws_markStringSS e1016) c28_ok (by first | rfl | simp [takeM, takeML, takeM1, g1015, g1017]) (by decide) (by simp [like2, likeL, like1, g1017]) rfl rfl rfl (by simp [scrO_fo, newO2, newO, scrR, scrA, scrAs]) ?_
        refine qp (AI v1016.2) rfl ?_
        refine r_nil ?_
        refine w_seq ?_
        refine ws 4672 5504 ?_
        refine qp (AI v1016.2) rfl (qp (AB (decide (v1016.2 < (0 : Int)))) rfl (qp (AB (decide (v1016.2 < (0 : Int)))) rfl ?_))
        refine q_case 83 hF rfl (fun hF => ?_) (fun hF => ?_)
        ·
         refine qn rfl (qn rfl (qn rfl (qn rfl (qp (AB true) rfl (qp (AB true) rfl (qn rfl (qn rfl ?_)))))))
         refine qn rfl (qp (AB true) rfl ?_)
         refine r_nil ?_
         refine w_true rfl ?_
         refine ws 5504 5568 ?_
         refine qp (AB false) rfl ?_
         refine r_nil ?_
         refine w_ret ?_
         refine thenQ_r ?_
         cases hF
         exact endQ_r rfl (.inl ⟨_, _, by first | rfl | (simp [List.take_of_length_le]; first | exact ⟨rfl, rfl⟩ | rfl), by simp, by first | rfl | simp [res_laws_FnExactReadyTopics, List.take_of_length_le, g1015, g1017]⟩)
        ·
         refine qg (.sl 2496 0 v1007.1.length) rfl rfl (qg (.sl 1472 0 v1004.1.length) rfl rfl ?_)
         obtain ⟨v1019, e1019, hF⟩ := bind_get hF
         refine qcg (AB v1019) [(2112, .row true 1 (v1016.1.map (eL 1 V.str))), (1920, .row true 5 (v1014.1.map eLesson)), (3904, .row true 1 (v1012.map (eL 1 V.str))), (3584, .row true 5 (v1010.map eLesson)), (2496, .row true 1 (v1007.1.map V.str)), (2112, .row true 1 (v1006.map (eL 1 V.str))), (1920, .row true 5 (v1005.map eLesson)), (1472, .row true 1 (v1004.1.map V.str)), (1344, .row true 1 (v1003.map (eL 1 V.str))), (1152, .row true 5 (v1002.map eLesson))] true rfl (con_laws_eqStringS e1019) c24_ok (by simp [g1015, g1017, List.take_of_length_le]) rfl ?_
         refine qg (AB (!v1019)) rfl rfl (qp (AB (!v1019)) rfl (qp (AB (!v1019)) rfl ?_))
         refine q_case 89 hF rfl (fun hF => ?_) (fun hF => ?_)
         ·
          refine qn rfl (qn rfl (qn rfl (qp (AB true) rfl ?_)))
          refine r_nil ?_
          refine w_true rfl ?_
          refine ws 5504 5568 ?_
          refine qp (AB false) rfl ?_
          refine r_nil ?_
          refine w_ret ?_
          refine thenQ_r ?_
          cases hF
          exact endQ_r rfl (.inl ⟨_, _, by first | rfl | (simp [List.take_of_length_le]; first | exact ⟨rfl, rfl⟩ | rfl), by simp, by first | rfl | simp [res_laws_FnExactReadyTopics, List.take_of_length_le, g1015, g1017]⟩)
         ·
          refine qg (AI v1007.2) rfl rfl (qg (AI v1004.2) rfl rfl (qg (AB (decide (v1007.2 ≠ v1004.2))) rfl rfl (qp (AB (decide (v1007.2 ≠ v1004.2))) rfl ?_)))
          refine r_nil ?_
          refine cF hF (fun hF => ?_) fun hF => ?_
          ·
           refine ws 5504 5568 ?_
           refine qp (AB false) rfl ?_
           refine r_nil ?_
           refine w_ret ?_
           refine thenQ_r ?_
           cases hF
           exact endQ_r rfl (.inl ⟨_, _, by first | rfl | (simp [List.take_of_length_le]; first | exact ⟨rfl, rfl⟩ | rfl), by simp, by first | rfl | simp [res_laws_FnExactReadyTopics, List.take_of_length_le, g1015, g1017]⟩)
          ·
           refine w_skip ?_
           refine thenQ_n ?_
           refine ws 5504 5568 ?_
           refine qp (AI 1) rfl ?_
           refine r_nil ?_
           refine ws 5568 5824 ?_
           refine qp (.sl 2496 0 v1007.1.length) rfl (qp (AI 1) rfl ?_)
           obtain ⟨v1020, e1020, hF⟩ := bind_get hF
           obtain ⟨g1021, hF⟩ := need_some hF
           refine qm (ls := [2496]) [(2496, .row true 1 (v1020.1.map V.str)), (2112, .row true 1 (v1016.1.map (eL 1 V.str))), (1920, .row true 5 (v1014.1.map eLesson)), (3904, .row true 1 (v1012.map (eL 1 V.str))), (3584, .row true 5 (v1010.map eLesson)), (2496, .row true 1 (v1007.1.map V.str)), (2112, .row true 1 (v1006.map (eL 1 V.str))), (1920, .row true 5 (v1005.map eLesson)), (1472, .row true 1 (v1004.1.map V.str)), (1344, .row true 1 (v1003.map (eL 1 V.str))), (1152, .row true 5 (v1002.map eLesson))] (con_laws_markStringS e1020) c29_ok (by first | rfl | simp [takeM, takeML, takeM1, g1015, g1017, g1021]) (by decide) (by simp [like2, likeL, like1, g1021]) rfl rfl rfl (by simp [scrO_fo, newO2, newO, scrR, scrA, scrAs]) ?_
           refine qp (AI v1020.2) rfl ?_
           refine r_nil ?_
           refine ws 5824 5888 ?_
           refine qp (AI 1) rfl ?_
           refine r_nil ?_
           refine ws 5888 6144 ?_
           refine qp (.sl 2496 0 v1007.1.length) rfl (qp (AI 1) rfl ?_)
           obtain ⟨v1022, e1022, hF⟩ := bind_get hF
           refine qc (AI v1022) [(2496, .row true 1 (v1020.1.map V.str)), (2112, .row true 1 (v1016.1.map (eL 1 V.str))), (1920, .row true 5 (v1014.1.map eLesson)), (3904, .row true 1 (v1012.map (eL 1 V.str))), (3584, .row true 5 (v1010.map eLesson)), (2496, .row true 1 (v1007.1.map V.str)), (2112, .row true 1 (v1006.map (eL 1 V.str))), (1920, .row true 5 (v1005.map eLesson)), (1472, .row true 1 (v1004.1.map V.str)), (1344, .row true 1 (v1003.map (eL 1 V.str))), (1152, .row true 5 (v1002.map eLesson))] true (con_laws_heldStringS e1022) c30_ok (by simp [g1015, g1017, g1021, List.take_of_length_le]) rfl ?_
           refine qp (AI v1022) rfl ?_
           refine r_nil ?_
           refine w_seq ?_
           refine ws 6144 6272 ?_
           refine qp (AI v1022) rfl (qp (AB (decide (v1022 < (0 : Int)))) rfl ?_)
           refine r_nil ?_
           refine cF hF (fun hF => ?_) fun hF => ?_
           ·
            refine ws 6272 6336 ?_
            refine qp (AB false) rfl ?_
            refine r_nil ?_
            refine w_ret ?_
            refine thenQ_r ?_
            cases hF
            exact endQ_r rfl (.inl ⟨_, _, by first | rfl | (simp [List.take_of_length_le]; first | exact ⟨rfl, rfl⟩ | rfl), by simp, by first | rfl | simp [res_laws_FnExactReadyTopics, List.take_of_length_le, g1015, g1017, g1021]⟩)
           ·
            refine w_skip ?_
            refine thenQ_n ?_
            refine w_seq ?_
            refine ws 6272 6464 ?_
            refine qp (AI v1022) rfl (qp (AI v1020.2) rfl (qp (AB (decide (v1022 ≠ v1020.2))) rfl ?_))
            refine r_nil ?_
            refine cF hF (fun hF => ?_) fun hF => ?_
            ·
             refine ws 6464 6528 ?_
             refine qp (AB false) rfl ?_
             refine r_nil ?_
             refine w_ret ?_
             refine thenQ_r ?_
             cases hF
             exact endQ_r rfl (.inl ⟨_, _, by first | rfl | (simp [List.take_of_length_le]; first | exact ⟨rfl, rfl⟩ | rfl), by simp, by first | rfl | simp [res_laws_FnExactReadyTopics, List.take_of_length_le, g1015, g1017, g1021]⟩)
            ·
             refine w_skip ?_
             refine thenQ_n ?_
             refine ws 6464 7232 ?_
             refine qp (AL 5 (v0.map eLesson)) rfl ?_
             obtain ⟨v1023, e1023, hF⟩ := bind_get hF
             refine qc (.sl 6528 0 v1023.length) [(6528, .row true 5 (v1023.map eLesson)), (2496, .row true 1 (v1020.1.map V.str)), (2112, .row true 1 (v1016.1.map (eL 1 V.str))), (1920, .row true 5 (v1014.1.map eLesson)), (3904, .row true 1 (v1012.map (eL 1 V.str))), (3584, .row true 5 (v1010.map eLesson)), (2496, .row true 1 (v1007.1.map V.str)), (2112, .row true 1 (v1006.map (eL 1 V.str))), (1920, .row true 5 (v1005.map eLesson)), (1472, .row true 1 (v1004.1.map V.str)), (1344, .row true 1 (v1003.map (eL 1 V.str))), (1152, .row true 5 (v1002.map eLesson))] false (con_laws_toLessonS e1023) c21_ok (by first | rfl | simp) (by simp [res_laws_toLessonS]) ?_
             refine qp (AS v1) rfl (qp (AL 1 (v2.map (eL 1 V.str))) rfl ?_)
             obtain ⟨v1024, e1024, hF⟩ := bind_get hF
             refine qc (.sl 6720 0 v1024.length) [(6720, .row true 1 (v1024.map (eL 1 V.str))), (6528, .row true 5 (v1023.map eLesson)), (2496, .row true 1 (v1020.1.map V.str)), (2112, .row true 1 (v1016.1.map (eL 1 V.str))), (1920, .row true 5 (v1014.1.map eLesson)), (3904, .row true 1 (v1012.map (eL 1 V.str))), (3584, .row true 5 (v1010.map eLesson)), (2496, .row true 1 (v1007.1.map V.str)), (2112, .row true 1 (v1006.map (eL 1 V.str))), (1920, .row true 5 (v1005.map eLesson)), (1472, .row true 1 (v1004.1.map V.str)), (1344, .row true 1 (v1003.map (eL 1 V.str))), (1152, .row true 5 (v1002.map eLesson))] false (con_laws_toStringSS e1024) c22_ok (by first | rfl | simp) (by simp [res_laws_toStringSS]) ?_
             refine qp (AI v3) rfl ?_
             obtain ⟨v1025, e1025, hF⟩ := bind_get hF
             refine qc (.tup [.sl 6848 0 v1025.1.length, AI v1025.2]) [(6848, .row true 1 (v1025.1.map V.str)), (6720, .row true 1 (v1024.map (eL 1 V.str))), (6528, .row true 5 (v1023.map eLesson)), (2496, .row true 1 (v1020.1.map V.str)), (2112, .row true 1 (v1016.1.map (eL 1 V.str))), (1920, .row true 5 (v1014.1.map eLesson)), (3904, .row true 1 (v1012.map (eL 1 V.str))), (3584, .row true 5 (v1010.map eLesson)), (2496, .row true 1 (v1007.1.map V.str)), (2112, .row true 1 (v1006.map (eL 1 V.str))), (1920, .row true 5 (v1005.map eLesson)), (1472, .row true 1 (v1004.1.map V.str)), (1344, .row true 1 (v1003.map (eL 1 V.str))), (1152, .row true 5 (v1002.map eLesson))] true (con_impl_ReadyTopics e1025) c23_ok (by simp [g1015, g1017, g1021, List.take_of_length_le]) (by simp [res_impl_ReadyTopics]) ?_
             refine qp (.tup [.sl 6848 0 v1025.1.length, AI v1025.2]) rfl (qp (.sl 6848 0 v1025.1.length) rfl (qp (AI v1025.2) rfl (qp (.sl 6848 0 v1025.1.length) rfl (qp (AI v1025.2) rfl ?_))))
             refine r_nil ?_
             refine w_seq ?_
             refine ws 7232 7808 ?_
             refine qp (.sl 6848 0 v1025.1.length) rfl (qp (.sl 1472 0 v1004.1.length) rfl ?_)
             obtain ⟨v1027, e1027, hF⟩ := bind_get hF
             refine qc (AB v1027) [(6848, .row true 1 (v1025.1.map V.str)), (6720, .row true 1 (v1024.map (eL 1 V.str))), (6528, .row true 5 (v1023.map eLesson)), (2496, .row true 1 (v1020.1.map V.str)), (2112, .row true 1 (v1016.1.map (eL 1 V.str))), (1920, .row true 5 (v1014.1.map eLesson)), (3904, .row true 1 (v1012.map (eL 1 V.str))), (3584, .row true 5 (v1010.map eLesson)), (2496, .row true 1 (v1007.1.map V.str)), (2112, .row true 1 (v1006.map (eL 1 V.str))), (1920, .row true 5 (v1005.map eLesson)), (1472, .row true 1 (v1004.1.map V.str)), (1344, .row true 1 (v1003.map (eL 1 V.str))), (1152, .row true 5 (v1002.map eLesson))] true (con_laws_eqStringS e1027) c24_ok (by simp [g1015, g1017, g1021, List.take_of_length_le]) rfl ?_
             refine qp (AB (!v1027)) rfl (qp (AB (!v1027)) rfl ?_)
             refine q_case 119 hF rfl (fun hF => ?_) (fun hF => ?_)
             ·
              refine qn rfl (qn rfl (qn rfl (qp (AB true) rfl ?_)))
              refine r_nil ?_
              refine w_true rfl ?_
              refine ws 7808 7872 ?_
              refine qp (AB false) rfl ?_
              refine r_nil ?_
              refine w_ret ?_
              refine thenQ_r ?_
              cases hF
              exact endQ_r rfl (.inl ⟨_, _, by first | rfl | (simp [List.take_of_length_le]; first | exact ⟨rfl, rfl⟩ | rfl), by simp, by first | rfl | simp [res_laws_FnExactReadyTopics, List.take_of_length_le, g1015, g1017, g1021]⟩)
             ·
              refine qg (AI v1025.2) rfl rfl (qg (AI v1004.2) rfl rfl (qg (AB (decide (v1025.2 ≠ v1004.2))) rfl rfl (qp (AB (decide (v1025.2 ≠ v1004.2))) rfl ?_)))
              refine r_nil ?_
              refine cF hF (fun hF => ?_) fun hF => ?_
              ·
               refine ws 7808 7872 ?_
               refine qp (AB false) rfl ?_
               refine r_nil ?_
               refine w_ret ?_
               refine thenQ_r ?_
               cases hF
               exact endQ_r rfl (.inl ⟨_, _, by first | rfl | (simp [List.take_of_length_le]; first | exact ⟨rfl, rfl⟩ | rfl), by simp, by first | rfl | simp [res_laws_FnExactReadyTopics, List.take_of_length_le, g1015, g1017, g1021]⟩)
              ·
               refine w_skip ?_
               refine thenQ_n ?_
               refine ws 7808 7872 ?_
               refine qp (AI 1) rfl ?_
               refine r_nil ?_
               refine ws 7872 8128 ?_
               refine qp (.sl 2496 0 v1007.1.length) rfl (qp (AI 1) rfl ?_)
               obtain ⟨v1028, e1028, hF⟩ := bind_get hF
               refine qc (AI v1028) [(6848, .row true 1 (v1025.1.map V.str)), (6720, .row true 1 (v1024.map (eL 1 V.str))), (6528, .row true 5 (v1023.map eLesson)), (2496, .row true 1 (v1020.1.map V.str)), (2112, .row true 1 (v1016.1.map (eL 1 V.str))), (1920, .row true 5 (v1014.1.map eLesson)), (3904, .row true 1 (v1012.map (eL 1 V.str))), (3584, .row true 5 (v1010.map eLesson)), (2496, .row true 1 (v1007.1.map V.str)), (2112, .row true 1 (v1006.map (eL 1 V.str))), (1920, .row true 5 (v1005.map eLesson)), (1472, .row true 1 (v1004.1.map V.str)), (1344, .row true 1 (v1003.map (eL 1 V.str))), (1152, .row true 5 (v1002.map eLesson))] true (con_laws_heldStringS e1028) c30_ok (by simp [g1015, g1017, g1021, List.take_of_length_le]) rfl ?_
               refine qp (AI v1028) rfl ?_
               refine r_nil ?_
               refine w_seq ?_
               refine ws 8128 8256 ?_
               refine qp (AI v1028) rfl (qp (AB (decide (v1028 < (0 : Int)))) rfl ?_)
               refine r_nil ?_
               refine cF hF (fun hF => ?_) fun hF => ?_
               ·
                refine ws 8256 8320 ?_
                refine qp (AB false) rfl ?_
                refine r_nil ?_
                refine w_ret ?_
                refine thenQ_r ?_
                cases hF
                exact endQ_r rfl (.inl ⟨_, _, by first | rfl | (simp [List.take_of_length_le]; first | exact ⟨rfl, rfl⟩ | rfl), by simp, by first | rfl | simp [res_laws_FnExactReadyTopics, List.take_of_length_le, g1015, g1017, g1021]⟩)
               ·
                refine w_skip ?_
                refine thenQ_n ?_
                refine w_seq ?_
                refine ws 8256 8448 ?_
                refine qp (AI v1028) rfl (qp (AI v1020.2) rfl (qp (AB (decide (v1028 ≠ v1020.2))) rfl ?_))
                refine r_nil ?_
                refine cF hF (fun hF => ?_) fun hF => ?_
                ·
                 refine ws 8448 8512 ?_
                 refine qp (AB false) rfl ?_
                 refine r_nil ?_
                 refine w_ret ?_
                 refine thenQ_r ?_
                 cases hF
                 exact endQ_r rfl (.inl ⟨_, _, by first | rfl | (simp [List.take_of_length_le]; first | exact ⟨rfl, rfl⟩ | rfl), by simp, by first | rfl | simp [res_laws_FnExactReadyTopics, List.take_of_length_le, g1015, g1017, g1021]⟩)
                ·
                 refine w_skip ?_
                 refine thenQ_n ?_
                 refine ws 8448 8512 ?_
                 refine qp (AB true) rfl ?_
                 refine r_nil ?_
                 refine w_ret ?_
                 cases hF
                 exact endQ_r rfl (.inl ⟨_, _, by first | rfl | (simp [List.take_of_length_le]; first | exact ⟨rfl, rfl⟩ | rfl), by simp, by first | rfl | simp [res_laws_FnExactReadyTopics, List.take_of_length_le, g1015, g1017, g1021]⟩)

end Go.Ab
