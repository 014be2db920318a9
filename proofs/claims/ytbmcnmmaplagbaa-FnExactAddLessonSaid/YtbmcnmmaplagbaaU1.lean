/- Walks (printed by auto.py, a program of this session's own). -/
import Derived.Test.YtbmcnmmaplagbaaU0
import Derived.Test.YtbmcnmmaplagbaaProg
import Derived.KernelRfl
import Derived.Test.YtbmcnmmaplagbaaSQ
set_option linter.unusedVariables false
set_option linter.unusedSimpArgs false
set_option maxRecDepth 8000
set_option maxHeartbeats 8000000
namespace Go.Ab
open Go.RowKit Go.Proofs

def c77 : MC := (.seq (.reg [rg 2 (.p true (.mv (.c (.str []))))]) (.seq (.seq (.reg [rg 4 (.p true (.mv (.t 0))), rg 5 (.p true (.bin .leq (.t 4) (.c (.int .i64 0))))]) (.cond (.t 5) (.seq (.reg [rg 2 (.p true (.mv (.c (.str [109, 48]))))]) .ret) .skip)) (.seq (.reg [rg 3 (.p true (.mv (.c (.str []))))]) (.seq (.block 0 (.loop (.seq (.seq (.reg [rg 6 (.p true (.mv (.t 0))), rg 7 (.p true (.bin .gtr (.t 6) (.c (.int .i64 0))))]) (.cond (.t 7) .skip (.exit 0))) (.block 1 (.seq (.reg [rg 8 (.p true (.mv (.t 0))), rg 9 (.p true (.bin .rem (.t 8) (.c (.int .i64 10)))), rg 10 (.p true (.bin .add (.c (.int .i64 48)) (.t 9))), rg 11 (.p true (.conv .u8 (.t 10))), rg 12 (.f (.bsl 1 [(.t 11)])), rg 13 (.p true (.bts (.t 12))), rg 14 (.p true (.mv (.t 3))), rg 15 (.p true (.bin .add (.t 13) (.t 14))), rg 3 (.p true (.mv (.t 15)))]) (.reg [rg 16 (.p true (.mv (.t 0))), rg 17 (.p true (.bin .quo (.t 16) (.c (.int .i64 10)))), rg 0 (.p true (.mv (.t 17)))])))))) (.seq (.reg [rg 18 (.p true (.mv (.t 3))), rg 19 (.p true (.bin .add (.c (.str [109])) (.t 18))), rg 2 (.p true (.mv (.t 19)))]) .ret)))))
theorem c77_is : compFn Try.prog 77 = some (c77, [(.tmp 2)]) := by kernel_rfl
theorem c77_ok : okFn Try.prog 77 = true := by kernel_rfl

noncomputable def F_laws_markText_l0 (k0 : Int × (List UInt8) → Option (List UInt8)) : Int × (List UInt8) → Option (List UInt8)
 | (v5, v6) => (bif (decide ((0 : Int) < v5)) then (need ((bytesI ([IntKind.wrap .u8 (w64 (48 + (Int.tmod v5 10)))] : List Int)).length + v6.length < 9223372036854775808) (k0 (w64 (Int.tdiv v5 10), (bytesI ([IntKind.wrap .u8 (w64 (48 + (Int.tmod v5 10)))] : List Int)) ++ v6)))
 else (need ([109].length + v6.length < 9223372036854775808) (some ([109] ++ v6))))
noncomputable def F_laws_markText (v0 : Int) : Option (List UInt8) :=
 (bif (decide (v0 ≤ (0 : Int))) then some [109, 48]
 else loop (F_laws_markText_l0) (v0, []))
@[simp] def res_laws_markText (r : List UInt8) : RV := .one (.one (.val (.str r)))
theorem con_laws_markText {v0 : Int} {r : List UInt8} (hF : F_laws_markText v0 = some r) : Con Try.prog 77 [.int .i64 v0] (res_laws_markText r) := by
 unfold F_laws_markText at hF
 refine con_of c77_is fun N => ?_
 refine ws 0 64 ?_
 refine qp (AS []) rfl ?_
 refine r_nil ?_
 refine w_seq ?_
 refine ws 64 192 ?_
 refine qp (AI v0) rfl (qp (AB (decide (v0 ≤ (0 : Int)))) rfl ?_)
 refine r_nil ?_
 refine cF hF (fun hF => ?_) fun hF => ?_
 ·
  refine ws 192 256 ?_
  refine qp (AS [109, 48]) rfl ?_
  refine r_nil ?_
  refine w_ret ?_
  refine thenQ_r ?_
  cases hF
  exact eR
 ·
  refine w_skip ?_
  refine thenQ_n ?_
  refine ws 192 256 ?_
  refine qp (AS []) rfl ?_
  refine r_nil ?_
  refine w_seq ?_
  refine w_block ?_
  refine wr (l' := [(0, AI v0), (3, AS ([] : List UInt8))]) (L := []) [0, 3] [] 1 ?_
  refine w_loopF (F_laws_markText_l0) (fun s : Int × (List UInt8) => mkS [(0, AI s.1), (3, AS s.2)] (fo []) 1) hF ?_
  rintro k0 ⟨v5, v6⟩ hF
  rw [F_laws_markText_l0] at hF
  try dsimp only
  refine w_seq ?_
  refine ws 1 129 ?_
  refine qp (AI v5) rfl (qp (AB (decide ((0 : Int) < v5))) rfl ?_)
  refine r_nil ?_
  refine cF hF (fun hF => ?_) fun hF => ?_
  ·
   refine w_skip ?_
   refine thenQ_n ?_
   refine w_block ?_
   refine ws 129 705 ?_
   refine qp (AI v5) rfl (qp (AI (Int.tmod v5 10)) (ev_rem rfl rfl (by decide)) (qp (AI (w64 (48 + (Int.tmod v5 10)))) rfl (qp (.val none (.int .u8 (IntKind.wrap .u8 (w64 (48 + (Int.tmod v5 10)))))) rfl ?_)))
   refine qf (.sl 385 0 (([IntKind.wrap .u8 (w64 (48 + (Int.tmod v5 10)))] : List Int).length)) [(385, .row true 1 (([IntKind.wrap .u8 (w64 (48 + (Int.tmod v5 10)))] : List Int).map (V.int .u8)))] (by simp [List.take_of_length_le]) ?_
   refine qp (AS (bytesI ([IntKind.wrap .u8 (w64 (48 + (Int.tmod v5 10)))] : List Int))) (ev_bts_r rfl (by simp) rfl) (qp (AS v6) rfl ?_)
   obtain ⟨g1000, hF⟩ := need_some hF
   refine qp (AS ((bytesI ([IntKind.wrap .u8 (w64 (48 + (Int.tmod v5 10)))] : List Int)) ++ v6)) (ev_add_s rfl rfl g1000) (qp (AS ((bytesI ([IntKind.wrap .u8 (w64 (48 + (Int.tmod v5 10)))] : List Int)) ++ v6)) rfl ?_)
   refine r_nil ?_
   refine w_reg 705 897 rfl rfl ?_
   refine qp (AI v5) rfl (qp (AI (w64 (Int.tdiv v5 10))) (ev_quo rfl rfl (by decide)) (qp (AI (w64 (Int.tdiv v5 10))) rfl ?_))
   refine r_nil ?_
   refine blockQ_n ?_
   refine thenQ_n ?_
   refine ar (l' := [(0, AI (w64 (Int.tdiv v5 10))), (3, AS ((bytesI ([IntKind.wrap .u8 (w64 (48 + (Int.tmod v5 10)))] : List Int)) ++ v6))]) (L := []) [0, 3] [] 1 ⟨_, by rfl, hF⟩
  ·
   refine w_exit ?_
   refine thenQ_e ?_
   refine thenQ_e ?_
   refine blockQ_e ?_
   refine thenQ_n ?_
   refine ws 129 321 ?_
   refine qp (AS v6) rfl ?_
   obtain ⟨g1001, hF⟩ := need_some hF
   refine qp (AS ([109] ++ v6)) (ev_add_s rfl rfl g1001) (qp (AS ([109] ++ v6)) rfl ?_)
   refine r_nil ?_
   refine w_ret ?_
   cases hF
   exact eR

def c60 : MC := (.seq (.reg [rg 4 (.p true (.mv (.c (.int .i64 0))))]) (.seq (.seq (.reg [rg 5 (.p true (.mv (.c (.int .i64 0))))]) (.block 0 (.loop (.seq (.seq (.reg [rg 6 (.p true (.mv (.t 5))), rg 7 (.p true (.mv (.t 0))), rg 8 (.p true (.len (.t 7))), rg 9 (.p true (.bin .lss (.t 6) (.t 8)))]) (.cond (.t 9) .skip (.exit 0))) (.seq (.block 1 (.seq (.reg [rg 12 (.p true (.mv (.t 0))), rg 13 (.p true (.mv (.t 5))), rg 14 (.p true (.mv (.t 1))), rg 15 (.p true (.iad (.t 12) (.t 13) 5)), rg 16 (.p true (.fad (.t 15) 0)), ⟨none, none, (.f (.st (.t 16) (.t 14) 1))⟩]) (.seq (.reg [rg 17 (.p true (.mv (.t 1))), rg 18 (.p true (.bin .add (.t 17) (.c (.int .i64 1)))), rg 1 (.p true (.mv (.t 18)))]) (.seq (.reg [rg 19 (.p true (.mv (.t 0))), rg 20 (.p true (.mv (.t 5))), rg 21 (.p true (.mv (.t 1))), rg 22 (.call true 77 [(.t 21)]), rg 23 (.p true (.iad (.t 19) (.t 20) 5)), rg 24 (.p true (.fad (.t 23) 1)), ⟨none, none, (.f (.st (.t 24) (.t 22) 1))⟩]) (.seq (.reg [rg 25 (.p true (.mv (.t 1))), rg 26 (.p true (.bin .add (.t 25) (.c (.int .i64 1)))), rg 1 (.p true (.mv (.t 26)))]) (.seq (.reg [rg 27 (.p true (.mv (.t 0))), rg 28 (.p true (.mv (.t 5))), rg 29 (.p true (.mv (.t 1))), rg 30 (.call true 77 [(.t 29)]), rg 31 (.p true (.iad (.t 27) (.t 28) 5)), rg 32 (.p true (.fad (.t 31) 2)), ⟨none, none, (.f (.st (.t 32) (.t 30) 1))⟩]) (.seq (.reg [rg 33 (.p true (.mv (.t 1))), rg 34 (.p true (.bin .add (.t 33) (.c (.int .i64 1)))), rg 1 (.p true (.mv (.t 34)))]) (.seq (.reg [rg 35 (.p true (.mv (.t 0))), rg 36 (.p true (.mv (.t 5))), rg 37 (.p true (.mv (.t 1))), rg 38 (.p true (.iad (.t 35) (.t 36) 5)), rg 39 (.p true (.fad (.t 38) 3)), ⟨none, none, (.f (.st (.t 39) (.t 37) 1))⟩]) (.seq (.reg [rg 40 (.p true (.mv (.t 1))), rg 41 (.p true (.bin .add (.t 40) (.c (.int .i64 1)))), rg 1 (.p true (.mv (.t 41)))]) (.seq (.reg [rg 42 (.p true (.mv (.t 0))), rg 43 (.p true (.mv (.t 5))), rg 44 (.p true (.mv (.t 1))), rg 45 (.p true (.iad (.t 42) (.t 43) 5)), rg 46 (.p true (.fad (.t 45) 4)), ⟨none, none, (.f (.st (.t 46) (.t 44) 1))⟩]) (.reg [rg 47 (.p true (.mv (.t 1))), rg 48 (.p true (.bin .add (.t 47) (.c (.int .i64 1)))), rg 1 (.p true (.mv (.t 48)))]))))))))))) (.reg [rg 10 (.p true (.mv (.t 5))), rg 11 (.p true (.bin .add (.t 10) (.c (.int .i64 1)))), rg 5 (.p true (.mv (.t 11)))])))))) (.seq (.reg [rg 49 (.p true (.mv (.t 1))), rg 4 (.p true (.mv (.t 49)))]) .ret)))
theorem c60_is : compFnM Try.prog 60 = some (c60, [(.tmp 4)]) := by kernel_rfl
theorem c60_ok : okFn Try.prog 60 = true := by kernel_rfl

noncomputable def F_laws_markLessonS_l0 (k0 : Int × Int × (List TLesson) → Option ((List TLesson) × Int)) : Int × Int × (List TLesson) → Option ((List TLesson) × Int)
 | (v19, v20, v21) => (bif (decide (v20 < (v21.length : Int))) then ((ix v21 v20).bind fun v1000 => ((F_laws_markText (w64 (v19 + 1))).bind fun v1001 => ((ix (List.set v21 v20.toNat (v19, v1000.2.1, v1000.2.2.1, v1000.2.2.2.1, v1000.2.2.2.2)) v20).bind fun v1002 => ((F_laws_markText (w64 ((w64 (v19 + 1)) + 1))).bind fun v1003 => ((ix (List.set (List.set v21 v20.toNat (v19, v1000.2.1, v1000.2.2.1, v1000.2.2.2.1, v1000.2.2.2.2)) v20.toNat (v1002.1, v1001, v1002.2.2.1, v1002.2.2.2.1, v1002.2.2.2.2)) v20).bind fun v1004 => ((ix (List.set (List.set (List.set v21 v20.toNat (v19, v1000.2.1, v1000.2.2.1, v1000.2.2.2.1, v1000.2.2.2.2)) v20.toNat (v1002.1, v1001, v1002.2.2.1, v1002.2.2.2.1, v1002.2.2.2.2)) v20.toNat (v1004.1, v1004.2.1, v1003, v1004.2.2.2.1, v1004.2.2.2.2)) v20).bind fun v1005 => ((ix (List.set (List.set (List.set (List.set v21 v20.toNat (v19, v1000.2.1, v1000.2.2.1, v1000.2.2.2.1, v1000.2.2.2.2)) v20.toNat (v1002.1, v1001, v1002.2.2.1, v1002.2.2.2.1, v1002.2.2.2.2)) v20.toNat (v1004.1, v1004.2.1, v1003, v1004.2.2.2.1, v1004.2.2.2.2)) v20.toNat (v1005.1, v1005.2.1, v1005.2.2.1, w64 ((w64 ((w64 (v19 + 1)) + 1)) + 1), v1005.2.2.2.2)) v20).bind fun v1006 => k0 (w64 ((w64 ((w64 ((w64 ((w64 (v19 + 1)) + 1)) + 1)) + 1)) + 1), w64 (v20 + 1), List.set (List.set (List.set (List.set (List.set v21 v20.toNat (v19, v1000.2.1, v1000.2.2.1, v1000.2.2.2.1, v1000.2.2.2.2)) v20.toNat (v1002.1, v1001, v1002.2.2.1, v1002.2.2.2.1, v1002.2.2.2.2)) v20.toNat (v1004.1, v1004.2.1, v1003, v1004.2.2.2.1, v1004.2.2.2.2)) v20.toNat (v1005.1, v1005.2.1, v1005.2.2.1, w64 ((w64 ((w64 (v19 + 1)) + 1)) + 1), v1005.2.2.2.2)) v20.toNat (v1006.1, v1006.2.1, v1006.2.2.1, v1006.2.2.2.1, w64 ((w64 ((w64 ((w64 (v19 + 1)) + 1)) + 1)) + 1))))))))))
 else some (v21, v19))
noncomputable def F_laws_markLessonS (v0 : List TLesson) (v1 : Int) : Option ((List TLesson) × Int) :=
 loop (F_laws_markLessonS_l0) (v1, 0, v0)
theorem con_laws_markLessonS {v0 : List TLesson} {v1 : Int} {r : (List TLesson) × Int} (hF : F_laws_markLessonS v0 v1 = some r) : ConM Try.prog 60 (.one (.row true 5 (v0.map eLesson))) (.one (.row true 5 (r.1.map eLesson))) [.int .i64 v1] (.int .i64 r.2) := by
 unfold F_laws_markLessonS at hF
 refine conM_of (av := .sl 0 0 v0.length) (L := [(0, .row true 5 (v0.map eLesson))]) c60_is rfl rfl rfl (by simp) fun N => ?_
 refine ws 64 128 ?_
 refine qp (AI 0) rfl ?_
 refine r_nil ?_
 refine w_seq ?_
 refine ws 128 192 ?_
 refine qp (AI 0) rfl ?_
 refine r_nil ?_
 refine w_block ?_
 refine wr (l' := [(0, .sl 0 0 v0.length), (1, AI v1), (5, AI 0)]) (L := [(0, .row true 5 (v0.map eLesson))]) [0, 1, 5] [(0, 0)] 1 ?_
 refine w_loopF (F_laws_markLessonS_l0) (fun s : Int × Int × (List TLesson) => mkS [(0, .sl 0 0 s.2.2.length), (1, AI s.1), (5, AI s.2.1)] (fo [(0, .row true 5 (s.2.2.map eLesson))]) 1) hF ?_
 rintro k0 ⟨v19, v20, v21⟩ hF
 rw [F_laws_markLessonS_l0] at hF
 try dsimp only
 refine w_seq ?_
 refine ws 1 257 ?_
 refine qp (AI v20) rfl (qp (.sl 0 0 v21.length) rfl (qp (AI (v21.length : Int)) rfl (qp (AB (decide (v20 < (v21.length : Int)))) rfl ?_)))
 refine r_nil ?_
 refine cF hF (fun hF => ?_) fun hF => ?_
 ·
  refine w_skip ?_
  refine thenQ_n ?_
  refine w_seq ?_
  refine w_block ?_
  refine ws 257 641 ?_
  refine qp (.sl 0 0 v21.length) rfl (qp (AI v20) rfl (qp (AI v19) rfl ?_))
  obtain ⟨v1000, e1000, hF⟩ := bind_get hF
  refine qp (.ptr 0 v20.toNat 0) (ev_iad_r rfl (by simp) rfl rfl e1000) (qp (.ptr 0 v20.toNat 0) rfl ?_)
  refine qf0 (.undef) [(0, .row true 5 ((List.set v21 v20.toNat (v19, v1000.2.1, v1000.2.2.1, v1000.2.2.2.1, v1000.2.2.2.2)).map eLesson)), (0, .row true 5 (v21.map eLesson))] (effT_st rfl rfl (ix_some e1000).2 rfl rfl (by rfl) (by first | rfl | simp [patch, reb, List.take_of_length_le]) (by rfl) rfl) ?_
  refine r_nil ?_
  refine ws 641 833 ?_
  refine qp (AI v19) rfl (qp (AI (w64 (v19 + 1))) rfl (qp (AI (w64 (v19 + 1))) rfl ?_))
  refine r_nil ?_
  refine ws 833 1281 ?_
  refine qp (.sl 0 0 v21.length) rfl (qp (AI v20) rfl (qp (AI (w64 (v19 + 1))) rfl ?_))
  obtain ⟨v1001, e1001, hF⟩ := bind_get hF
  refine qc (AS v1001) [(0, .row true 5 ((List.set v21 v20.toNat (v19, v1000.2.1, v1000.2.2.1, v1000.2.2.2.1, v1000.2.2.2.2)).map eLesson)), (0, .row true 5 (v21.map eLesson))] false (con_laws_markText e1001) c77_ok (by first | rfl | simp) rfl ?_
  obtain ⟨v1002, e1002, hF⟩ := bind_get hF
  refine qp (.ptr 0 v20.toNat 0) (ev_iad_r rfl (by simp) rfl rfl e1002) (qp (.ptr 0 v20.toNat 1) rfl ?_)
  refine qf0 (.undef) [(0, .row true 5 ((List.set (List.set v21 v20.toNat (v19, v1000.2.1, v1000.2.2.1, v1000.2.2.2.1, v1000.2.2.2.2)) v20.toNat (v1002.1, v1001, v1002.2.2.1, v1002.2.2.2.1, v1002.2.2.2.2)).map eLesson)), (0, .row true 5 ((List.set v21 v20.toNat (v19, v1000.2.1, v1000.2.2.1, v1000.2.2.2.1, v1000.2.2.2.2)).map eLesson)), (0, .row true 5 (v21.map eLesson))] (effT_st rfl rfl (ix_some e1002).2 rfl rfl (by rfl) (by first | rfl | simp [patch, reb, List.take_of_length_le]) (by rfl) rfl) ?_
  refine r_nil ?_
  refine ws 1281 1473 ?_
  refine qp (AI (w64 (v19 + 1))) rfl (qp (AI (w64 ((w64 (v19 + 1)) + 1))) rfl (qp (AI (w64 ((w64 (v19 + 1)) + 1))) rfl ?_))
  refine r_nil ?_
  refine ws 1473 1921 ?_
  refine qp (.sl 0 0 v21.length) rfl (qp (AI v20) rfl (qp (AI (w64 ((w64 (v19 + 1)) + 1))) rfl ?_))
  obtain ⟨v1003, e1003, hF⟩ := bind_get hF
  refine qc (AS v1003) [(0, .row true 5 ((List.set (List.set v21 v20.toNat (v19, v1000.2.1, v1000.2.2.1, v1000.2.2.2.1, v1000.2.2.2.2)) v20.toNat (v1002.1, v1001, v1002.2.2.1, v1002.2.2.2.1, v1002.2.2.2.2)).map eLesson)), (0, .row true 5 ((List.set v21 v20.toNat (v19, v1000.2.1, v1000.2.2.1, v1000.2.2.2.1, v1000.2.2.2.2)).map eLesson)), (0, .row true 5 (v21.map eLesson))] false (con_laws_markText e1003) c77_ok (by first | rfl | simp) rfl ?_
  obtain ⟨v1004, e1004, hF⟩ := bind_get hF
  refine qp (.ptr 0 v20.toNat 0) (ev_iad_r rfl (by simp) rfl rfl e1004) (qp (.ptr 0 v20.toNat 2) rfl ?_)
  refine qf0 (.undef) [(0, .row true 5 ((List.set (List.set (List.set v21 v20.toNat (v19, v1000.2.1, v1000.2.2.1, v1000.2.2.2.1, v1000.2.2.2.2)) v20.toNat (v1002.1, v1001, v1002.2.2.1, v1002.2.2.2.1, v1002.2.2.2.2)) v20.toNat (v1004.1, v1004.2.1, v1003, v1004.2.2.2.1, v1004.2.2.2.2)).map eLesson)), (0, .row true 5 ((List.set (List.set v21 v20.toNat (v19, v1000.2.1, v1000.2.2.1, v1000.2.2.2.1, v1000.2.2.2.2)) v20.toNat (v1002.1, v1001, v1002.2.2.1, v1002.2.2.2.1, v1002.2.2.2.2)).map eLesson)), (0, .row true 5 ((List.set v21 v20.toNat (v19, v1000.2.1, v1000.2.2.1, v1000.2.2.2.1, v1000.2.2.2.2)).map eLesson)), (0, .row true 5 (v21.map eLesson))] (effT_st rfl rfl (ix_some e1004).2 rfl rfl (by rfl) (by first | rfl | simp [patch, reb, List.take_of_length_le]) (by rfl) rfl) ?_
  refine r_nil ?_
  refine ws 1921 2113 ?_
  refine qp (AI (w64 ((w64 (v19 + 1)) + 1))) rfl (qp (AI (w64 ((w64 ((w64 (v19 + 1)) + 1)) + 1))) rfl (qp (AI (w64 ((w64 ((w64 (v19 + 1)) + 1)) + 1))) rfl ?_))
  refine r_nil ?_
  refine ws 2113 2497 ?_
  refine qp (.sl 0 0 v21.length) rfl (qp (AI v20) rfl (qp (AI (w64 ((w64 ((w64 (v19 + 1)) + 1)) + 1))) rfl ?_))
  obtain ⟨v1005, e1005, hF⟩ := bind_get hF
  refine qp (.ptr 0 v20.toNat 0) (ev_iad_r rfl (by simp) rfl rfl e1005) (qp (.ptr 0 v20.toNat 3) rfl ?_)
  refine qf0 (.undef) [(0, .row true 5 ((List.set (List.set (List.set (List.set v21 v20.toNat (v19, v1000.2.1, v1000.2.2.1, v1000.2.2.2.1, v1000.2.2.2.2)) v20.toNat (v1002.1, v1001, v1002.2.2.1, v1002.2.2.2.1, v1002.2.2.2.2)) v20.toNat (v1004.1, v1004.2.1, v1003, v1004.2.2.2.1, v1004.2.2.2.2)) v20.toNat (v1005.1, v1005.2.1, v1005.2.2.1, w64 ((w64 ((w64 (v19 + 1)) + 1)) + 1), v1005.2.2.2.2)).map eLesson)), (0, .row true 5 ((List.set (List.set (List.set v21 v20.toNat (v19, v1000.2.1, v1000.2.2.1, v1000.2.2.2.1, v1000.2.2.2.2)) v20.toNat (v1002.1, v1001, v1002.2.2.1, v1002.2.2.2.1, v1002.2.2.2.2)) v20.toNat (v1004.1, v1004.2.1, v1003, v1004.2.2.2.1, v1004.2.2.2.2)).map eLesson)), (0, .row true 5 ((List.set (List.set v21 v20.toNat (v19, v1000.2.1, v1000.2.2.1, v1000.2.2.2.1, v1000.2.2.2.2)) v20.toNat (v1002.1, v1001, v1002.2.2.1, v1002.2.2.2.1, v1002.2.2.2.2)).map eLesson)), (0, .row true 5 ((List.set v21 v20.toNat (v19, v1000.2.1, v1000.2.2.1, v1000.2.2.2.1, v1000.2.2.2.2)).map eLesson)), (0, .row true 5 (v21.map eLesson))] (effT_st rfl rfl (ix_some e1005).2 rfl rfl (by rfl) (by first | rfl | simp [patch, reb, List.take_of_length_le]) (by rfl) rfl) ?_
  refine r_nil ?_
  refine ws 2497 2689 ?_
  refine qp (AI (w64 ((w64 ((w64 (v19 + 1)) + 1)) + 1))) rfl (qp (AI (w64 ((w64 ((w64 ((w64 (v19 + 1)) + 1)) + 1)) + 1))) rfl (qp (AI (w64 ((w64 ((w64 ((w64 (v19 + 1)) + 1)) + 1)) + 1))) rfl ?_))
  refine r_nil ?_
  refine ws 2689 3073 ?_
  refine qp (.sl 0 0 v21.length) rfl (qp (AI v20) rfl (qp (AI (w64 ((w64 ((w64 ((w64 (v19 + 1)) + 1)) + 1)) + 1))) rfl ?_))
  obtain ⟨v1006, e1006, hF⟩ := bind_get hF
  refine qp (.ptr 0 v20.toNat 0) (ev_iad_r rfl (by simp) rfl rfl e1006) (qp (.ptr 0 v20.toNat 4) rfl ?_)
  refine qf0 (.undef) [(0, .row true 5 ((List.set (List.set (List.set (List.set (List.set v21 v20.toNat (v19, v1000.2.1, v1000.2.2.1, v1000.2.2.2.1, v1000.2.2.2.2)) v20.toNat (v1002.1, v1001, v1002.2.2.1, v1002.2.2.2.1, v1002.2.2.2.2)) v20.toNat (v1004.1, v1004.2.1, v1003, v1004.2.2.2.1, v1004.2.2.2.2)) v20.toNat (v1005.1, v1005.2.1, v1005.2.2.1, w64 ((w64 ((w64 (v19 + 1)) + 1)) + 1), v1005.2.2.2.2)) v20.toNat (v1006.1, v1006.2.1, v1006.2.2.1, v1006.2.2.2.1, w64 ((w64 ((w64 ((w64 (v19 + 1)) + 1)) + 1)) + 1))).map eLesson)), (0, .row true 5 ((List.set (List.set (List.set (List.set v21 v20.toNat (v19, v1000.2.1, v1000.2.2.1, v1000.2.2.2.1, v1000.2.2.2.2)) v20.toNat (v1002.1, v1001, v1002.2.2.1, v1002.2.2.2.1, v1002.2.2.2.2)) v20.toNat (v1004.1, v1004.2.1, v1003, v1004.2.2.2.1, v1004.2.2.2.2)) v20.toNat (v1005.1, v1005.2.1, v1005.2.2.1, w64 ((w64 ((w64 (v19 + 1)) + 1)) + 1), v1005.2.2.2.2)).map eLesson)), (0, .row true 5 ((List.set (List.set (List.set v21 v20.toNat (v19, v1000.2.1, v1000.2.2.1, v1000.2.2.2.1, v1000.2.2.2.2)) v20.toNat (v1002.1, v1001, v1002.2.2.1, v1002.2.2.2.1, v1002.2.2.2.2)) v20.toNat (v1004.1, v1004.2.1, v1003, v1004.2.2.2.1, v1004.2.2.2.2)).map eLesson)), (0, .row true 5 ((List.set (List.set v21 v20.toNat (v19, v1000.2.1, v1000.2.2.1, v1000.2.2.2.1, v1000.2.2.2.2)) v20.toNat (v1002.1, v1001, v1002.2.2.1, v1002.2.2.2.1, v1002.2.2.2.2)).map eLesson)), (0, .row true 5 ((List.set v21 v20.toNat (v19, v1000.2.1, v1000.2.2.1, v1000.2.2.2.1, v1000.2.2.2.2)).map eLesson)), (0, .row true 5 (v21.map eLesson))] (effT_st rfl rfl (ix_some e1006).2 rfl rfl (by rfl) (by first | rfl | simp [patch, reb, List.take_of_length_le]) (by rfl) rfl) ?_
  refine r_nil ?_
  refine w_reg 3073 3265 rfl rfl ?_
  refine qp (AI (w64 ((w64 ((w64 ((w64 (v19 + 1)) + 1)) + 1)) + 1))) rfl (qp (AI (w64 ((w64 ((w64 ((w64 ((w64 (v19 + 1)) + 1)) + 1)) + 1)) + 1))) rfl (qp (AI (w64 ((w64 ((w64 ((w64 ((w64 (v19 + 1)) + 1)) + 1)) + 1)) + 1))) rfl ?_))
  refine r_nil ?_
  refine blockQ_n ?_
  refine thenQ_n ?_
  refine w_reg 3265 3457 rfl rfl ?_
  refine qp (AI v20) rfl (qp (AI (w64 (v20 + 1))) rfl (qp (AI (w64 (v20 + 1))) rfl ?_))
  refine r_nil ?_
  refine thenQ_n ?_
  refine ar (l' := [(0, .sl 0 0 (List.set (List.set (List.set (List.set (List.set v21 v20.toNat (v19, v1000.2.1, v1000.2.2.1, v1000.2.2.2.1, v1000.2.2.2.2)) v20.toNat (v1002.1, v1001, v1002.2.2.1, v1002.2.2.2.1, v1002.2.2.2.2)) v20.toNat (v1004.1, v1004.2.1, v1003, v1004.2.2.2.1, v1004.2.2.2.2)) v20.toNat (v1005.1, v1005.2.1, v1005.2.2.1, w64 ((w64 ((w64 (v19 + 1)) + 1)) + 1), v1005.2.2.2.2)) v20.toNat (v1006.1, v1006.2.1, v1006.2.2.1, v1006.2.2.2.1, w64 ((w64 ((w64 ((w64 (v19 + 1)) + 1)) + 1)) + 1))).length), (1, AI (w64 ((w64 ((w64 ((w64 ((w64 (v19 + 1)) + 1)) + 1)) + 1)) + 1))), (5, AI (w64 (v20 + 1)))]) (L := [(0, .row true 5 ((List.set (List.set (List.set (List.set (List.set v21 v20.toNat (v19, v1000.2.1, v1000.2.2.1, v1000.2.2.2.1, v1000.2.2.2.2)) v20.toNat (v1002.1, v1001, v1002.2.2.1, v1002.2.2.2.1, v1002.2.2.2.2)) v20.toNat (v1004.1, v1004.2.1, v1003, v1004.2.2.2.1, v1004.2.2.2.2)) v20.toNat (v1005.1, v1005.2.1, v1005.2.2.1, w64 ((w64 ((w64 (v19 + 1)) + 1)) + 1), v1005.2.2.2.2)) v20.toNat (v1006.1, v1006.2.1, v1006.2.2.1, v1006.2.2.2.1, w64 ((w64 ((w64 ((w64 (v19 + 1)) + 1)) + 1)) + 1))).map eLesson))]) [0, 1, 5] [(0, 0)] 1 ⟨_, by rfl, hF⟩
 ·
  refine w_exit ?_
  refine thenQ_e ?_
  refine thenQ_e ?_
  refine blockQ_e ?_
  refine thenQ_n ?_
  refine ws 257 385 ?_
  refine qp (AI v19) rfl (qp (AI v19) rfl ?_)
  refine r_nil ?_
  refine w_ret ?_
  cases hF
  exact endM_r rfl rfl (by first | rfl | (simp [List.take_of_length_le]; first | exact ⟨rfl, rfl⟩ | rfl)) (by simp)

def c61 : MC := (.seq (.reg [rg 4 (.p true (.mv (.c (.int .i64 0))))]) (.seq (.seq (.reg [rg 5 (.p true (.mv (.c (.int .i64 0))))]) (.block 0 (.loop (.seq (.seq (.reg [rg 6 (.p true (.mv (.t 5))), rg 7 (.p true (.mv (.t 0))), rg 8 (.p true (.len (.t 7))), rg 9 (.p true (.bin .lss (.t 6) (.t 8)))]) (.cond (.t 9) .skip (.exit 0))) (.seq (.block 1 (.seq (.seq (.reg [rg 12 (.p true (.mv (.t 0))), rg 13 (.p true (.mv (.t 5))), rg 14 (.p true (.iad (.t 12) (.t 13) 5)), rg 15 (.p true (.fad (.t 14) 0)), rg 16 (.p true (.ld (.t 15) 1 false)), rg 17 (.p true (.mv (.t 1))), rg 18 (.p true (.bin .neq (.t 16) (.t 17)))]) (.cond (.t 18) (.seq (.reg [rg 4 (.p true (.mv (.c (.int .i64 (-1)))))]) .ret) .skip)) (.seq (.reg [rg 19 (.p true (.mv (.t 1))), rg 20 (.p true (.bin .add (.t 19) (.c (.int .i64 1)))), rg 1 (.p true (.mv (.t 20)))]) (.seq (.seq (.reg [rg 21 (.p false (.mv (.t 0))), rg 22 (.p false (.mv (.t 5))), rg 23 (.p false (.iad (.t 21) (.t 22) 5)), rg 24 (.p false (.fad (.t 23) 1)), rg 25 (.p false (.ld (.t 24) 1 false)), rg 26 (.p false (.mv (.t 1))), rg 27 (.call false 77 [(.t 26)]), rg 28 (.p false (.bin .neq (.t 25) (.t 27)))]) (.cond (.t 28) (.seq (.reg [rg 4 (.p true (.mv (.c (.int .i64 (-1)))))]) .ret) .skip)) (.seq (.reg [rg 29 (.p true (.mv (.t 1))), rg 30 (.p true (.bin .add (.t 29) (.c (.int .i64 1)))), rg 1 (.p true (.mv (.t 30)))]) (.seq (.seq (.reg [rg 31 (.p false (.mv (.t 0))), rg 32 (.p false (.mv (.t 5))), rg 33 (.p false (.iad (.t 31) (.t 32) 5)), rg 34 (.p false (.fad (.t 33) 2)), rg 35 (.p false (.ld (.t 34) 1 false)), rg 36 (.p false (.mv (.t 1))), rg 37 (.call false 77 [(.t 36)]), rg 38 (.p false (.bin .neq (.t 35) (.t 37)))]) (.cond (.t 38) (.seq (.reg [rg 4 (.p true (.mv (.c (.int .i64 (-1)))))]) .ret) .skip)) (.seq (.reg [rg 39 (.p true (.mv (.t 1))), rg 40 (.p true (.bin .add (.t 39) (.c (.int .i64 1)))), rg 1 (.p true (.mv (.t 40)))]) (.seq (.seq (.reg [rg 41 (.p true (.mv (.t 0))), rg 42 (.p true (.mv (.t 5))), rg 43 (.p true (.iad (.t 41) (.t 42) 5)), rg 44 (.p true (.fad (.t 43) 3)), rg 45 (.p true (.ld (.t 44) 1 false)), rg 46 (.p true (.mv (.t 1))), rg 47 (.p true (.bin .neq (.t 45) (.t 46)))]) (.cond (.t 47) (.seq (.reg [rg 4 (.p true (.mv (.c (.int .i64 (-1)))))]) .ret) .skip)) (.seq (.reg [rg 48 (.p true (.mv (.t 1))), rg 49 (.p true (.bin .add (.t 48) (.c (.int .i64 1)))), rg 1 (.p true (.mv (.t 49)))]) (.seq (.seq (.reg [rg 50 (.p true (.mv (.t 0))), rg 51 (.p true (.mv (.t 5))), rg 52 (.p true (.iad (.t 50) (.t 51) 5)), rg 53 (.p true (.fad (.t 52) 4)), rg 54 (.p true (.ld (.t 53) 1 false)), rg 55 (.p true (.mv (.t 1))), rg 56 (.p true (.bin .neq (.t 54) (.t 55)))]) (.cond (.t 56) (.seq (.reg [rg 4 (.p true (.mv (.c (.int .i64 (-1)))))]) .ret) .skip)) (.reg [rg 57 (.p true (.mv (.t 1))), rg 58 (.p true (.bin .add (.t 57) (.c (.int .i64 1)))), rg 1 (.p true (.mv (.t 58)))]))))))))))) (.reg [rg 10 (.p true (.mv (.t 5))), rg 11 (.p true (.bin .add (.t 10) (.c (.int .i64 1)))), rg 5 (.p true (.mv (.t 11)))])))))) (.seq (.reg [rg 59 (.p true (.mv (.t 1))), rg 4 (.p true (.mv (.t 59)))]) .ret)))
theorem c61_is : compFn Try.prog 61 = some (c61, [(.tmp 4)]) := by kernel_rfl
theorem c61_ok : okFn Try.prog 61 = true := by kernel_rfl

noncomputable def F_laws_heldLessonS_l0 (v0 : List TLesson) (k0 : Int × Int → Option (Int)) : Int × Int → Option (Int)
 | (v18, v19) => (bif (decide (v19 < (v0.length : Int))) then ((ix v0 v19).bind fun v1000 => (bif (decide (v1000.1 ≠ v18)) then some (-1)
 else ((ix v0 v19).bind fun v1001 => ((F_laws_markText (w64 (v18 + 1))).bind fun v1002 => (bif (decide (v1001.2.1 ≠ v1002)) then some (-1)
 else ((ix v0 v19).bind fun v1003 => ((F_laws_markText (w64 ((w64 (v18 + 1)) + 1))).bind fun v1004 => (bif (decide (v1003.2.2.1 ≠ v1004)) then some (-1)
 else ((ix v0 v19).bind fun v1005 => (bif (decide (v1005.2.2.2.1 ≠ w64 ((w64 ((w64 (v18 + 1)) + 1)) + 1))) then some (-1)
 else ((ix v0 v19).bind fun v1006 => (bif (decide (v1006.2.2.2.2 ≠ w64 ((w64 ((w64 ((w64 (v18 + 1)) + 1)) + 1)) + 1))) then some (-1)
 else k0 (w64 ((w64 ((w64 ((w64 ((w64 (v18 + 1)) + 1)) + 1)) + 1)) + 1), w64 (v19 + 1))))))))))))))
 else some v18)
noncomputable def F_laws_heldLessonS (v0 : List TLesson) (v1 : Int) : Option (Int) :=
 loop (F_laws_heldLessonS_l0 v0) (v1, 0)
@[simp] def res_laws_heldLessonS (r : Int) : RV := .one (.one (.val (.int .i64 r)))
theorem con_laws_heldLessonS {v0 : List TLesson} {v1 : Int} {r : Int} (hF : F_laws_heldLessonS v0 v1 = some r) : Con Try.prog 61 [.sl 5 (v0.map eLesson), .int .i64 v1] (res_laws_heldLessonS r) := by
 unfold F_laws_heldLessonS at hF
 refine con_of c61_is fun N => ?_
 refine ws 0 64 ?_
 refine qp (AI 0) rfl ?_
 refine r_nil ?_
 refine w_seq ?_
 refine ws 64 128 ?_
 refine qp (AI 0) rfl ?_
 refine r_nil ?_
 refine w_block ?_
 refine wr (l' := [(0, AL 5 (v0.map eLesson)), (1, AI v1), (5, AI 0)]) (L := []) [0, 1, 5] [] 1 ?_
 refine w_loopF (F_laws_heldLessonS_l0 v0) (fun s : Int × Int => mkS [(0, AL 5 (v0.map eLesson)), (1, AI s.1), (5, AI s.2)] (fo []) 1) hF ?_
 rintro k0 ⟨v18, v19⟩ hF
 rw [F_laws_heldLessonS_l0] at hF
 try dsimp only
 refine w_seq ?_
 refine ws 1 257 ?_
 refine qp (AI v19) rfl (qp (AL 5 (v0.map eLesson)) rfl (qp (AI (v0.length : Int)) (ev_len_n rfl) (qp (AB (decide (v19 < (v0.length : Int)))) rfl ?_)))
 refine r_nil ?_
 refine cF hF (fun hF => ?_) fun hF => ?_
 ·
  refine w_skip ?_
  refine thenQ_n ?_
  refine w_seq ?_
  refine w_block ?_
  refine w_seq ?_
  refine ws 257 705 ?_
  refine qp (AL 5 (v0.map eLesson)) rfl (qp (AI v19) rfl ?_)
  obtain ⟨v1000, e1000, hF⟩ := bind_get hF
  refine qp (.val none (.ptr [.int .i64 v1000.1, .str v1000.2.1, .str v1000.2.2.1, .int .i64 v1000.2.2.2.1, .int .i64 v1000.2.2.2.2])) (ev_iad_n rfl rfl e1000 rfl) (qp (.val none (.ptr [.int .i64 v1000.1, .str v1000.2.1, .str v1000.2.2.1, .int .i64 v1000.2.2.2.1, .int .i64 v1000.2.2.2.2])) rfl (qp (AI v1000.1) rfl (qp (AI v18) rfl (qp (AB (decide (v1000.1 ≠ v18))) rfl ?_))))
  refine r_nil ?_
  refine cF hF (fun hF => ?_) fun hF => ?_
  ·
   refine ws 705 769 ?_
   refine qp (AI (-1)) rfl ?_
   refine r_nil ?_
   refine w_ret ?_
   refine thenQ_r ?_
   refine blockQ_r ?_
   refine thenQ_r ?_
   refine thenQ_r ?_
   refine blockQ_r ?_
   refine thenQ_r ?_
   cases hF
   exact eR
  ·
   refine w_skip ?_
   refine thenQ_n ?_
   refine ws 705 897 ?_
   refine qp (AI v18) rfl (qp (AI (w64 (v18 + 1))) rfl (qp (AI (w64 (v18 + 1))) rfl ?_))
   refine r_nil ?_
   refine w_seq ?_
   refine ws 897 1409 ?_
   refine qp (AL 5 (v0.map eLesson)) rfl (qp (AI v19) rfl ?_)
   obtain ⟨v1001, e1001, hF⟩ := bind_get hF
   refine qp (.val none (.ptr [.int .i64 v1001.1, .str v1001.2.1, .str v1001.2.2.1, .int .i64 v1001.2.2.2.1, .int .i64 v1001.2.2.2.2])) (ev_iad_n rfl rfl e1001 rfl) (qp (.val none (.ptr [.str v1001.2.1, .str v1001.2.2.1, .int .i64 v1001.2.2.2.1, .int .i64 v1001.2.2.2.2])) rfl (qp (AS v1001.2.1) rfl (qp (AI (w64 (v18 + 1))) rfl ?_)))
   obtain ⟨v1002, e1002, hF⟩ := bind_get hF
   refine qc (AS v1002) [] false (con_laws_markText e1002) c77_ok (by first | rfl | simp) rfl ?_
   refine qp (AB (decide (v1001.2.1 ≠ v1002))) rfl ?_
   refine r_nil ?_
   refine cF hF (fun hF => ?_) fun hF => ?_
   ·
    refine ws 1409 1473 ?_
    refine qp (AI (-1)) rfl ?_
    refine r_nil ?_
    refine w_ret ?_
    refine thenQ_r ?_
    refine blockQ_r ?_
    refine thenQ_r ?_
    refine thenQ_r ?_
    refine blockQ_r ?_
    refine thenQ_r ?_
    cases hF
    exact eR
   ·
    refine w_skip ?_
    refine thenQ_n ?_
    refine ws 1409 1601 ?_
    refine qp (AI (w64 (v18 + 1))) rfl (qp (AI (w64 ((w64 (v18 + 1)) + 1))) rfl (qp (AI (w64 ((w64 (v18 + 1)) + 1))) rfl ?_))
    refine r_nil ?_
    refine w_seq ?_
    refine ws 1601 2113 ?_
    refine qp (AL 5 (v0.map eLesson)) rfl (qp (AI v19) rfl ?_)
    obtain ⟨v1003, e1003, hF⟩ := bind_get hF
    refine qp (.val none (.ptr [.int .i64 v1003.1, .str v1003.2.1, .str v1003.2.2.1, .int .i64 v1003.2.2.2.1, .int .i64 v1003.2.2.2.2])) (ev_iad_n rfl rfl e1003 rfl) (qp (.val none (.ptr [.str v1003.2.2.1, .int .i64 v1003.2.2.2.1, .int .i64 v1003.2.2.2.2])) rfl (qp (AS v1003.2.2.1) rfl (qp (AI (w64 ((w64 (v18 + 1)) + 1))) rfl ?_)))
    obtain ⟨v1004, e1004, hF⟩ := bind_get hF
    refine qc (AS v1004) [] false (con_laws_markText e1004) c77_ok (by first | rfl | simp) rfl ?_
    refine qp (AB (decide (v1003.2.2.1 ≠ v1004))) rfl ?_
    refine r_nil ?_
    refine cF hF (fun hF => ?_) fun hF => ?_
    ·
     refine ws 2113 2177 ?_
     refine qp (AI (-1)) rfl ?_
     refine r_nil ?_
     refine w_ret ?_
     refine thenQ_r ?_
     refine blockQ_r ?_
     refine thenQ_r ?_
     refine thenQ_r ?_
     refine blockQ_r ?_
     refine thenQ_r ?_
     cases hF
     exact eR
    ·
     refine w_skip ?_
     refine thenQ_n ?_
     refine ws 2113 2305 ?_
     refine qp (AI (w64 ((w64 (v18 + 1)) + 1))) rfl (qp (AI (w64 ((w64 ((w64 (v18 + 1)) + 1)) + 1))) rfl (qp (AI (w64 ((w64 ((w64 (v18 + 1)) + 1)) + 1))) rfl ?_))
     refine r_nil ?_
     refine w_seq ?_
     refine ws 2305 2753 ?_
     refine qp (AL 5 (v0.map eLesson)) rfl (qp (AI v19) rfl ?_)
     obtain ⟨v1005, e1005, hF⟩ := bind_get hF
     refine qp (.val none (.ptr [.int .i64 v1005.1, .str v1005.2.1, .str v1005.2.2.1, .int .i64 v1005.2.2.2.1, .int .i64 v1005.2.2.2.2])) (ev_iad_n rfl rfl e1005 rfl) (qp (.val none (.ptr [.int .i64 v1005.2.2.2.1, .int .i64 v1005.2.2.2.2])) rfl (qp (AI v1005.2.2.2.1) rfl (qp (AI (w64 ((w64 ((w64 (v18 + 1)) + 1)) + 1))) rfl (qp (AB (decide (v1005.2.2.2.1 ≠ w64 ((w64 ((w64 (v18 + 1)) + 1)) + 1)))) rfl ?_))))
     refine r_nil ?_
     refine cF hF (fun hF => ?_) fun hF => ?_
     ·
      refine ws 2753 2817 ?_
      refine qp (AI (-1)) rfl ?_
      refine r_nil ?_
      refine w_ret ?_
      refine thenQ_r ?_
      refine blockQ_r ?_
      refine thenQ_r ?_
      refine thenQ_r ?_
      refine blockQ_r ?_
      refine thenQ_r ?_
      cases hF
      exact eR
     ·
      refine w_skip ?_
      refine thenQ_n ?_
      refine ws 2753 2945 ?_
      refine qp (AI (w64 ((w64 ((w64 (v18 + 1)) + 1)) + 1))) rfl (qp (AI (w64 ((w64 ((w64 ((w64 (v18 + 1)) + 1)) + 1)) + 1))) rfl (qp (AI (w64 ((w64 ((w64 ((w64 (v18 + 1)) + 1)) + 1)) + 1))) rfl ?_))
      refine r_nil ?_
      refine w_seq ?_
      refine ws 2945 3393 ?_
      refine qp (AL 5 (v0.map eLesson)) rfl (qp (AI v19) rfl ?_)
      obtain ⟨v1006, e1006, hF⟩ := bind_get hF
      refine qp (.val none (.ptr [.int .i64 v1006.1, .str v1006.2.1, .str v1006.2.2.1, .int .i64 v1006.2.2.2.1, .int .i64 v1006.2.2.2.2])) (ev_iad_n rfl rfl e1006 rfl) (qp (.val none (.ptr [.int .i64 v1006.2.2.2.2])) rfl (qp (AI v1006.2.2.2.2) rfl (qp (AI (w64 ((w64 ((w64 ((w64 (v18 + 1)) + 1)) + 1)) + 1))) rfl (qp (AB (decide (v1006.2.2.2.2 ≠ w64 ((w64 ((w64 ((w64 (v18 + 1)) + 1)) + 1)) + 1)))) rfl ?_))))
      refine r_nil ?_
      refine cF hF (fun hF => ?_) fun hF => ?_
      ·
       refine ws 3393 3457 ?_
       refine qp (AI (-1)) rfl ?_
       refine r_nil ?_
       refine w_ret ?_
       refine thenQ_r ?_
       refine blockQ_r ?_
       refine thenQ_r ?_
       refine thenQ_r ?_
       refine blockQ_r ?_
       refine thenQ_r ?_
       cases hF
       exact eR
      ·
       refine w_skip ?_
       refine thenQ_n ?_
       refine w_reg 3393 3585 rfl rfl ?_
       refine qp (AI (w64 ((w64 ((w64 ((w64 (v18 + 1)) + 1)) + 1)) + 1))) rfl (qp (AI (w64 ((w64 ((w64 ((w64 ((w64 (v18 + 1)) + 1)) + 1)) + 1)) + 1))) rfl (qp (AI (w64 ((w64 ((w64 ((w64 ((w64 (v18 + 1)) + 1)) + 1)) + 1)) + 1))) rfl ?_))
       refine r_nil ?_
       refine blockQ_n ?_
       refine thenQ_n ?_
       refine w_reg 3585 3777 rfl rfl ?_
       refine qp (AI v19) rfl (qp (AI (w64 (v19 + 1))) rfl (qp (AI (w64 (v19 + 1))) rfl ?_))
       refine r_nil ?_
       refine thenQ_n ?_
       refine ar (l' := [(0, AL 5 (v0.map eLesson)), (1, AI (w64 ((w64 ((w64 ((w64 ((w64 (v18 + 1)) + 1)) + 1)) + 1)) + 1))), (5, AI (w64 (v19 + 1)))]) (L := []) [0, 1, 5] [] 1 ⟨_, by rfl, hF⟩
 ·
  refine w_exit ?_
  refine thenQ_e ?_
  refine thenQ_e ?_
  refine blockQ_e ?_
  refine thenQ_n ?_
  refine ws 257 385 ?_
  refine qp (AI v18) rfl (qp (AI v18) rfl ?_)
  refine r_nil ?_
  refine w_ret ?_
  cases hF
  exact eR

def c13 : MC := (.seq (.reg [rg 3 (.f (.box (.t 1))), rg 4 (.p true (.mv (.c (.bool false))))]) (.seq (.reg [rg 5 (.p true (.mv (.c (.int .i64 1048576))))]) (.seq (.reg [rg 16 (.p true (.mv (.t 0))), rg 17 (.p true (.mv (.t 5))), rg 18 (.call true 53 [(.t 16), (.t 17)]), rg 5 (.p true (.mv (.t 18)))]) (.seq (.seq (.reg [rg 19 (.p true (.mv (.t 5))), rg 20 (.p true (.bin .lss (.t 19) (.c (.int .i64 0))))]) (.cond (.t 20) (.seq (.reg [rg 4 (.p true (.mv (.c (.bool true))))]) .ret) .skip)) (.seq (.reg [rg 21 (.p true (.ld (.t 3) 5 true)), rg 22 (.p true (.mv (.t 5))), rg 23 (.call true 54 [(.t 21), (.t 22)]), rg 5 (.p true (.mv (.t 23)))]) (.seq (.seq (.reg [rg 24 (.p true (.mv (.t 5))), rg 25 (.p true (.bin .lss (.t 24) (.c (.int .i64 0))))]) (.cond (.t 25) (.seq (.reg [rg 4 (.p true (.mv (.c (.bool true))))]) .ret) .skip)) (.seq (.reg [rg 27 (.p false (.mv (.t 0))), rg 28 (.call false 56 [(.t 27)]), rg 29 (.p false (.ld (.t 3) 5 true)), rg 30 (.call false 57 [(.t 29)]), rg 31 (.call false 55 [(.t 28), (.t 30)]), rg 26 (.p false (.mv (.t 31))), rg 32 (.p false (.ext (.t 26) 0)), rg 33 (.p false (.ext (.t 26) 1)), rg 6 (.p false (.mv (.t 32))), rg 7 (.p false (.mv (.t 33)))]) (.seq (.reg [rg 34 (.p true (.mv (.t 0))), rg 35 (.call true 56 [(.t 34)]), rg 8 (.p true (.mv (.t 35)))]) (.seq (.reg [rg 37 (.p true (.mv (.t 8))), rg 38 (.p true (.ld (.t 3) 5 true)), rg 39 (.call true 57 [(.t 38)]), rg 40 (.call true 58 [(.t 37), (.t 39)]), rg 36 (.p true (.mv (.t 40))), rg 41 (.p true (.ext (.t 36) 0)), rg 42 (.p true (.ext (.t 36) 1)), rg 9 (.p true (.mv (.t 41))), rg 10 (.p true (.mv (.t 42)))]) (.seq (.seq (.reg [rg 43 (.p true (.mv (.t 9))), rg 44 (.p true (.mv (.t 6))), rg 45 (.call true 59 [(.t 43), (.t 44)]), rg 46 (.p true (.not (.t 45))), rg 47 (.p true (.mv (.t 46))), ⟨(some 48), (some (47, false)), (.p true (.mv (.t 10)))⟩, ⟨(some 49), (some (47, false)), (.p true (.mv (.t 7)))⟩, ⟨(some 50), (some (47, false)), (.p true (.bin .neq (.t 48) (.t 49)))⟩, rg 51 (.p true (.pick (.t 47) (.c (.bool true)) (.t 50)))]) (.cond (.t 51) (.seq (.reg [rg 4 (.p true (.mv (.c (.bool false))))]) .ret) .skip)) (.seq (.seq (.reg [rg 52 (.p true (.mv (.t 8))), rg 53 (.p true (.mv (.t 0))), rg 54 (.call true 56 [(.t 53)]), rg 55 (.call true 59 [(.t 52), (.t 54)]), rg 56 (.p true (.not (.t 55)))]) (.cond (.t 56) (.seq (.reg [rg 4 (.p true (.mv (.c (.bool false))))]) .ret) .skip)) (.seq (.reg [rg 11 (.p true (.mv (.c (.int .i64 1))))]) (.seq (.reg [rg 57 (.p true (.mv (.t 8))), rg 58 (.p true (.mv (.t 11))), rg 59 (.call true 60 [(.t 57), (.t 58)]), rg 11 (.p true (.mv (.t 59)))]) (.seq (.seq (.reg [rg 60 (.p true (.mv (.t 11))), rg 61 (.p true (.bin .lss (.t 60) (.c (.int .i64 0)))), rg 62 (.p true (.mv (.t 61))), ⟨(some 63), (some (62, false)), (.p true (.mv (.t 9)))⟩, ⟨(some 64), (some (62, false)), (.p true (.mv (.t 6)))⟩, ⟨(some 65), (some (62, false)), (.call true 59 [(.t 63), (.t 64)])⟩, ⟨(some 66), (some (62, false)), (.p true (.not (.t 65)))⟩, rg 67 (.p true (.pick (.t 62) (.c (.bool true)) (.t 66))), rg 68 (.p true (.mv (.t 67))), ⟨(some 69), (some (68, false)), (.p true (.mv (.t 10)))⟩, ⟨(some 70), (some (68, false)), (.p true (.mv (.t 7)))⟩, ⟨(some 71), (some (68, false)), (.p true (.bin .neq (.t 69) (.t 70)))⟩, rg 72 (.p true (.pick (.t 68) (.c (.bool true)) (.t 71)))]) (.cond (.t 72) (.seq (.reg [rg 4 (.p true (.mv (.c (.bool false))))]) .ret) .skip)) (.seq (.reg [rg 12 (.p true (.mv (.c (.int .i64 1))))]) (.seq (.reg [rg 73 (.p true (.mv (.t 9))), rg 74 (.p true (.mv (.t 12))), rg 75 (.call true 60 [(.t 73), (.t 74)]), rg 12 (.p true (.mv (.t 75)))]) (.seq (.reg [rg 13 (.p true (.mv (.c (.int .i64 1))))]) (.seq (.reg [rg 76 (.p true (.mv (.t 9))), rg 77 (.p true (.mv (.t 13))), rg 78 (.call true 61 [(.t 76), (.t 77)]), rg 13 (.p true (.mv (.t 78)))]) (.seq (.seq (.reg [rg 79 (.p true (.mv (.t 13))), rg 80 (.p true (.bin .lss (.t 79) (.c (.int .i64 0))))]) (.cond (.t 80) (.seq (.reg [rg 4 (.p true (.mv (.c (.bool false))))]) .ret) .skip)) (.seq (.seq (.reg [rg 81 (.p true (.mv (.t 13))), rg 82 (.p true (.mv (.t 12))), rg 83 (.p true (.bin .neq (.t 81) (.t 82)))]) (.cond (.t 83) (.seq (.reg [rg 4 (.p true (.mv (.c (.bool false))))]) .ret) .skip)) (.seq (.reg [rg 85 (.p false (.mv (.t 0))), rg 86 (.call false 56 [(.t 85)]), rg 87 (.p false (.ld (.t 3) 5 true)), rg 88 (.call false 57 [(.t 87)]), rg 89 (.call false 58 [(.t 86), (.t 88)]), rg 84 (.p false (.mv (.t 89))), rg 90 (.p false (.ext (.t 84) 0)), rg 91 (.p false (.ext (.t 84) 1)), rg 14 (.p false (.mv (.t 90))), rg 15 (.p false (.mv (.t 91)))]) (.seq (.seq (.reg [rg 92 (.p true (.mv (.t 14))), rg 93 (.p true (.mv (.t 6))), rg 94 (.call true 59 [(.t 92), (.t 93)]), rg 95 (.p true (.not (.t 94))), rg 96 (.p true (.mv (.t 95))), ⟨(some 97), (some (96, false)), (.p true (.mv (.t 15)))⟩, ⟨(some 98), (some (96, false)), (.p true (.mv (.t 7)))⟩, ⟨(some 99), (some (96, false)), (.p true (.bin .neq (.t 97) (.t 98)))⟩, rg 100 (.p true (.pick (.t 96) (.c (.bool true)) (.t 99)))]) (.cond (.t 100) (.seq (.reg [rg 4 (.p true (.mv (.c (.bool false))))]) .ret) .skip)) (.seq (.reg [rg 13 (.p true (.mv (.c (.int .i64 1))))]) (.seq (.reg [rg 101 (.p true (.mv (.t 9))), rg 102 (.p true (.mv (.t 13))), rg 103 (.call true 61 [(.t 101), (.t 102)]), rg 13 (.p true (.mv (.t 103)))]) (.seq (.seq (.reg [rg 104 (.p true (.mv (.t 13))), rg 105 (.p true (.bin .lss (.t 104) (.c (.int .i64 0))))]) (.cond (.t 105) (.seq (.reg [rg 4 (.p true (.mv (.c (.bool false))))]) .ret) .skip)) (.seq (.seq (.reg [rg 106 (.p true (.mv (.t 13))), rg 107 (.p true (.mv (.t 12))), rg 108 (.p true (.bin .neq (.t 106) (.t 107)))]) (.cond (.t 108) (.seq (.reg [rg 4 (.p true (.mv (.c (.bool false))))]) .ret) .skip)) (.seq (.reg [rg 4 (.p true (.mv (.c (.bool true))))]) .ret)))))))))))))))))))))))))))
theorem c13_is : compFn Try.prog 13 = some (c13, [(.tmp 4)]) := by kernel_rfl
theorem c13_ok : okFn Try.prog 13 = true := by kernel_rfl

noncomputable def F_laws_FnExactAddLesson (v0 : List TLesson) (v1 : TLesson) : Option (Bool) :=
 ((F_laws_szLessonS v0 1048576).bind fun v1000 => (bif (decide (v1000 < (0 : Int))) then some true
 else ((F_laws_szLesson v1 v1000).bind fun v1001 => (bif (decide (v1001 < (0 : Int))) then some true
 else ((F_laws_toLessonS v0).bind fun v1002 => ((F_laws_toLesson v1).bind fun v1003 => ((F_spec_AddLesson v1002 v1003).bind fun v1004 => ((F_laws_toLessonS v0).bind fun v1005 => ((F_laws_toLesson v1).bind fun v1006 => ((F_impl_AddLesson v1005 v1006).bind fun v1007 => ((F_laws_eqLessonS v1007.1 v1004.1).bind fun v1009 => (bif (!v1009) then some false
 else (bif (decide (v1007.2 ≠ v1004.2)) then some false
 else ((F_laws_toLessonS v0).bind fun v1010 => ((F_laws_eqLessonS v1005 v1010).bind fun v1011 => (bif (!v1011) then some false
 else ((F_laws_markLessonS v1005 1).bind fun v1012 => need (v1012.1.length = v1005.length) ((bif (decide (v1012.2 < (0 : Int))) then some false
 else ((F_laws_eqLessonS v1007.1 v1004.1).bind fun v1015 => (bif (!v1015) then some false
 else (bif (decide (v1007.2 ≠ v1004.2)) then some false
 else ((F_laws_markLessonS v1007.1 1).bind fun v1016 => need (v1016.1.length = v1007.1.length) (((F_laws_heldLessonS v1016.1 1).bind fun v1018 => (bif (decide (v1018 < (0 : Int))) then some false
 else (bif (decide (v1018 ≠ v1016.2)) then some false
 else ((F_laws_toLessonS v0).bind fun v1019 => ((F_laws_toLesson v1).bind fun v1020 => ((F_impl_AddLesson v1019 v1020).bind fun v1021 => ((F_laws_eqLessonS v1021.1 v1004.1).bind fun v1023 => (bif (!v1023) then some false
 else (bif (decide (v1021.2 ≠ v1004.2)) then some false
 else ((F_laws_heldLessonS v1016.1 1).bind fun v1024 => (bif (decide (v1024 < (0 : Int))) then some false
 else (bif (decide (v1024 ≠ v1016.2)) then some false
 else some true))))))))))))))))))))))))))))))))))))
@[simp] def res_laws_FnExactAddLesson (r : Bool) : RV := .one (.one (.val (.bool r)))
theorem con_laws_FnExactAddLesson {v0 : List TLesson} {v1 : TLesson} {r : Bool} (hF : F_laws_FnExactAddLesson v0 v1 = some r) : Con Try.prog 13 [.sl 5 (v0.map eLesson), eLesson v1] (res_laws_FnExactAddLesson r) := by
 unfold F_laws_FnExactAddLesson at hF
 refine con_of c13_is fun N => ?_
 refine ws 0 128 ?_
 refine qf (.ptr 0 0 0) [(0, .box [AI v1.1, AS v1.2.1, AS v1.2.2.1, AI v1.2.2.2.1, AI v1.2.2.2.2])] (by simp) ?_
 refine qp (AB false) rfl ?_
 refine r_nil ?_
 refine ws 128 192 ?_
 refine qp (AI 1048576) rfl ?_
 refine r_nil ?_
 refine ws 192 448 ?_
 refine qp (AL 5 (v0.map eLesson)) rfl (qp (AI 1048576) rfl ?_)
 obtain ⟨v1000, e1000, hF⟩ := bind_get hF
 refine qc (AI v1000) [(0, .box [AI v1.1, AS v1.2.1, AS v1.2.2.1, AI v1.2.2.2.1, AI v1.2.2.2.2])] false (con_laws_szLessonS e1000) c53_ok (by first | rfl | simp) rfl ?_
 refine qp (AI v1000) rfl ?_
 refine r_nil ?_
 refine w_seq ?_
 refine ws 448 576 ?_
 refine qp (AI v1000) rfl (qp (AB (decide (v1000 < (0 : Int)))) rfl ?_)
 refine r_nil ?_
 refine cF hF (fun hF => ?_) fun hF => ?_
 ·
  refine ws 576 640 ?_
  refine qp (AB true) rfl ?_
  refine r_nil ?_
  refine w_ret ?_
  refine thenQ_r ?_
  cases hF
  exact eR
 ·
  refine w_skip ?_
  refine thenQ_n ?_
  refine ws 576 832 ?_
  refine qp (.agg [AI v1.1, AS v1.2.1, AS v1.2.2.1, AI v1.2.2.2.1, AI v1.2.2.2.2]) rfl (qp (AI v1000) rfl ?_)
  obtain ⟨v1001, e1001, hF⟩ := bind_get hF
  refine qc (AI v1001) [(0, .box [AI v1.1, AS v1.2.1, AS v1.2.2.1, AI v1.2.2.2.1, AI v1.2.2.2.2])] false (con_laws_szLesson e1001) c54_ok (by first | rfl | simp) rfl ?_
  refine qp (AI v1001) rfl ?_
  refine r_nil ?_
  refine w_seq ?_
  refine ws 832 960 ?_
  refine qp (AI v1001) rfl (qp (AB (decide (v1001 < (0 : Int)))) rfl ?_)
  refine r_nil ?_
  refine cF hF (fun hF => ?_) fun hF => ?_
  ·
   refine ws 960 1024 ?_
   refine qp (AB true) rfl ?_
   refine r_nil ?_
   refine w_ret ?_
   refine thenQ_r ?_
   cases hF
   exact eR
  ·
   refine w_skip ?_
   refine thenQ_n ?_
   refine ws 960 1600 ?_
   refine qp (AL 5 (v0.map eLesson)) rfl ?_
   obtain ⟨v1002, e1002, hF⟩ := bind_get hF
   refine qc (.sl 1024 0 v1002.length) [(1024, .row true 5 (v1002.map eLesson)), (0, .box [AI v1.1, AS v1.2.1, AS v1.2.2.1, AI v1.2.2.2.1, AI v1.2.2.2.2])] false (con_laws_toLessonS e1002) c56_ok (by first | rfl | simp) (by simp [res_laws_toLessonS]) ?_
   refine qp (.agg [AI v1.1, AS v1.2.1, AS v1.2.2.1, AI v1.2.2.2.1, AI v1.2.2.2.2]) rfl ?_
   obtain ⟨v1003, e1003, hF⟩ := bind_get hF
   refine qc (.val none (eLesson v1003)) [(1024, .row true 5 (v1002.map eLesson)), (0, .box [AI v1.1, AS v1.2.1, AS v1.2.2.1, AI v1.2.2.2.1, AI v1.2.2.2.2])] false (con_laws_toLesson e1003) c57_ok (by first | rfl | simp) rfl ?_
   obtain ⟨v1004, e1004, hF⟩ := bind_get hF
   refine qc (.tup [.sl 1216 0 v1004.1.length, AI v1004.2]) [(1216, .row true 5 (v1004.1.map eLesson)), (1024, .row true 5 (v1002.map eLesson)), (0, .box [AI v1.1, AS v1.2.1, AS v1.2.2.1, AI v1.2.2.2.1, AI v1.2.2.2.2])] true (con_spec_AddLesson e1004) c55_ok (by simp [List.take_of_length_le]) (by simp [res_spec_AddLesson]) ?_
   refine qp (.tup [.sl 1216 0 v1004.1.length, AI v1004.2]) rfl (qp (.sl 1216 0 v1004.1.length) rfl (qp (AI v1004.2) rfl (qp (.sl 1216 0 v1004.1.length) rfl (qp (AI v1004.2) rfl ?_))))
   refine r_nil ?_
   refine ws 1600 1792 ?_
   refine qp (AL 5 (v0.map eLesson)) rfl ?_
   obtain ⟨v1005, e1005, hF⟩ := bind_get hF
   refine qc (.sl 1664 0 v1005.length) [(1664, .row true 5 (v1005.map eLesson)), (1216, .row true 5 (v1004.1.map eLesson)), (1024, .row true 5 (v1002.map eLesson)), (0, .box [AI v1.1, AS v1.2.1, AS v1.2.2.1, AI v1.2.2.2.1, AI v1.2.2.2.2])] false (con_laws_toLessonS e1005) c56_ok (by first | rfl | simp) (by simp [res_laws_toLessonS]) ?_
   refine qp (.sl 1664 0 v1005.length) rfl ?_
   refine r_nil ?_
   refine ws 1792 2368 ?_
   refine qp (.sl 1664 0 v1005.length) rfl (qp (.agg [AI v1.1, AS v1.2.1, AS v1.2.2.1, AI v1.2.2.2.1, AI v1.2.2.2.2]) rfl ?_)
   obtain ⟨v1006, e1006, hF⟩ := bind_get hF
   refine qc (.val none (eLesson v1006)) [(1664, .row true 5 (v1005.map eLesson)), (1216, .row true 5 (v1004.1.map eLesson)), (1024, .row true 5 (v1002.map eLesson)), (0, .box [AI v1.1, AS v1.2.1, AS v1.2.2.1, AI v1.2.2.2.1, AI v1.2.2.2.2])] false (con_laws_toLesson e1006) c57_ok (by first | rfl | simp) rfl ?_
   obtain ⟨v1007, e1007, hF⟩ := bind_get hF
   refine qc (.tup [.sl 1984 0 v1007.1.length, AI v1007.2]) [(1984, .row true 5 (v1007.1.map eLesson)), (1664, .row true 5 (v1005.map eLesson)), (1216, .row true 5 (v1004.1.map eLesson)), (1024, .row true 5 (v1002.map eLesson)), (0, .box [AI v1.1, AS v1.2.1, AS v1.2.2.1, AI v1.2.2.2.1, AI v1.2.2.2.2])] true (con_impl_AddLesson e1007) c58_ok (by simp [List.take_of_length_le]) (by simp [res_impl_AddLesson]) ?_
   refine qp (.tup [.sl 1984 0 v1007.1.length, AI v1007.2]) rfl (qp (.sl 1984 0 v1007.1.length) rfl (qp (AI v1007.2) rfl (qp (.sl 1984 0 v1007.1.length) rfl (qp (AI v1007.2) rfl ?_))))
   refine r_nil ?_
   refine w_seq ?_
   refine ws 2368 2944 ?_
   refine qp (.sl 1984 0 v1007.1.length) rfl (qp (.sl 1216 0 v1004.1.length) rfl ?_)
   obtain ⟨v1009, e1009, hF⟩ := bind_get hF
   refine qc (AB v1009) [(1984, .row true 5 (v1007.1.map eLesson)), (1664, .row true 5 (v1005.map eLesson)), (1216, .row true 5 (v1004.1.map eLesson)), (1024, .row true 5 (v1002.map eLesson)), (0, .box [AI v1.1, AS v1.2.1, AS v1.2.2.1, AI v1.2.2.2.1, AI v1.2.2.2.2])] true (con_laws_eqLessonS e1009) c59_ok (by simp [List.take_of_length_le]) rfl ?_
   refine qp (AB (!v1009)) rfl (qp (AB (!v1009)) rfl ?_)
   refine q_case 47 hF rfl (fun hF => ?_) (fun hF => ?_)
   ·
    refine qn rfl (qn rfl (qn rfl (qp (AB true) rfl ?_)))
    refine r_nil ?_
    refine w_true rfl ?_
    refine ws 2944 3008 ?_
    refine qp (AB false) rfl ?_
    refine r_nil ?_
    refine w_ret ?_
    refine thenQ_r ?_
    cases hF
    exact eR
   ·
    refine qg (AI v1007.2) rfl rfl (qg (AI v1004.2) rfl rfl (qg (AB (decide (v1007.2 ≠ v1004.2))) rfl rfl (qp (AB (decide (v1007.2 ≠ v1004.2))) rfl ?_)))
    refine r_nil ?_
    refine cF hF (fun hF => ?_) fun hF => ?_
    ·
     refine ws 2944 3008 ?_
     refine qp (AB false) rfl ?_
     refine r_nil ?_
     refine w_ret ?_
     refine thenQ_r ?_
     cases hF
     exact eR
    ·
     refine w_skip ?_
     refine thenQ_n ?_
     refine w_seq ?_
     refine ws 2944 3264 ?_
     refine qp (.sl 1664 0 v1005.length) rfl (qp (AL 5 (v0.map eLesson)) rfl ?_)
     obtain ⟨v1010, e1010, hF⟩ := bind_get hF
     refine qc (.sl 3072 0 v1010.length) [(3072, .row true 5 (v1010.map eLesson)), (1984, .row true 5 (v1007.1.map eLesson)), (1664, .row true 5 (v1005.map eLesson)), (1216, .row true 5 (v1004.1.map eLesson)), (1024, .row true 5 (v1002.map eLesson)), (0, .box [AI v1.1, AS v1.2.1, AS v1.2.2.1, AI v1.2.2.2.1, AI v1.2.2.2.2])] false (con_laws_toLessonS e1010) c56_ok (by first | rfl | simp) (by simp [res_laws_toLessonS]) ?_
     obtain ⟨v1011, e1011, hF⟩ := bind_get hF
     refine qc (AB v1011) [(3072, .row true 5 (v1010.map eLesson)), (1984, .row true 5 (v1007.1.map eLesson)), (1664, .row true 5 (v1005.map eLesson)), (1216, .row true 5 (v1004.1.map eLesson)), (1024, .row true 5 (v1002.map eLesson)), (0, .box [AI v1.1, AS v1.2.1, AS v1.2.2.1, AI v1.2.2.2.1, AI v1.2.2.2.2])] true (con_laws_eqLessonS e1011) c59_ok (by simp [List.take_of_length_le]) rfl ?_
     refine qp (AB (!v1011)) rfl ?_
     refine r_nil ?_
     refine cF hF (fun hF => ?_) fun hF => ?_
     ·
      refine ws 3264 3328 ?_
      refine qp (AB false) rfl ?_
      refine r_nil ?_
      refine w_ret ?_
      refine thenQ_r ?_
      cases hF
      exact eR
     ·
      refine w_skip ?_
      refine thenQ_n ?_
      refine ws 3264 3328 ?_
      refine qp (AI 1) rfl ?_
      refine r_nil ?_
      refine ws 3328 3584 ?_
      refine qp (.sl 1664 0 v1005.length) rfl (qp (AI 1) rfl ?_)
      obtain ⟨v1012, e1012, hF⟩ := bind_get hF
      obtain ⟨g1013, hF⟩ := need_some hF
      refine qm (ls := [1664]) [(1664, .row true 5 (v1012.1.map eLesson)), (3072, .row true 5 (v1010.map eLesson)), (1984, .row true 5 (v1007.1.map eLesson)), (1664, .row true 5 (v1005.map eLesson)), (1216, .row true 5 (v1004.1.map eLesson)), (1024, .row true 5 (v1002.map eLesson)), (0, .box [AI v1.1, AS v1.2.1, AS v1.2.2.1, AI v1.2.2.2.1, AI v1.2.2.2.2])] (con_laws_markLessonS e1012) c60_ok (by first | rfl | simp [takeM, takeML, takeM1, g1013]) (by decide) (by simp [like2, likeL, like1, g1013]) rfl rfl rfl (by simp [scrO_fo, newO2, newO, scrR, scrA, scrAs]) ?_
      refine qp (AI v1012.2) rfl ?_
      refine r_nil ?_
      refine w_seq ?_
      refine ws 3584 4416 ?_
      refine qp (AI v1012.2) rfl (qp (AB (decide (v1012.2 < (0 : Int)))) rfl (qp (AB (decide (v1012.2 < (0 : Int)))) rfl ?_))
      refine q_case 62 hF rfl (fun hF => ?_) (fun hF => ?_)
      ·
       refine qn rfl (qn rfl (qn rfl (qn rfl (qp (AB true) rfl (qp (AB true) rfl (qn rfl (qn rfl ?_)))))))
       refine qn rfl (qp (AB true) rfl ?_)
       refine r_nil ?_
       refine w_true rfl ?_
       refine ws 4416 4480 ?_
       refine qp (AB false) rfl ?_
       refine r_nil ?_
       refine w_ret ?_
       refine thenQ_r ?_
       cases hF
       exact endQ_r rfl (.inl ⟨_, _, by first | rfl | (simp [List.take_of_length_le]; first | exact ⟨rfl, rfl⟩ | rfl), by simp, by first | rfl | simp [res_laws_FnExactAddLesson, List.take_of_length_le, g1013]⟩)
      ·
       refine qg (.sl 1984 0 v1007.1.length) rfl rfl (qg (.sl 1216 0 v1004.1.length) rfl rfl ?_)
       obtain ⟨v1015, e1015, hF⟩ := bind_get hF
       refine qcg (AB v1015) [(1664, .row true 5 (v1012.1.map eLesson)), (3072, .row true 5 (v1010.map eLesson)), (1984, .row true 5 (v1007.1.map eLesson)), (1664, .row true 5 (v1005.map eLesson)), (1216, .row true 5 (v1004.1.map eLesson)), (1024, .row true 5 (v1002.map eLesson)), (0, .box [AI v1.1, AS v1.2.1, AS v1.2.2.1, AI v1.2.2.2.1, AI v1.2.2.2.2])] true rfl (con_laws_eqLessonS e1015) c59_ok (by simp [g1013, List.take_of_length_le]) rfl ?_
       refine qg (AB (!v1015)) rfl rfl (qp (AB (!v1015)) rfl (qp (AB (!v1015)) rfl ?_))
       refine q_case 68 hF rfl (fun hF => ?_) (fun hF => ?_)
       ·
        refine qn rfl (qn rfl (qn rfl (qp (AB true) rfl ?_)))
        refine r_nil ?_
        refine w_true rfl ?_
        refine ws 4416 4480 ?_
        refine qp (AB false) rfl ?_
        refine r_nil ?_
        refine w_ret ?_
        refine thenQ_r ?_
        cases hF
        exact endQ_r rfl (.inl ⟨_, _, by first | rfl | (simp [List.take_of_length_le]; first | exact ⟨rfl, rfl⟩ | rfl), by simp, by first | rfl | simp [res_laws_FnExactAddLesson, List.take_of_length_le, g1013]⟩)
       ·
        refine qg (AI v1007.2) rfl rfl (qg (AI v1004.2) rfl rfl (qg (AB (decide (v1007.2 ≠ v1004.2))) rfl rfl (qp (AB (decide (v1007.2 ≠ v1004.2))) rfl ?_)))
        refine r_nil ?_
        refine cF hF (fun hF => ?_) fun hF => ?_
        ·
         refine ws 4416 4480 ?_
         refine qp (AB false) rfl ?_
         refine r_nil ?_
         refine w_ret ?_
         refine thenQ_r ?_
         cases hF
         exact endQ_r rfl (.inl ⟨_, _, by first | rfl | (simp [List.take_of_length_le]; first | exact ⟨rfl, rfl⟩ | rfl), by simp, by first | rfl | simp [res_laws_FnExactAddLesson, List.take_of_length_le, g1013]⟩)
        ·
         refine w_skip ?_
         refine thenQ_n ?_
         refine ws 4416 4480 ?_
         refine qp (AI 1) rfl ?_
         refine r_nil ?_
         refine ws 4480 4736 ?_
         refine qp (.sl 1984 0 v1007.1.length) rfl (qp (AI 1) rfl ?_)
         obtain ⟨v1016, e1016, hF⟩ := bind_get hF
         obtain ⟨g1017, hF⟩ := need_some hF
         refine qm (ls := [1984]) [(1984, .row true 5 (v1016.1.map eLesson)), (1664, .row true 5 (v1012.1.map eLesson)), (3072, .row true 5 (v1010.map eLesson)), (1984, .row true 5 (v1007.1.map eLesson)), (1664, .row true 5 (v1005.map eLesson)), (1216, .row true 5 (v1004.1.map eLesson)), (1024, .row true 5 (v1002.map eLesson)), (0, .box [AI v1.1, AS v1.2.1, AS v1.2.2.1, AI v1.2.2.2.1, AI v1.2.2.2.2])] (con_laws_markLessonS e1016) c60_ok (by first | rfl | simp [takeM, takeML, takeM1, g1013, g1017]) (by decide) (by simp [like2, likeL, like1, g1017]) rfl rfl rfl (by simp [scrO_fo, newO2, newO, scrR, scrA, scrAs]) ?_
         refine qp (AI v1016.2) rfl ?_
         refine r_nil ?_
         refine ws 4736 4800 ?_
         refine qp (AI 1) rfl ?_
         refine r_nil ?_
         refine ws 4800 5056 ?_
         refine qp (.sl 1984 0 v1007.1.length) rfl (qp (AI 1) rfl ?_)
         obtain ⟨v1018, e1018, hF⟩ := bind_get hF
         refine qc (AI v1018) [(1984, .row true 5 (v1016.1.map eLesson)), (1664, .row true 5 (v1012.1.map eLesson)), (3072, .row true 5 (v1010.map eLesson)), (1984, .row true 5 (v1007.1.map eLesson)), (1664, .row true 5 (v1005.map eLesson)), (1216, .row true 5 (v1004.1.map eLesson)), (1024, .row true 5 (v1002.map eLesson)), (0, .box [AI v1.1, AS v1.2.1, AS v1.2.2.1, AI v1.2.2.2.1, AI v1.2.2.2.2])] true (con_laws_heldLessonS e1018) c61_ok (by simp [g1013, g1017, List.take_of_length_le]) rfl ?_
         refine qp (AI v1018) rfl ?_
         refine r_nil ?_
         refine w_seq ?_
         refine ws 5056 5184 ?_
         refine qp (AI v1018) rfl (qp (AB (decide (v1018 < (0 : Int)))) rfl ?_)
         refine r_nil ?_
         refine cF hF (fun hF => ?_) fun hF => ?_
         ·
          refine ws 5184 5248 ?_
          refine qp (AB false) rfl ?_
          refine r_nil ?_
          refine w_ret ?_
          refine thenQ_r ?_
          cases hF
          exact endQ_r rfl (.inl ⟨_, _, by first | rfl | (simp [List.take_of_length_le]; first | exact ⟨rfl, rfl⟩ | rfl), by simp, by first | rfl | simp [res_laws_FnExactAddLesson, List.take_of_length_le, g1013, g1017]⟩)
         ·
          refine w_skip ?_
          refine thenQ_n ?_
          refine w_seq ?_
          refine ws 5184 5376 ?_
          refine qp (AI v1018) rfl (qp (AI v1016.2) rfl (qp (AB (decide (v1018 ≠ v1016.2))) rfl ?_))
          refine r_nil ?_
          refine cF hF (fun hF => ?_) fun hF => ?_
          ·
           refine ws 5376 5440 ?_
           refine qp (AB false) rfl ?_
           refine r_nil ?_
           refine w_ret ?_
           refine thenQ_r ?_
           cases hF
           exact endQ_r rfl (.inl ⟨_, _, by first | rfl | (simp [List.take_of_length_le]; first | exact ⟨rfl, rfl⟩ | rfl), by simp, by first | rfl | simp [res_laws_FnExactAddLesson, List.take_of_length_le, g1013, g1017]⟩)
          ·
           refine w_skip ?_
           refine thenQ_n ?_
           refine ws 5376 6016 ?_
           refine qp (AL 5 (v0.map eLesson)) rfl ?_
           obtain ⟨v1019, e1019, hF⟩ := bind_get hF
           refine qc (.sl 5440 0 v1019.length) [(5440, .row true 5 (v1019.map eLesson)), (1984, .row true 5 (v1016.1.map eLesson)), (1664, .row true 5 (v1012.1.map eLesson)), (3072, .row true 5 (v1010.map eLesson)), (1984, .row true 5 (v1007.1.map eLesson)), (1664, .row true 5 (v1005.map eLesson)), (1216, .row true 5 (v1004.1.map eLesson)), (1024, .row true 5 (v1002.map eLesson)), (0, .box [AI v1.1, AS v1.2.1, AS v1.2.2.1, AI v1.2.2.2.1, AI v1.2.2.2.2])] false (con_laws_toLessonS e1019) c56_ok (by first | rfl | simp) (by simp [res_laws_toLessonS]) ?_
           refine qp (.agg [AI v1.1, AS v1.2.1, AS v1.2.2.1, AI v1.2.2.2.1, AI v1.2.2.2.2]) rfl ?_
           obtain ⟨v1020, e1020, hF⟩ := bind_get hF
           refine qc (.val none (eLesson v1020)) [(5440, .row true 5 (v1019.map eLesson)), (1984, .row true 5 (v1016.1.map eLesson)), (1664, .row true 5 (v1012.1.map eLesson)), (3072, .row true 5 (v1010.map eLesson)), (1984, .row true 5 (v1007.1.map eLesson)), (1664, .row true 5 (v1005.map eLesson)), (1216, .row true 5 (v1004.1.map eLesson)), (1024, .row true 5 (v1002.map eLesson)), (0, .box [AI v1.1, AS v1.2.1, AS v1.2.2.1, AI v1.2.2.2.1, AI v1.2.2.2.2])] false (con_laws_toLesson e1020) c57_ok (by first | rfl | simp) rfl ?_
           obtain ⟨v1021, e1021, hF⟩ := bind_get hF
           refine qc (.tup [.sl 5632 0 v1021.1.length, AI v1021.2]) [(5632, .row true 5 (v1021.1.map eLesson)), (5440, .row true 5 (v1019.map eLesson)), (1984, .row true 5 (v1016.1.map eLesson)), (1664, .row true 5 (v1012.1.map eLesson)), (3072, .row true 5 (v1010.map eLesson)), (1984, .row true 5 (v1007.1.map eLesson)), (1664, .row true 5 (v1005.map eLesson)), (1216, .row true 5 (v1004.1.map eLesson)), (1024, .row true 5 (v1002.map eLesson)), (0, .box [AI v1.1, AS v1.2.1, AS v1.2.2.1, AI v1.2.2.2.1, AI v1.2.2.2.2])] true (con_impl_AddLesson e1021) c58_ok (by simp [g1013, g1017, List.take_of_length_le]) (by simp [res_impl_AddLesson]) ?_
           refine qp (.tup [.sl 5632 0 v1021.1.length, AI v1021.2]) rfl (qp (.sl 5632 0 v1021.1.length) rfl (qp (AI v1021.2) rfl (qp (.sl 5632 0 v1021.1.length) rfl (qp (AI v1021.2) rfl ?_))))
           refine r_nil ?_
           refine w_seq ?_
           refine ws 6016 6592 ?_
           refine qp (.sl 5632 0 v1021.1.length) rfl (qp (.sl 1216 0 v1004.1.length) rfl ?_)
           obtain ⟨v1023, e1023, hF⟩ := bind_get hF
           refine qc (AB v1023) [(5632, .row true 5 (v1021.1.map eLesson)), (5440, .row true 5 (v1019.map eLesson)), (1984, .row true 5 (v1016.1.map eLesson)), (1664, .row true 5 (v1012.1.map eLesson)), (3072, .row true 5 (v1010.map eLesson)), (1984, .row true 5 (v1007.1.map eLesson)), (1664, .row true 5 (v1005.map eLesson)), (1216, .row true 5 (v1004.1.map eLesson)), (1024, .row true 5 (v1002.map eLesson)), (0, .box [AI v1.1, AS v1.2.1, AS v1.2.2.1, AI v1.2.2.2.1, AI v1.2.2.2.2])] true (con_laws_eqLessonS e1023) c59_ok (by simp [g1013, g1017, List.take_of_length_le]) rfl ?_
           refine qp (AB (!v1023)) rfl (qp (AB (!v1023)) rfl ?_)
           refine q_case 96 hF rfl (fun hF => ?_) (fun hF => ?_)
           ·
            refine qn rfl (qn rfl (qn rfl (qp (AB true) rfl ?_)))
            refine r_nil ?_
            refine w_true rfl ?_
            refine ws 6592 6656 ?_
            refine qp (AB false) rfl ?_
            refine r_nil ?_
            refine w_ret ?_
            refine thenQ_r ?_
            cases hF
            exact endQ_r rfl (.inl ⟨_, _, by first | rfl | (simp [List.take_of_length_le]; first | exact ⟨rfl, rfl⟩ | rfl), by simp, by first | rfl | simp [res_laws_FnExactAddLesson, List.take_of_length_le, g1013, g1017]⟩)
           ·
            refine qg (AI v1021.2) rfl rfl (qg (AI v1004.2) rfl rfl (qg (AB (decide (v1021.2 ≠ v1004.2))) rfl rfl (qp (AB (decide (v1021.2 ≠ v1004.2))) rfl ?_)))
            refine r_nil ?_
            refine cF hF (fun hF => ?_) fun hF => ?_
            ·
             refine ws 6592 6656 ?_
             refine qp (AB false) rfl ?_
             refine r_nil ?_
             refine w_ret ?_
             refine thenQ_r ?_
             cases hF
             exact endQ_r rfl (.inl ⟨_, _, by first | rfl | (simp [List.take_of_length_le]; first | exact ⟨rfl, rfl⟩ | rfl), by simp, by first | rfl | simp [res_laws_FnExactAddLesson, List.take_of_length_le, g1013, g1017]⟩)
            ·
             refine w_skip ?_
             refine thenQ_n ?_
             refine ws 6592 6656 ?_
             refine qp (AI 1) rfl ?_
             refine r_nil ?_
             refine ws 6656 6912 ?_
             refine qp (.sl 1984 0 v1007.1.length) rfl (qp (AI 1) rfl ?_)
             obtain ⟨v1024, e1024, hF⟩ := bind_get hF
             refine qc (AI v1024) [(5632, .row true 5 (v1021.1.map eLesson)), (5440, .row true 5 (v1019.map eLesson)), (1984, .row true 5 (v1016.1.map eLesson)), (1664, .row true 5 (v1012.1.map eLesson)), (3072, .row true 5 (v1010.map eLesson)), (1984, .row true 5 (v1007.1.map eLesson)), (1664, .row true 5 (v1005.map eLesson)), (1216, .row true 5 (v1004.1.map eLesson)), (1024, .row true 5 (v1002.map eLesson)), (0, .box [AI v1.1, AS v1.2.1, AS v1.2.2.1, AI v1.2.2.2.1, AI v1.2.2.2.2])] true (con_laws_heldLessonS e1024) c61_ok (by simp [g1013, g1017, List.take_of_length_le]) rfl ?_
             refine qp (AI v1024) rfl ?_
             refine r_nil ?_
             refine w_seq ?_
             refine ws 6912 7040 ?_
             refine qp (AI v1024) rfl (qp (AB (decide (v1024 < (0 : Int)))) rfl ?_)
             refine r_nil ?_
             refine cF hF (fun hF => ?_) fun hF => ?_
             ·
              refine ws 7040 7104 ?_
              refine qp (AB false) rfl ?_
              refine r_nil ?_
              refine w_ret ?_
              refine thenQ_r ?_
              cases hF
              exact endQ_r rfl (.inl ⟨_, _, by first | rfl | (simp [List.take_of_length_le]; first | exact ⟨rfl, rfl⟩ | rfl), by simp, by first | rfl | simp [res_laws_FnExactAddLesson, List.take_of_length_le, g1013, g1017]⟩)
             ·
              refine w_skip ?_
              refine thenQ_n ?_
              refine w_seq ?_
              refine ws 7040 7232 ?_
              refine qp (AI v1024) rfl (qp (AI v1016.2) rfl (qp (AB (decide (v1024 ≠ v1016.2))) rfl ?_))
              refine r_nil ?_
              refine cF hF (fun hF => ?_) fun hF => ?_
              ·
               refine ws 7232 7296 ?_
               refine qp (AB false) rfl ?_
               refine r_nil ?_
               refine w_ret ?_
               refine thenQ_r ?_
               cases hF
               exact endQ_r rfl (.inl ⟨_, _, by first | rfl | (simp [List.take_of_length_le]; first | exact ⟨rfl, rfl⟩ | rfl), by simp, by first | rfl | simp [res_laws_FnExactAddLesson, List.take_of_length_le, g1013, g1017]⟩)
              ·
               refine w_skip ?_
               refine thenQ_n ?_
               refine ws 7232 7296 ?_
               refine qp (AB true) rfl ?_
               refine r_nil ?_
               refine w_ret ?_
               cases hF
               exact endQ_r rfl (.inl ⟨_, _, by first | rfl | (simp [List.take_of_length_le]; first | exact ⟨rfl, rfl⟩ | rfl), by simp, by first | rfl | simp [res_laws_FnExactAddLesson, List.take_of_length_le, g1013, g1017]⟩)

end Go.Ab
