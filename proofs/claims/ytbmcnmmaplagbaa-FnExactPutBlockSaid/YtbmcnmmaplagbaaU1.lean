/- Walks (printed by auto.py, a program of this session's own). -/
import Derived.Test.YtbmcnmmaplagbaaU0
import Derived.Test.YtbmcnmmaplagbaaProg
import Derived.KernelRfl
import Derived.Test.YtbmcnmmaplagbaaSQ
set_option linter.unusedVariables false
set_option linter.unusedSimpArgs false
set_option maxRecDepth 8000
set_option maxHeartbeats 8000000
namespace Go.Ab
open Go.RowKit Go.Proofs

def c8 : MC := (.seq (.reg [rg 3 (.f (.box (.t 1))), rg 4 (.p true (.mv (.c (.bool false))))]) (.seq (.reg [rg 5 (.p true (.mv (.c (.int .i64 1048576))))]) (.seq (.reg [rg 16 (.p true (.mv (.t 0))), rg 17 (.p true (.mv (.t 5))), rg 18 (.call true 21 [(.t 16), (.t 17)]), rg 5 (.p true (.mv (.t 18)))]) (.seq (.seq (.reg [rg 19 (.p true (.mv (.t 5))), rg 20 (.p true (.bin .lss (.t 19) (.c (.int .i64 0))))]) (.cond (.t 20) (.seq (.reg [rg 4 (.p true (.mv (.c (.bool true))))]) .ret) .skip)) (.seq (.reg [rg 21 (.p true (.ld (.t 3) 3 true)), rg 22 (.p true (.mv (.t 5))), rg 23 (.call true 38 [(.t 21), (.t 22)]), rg 5 (.p true (.mv (.t 23)))]) (.seq (.seq (.reg [rg 24 (.p true (.mv (.t 5))), rg 25 (.p true (.bin .lss (.t 24) (.c (.int .i64 0))))]) (.cond (.t 25) (.seq (.reg [rg 4 (.p true (.mv (.c (.bool true))))]) .ret) .skip)) (.seq (.reg [rg 27 (.p false (.mv (.t 0))), rg 28 (.call false 23 [(.t 27)]), rg 29 (.p false (.ld (.t 3) 3 true)), rg 30 (.call false 40 [(.t 29)]), rg 31 (.call false 39 [(.t 28), (.t 30)]), rg 26 (.p false (.mv (.t 31))), rg 32 (.p false (.ext (.t 26) 0)), rg 33 (.p false (.ext (.t 26) 1)), rg 6 (.p false (.mv (.t 32))), rg 7 (.p false (.mv (.t 33)))]) (.seq (.reg [rg 34 (.p true (.mv (.t 0))), rg 35 (.call true 23 [(.t 34)]), rg 8 (.p true (.mv (.t 35)))]) (.seq (.reg [rg 37 (.p true (.mv (.t 8))), rg 38 (.p true (.ld (.t 3) 3 true)), rg 39 (.call true 40 [(.t 38)]), rg 40 (.call true 41 [(.t 37), (.t 39)]), rg 36 (.p true (.mv (.t 40))), rg 41 (.p true (.ext (.t 36) 0)), rg 42 (.p true (.ext (.t 36) 1)), rg 9 (.p true (.mv (.t 41))), rg 10 (.p true (.mv (.t 42)))]) (.seq (.seq (.reg [rg 43 (.p true (.mv (.t 9))), rg 44 (.p true (.mv (.t 6))), rg 45 (.call true 25 [(.t 43), (.t 44)]), rg 46 (.p true (.not (.t 45))), rg 47 (.p true (.mv (.t 46))), ⟨(some 48), (some (47, false)), (.p true (.mv (.t 10)))⟩, ⟨(some 49), (some (47, false)), (.p true (.mv (.t 7)))⟩, ⟨(some 50), (some (47, false)), (.p true (.bin .neq (.t 48) (.t 49)))⟩, rg 51 (.p true (.pick (.t 47) (.c (.bool true)) (.t 50)))]) (.cond (.t 51) (.seq (.reg [rg 4 (.p true (.mv (.c (.bool false))))]) .ret) .skip)) (.seq (.seq (.reg [rg 52 (.p true (.mv (.t 8))), rg 53 (.p true (.mv (.t 0))), rg 54 (.call true 23 [(.t 53)]), rg 55 (.call true 25 [(.t 52), (.t 54)]), rg 56 (.p true (.not (.t 55)))]) (.cond (.t 56) (.seq (.reg [rg 4 (.p true (.mv (.c (.bool false))))]) .ret) .skip)) (.seq (.reg [rg 11 (.p true (.mv (.c (.int .i64 1))))]) (.seq (.reg [rg 57 (.p true (.mv (.t 8))), rg 58 (.p true (.mv (.t 11))), rg 59 (.call true 26 [(.t 57), (.t 58)]), rg 11 (.p true (.mv (.t 59)))]) (.seq (.seq (.reg [rg 60 (.p true (.mv (.t 11))), rg 61 (.p true (.bin .lss (.t 60) (.c (.int .i64 0)))), rg 62 (.p true (.mv (.t 61))), ⟨(some 63), (some (62, false)), (.p true (.mv (.t 9)))⟩, ⟨(some 64), (some (62, false)), (.p true (.mv (.t 6)))⟩, ⟨(some 65), (some (62, false)), (.call true 25 [(.t 63), (.t 64)])⟩, ⟨(some 66), (some (62, false)), (.p true (.not (.t 65)))⟩, rg 67 (.p true (.pick (.t 62) (.c (.bool true)) (.t 66))), rg 68 (.p true (.mv (.t 67))), ⟨(some 69), (some (68, false)), (.p true (.mv (.t 10)))⟩, ⟨(some 70), (some (68, false)), (.p true (.mv (.t 7)))⟩, ⟨(some 71), (some (68, false)), (.p true (.bin .neq (.t 69) (.t 70)))⟩, rg 72 (.p true (.pick (.t 68) (.c (.bool true)) (.t 71)))]) (.cond (.t 72) (.seq (.reg [rg 4 (.p true (.mv (.c (.bool false))))]) .ret) .skip)) (.seq (.reg [rg 12 (.p true (.mv (.c (.int .i64 1))))]) (.seq (.reg [rg 73 (.p true (.mv (.t 9))), rg 74 (.p true (.mv (.t 12))), rg 75 (.call true 26 [(.t 73), (.t 74)]), rg 12 (.p true (.mv (.t 75)))]) (.seq (.reg [rg 13 (.p true (.mv (.c (.int .i64 1))))]) (.seq (.reg [rg 76 (.p true (.mv (.t 9))), rg 77 (.p true (.mv (.t 13))), rg 78 (.call true 27 [(.t 76), (.t 77)]), rg 13 (.p true (.mv (.t 78)))]) (.seq (.seq (.reg [rg 79 (.p true (.mv (.t 13))), rg 80 (.p true (.bin .lss (.t 79) (.c (.int .i64 0))))]) (.cond (.t 80) (.seq (.reg [rg 4 (.p true (.mv (.c (.bool false))))]) .ret) .skip)) (.seq (.seq (.reg [rg 81 (.p true (.mv (.t 13))), rg 82 (.p true (.mv (.t 12))), rg 83 (.p true (.bin .neq (.t 81) (.t 82)))]) (.cond (.t 83) (.seq (.reg [rg 4 (.p true (.mv (.c (.bool false))))]) .ret) .skip)) (.seq (.reg [rg 85 (.p false (.mv (.t 0))), rg 86 (.call false 23 [(.t 85)]), rg 87 (.p false (.ld (.t 3) 3 true)), rg 88 (.call false 40 [(.t 87)]), rg 89 (.call false 41 [(.t 86), (.t 88)]), rg 84 (.p false (.mv (.t 89))), rg 90 (.p false (.ext (.t 84) 0)), rg 91 (.p false (.ext (.t 84) 1)), rg 14 (.p false (.mv (.t 90))), rg 15 (.p false (.mv (.t 91)))]) (.seq (.seq (.reg [rg 92 (.p true (.mv (.t 14))), rg 93 (.p true (.mv (.t 6))), rg 94 (.call true 25 [(.t 92), (.t 93)]), rg 95 (.p true (.not (.t 94))), rg 96 (.p true (.mv (.t 95))), ⟨(some 97), (some (96, false)), (.p true (.mv (.t 15)))⟩, ⟨(some 98), (some (96, false)), (.p true (.mv (.t 7)))⟩, ⟨(some 99), (some (96, false)), (.p true (.bin .neq (.t 97) (.t 98)))⟩, rg 100 (.p true (.pick (.t 96) (.c (.bool true)) (.t 99)))]) (.cond (.t 100) (.seq (.reg [rg 4 (.p true (.mv (.c (.bool false))))]) .ret) .skip)) (.seq (.reg [rg 13 (.p true (.mv (.c (.int .i64 1))))]) (.seq (.reg [rg 101 (.p true (.mv (.t 9))), rg 102 (.p true (.mv (.t 13))), rg 103 (.call true 27 [(.t 101), (.t 102)]), rg 13 (.p true (.mv (.t 103)))]) (.seq (.seq (.reg [rg 104 (.p true (.mv (.t 13))), rg 105 (.p true (.bin .lss (.t 104) (.c (.int .i64 0))))]) (.cond (.t 105) (.seq (.reg [rg 4 (.p true (.mv (.c (.bool false))))]) .ret) .skip)) (.seq (.seq (.reg [rg 106 (.p true (.mv (.t 13))), rg 107 (.p true (.mv (.t 12))), rg 108 (.p true (.bin .neq (.t 106) (.t 107)))]) (.cond (.t 108) (.seq (.reg [rg 4 (.p true (.mv (.c (.bool false))))]) .ret) .skip)) (.seq (.reg [rg 4 (.p true (.mv (.c (.bool true))))]) .ret)))))))))))))))))))))))))))
theorem c8_is : compFn Try.prog 8 = some (c8, [(.tmp 4)]) := by kernel_rfl
theorem c8_ok : okFn Try.prog 8 = true := by kernel_rfl

noncomputable def F_laws_FnExactPutBlock (v0 : List TBlock) (v1 : TBlock) : Option (Bool) :=
 ((F_laws_szBlockS v0 1048576).bind fun v1000 => (bif (decide (v1000 < (0 : Int))) then some true
 else ((F_laws_szBlock v1 v1000).bind fun v1001 => (bif (decide (v1001 < (0 : Int))) then some true
 else ((F_laws_toBlockS v0).bind fun v1002 => ((F_laws_toBlock v1).bind fun v1003 => ((F_spec_PutBlock v1002 v1003).bind fun v1004 => ((F_laws_toBlockS v0).bind fun v1005 => ((F_laws_toBlock v1).bind fun v1006 => ((F_impl_PutBlock v1005 v1006).bind fun v1007 => ((F_laws_eqBlockS v1007.1 v1004.1).bind fun v1009 => (bif (!v1009) then some false
 else (bif (decide (v1007.2 ≠ v1004.2)) then some false
 else ((F_laws_toBlockS v0).bind fun v1010 => ((F_laws_eqBlockS v1005 v1010).bind fun v1011 => (bif (!v1011) then some false
 else ((F_laws_markBlockS v1005 1).bind fun v1012 => need (v1012.1.length = v1005.length) ((bif (decide (v1012.2 < (0 : Int))) then some false
 else ((F_laws_eqBlockS v1007.1 v1004.1).bind fun v1015 => (bif (!v1015) then some false
 else (bif (decide (v1007.2 ≠ v1004.2)) then some false
 else ((F_laws_markBlockS v1007.1 1).bind fun v1016 => need (v1016.1.length = v1007.1.length) (((F_laws_heldBlockS v1016.1 1).bind fun v1018 => (bif (decide (v1018 < (0 : Int))) then some false
 else (bif (decide (v1018 ≠ v1016.2)) then some false
 else ((F_laws_toBlockS v0).bind fun v1019 => ((F_laws_toBlock v1).bind fun v1020 => ((F_impl_PutBlock v1019 v1020).bind fun v1021 => ((F_laws_eqBlockS v1021.1 v1004.1).bind fun v1023 => (bif (!v1023) then some false
 else (bif (decide (v1021.2 ≠ v1004.2)) then some false
 else ((F_laws_heldBlockS v1016.1 1).bind fun v1024 => (bif (decide (v1024 < (0 : Int))) then some false
 else (bif (decide (v1024 ≠ v1016.2)) then some false
 else some true))))))))))))))))))))))))))))))))))))
@[simp] def res_laws_FnExactPutBlock (r : Bool) : RV := .one (.one (.val (.bool r)))
theorem con_laws_FnExactPutBlock {v0 : List TBlock} {v1 : TBlock} {r : Bool} (hF : F_laws_FnExactPutBlock v0 v1 = some r) : Con Try.prog 8 [.sl 3 (v0.map eBlock), eBlock v1] (res_laws_FnExactPutBlock r) := by
 unfold F_laws_FnExactPutBlock at hF
 refine con_of c8_is fun N => ?_
 refine ws 0 128 ?_
 refine qf (.ptr 0 0 0) [(0, .box [AS v1.1, AS v1.2.1, AS v1.2.2])] (by simp) ?_
 refine qp (AB false) rfl ?_
 refine r_nil ?_
 refine ws 128 192 ?_
 refine qp (AI 1048576) rfl ?_
 refine r_nil ?_
 refine ws 192 448 ?_
 refine qp (AL 3 (v0.map eBlock)) rfl (qp (AI 1048576) rfl ?_)
 obtain ⟨v1000, e1000, hF⟩ := bind_get hF
 refine qc (AI v1000) [(0, .box [AS v1.1, AS v1.2.1, AS v1.2.2])] false (con_laws_szBlockS e1000) c21_ok (by first | rfl | simp) rfl ?_
 refine qp (AI v1000) rfl ?_
 refine r_nil ?_
 refine w_seq ?_
 refine ws 448 576 ?_
 refine qp (AI v1000) rfl (qp (AB (decide (v1000 < (0 : Int)))) rfl ?_)
 refine r_nil ?_
 refine cF hF (fun hF => ?_) fun hF => ?_
 ·
  refine ws 576 640 ?_
  refine qp (AB true) rfl ?_
  refine r_nil ?_
  refine w_ret ?_
  refine thenQ_r ?_
  cases hF
  exact eR
 ·
  refine w_skip ?_
  refine thenQ_n ?_
  refine ws 576 832 ?_
  refine qp (.agg [AS v1.1, AS v1.2.1, AS v1.2.2]) rfl (qp (AI v1000) rfl ?_)
  obtain ⟨v1001, e1001, hF⟩ := bind_get hF
  refine qc (AI v1001) [(0, .box [AS v1.1, AS v1.2.1, AS v1.2.2])] false (con_laws_szBlock e1001) c38_ok (by first | rfl | simp) rfl ?_
  refine qp (AI v1001) rfl ?_
  refine r_nil ?_
  refine w_seq ?_
  refine ws 832 960 ?_
  refine qp (AI v1001) rfl (qp (AB (decide (v1001 < (0 : Int)))) rfl ?_)
  refine r_nil ?_
  refine cF hF (fun hF => ?_) fun hF => ?_
  ·
   refine ws 960 1024 ?_
   refine qp (AB true) rfl ?_
   refine r_nil ?_
   refine w_ret ?_
   refine thenQ_r ?_
   cases hF
   exact eR
  ·
   refine w_skip ?_
   refine thenQ_n ?_
   refine ws 960 1600 ?_
   refine qp (AL 3 (v0.map eBlock)) rfl ?_
   obtain ⟨v1002, e1002, hF⟩ := bind_get hF
   refine qc (.sl 1024 0 v1002.length) [(1024, .row true 3 (v1002.map eBlock)), (0, .box [AS v1.1, AS v1.2.1, AS v1.2.2])] false (con_laws_toBlockS e1002) c23_ok (by first | rfl | simp) (by simp [res_laws_toBlockS]) ?_
   refine qp (.agg [AS v1.1, AS v1.2.1, AS v1.2.2]) rfl ?_
   obtain ⟨v1003, e1003, hF⟩ := bind_get hF
   refine qc (.val none (eBlock v1003)) [(1024, .row true 3 (v1002.map eBlock)), (0, .box [AS v1.1, AS v1.2.1, AS v1.2.2])] false (con_laws_toBlock e1003) c40_ok (by first | rfl | simp) rfl ?_
   obtain ⟨v1004, e1004, hF⟩ := bind_get hF
   refine qc (.tup [.sl 1216 0 v1004.1.length, AI v1004.2]) [(1216, .row true 3 (v1004.1.map eBlock)), (1024, .row true 3 (v1002.map eBlock)), (0, .box [AS v1.1, AS v1.2.1, AS v1.2.2])] true (con_spec_PutBlock e1004) c39_ok (by simp [List.take_of_length_le]) (by simp [res_spec_PutBlock]) ?_
   refine qp (.tup [.sl 1216 0 v1004.1.length, AI v1004.2]) rfl (qp (.sl 1216 0 v1004.1.length) rfl (qp (AI v1004.2) rfl (qp (.sl 1216 0 v1004.1.length) rfl (qp (AI v1004.2) rfl ?_))))
   refine r_nil ?_
   refine ws 1600 1792 ?_
   refine qp (AL 3 (v0.map eBlock)) rfl ?_
   obtain ⟨v1005, e1005, hF⟩ := bind_get hF
   refine qc (.sl 1664 0 v1005.length) [(1664, .row true 3 (v1005.map eBlock)), (1216, .row true 3 (v1004.1.map eBlock)), (1024, .row true 3 (v1002.map eBlock)), (0, .box [AS v1.1, AS v1.2.1, AS v1.2.2])] false (con_laws_toBlockS e1005) c23_ok (by first | rfl | simp) (by simp [res_laws_toBlockS]) ?_
   refine qp (.sl 1664 0 v1005.length) rfl ?_
   refine r_nil ?_
   refine ws 1792 2368 ?_
   refine qp (.sl 1664 0 v1005.length) rfl (qp (.agg [AS v1.1, AS v1.2.1, AS v1.2.2]) rfl ?_)
   obtain ⟨v1006, e1006, hF⟩ := bind_get hF
   refine qc (.val none (eBlock v1006)) [(1664, .row true 3 (v1005.map eBlock)), (1216, .row true 3 (v1004.1.map eBlock)), (1024, .row true 3 (v1002.map eBlock)), (0, .box [AS v1.1, AS v1.2.1, AS v1.2.2])] false (con_laws_toBlock e1006) c40_ok (by first | rfl | simp) rfl ?_
   obtain ⟨v1007, e1007, hF⟩ := bind_get hF
   refine qc (.tup [.sl 1984 0 v1007.1.length, AI v1007.2]) [(1984, .row true 3 (v1007.1.map eBlock)), (1664, .row true 3 (v1005.map eBlock)), (1216, .row true 3 (v1004.1.map eBlock)), (1024, .row true 3 (v1002.map eBlock)), (0, .box [AS v1.1, AS v1.2.1, AS v1.2.2])] true (con_impl_PutBlock e1007) c41_ok (by simp [List.take_of_length_le]) (by simp [res_impl_PutBlock]) ?_
   refine qp (.tup [.sl 1984 0 v1007.1.length, AI v1007.2]) rfl (qp (.sl 1984 0 v1007.1.length) rfl (qp (AI v1007.2) rfl (qp (.sl 1984 0 v1007.1.length) rfl (qp (AI v1007.2) rfl ?_))))
   refine r_nil ?_
   refine w_seq ?_
   refine ws 2368 2944 ?_
   refine qp (.sl 1984 0 v1007.1.length) rfl (qp (.sl 1216 0 v1004.1.length) rfl ?_)
   obtain ⟨v1009, e1009, hF⟩ := bind_get hF
   refine qc (AB v1009) [(1984, .row true 3 (v1007.1.map eBlock)), (1664, .row true 3 (v1005.map eBlock)), (1216, .row true 3 (v1004.1.map eBlock)), (1024, .row true 3 (v1002.map eBlock)), (0, .box [AS v1.1, AS v1.2.1, AS v1.2.2])] true (con_laws_eqBlockS e1009) c25_ok (by simp [List.take_of_length_le]) rfl ?_
   refine qp (AB (!v1009)) rfl (qp (AB (!v1009)) rfl ?_)
   refine q_case 47 hF rfl (fun hF => ?_) (fun hF => ?_)
   ·
    refine qn rfl (qn rfl (qn rfl (qp (AB true) rfl ?_)))
    refine r_nil ?_
    refine w_true rfl ?_
    refine ws 2944 3008 ?_
    refine qp (AB false) rfl ?_
    refine r_nil ?_
    refine w_ret ?_
    refine thenQ_r ?_
    cases hF
    exact eR
   ·
    refine qg (AI v1007.2) rfl rfl (qg (AI v1004.2) rfl rfl (qg (AB (decide (v1007.2 ≠ v1004.2))) rfl rfl (qp (AB (decide (v1007.2 ≠ v1004.2))) rfl ?_)))
    refine r_nil ?_
    refine cF hF (fun hF => ?_) fun hF => ?_
    ·
     refine ws 2944 3008 ?_
     refine qp (AB false) rfl ?_
     refine r_nil ?_
     refine w_ret ?_
     refine thenQ_r ?_
     cases hF
     exact eR
    ·
     refine w_skip ?_
     refine thenQ_n ?_
     refine w_seq ?_
     refine ws 2944 3264 ?_
     refine qp (.sl 1664 0 v1005.length) rfl (qp (AL 3 (v0.map eBlock)) rfl ?_)
     obtain ⟨v1010, e1010, hF⟩ := bind_get hF
     refine qc (.sl 3072 0 v1010.length) [(3072, .row true 3 (v1010.map eBlock)), (1984, .row true 3 (v1007.1.map eBlock)), (1664, .row true 3 (v1005.map eBlock)), (1216, .row true 3 (v1004.1.map eBlock)), (1024, .row true 3 (v1002.map eBlock)), (0, .box [AS v1.1, AS v1.2.1, AS v1.2.2])] false (con_laws_toBlockS e1010) c23_ok (by first | rfl | simp) (by simp [res_laws_toBlockS]) ?_
     obtain ⟨v1011, e1011, hF⟩ := bind_get hF
     refine qc (AB v1011) [(3072, .row true 3 (v1010.map eBlock)), (1984, .row true 3 (v1007.1.map eBlock)), (1664, .row true 3 (v1005.map eBlock)), (1216, .row true 3 (v1004.1.map eBlock)), (1024, .row true 3 (v1002.map eBlock)), (0, .box [AS v1.1, AS v1.2.1, AS v1.2.2])] true (con_laws_eqBlockS e1011) c25_ok (by simp [List.take_of_length_le]) rfl ?_
     refine qp (AB (!v1011)) rfl ?_
     refine r_nil ?_
     refine cF hF (fun hF => ?_) fun hF => ?_
     ·
      refine ws 3264 3328 ?_
      refine qp (AB false) rfl ?_
      refine r_nil ?_
      refine w_ret ?_
      refine thenQ_r ?_
      cases hF
      exact eR
     ·
      refine w_skip ?_
      refine thenQ_n ?_
      refine ws 3264 3328 ?_
      refine qp (AI 1) rfl ?_
      refine r_nil ?_
      refine ws 3328 3584 ?_
      refine qp (.sl 1664 0 v1005.length) rfl (qp (AI 1) rfl ?_)
      obtain ⟨v1012, e1012, hF⟩ := bind_get hF
      obtain ⟨g1013, hF⟩ := need_some hF
      refine qm (ls := [1664]) [(1664, .row true 3 (v1012.1.map eBlock)), (3072, .row true 3 (v1010.map eBlock)), (1984, .row true 3 (v1007.1.map eBlock)), (1664, .row true 3 (v1005.map eBlock)), (1216, .row true 3 (v1004.1.map eBlock)), (1024, .row true 3 (v1002.map eBlock)), (0, .box [AS v1.1, AS v1.2.1, AS v1.2.2])] (con_laws_markBlockS e1012) c26_ok (by first | rfl | simp [takeM, takeML, takeM1, g1013]) (by decide) (by simp [like2, likeL, like1, g1013]) rfl rfl rfl (by simp [scrO_fo, newO2, newO, scrR, scrA, scrAs]) ?_
      refine qp (AI v1012.2) rfl ?_
      refine r_nil ?_
      refine w_seq ?_
      refine ws 3584 4416 ?_
      refine qp (AI v1012.2) rfl (qp (AB (decide (v1012.2 < (0 : Int)))) rfl (qp (AB (decide (v1012.2 < (0 : Int)))) rfl ?_))
      refine q_case 62 hF rfl (fun hF => ?_) (fun hF => ?_)
      ·
       refine qn rfl (qn rfl (qn rfl (qn rfl (qp (AB true) rfl (qp (AB true) rfl (qn rfl (qn rfl ?_)))))))
       refine qn rfl (qp (AB true) rfl ?_)
       refine r_nil ?_
       refine w_true rfl ?_
       refine ws 4416 4480 ?_
       refine qp (AB false) rfl ?_
       refine r_nil ?_
       refine w_ret ?_
       refine thenQ_r ?_
       cases hF
       exact endQ_r rfl (.inl ⟨_, _, by first | rfl | (simp [List.take_of_length_le]; first | exact ⟨rfl, rfl⟩ | rfl), by simp, by first | rfl | simp [res_laws_FnExactPutBlock, List.take_of_length_le, g1013]⟩)
      ·
       refine qg (.sl 1984 0 v1007.1.length) rfl rfl (qg (.sl 1216 0 v1004.1.length) rfl rfl ?_)
       obtain ⟨v1015, e1015, hF⟩ := bind_get hF
       refine qcg (AB v1015) [(1664, .row true 3 (v1012.1.map eBlock)), (3072, .row true 3 (v1010.map eBlock)), (1984, .row true 3 (v1007.1.map eBlock)), (1664, .row true 3 (v1005.map eBlock)), (1216, .row true 3 (v1004.1.map eBlock)), (1024, .row true 3 (v1002.map eBlock)), (0, .box [AS v1.1, AS v1.2.1, AS v1.2.2])] true rfl (con_laws_eqBlockS e1015) c25_ok (by simp [g1013, List.take_of_length_le]) rfl ?_
       refine qg (AB (!v1015)) rfl rfl (qp (AB (!v1015)) rfl (qp (AB (!v1015)) rfl ?_))
       refine q_case 68 hF rfl (fun hF => ?_) (fun hF => ?_)
       ·
        refine qn rfl (qn rfl (qn rfl (qp (AB true) rfl ?_)))
        refine r_nil ?_
        refine w_true rfl ?_
        refine ws 4416 4480 ?_
        refine qp (AB false) rfl ?_
        refine r_nil ?_
        refine w_ret ?_
        refine thenQ_r ?_
        cases hF
        exact endQ_r rfl (.inl ⟨_, _, by first | rfl | (simp [List.take_of_length_le]; first | exact ⟨rfl, rfl⟩ | rfl), by simp, by first | rfl | simp [res_laws_FnExactPutBlock, List.take_of_length_le, g1013]⟩)
       ·
        refine qg (AI v1007.2) rfl rfl (qg (AI v1004.2) rfl rfl (qg (AB (decide (v1007.2 ≠ v1004.2))) rfl rfl (qp (AB (decide (v1007.2 ≠ v1004.2))) rfl ?_)))
        refine r_nil ?_
        refine cF hF (fun hF => ?_) fun hF => ?_
        ·
         refine ws 4416 4480 ?_
         refine qp (AB false) rfl ?_
         refine r_nil ?_
         refine w_ret ?_
         refine thenQ_r ?_
         cases hF
         exact endQ_r rfl (.inl ⟨_, _, by first | rfl | (simp [List.take_of_length_le]; first | exact ⟨rfl, rfl⟩ | rfl), by simp, by first | rfl | simp [res_laws_FnExactPutBlock, List.take_of_length_le, g1013]⟩)
        ·
         refine w_skip ?_
         refine thenQ_n ?_
         refine ws 4416 4480 ?_
         refine qp (AI 1) rfl ?_
         refine r_nil ?_
         refine ws 4480 4736 ?_
         refine qp (.sl 1984 0 v1007.1.length) rfl (qp (AI 1) rfl ?_)
         obtain ⟨v1016, e1016, hF⟩ := bind_get hF
         obtain ⟨g1017, hF⟩ := need_some hF
         refine qm (ls := [1984]) [(1984, .row true 3 (v1016.1.map eBlock)), (1664, .row true 3 (v1012.1.map eBlock)), (3072, .row true 3 (v1010.map eBlock)), (1984, .row true 3 (v1007.1.map eBlock)), (1664, .row true 3 (v1005.map eBlock)), (1216, .row true 3 (v1004.1.map eBlock)), (1024, .row true 3 (v1002.map eBlock)), (0, .box [AS v1.1, AS v1.2.1, AS v1.2.2])] (con_laws_markBlockS e1016) c26_ok (by first | rfl | simp [takeM, takeML, takeM1, g1013, g1017]) (by decide) (by simp [like2, likeL, like1, g1017]) rfl rfl rfl (by simp [scrO_fo, newO2, newO, scrR, scrA, scrAs]) ?_
         refine qp (AI v1016.2) rfl ?_
         refine r_nil ?_
         refine ws 4736 4800 ?_
         refine qp (AI 1) rfl ?_
         refine r_nil ?_
         refine ws 4800 5056 ?_
         refine qp (.sl 1984 0 v1007.1.length) rfl (qp (AI 1) rfl ?_)
         obtain ⟨v1018, e1018, hF⟩ := bind_get hF
         refine qc (AI v1018) [(1984, .row true 3 (v1016.1.map eBlock)), (1664, .row true 3 (v1012.1.map eBlock)), (3072, .row true 3 (v1010.map eBlock)), (1984, .row true 3 (v1007.1.map eBlock)), (1664, .row true 3 (v1005.map eBlock)), (1216, .row true 3 (v1004.1.map eBlock)), (1024, .row true 3 (v1002.map eBlock)), (0, .box [AS v1.1, AS v1.2.1, AS v1.2.2])] true (con_laws_heldBlockS e1018) c27_ok (by simp [g1013, g1017, List.take_of_length_le]) rfl ?_
         refine qp (AI v1018) rfl ?_
         refine r_nil ?_
         refine w_seq ?_
         refine ws 5056 5184 ?_
         refine qp (AI v1018) rfl (qp (AB (decide (v1018 < (0 : Int)))) rfl ?_)
         refine r_nil ?_
         refine cF hF (fun hF => ?_) fun hF => ?_
         ·
          refine ws 5184 5248 ?_
          refine qp (AB false) rfl ?_
          refine r_nil ?_
          refine w_ret ?_
          refine thenQ_r ?_
          cases hF
          exact endQ_r rfl (.inl ⟨_, _, by first | rfl | (simp [List.take_of_length_le]; first | exact ⟨rfl, rfl⟩ | rfl), by simp, by first | rfl | simp [res_laws_FnExactPutBlock, List.take_of_length_le, g1013, g1017]⟩)
         ·
          refine w_skip ?_
          refine thenQ_n ?_
          refine w_seq ?_
          refine ws 5184 5376 ?_
          refine qp (AI v1018) rfl (qp (AI v1016.2) rfl (qp (AB (decide (v1018 ≠ v1016.2))) rfl ?_))
          refine r_nil ?_
          refine cF hF (fun hF => ?_) fun hF => ?_
          ·
           refine ws 5376 5440 ?_
           refine qp (AB false) rfl ?_
           refine r_nil ?_
           refine w_ret ?_
           refine thenQ_r ?_
           cases hF
           exact endQ_r rfl (.inl ⟨_, _, by first | rfl | (simp [List.take_of_length_le]; first | exact ⟨rfl, rfl⟩ | rfl), by simp, by first | rfl | simp [res_laws_FnExactPutBlock, List.take_of_length_le, g1013, g1017]⟩)
          ·
           refine w_skip ?_
           refine thenQ_n ?_
           refine ws 5376 6016 ?_
           refine qp (AL 3 (v0.map eBlock)) rfl ?_
           obtain ⟨v1019, e1019, hF⟩ := bind_get hF
           refine qc (.sl 5440 0 v1019.length) [(5440, .row true 3 (v1019.map eBlock)), (1984, .row true 3 (v1016.1.map eBlock)), (1664, .row true 3 (v1012.1.map eBlock)), (3072, .row true 3 (v1010.map eBlock)), (1984, .row true 3 (v1007.1.map eBlock)), (1664, .row true 3 (v1005.map eBlock)), (1216, .row true 3 (v1004.1.map eBlock)), (1024, .row true 3 (v1002.map eBlock)), (0, .box [AS v1.1, AS v1.2.1, AS v1.2.2])] false (con_laws_toBlockS e1019) c23_ok (by first | rfl | simp) (by simp [res_laws_toBlockS]) ?_
           refine qp (.agg [AS v1.1, AS v1.2.1, AS v1.2.2]) rfl ?_
           obtain ⟨v1020, e1020, hF⟩ := bind_get hF
           refine qc (.val none (eBlock v1020)) [(5440, .row true 3 (v1019.map eBlock)), (1984, .row true 3 (v1016.1.map eBlock)), (1664, .row true 3 (v1012.1.map eBlock)), (3072, .row true 3 (v1010.map eBlock)), (1984, .row true 3 (v1007.1.map eBlock)), (1664, .row true 3 (v1005.map eBlock)), (1216, .row true 3 (v1004.1.map eBlock)), (1024, .row true 3 (v1002.map eBlock)), (0, .box [AS v1.1, AS v1.2.1, AS v1.2.2])] false (con_laws_toBlock e1020) c40_ok (by first | rfl | simp) rfl ?_
           obtain ⟨v1021, e1021, hF⟩ := bind_get hF
           refine qc (.tup [.sl 5632 0 v1021.1.length, AI v1021.2]) [(5632, .row true 3 (v1021.1.map eBlock)), (5440, .row true 3 (v1019.map eBlock)), (1984, .row true 3 (v1016.1.map eBlock)), (1664, .row true 3 (v1012.1.map eBlock)), (3072, .row true 3 (v1010.map eBlock)), (1984, .row true 3 (v1007.1.map eBlock)), (1664, .row true 3 (v1005.map eBlock)), (1216, .row true 3 (v1004.1.map eBlock)), (1024, .row true 3 (v1002.map eBlock)), (0, .box [AS v1.1, AS v1.2.1, AS v1.2.2])] true (con_impl_PutBlock e1021) c41_ok (by simp [g1013, g1017, List.take_of_length_le]) (by simp [res_impl_PutBlock]) ?_
           refine qp (.tup [.sl 5632 0 v1021.1.length, AI v1021.2]) rfl (qp (.sl 5632 0 v1021.1.length) rfl (qp (AI v1021.2) rfl (qp (.sl 5632 0 v1021.1.length) rfl (qp (AI v1021.2) rfl ?_))))
           refine r_nil ?_
           refine w_seq ?_
           refine ws 6016 6592 ?_
           refine qp (.sl 5632 0 v1021.1.length) rfl (qp (.sl 1216 0 v1004.1.length) rfl ?_)
           obtain ⟨v1023, e1023, hF⟩ := bind_get hF
           refine qc (AB v1023) [(5632, .row true 3 (v1021.1.map eBlock)), (5440, .row true 3 (v1019.map eBlock)), (1984, .row true 3 (v1016.1.map eBlock)), (1664, .row true 3 (v1012.1.map eBlock)), (3072, .row true 3 (v1010.map eBlock)), (1984, .row true 3 (v1007.1.map eBlock)), (1664, .row true 3 (v1005.map eBlock)), (1216, .row true 3 (v1004.1.map eBlock)), (1024, .row true 3 (v1002.map eBlock)), (0, .box [AS v1.1, AS v1.2.1, AS v1.2.2])] true (con_laws_eqBlockS e1023) c25_ok (by simp [g1013, g1017, List.take_of_length_le]) rfl ?_
           refine qp (AB (!v1023)) rfl (qp (AB (!v1023)) rfl ?_)
           refine q_case 96 hF rfl (fun hF => ?_) (fun hF => ?_)
           ·
            refine qn rfl (qn rfl (qn rfl (qp (AB true) rfl ?_)))
            refine r_nil ?_
            refine w_true rfl ?_
            refine ws 6592 6656 ?_
            refine qp (AB false) rfl ?_
            refine r_nil ?_
            refine w_ret ?_
            refine thenQ_r ?_
            cases hF
            exact endQ_r rfl (.inl ⟨_, _, by first | rfl | (simp [List.take_of_length_le]; first | exact ⟨rfl, rfl⟩ | rfl), by simp, by first | rfl | simp [res_laws_FnExactPutBlock, List.take_of_length_le, g1013, g1017]⟩)
           ·
            refine qg (AI v1021.2) rfl rfl (qg (AI v1004.2) rfl rfl (qg (AB (decide (v1021.2 ≠ v1004.2))) rfl rfl (qp (AB (decide (v1021.2 ≠ v1004.2))) rfl ?_)))
            refine r_nil ?_
            refine cF hF (fun hF => ?_) fun hF => ?_
            ·
             refine ws 6592 6656 ?_
             refine qp (AB false) rfl ?_
             refine r_nil ?_
             refine w_ret ?_
             refine thenQ_r ?_
             cases hF
             exact endQ_r rfl (.inl ⟨_, _, by first | rfl | (simp [List.take_of_length_le]; first | exact ⟨rfl, rfl⟩ | rfl), by simp, by first | rfl | simp [res_laws_FnExactPutBlock, List.take_of_length_le, g1013, g1017]⟩)
            ·
             refine w_skip ?_
             refine thenQ_n ?_
             refine ws 6592 6656 ?_
             refine qp (AI 1) rfl ?_
             refine r_nil ?_
             refine ws 6656 6912 ?_
             refine qp (.sl 1984 0 v1007.1.length) rfl (qp (AI 1) rfl ?_)
             obtain ⟨v1024, e1024, hF⟩ := bind_get hF
             refine qc (AI v1024) [(5632, .row true 3 (v1021.1.map eBlock)), (5440, .row true 3 (v1019.map eBlock)), (1984, .row true 3 (v1016.1.map eBlock)), (1664, .row true 3 (v1012.1.map eBlock)), (3072, .row true 3 (v1010.map eBlock)), (1984, .row true 3 (v1007.1.map eBlock)), (1664, .row true 3 (v1005.map eBlock)), (1216, .row true 3 (v1004.1.map eBlock)), (1024, .row true 3 (v1002.map eBlock)), (0, .box [AS v1.1, AS v1.2.1, AS v1.2.2])] true (con_laws_heldBlockS e1024) c27_ok (by simp [g1013, g1017, List.take_of_length_le]) rfl ?_
             refine qp (AI v1024) rfl ?_
             refine r_nil ?_
             refine w_seq ?_
             refine ws 6912 7040 ?_
             refine qp (AI v1024) rfl (qp (AB (decide (v1024 < (0 : Int)))) rfl ?_)
             refine r_nil ?_
             refine cF hF (fun hF => ?_) fun hF => ?_
             ·
              refine ws 7040 7104 ?_
              refine qp (AB false) rfl ?_
              refine r_nil ?_
              refine w_ret ?_
              refine thenQ_r ?_
              cases hF
              exact endQ_r rfl (.inl ⟨_, _, by first | rfl | (simp [List.take_of_length_le]; first | exact ⟨rfl, rfl⟩ | rfl), by simp, by first | rfl | simp [res_laws_FnExactPutBlock, List.take_of_length_le, g1013, g1017]⟩)
             ·
              refine w_skip ?_
              refine thenQ_n ?_
              refine w_seq ?_
              refine ws 7040 7232 ?_
              refine qp (AI v1024) rfl (qp (AI v1016.2) rfl (qp (AB (decide (v1024 ≠ v1016.2))) rfl ?_))
              refine r_nil ?_
              refine cF hF (fun hF => ?_) fun hF => ?_
              ·
               refine ws 7232 7296 ?_
               refine qp (AB false) rfl ?_
               refine r_nil ?_
               refine w_ret ?_
               refine thenQ_r ?_
               cases hF
               exact endQ_r rfl (.inl ⟨_, _, by first | rfl | (simp [List.take_of_length_le]; first | exact ⟨rfl, rfl⟩ | rfl), by simp, by first | rfl | simp [res_laws_FnExactPutBlock, List.take_of_length_le, g1013, g1017]⟩)
              ·
               refine w_skip ?_
               refine thenQ_n ?_
               refine ws 7232 7296 ?_
               refine qp (AB true) rfl ?_
               refine r_nil ?_
               refine w_ret ?_
               cases hF
               exact endQ_r rfl (.inl ⟨_, _, by first | rfl | (simp [List.take_of_length_le]; first | exact ⟨rfl, rfl⟩ | rfl), by simp, by first | rfl | simp [res_laws_FnExactPutBlock, List.take_of_length_le, g1013, g1017]⟩)

end Go.Ab
