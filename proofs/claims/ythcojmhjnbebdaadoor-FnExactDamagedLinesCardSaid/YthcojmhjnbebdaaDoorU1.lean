/- Walks (printed by auto.py, a program of this session's own). -/
import Derived.Test.YthcojmhjnbebdaaDoorU0
import Derived.Test.YthcojmhjnbebdaaDoorProg
import Derived.KernelRfl
import Derived.Test.YthcojmhjnbebdaaDoorSQ
set_option linter.unusedVariables false
set_option linter.unusedSimpArgs false
set_option maxRecDepth 8000
set_option maxHeartbeats 8000000
namespace Go.Ab
open Go.RowKit Go.Proofs

def c5 : MC := (.seq (.reg [rg 2 (.p true (.mv (.c (.bool false))))]) (.seq (.seq (.reg [mvt 8 0, rg 9 (.p true (.lens (.t 8))), rg 10 (.p true (.bin .gtr (.t 9) (.c (.int .i64 1048576))))]) (.cond (.t 10) (.seq (.reg [rg 2 (.p true (.mv (.c (.bool true))))]) .ret) .skip)) (.seq (.reg [mvt 11 0, rg 12 (.call true 21 [(.t 11)]), mvt 3 12]) (.seq (.reg [mvt 13 0, rg 14 (.call true 22 [(.t 13)]), mvt 4 14]) (.seq (.seq (.reg [mvt 15 4, mvt 16 3, rg 17 (.call true 23 [(.t 15), (.t 16)]), rg 18 (.p true (.not (.t 17)))]) (.cond (.t 18) (.seq (.reg [rg 2 (.p true (.mv (.c (.bool false))))]) .ret) .skip)) (.seq (.reg [rg 5 (.p true (.mv (.c (.int .i64 1))))]) (.seq (.reg [mvt 19 4, mvt 20 5, rg 21 (.call true 24 [(.t 19), (.t 20)]), mvt 5 21]) (.seq (.reg [rg 6 (.p true (.mv (.c (.int .i64 1))))]) (.seq (.reg [mvt 22 4, mvt 23 6, rg 24 (.call true 25 [(.t 22), (.t 23)]), mvt 6 24]) (.seq (.seq (.reg [mvt 25 6, rg 26 (.p true (.bin .lss (.t 25) (.c (.int .i64 0))))]) (.cond (.t 26) (.seq (.reg [rg 2 (.p true (.mv (.c (.bool false))))]) .ret) .skip)) (.seq (.seq (.reg [mvt 27 6, mvt 28 5, rg 29 (.p true (.bin .neq (.t 27) (.t 28)))]) (.cond (.t 29) (.seq (.reg [rg 2 (.p true (.mv (.c (.bool false))))]) .ret) .skip)) (.seq (.reg [mvt 30 0, rg 31 (.call true 22 [(.t 30)]), mvt 7 31]) (.seq (.seq (.reg [mvt 32 7, mvt 33 3, rg 34 (.call true 23 [(.t 32), (.t 33)]), rg 35 (.p true (.not (.t 34)))]) (.cond (.t 35) (.seq (.reg [rg 2 (.p true (.mv (.c (.bool false))))]) .ret) .skip)) (.seq (.reg [rg 6 (.p true (.mv (.c (.int .i64 1))))]) (.seq (.reg [mvt 36 4, mvt 37 6, rg 38 (.call true 25 [(.t 36), (.t 37)]), mvt 6 38]) (.seq (.seq (.reg [mvt 39 6, rg 40 (.p true (.bin .lss (.t 39) (.c (.int .i64 0))))]) (.cond (.t 40) (.seq (.reg [rg 2 (.p true (.mv (.c (.bool false))))]) .ret) .skip)) (.seq (.seq (.reg [mvt 41 6, mvt 42 5, rg 43 (.p true (.bin .neq (.t 41) (.t 42)))]) (.cond (.t 43) (.seq (.reg [rg 2 (.p true (.mv (.c (.bool false))))]) .ret) .skip)) (.seq (.reg [rg 2 (.p true (.mv (.c (.bool true))))]) .ret))))))))))))))))))
theorem c5_is : compFn Tryd.prog 5 = some (c5, [(.tmp 2)]) := by kernel_rfl
theorem c5_ok : okFn Tryd.prog 5 = true := by kernel_rfl

noncomputable def F_laws_FnExactDamagedLines (v0 : List UInt8) : Option (Bool) :=
 (bif (decide ((1048576 : Int) < (v0.length : Int))) then some true
 else ((F_spec_DamagedLines v0).bind fun v1000 => ((F_impl_DamagedLines v0).bind fun v1001 => ((F_laws_eqInt64S v1001 v1000).bind fun v1002 => (bif (!v1002) then some false
 else ((F_laws_markInt64S v1001 1).bind fun v1003 => need (v1003.1.length = v1001.length) (((F_laws_heldInt64S v1003.1 1).bind fun v1005 => (bif (decide (v1005 < (0 : Int))) then some false
 else (bif (decide (v1005 ≠ v1003.2)) then some false
 else ((F_impl_DamagedLines v0).bind fun v1006 => ((F_laws_eqInt64S v1006 v1000).bind fun v1007 => (bif (!v1007) then some false
 else ((F_laws_heldInt64S v1003.1 1).bind fun v1008 => (bif (decide (v1008 < (0 : Int))) then some false
 else (bif (decide (v1008 ≠ v1003.2)) then some false
 else some true))))))))))))))))
@[simp] def res_laws_FnExactDamagedLines (r : Bool) : RV := .one (.one (.val (.bool r)))
theorem con_laws_FnExactDamagedLines {v0 : List UInt8} {r : Bool} (hF : F_laws_FnExactDamagedLines v0 = some r) : Con Tryd.prog 5 [.str v0] (res_laws_FnExactDamagedLines r) := by
 unfold F_laws_FnExactDamagedLines at hF
 refine con_of c5_is fun N => ?_
 refine ws 0 64 ?_
 refine qp (AB false) rfl ?_
 refine r_nil ?_
 refine w_seq ?_
 refine ws 64 256 ?_
 refine qp (AS v0) rfl (qp (AI (v0.length : Int)) rfl (qp (AB (decide ((1048576 : Int) < (v0.length : Int)))) rfl ?_))
 refine r_nil ?_
 refine cF hF (fun hF => ?_) fun hF => ?_
 ·
  refine ws 256 320 ?_
  refine qp (AB true) rfl ?_
  refine r_nil ?_
  refine w_ret ?_
  refine thenQ_r ?_
  cases hF
  exact eR
 ·
  refine w_skip ?_
  refine thenQ_n ?_
  refine ws 256 448 ?_
  refine qp (AS v0) rfl ?_
  obtain ⟨v1000, e1000, hF⟩ := bind_get hF
  refine qc (.sl 320 0 v1000.length) [(320, .row true 1 (v1000.map vI))] false (con_spec_DamagedLines e1000) c21_ok (by first | rfl | simp) (by simp [res_spec_DamagedLines]) ?_
  refine qp (.sl 320 0 v1000.length) rfl ?_
  refine r_nil ?_
  refine ws 448 640 ?_
  refine qp (AS v0) rfl ?_
  obtain ⟨v1001, e1001, hF⟩ := bind_get hF
  refine qc (.sl 512 0 v1001.length) [(512, .row true 1 (v1001.map vI)), (320, .row true 1 (v1000.map vI))] false (con_impl_DamagedLines e1001) c22_ok (by first | rfl | simp) (by simp [res_impl_DamagedLines]) ?_
  refine qp (.sl 512 0 v1001.length) rfl ?_
  refine r_nil ?_
  refine w_seq ?_
  refine ws 640 896 ?_
  refine qp (.sl 512 0 v1001.length) rfl (qp (.sl 320 0 v1000.length) rfl ?_)
  obtain ⟨v1002, e1002, hF⟩ := bind_get hF
  refine qc (AB v1002) [(512, .row true 1 (v1001.map vI)), (320, .row true 1 (v1000.map vI))] true (con_laws_eqInt64S e1002) c23_ok (by simp [List.take_of_length_le]) rfl ?_
  refine qp (AB (!v1002)) rfl ?_
  refine r_nil ?_
  refine cF hF (fun hF => ?_) fun hF => ?_
  ·
   refine ws 896 960 ?_
   refine qp (AB false) rfl ?_
   refine r_nil ?_
   refine w_ret ?_
   refine thenQ_r ?_
   cases hF
   exact eR
  ·
   refine w_skip ?_
   refine thenQ_n ?_
   refine ws 896 960 ?_
   refine qp (AI 1) rfl ?_
   refine r_nil ?_
   refine ws 960 1216 ?_
   refine qp (.sl 512 0 v1001.length) rfl (qp (AI 1) rfl ?_)
   obtain ⟨v1003, e1003, hF⟩ := bind_get hF
   obtain ⟨g1004, hF⟩ := need_some hF
   refine qm (ls := [512]) [(512, .row true 1 (v1003.1.map vI)), (512, .row true 1 (v1001.map vI)), (320, .row true 1 (v1000.map vI))] (con_laws_markInt64S e1003) c24_ok (by first | rfl | simp [takeM, takeML, takeM1, g1004]) (by decide) (by simp [like2, likeL, like1, g1004]) rfl rfl rfl (by simp [scrO_fo, newO2, newO, scrR, scrA, scrAs]) ?_
   refine qp (AI v1003.2) rfl ?_
   refine r_nil ?_
   refine ws 1216 1280 ?_
   refine qp (AI 1) rfl ?_
   refine r_nil ?_
   refine ws 1280 1536 ?_
   refine qp (.sl 512 0 v1001.length) rfl (qp (AI 1) rfl ?_)
   obtain ⟨v1005, e1005, hF⟩ := bind_get hF
   refine qc (AI v1005) [(512, .row true 1 (v1003.1.map vI)), (512, .row true 1 (v1001.map vI)), (320, .row true 1 (v1000.map vI))] true (con_laws_heldInt64S e1005) c25_ok (by simp [g1004, List.take_of_length_le]) rfl ?_
   refine qp (AI v1005) rfl ?_
   refine r_nil ?_
   refine w_seq ?_
   refine ws 1536 1664 ?_
   refine qp (AI v1005) rfl (qp (AB (decide (v1005 < (0 : Int)))) rfl ?_)
   refine r_nil ?_
   refine cF hF (fun hF => ?_) fun hF => ?_
   ·
    refine ws 1664 1728 ?_
    refine qp (AB false) rfl ?_
    refine r_nil ?_
    refine w_ret ?_
    refine thenQ_r ?_
    cases hF
    exact endQ_r rfl (.inl ⟨_, _, by first | rfl | (simp [List.take_of_length_le]; first | exact ⟨rfl, rfl⟩ | rfl), by simp, by first | rfl | simp [res_laws_FnExactDamagedLines, List.take_of_length_le, g1004]⟩)
   ·
    refine w_skip ?_
    refine thenQ_n ?_
    refine w_seq ?_
    refine ws 1664 1856 ?_
    refine qp (AI v1005) rfl (qp (AI v1003.2) rfl (qp (AB (decide (v1005 ≠ v1003.2))) rfl ?_))
    refine r_nil ?_
    refine cF hF (fun hF => ?_) fun hF => ?_
    ·
     refine ws 1856 1920 ?_
     refine qp (AB false) rfl ?_
     refine r_nil ?_
     refine w_ret ?_
     refine thenQ_r ?_
     cases hF
     exact endQ_r rfl (.inl ⟨_, _, by first | rfl | (simp [List.take_of_length_le]; first | exact ⟨rfl, rfl⟩ | rfl), by simp, by first | rfl | simp [res_laws_FnExactDamagedLines, List.take_of_length_le, g1004]⟩)
    ·
     refine w_skip ?_
     refine thenQ_n ?_
     refine ws 1856 2048 ?_
     refine qp (AS v0) rfl ?_
     obtain ⟨v1006, e1006, hF⟩ := bind_get hF
     refine qc (.sl 1920 0 v1006.length) [(1920, .row true 1 (v1006.map vI)), (512, .row true 1 (v1003.1.map vI)), (512, .row true 1 (v1001.map vI)), (320, .row true 1 (v1000.map vI))] false (con_impl_DamagedLines e1006) c22_ok (by first | rfl | simp) (by simp [res_impl_DamagedLines]) ?_
     refine qp (.sl 1920 0 v1006.length) rfl ?_
     refine r_nil ?_
     refine w_seq ?_
     refine ws 2048 2304 ?_
     refine qp (.sl 1920 0 v1006.length) rfl (qp (.sl 320 0 v1000.length) rfl ?_)
     obtain ⟨v1007, e1007, hF⟩ := bind_get hF
     refine qc (AB v1007) [(1920, .row true 1 (v1006.map vI)), (512, .row true 1 (v1003.1.map vI)), (512, .row true 1 (v1001.map vI)), (320, .row true 1 (v1000.map vI))] true (con_laws_eqInt64S e1007) c23_ok (by simp [g1004, List.take_of_length_le]) rfl ?_
     refine qp (AB (!v1007)) rfl ?_
     refine r_nil ?_
     refine cF hF (fun hF => ?_) fun hF => ?_
     ·
      refine ws 2304 2368 ?_
      refine qp (AB false) rfl ?_
      refine r_nil ?_
      refine w_ret ?_
      refine thenQ_r ?_
      cases hF
      exact endQ_r rfl (.inl ⟨_, _, by first | rfl | (simp [List.take_of_length_le]; first | exact ⟨rfl, rfl⟩ | rfl), by simp, by first | rfl | simp [res_laws_FnExactDamagedLines, List.take_of_length_le, g1004]⟩)
     ·
      refine w_skip ?_
      refine thenQ_n ?_
      refine ws 2304 2368 ?_
      refine qp (AI 1) rfl ?_
      refine r_nil ?_
      refine ws 2368 2624 ?_
      refine qp (.sl 512 0 v1001.length) rfl (qp (AI 1) rfl ?_)
      obtain ⟨v1008, e1008, hF⟩ := bind_get hF
      refine qc (AI v1008) [(1920, .row true 1 (v1006.map vI)), (512, .row true 1 (v1003.1.map vI)), (512, .row true 1 (v1001.map vI)), (320, .row true 1 (v1000.map vI))] true (con_laws_heldInt64S e1008) c25_ok (by simp [g1004, List.take_of_length_le]) rfl ?_
      refine qp (AI v1008) rfl ?_
      refine r_nil ?_
      refine w_seq ?_
      refine ws 2624 2752 ?_
      refine qp (AI v1008) rfl (qp (AB (decide (v1008 < (0 : Int)))) rfl ?_)
      refine r_nil ?_
      refine cF hF (fun hF => ?_) fun hF => ?_
      ·
       refine ws 2752 2816 ?_
       refine qp (AB false) rfl ?_
       refine r_nil ?_
       refine w_ret ?_
       refine thenQ_r ?_
       cases hF
       exact endQ_r rfl (.inl ⟨_, _, by first | rfl | (simp [List.take_of_length_le]; first | exact ⟨rfl, rfl⟩ | rfl), by simp, by first | rfl | simp [res_laws_FnExactDamagedLines, List.take_of_length_le, g1004]⟩)
      ·
       refine w_skip ?_
       refine thenQ_n ?_
       refine w_seq ?_
       refine ws 2752 2944 ?_
       refine qp (AI v1008) rfl (qp (AI v1003.2) rfl (qp (AB (decide (v1008 ≠ v1003.2))) rfl ?_))
       refine r_nil ?_
       refine cF hF (fun hF => ?_) fun hF => ?_
       ·
        refine ws 2944 3008 ?_
        refine qp (AB false) rfl ?_
        refine r_nil ?_
        refine w_ret ?_
        refine thenQ_r ?_
        cases hF
        exact endQ_r rfl (.inl ⟨_, _, by first | rfl | (simp [List.take_of_length_le]; first | exact ⟨rfl, rfl⟩ | rfl), by simp, by first | rfl | simp [res_laws_FnExactDamagedLines, List.take_of_length_le, g1004]⟩)
       ·
        refine w_skip ?_
        refine thenQ_n ?_
        refine ws 2944 3008 ?_
        refine qp (AB true) rfl ?_
        refine r_nil ?_
        refine w_ret ?_
        cases hF
        exact endQ_r rfl (.inl ⟨_, _, by first | rfl | (simp [List.take_of_length_le]; first | exact ⟨rfl, rfl⟩ | rfl), by simp, by first | rfl | simp [res_laws_FnExactDamagedLines, List.take_of_length_le, g1004]⟩)

end Go.Ab
