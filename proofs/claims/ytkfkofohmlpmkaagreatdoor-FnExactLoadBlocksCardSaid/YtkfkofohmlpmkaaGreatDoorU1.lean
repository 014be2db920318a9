/- Walks (printed by auto.py, a program of this session's own). -/
import Derived.Test.YtkfkofohmlpmkaaGreatDoorU0
import Derived.Test.YtkfkofohmlpmkaaGreatDoorProg
import Derived.KernelRfl
import Derived.Test.YtkfkofohmlpmkaaGreatDoorSQ
set_option linter.unusedVariables false
set_option linter.unusedSimpArgs false
set_option maxRecDepth 8000
set_option maxHeartbeats 8000000
namespace Go.Ab
open Go.RowKit Go.Proofs

def c40 : MC := (.seq (.reg [rg 4 (.p true (.mv (.c (.int .i64 0))))]) (.seq (.reg [mvt 7 0, rg 8 (.call true 57 [(.t 7)]), mvt 5 8]) (.seq (.reg [mvt 9 1, rg 10 (.call true 57 [(.t 9)]), mvt 6 10]) (.seq (.seq (.reg [mvt 11 5]) (.cond (.t 11) (.seq (.seq (.reg [mvt 12 6]) (.cond (.t 12) (.seq (.reg [rg 4 (.p true (.mv (.c (.int .i64 0))))]) .ret) .skip)) (.seq (.reg [rg 4 (.p true (.mv (.c (.int .i64 (-1)))))]) .ret)) .skip)) (.seq (.seq (.reg [mvt 13 6]) (.cond (.t 13) (.seq (.reg [rg 4 (.p true (.mv (.c (.int .i64 1))))]) .ret) .skip)) (.seq (.seq (.reg [mvt 14 0, mvt 15 1, rg 16 (.p true (.bin .lss (.t 14) (.t 15)))]) (.cond (.t 16) (.seq (.reg [rg 4 (.p true (.mv (.c (.int .i64 (-1)))))]) .ret) .skip)) (.seq (.seq (.reg [mvt 17 0, mvt 18 1, rg 19 (.p true (.bin .gtr (.t 17) (.t 18)))]) (.cond (.t 19) (.seq (.reg [rg 4 (.p true (.mv (.c (.int .i64 1))))]) .ret) .skip)) (.seq (.reg [rg 4 (.p true (.mv (.c (.int .i64 0))))]) .ret))))))))
theorem c40_is : compFn Tryz.prog 40 = some (c40, [(.tmp 4)]) := by kernel_rfl
theorem c40_ok : okFn Tryz.prog 40 = true := by kernel_rfl

noncomputable def F_cmp_Compare_string (v0 : List UInt8) (v1 : List UInt8) : Option (Int) :=
 ((F_cmp_isNaN_string v0).bind fun v1000 => ((F_cmp_isNaN_string v1).bind fun v1001 => (bif v1000 then (bif v1001 then some 0
 else some (-1))
 else (bif v1001 then some 1
 else (bif (Op.bytesLess v0 v1) then some (-1)
 else (bif (!(Op.bytesLess v0 v1 || decide (v0 = v1))) then some 1
 else some 0))))))
@[simp] def res_cmp_Compare_string (r : Int) : RV := .one (.one (.val (.int .i64 r)))
theorem con_cmp_Compare_string {v0 : List UInt8} {v1 : List UInt8} {r : Int} (hF : F_cmp_Compare_string v0 v1 = some r) : Con Tryz.prog 40 [.str v0, .str v1] (res_cmp_Compare_string r) := by
 unfold F_cmp_Compare_string at hF
 refine con_of c40_is fun N => ?_
 refine ws 0 64 ?_
 refine qp (AI 0) rfl ?_
 refine r_nil ?_
 refine ws 64 256 ?_
 refine qp (AS v0) rfl ?_
 obtain ⟨v1000, e1000, hF⟩ := bind_get hF
 refine qc (AB v1000) [] false (con_cmp_isNaN_string e1000) c57_ok (by first | rfl | simp) rfl ?_
 refine qp (AB v1000) rfl ?_
 refine r_nil ?_
 refine ws 256 448 ?_
 refine qp (AS v1) rfl ?_
 obtain ⟨v1001, e1001, hF⟩ := bind_get hF
 refine qc (AB v1001) [] false (con_cmp_isNaN_string e1001) c57_ok (by first | rfl | simp) rfl ?_
 refine qp (AB v1001) rfl ?_
 refine r_nil ?_
 refine w_seq ?_
 refine ws 448 512 ?_
 refine qp (AB v1000) rfl ?_
 refine r_nil ?_
 refine cF hF (fun hF => ?_) fun hF => ?_
 ·
  refine w_seq ?_
  refine ws 512 576 ?_
  refine qp (AB v1001) rfl ?_
  refine r_nil ?_
  refine cF hF (fun hF => ?_) fun hF => ?_
  ·
   refine ws 576 640 ?_
   refine qp (AI 0) rfl ?_
   refine r_nil ?_
   refine w_ret ?_
   refine thenQ_r ?_
   refine thenQ_r ?_
   cases hF
   exact eR
  ·
   refine w_skip ?_
   refine thenQ_n ?_
   refine ws 576 640 ?_
   refine qp (AI (-1)) rfl ?_
   refine r_nil ?_
   refine w_ret ?_
   refine thenQ_r ?_
   cases hF
   exact eR
 ·
  refine w_skip ?_
  refine thenQ_n ?_
  refine w_seq ?_
  refine ws 512 576 ?_
  refine qp (AB v1001) rfl ?_
  refine r_nil ?_
  refine cF hF (fun hF => ?_) fun hF => ?_
  ·
   refine ws 576 640 ?_
   refine qp (AI 1) rfl ?_
   refine r_nil ?_
   refine w_ret ?_
   refine thenQ_r ?_
   cases hF
   exact eR
  ·
   refine w_skip ?_
   refine thenQ_n ?_
   refine w_seq ?_
   refine ws 576 768 ?_
   refine qp (AS v0) rfl (qp (AS v1) rfl (qp (AB (Op.bytesLess v0 v1)) rfl ?_))
   refine r_nil ?_
   refine cF hF (fun hF => ?_) fun hF => ?_
   ·
    refine ws 768 832 ?_
    refine qp (AI (-1)) rfl ?_
    refine r_nil ?_
    refine w_ret ?_
    refine thenQ_r ?_
    cases hF
    exact eR
   ·
    refine w_skip ?_
    refine thenQ_n ?_
    refine w_seq ?_
    refine ws 768 960 ?_
    refine qp (AS v0) rfl (qp (AS v1) rfl (qp (AB (!(Op.bytesLess v0 v1 || decide (v0 = v1)))) rfl ?_))
    refine r_nil ?_
    refine cF hF (fun hF => ?_) fun hF => ?_
    ·
     refine ws 960 1024 ?_
     refine qp (AI 1) rfl ?_
     refine r_nil ?_
     refine w_ret ?_
     refine thenQ_r ?_
     cases hF
     exact eR
    ·
     refine w_skip ?_
     refine thenQ_n ?_
     refine ws 960 1024 ?_
     refine qp (AI 0) rfl ?_
     refine r_nil ?_
     refine w_ret ?_
     cases hF
     exact eR

def c39 : MC := (.seq (.reg [rg 2 (.p true (.mv (.c (.int .i64 0))))]) (.seq (.reg [rg 3 (.p true (.mv (.c (.int .i64 0))))]) (.seq (.seq (.reg [mvt 6 0, rg 7 (.p true (.len (.t 6))), rg 8 (.p true (.mv (.c (.int .i64 0))))]) (.block 0 (.loop (.seq (.reg [rg 9 (.p true (.bin .lss (.t 8) (.t 7)))]) (.seq (.cond (.t 9) .skip (.exit 0)) (.seq (.block 1 (.seq (.reg [rg 10 (.p true (.iad (.t 6) (.t 8) 1)), rg 11 (.p true (.ld (.t 10) 1 false)), mvt 5 11]) (.seq (.reg [mvt 12 5, mvt 13 3, rg 14 (.p true (.bin .neq (.t 12) (.t 13)))]) (.cond (.t 14) (.seq (.reg [mvt 15 5, mvt 2 15]) .ret) .skip)))) (.reg [rg 16 (.p true (.bin .add (.t 8) (.c (.int .i64 1)))), mvt 8 16]))))))) (.seq (.reg [mvt 17 3, mvt 2 17]) .ret))))
theorem c39_is : compFn Tryz.prog 39 = some (c39, [(.tmp 2)]) := by kernel_rfl
theorem c39_ok : okFn Tryz.prog 39 = true := by kernel_rfl

noncomputable def F_cmp_Or_int_l0 (v0 : List Int) (k0 : Int → Option (Int)) : Int → Option (Int)
 | v50001 => (bif (decide (v50001 < (v0.length : Int))) then ((ix v0 v50001).bind fun v1000 => (bif (decide (v1000 ≠ (0 : Int))) then some v1000
 else k0 (w64 (v50001 + 1))))
 else some 0)
noncomputable def F_cmp_Or_int (v0 : List Int) : Option (Int) :=
 loop (F_cmp_Or_int_l0 v0) 0
@[simp] def res_cmp_Or_int (r : Int) : RV := .one (.one (.val (.int .i64 r)))
theorem con_cmp_Or_int {v0 : List Int} {r : Int} (hF : F_cmp_Or_int v0 = some r) : Con Tryz.prog 39 [.sl 1 (v0.map vI)] (res_cmp_Or_int r) := by
 unfold F_cmp_Or_int at hF
 refine con_of c39_is fun N => ?_
 refine ws 0 64 ?_
 refine qp (AI 0) rfl ?_
 refine r_nil ?_
 refine ws 64 128 ?_
 refine qp (AI 0) rfl ?_
 refine r_nil ?_
 refine w_seq ?_
 refine ws 128 320 ?_
 refine qp (AL 1 (v0.map vI)) rfl (qp (AI (v0.length : Int)) (ev_len_n rfl) (qp (AI 0) rfl ?_))
 refine r_nil ?_
 refine w_block ?_
 refine wr (l' := [(3, AI 0), (6, AL 1 (v0.map vI)), (7, AI (v0.length : Int)), (8, AI 0)]) (L := []) [3, 6, 7, 8] [] 1 ?_
 refine w_loopF (F_cmp_Or_int_l0 v0) (fun s : Int => mkS [(3, AI 0), (6, AL 1 (v0.map vI)), (7, AI (v0.length : Int)), (8, AI s)] (fo []) 1) hF ?_
 rintro k0 v50001 hF
 rw [F_cmp_Or_int_l0] at hF
 try dsimp only
 refine ws 1 65 ?_
 refine qp (AB (decide (v50001 < (v0.length : Int)))) rfl ?_
 refine r_nil ?_
 refine w_seq ?_
 refine cF hF (fun hF => ?_) fun hF => ?_
 ·
  refine w_skip ?_
  refine thenQ_n ?_
  refine w_seq ?_
  refine w_block ?_
  refine ws 65 257 ?_
  obtain ⟨v1000, e1000, hF⟩ := bind_get hF
  refine qp (.val none (.ptr [.int .i64 v1000])) (ev_iad_n rfl rfl e1000 rfl) (qp (AI v1000) rfl (qp (AI v1000) rfl ?_))
  refine r_nil ?_
  refine ws 257 449 ?_
  refine qp (AI v1000) rfl (qp (AI 0) rfl (qp (AB (decide (v1000 ≠ (0 : Int)))) rfl ?_))
  refine r_nil ?_
  refine cF hF (fun hF => ?_) fun hF => ?_
  ·
   refine ws 449 577 ?_
   refine qp (AI v1000) rfl (qp (AI v1000) rfl ?_)
   refine r_nil ?_
   refine w_ret ?_
   refine blockQ_r ?_
   refine thenQ_r ?_
   refine thenQ_r ?_
   refine blockQ_r ?_
   refine thenQ_r ?_
   cases hF
   exact eR
  ·
   refine w_skip ?_
   refine blockQ_n ?_
   refine thenQ_n ?_
   refine w_reg 449 577 rfl rfl ?_
   refine qp (AI (w64 (v50001 + 1))) rfl (qp (AI (w64 (v50001 + 1))) rfl ?_)
   refine r_nil ?_
   refine thenQ_n ?_
   refine ar (l' := [(3, AI 0), (6, AL 1 (v0.map vI)), (7, AI (v0.length : Int)), (8, AI (w64 (v50001 + 1)))]) (L := []) [3, 6, 7, 8] [] 1 ⟨_, by rfl, hF⟩
 ·
  refine w_exit ?_
  refine thenQ_e ?_
  refine thenQ_e ?_
  refine blockQ_e ?_
  refine thenQ_n ?_
  refine ws 65 193 ?_
  refine qp (AI 0) rfl (qp (AI 0) rfl ?_)
  refine r_nil ?_
  refine w_ret ?_
  cases hF
  exact eR

def c20 : MC := (.seq (.reg [rg 2 (.f (.box (.t 0))), rg 3 (.f (.box (.t 1))), rg 4 (.p true (.mv (.c (.int .i64 0))))]) (.seq (.reg [rg 5 (.p false (.fad (.t 2) 0)), rg 6 (.p false (.ld (.t 5) 1 false)), rg 7 (.p false (.fad (.t 3) 0)), rg 8 (.p false (.ld (.t 7) 1 false)), rg 9 (.call false 40 [(.t 6), (.t 8)]), rg 10 (.p false (.fad (.t 2) 1)), rg 11 (.p false (.ld (.t 10) 1 false)), rg 12 (.p false (.fad (.t 3) 1)), rg 13 (.p false (.ld (.t 12) 1 false)), rg 14 (.call false 40 [(.t 11), (.t 13)]), rg 15 (.f (.bsl 1 [(.t 9), (.t 14)])), rg 16 (.call false 39 [(.t 15)]), rg 4 (.p false (.mv (.t 16)))]) .ret))
theorem c20_is : compFn Tryz.prog 20 = some (c20, [(.tmp 4)]) := by kernel_rfl
theorem c20_ok : okFn Tryz.prog 20 = true := by kernel_rfl

noncomputable def F_impl_compareBlocks (v0 : TBlock) (v1 : TBlock) : Option (Int) :=
 ((F_cmp_Compare_string v0.1 v1.1).bind fun v1000 => ((F_cmp_Compare_string v0.2.1 v1.2.1).bind fun v1001 => ((F_cmp_Or_int [v1000, v1001]).bind fun v1002 => some v1002)))
@[simp] def res_impl_compareBlocks (r : Int) : RV := .one (.one (.val (.int .i64 r)))
theorem con_impl_compareBlocks {v0 : TBlock} {v1 : TBlock} {r : Int} (hF : F_impl_compareBlocks v0 v1 = some r) : Con Tryz.prog 20 [eBlock v0, eBlock v1] (res_impl_compareBlocks r) := by
 unfold F_impl_compareBlocks at hF
 refine con_of c20_is fun N => ?_
 refine ws 0 192 ?_
 refine qf (.ptr 0 0 0) [(0, .box [AS v0.1, AS v0.2.1, AS v0.2.2])] (by simp) ?_
 refine qf (.ptr 64 0 0) [(64, .box [AS v1.1, AS v1.2.1, AS v1.2.2]), (0, .box [AS v0.1, AS v0.2.1, AS v0.2.2])] (by simp) ?_
 refine qp (AI 0) rfl ?_
 refine r_nil ?_
 refine ws 192 1024 ?_
 refine qp (.ptr 0 0 0) rfl (qp (AS v0.1) rfl (qp (.ptr 64 0 0) rfl (qp (AS v1.1) rfl ?_)))
 obtain ⟨v1000, e1000, hF⟩ := bind_get hF
 refine qc (AI v1000) [(64, .box [AS v1.1, AS v1.2.1, AS v1.2.2]), (0, .box [AS v0.1, AS v0.2.1, AS v0.2.2])] false (con_cmp_Compare_string e1000) c40_ok (by first | rfl | simp) rfl ?_
 refine qp (.ptr 0 0 1) rfl (qp (AS v0.2.1) rfl (qp (.ptr 64 0 1) rfl (qp (AS v1.2.1) rfl ?_)))
 obtain ⟨v1001, e1001, hF⟩ := bind_get hF
 refine qc (AI v1001) [(64, .box [AS v1.1, AS v1.2.1, AS v1.2.2]), (0, .box [AS v0.1, AS v0.2.1, AS v0.2.2])] false (con_cmp_Compare_string e1001) c40_ok (by first | rfl | simp) rfl ?_
 refine qf (.sl 832 0 ([v1000, v1001].length)) [(832, .row true 1 ([v1000, v1001].map vI)), (64, .box [AS v1.1, AS v1.2.1, AS v1.2.2]), (0, .box [AS v0.1, AS v0.2.1, AS v0.2.2])] (by simp [List.take_of_length_le]) ?_
 obtain ⟨v1002, e1002, hF⟩ := bind_get hF
 refine qc (AI v1002) [(832, .row true 1 ([v1000, v1001].map vI)), (64, .box [AS v1.1, AS v1.2.1, AS v1.2.2]), (0, .box [AS v0.1, AS v0.2.1, AS v0.2.2])] true (con_cmp_Or_int e1002) c39_ok (by simp [List.take_of_length_le]) rfl ?_
 refine qp (AI v1002) rfl ?_
 refine r_nil ?_
 refine w_ret ?_
 cases hF
 exact eR

def c5 : MC := (.seq (.reg [rg 2 (.f (.nilrow 3)), rg 3 (.p true (.mv (.c (.int .i64 0)))), rg 4 (.p true (.mv (.c (.int .i64 0))))]) (.seq (.seq (.reg [mvt 15 0, rg 16 (.call true 13 [(.t 15), (.c (.str [10]))]), rg 17 (.p true (.not (.t 16)))]) (.cond (.t 17) (.seq (.reg [rg 2 (.f (.nilrow 3)), rg 3 (.p true (.mv (.c (.int .i64 0)))), rg 4 (.p true (.mv (.c (.int .i64 11))))]) .ret) .skip)) (.seq (.reg [mvt 18 0, rg 19 (.call true 15 [(.t 18), (.c (.str [10]))]), rg 20 (.call true 14 [(.t 19), (.c (.str [10]))]), mvt 5 20]) (.seq (.reg [mvt 22 5, rg 23 (.p true (.iad (.t 22) (.c (.int .i64 0)) 1)), rg 24 (.p true (.ld (.t 23) 1 false)), rg 25 (.call true 16 [(.t 24), (.c (.str [97, 114, 99, 104, 105, 118, 101, 32]))]), mvt 21 25, rg 26 (.p true (.ext (.t 21) 0)), rg 27 (.p true (.ext (.t 21) 1)), mvt 6 26, mvt 7 27]) (.seq (.reg [mvt 29 6, rg 30 (.call true 17 [(.t 29)]), mvt 28 30, rg 31 (.p true (.ext (.t 28) 0)), rg 32 (.p true (.ext (.t 28) 1)), mvt 8 31, mvt 9 32]) (.seq (.seq (.reg [mvt 33 7, rg 34 (.p true (.not (.t 33))), mvt 35 34, ⟨(some 36), (some (35, false)), (.p true (.mv (.t 9)))⟩, ⟨(some 37), (some (35, false)), (.p true (.not (.t 36)))⟩, rg 38 (.p true (.pick (.t 35) (.c (.bool true)) (.t 37))), mvt 39 38, ⟨(some 40), (some (39, false)), (.p true (.mv (.t 8)))⟩, ⟨(some 41), (some (39, false)), (.call true 18 [(.t 40), (.c (.int .i64 0)), (.c (.int .i64 32))])⟩, ⟨(some 42), (some (39, false)), (.p true (.not (.t 41)))⟩, rg 43 (.p true (.pick (.t 39) (.c (.bool true)) (.t 42)))]) (.cond (.t 43) (.seq (.reg [rg 2 (.f (.nilrow 3)), rg 3 (.p true (.mv (.c (.int .i64 1)))), rg 4 (.p true (.mv (.c (.int .i64 9))))]) .ret) .skip)) (.seq (.reg [rg 10 (.f (.nilrow 3))]) (.seq (.seq (.reg [mvt 44 5, rg 45 (.p true (.slc (.t 44) (some (.c (.int .i64 1))) none 1)), rg 46 (.p true (.len (.t 45))), rg 47 (.p true (.mv (.c (.int .i64 0))))]) (.block 0 (.loop (.seq (.reg [rg 48 (.p true (.bin .lss (.t 47) (.t 46)))]) (.seq (.cond (.t 48) .skip (.exit 0)) (.seq (.block 1 (.seq (.reg [mvt 49 47, rg 50 (.p true (.iad (.t 45) (.t 47) 1)), rg 51 (.p true (.ld (.t 50) 1 false)), mvt 11 49, mvt 12 51]) (.seq (.reg [mvt 53 12, rg 54 (.call true 19 [(.t 53)]), mvt 52 54, rg 55 (.p true (.ext (.t 52) 0)), rg 56 (.p true (.ext (.t 52) 1)), rg 13 (.f (.alloc [((.str []), (0, false)), ((.str []), (0, false)), ((.str []), (0, false))])), ⟨none, none, (.f (.st (.t 13) (.t 55) 3))⟩, mvt 14 56]) (.seq (.seq (.reg [rg 57 (.p false (.mv (.t 14))), rg 58 (.p false (.bin .eql (.t 57) (.c (.int .i64 0)))), rg 59 (.p false (.mv (.t 58))), ⟨(some 60), (some (59, true)), (.p false (.mv (.t 11)))⟩, ⟨(some 61), (some (59, true)), (.p false (.bin .gtr (.t 60) (.c (.int .i64 0))))⟩, rg 62 (.p false (.pick (.t 59) (.t 61) (.c (.bool false)))), rg 63 (.p false (.mv (.t 62))), ⟨(some 64), (some (63, true)), (.p false (.mv (.t 10)))⟩, ⟨(some 65), (some (63, true)), (.p false (.mv (.t 11)))⟩, ⟨(some 66), (some (63, true)), (.p false (.bin .sub (.t 65) (.c (.int .i64 1))))⟩, ⟨(some 67), (some (63, true)), (.p false (.iad (.t 64) (.t 66) 3))⟩, ⟨(some 68), (some (63, true)), (.p false (.ld (.t 67) 3 true))⟩, ⟨(some 69), (some (63, true)), (.p false (.ld (.t 13) 3 true))⟩, ⟨(some 70), (some (63, true)), (.call false 20 [(.t 68), (.t 69)])⟩, ⟨(some 71), (some (63, true)), (.p false (.bin .geq (.t 70) (.c (.int .i64 0))))⟩, rg 72 (.p false (.pick (.t 63) (.t 71) (.c (.bool false))))]) (.cond (.t 72) (.reg [rg 14 (.p true (.mv (.c (.int .i64 7))))]) .skip)) (.seq (.seq (.reg [mvt 73 14, rg 74 (.p true (.bin .neq (.t 73) (.c (.int .i64 0))))]) (.cond (.t 74) (.seq (.reg [mvt 75 11, rg 76 (.p true (.bin .add (.t 75) (.c (.int .i64 2)))), mvt 77 14, rg 2 (.f (.nilrow 3)), mvt 3 76, mvt 4 77]) .ret) .skip)) (.reg [mvt 78 10, rg 79 (.p true (.ld (.t 13) 3 true)), rg 80 (.f (.bsl 3 [(.t 79)])), rg 81 (.f (.app (.t 78) (.t 80) 3 48 true)), mvt 10 81])))))) (.reg [rg 82 (.p true (.bin .add (.t 47) (.c (.int .i64 1)))), mvt 47 82]))))))) (.seq (.seq (.reg [mvt 83 10, rg 84 (.p true (.len (.t 83))), mvt 85 8, rg 86 (.p true (.bin .neq (.t 84) (.t 85)))]) (.cond (.t 86) (.seq (.reg [rg 2 (.f (.nilrow 3)), rg 3 (.p true (.mv (.c (.int .i64 0)))), rg 4 (.p true (.mv (.c (.int .i64 11))))]) .ret) .skip)) (.seq (.reg [mvt 87 10, mvt 2 87, rg 3 (.p true (.mv (.c (.int .i64 0)))), rg 4 (.p true (.mv (.c (.int .i64 0))))]) .ret))))))))))
theorem c5_is : compFn Tryz.prog 5 = some (c5, [(.tmp 2), (.tmp 3), (.tmp 4)]) := by kernel_rfl
theorem c5_ok : okFn Tryz.prog 5 = true := by kernel_rfl

noncomputable def F_impl_LoadBlocks_j3 (v1025 : TBlock × Int) (v50011 : Int) (v50012 : List TBlock) (k1 : Int × (List TBlock) → Option ((List TBlock) × Int × Int)) (v50013 : Int) : Option ((List TBlock) × Int × Int) :=
 (bif (decide (v50013 ≠ (0 : Int))) then some ([], w64 (v50011 + 2), v50013)
 else (need (room (v50012.length + [v1025.1].length) 48) (k1 (w64 (v50011 + 1), v50012 ++ [v1025.1]))))
noncomputable def F_impl_LoadBlocks_l2 (v1002 : List (List UInt8)) (v1005 : Int × Bool) (k1 : Int × (List TBlock) → Option ((List TBlock) × Int × Int)) : Int × (List TBlock) → Option ((List TBlock) × Int × Int)
 | (v50011, v50012) => (bif (decide (v50011 < ((v1002.length : Int) - (1 : Int)))) then ((ix (sub v1002 (1 : Int) (v1002.length : Int)) v50011).bind fun v1024 => ((F_impl_blockOf v1024).bind fun v1025 => (bif (decide (v1025.2 = (0 : Int))) then (bif (decide ((0 : Int) < v50011)) then ((ix v50012 (w64 (v50011 - 1))).bind fun v1028 => ((F_impl_compareBlocks v1028 v1025.1).bind fun v1029 => (bif (decide ((0 : Int) ≤ v1029)) then F_impl_LoadBlocks_j3 v1025 v50011 v50012 k1 7
 else F_impl_LoadBlocks_j3 v1025 v50011 v50012 k1 v1025.2)))
 else F_impl_LoadBlocks_j3 v1025 v50011 v50012 k1 v1025.2)
 else F_impl_LoadBlocks_j3 v1025 v50011 v50012 k1 v1025.2)))
 else (bif (decide ((v50012.length : Int) ≠ v1005.1)) then some ([], 0, 11)
 else some (v50012, 0, 0)))
noncomputable def F_impl_LoadBlocks (v0 : List UInt8) : Option ((List TBlock) × Int × Int) :=
 ((F_hasSuffix v0 [10]).bind fun v1000 => (bif (!v1000) then some ([], 0, 11)
 else ((F_trimSuffix v0 [10]).bind fun v1001 => ((F_split v1001 [10]).bind fun v1002 => ((ix v1002 0).bind fun v1003 => ((F_cutPrefix v1003 [97, 114, 99, 104, 105, 118, 101, 32]).bind fun v1004 => ((F_readDec v1004.1).bind fun v1005 => (bif (!v1004.2) then some ([], 1, 9)
 else (bif (!v1005.2) then some ([], 1, 9)
 else ((F_impl_within v1005.1 0 32).bind fun v1007 => (bif (!v1007) then some ([], 1, 9)
 else (need (0 ≤ (1 : Int) ∧ (1 : Int) ≤ (v1002.length : Int) ∧ (v1002.length : Int) ≤ (v1002.length : Int)) (loop (F_impl_LoadBlocks_l2 v1002 v1005) (0, []))))))))))))))
@[simp] def res_impl_LoadBlocks (r : (List TBlock) × Int × Int) : RV := .tup [.one (.row true 3 (r.1.map eBlock)), .one (.val (.int .i64 r.2.1)), .one (.val (.int .i64 r.2.2))]
theorem con_impl_LoadBlocks {v0 : List UInt8} {r : (List TBlock) × Int × Int} (hF : F_impl_LoadBlocks v0 = some r) : Con Tryz.prog 5 [.str v0] (res_impl_LoadBlocks r) := by
 unfold F_impl_LoadBlocks at hF
 refine con_of c5_is fun N => ?_
 refine ws 0 192 ?_
 refine qf (.sl 0 0 0) [(0, .row true 3 (([] : List Int).map vI))] (by simp) ?_
 refine qp (AI 0) rfl (qp (AI 0) rfl ?_)
 refine r_nil ?_
 refine w_seq ?_
 refine ws 192 384 ?_
 refine qp (AS v0) rfl ?_
 obtain ⟨v1000, e1000, hF⟩ := bind_get hF
 refine qc (AB v1000) [(0, .row true 3 (([] : List Int).map vI))] false (con_hasSuffix e1000) c13_ok (by first | rfl | simp) rfl ?_
 refine qp (AB (!v1000)) rfl ?_
 refine r_nil ?_
 refine cF hF (fun hF => ?_) fun hF => ?_
 ·
  refine ws 384 576 ?_
  refine qf (.sl 384 0 0) [(384, .row true 3 (([] : List TBlock).map eBlock)), (0, .row true 3 (([] : List Int).map vI))] (by simp) ?_
  refine qp (AI 0) rfl (qp (AI 11) rfl ?_)
  refine r_nil ?_
  refine w_ret ?_
  refine thenQ_r ?_
  cases hF
  exact eR
 ·
  refine w_skip ?_
  refine thenQ_n ?_
  refine ws 384 640 ?_
  refine qp (AS v0) rfl ?_
  obtain ⟨v1001, e1001, hF⟩ := bind_get hF
  refine qc (AS v1001) [(0, .row true 3 (([] : List Int).map vI))] false (con_trimSuffix e1001) c15_ok (by first | rfl | simp) rfl ?_
  obtain ⟨v1002, e1002, hF⟩ := bind_get hF
  refine qc (.sl 512 0 v1002.length) [(512, .row true 1 (v1002.map V.str)), (0, .row true 3 (([] : List Int).map vI))] false (con_split e1002) c14_ok (by first | rfl | simp) (by simp [res_split]) ?_
  refine qp (.sl 512 0 v1002.length) rfl ?_
  refine r_nil ?_
  refine ws 640 1216 ?_
  refine qp (.sl 512 0 v1002.length) rfl ?_
  obtain ⟨v1003, e1003, hF⟩ := bind_get hF
  refine qp (.ptr 512 ((0 : Int).toNat) 0) (ev_iad_r rfl (by simp) rfl rfl e1003) (qp (AS v1003) (ev_ld_r rfl rfl (ix_some e1003).2 rfl rfl) ?_)
  obtain ⟨v1004, e1004, hF⟩ := bind_get hF
  refine qc (.tup [AS v1004.1, AB v1004.2]) [(512, .row true 1 (v1002.map V.str)), (0, .row true 3 (([] : List Int).map vI))] false (con_cutPrefix e1004) c16_ok (by first | rfl | simp) rfl ?_
  refine qp (.tup [AS v1004.1, AB v1004.2]) rfl (qp (AS v1004.1) rfl (qp (AB v1004.2) rfl (qp (AS v1004.1) rfl (qp (AB v1004.2) rfl ?_))))
  refine r_nil ?_
  refine ws 1216 1664 ?_
  refine qp (AS v1004.1) rfl ?_
  obtain ⟨v1005, e1005, hF⟩ := bind_get hF
  refine qc (.tup [AI v1005.1, AB v1005.2]) [(512, .row true 1 (v1002.map V.str)), (0, .row true 3 (([] : List Int).map vI))] false (con_readDec e1005) c17_ok (by first | rfl | simp) rfl ?_
  refine qp (.tup [AI v1005.1, AB v1005.2]) rfl (qp (AI v1005.1) rfl (qp (AB v1005.2) rfl (qp (AI v1005.1) rfl (qp (AB v1005.2) rfl ?_))))
  refine r_nil ?_
  refine w_seq ?_
  refine ws 1664 2368 ?_
  refine qp (AB v1004.2) rfl (qp (AB (!v1004.2)) rfl (qp (AB (!v1004.2)) rfl ?_))
  refine q_case 35 hF rfl (fun hF => ?_) (fun hF => ?_)
  ·
   refine qn rfl (qn rfl (qp (AB true) rfl (qp (AB true) rfl (qn rfl (qn rfl (qn rfl (qp (AB true) rfl ?_)))))))
   refine r_nil ?_
   refine w_true rfl ?_
   refine ws 2368 2560 ?_
   refine qf (.sl 2368 0 0) [(2368, .row true 3 (([] : List TBlock).map eBlock)), (512, .row true 1 (v1002.map V.str)), (0, .row true 3 (([] : List Int).map vI))] (by simp) ?_
   refine qp (AI 1) rfl (qp (AI 9) rfl ?_)
   refine r_nil ?_
   refine w_ret ?_
   refine thenQ_r ?_
   cases hF
   exact eR
  ·
   refine qg (AB v1005.2) rfl rfl (qg (AB (!v1005.2)) rfl rfl (qp (AB (!v1005.2)) rfl (qp (AB (!v1005.2)) rfl ?_)))
   refine q_case 39 hF rfl (fun hF => ?_) (fun hF => ?_)
   ·
    refine qn rfl (qn rfl (qn rfl (qp (AB true) rfl ?_)))
    refine r_nil ?_
    refine w_true rfl ?_
    refine ws 2368 2560 ?_
    refine qf (.sl 2368 0 0) [(2368, .row true 3 (([] : List TBlock).map eBlock)), (512, .row true 1 (v1002.map V.str)), (0, .row true 3 (([] : List Int).map vI))] (by simp) ?_
    refine qp (AI 1) rfl (qp (AI 9) rfl ?_)
    refine r_nil ?_
    refine w_ret ?_
    refine thenQ_r ?_
    cases hF
    exact eR
   ·
    refine qg (AI v1005.1) rfl rfl ?_
    obtain ⟨v1007, e1007, hF⟩ := bind_get hF
    refine qcg (AB v1007) [(512, .row true 1 (v1002.map V.str)), (0, .row true 3 (([] : List Int).map vI))] false rfl (con_impl_within e1007) c18_ok (by first | rfl | simp) rfl ?_
    refine qg (AB (!v1007)) rfl rfl (qp (AB (!v1007)) rfl ?_)
    refine r_nil ?_
    refine cF hF (fun hF => ?_) fun hF => ?_
    ·
     refine ws 2368 2560 ?_
     refine qf (.sl 2368 0 0) [(2368, .row true 3 (([] : List TBlock).map eBlock)), (512, .row true 1 (v1002.map V.str)), (0, .row true 3 (([] : List Int).map vI))] (by simp) ?_
     refine qp (AI 1) rfl (qp (AI 9) rfl ?_)
     refine r_nil ?_
     refine w_ret ?_
     refine thenQ_r ?_
     cases hF
     exact eR
    ·
     refine w_skip ?_
     refine thenQ_n ?_
     refine ws 2368 2432 ?_
     refine qf (.sl 2368 0 0) [(2368, .row true 3 (([] : List TBlock).map eBlock)), (512, .row true 1 (v1002.map V.str)), (0, .row true 3 (([] : List Int).map vI))] (by simp) ?_
     refine r_nil ?_
     refine w_seq ?_
     refine ws 2432 2688 ?_
     refine qp (.sl 512 0 v1002.length) rfl ?_
     obtain ⟨g1008, hF⟩ := need_some hF
     refine qp (.sl 512 (1 : Int).toNat ((v1002.length : Int).toNat - (1 : Int).toNat)) (ev_slc_r rfl (by simp) rfl rfl rfl g1008) (qp (AI ((v1002.length : Int) - (1 : Int))) (ev_len_p rfl rfl g1008) (qp (AI 0) rfl ?_))
     refine r_nil ?_
     have g1009 : 0 ≤ (1 : Int) ∧ (1 : Int) ≤ (v1002.length : Int) ∧ (v1002.length : Int) ≤ (v1002.length : Int) := by first | exact g1008 | (have h := g1008; simp only [] at h ⊢; exact h)
     refine w_drop (l' := [(8, AI v1005.1), (10, .sl 2368 0 0), (45, .sl 512 (1 : Int).toNat ((v1002.length : Int).toNat - (1 : Int).toNat)), (46, AI ((v1002.length : Int) - (1 : Int))), (47, AI 0)]) [8, 10, 45, 46, 47] (by first | rfl | simp) ?_
     refine w_rebF (l' := [(8, AI v1005.1), (10, .sl 2368 0 0), (45, .sl 512 0 ((sub v1002 (1 : Int) (v1002.length : Int)).length)), (46, AI ((v1002.length : Int) - (1 : Int))), (47, AI 0)]) (r := 512) (lo := (1 : Int)) (hi := (v1002.length : Int)) rfl g1009 (RebL.keep rfl (RebL.keep rfl (RebL.part (sub_len g1009) (RebL.keep rfl (RebL.keep rfl RebL.nil))))) rfl ?_
     refine w_block ?_
     refine wr (l' := [(8, AI v1005.1), (10, .sl 0 0 0), (45, .sl 1 0 ((sub v1002 (1 : Int) (v1002.length : Int)).length)), (46, AI ((v1002.length : Int) - (1 : Int))), (47, AI 0)]) (L := [(1, .row true 1 ((sub v1002 (1 : Int) (v1002.length : Int)).map V.str)), (0, .row true 3 (([] : List TBlock).map eBlock))]) [8, 10, 45, 46, 47] [(512, 1), (2368, 0)] 2 ?_
     refine w_loopF (F_impl_LoadBlocks_l2 v1002 v1005) (fun s : Int × (List TBlock) => mkS [(8, AI v1005.1), (10, .sl 0 0 s.2.length), (45, .sl 1 0 ((sub v1002 (1 : Int) (v1002.length : Int)).length)), (46, AI ((v1002.length : Int) - (1 : Int))), (47, AI s.1)] (fo [(1, .row true 1 ((sub v1002 (1 : Int) (v1002.length : Int)).map V.str)), (0, .row true 3 (s.2.map eBlock))]) 2) hF ?_
     rintro k1 ⟨v50011, v50012⟩ hF
     rw [F_impl_LoadBlocks_l2] at hF
     try dsimp only
     refine ws 2 66 ?_
     refine qp (AB (decide (v50011 < ((v1002.length : Int) - (1 : Int))))) rfl ?_
     refine r_nil ?_
     refine w_seq ?_
     refine cF hF (fun hF => ?_) fun hF => ?_
     ·
      refine w_skip ?_
      refine thenQ_n ?_
      refine w_seq ?_
      refine w_block ?_
      refine ws 66 386 ?_
      refine qp (AI v50011) rfl ?_
      obtain ⟨v1024, e1024, hF⟩ := bind_get hF
      refine qp (.ptr 1 v50011.toNat 0) (ev_iad_r rfl (by simp) rfl rfl e1024) (qp (AS v1024) (ev_ld_r rfl rfl (ix_some e1024).2 rfl rfl) (qp (AI v50011) rfl (qp (AS v1024) rfl ?_)))
      refine r_nil ?_
      refine ws 386 898 ?_
      refine qp (AS v1024) rfl ?_
      obtain ⟨v1025, e1025, hF⟩ := bind_get hF
      refine qc (.tup [.val none (eBlock v1025.1), AI v1025.2]) [(1, .row true 1 ((sub v1002 (1 : Int) (v1002.length : Int)).map V.str)), (0, .row true 3 (v50012.map eBlock))] false (con_impl_blockOf e1025) c19_ok (by first | rfl | simp) rfl ?_
      refine qp (.tup [.val none (eBlock v1025.1), AI v1025.2]) rfl (qp (.val none (eBlock v1025.1)) rfl (qp (AI v1025.2) rfl ?_))
      refine qf (.ptr 706 0 0) [(706, .box [AS [], AS [], AS []]), (1, .row true 1 ((sub v1002 (1 : Int) (v1002.length : Int)).map V.str)), (0, .row true 3 (v50012.map eBlock))] (by simp) ?_
      refine qf0 (.undef) [(706, .box [AS v1025.1.1, AS v1025.1.2.1, AS v1025.1.2.2]), (706, .box [AS [], AS [], AS []]), (1, .row true 1 ((sub v1002 (1 : Int) (v1002.length : Int)).map V.str)), (0, .row true 3 (v50012.map eBlock))] (by simp) ?_
      refine qp (AI v1025.2) rfl ?_
      refine r_nil ?_
      refine w_meet (fun s' => ∃ (v50013 : Int), s' = mkS [(8, AI v1005.1), (10, .sl 0 0 v50012.length), (11, AI v50011), (13, .ptr 1 0 0), (14, AI v50013), (45, .sl 2 0 ((sub v1002 (1 : Int) (v1002.length : Int)).length)), (46, AI ((v1002.length : Int) - (1 : Int))), (47, AI v50011)] (fo [(2, .row true 1 ((sub v1002 (1 : Int) (v1002.length : Int)).map V.str)), (1, .box [AS v1025.1.1, AS v1025.1.2.1, AS v1025.1.2.2]), (0, .row true 3 (v50012.map eBlock))]) 3 ∧ F_impl_LoadBlocks_j3 v1025 v50011 v50012 k1 v50013 = some r) ?_ ?_
      ·
       refine ws 898 1922 ?_
       refine qp (AI v1025.2) rfl (qp (AB (decide (v1025.2 = (0 : Int)))) rfl (qp (AB (decide (v1025.2 = (0 : Int)))) rfl ?_))
       refine q_case 59 hF rfl (fun hF => ?_) (fun hF => ?_)
       ·
        refine qg (AI v50011) rfl rfl (qg (AB (decide ((0 : Int) < v50011))) rfl rfl (qp (AB (decide ((0 : Int) < v50011))) rfl (qp (AB (decide ((0 : Int) < v50011))) rfl ?_)))
        refine q_case 63 hF rfl (fun hF => ?_) (fun hF => ?_)
        ·
         refine qg (.sl 0 0 v50012.length) rfl rfl (qg (AI v50011) rfl rfl (qg (AI (w64 (v50011 - 1))) rfl rfl ?_))
         obtain ⟨v1028, e1028, hF⟩ := bind_get hF
         refine qg (.ptr 0 ((w64 (v50011 - 1)).toNat) 0) rfl (ev_iad_r rfl (by simp) rfl rfl e1028) (qg (.val none (eBlock v1028)) rfl (ev_ld_r rfl rfl (ix_some e1028).2 rfl rfl) (qg (.agg [AS v1025.1.1, AS v1025.1.2.1, AS v1025.1.2.2]) rfl rfl ?_))
         obtain ⟨v1029, e1029, hF⟩ := bind_get hF
         refine qcg (AI v1029) [(706, .box [AS v1025.1.1, AS v1025.1.2.1, AS v1025.1.2.2]), (706, .box [AS [], AS [], AS []]), (1, .row true 1 ((sub v1002 (1 : Int) (v1002.length : Int)).map V.str)), (0, .row true 3 (v50012.map eBlock))] false rfl (con_impl_compareBlocks e1029) c20_ok (by first | rfl | simp) rfl ?_
         refine qg (AB (decide ((0 : Int) ≤ v1029))) rfl rfl (qp (AB (decide ((0 : Int) ≤ v1029))) rfl ?_)
         refine r_nil ?_
         refine cF hF (fun hF => ?_) fun hF => ?_
         ·
          refine w_reg 1922 1986 rfl rfl ?_
          refine qp (AI 7) rfl ?_
          refine r_nil ?_
          refine thenQ_n ?_
          refine aw_ren (l' := [(8, AI v1005.1), (10, .sl 0 0 v50012.length), (11, AI v50011), (13, .ptr 1 0 0), (14, AI 7), (45, .sl 2 0 ((sub v1002 (1 : Int) (v1002.length : Int)).length)), (46, AI ((v1002.length : Int) - (1 : Int))), (47, AI v50011)]) (L := [(2, .row true 1 ((sub v1002 (1 : Int) (v1002.length : Int)).map V.str)), (1, .box [AS v1025.1.1, AS v1025.1.2.1, AS v1025.1.2.2]), (0, .row true 3 (v50012.map eBlock))]) [8, 10, 11, 13, 14, 45, 46, 47] [(1, 2), (706, 1), (0, 0)] 3 (by first | rfl | simp) (by first | rfl | simp) (by decide) (by decide) (by decide) ⟨_, rfl, hF⟩
         ·
          refine w_skip ?_
          refine thenQ_n ?_
          refine aw_ren (l' := [(8, AI v1005.1), (10, .sl 0 0 v50012.length), (11, AI v50011), (13, .ptr 1 0 0), (14, AI v1025.2), (45, .sl 2 0 ((sub v1002 (1 : Int) (v1002.length : Int)).length)), (46, AI ((v1002.length : Int) - (1 : Int))), (47, AI v50011)]) (L := [(2, .row true 1 ((sub v1002 (1 : Int) (v1002.length : Int)).map V.str)), (1, .box [AS v1025.1.1, AS v1025.1.2.1, AS v1025.1.2.2]), (0, .row true 3 (v50012.map eBlock))]) [8, 10, 11, 13, 14, 45, 46, 47] [(1, 2), (706, 1), (0, 0)] 3 (by first | rfl | simp) (by first | rfl | simp) (by decide) (by decide) (by decide) ⟨_, rfl, hF⟩
        ·
         refine qn rfl (qn rfl (qn rfl (qn rfl (qn rfl (qn rfl (qn rfl (qn rfl ?_)))))))
         refine qp (AB false) rfl ?_
         refine r_nil ?_
         refine w_false rfl ?_
         refine w_skip ?_
         refine thenQ_n ?_
         refine aw_ren (l' := [(8, AI v1005.1), (10, .sl 0 0 v50012.length), (11, AI v50011), (13, .ptr 1 0 0), (14, AI v1025.2), (45, .sl 2 0 ((sub v1002 (1 : Int) (v1002.length : Int)).length)), (46, AI ((v1002.length : Int) - (1 : Int))), (47, AI v50011)]) (L := [(2, .row true 1 ((sub v1002 (1 : Int) (v1002.length : Int)).map V.str)), (1, .box [AS v1025.1.1, AS v1025.1.2.1, AS v1025.1.2.2]), (0, .row true 3 (v50012.map eBlock))]) [8, 10, 11, 13, 14, 45, 46, 47] [(1, 2), (706, 1), (0, 0)] 3 (by first | rfl | simp) (by first | rfl | simp) (by decide) (by decide) (by decide) ⟨_, rfl, hF⟩
       ·
        refine qn rfl (qn rfl (qp (AB false) rfl (qp (AB false) rfl (qn rfl (qn rfl (qn rfl (qn rfl ?_)))))))
        refine qn rfl (qn rfl (qn rfl (qn rfl (qp (AB false) rfl ?_))))
        refine r_nil ?_
        refine w_false rfl ?_
        refine w_skip ?_
        refine thenQ_n ?_
        refine aw_ren (l' := [(8, AI v1005.1), (10, .sl 0 0 v50012.length), (11, AI v50011), (13, .ptr 1 0 0), (14, AI v1025.2), (45, .sl 2 0 ((sub v1002 (1 : Int) (v1002.length : Int)).length)), (46, AI ((v1002.length : Int) - (1 : Int))), (47, AI v50011)]) (L := [(2, .row true 1 ((sub v1002 (1 : Int) (v1002.length : Int)).map V.str)), (1, .box [AS v1025.1.1, AS v1025.1.2.1, AS v1025.1.2.2]), (0, .row true 3 (v50012.map eBlock))]) [8, 10, 11, 13, 14, 45, 46, 47] [(1, 2), (706, 1), (0, 0)] 3 (by first | rfl | simp) (by first | rfl | simp) (by decide) (by decide) (by decide) ⟨_, rfl, hF⟩
      ·
       rintro s' ⟨v50013, rfl, hF⟩
       unfold F_impl_LoadBlocks_j3 at hF
       refine w_seq ?_
       refine ws 3 131 ?_
       refine qp (AI v50013) rfl (qp (AB (decide (v50013 ≠ (0 : Int)))) rfl ?_)
       refine r_nil ?_
       refine cF hF (fun hF => ?_) fun hF => ?_
       ·
        refine ws 131 515 ?_
        refine qp (AI v50011) rfl (qp (AI (w64 (v50011 + 2))) rfl (qp (AI v50013) rfl ?_))
        refine qf (.sl 323 0 0) [(323, .row true 3 (([] : List TBlock).map eBlock)), (2, .row true 1 ((sub v1002 (1 : Int) (v1002.length : Int)).map V.str)), (1, .box [AS v1025.1.1, AS v1025.1.2.1, AS v1025.1.2.2]), (0, .row true 3 (v50012.map eBlock))] (by simp) ?_
        refine qp (AI (w64 (v50011 + 2))) rfl (qp (AI v50013) rfl ?_)
        refine r_nil ?_
        refine w_ret ?_
        refine thenQ_r ?_
        refine blockQ_r ?_
        refine thenQ_r ?_
        refine thenQ_r ?_
        refine blockQ_r ?_
        refine thenQ_r ?_
        cases hF
        exact eR
       ·
        refine w_skip ?_
        refine thenQ_n ?_
        refine w_reg 131 451 rfl rfl ?_
        refine qp (.sl 0 0 v50012.length) rfl (qp (.agg [AS v1025.1.1, AS v1025.1.2.1, AS v1025.1.2.2]) rfl ?_)
        refine qf (.sl 259 0 ([v1025.1].length)) [(259, .row true 3 ([v1025.1].map eBlock)), (2, .row true 1 ((sub v1002 (1 : Int) (v1002.length : Int)).map V.str)), (1, .box [AS v1025.1.1, AS v1025.1.2.1, AS v1025.1.2.2]), (0, .row true 3 (v50012.map eBlock))] (by simp [List.take_of_length_le]) ?_
        obtain ⟨g1030, hF⟩ := need_some hF
        refine qf (.sl 323 0 ((v50012 ++ [v1025.1]).length)) [(323, .row true 3 ((v50012 ++ [v1025.1]).map eBlock)), (0, .dead), (259, .dead), (259, .row true 3 ([v1025.1].map eBlock)), (2, .row true 1 ((sub v1002 (1 : Int) (v1002.length : Int)).map V.str)), (1, .box [AS v1025.1.1, AS v1025.1.2.1, AS v1025.1.2.2]), (0, .row true 3 (v50012.map eBlock))] (effT_app_l rfl (by simp) rfl rfl (by simp) rfl (by decide) g1030 rfl) ?_
        refine qp (.sl 323 0 ((v50012 ++ [v1025.1]).length)) rfl ?_
        refine r_nil ?_
        refine blockQ_n ?_
        refine thenQ_n ?_
        refine w_reg 451 579 rfl rfl ?_
        refine qp (AI (w64 (v50011 + 1))) rfl (qp (AI (w64 (v50011 + 1))) rfl ?_)
        refine r_nil ?_
        refine thenQ_n ?_
        refine ar (l' := [(8, AI v1005.1), (10, .sl 0 0 (v50012 ++ [v1025.1]).length), (45, .sl 1 0 ((sub v1002 (1 : Int) (v1002.length : Int)).length)), (46, AI ((v1002.length : Int) - (1 : Int))), (47, AI (w64 (v50011 + 1)))]) (L := [(1, .row true 1 ((sub v1002 (1 : Int) (v1002.length : Int)).map V.str)), (0, .row true 3 ((v50012 ++ [v1025.1]).map eBlock))]) [8, 10, 45, 46, 47] [(2, 1), (323, 0)] 2 ⟨_, by rfl, hF⟩
     ·
      refine w_exit ?_
      refine thenQ_e ?_
      refine thenQ_e ?_
      refine blockQ_e ?_
      refine thenQ_n ?_
      refine w_seq ?_
      refine ws 66 322 ?_
      refine qp (.sl 0 0 v50012.length) rfl (qp (AI (v50012.length : Int)) rfl (qp (AI v1005.1) rfl (qp (AB (decide ((v50012.length : Int) ≠ v1005.1))) rfl ?_)))
      refine r_nil ?_
      refine cF hF (fun hF => ?_) fun hF => ?_
      ·
       refine ws 322 514 ?_
       refine qf (.sl 322 0 0) [(322, .row true 3 (([] : List TBlock).map eBlock)), (1, .row true 1 ((sub v1002 (1 : Int) (v1002.length : Int)).map V.str)), (0, .row true 3 (v50012.map eBlock))] (by simp) ?_
       refine qp (AI 0) rfl (qp (AI 11) rfl ?_)
       refine r_nil ?_
       refine w_ret ?_
       refine thenQ_r ?_
       cases hF
       exact eR
      ·
       refine w_skip ?_
       refine thenQ_n ?_
       refine ws 322 578 ?_
       refine qp (.sl 0 0 v50012.length) rfl (qp (.sl 0 0 v50012.length) rfl (qp (AI 0) rfl (qp (AI 0) rfl ?_)))
       refine r_nil ?_
       refine w_ret ?_
       cases hF
       exact eR

def c21 : MC := (.seq (.reg [rg 2 (.f (.box (.t 0))), rg 3 (.f (.box (.t 1))), rg 4 (.p true (.mv (.c (.bool false))))]) (.seq (.seq (.reg [rg 5 (.p true (.fad (.t 2) 0)), rg 6 (.p true (.ld (.t 5) 1 false)), rg 7 (.p true (.fad (.t 3) 0)), rg 8 (.p true (.ld (.t 7) 1 false)), rg 9 (.p true (.bin .neq (.t 6) (.t 8)))]) (.cond (.t 9) (.seq (.reg [rg 4 (.p true (.mv (.c (.bool false))))]) .ret) .skip)) (.seq (.seq (.reg [rg 10 (.p true (.fad (.t 2) 1)), rg 11 (.p true (.ld (.t 10) 1 false)), rg 12 (.p true (.fad (.t 3) 1)), rg 13 (.p true (.ld (.t 12) 1 false)), rg 14 (.p true (.bin .neq (.t 11) (.t 13)))]) (.cond (.t 14) (.seq (.reg [rg 4 (.p true (.mv (.c (.bool false))))]) .ret) .skip)) (.seq (.seq (.reg [rg 15 (.p true (.fad (.t 2) 2)), rg 16 (.p true (.ld (.t 15) 1 false)), rg 17 (.p true (.fad (.t 3) 2)), rg 18 (.p true (.ld (.t 17) 1 false)), rg 19 (.p true (.bin .neq (.t 16) (.t 18)))]) (.cond (.t 19) (.seq (.reg [rg 4 (.p true (.mv (.c (.bool false))))]) .ret) .skip)) (.seq (.reg [rg 4 (.p true (.mv (.c (.bool true))))]) .ret)))))
theorem c21_is : compFn Tryz.prog 21 = some (c21, [(.tmp 4)]) := by kernel_rfl
theorem c21_ok : okFn Tryz.prog 21 = true := by kernel_rfl

noncomputable def F_laws_eqBlock (v0 : TBlock) (v1 : TBlock) : Option (Bool) :=
 (bif (decide (v0.1 ≠ v1.1)) then some false
 else (bif (decide (v0.2.1 ≠ v1.2.1)) then some false
 else (bif (decide (v0.2.2 ≠ v1.2.2)) then some false
 else some true)))
@[simp] def res_laws_eqBlock (r : Bool) : RV := .one (.one (.val (.bool r)))
theorem con_laws_eqBlock {v0 : TBlock} {v1 : TBlock} {r : Bool} (hF : F_laws_eqBlock v0 v1 = some r) : Con Tryz.prog 21 [eBlock v0, eBlock v1] (res_laws_eqBlock r) := by
 unfold F_laws_eqBlock at hF
 refine con_of c21_is fun N => ?_
 refine ws 0 192 ?_
 refine qf (.ptr 0 0 0) [(0, .box [AS v0.1, AS v0.2.1, AS v0.2.2])] (by simp) ?_
 refine qf (.ptr 64 0 0) [(64, .box [AS v1.1, AS v1.2.1, AS v1.2.2]), (0, .box [AS v0.1, AS v0.2.1, AS v0.2.2])] (by simp) ?_
 refine qp (AB false) rfl ?_
 refine r_nil ?_
 refine w_seq ?_
 refine ws 192 512 ?_
 refine qp (.ptr 0 0 0) rfl (qp (AS v0.1) rfl (qp (.ptr 64 0 0) rfl (qp (AS v1.1) rfl (qp (AB (decide (v0.1 ≠ v1.1))) rfl ?_))))
 refine r_nil ?_
 refine cF hF (fun hF => ?_) fun hF => ?_
 ·
  refine ws 512 576 ?_
  refine qp (AB false) rfl ?_
  refine r_nil ?_
  refine w_ret ?_
  refine thenQ_r ?_
  cases hF
  exact eR
 ·
  refine w_skip ?_
  refine thenQ_n ?_
  refine w_seq ?_
  refine ws 512 832 ?_
  refine qp (.ptr 0 0 1) rfl (qp (AS v0.2.1) rfl (qp (.ptr 64 0 1) rfl (qp (AS v1.2.1) rfl (qp (AB (decide (v0.2.1 ≠ v1.2.1))) rfl ?_))))
  refine r_nil ?_
  refine cF hF (fun hF => ?_) fun hF => ?_
  ·
   refine ws 832 896 ?_
   refine qp (AB false) rfl ?_
   refine r_nil ?_
   refine w_ret ?_
   refine thenQ_r ?_
   cases hF
   exact eR
  ·
   refine w_skip ?_
   refine thenQ_n ?_
   refine w_seq ?_
   refine ws 832 1152 ?_
   refine qp (.ptr 0 0 2) rfl (qp (AS v0.2.2) rfl (qp (.ptr 64 0 2) rfl (qp (AS v1.2.2) rfl (qp (AB (decide (v0.2.2 ≠ v1.2.2))) rfl ?_))))
   refine r_nil ?_
   refine cF hF (fun hF => ?_) fun hF => ?_
   ·
    refine ws 1152 1216 ?_
    refine qp (AB false) rfl ?_
    refine r_nil ?_
    refine w_ret ?_
    refine thenQ_r ?_
    cases hF
    exact eR
   ·
    refine w_skip ?_
    refine thenQ_n ?_
    refine ws 1152 1216 ?_
    refine qp (AB true) rfl ?_
    refine r_nil ?_
    refine w_ret ?_
    cases hF
    exact eR

def c6 : MC := (.seq (.reg [rg 4 (.p true (.mv (.c (.bool false))))]) (.seq (.seq (.reg [mvt 6 0, rg 7 (.p true (.len (.t 6))), mvt 8 1, rg 9 (.p true (.len (.t 8))), rg 10 (.p true (.bin .neq (.t 7) (.t 9)))]) (.cond (.t 10) (.seq (.reg [rg 4 (.p true (.mv (.c (.bool false))))]) .ret) .skip)) (.seq (.seq (.reg [rg 5 (.p true (.mv (.c (.int .i64 0))))]) (.block 0 (.loop (.seq (.seq (.reg [mvt 11 5, mvt 12 0, rg 13 (.p true (.len (.t 12))), rg 14 (.p true (.bin .lss (.t 11) (.t 13)))]) (.cond (.t 14) .skip (.exit 0))) (.seq (.block 1 (.seq (.reg [rg 17 (.p false (.mv (.t 0))), rg 18 (.p false (.mv (.t 5))), rg 19 (.p false (.iad (.t 17) (.t 18) 3)), rg 20 (.p false (.ld (.t 19) 3 true)), rg 21 (.p false (.mv (.t 1))), rg 22 (.p false (.mv (.t 5))), rg 23 (.p false (.iad (.t 21) (.t 22) 3)), rg 24 (.p false (.ld (.t 23) 3 true)), rg 25 (.call false 21 [(.t 20), (.t 24)]), rg 26 (.p false (.not (.t 25)))]) (.cond (.t 26) (.seq (.reg [rg 4 (.p true (.mv (.c (.bool false))))]) .ret) .skip))) (.reg [mvt 15 5, rg 16 (.p true (.bin .add (.t 15) (.c (.int .i64 1)))), mvt 5 16])))))) (.seq (.reg [rg 4 (.p true (.mv (.c (.bool true))))]) .ret))))
theorem c6_is : compFn Tryz.prog 6 = some (c6, [(.tmp 4)]) := by kernel_rfl
theorem c6_ok : okFn Tryz.prog 6 = true := by kernel_rfl

noncomputable def F_laws_eqBlockS_l0 (v0 : List TBlock) (v1 : List TBlock) (k0 : Int → Option (Bool)) : Int → Option (Bool)
 | v50001 => (bif (decide (v50001 < (v0.length : Int))) then ((ix v0 v50001).bind fun v1000 => ((ix v1 v50001).bind fun v1001 => ((F_laws_eqBlock v1000 v1001).bind fun v1002 => (bif (!v1002) then some false
 else k0 (w64 (v50001 + 1))))))
 else some true)
noncomputable def F_laws_eqBlockS (v0 : List TBlock) (v1 : List TBlock) : Option (Bool) :=
 (bif (decide ((v0.length : Int) ≠ (v1.length : Int))) then some false
 else loop (F_laws_eqBlockS_l0 v0 v1) 0)
@[simp] def res_laws_eqBlockS (r : Bool) : RV := .one (.one (.val (.bool r)))
theorem con_laws_eqBlockS {v0 : List TBlock} {v1 : List TBlock} {r : Bool} (hF : F_laws_eqBlockS v0 v1 = some r) : Con Tryz.prog 6 [.sl 3 (v0.map eBlock), .sl 3 (v1.map eBlock)] (res_laws_eqBlockS r) := by
 unfold F_laws_eqBlockS at hF
 refine con_of c6_is fun N => ?_
 refine ws 0 64 ?_
 refine qp (AB false) rfl ?_
 refine r_nil ?_
 refine w_seq ?_
 refine ws 64 384 ?_
 refine qp (AL 3 (v0.map eBlock)) rfl (qp (AI (v0.length : Int)) (ev_len_n rfl) (qp (AL 3 (v1.map eBlock)) rfl (qp (AI (v1.length : Int)) (ev_len_n rfl) (qp (AB (decide ((v0.length : Int) ≠ (v1.length : Int)))) rfl ?_))))
 refine r_nil ?_
 refine cF hF (fun hF => ?_) fun hF => ?_
 ·
  refine ws 384 448 ?_
  refine qp (AB false) rfl ?_
  refine r_nil ?_
  refine w_ret ?_
  refine thenQ_r ?_
  cases hF
  exact eR
 ·
  refine w_skip ?_
  refine thenQ_n ?_
  refine w_seq ?_
  refine ws 384 448 ?_
  refine qp (AI 0) rfl ?_
  refine r_nil ?_
  refine w_block ?_
  refine wr (l' := [(0, AL 3 (v0.map eBlock)), (1, AL 3 (v1.map eBlock)), (5, AI 0)]) (L := []) [0, 1, 5] [] 1 ?_
  refine w_loopF (F_laws_eqBlockS_l0 v0 v1) (fun s : Int => mkS [(0, AL 3 (v0.map eBlock)), (1, AL 3 (v1.map eBlock)), (5, AI s)] (fo []) 1) hF ?_
  rintro k0 v50001 hF
  rw [F_laws_eqBlockS_l0] at hF
  try dsimp only
  refine w_seq ?_
  refine ws 1 257 ?_
  refine qp (AI v50001) rfl (qp (AL 3 (v0.map eBlock)) rfl (qp (AI (v0.length : Int)) (ev_len_n rfl) (qp (AB (decide (v50001 < (v0.length : Int)))) rfl ?_)))
  refine r_nil ?_
  refine cF hF (fun hF => ?_) fun hF => ?_
  ·
   refine w_skip ?_
   refine thenQ_n ?_
   refine w_seq ?_
   refine w_block ?_
   refine ws 257 897 ?_
   refine qp (AL 3 (v0.map eBlock)) rfl (qp (AI v50001) rfl ?_)
   obtain ⟨v1000, e1000, hF⟩ := bind_get hF
   refine qp (.val none (.ptr [.str v1000.1, .str v1000.2.1, .str v1000.2.2])) (ev_iad_n rfl rfl e1000 rfl) (qp (.val none (eBlock v1000)) rfl (qp (AL 3 (v1.map eBlock)) rfl (qp (AI v50001) rfl ?_)))
   obtain ⟨v1001, e1001, hF⟩ := bind_get hF
   refine qp (.val none (.ptr [.str v1001.1, .str v1001.2.1, .str v1001.2.2])) (ev_iad_n rfl rfl e1001 rfl) (qp (.val none (eBlock v1001)) rfl ?_)
   obtain ⟨v1002, e1002, hF⟩ := bind_get hF
   refine qc (AB v1002) [] false (con_laws_eqBlock e1002) c21_ok (by first | rfl | simp) rfl ?_
   refine qp (AB (!v1002)) rfl ?_
   refine r_nil ?_
   refine cF hF (fun hF => ?_) fun hF => ?_
   ·
    refine ws 897 961 ?_
    refine qp (AB false) rfl ?_
    refine r_nil ?_
    refine w_ret ?_
    refine blockQ_r ?_
    refine thenQ_r ?_
    refine thenQ_r ?_
    refine blockQ_r ?_
    refine thenQ_r ?_
    cases hF
    exact eR
   ·
    refine w_skip ?_
    refine blockQ_n ?_
    refine thenQ_n ?_
    refine w_reg 897 1089 rfl rfl ?_
    refine qp (AI v50001) rfl (qp (AI (w64 (v50001 + 1))) rfl (qp (AI (w64 (v50001 + 1))) rfl ?_))
    refine r_nil ?_
    refine thenQ_n ?_
    refine ar (l' := [(0, AL 3 (v0.map eBlock)), (1, AL 3 (v1.map eBlock)), (5, AI (w64 (v50001 + 1)))]) (L := []) [0, 1, 5] [] 1 ⟨_, by rfl, hF⟩
  ·
   refine w_exit ?_
   refine thenQ_e ?_
   refine thenQ_e ?_
   refine blockQ_e ?_
   refine thenQ_n ?_
   refine ws 257 321 ?_
   refine qp (AB true) rfl ?_
   refine r_nil ?_
   refine w_ret ?_
   cases hF
   exact eR

def c22 : MC := (.seq (.reg [rg 2 (.p true (.mv (.c (.str []))))]) (.seq (.seq (.reg [mvt 4 0, rg 5 (.p true (.bin .leq (.t 4) (.c (.int .i64 0))))]) (.cond (.t 5) (.seq (.reg [rg 2 (.p true (.mv (.c (.str [109, 48]))))]) .ret) .skip)) (.seq (.reg [rg 3 (.p true (.mv (.c (.str []))))]) (.seq (.block 0 (.loop (.seq (.seq (.reg [mvt 6 0, rg 7 (.p true (.bin .gtr (.t 6) (.c (.int .i64 0))))]) (.cond (.t 7) .skip (.exit 0))) (.block 1 (.seq (.reg [mvt 8 0, rg 9 (.p true (.bin .rem (.t 8) (.c (.int .i64 10)))), rg 10 (.p true (.bin .add (.c (.int .i64 48)) (.t 9))), rg 11 (.p true (.conv .u8 (.t 10))), rg 12 (.f (.bsl 1 [(.t 11)])), rg 13 (.p true (.bts (.t 12))), mvt 14 3, rg 15 (.p true (.bin .add (.t 13) (.t 14))), mvt 3 15]) (.reg [mvt 16 0, rg 17 (.p true (.bin .quo (.t 16) (.c (.int .i64 10)))), mvt 0 17])))))) (.seq (.reg [mvt 18 3, rg 19 (.p true (.bin .add (.c (.str [109])) (.t 18))), mvt 2 19]) .ret)))))
theorem c22_is : compFn Tryz.prog 22 = some (c22, [(.tmp 2)]) := by kernel_rfl
theorem c22_ok : okFn Tryz.prog 22 = true := by kernel_rfl

noncomputable def F_laws_markText_l0 (k0 : Int × (List UInt8) → Option (List UInt8)) : Int × (List UInt8) → Option (List UInt8)
 | (v50002, v50003) => (bif (decide ((0 : Int) < v50002)) then (need ((bytesI ([IntKind.wrap .u8 (w64 (48 + (Int.tmod v50002 10)))] : List Int)).length + v50003.length < 9223372036854775808) (k0 (w64 (Int.tdiv v50002 10), (bytesI ([IntKind.wrap .u8 (w64 (48 + (Int.tmod v50002 10)))] : List Int)) ++ v50003)))
 else (need ([109].length + v50003.length < 9223372036854775808) (some ([109] ++ v50003))))
noncomputable def F_laws_markText (v0 : Int) : Option (List UInt8) :=
 (bif (decide (v0 ≤ (0 : Int))) then some [109, 48]
 else loop (F_laws_markText_l0) (v0, []))
@[simp] def res_laws_markText (r : List UInt8) : RV := .one (.one (.val (.str r)))
theorem con_laws_markText {v0 : Int} {r : List UInt8} (hF : F_laws_markText v0 = some r) : Con Tryz.prog 22 [.int .i64 v0] (res_laws_markText r) := by
 unfold F_laws_markText at hF
 refine con_of c22_is fun N => ?_
 refine ws 0 64 ?_
 refine qp (AS []) rfl ?_
 refine r_nil ?_
 refine w_seq ?_
 refine ws 64 192 ?_
 refine qp (AI v0) rfl (qp (AB (decide (v0 ≤ (0 : Int)))) rfl ?_)
 refine r_nil ?_
 refine cF hF (fun hF => ?_) fun hF => ?_
 ·
  refine ws 192 256 ?_
  refine qp (AS [109, 48]) rfl ?_
  refine r_nil ?_
  refine w_ret ?_
  refine thenQ_r ?_
  cases hF
  exact eR
 ·
  refine w_skip ?_
  refine thenQ_n ?_
  refine ws 192 256 ?_
  refine qp (AS []) rfl ?_
  refine r_nil ?_
  refine w_seq ?_
  refine w_block ?_
  refine wr (l' := [(0, AI v0), (3, AS ([] : List UInt8))]) (L := []) [0, 3] [] 1 ?_
  refine w_loopF (F_laws_markText_l0) (fun s : Int × (List UInt8) => mkS [(0, AI s.1), (3, AS s.2)] (fo []) 1) hF ?_
  rintro k0 ⟨v50002, v50003⟩ hF
  rw [F_laws_markText_l0] at hF
  try dsimp only
  refine w_seq ?_
  refine ws 1 129 ?_
  refine qp (AI v50002) rfl (qp (AB (decide ((0 : Int) < v50002))) rfl ?_)
  refine r_nil ?_
  refine cF hF (fun hF => ?_) fun hF => ?_
  ·
   refine w_skip ?_
   refine thenQ_n ?_
   refine w_block ?_
   refine ws 129 705 ?_
   refine qp (AI v50002) rfl (qp (AI (Int.tmod v50002 10)) (ev_rem rfl rfl (by decide)) (qp (AI (w64 (48 + (Int.tmod v50002 10)))) rfl (qp (.val none (.int .u8 (IntKind.wrap .u8 (w64 (48 + (Int.tmod v50002 10)))))) rfl ?_)))
   refine qf (.sl 385 0 (([IntKind.wrap .u8 (w64 (48 + (Int.tmod v50002 10)))] : List Int).length)) [(385, .row true 1 (([IntKind.wrap .u8 (w64 (48 + (Int.tmod v50002 10)))] : List Int).map (V.int .u8)))] (by simp [List.take_of_length_le]) ?_
   refine qp (AS (bytesI ([IntKind.wrap .u8 (w64 (48 + (Int.tmod v50002 10)))] : List Int))) (ev_bts_r rfl (by simp) rfl) (qp (AS v50003) rfl ?_)
   obtain ⟨g1000, hF⟩ := need_some hF
   refine qp (AS ((bytesI ([IntKind.wrap .u8 (w64 (48 + (Int.tmod v50002 10)))] : List Int)) ++ v50003)) (ev_add_s rfl rfl g1000) (qp (AS ((bytesI ([IntKind.wrap .u8 (w64 (48 + (Int.tmod v50002 10)))] : List Int)) ++ v50003)) rfl ?_)
   refine r_nil ?_
   refine w_reg 705 897 rfl rfl ?_
   refine qp (AI v50002) rfl (qp (AI (w64 (Int.tdiv v50002 10))) (ev_quo rfl rfl (by decide)) (qp (AI (w64 (Int.tdiv v50002 10))) rfl ?_))
   refine r_nil ?_
   refine blockQ_n ?_
   refine thenQ_n ?_
   refine ar (l' := [(0, AI (w64 (Int.tdiv v50002 10))), (3, AS ((bytesI ([IntKind.wrap .u8 (w64 (48 + (Int.tmod v50002 10)))] : List Int)) ++ v50003))]) (L := []) [0, 3] [] 1 ⟨_, by rfl, hF⟩
  ·
   refine w_exit ?_
   refine thenQ_e ?_
   refine thenQ_e ?_
   refine blockQ_e ?_
   refine thenQ_n ?_
   refine ws 129 321 ?_
   refine qp (AS v50003) rfl ?_
   obtain ⟨g1001, hF⟩ := need_some hF
   refine qp (AS ([109] ++ v50003)) (ev_add_s rfl rfl g1001) (qp (AS ([109] ++ v50003)) rfl ?_)
   refine r_nil ?_
   refine w_ret ?_
   cases hF
   exact eR

def c7 : MC := (.seq (.reg [rg 4 (.p true (.mv (.c (.int .i64 0))))]) (.seq (.seq (.reg [rg 5 (.p true (.mv (.c (.int .i64 0))))]) (.block 0 (.loop (.seq (.seq (.reg [mvt 6 5, mvt 7 0, rg 8 (.p true (.len (.t 7))), rg 9 (.p true (.bin .lss (.t 6) (.t 8)))]) (.cond (.t 9) .skip (.exit 0))) (.seq (.block 1 (.seq (.reg [mvt 12 0, mvt 13 5, mvt 14 1, rg 15 (.call true 22 [(.t 14)]), rg 16 (.p true (.iad (.t 12) (.t 13) 3)), rg 17 (.p true (.fad (.t 16) 0)), ⟨none, none, (.f (.st (.t 17) (.t 15) 1))⟩]) (.seq (.reg [mvt 18 1, rg 19 (.p true (.bin .add (.t 18) (.c (.int .i64 1)))), mvt 1 19]) (.seq (.reg [mvt 20 0, mvt 21 5, mvt 22 1, rg 23 (.call true 22 [(.t 22)]), rg 24 (.p true (.iad (.t 20) (.t 21) 3)), rg 25 (.p true (.fad (.t 24) 1)), ⟨none, none, (.f (.st (.t 25) (.t 23) 1))⟩]) (.seq (.reg [mvt 26 1, rg 27 (.p true (.bin .add (.t 26) (.c (.int .i64 1)))), mvt 1 27]) (.seq (.reg [mvt 28 0, mvt 29 5, mvt 30 1, rg 31 (.call true 22 [(.t 30)]), rg 32 (.p true (.iad (.t 28) (.t 29) 3)), rg 33 (.p true (.fad (.t 32) 2)), ⟨none, none, (.f (.st (.t 33) (.t 31) 1))⟩]) (.reg [mvt 34 1, rg 35 (.p true (.bin .add (.t 34) (.c (.int .i64 1)))), mvt 1 35]))))))) (.reg [mvt 10 5, rg 11 (.p true (.bin .add (.t 10) (.c (.int .i64 1)))), mvt 5 11])))))) (.seq (.reg [mvt 36 1, mvt 4 36]) .ret)))
theorem c7_is : compFnM Tryz.prog 7 = some (c7, [(.tmp 4)]) := by kernel_rfl
theorem c7_ok : okFn Tryz.prog 7 = true := by kernel_rfl

noncomputable def F_laws_markBlockS_l0 (k0 : Int × Int × (List TBlock) → Option ((List TBlock) × Int)) : Int × Int × (List TBlock) → Option ((List TBlock) × Int)
 | (v50003, v50004, v50005) => (bif (decide (v50004 < (v50005.length : Int))) then ((F_laws_markText v50003).bind fun v1000 => ((ix v50005 v50004).bind fun v1001 => ((F_laws_markText (w64 (v50003 + 1))).bind fun v1002 => ((ix (List.set v50005 v50004.toNat (v1000, v1001.2.1, v1001.2.2)) v50004).bind fun v1003 => ((F_laws_markText (w64 ((w64 (v50003 + 1)) + 1))).bind fun v1004 => ((ix (List.set (List.set v50005 v50004.toNat (v1000, v1001.2.1, v1001.2.2)) v50004.toNat (v1003.1, v1002, v1003.2.2)) v50004).bind fun v1005 => k0 (w64 ((w64 ((w64 (v50003 + 1)) + 1)) + 1), w64 (v50004 + 1), List.set (List.set (List.set v50005 v50004.toNat (v1000, v1001.2.1, v1001.2.2)) v50004.toNat (v1003.1, v1002, v1003.2.2)) v50004.toNat (v1005.1, v1005.2.1, v1004))))))))
 else some (v50005, v50003))
noncomputable def F_laws_markBlockS (v0 : List TBlock) (v1 : Int) : Option ((List TBlock) × Int) :=
 loop (F_laws_markBlockS_l0) (v1, 0, v0)
theorem con_laws_markBlockS {v0 : List TBlock} {v1 : Int} {r : (List TBlock) × Int} (hF : F_laws_markBlockS v0 v1 = some r) : ConM Tryz.prog 7 (.one (.row true 3 (v0.map eBlock))) (.one (.row true 3 (r.1.map eBlock))) [.int .i64 v1] (.int .i64 r.2) := by
 unfold F_laws_markBlockS at hF
 refine conM_of (av := .sl 0 0 v0.length) (L := [(0, .row true 3 (v0.map eBlock))]) c7_is rfl rfl rfl (by simp) fun N => ?_
 refine ws 64 128 ?_
 refine qp (AI 0) rfl ?_
 refine r_nil ?_
 refine w_seq ?_
 refine ws 128 192 ?_
 refine qp (AI 0) rfl ?_
 refine r_nil ?_
 refine w_block ?_
 refine wr (l' := [(0, .sl 0 0 v0.length), (1, AI v1), (5, AI 0)]) (L := [(0, .row true 3 (v0.map eBlock))]) [0, 1, 5] [(0, 0)] 1 ?_
 refine w_loopF (F_laws_markBlockS_l0) (fun s : Int × Int × (List TBlock) => mkS [(0, .sl 0 0 s.2.2.length), (1, AI s.1), (5, AI s.2.1)] (fo [(0, .row true 3 (s.2.2.map eBlock))]) 1) hF ?_
 rintro k0 ⟨v50003, v50004, v50005⟩ hF
 rw [F_laws_markBlockS_l0] at hF
 try dsimp only
 refine w_seq ?_
 refine ws 1 257 ?_
 refine qp (AI v50004) rfl (qp (.sl 0 0 v50005.length) rfl (qp (AI (v50005.length : Int)) rfl (qp (AB (decide (v50004 < (v50005.length : Int)))) rfl ?_)))
 refine r_nil ?_
 refine cF hF (fun hF => ?_) fun hF => ?_
 ·
  refine w_skip ?_
  refine thenQ_n ?_
  refine w_seq ?_
  refine w_block ?_
  refine ws 257 705 ?_
  refine qp (.sl 0 0 v50005.length) rfl (qp (AI v50004) rfl (qp (AI v50003) rfl ?_))
  obtain ⟨v1000, e1000, hF⟩ := bind_get hF
  refine qc (AS v1000) [(0, .row true 3 (v50005.map eBlock))] false (con_laws_markText e1000) c22_ok (by first | rfl | simp) rfl ?_
  obtain ⟨v1001, e1001, hF⟩ := bind_get hF
  refine qp (.ptr 0 v50004.toNat 0) (ev_iad_r rfl (by simp) rfl rfl e1001) (qp (.ptr 0 v50004.toNat 0) rfl ?_)
  refine qf0 (.undef) [(0, .row true 3 ((List.set v50005 v50004.toNat (v1000, v1001.2.1, v1001.2.2)).map eBlock)), (0, .row true 3 (v50005.map eBlock))] (effT_st rfl rfl (ix_some e1001).2 rfl rfl (by rfl) (by first | rfl | simp [patch, reb, List.take_of_length_le]) (by rfl) rfl) ?_
  refine r_nil ?_
  refine ws 705 897 ?_
  refine qp (AI v50003) rfl (qp (AI (w64 (v50003 + 1))) rfl (qp (AI (w64 (v50003 + 1))) rfl ?_))
  refine r_nil ?_
  refine ws 897 1345 ?_
  refine qp (.sl 0 0 v50005.length) rfl (qp (AI v50004) rfl (qp (AI (w64 (v50003 + 1))) rfl ?_))
  obtain ⟨v1002, e1002, hF⟩ := bind_get hF
  refine qc (AS v1002) [(0, .row true 3 ((List.set v50005 v50004.toNat (v1000, v1001.2.1, v1001.2.2)).map eBlock)), (0, .row true 3 (v50005.map eBlock))] false (con_laws_markText e1002) c22_ok (by first | rfl | simp) rfl ?_
  obtain ⟨v1003, e1003, hF⟩ := bind_get hF
  refine qp (.ptr 0 v50004.toNat 0) (ev_iad_r rfl (by simp) rfl rfl e1003) (qp (.ptr 0 v50004.toNat 1) rfl ?_)
  refine qf0 (.undef) [(0, .row true 3 ((List.set (List.set v50005 v50004.toNat (v1000, v1001.2.1, v1001.2.2)) v50004.toNat (v1003.1, v1002, v1003.2.2)).map eBlock)), (0, .row true 3 ((List.set v50005 v50004.toNat (v1000, v1001.2.1, v1001.2.2)).map eBlock)), (0, .row true 3 (v50005.map eBlock))] (effT_st rfl rfl (ix_some e1003).2 rfl rfl (by rfl) (by first | rfl | simp [patch, reb, List.take_of_length_le]) (by rfl) rfl) ?_
  refine r_nil ?_
  refine ws 1345 1537 ?_
  refine qp (AI (w64 (v50003 + 1))) rfl (qp (AI (w64 ((w64 (v50003 + 1)) + 1))) rfl (qp (AI (w64 ((w64 (v50003 + 1)) + 1))) rfl ?_))
  refine r_nil ?_
  refine ws 1537 1985 ?_
  refine qp (.sl 0 0 v50005.length) rfl (qp (AI v50004) rfl (qp (AI (w64 ((w64 (v50003 + 1)) + 1))) rfl ?_))
  obtain ⟨v1004, e1004, hF⟩ := bind_get hF
  refine qc (AS v1004) [(0, .row true 3 ((List.set (List.set v50005 v50004.toNat (v1000, v1001.2.1, v1001.2.2)) v50004.toNat (v1003.1, v1002, v1003.2.2)).map eBlock)), (0, .row true 3 ((List.set v50005 v50004.toNat (v1000, v1001.2.1, v1001.2.2)).map eBlock)), (0, .row true 3 (v50005.map eBlock))] false (con_laws_markText e1004) c22_ok (by first | rfl | simp) rfl ?_
  obtain ⟨v1005, e1005, hF⟩ := bind_get hF
  refine qp (.ptr 0 v50004.toNat 0) (ev_iad_r rfl (by simp) rfl rfl e1005) (qp (.ptr 0 v50004.toNat 2) rfl ?_)
  refine qf0 (.undef) [(0, .row true 3 ((List.set (List.set (List.set v50005 v50004.toNat (v1000, v1001.2.1, v1001.2.2)) v50004.toNat (v1003.1, v1002, v1003.2.2)) v50004.toNat (v1005.1, v1005.2.1, v1004)).map eBlock)), (0, .row true 3 ((List.set (List.set v50005 v50004.toNat (v1000, v1001.2.1, v1001.2.2)) v50004.toNat (v1003.1, v1002, v1003.2.2)).map eBlock)), (0, .row true 3 ((List.set v50005 v50004.toNat (v1000, v1001.2.1, v1001.2.2)).map eBlock)), (0, .row true 3 (v50005.map eBlock))] (effT_st rfl rfl (ix_some e1005).2 rfl rfl (by rfl) (by first | rfl | simp [patch, reb, List.take_of_length_le]) (by rfl) rfl) ?_
  refine r_nil ?_
  refine w_reg 1985 2177 rfl rfl ?_
  refine qp (AI (w64 ((w64 (v50003 + 1)) + 1))) rfl (qp (AI (w64 ((w64 ((w64 (v50003 + 1)) + 1)) + 1))) rfl (qp (AI (w64 ((w64 ((w64 (v50003 + 1)) + 1)) + 1))) rfl ?_))
  refine r_nil ?_
  refine blockQ_n ?_
  refine thenQ_n ?_
  refine w_reg 2177 2369 rfl rfl ?_
  refine qp (AI v50004) rfl (qp (AI (w64 (v50004 + 1))) rfl (qp (AI (w64 (v50004 + 1))) rfl ?_))
  refine r_nil ?_
  refine thenQ_n ?_
  refine ar (l' := [(0, .sl 0 0 (List.set (List.set (List.set v50005 v50004.toNat (v1000, v1001.2.1, v1001.2.2)) v50004.toNat (v1003.1, v1002, v1003.2.2)) v50004.toNat (v1005.1, v1005.2.1, v1004)).length), (1, AI (w64 ((w64 ((w64 (v50003 + 1)) + 1)) + 1))), (5, AI (w64 (v50004 + 1)))]) (L := [(0, .row true 3 ((List.set (List.set (List.set v50005 v50004.toNat (v1000, v1001.2.1, v1001.2.2)) v50004.toNat (v1003.1, v1002, v1003.2.2)) v50004.toNat (v1005.1, v1005.2.1, v1004)).map eBlock))]) [0, 1, 5] [(0, 0)] 1 ⟨_, by rfl, hF⟩
 ·
  refine w_exit ?_
  refine thenQ_e ?_
  refine thenQ_e ?_
  refine blockQ_e ?_
  refine thenQ_n ?_
  refine ws 257 385 ?_
  refine qp (AI v50003) rfl (qp (AI v50003) rfl ?_)
  refine r_nil ?_
  refine w_ret ?_
  cases hF
  exact endM_r rfl rfl (by first | rfl | (simp [List.take_of_length_le]; first | exact ⟨rfl, rfl⟩ | rfl)) (by simp)

def c8 : MC := (.seq (.reg [rg 4 (.p true (.mv (.c (.int .i64 0))))]) (.seq (.seq (.reg [rg 5 (.p true (.mv (.c (.int .i64 0))))]) (.block 0 (.loop (.seq (.seq (.reg [mvt 6 5, mvt 7 0, rg 8 (.p true (.len (.t 7))), rg 9 (.p true (.bin .lss (.t 6) (.t 8)))]) (.cond (.t 9) .skip (.exit 0))) (.seq (.block 1 (.seq (.seq (.reg [rg 12 (.p false (.mv (.t 0))), rg 13 (.p false (.mv (.t 5))), rg 14 (.p false (.iad (.t 12) (.t 13) 3)), rg 15 (.p false (.fad (.t 14) 0)), rg 16 (.p false (.ld (.t 15) 1 false)), rg 17 (.p false (.mv (.t 1))), rg 18 (.call false 22 [(.t 17)]), rg 19 (.p false (.bin .neq (.t 16) (.t 18)))]) (.cond (.t 19) (.seq (.reg [rg 4 (.p true (.mv (.c (.int .i64 (-1)))))]) .ret) .skip)) (.seq (.reg [mvt 20 1, rg 21 (.p true (.bin .add (.t 20) (.c (.int .i64 1)))), mvt 1 21]) (.seq (.seq (.reg [rg 22 (.p false (.mv (.t 0))), rg 23 (.p false (.mv (.t 5))), rg 24 (.p false (.iad (.t 22) (.t 23) 3)), rg 25 (.p false (.fad (.t 24) 1)), rg 26 (.p false (.ld (.t 25) 1 false)), rg 27 (.p false (.mv (.t 1))), rg 28 (.call false 22 [(.t 27)]), rg 29 (.p false (.bin .neq (.t 26) (.t 28)))]) (.cond (.t 29) (.seq (.reg [rg 4 (.p true (.mv (.c (.int .i64 (-1)))))]) .ret) .skip)) (.seq (.reg [mvt 30 1, rg 31 (.p true (.bin .add (.t 30) (.c (.int .i64 1)))), mvt 1 31]) (.seq (.seq (.reg [rg 32 (.p false (.mv (.t 0))), rg 33 (.p false (.mv (.t 5))), rg 34 (.p false (.iad (.t 32) (.t 33) 3)), rg 35 (.p false (.fad (.t 34) 2)), rg 36 (.p false (.ld (.t 35) 1 false)), rg 37 (.p false (.mv (.t 1))), rg 38 (.call false 22 [(.t 37)]), rg 39 (.p false (.bin .neq (.t 36) (.t 38)))]) (.cond (.t 39) (.seq (.reg [rg 4 (.p true (.mv (.c (.int .i64 (-1)))))]) .ret) .skip)) (.reg [mvt 40 1, rg 41 (.p true (.bin .add (.t 40) (.c (.int .i64 1)))), mvt 1 41]))))))) (.reg [mvt 10 5, rg 11 (.p true (.bin .add (.t 10) (.c (.int .i64 1)))), mvt 5 11])))))) (.seq (.reg [mvt 42 1, mvt 4 42]) .ret)))
theorem c8_is : compFn Tryz.prog 8 = some (c8, [(.tmp 4)]) := by kernel_rfl
theorem c8_ok : okFn Tryz.prog 8 = true := by kernel_rfl

noncomputable def F_laws_heldBlockS_l0 (v0 : List TBlock) (k0 : Int × Int → Option (Int)) : Int × Int → Option (Int)
 | (v50002, v50003) => (bif (decide (v50003 < (v0.length : Int))) then ((ix v0 v50003).bind fun v1000 => ((F_laws_markText v50002).bind fun v1001 => (bif (decide (v1000.1 ≠ v1001)) then some (-1)
 else ((ix v0 v50003).bind fun v1002 => ((F_laws_markText (w64 (v50002 + 1))).bind fun v1003 => (bif (decide (v1002.2.1 ≠ v1003)) then some (-1)
 else ((ix v0 v50003).bind fun v1004 => ((F_laws_markText (w64 ((w64 (v50002 + 1)) + 1))).bind fun v1005 => (bif (decide (v1004.2.2 ≠ v1005)) then some (-1)
 else k0 (w64 ((w64 ((w64 (v50002 + 1)) + 1)) + 1), w64 (v50003 + 1)))))))))))
 else some v50002)
noncomputable def F_laws_heldBlockS (v0 : List TBlock) (v1 : Int) : Option (Int) :=
 loop (F_laws_heldBlockS_l0 v0) (v1, 0)
@[simp] def res_laws_heldBlockS (r : Int) : RV := .one (.one (.val (.int .i64 r)))
theorem con_laws_heldBlockS {v0 : List TBlock} {v1 : Int} {r : Int} (hF : F_laws_heldBlockS v0 v1 = some r) : Con Tryz.prog 8 [.sl 3 (v0.map eBlock), .int .i64 v1] (res_laws_heldBlockS r) := by
 unfold F_laws_heldBlockS at hF
 refine con_of c8_is fun N => ?_
 refine ws 0 64 ?_
 refine qp (AI 0) rfl ?_
 refine r_nil ?_
 refine w_seq ?_
 refine ws 64 128 ?_
 refine qp (AI 0) rfl ?_
 refine r_nil ?_
 refine w_block ?_
 refine wr (l' := [(0, AL 3 (v0.map eBlock)), (1, AI v1), (5, AI 0)]) (L := []) [0, 1, 5] [] 1 ?_
 refine w_loopF (F_laws_heldBlockS_l0 v0) (fun s : Int × Int => mkS [(0, AL 3 (v0.map eBlock)), (1, AI s.1), (5, AI s.2)] (fo []) 1) hF ?_
 rintro k0 ⟨v50002, v50003⟩ hF
 rw [F_laws_heldBlockS_l0] at hF
 try dsimp only
 refine w_seq ?_
 refine ws 1 257 ?_
 refine qp (AI v50003) rfl (qp (AL 3 (v0.map eBlock)) rfl (qp (AI (v0.length : Int)) (ev_len_n rfl) (qp (AB (decide (v50003 < (v0.length : Int)))) rfl ?_)))
 refine r_nil ?_
 refine cF hF (fun hF => ?_) fun hF => ?_
 ·
  refine w_skip ?_
  refine thenQ_n ?_
  refine w_seq ?_
  refine w_block ?_
  refine w_seq ?_
  refine ws 257 769 ?_
  refine qp (AL 3 (v0.map eBlock)) rfl (qp (AI v50003) rfl ?_)
  obtain ⟨v1000, e1000, hF⟩ := bind_get hF
  refine qp (.val none (.ptr [.str v1000.1, .str v1000.2.1, .str v1000.2.2])) (ev_iad_n rfl rfl e1000 rfl) (qp (.val none (.ptr [.str v1000.1, .str v1000.2.1, .str v1000.2.2])) rfl (qp (AS v1000.1) rfl (qp (AI v50002) rfl ?_)))
  obtain ⟨v1001, e1001, hF⟩ := bind_get hF
  refine qc (AS v1001) [] false (con_laws_markText e1001) c22_ok (by first | rfl | simp) rfl ?_
  refine qp (AB (decide (v1000.1 ≠ v1001))) rfl ?_
  refine r_nil ?_
  refine cF hF (fun hF => ?_) fun hF => ?_
  ·
   refine ws 769 833 ?_
   refine qp (AI (-1)) rfl ?_
   refine r_nil ?_
   refine w_ret ?_
   refine thenQ_r ?_
   refine blockQ_r ?_
   refine thenQ_r ?_
   refine thenQ_r ?_
   refine blockQ_r ?_
   refine thenQ_r ?_
   cases hF
   exact eR
  ·
   refine w_skip ?_
   refine thenQ_n ?_
   refine ws 769 961 ?_
   refine qp (AI v50002) rfl (qp (AI (w64 (v50002 + 1))) rfl (qp (AI (w64 (v50002 + 1))) rfl ?_))
   refine r_nil ?_
   refine w_seq ?_
   refine ws 961 1473 ?_
   refine qp (AL 3 (v0.map eBlock)) rfl (qp (AI v50003) rfl ?_)
   obtain ⟨v1002, e1002, hF⟩ := bind_get hF
   refine qp (.val none (.ptr [.str v1002.1, .str v1002.2.1, .str v1002.2.2])) (ev_iad_n rfl rfl e1002 rfl) (qp (.val none (.ptr [.str v1002.2.1, .str v1002.2.2])) rfl (qp (AS v1002.2.1) rfl (qp (AI (w64 (v50002 + 1))) rfl ?_)))
   obtain ⟨v1003, e1003, hF⟩ := bind_get hF
   refine qc (AS v1003) [] false (con_laws_markText e1003) c22_ok (by first | rfl | simp) rfl ?_
   refine qp (AB (decide (v1002.2.1 ≠ v1003))) rfl ?_
   refine r_nil ?_
   refine cF hF (fun hF => ?_) fun hF => ?_
   ·
    refine ws 1473 1537 ?_
    refine qp (AI (-1)) rfl ?_
    refine r_nil ?_
    refine w_ret ?_
    refine thenQ_r ?_
    refine blockQ_r ?_
    refine thenQ_r ?_
    refine thenQ_r ?_
    refine blockQ_r ?_
    refine thenQ_r ?_
    cases hF
    exact eR
   ·
    refine w_skip ?_
    refine thenQ_n ?_
    refine ws 1473 1665 ?_
    refine qp (AI (w64 (v50002 + 1))) rfl (qp (AI (w64 ((w64 (v50002 + 1)) + 1))) rfl (qp (AI (w64 ((w64 (v50002 + 1)) + 1))) rfl ?_))
    refine r_nil ?_
    refine w_seq ?_
    refine ws 1665 2177 ?_
    refine qp (AL 3 (v0.map eBlock)) rfl (qp (AI v50003) rfl ?_)
    obtain ⟨v1004, e1004, hF⟩ := bind_get hF
    refine qp (.val none (.ptr [.str v1004.1, .str v1004.2.1, .str v1004.2.2])) (ev_iad_n rfl rfl e1004 rfl) (qp (.val none (.ptr [.str v1004.2.2])) rfl (qp (AS v1004.2.2) rfl (qp (AI (w64 ((w64 (v50002 + 1)) + 1))) rfl ?_)))
    obtain ⟨v1005, e1005, hF⟩ := bind_get hF
    refine qc (AS v1005) [] false (con_laws_markText e1005) c22_ok (by first | rfl | simp) rfl ?_
    refine qp (AB (decide (v1004.2.2 ≠ v1005))) rfl ?_
    refine r_nil ?_
    refine cF hF (fun hF => ?_) fun hF => ?_
    ·
     refine ws 2177 2241 ?_
     refine qp (AI (-1)) rfl ?_
     refine r_nil ?_
     refine w_ret ?_
     refine thenQ_r ?_
     refine blockQ_r ?_
     refine thenQ_r ?_
     refine thenQ_r ?_
     refine blockQ_r ?_
     refine thenQ_r ?_
     cases hF
     exact eR
    ·
     refine w_skip ?_
     refine thenQ_n ?_
     refine w_reg 2177 2369 rfl rfl ?_
     refine qp (AI (w64 ((w64 (v50002 + 1)) + 1))) rfl (qp (AI (w64 ((w64 ((w64 (v50002 + 1)) + 1)) + 1))) rfl (qp (AI (w64 ((w64 ((w64 (v50002 + 1)) + 1)) + 1))) rfl ?_))
     refine r_nil ?_
     refine blockQ_n ?_
     refine thenQ_n ?_
     refine w_reg 2369 2561 rfl rfl ?_
     refine qp (AI v50003) rfl (qp (AI (w64 (v50003 + 1))) rfl (qp (AI (w64 (v50003 + 1))) rfl ?_))
     refine r_nil ?_
     refine thenQ_n ?_
     refine ar (l' := [(0, AL 3 (v0.map eBlock)), (1, AI (w64 ((w64 ((w64 (v50002 + 1)) + 1)) + 1))), (5, AI (w64 (v50003 + 1)))]) (L := []) [0, 1, 5] [] 1 ⟨_, by rfl, hF⟩
 ·
  refine w_exit ?_
  refine thenQ_e ?_
  refine thenQ_e ?_
  refine blockQ_e ?_
  refine thenQ_n ?_
  refine ws 257 385 ?_
  refine qp (AI v50002) rfl (qp (AI v50002) rfl ?_)
  refine r_nil ?_
  refine w_ret ?_
  cases hF
  exact eR

def c3 : MC := (.seq (.reg [rg 2 (.p true (.mv (.c (.bool false))))]) (.seq (.seq (.reg [mvt 14 0, rg 15 (.p true (.lens (.t 14))), rg 16 (.p true (.bin .gtr (.t 15) (.c (.int .i64 1048576))))]) (.cond (.t 16) (.seq (.reg [rg 2 (.p true (.mv (.c (.bool true))))]) .ret) .skip)) (.seq (.reg [mvt 18 0, rg 19 (.call true 4 [(.t 18)]), mvt 17 19, rg 20 (.p true (.ext (.t 17) 0)), rg 21 (.p true (.ext (.t 17) 1)), rg 22 (.p true (.ext (.t 17) 2)), mvt 3 20, mvt 4 21, mvt 5 22]) (.seq (.reg [mvt 24 0, rg 25 (.call true 5 [(.t 24)]), mvt 23 25, rg 26 (.p true (.ext (.t 23) 0)), rg 27 (.p true (.ext (.t 23) 1)), rg 28 (.p true (.ext (.t 23) 2)), mvt 6 26, mvt 7 27, mvt 8 28]) (.seq (.seq (.reg [mvt 29 6, mvt 30 3, rg 31 (.call true 6 [(.t 29), (.t 30)]), rg 32 (.p true (.not (.t 31))), mvt 33 32, ⟨(some 34), (some (33, false)), (.p true (.mv (.t 7)))⟩, ⟨(some 35), (some (33, false)), (.p true (.mv (.t 4)))⟩, ⟨(some 36), (some (33, false)), (.p true (.bin .neq (.t 34) (.t 35)))⟩, rg 37 (.p true (.pick (.t 33) (.c (.bool true)) (.t 36))), mvt 38 37, ⟨(some 39), (some (38, false)), (.p true (.mv (.t 8)))⟩, ⟨(some 40), (some (38, false)), (.p true (.mv (.t 5)))⟩, ⟨(some 41), (some (38, false)), (.p true (.bin .neq (.t 39) (.t 40)))⟩, rg 42 (.p true (.pick (.t 38) (.c (.bool true)) (.t 41)))]) (.cond (.t 42) (.seq (.reg [rg 2 (.p true (.mv (.c (.bool false))))]) .ret) .skip)) (.seq (.reg [rg 9 (.p true (.mv (.c (.int .i64 1))))]) (.seq (.reg [mvt 43 6, mvt 44 9, rg 45 (.call true 7 [(.t 43), (.t 44)]), mvt 9 45]) (.seq (.reg [rg 10 (.p true (.mv (.c (.int .i64 1))))]) (.seq (.reg [mvt 46 6, mvt 47 10, rg 48 (.call true 8 [(.t 46), (.t 47)]), mvt 10 48]) (.seq (.seq (.reg [mvt 49 10, rg 50 (.p true (.bin .lss (.t 49) (.c (.int .i64 0))))]) (.cond (.t 50) (.seq (.reg [rg 2 (.p true (.mv (.c (.bool false))))]) .ret) .skip)) (.seq (.seq (.reg [mvt 51 10, mvt 52 9, rg 53 (.p true (.bin .neq (.t 51) (.t 52)))]) (.cond (.t 53) (.seq (.reg [rg 2 (.p true (.mv (.c (.bool false))))]) .ret) .skip)) (.seq (.reg [mvt 55 0, rg 56 (.call true 5 [(.t 55)]), mvt 54 56, rg 57 (.p true (.ext (.t 54) 0)), rg 58 (.p true (.ext (.t 54) 1)), rg 59 (.p true (.ext (.t 54) 2)), mvt 11 57, mvt 12 58, mvt 13 59]) (.seq (.seq (.reg [mvt 60 11, mvt 61 3, rg 62 (.call true 6 [(.t 60), (.t 61)]), rg 63 (.p true (.not (.t 62))), mvt 64 63, ⟨(some 65), (some (64, false)), (.p true (.mv (.t 12)))⟩, ⟨(some 66), (some (64, false)), (.p true (.mv (.t 4)))⟩, ⟨(some 67), (some (64, false)), (.p true (.bin .neq (.t 65) (.t 66)))⟩, rg 68 (.p true (.pick (.t 64) (.c (.bool true)) (.t 67))), mvt 69 68, ⟨(some 70), (some (69, false)), (.p true (.mv (.t 13)))⟩, ⟨(some 71), (some (69, false)), (.p true (.mv (.t 5)))⟩, ⟨(some 72), (some (69, false)), (.p true (.bin .neq (.t 70) (.t 71)))⟩, rg 73 (.p true (.pick (.t 69) (.c (.bool true)) (.t 72)))]) (.cond (.t 73) (.seq (.reg [rg 2 (.p true (.mv (.c (.bool false))))]) .ret) .skip)) (.seq (.reg [rg 10 (.p true (.mv (.c (.int .i64 1))))]) (.seq (.reg [mvt 74 6, mvt 75 10, rg 76 (.call true 8 [(.t 74), (.t 75)]), mvt 10 76]) (.seq (.seq (.reg [mvt 77 10, rg 78 (.p true (.bin .lss (.t 77) (.c (.int .i64 0))))]) (.cond (.t 78) (.seq (.reg [rg 2 (.p true (.mv (.c (.bool false))))]) .ret) .skip)) (.seq (.seq (.reg [mvt 79 10, mvt 80 9, rg 81 (.p true (.bin .neq (.t 79) (.t 80)))]) (.cond (.t 81) (.seq (.reg [rg 2 (.p true (.mv (.c (.bool false))))]) .ret) .skip)) (.seq (.reg [rg 2 (.p true (.mv (.c (.bool true))))]) .ret))))))))))))))))))
theorem c3_is : compFn Tryz.prog 3 = some (c3, [(.tmp 2)]) := by kernel_rfl
theorem c3_ok : okFn Tryz.prog 3 = true := by kernel_rfl

noncomputable def F_laws_FnExactLoadBlocks (v0 : List UInt8) : Option (Bool) :=
 (bif (decide ((1048576 : Int) < (v0.length : Int))) then some true
 else ((F_spec_LoadBlocks v0).bind fun v1000 => ((F_impl_LoadBlocks v0).bind fun v1001 => ((F_laws_eqBlockS v1001.1 v1000.1).bind fun v1003 => (bif (!v1003) then some false
 else (bif (decide (v1001.2.1 ≠ v1000.2.1)) then some false
 else (bif (decide (v1001.2.2 ≠ v1000.2.2)) then some false
 else ((F_laws_markBlockS v1001.1 1).bind fun v1004 => need (v1004.1.length = v1001.1.length) (((F_laws_heldBlockS v1004.1 1).bind fun v1006 => (bif (decide (v1006 < (0 : Int))) then some false
 else (bif (decide (v1006 ≠ v1004.2)) then some false
 else ((F_impl_LoadBlocks v0).bind fun v1007 => ((F_laws_eqBlockS v1007.1 v1000.1).bind fun v1009 => (bif (!v1009) then some false
 else (bif (decide (v1007.2.1 ≠ v1000.2.1)) then some false
 else (bif (decide (v1007.2.2 ≠ v1000.2.2)) then some false
 else ((F_laws_heldBlockS v1004.1 1).bind fun v1010 => (bif (decide (v1010 < (0 : Int))) then some false
 else (bif (decide (v1010 ≠ v1004.2)) then some false
 else some true))))))))))))))))))))
@[simp] def res_laws_FnExactLoadBlocks (r : Bool) : RV := .one (.one (.val (.bool r)))
theorem con_laws_FnExactLoadBlocks {v0 : List UInt8} {r : Bool} (hF : F_laws_FnExactLoadBlocks v0 = some r) : Con Tryz.prog 3 [.str v0] (res_laws_FnExactLoadBlocks r) := by
 unfold F_laws_FnExactLoadBlocks at hF
 refine con_of c3_is fun N => ?_
 refine ws 0 64 ?_
 refine qp (AB false) rfl ?_
 refine r_nil ?_
 refine w_seq ?_
 refine ws 64 256 ?_
 refine qp (AS v0) rfl (qp (AI (v0.length : Int)) rfl (qp (AB (decide ((1048576 : Int) < (v0.length : Int)))) rfl ?_))
 refine r_nil ?_
 refine cF hF (fun hF => ?_) fun hF => ?_
 ·
  refine ws 256 320 ?_
  refine qp (AB true) rfl ?_
  refine r_nil ?_
  refine w_ret ?_
  refine thenQ_r ?_
  cases hF
  exact eR
 ·
  refine w_skip ?_
  refine thenQ_n ?_
  refine ws 256 832 ?_
  refine qp (AS v0) rfl ?_
  obtain ⟨v1000, e1000, hF⟩ := bind_get hF
  refine qc (.tup [.sl 320 0 v1000.1.length, AI v1000.2.1, AI v1000.2.2]) [(320, .row true 3 (v1000.1.map eBlock))] false (con_spec_LoadBlocks e1000) c4_ok (by first | rfl | simp) (by simp [res_spec_LoadBlocks]) ?_
  refine qp (.tup [.sl 320 0 v1000.1.length, AI v1000.2.1, AI v1000.2.2]) rfl (qp (.sl 320 0 v1000.1.length) rfl (qp (AI v1000.2.1) rfl (qp (AI v1000.2.2) rfl (qp (.sl 320 0 v1000.1.length) rfl (qp (AI v1000.2.1) rfl (qp (AI v1000.2.2) rfl ?_))))))
  refine r_nil ?_
  refine ws 832 1408 ?_
  refine qp (AS v0) rfl ?_
  obtain ⟨v1001, e1001, hF⟩ := bind_get hF
  refine qc (.tup [.sl 896 0 v1001.1.length, AI v1001.2.1, AI v1001.2.2]) [(896, .row true 3 (v1001.1.map eBlock)), (320, .row true 3 (v1000.1.map eBlock))] false (con_impl_LoadBlocks e1001) c5_ok (by first | rfl | simp) (by simp [res_impl_LoadBlocks]) ?_
  refine qp (.tup [.sl 896 0 v1001.1.length, AI v1001.2.1, AI v1001.2.2]) rfl (qp (.sl 896 0 v1001.1.length) rfl (qp (AI v1001.2.1) rfl (qp (AI v1001.2.2) rfl (qp (.sl 896 0 v1001.1.length) rfl (qp (AI v1001.2.1) rfl (qp (AI v1001.2.2) rfl ?_))))))
  refine r_nil ?_
  refine w_seq ?_
  refine ws 1408 2304 ?_
  refine qp (.sl 896 0 v1001.1.length) rfl (qp (.sl 320 0 v1000.1.length) rfl ?_)
  obtain ⟨v1003, e1003, hF⟩ := bind_get hF
  refine qc (AB v1003) [(896, .row true 3 (v1001.1.map eBlock)), (320, .row true 3 (v1000.1.map eBlock))] true (con_laws_eqBlockS e1003) c6_ok (by simp [List.take_of_length_le]) rfl ?_
  refine qp (AB (!v1003)) rfl (qp (AB (!v1003)) rfl ?_)
  refine q_case 33 hF rfl (fun hF => ?_) (fun hF => ?_)
  ·
   refine qn rfl (qn rfl (qn rfl (qp (AB true) rfl (qp (AB true) rfl (qn rfl (qn rfl (qn rfl ?_)))))))
   refine qp (AB true) rfl ?_
   refine r_nil ?_
   refine w_true rfl ?_
   refine ws 2304 2368 ?_
   refine qp (AB false) rfl ?_
   refine r_nil ?_
   refine w_ret ?_
   refine thenQ_r ?_
   cases hF
   exact eR
  ·
   refine qg (AI v1001.2.1) rfl rfl (qg (AI v1000.2.1) rfl rfl (qg (AB (decide (v1001.2.1 ≠ v1000.2.1))) rfl rfl (qp (AB (decide (v1001.2.1 ≠ v1000.2.1))) rfl (qp (AB (decide (v1001.2.1 ≠ v1000.2.1))) rfl ?_))))
   refine q_case 38 hF rfl (fun hF => ?_) (fun hF => ?_)
   ·
    refine qn rfl (qn rfl (qn rfl (qp (AB true) rfl ?_)))
    refine r_nil ?_
    refine w_true rfl ?_
    refine ws 2304 2368 ?_
    refine qp (AB false) rfl ?_
    refine r_nil ?_
    refine w_ret ?_
    refine thenQ_r ?_
    cases hF
    exact eR
   ·
    refine qg (AI v1001.2.2) rfl rfl (qg (AI v1000.2.2) rfl rfl (qg (AB (decide (v1001.2.2 ≠ v1000.2.2))) rfl rfl (qp (AB (decide (v1001.2.2 ≠ v1000.2.2))) rfl ?_)))
    refine r_nil ?_
    refine cF hF (fun hF => ?_) fun hF => ?_
    ·
     refine ws 2304 2368 ?_
     refine qp (AB false) rfl ?_
     refine r_nil ?_
     refine w_ret ?_
     refine thenQ_r ?_
     cases hF
     exact eR
    ·
     refine w_skip ?_
     refine thenQ_n ?_
     refine ws 2304 2368 ?_
     refine qp (AI 1) rfl ?_
     refine r_nil ?_
     refine ws 2368 2624 ?_
     refine qp (.sl 896 0 v1001.1.length) rfl (qp (AI 1) rfl ?_)
     obtain ⟨v1004, e1004, hF⟩ := bind_get hF
     obtain ⟨g1005, hF⟩ := need_some hF
     refine qm (ls := [896]) [(896, .row true 3 (v1004.1.map eBlock)), (896, .row true 3 (v1001.1.map eBlock)), (320, .row true 3 (v1000.1.map eBlock))] (con_laws_markBlockS e1004) c7_ok (by first | rfl | simp [takeM, takeML, takeM1, g1005]) (by decide) (by simp [like2, likeL, like1, g1005]) rfl rfl rfl (by simp [scrO_fo, newO2, newO, scrR, scrA, scrAs]) ?_
     refine qp (AI v1004.2) rfl ?_
     refine r_nil ?_
     refine ws 2624 2688 ?_
     refine qp (AI 1) rfl ?_
     refine r_nil ?_
     refine ws 2688 2944 ?_
     refine qp (.sl 896 0 v1001.1.length) rfl (qp (AI 1) rfl ?_)
     obtain ⟨v1006, e1006, hF⟩ := bind_get hF
     refine qc (AI v1006) [(896, .row true 3 (v1004.1.map eBlock)), (896, .row true 3 (v1001.1.map eBlock)), (320, .row true 3 (v1000.1.map eBlock))] true (con_laws_heldBlockS e1006) c8_ok (by simp [g1005, List.take_of_length_le]) rfl ?_
     refine qp (AI v1006) rfl ?_
     refine r_nil ?_
     refine w_seq ?_
     refine ws 2944 3072 ?_
     refine qp (AI v1006) rfl (qp (AB (decide (v1006 < (0 : Int)))) rfl ?_)
     refine r_nil ?_
     refine cF hF (fun hF => ?_) fun hF => ?_
     ·
      refine ws 3072 3136 ?_
      refine qp (AB false) rfl ?_
      refine r_nil ?_
      refine w_ret ?_
      refine thenQ_r ?_
      cases hF
      exact endQ_r rfl (.inl ⟨_, _, by first | rfl | (simp [List.take_of_length_le]; first | exact ⟨rfl, rfl⟩ | rfl), by simp, by first | rfl | simp [res_laws_FnExactLoadBlocks, List.take_of_length_le, g1005]⟩)
     ·
      refine w_skip ?_
      refine thenQ_n ?_
      refine w_seq ?_
      refine ws 3072 3264 ?_
      refine qp (AI v1006) rfl (qp (AI v1004.2) rfl (qp (AB (decide (v1006 ≠ v1004.2))) rfl ?_))
      refine r_nil ?_
      refine cF hF (fun hF => ?_) fun hF => ?_
      ·
       refine ws 3264 3328 ?_
       refine qp (AB false) rfl ?_
       refine r_nil ?_
       refine w_ret ?_
       refine thenQ_r ?_
       cases hF
       exact endQ_r rfl (.inl ⟨_, _, by first | rfl | (simp [List.take_of_length_le]; first | exact ⟨rfl, rfl⟩ | rfl), by simp, by first | rfl | simp [res_laws_FnExactLoadBlocks, List.take_of_length_le, g1005]⟩)
      ·
       refine w_skip ?_
       refine thenQ_n ?_
       refine ws 3264 3840 ?_
       refine qp (AS v0) rfl ?_
       obtain ⟨v1007, e1007, hF⟩ := bind_get hF
       refine qc (.tup [.sl 3328 0 v1007.1.length, AI v1007.2.1, AI v1007.2.2]) [(3328, .row true 3 (v1007.1.map eBlock)), (896, .row true 3 (v1004.1.map eBlock)), (896, .row true 3 (v1001.1.map eBlock)), (320, .row true 3 (v1000.1.map eBlock))] false (con_impl_LoadBlocks e1007) c5_ok (by first | rfl | simp) (by simp [res_impl_LoadBlocks]) ?_
       refine qp (.tup [.sl 3328 0 v1007.1.length, AI v1007.2.1, AI v1007.2.2]) rfl (qp (.sl 3328 0 v1007.1.length) rfl (qp (AI v1007.2.1) rfl (qp (AI v1007.2.2) rfl (qp (.sl 3328 0 v1007.1.length) rfl (qp (AI v1007.2.1) rfl (qp (AI v1007.2.2) rfl ?_))))))
       refine r_nil ?_
       refine w_seq ?_
       refine ws 3840 4736 ?_
       refine qp (.sl 3328 0 v1007.1.length) rfl (qp (.sl 320 0 v1000.1.length) rfl ?_)
       obtain ⟨v1009, e1009, hF⟩ := bind_get hF
       refine qc (AB v1009) [(3328, .row true 3 (v1007.1.map eBlock)), (896, .row true 3 (v1004.1.map eBlock)), (896, .row true 3 (v1001.1.map eBlock)), (320, .row true 3 (v1000.1.map eBlock))] true (con_laws_eqBlockS e1009) c6_ok (by simp [g1005, List.take_of_length_le]) rfl ?_
       refine qp (AB (!v1009)) rfl (qp (AB (!v1009)) rfl ?_)
       refine q_case 64 hF rfl (fun hF => ?_) (fun hF => ?_)
       ·
        refine qn rfl (qn rfl (qn rfl (qp (AB true) rfl (qp (AB true) rfl (qn rfl (qn rfl (qn rfl ?_)))))))
        refine qp (AB true) rfl ?_
        refine r_nil ?_
        refine w_true rfl ?_
        refine ws 4736 4800 ?_
        refine qp (AB false) rfl ?_
        refine r_nil ?_
        refine w_ret ?_
        refine thenQ_r ?_
        cases hF
        exact endQ_r rfl (.inl ⟨_, _, by first | rfl | (simp [List.take_of_length_le]; first | exact ⟨rfl, rfl⟩ | rfl), by simp, by first | rfl | simp [res_laws_FnExactLoadBlocks, List.take_of_length_le, g1005]⟩)
       ·
        refine qg (AI v1007.2.1) rfl rfl (qg (AI v1000.2.1) rfl rfl (qg (AB (decide (v1007.2.1 ≠ v1000.2.1))) rfl rfl (qp (AB (decide (v1007.2.1 ≠ v1000.2.1))) rfl (qp (AB (decide (v1007.2.1 ≠ v1000.2.1))) rfl ?_))))
        refine q_case 69 hF rfl (fun hF => ?_) (fun hF => ?_)
        ·
         refine qn rfl (qn rfl (qn rfl (qp (AB true) rfl ?_)))
         refine r_nil ?_
         refine w_true rfl ?_
         refine ws 4736 4800 ?_
         refine qp (AB false) rfl ?_
         refine r_nil ?_
         refine w_ret ?_
         refine thenQ_r ?_
         cases hF
         exact endQ_r rfl (.inl ⟨_, _, by first | rfl | (simp [List.take_of_length_le]; first | exact ⟨rfl, rfl⟩ | rfl), by simp, by first | rfl | simp [res_laws_FnExactLoadBlocks, List.take_of_length_le, g1005]⟩)
        ·
         refine qg (AI v1007.2.2) rfl rfl (qg (AI v1000.2.2) rfl rfl (qg (AB (decide (v1007.2.2 ≠ v1000.2.2))) rfl rfl (qp (AB (decide (v1007.2.2 ≠ v1000.2.2))) rfl ?_)))
         refine r_nil ?_
         refine cF hF (fun hF => ?_) fun hF => ?_
         ·
          refine ws 4736 4800 ?_
          refine qp (AB false) rfl ?_
          refine r_nil ?_
          refine w_ret ?_
          refine thenQ_r ?_
          cases hF
          exact endQ_r rfl (.inl ⟨_, _, by first | rfl | (simp [List.take_of_length_le]; first | exact ⟨rfl, rfl⟩ | rfl), by simp, by first | rfl | simp [res_laws_FnExactLoadBlocks, List.take_of_length_le, g1005]⟩)
         ·
          refine w_skip ?_
          refine thenQ_n ?_
          refine ws 4736 4800 ?_
          refine qp (AI 1) rfl ?_
          refine r_nil ?_
          refine ws 4800 5056 ?_
          refine qp (.sl 896 0 v1001.1.length) rfl (qp (AI 1) rfl ?_)
          obtain ⟨v1010, e1010, hF⟩ := bind_get hF
          refine qc (AI v1010) [(3328, .row true 3 (v1007.1.map eBlock)), (896, .row true 3 (v1004.1.map eBlock)), (896, .row true 3 (v1001.1.map eBlock)), (320, .row true 3 (v1000.1.map eBlock))] true (con_laws_heldBlockS e1010) c8_ok (by simp [g1005, List.take_of_length_le]) rfl ?_
          refine qp (AI v1010) rfl ?_
          refine r_nil ?_
          refine w_seq ?_
          refine ws 5056 5184 ?_
          refine qp (AI v1010) rfl (qp (AB (decide (v1010 < (0 : Int)))) rfl ?_)
          refine r_nil ?_
          refine cF hF (fun hF => ?_) fun hF => ?_
          ·
           refine ws 5184 5248 ?_
           refine qp (AB false) rfl ?_
           refine r_nil ?_
           refine w_ret ?_
           refine thenQ_r ?_
           cases hF
           exact endQ_r rfl (.inl ⟨_, _, by first | rfl | (simp [List.take_of_length_le]; first | exact ⟨rfl, rfl⟩ | rfl), by simp, by first | rfl | simp [res_laws_FnExactLoadBlocks, List.take_of_length_le, g1005]⟩)
          ·
           refine w_skip ?_
           refine thenQ_n ?_
           refine w_seq ?_
           refine ws 5184 5376 ?_
           refine qp (AI v1010) rfl (qp (AI v1004.2) rfl (qp (AB (decide (v1010 ≠ v1004.2))) rfl ?_))
           refine r_nil ?_
           refine cF hF (fun hF => ?_) fun hF => ?_
           ·
            refine ws 5376 5440 ?_
            refine qp (AB false) rfl ?_
            refine r_nil ?_
            refine w_ret ?_
            refine thenQ_r ?_
            cases hF
            exact endQ_r rfl (.inl ⟨_, _, by first | rfl | (simp [List.take_of_length_le]; first | exact ⟨rfl, rfl⟩ | rfl), by simp, by first | rfl | simp [res_laws_FnExactLoadBlocks, List.take_of_length_le, g1005]⟩)
           ·
            refine w_skip ?_
            refine thenQ_n ?_
            refine ws 5376 5440 ?_
            refine qp (AB true) rfl ?_
            refine r_nil ?_
            refine w_ret ?_
            cases hF
            exact endQ_r rfl (.inl ⟨_, _, by first | rfl | (simp [List.take_of_length_le]; first | exact ⟨rfl, rfl⟩ | rfl), by simp, by first | rfl | simp [res_laws_FnExactLoadBlocks, List.take_of_length_le, g1005]⟩)

end Go.Ab
