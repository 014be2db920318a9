/- Walks (printed by auto.py, a program of this session's own). -/
import Derived.Test.YthcojmhjnbebdaaDoorS0
import Derived.Test.YthcojmhjnbebdaaDoorProg
import Derived.KernelRfl
import Derived.Test.YthcojmhjnbebdaaDoorSQ
set_option linter.unusedVariables false
set_option linter.unusedSimpArgs false
set_option maxRecDepth 8000
set_option maxHeartbeats 8000000
namespace Go.Ab
open Go.RowKit Go.Proofs

abbrev TPattern := (List Int) × Int
@[simp] def ePattern (p : TPattern) : V := .agg [.sl 1 (p.1.map vI), .int .i64 p.2]
def c89 : MC := (.seq (.reg [rg 4 (.f (.nilrow 1))]) (.seq (.reg [rg 8 (.f (.bsl 1 [])), mvt 5 8]) (.seq (.reg [rg 6 (.p true (.mv (.c (.int .i64 0))))]) (.seq (.seq (.reg [rg 7 (.p true (.mv (.c (.int .i64 0))))]) (.block 0 (.loop (.seq (.seq (.reg [mvt 9 7, mvt 10 0, rg 11 (.p true (.lens (.t 10))), rg 12 (.p true (.bin .lss (.t 9) (.t 11)))]) (.cond (.t 12) .skip (.exit 0))) (.seq (.block 1 (.seq (.reg [mvt 15 0, mvt 16 7, rg 17 (.p true (.ixs (.t 15) (.t 16))), mvt 18 1, rg 19 (.p true (.bin .eql (.t 17) (.t 18)))]) (.cond (.t 19) (.seq (.reg [mvt 20 5, mvt 21 0, mvt 22 6, mvt 23 7, rg 24 (.p true (.slcs (.t 21) (some (.t 22)) (some (.t 23)))), rg 25 (.f (.bsl 1 [(.t 24)])), rg 26 (.f (.app (.t 20) (.t 25) 1 16 true)), mvt 5 26]) (.reg [mvt 27 7, rg 28 (.p true (.bin .add (.t 27) (.c (.int .i64 1)))), mvt 6 28])) .skip))) (.reg [mvt 13 7, rg 14 (.p true (.bin .add (.t 13) (.c (.int .i64 1)))), mvt 7 14])))))) (.seq (.reg [mvt 29 5, mvt 30 0, mvt 31 6, rg 32 (.p true (.slcs (.t 30) (some (.t 31)) none)), rg 33 (.f (.bsl 1 [(.t 32)])), rg 34 (.f (.app (.t 29) (.t 33) 1 16 true)), mvt 4 34]) .ret)))))
theorem c89_is : compFn Tryd.prog 89 = some (c89, [(.tmp 4)]) := by kernel_rfl
theorem c89_ok : okFn Tryd.prog 89 = true := by kernel_rfl

noncomputable def F_spec_l01Split_l0 (v0 : List UInt8) (v1 : Int) (k0 : Int × Int × (List (List UInt8)) → Option (List (List UInt8))) : Int × Int × (List (List UInt8)) → Option (List (List UInt8))
 | (v50003, v50004, v50005) => (bif (decide (v50004 < (v0.length : Int))) then ((ix v0 v50004).bind fun v1000 => (bif (decide ((v1000.toNat : Int) = v1)) then (need (0 ≤ v50003 ∧ v50003 ≤ v50004 ∧ v50004 ≤ (v0.length : Int)) ((need (room (v50005.length + [sub v0 v50003 v50004].length) 16) (k0 (w64 (v50004 + 1), w64 (v50004 + 1), v50005 ++ [sub v0 v50003 v50004])))))
 else k0 (v50003, w64 (v50004 + 1), v50005)))
 else (need (0 ≤ v50003 ∧ v50003 ≤ (v0.length : Int) ∧ (v0.length : Int) ≤ (v0.length : Int)) ((need (room (v50005.length + [sub v0 v50003 (v0.length : Int)].length) 16) (some (v50005 ++ [sub v0 v50003 (v0.length : Int)]))))))
noncomputable def F_spec_l01Split (v0 : List UInt8) (v1 : Int) : Option (List (List UInt8)) :=
 loop (F_spec_l01Split_l0 v0 v1) (0, 0, [])
@[simp] def res_spec_l01Split (r : List (List UInt8)) : RV := .one (.one (.row true 1 (r.map V.str)))
theorem con_spec_l01Split {v0 : List UInt8} {v1 : Int} {r : List (List UInt8)} (hF : F_spec_l01Split v0 v1 = some r) : Con Tryd.prog 89 [.str v0, .int .u8 v1] (res_spec_l01Split r) := by
 unfold F_spec_l01Split at hF
 refine con_of c89_is fun N => ?_
 refine ws 0 64 ?_
 refine qf (.sl 0 0 0) [(0, .row true 1 (([] : List Int).map vI))] (by simp) ?_
 refine r_nil ?_
 refine ws 64 192 ?_
 refine qf (.sl 64 0 0) [(64, .row true 1 (([] : List (List UInt8)).map V.str)), (0, .row true 1 (([] : List Int).map vI))] (by simp [List.take_of_length_le]) ?_
 refine qp (.sl 64 0 0) rfl ?_
 refine r_nil ?_
 refine ws 192 256 ?_
 refine qp (AI 0) rfl ?_
 refine r_nil ?_
 refine w_seq ?_
 refine ws 256 320 ?_
 refine qp (AI 0) rfl ?_
 refine r_nil ?_
 refine w_block ?_
 refine wr (l' := [(0, AS v0), (1, .val none (.int .u8 v1)), (5, .sl 0 0 0), (6, AI 0), (7, AI 0)]) (L := [(0, .row true 1 (([] : List (List UInt8)).map V.str))]) [0, 1, 5, 6, 7] [(64, 0)] 1 ?_
 refine w_loopF (F_spec_l01Split_l0 v0 v1) (fun s : Int × Int × (List (List UInt8)) => mkS [(0, AS v0), (1, .val none (.int .u8 v1)), (5, .sl 0 0 s.2.2.length), (6, AI s.1), (7, AI s.2.1)] (fo [(0, .row true 1 (s.2.2.map V.str))]) 1) hF ?_
 rintro k0 ⟨v50003, v50004, v50005⟩ hF
 rw [F_spec_l01Split_l0] at hF
 try dsimp only
 refine w_seq ?_
 refine ws 1 257 ?_
 refine qp (AI v50004) rfl (qp (AS v0) rfl (qp (AI (v0.length : Int)) rfl (qp (AB (decide (v50004 < (v0.length : Int)))) rfl ?_)))
 refine r_nil ?_
 refine cF hF (fun hF => ?_) fun hF => ?_
 ·
  refine w_skip ?_
  refine thenQ_n ?_
  refine w_seq ?_
  refine w_block ?_
  refine ws 257 577 ?_
  refine qp (AS v0) rfl (qp (AI v50004) rfl ?_)
  obtain ⟨v1000, e1000, hF⟩ := bind_get hF
  refine qp (.val none (.int .u8 (v1000.toNat : Int))) (ev_ixs rfl rfl e1000) (qp (.val none (.int .u8 v1)) rfl (qp (AB (decide ((v1000.toNat : Int) = v1))) rfl ?_))
  refine r_nil ?_
  refine cF hF (fun hF => ?_) fun hF => ?_
  ·
   refine ws 577 1089 ?_
   refine qp (.sl 0 0 v50005.length) rfl (qp (AS v0) rfl (qp (AI v50003) rfl (qp (AI v50004) rfl ?_)))
   obtain ⟨g1001, hF⟩ := need_some hF
   refine qp (AS (sub v0 v50003 v50004)) (ev_slcs rfl (bnd_some rfl g1001.1) (bnd_some rfl (Int.le_trans g1001.1 g1001.2.1)) g1001) ?_
   refine qf (.sl 897 0 ([sub v0 v50003 v50004].length)) [(897, .row true 1 ([sub v0 v50003 v50004].map V.str)), (0, .row true 1 (v50005.map V.str))] (by simp [List.take_of_length_le]) ?_
   obtain ⟨g1002, hF⟩ := need_some hF
   refine qf (.sl 961 0 ((v50005 ++ [sub v0 v50003 v50004]).length)) [(961, .row true 1 ((v50005 ++ [sub v0 v50003 v50004]).map V.str)), (0, .dead), (897, .dead), (897, .row true 1 ([sub v0 v50003 v50004].map V.str)), (0, .row true 1 (v50005.map V.str))] (effT_app_l rfl (by simp) rfl rfl (by simp) rfl (by decide) g1002 rfl) ?_
   refine qp (.sl 961 0 ((v50005 ++ [sub v0 v50003 v50004]).length)) rfl ?_
   refine r_nil ?_
   refine w_reg 1089 1281 rfl rfl ?_
   refine qp (AI v50004) rfl (qp (AI (w64 (v50004 + 1))) rfl (qp (AI (w64 (v50004 + 1))) rfl ?_))
   refine r_nil ?_
   refine blockQ_n ?_
   refine thenQ_n ?_
   refine w_reg 1281 1473 rfl rfl ?_
   refine qp (AI v50004) rfl (qp (AI (w64 (v50004 + 1))) rfl (qp (AI (w64 (v50004 + 1))) rfl ?_))
   refine r_nil ?_
   refine thenQ_n ?_
   refine ar (l' := [(0, AS v0), (1, .val none (.int .u8 v1)), (5, .sl 0 0 (v50005 ++ [sub v0 v50003 v50004]).length), (6, AI (w64 (v50004 + 1))), (7, AI (w64 (v50004 + 1)))]) (L := [(0, .row true 1 ((v50005 ++ [sub v0 v50003 v50004]).map V.str))]) [0, 1, 5, 6, 7] [(961, 0)] 1 ⟨_, by rfl, hF⟩
  ·
   refine w_skip ?_
   refine blockQ_n ?_
   refine thenQ_n ?_
   refine w_reg 577 769 rfl rfl ?_
   refine qp (AI v50004) rfl (qp (AI (w64 (v50004 + 1))) rfl (qp (AI (w64 (v50004 + 1))) rfl ?_))
   refine r_nil ?_
   refine thenQ_n ?_
   refine ar (l' := [(0, AS v0), (1, .val none (.int .u8 v1)), (5, .sl 0 0 v50005.length), (6, AI v50003), (7, AI (w64 (v50004 + 1)))]) (L := [(0, .row true 1 (v50005.map V.str))]) [0, 1, 5, 6, 7] [(0, 0)] 1 ⟨_, by rfl, hF⟩
 ·
  refine w_exit ?_
  refine thenQ_e ?_
  refine thenQ_e ?_
  refine blockQ_e ?_
  refine thenQ_n ?_
  refine ws 257 705 ?_
  refine qp (.sl 0 0 v50005.length) rfl (qp (AS v0) rfl (qp (AI v50003) rfl ?_))
  obtain ⟨g1003, hF⟩ := need_some hF
  refine qp (AS (sub v0 v50003 (v0.length : Int))) (ev_slcs rfl (bnd_some rfl g1003.1) rfl g1003) ?_
  refine qf (.sl 513 0 ([sub v0 v50003 (v0.length : Int)].length)) [(513, .row true 1 ([sub v0 v50003 (v0.length : Int)].map V.str)), (0, .row true 1 (v50005.map V.str))] (by simp [List.take_of_length_le]) ?_
  obtain ⟨g1004, hF⟩ := need_some hF
  refine qf (.sl 577 0 ((v50005 ++ [sub v0 v50003 (v0.length : Int)]).length)) [(577, .row true 1 ((v50005 ++ [sub v0 v50003 (v0.length : Int)]).map V.str)), (0, .dead), (513, .dead), (513, .row true 1 ([sub v0 v50003 (v0.length : Int)].map V.str)), (0, .row true 1 (v50005.map V.str))] (effT_app_l rfl (by simp) rfl rfl (by simp) rfl (by decide) g1004 rfl) ?_
  refine qp (.sl 577 0 ((v50005 ++ [sub v0 v50003 (v0.length : Int)]).length)) rfl ?_
  refine r_nil ?_
  refine w_ret ?_
  cases hF
  exact eR

def c132 : MC := (.seq (.reg [rg 2 (.p true (.mv (.c (.bool false))))]) (.seq (.reg [mvt 3 0, rg 4 (.p true (.bin .geq (.t 3) (.c (.int .u8 48)))), mvt 5 4, ⟨(some 6), (some (5, true)), (.p true (.mv (.t 0)))⟩, ⟨(some 7), (some (5, true)), (.p true (.bin .leq (.t 6) (.c (.int .u8 57))))⟩, rg 8 (.p true (.pick (.t 5) (.t 7) (.c (.bool false)))), mvt 2 8]) .ret))
theorem c132_is : compFn Tryd.prog 132 = some (c132, [(.tmp 2)]) := by kernel_rfl
theorem c132_ok : okFn Tryd.prog 132 = true := by kernel_rfl

noncomputable def F_spec_l01Digit (v0 : Int) : Option (Bool) :=
 (bif (decide ((48 : Int) ≤ v0)) then some (decide (v0 ≤ (57 : Int)))
 else some false)
@[simp] def res_spec_l01Digit (r : Bool) : RV := .one (.one (.val (.bool r)))
theorem con_spec_l01Digit {v0 : Int} {r : Bool} (hF : F_spec_l01Digit v0 = some r) : Con Tryd.prog 132 [.int .u8 v0] (res_spec_l01Digit r) := by
 unfold F_spec_l01Digit at hF
 refine con_of c132_is fun N => ?_
 refine ws 0 64 ?_
 refine qp (AB false) rfl ?_
 refine r_nil ?_
 refine ws 64 512 ?_
 refine qp (.val none (.int .u8 v0)) rfl (qp (AB (decide ((48 : Int) ≤ v0))) rfl (qp (AB (decide ((48 : Int) ≤ v0))) rfl ?_))
 refine q_case 5 hF rfl (fun hF => ?_) (fun hF => ?_)
 ·
  refine qg (.val none (.int .u8 v0)) rfl rfl (qg (AB (decide (v0 ≤ (57 : Int)))) rfl rfl (qp (AB (decide (v0 ≤ (57 : Int)))) rfl (qp (AB (decide (v0 ≤ (57 : Int)))) rfl ?_)))
  refine r_nil ?_
  refine w_ret ?_
  cases hF
  exact eR
 ·
  refine qn rfl (qn rfl (qp (AB false) rfl (qp (AB false) rfl ?_)))
  refine r_nil ?_
  refine w_ret ?_
  cases hF
  exact eR

def c90 : MC := (.seq (.reg [rg 2 (.p true (.mv (.c (.int .i64 0)))), rg 3 (.p true (.mv (.c (.bool false))))]) (.seq (.reg [rg 4 (.p true (.mv (.c (.int .i64 0))))]) (.seq (.seq (.reg [mvt 7 0, rg 8 (.p true (.lens (.t 7))), rg 9 (.p true (.bin .gtr (.t 8) (.c (.int .i64 0)))), mvt 10 9, ⟨(some 11), (some (10, true)), (.p true (.mv (.t 0)))⟩, ⟨(some 12), (some (10, true)), (.p true (.ixs (.t 11) (.c (.int .i64 0))))⟩, ⟨(some 13), (some (10, true)), (.p true (.bin .eql (.t 12) (.c (.int .u8 45))))⟩, rg 14 (.p true (.pick (.t 10) (.t 13) (.c (.bool false))))]) (.cond (.t 14) (.reg [rg 4 (.p true (.mv (.c (.int .i64 1))))]) .skip)) (.seq (.seq (.reg [mvt 15 0, rg 16 (.p true (.lens (.t 15))), mvt 17 4, rg 18 (.p true (.bin .eql (.t 16) (.t 17))), mvt 19 18, ⟨(some 20), (some (19, false)), (.p true (.mv (.t 0)))⟩, ⟨(some 21), (some (19, false)), (.p true (.lens (.t 20)))⟩, ⟨(some 22), (some (19, false)), (.p true (.mv (.t 4)))⟩, ⟨(some 23), (some (19, false)), (.p true (.bin .sub (.t 21) (.t 22)))⟩, ⟨(some 24), (some (19, false)), (.p true (.bin .gtr (.t 23) (.c (.int .i64 18))))⟩, rg 25 (.p true (.pick (.t 19) (.c (.bool true)) (.t 24))), mvt 26 25, ⟨(some 27), (some (26, false)), (.p true (.mv (.t 0)))⟩, ⟨(some 28), (some (26, false)), (.p true (.mv (.t 4)))⟩, ⟨(some 29), (some (26, false)), (.p true (.ixs (.t 27) (.t 28)))⟩, ⟨(some 30), (some (26, false)), (.p true (.bin .eql (.t 29) (.c (.int .u8 48))))⟩, ⟨(some 31), (some (26, false)), (.p true (.mv (.t 30)))⟩, ⟨(some 32), (some (31, true)), (.p true (.mv (.t 0)))⟩, ⟨(some 33), (some (31, true)), (.p true (.lens (.t 32)))⟩, ⟨(some 34), (some (31, true)), (.p true (.bin .gtr (.t 33) (.c (.int .i64 1))))⟩, ⟨(some 35), (some (26, false)), (.p true (.pick (.t 31) (.t 34) (.c (.bool false))))⟩, rg 36 (.p true (.pick (.t 26) (.c (.bool true)) (.t 35)))]) (.cond (.t 36) (.seq (.reg [rg 2 (.p true (.mv (.c (.int .i64 0)))), rg 3 (.p true (.mv (.c (.bool false))))]) .ret) .skip)) (.seq (.reg [rg 5 (.p true (.mv (.c (.int .i64 0))))]) (.seq (.seq (.reg [mvt 37 4, mvt 6 37]) (.block 0 (.loop (.seq (.seq (.reg [mvt 38 6, mvt 39 0, rg 40 (.p true (.lens (.t 39))), rg 41 (.p true (.bin .lss (.t 38) (.t 40)))]) (.cond (.t 41) .skip (.exit 0))) (.seq (.block 1 (.seq (.seq (.reg [mvt 44 0, mvt 45 6, rg 46 (.p true (.ixs (.t 44) (.t 45))), rg 47 (.call true 132 [(.t 46)]), rg 48 (.p true (.not (.t 47)))]) (.cond (.t 48) (.seq (.reg [rg 2 (.p true (.mv (.c (.int .i64 0)))), rg 3 (.p true (.mv (.c (.bool false))))]) .ret) .skip)) (.reg [mvt 49 5, rg 50 (.p true (.bin .mul (.c (.int .i64 10)) (.t 49))), mvt 51 0, mvt 52 6, rg 53 (.p true (.ixs (.t 51) (.t 52))), rg 54 (.p true (.bin .sub (.t 53) (.c (.int .u8 48)))), rg 55 (.p true (.conv .i64 (.t 54))), rg 56 (.p true (.bin .add (.t 50) (.t 55))), mvt 5 56]))) (.reg [mvt 42 6, rg 43 (.p true (.bin .add (.t 42) (.c (.int .i64 1)))), mvt 6 43])))))) (.seq (.seq (.reg [mvt 57 4, rg 58 (.p true (.bin .eql (.t 57) (.c (.int .i64 1))))]) (.cond (.t 58) (.reg [mvt 59 5, rg 60 (.p true (.neg (.t 59))), mvt 5 60]) .skip)) (.seq (.reg [mvt 61 5, mvt 2 61, rg 3 (.p true (.mv (.c (.bool true))))]) .ret))))))))
theorem c90_is : compFn Tryd.prog 90 = some (c90, [(.tmp 2), (.tmp 3)]) := by kernel_rfl
theorem c90_ok : okFn Tryd.prog 90 = true := by kernel_rfl

noncomputable def F_spec_l01Number_l2 (v0 : List UInt8) (v50000 : Int) (k0 : Int × Int → Option (Int × Bool)) : Int × Int → Option (Int × Bool)
 | (v50003, v50004) => (bif (decide (v50004 < (v0.length : Int))) then ((ix v0 v50004).bind fun v1002 => ((F_spec_l01Digit (v1002.toNat : Int)).bind fun v1003 => (bif (!v1003) then some (0, false)
 else ((ix v0 v50004).bind fun v1004 => k0 (w64 ((w64 (10 * v50003)) + (w64 (IntKind.wrap .u8 ((v1004.toNat : Int) - 48)))), w64 (v50004 + 1))))))
 else (bif (decide (v50000 = (1 : Int))) then some (w64 (0 - v50003), true)
 else some (v50003, true)))
noncomputable def F_spec_l01Number_j1 (v0 : List UInt8) (v50000 : Int) : Option (Int × Bool) :=
 loop (F_spec_l01Number_l2 v0 v50000) (0, v50000)
noncomputable def F_spec_l01Number_j0 (v0 : List UInt8) (v50000 : Int) : Option (Int × Bool) :=
 (bif (decide ((v0.length : Int) = v50000)) then some (0, false)
 else (bif (decide ((18 : Int) < w64 ((v0.length : Int) - v50000))) then some (0, false)
 else ((ix v0 v50000).bind fun v1001 => (bif (decide ((v1001.toNat : Int) = (48 : Int))) then (bif (decide ((1 : Int) < (v0.length : Int))) then some (0, false)
 else F_spec_l01Number_j1 v0 v50000)
 else F_spec_l01Number_j1 v0 v50000))))
noncomputable def F_spec_l01Number (v0 : List UInt8) : Option (Int × Bool) :=
 (bif (decide ((0 : Int) < (v0.length : Int))) then ((ix v0 0).bind fun v1000 => (bif (decide ((v1000.toNat : Int) = (45 : Int))) then F_spec_l01Number_j0 v0 1
 else F_spec_l01Number_j0 v0 0))
 else F_spec_l01Number_j0 v0 0)
@[simp] def res_spec_l01Number (r : Int × Bool) : RV := .tup [.one (.val (.int .i64 r.1)), .one (.val (.bool r.2))]
theorem con_spec_l01Number {v0 : List UInt8} {r : Int × Bool} (hF : F_spec_l01Number v0 = some r) : Con Tryd.prog 90 [.str v0] (res_spec_l01Number r) := by
 unfold F_spec_l01Number at hF
 refine con_of c90_is fun N => ?_
 refine ws 0 128 ?_
 refine qp (AI 0) rfl (qp (AB false) rfl ?_)
 refine r_nil ?_
 refine ws 128 192 ?_
 refine qp (AI 0) rfl ?_
 refine r_nil ?_
 refine w_meet (fun s' => ∃ (v50000 : Int), s' = mkS [(0, AS v0), (4, AI v50000)] (fo []) 1 ∧ F_spec_l01Number_j0 v0 v50000 = some r) ?_ ?_
 ·
  refine ws 192 704 ?_
  refine qp (AS v0) rfl (qp (AI (v0.length : Int)) rfl (qp (AB (decide ((0 : Int) < (v0.length : Int)))) rfl (qp (AB (decide ((0 : Int) < (v0.length : Int)))) rfl ?_)))
  refine q_case 10 hF rfl (fun hF => ?_) (fun hF => ?_)
  ·
   refine qg (AS v0) rfl rfl ?_
   obtain ⟨v1000, e1000, hF⟩ := bind_get hF
   refine qg (.val none (.int .u8 (v1000.toNat : Int))) rfl (ev_ixs rfl rfl e1000) (qg (AB (decide ((v1000.toNat : Int) = (45 : Int)))) rfl rfl (qp (AB (decide ((v1000.toNat : Int) = (45 : Int)))) rfl ?_))
   refine r_nil ?_
   refine cF hF (fun hF => ?_) fun hF => ?_
   ·
    refine w_reg 704 768 rfl rfl ?_
    refine qp (AI 1) rfl ?_
    refine r_nil ?_
    refine thenQ_n ?_
    refine aw_ren (l' := [(0, AS v0), (4, AI 1)]) (L := []) [0, 4] [] 1 (by first | rfl | simp) (by first | rfl | simp) (by decide) (by decide) (by decide) ⟨_, rfl, hF⟩
   ·
    refine w_skip ?_
    refine thenQ_n ?_
    refine aw_ren (l' := [(0, AS v0), (4, AI 0)]) (L := []) [0, 4] [] 1 (by first | rfl | simp) (by first | rfl | simp) (by decide) (by decide) (by decide) ⟨_, rfl, hF⟩
  ·
   refine qn rfl (qn rfl (qn rfl (qp (AB false) rfl ?_)))
   refine r_nil ?_
   refine w_false rfl ?_
   refine w_skip ?_
   refine thenQ_n ?_
   refine aw_ren (l' := [(0, AS v0), (4, AI 0)]) (L := []) [0, 4] [] 1 (by first | rfl | simp) (by first | rfl | simp) (by decide) (by decide) (by decide) ⟨_, rfl, hF⟩
 ·
  rintro s' ⟨v50000, rfl, hF⟩
  unfold F_spec_l01Number_j0 at hF
  refine w_meet (fun s' => s' = mkS [(0, AS v0), (4, AI v50000)] (fo []) 1 ∧ F_spec_l01Number_j1 v0 v50000 = some r) ?_ ?_
  ·
   refine ws 1 1409 ?_
   refine qp (AS v0) rfl (qp (AI (v0.length : Int)) rfl (qp (AI v50000) rfl (qp (AB (decide ((v0.length : Int) = v50000))) rfl (qp (AB (decide ((v0.length : Int) = v50000))) rfl ?_))))
   refine q_case 19 hF rfl (fun hF => ?_) (fun hF => ?_)
   ·
    refine qn rfl (qn rfl (qn rfl (qn rfl (qn rfl (qp (AB true) rfl (qp (AB true) rfl (qn rfl ?_)))))))
    refine qn rfl (qn rfl (qn rfl (qn rfl (qu rfl (qu rfl (qu rfl (qn rfl ?_)))))))
    refine qp (AB true) rfl ?_
    refine r_nil ?_
    refine w_true rfl ?_
    refine ws 1409 1537 ?_
    refine qp (AI 0) rfl (qp (AB false) rfl ?_)
    refine r_nil ?_
    refine w_ret ?_
    refine thenQ_r ?_
    cases hF
    exact eR
   ·
    refine qg (AS v0) rfl rfl (qg (AI (v0.length : Int)) rfl rfl (qg (AI v50000) rfl rfl (qg (AI (w64 ((v0.length : Int) - v50000))) rfl rfl (qg (AB (decide ((18 : Int) < w64 ((v0.length : Int) - v50000)))) rfl rfl (qp (AB (decide ((18 : Int) < w64 ((v0.length : Int) - v50000)))) rfl (qp (AB (decide ((18 : Int) < w64 ((v0.length : Int) - v50000)))) rfl ?_))))))
    refine q_case 26 hF rfl (fun hF => ?_) (fun hF => ?_)
    ·
     refine qn rfl (qn rfl (qn rfl (qn rfl (qn rfl (qu rfl (qu rfl (qu rfl ?_)))))))
     refine qn rfl (qp (AB true) rfl ?_)
     refine r_nil ?_
     refine w_true rfl ?_
     refine ws 1409 1537 ?_
     refine qp (AI 0) rfl (qp (AB false) rfl ?_)
     refine r_nil ?_
     refine w_ret ?_
     refine thenQ_r ?_
     cases hF
     exact eR
    ·
     refine qg (AS v0) rfl rfl (qg (AI v50000) rfl rfl ?_)
     obtain ⟨v1001, e1001, hF⟩ := bind_get hF
     refine qg (.val none (.int .u8 (v1001.toNat : Int))) rfl (ev_ixs rfl rfl e1001) (qg (AB (decide ((v1001.toNat : Int) = (48 : Int)))) rfl rfl (qg (AB (decide ((v1001.toNat : Int) = (48 : Int)))) rfl rfl ?_))
     refine q_case 31 hF rfl (fun hF => ?_) (fun hF => ?_)
     ·
      refine qg (AS v0) rfl rfl (qg (AI (v0.length : Int)) rfl rfl (qg (AB (decide ((1 : Int) < (v0.length : Int)))) rfl rfl (qg (AB (decide ((1 : Int) < (v0.length : Int)))) rfl rfl (qp (AB (decide ((1 : Int) < (v0.length : Int)))) rfl ?_))))
      refine r_nil ?_
      refine cF hF (fun hF => ?_) fun hF => ?_
      ·
       refine ws 1409 1537 ?_
       refine qp (AI 0) rfl (qp (AB false) rfl ?_)
       refine r_nil ?_
       refine w_ret ?_
       refine thenQ_r ?_
       cases hF
       exact eR
      ·
       refine w_skip ?_
       refine thenQ_n ?_
       refine aw_ren (l' := [(0, AS v0), (4, AI v50000)]) (L := []) [0, 4] [] 1 (by first | rfl | simp) (by first | rfl | simp) (by decide) (by decide) (by decide) ⟨rfl, hF⟩
     ·
      refine qn rfl (qn rfl (qn rfl (qg (AB false) rfl rfl (qp (AB false) rfl ?_))))
      refine r_nil ?_
      refine w_false rfl ?_
      refine w_skip ?_
      refine thenQ_n ?_
      refine aw_ren (l' := [(0, AS v0), (4, AI v50000)]) (L := []) [0, 4] [] 1 (by first | rfl | simp) (by first | rfl | simp) (by decide) (by decide) (by decide) ⟨rfl, hF⟩
  ·
   rintro s' ⟨rfl, hF⟩
   unfold F_spec_l01Number_j1 at hF
   refine ws 1 65 ?_
   refine qp (AI 0) rfl ?_
   refine r_nil ?_
   refine w_seq ?_
   refine ws 65 193 ?_
   refine qp (AI v50000) rfl (qp (AI v50000) rfl ?_)
   refine r_nil ?_
   refine w_block ?_
   refine wr (l' := [(0, AS v0), (4, AI v50000), (5, AI 0), (6, AI v50000)]) (L := []) [0, 4, 5, 6] [] 1 ?_
   refine w_loopF (F_spec_l01Number_l2 v0 v50000) (fun s : Int × Int => mkS [(0, AS v0), (4, AI v50000), (5, AI s.1), (6, AI s.2)] (fo []) 1) hF ?_
   rintro k0 ⟨v50003, v50004⟩ hF
   rw [F_spec_l01Number_l2] at hF
   try dsimp only
   refine w_seq ?_
   refine ws 1 257 ?_
   refine qp (AI v50004) rfl (qp (AS v0) rfl (qp (AI (v0.length : Int)) rfl (qp (AB (decide (v50004 < (v0.length : Int)))) rfl ?_)))
   refine r_nil ?_
   refine cF hF (fun hF => ?_) fun hF => ?_
   ·
    refine w_skip ?_
    refine thenQ_n ?_
    refine w_seq ?_
    refine w_block ?_
    refine w_seq ?_
    refine ws 257 577 ?_
    refine qp (AS v0) rfl (qp (AI v50004) rfl ?_)
    obtain ⟨v1002, e1002, hF⟩ := bind_get hF
    refine qp (.val none (.int .u8 (v1002.toNat : Int))) (ev_ixs rfl rfl e1002) ?_
    obtain ⟨v1003, e1003, hF⟩ := bind_get hF
    refine qc (AB v1003) [] false (con_spec_l01Digit e1003) c132_ok (by first | rfl | simp) rfl ?_
    refine qp (AB (!v1003)) rfl ?_
    refine r_nil ?_
    refine cF hF (fun hF => ?_) fun hF => ?_
    ·
     refine ws 577 705 ?_
     refine qp (AI 0) rfl (qp (AB false) rfl ?_)
     refine r_nil ?_
     refine w_ret ?_
     refine thenQ_r ?_
     refine blockQ_r ?_
     refine thenQ_r ?_
     refine thenQ_r ?_
     refine blockQ_r ?_
     refine thenQ_r ?_
     cases hF
     exact eR
    ·
     refine w_skip ?_
     refine thenQ_n ?_
     refine w_reg 577 1153 rfl rfl ?_
     refine qp (AI v50003) rfl (qp (AI (w64 (10 * v50003))) rfl (qp (AS v0) rfl (qp (AI v50004) rfl ?_)))
     obtain ⟨v1004, e1004, hF⟩ := bind_get hF
     refine qp (.val none (.int .u8 (v1004.toNat : Int))) (ev_ixs rfl rfl e1004) (qp (.val none (.int .u8 (IntKind.wrap .u8 ((v1004.toNat : Int) - 48)))) rfl (qp (AI (w64 (IntKind.wrap .u8 ((v1004.toNat : Int) - 48)))) rfl (qp (AI (w64 ((w64 (10 * v50003)) + (w64 (IntKind.wrap .u8 ((v1004.toNat : Int) - 48)))))) rfl (qp (AI (w64 ((w64 (10 * v50003)) + (w64 (IntKind.wrap .u8 ((v1004.toNat : Int) - 48)))))) rfl ?_))))
     refine r_nil ?_
     refine blockQ_n ?_
     refine thenQ_n ?_
     refine w_reg 1153 1345 rfl rfl ?_
     refine qp (AI v50004) rfl (qp (AI (w64 (v50004 + 1))) rfl (qp (AI (w64 (v50004 + 1))) rfl ?_))
     refine r_nil ?_
     refine thenQ_n ?_
     refine ar (l' := [(0, AS v0), (4, AI v50000), (5, AI (w64 ((w64 (10 * v50003)) + (w64 (IntKind.wrap .u8 ((v1004.toNat : Int) - 48)))))), (6, AI (w64 (v50004 + 1)))]) (L := []) [0, 4, 5, 6] [] 1 ⟨_, by rfl, hF⟩
   ·
    refine w_exit ?_
    refine thenQ_e ?_
    refine thenQ_e ?_
    refine blockQ_e ?_
    refine thenQ_n ?_
    refine w_seq ?_
    refine ws 257 385 ?_
    refine qp (AI v50000) rfl (qp (AB (decide (v50000 = (1 : Int)))) rfl ?_)
    refine r_nil ?_
    refine cF hF (fun hF => ?_) fun hF => ?_
    ·
     refine w_reg 385 577 rfl rfl ?_
     refine qp (AI v50003) rfl (qp (AI (w64 (0 - v50003))) rfl (qp (AI (w64 (0 - v50003))) rfl ?_))
     refine r_nil ?_
     refine thenQ_n ?_
     refine ws 577 769 ?_
     refine qp (AI (w64 (0 - v50003))) rfl (qp (AI (w64 (0 - v50003))) rfl (qp (AB true) rfl ?_))
     refine r_nil ?_
     refine w_ret ?_
     cases hF
     exact eR
    ·
     refine w_skip ?_
     refine thenQ_n ?_
     refine ws 385 577 ?_
     refine qp (AI v50003) rfl (qp (AI v50003) rfl (qp (AB true) rfl ?_))
     refine r_nil ?_
     refine w_ret ?_
     cases hF
     exact eR

def c98 : MC := (.seq (.reg [rg 6 (.p true (.mv (.c (.bool false))))]) (.seq (.reg [mvt 7 0, mvt 8 1, rg 9 (.p true (.bin .geq (.t 7) (.t 8))), mvt 10 9, ⟨(some 11), (some (10, true)), (.p true (.mv (.t 0)))⟩, ⟨(some 12), (some (10, true)), (.p true (.mv (.t 2)))⟩, ⟨(some 13), (some (10, true)), (.p true (.bin .leq (.t 11) (.t 12)))⟩, rg 14 (.p true (.pick (.t 10) (.t 13) (.c (.bool false)))), mvt 6 14]) .ret))
theorem c98_is : compFn Tryd.prog 98 = some (c98, [(.tmp 6)]) := by kernel_rfl
theorem c98_ok : okFn Tryd.prog 98 = true := by kernel_rfl

noncomputable def F_spec_l00In (v0 : Int) (v1 : Int) (v2 : Int) : Option (Bool) :=
 (bif (decide (v1 ≤ v0)) then some (decide (v0 ≤ v2))
 else some false)
@[simp] def res_spec_l00In (r : Bool) : RV := .one (.one (.val (.bool r)))
theorem con_spec_l00In {v0 : Int} {v1 : Int} {v2 : Int} {r : Bool} (hF : F_spec_l00In v0 v1 v2 = some r) : Con Tryd.prog 98 [.int .i64 v0, .int .i64 v1, .int .i64 v2] (res_spec_l00In r) := by
 unfold F_spec_l00In at hF
 refine con_of c98_is fun N => ?_
 refine ws 0 64 ?_
 refine qp (AB false) rfl ?_
 refine r_nil ?_
 refine ws 64 640 ?_
 refine qp (AI v0) rfl (qp (AI v1) rfl (qp (AB (decide (v1 ≤ v0))) rfl (qp (AB (decide (v1 ≤ v0))) rfl ?_)))
 refine q_case 10 hF rfl (fun hF => ?_) (fun hF => ?_)
 ·
  refine qg (AI v0) rfl rfl (qg (AI v2) rfl rfl (qg (AB (decide (v0 ≤ v2))) rfl rfl (qp (AB (decide (v0 ≤ v2))) rfl (qp (AB (decide (v0 ≤ v2))) rfl ?_))))
  refine r_nil ?_
  refine w_ret ?_
  cases hF
  exact eR
 ·
  refine qn rfl (qn rfl (qn rfl (qp (AB false) rfl (qp (AB false) rfl ?_))))
  refine r_nil ?_
  refine w_ret ?_
  cases hF
  exact eR

def c91 : MC := (.seq (.reg [rg 2 (.f (.nilrow 1)), rg 3 (.p true (.mv (.c (.bool false))))]) (.seq (.seq (.reg [mvt 9 0, rg 10 (.p true (.bin .eql (.t 9) (.c (.str [45]))))]) (.cond (.t 10) (.seq (.reg [rg 11 (.f (.bsl 1 [])), mvt 2 11, rg 3 (.p true (.mv (.c (.bool true))))]) .ret) .skip)) (.seq (.reg [mvt 12 0, rg 13 (.call true 89 [(.t 12), (.c (.int .u8 44))]), mvt 4 13]) (.seq (.seq (.reg [mvt 14 4, rg 15 (.p true (.len (.t 14))), rg 16 (.p true (.bin .gtr (.t 15) (.c (.int .i64 64))))]) (.cond (.t 16) (.seq (.reg [rg 2 (.f (.nilrow 1)), rg 3 (.p true (.mv (.c (.bool false))))]) .ret) .skip)) (.seq (.reg [rg 17 (.f (.bsl 1 [])), mvt 5 17]) (.seq (.seq (.reg [rg 6 (.p true (.mv (.c (.int .i64 0))))]) (.block 0 (.loop (.seq (.seq (.reg [mvt 18 6, mvt 19 4, rg 20 (.p true (.len (.t 19))), rg 21 (.p true (.bin .lss (.t 18) (.t 20)))]) (.cond (.t 21) .skip (.exit 0))) (.seq (.block 1 (.seq (.reg [mvt 25 4, mvt 26 6, rg 27 (.p true (.iad (.t 25) (.t 26) 1)), rg 28 (.p true (.ld (.t 27) 1 false)), rg 29 (.call true 90 [(.t 28)]), mvt 24 29, rg 30 (.p true (.ext (.t 24) 0)), rg 31 (.p true (.ext (.t 24) 1)), mvt 7 30, mvt 8 31]) (.seq (.seq (.reg [mvt 32 8, rg 33 (.p true (.not (.t 32))), mvt 34 33, ⟨(some 35), (some (34, false)), (.p true (.mv (.t 7)))⟩, ⟨(some 36), (some (34, false)), (.call true 98 [(.t 35), (.c (.int .i64 (-1000000000000))), (.c (.int .i64 1000000000000))])⟩, ⟨(some 37), (some (34, false)), (.p true (.not (.t 36)))⟩, rg 38 (.p true (.pick (.t 34) (.c (.bool true)) (.t 37)))]) (.cond (.t 38) (.seq (.reg [rg 2 (.f (.nilrow 1)), rg 3 (.p true (.mv (.c (.bool false))))]) .ret) .skip)) (.reg [mvt 39 5, mvt 40 7, rg 41 (.f (.bsl 1 [(.t 40)])), rg 42 (.f (.app (.t 39) (.t 41) 1 8 true)), mvt 5 42])))) (.reg [mvt 22 6, rg 23 (.p true (.bin .add (.t 22) (.c (.int .i64 1)))), mvt 6 23])))))) (.seq (.reg [mvt 43 5, mvt 2 43, rg 3 (.p true (.mv (.c (.bool true))))]) .ret)))))))
theorem c91_is : compFn Tryd.prog 91 = some (c91, [(.tmp 2), (.tmp 3)]) := by kernel_rfl
theorem c91_ok : okFn Tryd.prog 91 = true := by kernel_rfl

noncomputable def F_spec_ReadList_l0 (v1000 : List (List UInt8)) (k1 : Int × (List Int) → Option ((List Int) × Bool)) : Int × (List Int) → Option ((List Int) × Bool)
 | (v50006, v50007) => (bif (decide (v50006 < (v1000.length : Int))) then ((ix v1000 v50006).bind fun v1009 => ((F_spec_l01Number v1009).bind fun v1010 => (bif (!v1010.2) then some ([], false)
 else ((F_spec_l00In v1010.1 (-1000000000000) 1000000000000).bind fun v1011 => (bif (!v1011) then some ([], false)
 else (need (room (v50007.length + [v1010.1].length) 8) (k1 (w64 (v50006 + 1), v50007 ++ [v1010.1]))))))))
 else some (v50007, true))
noncomputable def F_spec_ReadList (v0 : List UInt8) : Option ((List Int) × Bool) :=
 (bif (decide (v0 = [45])) then some ([], true)
 else ((F_spec_l01Split v0 44).bind fun v1000 => (bif (decide ((64 : Int) < (v1000.length : Int))) then some ([], false)
 else loop (F_spec_ReadList_l0 v1000) (0, []))))
@[simp] def res_spec_ReadList (r : (List Int) × Bool) : RV := .tup [.one (.row true 1 (r.1.map vI)), .one (.val (.bool r.2))]
theorem con_spec_ReadList {v0 : List UInt8} {r : (List Int) × Bool} (hF : F_spec_ReadList v0 = some r) : Con Tryd.prog 91 [.str v0] (res_spec_ReadList r) := by
 unfold F_spec_ReadList at hF
 refine con_of c91_is fun N => ?_
 refine ws 0 128 ?_
 refine qf (.sl 0 0 0) [(0, .row true 1 (([] : List Int).map vI))] (by simp) ?_
 refine qp (AB false) rfl ?_
 refine r_nil ?_
 refine w_seq ?_
 refine ws 128 256 ?_
 refine qp (AS v0) rfl (qp (AB (decide (v0 = [45]))) rfl ?_)
 refine r_nil ?_
 refine cF hF (fun hF => ?_) fun hF => ?_
 ·
  refine ws 256 448 ?_
  refine qf (.sl 256 0 0) [(256, .row true 1 (([] : List Int).map vI)), (0, .row true 1 (([] : List Int).map vI))] (by simp [List.take_of_length_le]) ?_
  refine qp (.sl 256 0 0) rfl (qp (AB true) rfl ?_)
  refine r_nil ?_
  refine w_ret ?_
  refine thenQ_r ?_
  cases hF
  exact eR
 ·
  refine w_skip ?_
  refine thenQ_n ?_
  refine ws 256 448 ?_
  refine qp (AS v0) rfl ?_
  obtain ⟨v1000, e1000, hF⟩ := bind_get hF
  refine qc (.sl 320 0 v1000.length) [(320, .row true 1 (v1000.map V.str)), (0, .row true 1 (([] : List Int).map vI))] false (con_spec_l01Split e1000) c89_ok (by first | rfl | simp) (by simp [res_spec_l01Split]) ?_
  refine qp (.sl 320 0 v1000.length) rfl ?_
  refine r_nil ?_
  refine w_seq ?_
  refine ws 448 640 ?_
  refine qp (.sl 320 0 v1000.length) rfl (qp (AI (v1000.length : Int)) rfl (qp (AB (decide ((64 : Int) < (v1000.length : Int)))) rfl ?_))
  refine r_nil ?_
  refine cF hF (fun hF => ?_) fun hF => ?_
  ·
   refine ws 640 768 ?_
   refine qf (.sl 640 0 0) [(640, .row true 1 (([] : List Int).map vI)), (320, .row true 1 (v1000.map V.str)), (0, .row true 1 (([] : List Int).map vI))] (by simp) ?_
   refine qp (AB false) rfl ?_
   refine r_nil ?_
   refine w_ret ?_
   refine thenQ_r ?_
   cases hF
   exact eR
  ·
   refine w_skip ?_
   refine thenQ_n ?_
   refine ws 640 768 ?_
   refine qf (.sl 640 0 0) [(640, .row true 1 (([] : List Int).map vI)), (320, .row true 1 (v1000.map V.str)), (0, .row true 1 (([] : List Int).map vI))] (by simp [List.take_of_length_le]) ?_
   refine qp (.sl 640 0 0) rfl ?_
   refine r_nil ?_
   refine w_seq ?_
   refine ws 768 832 ?_
   refine qp (AI 0) rfl ?_
   refine r_nil ?_
   refine w_block ?_
   refine wr (l' := [(4, .sl 0 0 v1000.length), (5, .sl 1 0 0), (6, AI 0)]) (L := [(1, .row true 1 (([] : List Int).map vI)), (0, .row true 1 (v1000.map V.str))]) [4, 5, 6] [(640, 1), (320, 0)] 2 ?_
   refine w_loopF (F_spec_ReadList_l0 v1000) (fun s : Int × (List Int) => mkS [(4, .sl 0 0 v1000.length), (5, .sl 1 0 s.2.length), (6, AI s.1)] (fo [(1, .row true 1 (s.2.map vI)), (0, .row true 1 (v1000.map V.str))]) 2) hF ?_
   rintro k1 ⟨v50006, v50007⟩ hF
   rw [F_spec_ReadList_l0] at hF
   try dsimp only
   refine w_seq ?_
   refine ws 2 258 ?_
   refine qp (AI v50006) rfl (qp (.sl 0 0 v1000.length) rfl (qp (AI (v1000.length : Int)) rfl (qp (AB (decide (v50006 < (v1000.length : Int)))) rfl ?_)))
   refine r_nil ?_
   refine cF hF (fun hF => ?_) fun hF => ?_
   ·
    refine w_skip ?_
    refine thenQ_n ?_
    refine w_seq ?_
    refine w_block ?_
    refine ws 258 898 ?_
    refine qp (.sl 0 0 v1000.length) rfl (qp (AI v50006) rfl ?_)
    obtain ⟨v1009, e1009, hF⟩ := bind_get hF
    refine qp (.ptr 0 v50006.toNat 0) (ev_iad_r rfl (by simp) rfl rfl e1009) (qp (AS v1009) (ev_ld_r rfl rfl (ix_some e1009).2 rfl rfl) ?_)
    obtain ⟨v1010, e1010, hF⟩ := bind_get hF
    refine qc (.tup [AI v1010.1, AB v1010.2]) [(1, .row true 1 (v50007.map vI)), (0, .row true 1 (v1000.map V.str))] false (con_spec_l01Number e1010) c90_ok (by first | rfl | simp) rfl ?_
    refine qp (.tup [AI v1010.1, AB v1010.2]) rfl (qp (AI v1010.1) rfl (qp (AB v1010.2) rfl (qp (AI v1010.1) rfl (qp (AB v1010.2) rfl ?_))))
    refine r_nil ?_
    refine w_seq ?_
    refine ws 898 1346 ?_
    refine qp (AB v1010.2) rfl (qp (AB (!v1010.2)) rfl (qp (AB (!v1010.2)) rfl ?_))
    refine q_case 34 hF rfl (fun hF => ?_) (fun hF => ?_)
    ·
     refine qn rfl (qn rfl (qn rfl (qp (AB true) rfl ?_)))
     refine r_nil ?_
     refine w_true rfl ?_
     refine ws 1346 1474 ?_
     refine qf (.sl 1346 0 0) [(1346, .row true 1 (([] : List Int).map vI)), (1, .row true 1 (v50007.map vI)), (0, .row true 1 (v1000.map V.str))] (by simp) ?_
     refine qp (AB false) rfl ?_
     refine r_nil ?_
     refine w_ret ?_
     refine thenQ_r ?_
     refine blockQ_r ?_
     refine thenQ_r ?_
     refine thenQ_r ?_
     refine blockQ_r ?_
     refine thenQ_r ?_
     cases hF
     exact eR
    ·
     refine qg (AI v1010.1) rfl rfl ?_
     obtain ⟨v1011, e1011, hF⟩ := bind_get hF
     refine qcg (AB v1011) [(1, .row true 1 (v50007.map vI)), (0, .row true 1 (v1000.map V.str))] false rfl (con_spec_l00In e1011) c98_ok (by first | rfl | simp) rfl ?_
     refine qg (AB (!v1011)) rfl rfl (qp (AB (!v1011)) rfl ?_)
     refine r_nil ?_
     refine cF hF (fun hF => ?_) fun hF => ?_
     ·
      refine ws 1346 1474 ?_
      refine qf (.sl 1346 0 0) [(1346, .row true 1 (([] : List Int).map vI)), (1, .row true 1 (v50007.map vI)), (0, .row true 1 (v1000.map V.str))] (by simp) ?_
      refine qp (AB false) rfl ?_
      refine r_nil ?_
      refine w_ret ?_
      refine thenQ_r ?_
      refine blockQ_r ?_
      refine thenQ_r ?_
      refine thenQ_r ?_
      refine blockQ_r ?_
      refine thenQ_r ?_
      cases hF
      exact eR
     ·
      refine w_skip ?_
      refine thenQ_n ?_
      refine w_reg 1346 1666 rfl rfl ?_
      refine qp (.sl 1 0 v50007.length) rfl (qp (AI v1010.1) rfl ?_)
      refine qf (.sl 1474 0 ([v1010.1].length)) [(1474, .row true 1 ([v1010.1].map vI)), (1, .row true 1 (v50007.map vI)), (0, .row true 1 (v1000.map V.str))] (by simp [List.take_of_length_le]) ?_
      obtain ⟨g1012, hF⟩ := need_some hF
      refine qf (.sl 1538 0 ((v50007 ++ [v1010.1]).length)) [(1538, .row true 1 ((v50007 ++ [v1010.1]).map vI)), (1, .dead), (1474, .dead), (1474, .row true 1 ([v1010.1].map vI)), (1, .row true 1 (v50007.map vI)), (0, .row true 1 (v1000.map V.str))] (effT_app_l rfl (by simp) rfl rfl (by simp) rfl (by decide) g1012 rfl) ?_
      refine qp (.sl 1538 0 ((v50007 ++ [v1010.1]).length)) rfl ?_
      refine r_nil ?_
      refine blockQ_n ?_
      refine thenQ_n ?_
      refine w_reg 1666 1858 rfl rfl ?_
      refine qp (AI v50006) rfl (qp (AI (w64 (v50006 + 1))) rfl (qp (AI (w64 (v50006 + 1))) rfl ?_))
      refine r_nil ?_
      refine thenQ_n ?_
      refine ar (l' := [(4, .sl 0 0 v1000.length), (5, .sl 1 0 (v50007 ++ [v1010.1]).length), (6, AI (w64 (v50006 + 1)))]) (L := [(1, .row true 1 ((v50007 ++ [v1010.1]).map vI)), (0, .row true 1 (v1000.map V.str))]) [4, 5, 6] [(1538, 1), (0, 0)] 2 ⟨_, by rfl, hF⟩
   ·
    refine w_exit ?_
    refine thenQ_e ?_
    refine thenQ_e ?_
    refine blockQ_e ?_
    refine thenQ_n ?_
    refine ws 258 450 ?_
    refine qp (.sl 1 0 v50007.length) rfl (qp (.sl 1 0 v50007.length) rfl (qp (AB true) rfl ?_))
    refine r_nil ?_
    refine w_ret ?_
    cases hF
    exact eR

def c158 : MC := (.seq (.reg [rg 2 (.p true (.mv (.c (.bool false))))]) (.seq (.reg [mvt 3 0, rg 4 (.call true 98 [(.t 3), (.c (.int .i64 (-12))), (.c (.int .i64 23))]), mvt 2 4]) .ret))
theorem c158_is : compFn Tryd.prog 158 = some (c158, [(.tmp 2)]) := by kernel_rfl
theorem c158_ok : okFn Tryd.prog 158 = true := by kernel_rfl

noncomputable def F_spec_l03Pitch (v0 : Int) : Option (Bool) :=
 ((F_spec_l00In v0 (-12) 23).bind fun v1000 => some v1000)
@[simp] def res_spec_l03Pitch (r : Bool) : RV := .one (.one (.val (.bool r)))
theorem con_spec_l03Pitch {v0 : Int} {r : Bool} (hF : F_spec_l03Pitch v0 = some r) : Con Tryd.prog 158 [.int .i64 v0] (res_spec_l03Pitch r) := by
 unfold F_spec_l03Pitch at hF
 refine con_of c158_is fun N => ?_
 refine ws 0 64 ?_
 refine qp (AB false) rfl ?_
 refine r_nil ?_
 refine ws 64 256 ?_
 refine qp (AI v0) rfl ?_
 obtain ⟨v1000, e1000, hF⟩ := bind_get hF
 refine qc (AB v1000) [] false (con_spec_l00In e1000) c98_ok (by first | rfl | simp) rfl ?_
 refine qp (AB v1000) rfl ?_
 refine r_nil ?_
 refine w_ret ?_
 cases hF
 exact eR

def c133 : MC := (.seq (.reg [rg 2 (.p true (.mv (.c (.bool false))))]) (.seq (.seq (.reg [rg 3 (.p true (.mv (.c (.int .i64 0))))]) (.block 0 (.loop (.seq (.seq (.reg [mvt 4 3, mvt 5 0, rg 6 (.p true (.len (.t 5))), rg 7 (.p true (.bin .lss (.t 4) (.t 6)))]) (.cond (.t 7) .skip (.exit 0))) (.seq (.block 1 (.seq (.reg [mvt 10 0, mvt 11 3, rg 12 (.p true (.iad (.t 10) (.t 11) 1)), rg 13 (.p true (.ld (.t 12) 1 false)), rg 14 (.call true 158 [(.t 13)]), rg 15 (.p true (.not (.t 14)))]) (.cond (.t 15) (.seq (.reg [rg 2 (.p true (.mv (.c (.bool false))))]) .ret) .skip))) (.reg [mvt 8 3, rg 9 (.p true (.bin .add (.t 8) (.c (.int .i64 1)))), mvt 3 9])))))) (.seq (.reg [mvt 16 0, rg 17 (.p true (.len (.t 16))), rg 18 (.p true (.bin .leq (.t 17) (.c (.int .i64 64)))), mvt 2 18]) .ret)))
theorem c133_is : compFn Tryd.prog 133 = some (c133, [(.tmp 2)]) := by kernel_rfl
theorem c133_ok : okFn Tryd.prog 133 = true := by kernel_rfl

noncomputable def F_spec_l05Pitches_l0 (v0 : List Int) (k0 : Int → Option (Bool)) : Int → Option (Bool)
 | v50001 => (bif (decide (v50001 < (v0.length : Int))) then ((ix v0 v50001).bind fun v1000 => ((F_spec_l03Pitch v1000).bind fun v1001 => (bif (!v1001) then some false
 else k0 (w64 (v50001 + 1)))))
 else some (decide ((v0.length : Int) ≤ (64 : Int))))
noncomputable def F_spec_l05Pitches (v0 : List Int) : Option (Bool) :=
 loop (F_spec_l05Pitches_l0 v0) 0
@[simp] def res_spec_l05Pitches (r : Bool) : RV := .one (.one (.val (.bool r)))
theorem con_spec_l05Pitches {v0 : List Int} {r : Bool} (hF : F_spec_l05Pitches v0 = some r) : Con Tryd.prog 133 [.sl 1 (v0.map vI)] (res_spec_l05Pitches r) := by
 unfold F_spec_l05Pitches at hF
 refine con_of c133_is fun N => ?_
 refine ws 0 64 ?_
 refine qp (AB false) rfl ?_
 refine r_nil ?_
 refine w_seq ?_
 refine ws 64 128 ?_
 refine qp (AI 0) rfl ?_
 refine r_nil ?_
 refine w_block ?_
 refine wr (l' := [(0, AL 1 (v0.map vI)), (3, AI 0)]) (L := []) [0, 3] [] 1 ?_
 refine w_loopF (F_spec_l05Pitches_l0 v0) (fun s : Int => mkS [(0, AL 1 (v0.map vI)), (3, AI s)] (fo []) 1) hF ?_
 rintro k0 v50001 hF
 rw [F_spec_l05Pitches_l0] at hF
 try dsimp only
 refine w_seq ?_
 refine ws 1 257 ?_
 refine qp (AI v50001) rfl (qp (AL 1 (v0.map vI)) rfl (qp (AI (v0.length : Int)) (ev_len_n rfl) (qp (AB (decide (v50001 < (v0.length : Int)))) rfl ?_)))
 refine r_nil ?_
 refine cF hF (fun hF => ?_) fun hF => ?_
 ·
  refine w_skip ?_
  refine thenQ_n ?_
  refine w_seq ?_
  refine w_block ?_
  refine ws 257 641 ?_
  refine qp (AL 1 (v0.map vI)) rfl (qp (AI v50001) rfl ?_)
  obtain ⟨v1000, e1000, hF⟩ := bind_get hF
  refine qp (.val none (.ptr [.int .i64 v1000])) (ev_iad_n rfl rfl e1000 rfl) (qp (AI v1000) rfl ?_)
  obtain ⟨v1001, e1001, hF⟩ := bind_get hF
  refine qc (AB v1001) [] false (con_spec_l03Pitch e1001) c158_ok (by first | rfl | simp) rfl ?_
  refine qp (AB (!v1001)) rfl ?_
  refine r_nil ?_
  refine cF hF (fun hF => ?_) fun hF => ?_
  ·
   refine ws 641 705 ?_
   refine qp (AB false) rfl ?_
   refine r_nil ?_
   refine w_ret ?_
   refine blockQ_r ?_
   refine thenQ_r ?_
   refine thenQ_r ?_
   refine blockQ_r ?_
   refine thenQ_r ?_
   cases hF
   exact eR
  ·
   refine w_skip ?_
   refine blockQ_n ?_
   refine thenQ_n ?_
   refine w_reg 641 833 rfl rfl ?_
   refine qp (AI v50001) rfl (qp (AI (w64 (v50001 + 1))) rfl (qp (AI (w64 (v50001 + 1))) rfl ?_))
   refine r_nil ?_
   refine thenQ_n ?_
   refine ar (l' := [(0, AL 1 (v0.map vI)), (3, AI (w64 (v50001 + 1)))]) (L := []) [0, 3] [] 1 ⟨_, by rfl, hF⟩
 ·
  refine w_exit ?_
  refine thenQ_e ?_
  refine thenQ_e ?_
  refine blockQ_e ?_
  refine thenQ_n ?_
  refine ws 257 513 ?_
  refine qp (AL 1 (v0.map vI)) rfl (qp (AI (v0.length : Int)) (ev_len_n rfl) (qp (AB (decide ((v0.length : Int) ≤ (64 : Int)))) rfl (qp (AB (decide ((v0.length : Int) ≤ (64 : Int)))) rfl ?_)))
  refine r_nil ?_
  refine w_ret ?_
  cases hF
  exact eR

def c92 : MC := (.seq (.reg [rg 2 (.p true (.mv (.c (.bool false))))]) (.seq (.reg [mvt 3 0, rg 4 (.p true (.nck (.t 3))), rg 5 (.p true (.fad (.t 4) 0)), rg 6 (.p true (.ld (.t 5) 1 false)), rg 7 (.p true (.len (.t 6))), rg 8 (.call true 98 [(.t 7), (.c (.int .i64 1)), (.c (.int .i64 8))]), mvt 9 8, ⟨(some 10), (some (9, true)), (.p true (.mv (.t 0)))⟩, ⟨(some 11), (some (9, true)), (.p true (.nck (.t 10)))⟩, ⟨(some 12), (some (9, true)), (.p true (.fad (.t 11) 0))⟩, ⟨(some 13), (some (9, true)), (.p true (.ld (.t 12) 1 false))⟩, ⟨(some 14), (some (9, true)), (.call true 133 [(.t 13)])⟩, rg 15 (.p true (.pick (.t 9) (.t 14) (.c (.bool false)))), mvt 16 15, ⟨(some 17), (some (16, true)), (.p true (.mv (.t 0)))⟩, ⟨(some 18), (some (16, true)), (.p true (.nck (.t 17)))⟩, ⟨(some 19), (some (16, true)), (.p true (.fad (.t 18) 1))⟩, ⟨(some 20), (some (16, true)), (.p true (.ld (.t 19) 1 false))⟩, ⟨(some 21), (some (16, true)), (.call true 98 [(.t 20), (.c (.int .i64 0)), (.c (.int .i64 1000))])⟩, rg 22 (.p true (.pick (.t 16) (.t 21) (.c (.bool false)))), mvt 2 22]) .ret))
theorem c92_is : compFn Tryd.prog 92 = some (c92, [(.tmp 2)]) := by kernel_rfl
theorem c92_ok : okFn Tryd.prog 92 = true := by kernel_rfl

noncomputable def F_spec_l11One (v0 : TPattern) : Option (Bool) :=
 ((F_spec_l00In (v0.1.length : Int) 1 8).bind fun v1000 => (bif v1000 then ((F_spec_l05Pitches v0.1).bind fun v1001 => (bif v1001 then ((F_spec_l00In v0.2 0 1000).bind fun v1002 => some v1002)
 else some false))
 else some false))
@[simp] def res_spec_l11One (r : Bool) : RV := .one (.one (.val (.bool r)))
theorem con_spec_l11One {v0 : TPattern} {r : Bool} (hF : F_spec_l11One v0 = some r) : Con Tryd.prog 92 [.ptr [.sl 1 (v0.1.map vI), .int .i64 v0.2]] (res_spec_l11One r) := by
 unfold F_spec_l11One at hF
 refine con_of c92_is fun N => ?_
 refine ws 0 64 ?_
 refine qp (AB false) rfl ?_
 refine r_nil ?_
 refine ws 64 1408 ?_
 refine qp (.val none (.ptr [.sl 1 (v0.1.map vI), .int .i64 v0.2])) rfl (qp (.val none (.ptr [.sl 1 (v0.1.map vI), .int .i64 v0.2])) rfl (qp (.val none (.ptr [.sl 1 (v0.1.map vI), .int .i64 v0.2])) rfl (qp (AL 1 (v0.1.map vI)) rfl (qp (AI (v0.1.length : Int)) (ev_len_n rfl) ?_))))
 obtain ⟨v1000, e1000, hF⟩ := bind_get hF
 refine qc (AB v1000) [] false (con_spec_l00In e1000) c98_ok (by first | rfl | simp) rfl ?_
 refine qp (AB v1000) rfl ?_
 refine q_case 9 hF rfl (fun hF => ?_) (fun hF => ?_)
 ·
  refine qg (.val none (.ptr [.sl 1 (v0.1.map vI), .int .i64 v0.2])) rfl rfl (qg (.val none (.ptr [.sl 1 (v0.1.map vI), .int .i64 v0.2])) rfl rfl (qg (.val none (.ptr [.sl 1 (v0.1.map vI), .int .i64 v0.2])) rfl rfl (qg (AL 1 (v0.1.map vI)) rfl rfl ?_)))
  obtain ⟨v1001, e1001, hF⟩ := bind_get hF
  refine qcg (AB v1001) [] false rfl (con_spec_l05Pitches e1001) c133_ok (by first | rfl | simp) rfl ?_
  refine qp (AB v1001) rfl (qp (AB v1001) rfl ?_)
  refine q_case 16 hF rfl (fun hF => ?_) (fun hF => ?_)
  ·
   refine qg (.val none (.ptr [.sl 1 (v0.1.map vI), .int .i64 v0.2])) rfl rfl (qg (.val none (.ptr [.sl 1 (v0.1.map vI), .int .i64 v0.2])) rfl rfl (qg (.val none (.ptr [.int .i64 v0.2])) rfl rfl (qg (AI v0.2) rfl rfl ?_)))
   obtain ⟨v1002, e1002, hF⟩ := bind_get hF
   refine qcg (AB v1002) [] false rfl (con_spec_l00In e1002) c98_ok (by first | rfl | simp) rfl ?_
   refine qp (AB v1002) rfl (qp (AB v1002) rfl ?_)
   refine r_nil ?_
   refine w_ret ?_
   cases hF
   exact eR
  ·
   refine qn rfl (qn rfl (qn rfl (qn rfl (qn rfl (qp (AB false) rfl (qp (AB false) rfl ?_))))))
   refine r_nil ?_
   refine w_ret ?_
   cases hF
   exact eR
 ·
  refine qn rfl (qn rfl (qn rfl (qn rfl (qn rfl (qp (AB false) rfl (qp (AB false) rfl (qn rfl ?_)))))))
  refine qn rfl (qn rfl (qn rfl (qn rfl (qp (AB false) rfl (qp (AB false) rfl ?_)))))
  refine r_nil ?_
  refine w_ret ?_
  cases hF
  exact eR

def c43 : MC := (.seq (.reg [rg 2 (.f (.alloc [((.sl 0 []), (1, false)), ((.int .i64 0), (0, false))])), rg 3 (.p true (.mv (.c (.bool false))))]) (.seq (.reg [mvt 10 0, rg 11 (.call true 89 [(.t 10), (.c (.int .u8 58))]), mvt 4 11]) (.seq (.seq (.reg [mvt 12 4, rg 13 (.p true (.len (.t 12))), rg 14 (.p true (.bin .neq (.t 13) (.c (.int .i64 2))))]) (.cond (.t 14) (.seq (.reg [rg 15 (.f (.bld [((.sl 0 []), (1, false)), ((.int .i64 0), (0, false))] [])), ⟨none, none, (.f (.st (.t 2) (.t 15) 2))⟩, rg 3 (.p true (.mv (.c (.bool false))))]) .ret) .skip)) (.seq (.reg [mvt 17 4, rg 18 (.p true (.iad (.t 17) (.c (.int .i64 0)) 1)), rg 19 (.p true (.ld (.t 18) 1 false)), rg 20 (.call true 90 [(.t 19)]), mvt 16 20, rg 21 (.p true (.ext (.t 16) 0)), rg 22 (.p true (.ext (.t 16) 1)), mvt 5 21, mvt 6 22]) (.seq (.reg [mvt 24 4, rg 25 (.p true (.iad (.t 24) (.c (.int .i64 1)) 1)), rg 26 (.p true (.ld (.t 25) 1 false)), rg 27 (.call true 91 [(.t 26)]), mvt 23 27, rg 28 (.p true (.ext (.t 23) 0)), rg 29 (.p true (.ext (.t 23) 1)), mvt 7 28, mvt 8 29]) (.seq (.reg [mvt 30 7, mvt 31 5, rg 32 (.f (.bld [((.sl 0 []), (1, true)), ((.int .i64 0), (0, true))] [(0, (1, (.t 30))), (1, (1, (.t 31)))])), rg 9 (.f (.alloc [((.sl 0 []), (1, false)), ((.int .i64 0), (0, false))])), ⟨none, none, (.f (.st (.t 9) (.t 32) 2))⟩]) (.seq (.seq (.reg [mvt 33 6, rg 34 (.p true (.not (.t 33))), mvt 35 34, ⟨(some 36), (some (35, false)), (.p true (.mv (.t 8)))⟩, ⟨(some 37), (some (35, false)), (.p true (.not (.t 36)))⟩, rg 38 (.p true (.pick (.t 35) (.c (.bool true)) (.t 37))), mvt 39 38, ⟨(some 40), (some (39, false)), (.call true 92 [(.t 9)])⟩, ⟨(some 41), (some (39, false)), (.p true (.not (.t 40)))⟩, rg 42 (.p true (.pick (.t 39) (.c (.bool true)) (.t 41)))]) (.cond (.t 42) (.seq (.reg [rg 43 (.f (.bld [((.sl 0 []), (1, false)), ((.int .i64 0), (0, false))] [])), ⟨none, none, (.f (.st (.t 2) (.t 43) 2))⟩, rg 3 (.p true (.mv (.c (.bool false))))]) .ret) .skip)) (.seq (.reg [rg 44 (.p true (.ld (.t 9) 2 true)), ⟨none, none, (.f (.st (.t 2) (.t 44) 2))⟩, rg 3 (.p true (.mv (.c (.bool true))))]) .ret))))))))
theorem c43_is : compFn Tryd.prog 43 = some (c43, [(.cell (.ld (.t 2) 2 true)), (.tmp 3)]) := by kernel_rfl
theorem c43_ok : okFn Tryd.prog 43 = true := by kernel_rfl

noncomputable def F_spec_ReadPattern (v0 : List UInt8) : Option (TPattern × Bool) :=
 ((F_spec_l01Split v0 58).bind fun v1000 => (bif (decide ((v1000.length : Int) ≠ (2 : Int))) then some (([], 0), false)
 else ((ix v1000 0).bind fun v1001 => ((F_spec_l01Number v1001).bind fun v1002 => ((ix v1000 1).bind fun v1003 => ((F_spec_ReadList v1003).bind fun v1004 => (bif (!v1002.2) then some (([], 0), false)
 else (bif (!v1004.2) then some (([], 0), false)
 else ((F_spec_l11One (v1004.1, v1002.1)).bind fun v1005 => (bif (!v1005) then some (([], 0), false)
 else some ((v1004.1, v1002.1), true)))))))))))
@[simp] def res_spec_ReadPattern (r : TPattern × Bool) : RV := .tup [.agg [.row true 1 (r.1.1.map vI), .val (.int .i64 r.1.2)], .one (.val (.bool r.2))]
theorem con_spec_ReadPattern {v0 : List UInt8} {r : TPattern × Bool} (hF : F_spec_ReadPattern v0 = some r) : Con Tryd.prog 43 [.str v0] (res_spec_ReadPattern r) := by
 unfold F_spec_ReadPattern at hF
 refine con_of c43_is fun N => ?_
 refine ws 0 128 ?_
 refine qf (.ptr 0 0 0) [(0, .box [.sl 1 0 0, AI 0]), (1, .row true 1 (([] : List Int).map vI))] (by simp) ?_
 refine qp (AB false) rfl ?_
 refine r_nil ?_
 refine ws 128 320 ?_
 refine qp (AS v0) rfl ?_
 obtain ⟨v1000, e1000, hF⟩ := bind_get hF
 refine qc (.sl 192 0 v1000.length) [(192, .row true 1 (v1000.map V.str)), (0, .box [.sl 1 0 0, AI 0]), (1, .row true 1 (([] : List Int).map vI))] false (con_spec_l01Split e1000) c89_ok (by first | rfl | simp) (by simp [res_spec_l01Split]) ?_
 refine qp (.sl 192 0 v1000.length) rfl ?_
 refine r_nil ?_
 refine w_seq ?_
 refine ws 320 512 ?_
 refine qp (.sl 192 0 v1000.length) rfl (qp (AI (v1000.length : Int)) rfl (qp (AB (decide ((v1000.length : Int) ≠ (2 : Int)))) rfl ?_))
 refine r_nil ?_
 refine cF hF (fun hF => ?_) fun hF => ?_
 ·
  refine ws 512 704 ?_
  refine qf (.agg [.sl 512 0 0, AI 0]) [(512, .row true 1 (([] : List Int).map vI)), (192, .row true 1 (v1000.map V.str)), (0, .box [.sl 1 0 0, AI 0]), (1, .row true 1 (([] : List Int).map vI))] (by simp) ?_
  refine qf0 (.undef) [(0, .box [.sl 512 0 0, AI 0]), (512, .row true 1 (([] : List Int).map vI)), (192, .row true 1 (v1000.map V.str)), (0, .box [.sl 1 0 0, AI 0]), (1, .row true 1 (([] : List Int).map vI))] (by simp) ?_
  refine qp (AB false) rfl ?_
  refine r_nil ?_
  refine w_ret ?_
  refine thenQ_r ?_
  cases hF
  exact eR
 ·
  refine w_skip ?_
  refine thenQ_n ?_
  refine ws 512 1088 ?_
  refine qp (.sl 192 0 v1000.length) rfl ?_
  obtain ⟨v1001, e1001, hF⟩ := bind_get hF
  refine qp (.ptr 192 ((0 : Int).toNat) 0) (ev_iad_r rfl (by simp) rfl rfl e1001) (qp (AS v1001) (ev_ld_r rfl rfl (ix_some e1001).2 rfl rfl) ?_)
  obtain ⟨v1002, e1002, hF⟩ := bind_get hF
  refine qc (.tup [AI v1002.1, AB v1002.2]) [(192, .row true 1 (v1000.map V.str)), (0, .box [.sl 1 0 0, AI 0]), (1, .row true 1 (([] : List Int).map vI))] false (con_spec_l01Number e1002) c90_ok (by first | rfl | simp) rfl ?_
  refine qp (.tup [AI v1002.1, AB v1002.2]) rfl (qp (AI v1002.1) rfl (qp (AB v1002.2) rfl (qp (AI v1002.1) rfl (qp (AB v1002.2) rfl ?_))))
  refine r_nil ?_
  refine ws 1088 1664 ?_
  refine qp (.sl 192 0 v1000.length) rfl ?_
  obtain ⟨v1003, e1003, hF⟩ := bind_get hF
  refine qp (.ptr 192 ((1 : Int).toNat) 0) (ev_iad_r rfl (by simp) rfl rfl e1003) (qp (AS v1003) (ev_ld_r rfl rfl (ix_some e1003).2 rfl rfl) ?_)
  obtain ⟨v1004, e1004, hF⟩ := bind_get hF
  refine qc (.tup [.sl 1280 0 v1004.1.length, AB v1004.2]) [(1280, .row true 1 (v1004.1.map vI)), (192, .row true 1 (v1000.map V.str)), (0, .box [.sl 1 0 0, AI 0]), (1, .row true 1 (([] : List Int).map vI))] false (con_spec_ReadList e1004) c91_ok (by first | rfl | simp) (by simp [res_spec_ReadList]) ?_
  refine qp (.tup [.sl 1280 0 v1004.1.length, AB v1004.2]) rfl (qp (.sl 1280 0 v1004.1.length) rfl (qp (AB v1004.2) rfl (qp (.sl 1280 0 v1004.1.length) rfl (qp (AB v1004.2) rfl ?_))))
  refine r_nil ?_
  refine ws 1664 1984 ?_
  refine qp (.sl 1280 0 v1004.1.length) rfl (qp (AI v1002.1) rfl ?_)
  refine qf (.agg [.sl 1280 0 v1004.1.length, AI v1002.1]) [(1280, .row true 1 (v1004.1.map vI)), (192, .row true 1 (v1000.map V.str)), (0, .box [.sl 1 0 0, AI 0]), (1, .row true 1 (([] : List Int).map vI))] (by simp) ?_
  refine qf (.ptr 1856 0 0) [(1856, .box [.sl 1857 0 0, AI 0]), (1857, .row true 1 (([] : List Int).map vI)), (1280, .row true 1 (v1004.1.map vI)), (192, .row true 1 (v1000.map V.str)), (0, .box [.sl 1 0 0, AI 0]), (1, .row true 1 (([] : List Int).map vI))] (by simp) ?_
  refine qf0 (.undef) [(1856, .box [.sl 1280 0 v1004.1.length, AI v1002.1]), (1856, .box [.sl 1857 0 0, AI 0]), (1857, .row true 1 (([] : List Int).map vI)), (1280, .row true 1 (v1004.1.map vI)), (192, .row true 1 (v1000.map V.str)), (0, .box [.sl 1 0 0, AI 0]), (1, .row true 1 (([] : List Int).map vI))] (by simp) ?_
  refine r_nil ?_
  refine w_seq ?_
  refine ws 1984 2624 ?_
  refine qp (AB v1002.2) rfl (qp (AB (!v1002.2)) rfl (qp (AB (!v1002.2)) rfl ?_))
  refine q_case 35 hF rfl (fun hF => ?_) (fun hF => ?_)
  ·
   refine qn rfl (qn rfl (qp (AB true) rfl (qp (AB true) rfl (qn rfl (qn rfl (qp (AB true) rfl ?_))))))
   refine r_nil ?_
   refine w_true rfl ?_
   refine ws 2624 2816 ?_
   refine qf (.agg [.sl 2624 0 0, AI 0]) [(2624, .row true 1 (([] : List Int).map vI)), (1856, .box [.sl 1280 0 v1004.1.length, AI v1002.1]), (1856, .box [.sl 1857 0 0, AI 0]), (1857, .row true 1 (([] : List Int).map vI)), (1280, .row true 1 (v1004.1.map vI)), (192, .row true 1 (v1000.map V.str)), (0, .box [.sl 1 0 0, AI 0]), (1, .row true 1 (([] : List Int).map vI))] (by simp) ?_
   refine qf0 (.undef) [(0, .box [.sl 2624 0 0, AI 0]), (2624, .row true 1 (([] : List Int).map vI)), (1856, .box [.sl 1280 0 v1004.1.length, AI v1002.1]), (1856, .box [.sl 1857 0 0, AI 0]), (1857, .row true 1 (([] : List Int).map vI)), (1280, .row true 1 (v1004.1.map vI)), (192, .row true 1 (v1000.map V.str)), (0, .box [.sl 1 0 0, AI 0]), (1, .row true 1 (([] : List Int).map vI))] (by simp) ?_
   refine qp (AB false) rfl ?_
   refine r_nil ?_
   refine w_ret ?_
   refine thenQ_r ?_
   cases hF
   exact eR
  ·
   refine qg (AB v1004.2) rfl rfl (qg (AB (!v1004.2)) rfl rfl (qp (AB (!v1004.2)) rfl (qp (AB (!v1004.2)) rfl ?_)))
   refine q_case 39 hF rfl (fun hF => ?_) (fun hF => ?_)
   ·
    refine qn rfl (qn rfl (qp (AB true) rfl ?_))
    refine r_nil ?_
    refine w_true rfl ?_
    refine ws 2624 2816 ?_
    refine qf (.agg [.sl 2624 0 0, AI 0]) [(2624, .row true 1 (([] : List Int).map vI)), (1856, .box [.sl 1280 0 v1004.1.length, AI v1002.1]), (1856, .box [.sl 1857 0 0, AI 0]), (1857, .row true 1 (([] : List Int).map vI)), (1280, .row true 1 (v1004.1.map vI)), (192, .row true 1 (v1000.map V.str)), (0, .box [.sl 1 0 0, AI 0]), (1, .row true 1 (([] : List Int).map vI))] (by simp) ?_
    refine qf0 (.undef) [(0, .box [.sl 2624 0 0, AI 0]), (2624, .row true 1 (([] : List Int).map vI)), (1856, .box [.sl 1280 0 v1004.1.length, AI v1002.1]), (1856, .box [.sl 1857 0 0, AI 0]), (1857, .row true 1 (([] : List Int).map vI)), (1280, .row true 1 (v1004.1.map vI)), (192, .row true 1 (v1000.map V.str)), (0, .box [.sl 1 0 0, AI 0]), (1, .row true 1 (([] : List Int).map vI))] (by simp) ?_
    refine qp (AB false) rfl ?_
    refine r_nil ?_
    refine w_ret ?_
    refine thenQ_r ?_
    cases hF
    exact eR
   ·
    obtain ⟨v1005, e1005, hF⟩ := bind_get hF
    refine qcg (AB v1005) [(1856, .box [.sl 1280 0 v1004.1.length, AI v1002.1]), (1856, .box [.sl 1857 0 0, AI 0]), (1857, .row true 1 (([] : List Int).map vI)), (1280, .row true 1 (v1004.1.map vI)), (192, .row true 1 (v1000.map V.str)), (0, .box [.sl 1 0 0, AI 0]), (1, .row true 1 (([] : List Int).map vI))] true rfl (con_spec_l11One e1005) c92_ok (by simp [List.take_of_length_le]) rfl ?_
    refine qg (AB (!v1005)) rfl rfl (qp (AB (!v1005)) rfl ?_)
    refine r_nil ?_
    refine cF hF (fun hF => ?_) fun hF => ?_
    ·
     refine ws 2624 2816 ?_
     refine qf (.agg [.sl 2624 0 0, AI 0]) [(2624, .row true 1 (([] : List Int).map vI)), (1856, .box [.sl 1280 0 v1004.1.length, AI v1002.1]), (1856, .box [.sl 1857 0 0, AI 0]), (1857, .row true 1 (([] : List Int).map vI)), (1280, .row true 1 (v1004.1.map vI)), (192, .row true 1 (v1000.map V.str)), (0, .box [.sl 1 0 0, AI 0]), (1, .row true 1 (([] : List Int).map vI))] (by simp) ?_
     refine qf0 (.undef) [(0, .box [.sl 2624 0 0, AI 0]), (2624, .row true 1 (([] : List Int).map vI)), (1856, .box [.sl 1280 0 v1004.1.length, AI v1002.1]), (1856, .box [.sl 1857 0 0, AI 0]), (1857, .row true 1 (([] : List Int).map vI)), (1280, .row true 1 (v1004.1.map vI)), (192, .row true 1 (v1000.map V.str)), (0, .box [.sl 1 0 0, AI 0]), (1, .row true 1 (([] : List Int).map vI))] (by simp) ?_
     refine qp (AB false) rfl ?_
     refine r_nil ?_
     refine w_ret ?_
     refine thenQ_r ?_
     cases hF
     exact eR
    ·
     refine w_skip ?_
     refine thenQ_n ?_
     refine ws 2624 2816 ?_
     refine qp (.agg [.sl 1280 0 v1004.1.length, AI v1002.1]) rfl ?_
     refine qf0 (.undef) [(0, .box [.sl 1280 0 v1004.1.length, AI v1002.1]), (1856, .box [.sl 1280 0 v1004.1.length, AI v1002.1]), (1856, .box [.sl 1857 0 0, AI 0]), (1857, .row true 1 (([] : List Int).map vI)), (1280, .row true 1 (v1004.1.map vI)), (192, .row true 1 (v1000.map V.str)), (0, .box [.sl 1 0 0, AI 0]), (1, .row true 1 (([] : List Int).map vI))] (by simp) ?_
     refine qp (AB true) rfl ?_
     refine r_nil ?_
     refine w_ret ?_
     cases hF
     exact eR

theorem c93_ok : okFn Tryd.prog 93 = true := by kernel_rfl




theorem c70_ok : okFn Tryd.prog 70 = true := by kernel_rfl




theorem c74_ok : okFn Tryd.prog 74 = true := by kernel_rfl




def c103 : MC := (.seq (.reg [rg 6 (.p true (.mv (.c (.bool false))))]) (.seq (.reg [mvt 7 0, mvt 8 1, rg 9 (.p true (.bin .geq (.t 7) (.t 8))), mvt 10 9, ⟨(some 11), (some (10, true)), (.p true (.mv (.t 0)))⟩, ⟨(some 12), (some (10, true)), (.p true (.mv (.t 2)))⟩, ⟨(some 13), (some (10, true)), (.p true (.bin .leq (.t 11) (.t 12)))⟩, rg 14 (.p true (.pick (.t 10) (.t 13) (.c (.bool false)))), mvt 6 14]) .ret))
theorem c103_is : compFn Tryd.prog 103 = some (c103, [(.tmp 6)]) := by kernel_rfl
theorem c103_ok : okFn Tryd.prog 103 = true := by kernel_rfl

noncomputable def F_impl_within (v0 : Int) (v1 : Int) (v2 : Int) : Option (Bool) :=
 (bif (decide (v1 ≤ v0)) then some (decide (v0 ≤ v2))
 else some false)
@[simp] def res_impl_within (r : Bool) : RV := .one (.one (.val (.bool r)))
theorem con_impl_within {v0 : Int} {v1 : Int} {v2 : Int} {r : Bool} (hF : F_impl_within v0 v1 v2 = some r) : Con Tryd.prog 103 [.int .i64 v0, .int .i64 v1, .int .i64 v2] (res_impl_within r) := by
 unfold F_impl_within at hF
 refine con_of c103_is fun N => ?_
 refine ws 0 64 ?_
 refine qp (AB false) rfl ?_
 refine r_nil ?_
 refine ws 64 640 ?_
 refine qp (AI v0) rfl (qp (AI v1) rfl (qp (AB (decide (v1 ≤ v0))) rfl (qp (AB (decide (v1 ≤ v0))) rfl ?_)))
 refine q_case 10 hF rfl (fun hF => ?_) (fun hF => ?_)
 ·
  refine qg (AI v0) rfl rfl (qg (AI v2) rfl rfl (qg (AB (decide (v0 ≤ v2))) rfl rfl (qp (AB (decide (v0 ≤ v2))) rfl (qp (AB (decide (v0 ≤ v2))) rfl ?_))))
  refine r_nil ?_
  refine w_ret ?_
  cases hF
  exact eR
 ·
  refine qn rfl (qn rfl (qn rfl (qp (AB false) rfl (qp (AB false) rfl ?_))))
  refine r_nil ?_
  refine w_ret ?_
  cases hF
  exact eR

theorem c106_ok : okFn Tryd.prog 106 = true := by kernel_rfl




def c54 : MC := (.seq (.reg [rg 2 (.p true (.mv (.c (.str []))))]) (.seq (.reg [mvt 3 0, rg 4 (.call true 106 [(.t 3), (.c (.int .i64 10))]), mvt 2 4]) .ret))
theorem c54_is : compFn Tryd.prog 54 = some (c54, [(.tmp 2)]) := by kernel_rfl
theorem c54_ok : okFn Tryd.prog 54 = true := by kernel_rfl

noncomputable def F_impl_Decimal (v0 : Int) : Option (List UInt8) :=
 ((F_formatInt v0 10).bind fun v1000 => some v1000)
@[simp] def res_impl_Decimal (r : List UInt8) : RV := .one (.one (.val (.str r)))
theorem con_impl_Decimal {v0 : Int} {r : List UInt8} (hF : F_impl_Decimal v0 = some r) : Con Tryd.prog 54 [.int .i64 v0] (res_impl_Decimal r) := by
 unfold F_impl_Decimal at hF
 refine con_of c54_is fun N => ?_
 refine ws 0 64 ?_
 refine qp (AS []) rfl ?_
 refine r_nil ?_
 refine ws 64 256 ?_
 refine qp (AI v0) rfl ?_
 obtain ⟨v1000, e1000, hF⟩ := bind_get hF
 refine qc (AS v1000) [] false (con_formatInt e1000) c106_ok (by first | rfl | simp) rfl ?_
 refine qp (AS v1000) rfl ?_
 refine r_nil ?_
 refine w_ret ?_
 cases hF
 exact eR

theorem c53_ok : okFn Tryd.prog 53 = true := by kernel_rfl




def c123 : MC := (.seq (.reg [rg 2 (.p true (.mv (.c (.str []))))]) (.seq (.seq (.reg [mvt 6 0, rg 7 (.p true (.len (.t 6))), rg 8 (.p true (.bin .gtr (.t 7) (.c (.int .i64 64))))]) (.cond (.t 8) (.seq (.reg [rg 2 (.p true (.mv (.c (.str []))))]) .ret) .skip)) (.seq (.seq (.reg [mvt 9 0, rg 10 (.p true (.len (.t 9))), rg 11 (.p true (.bin .eql (.t 10) (.c (.int .i64 0))))]) (.cond (.t 11) (.seq (.reg [rg 2 (.p true (.mv (.c (.str [45]))))]) .ret) .skip)) (.seq (.reg [mvt 12 0, rg 13 (.p true (.len (.t 12))), rg 14 (.f (.mks 1 16 (.str []) (.c (.int .i64 0)) (.t 13))), mvt 3 14]) (.seq (.seq (.reg [mvt 15 0, rg 16 (.p true (.len (.t 15))), rg 17 (.p true (.mv (.c (.int .i64 0))))]) (.block 0 (.loop (.seq (.reg [rg 18 (.p true (.bin .lss (.t 17) (.t 16)))]) (.seq (.cond (.t 18) .skip (.exit 0)) (.seq (.block 1 (.seq (.reg [rg 19 (.p true (.iad (.t 15) (.t 17) 1)), rg 20 (.p true (.ld (.t 19) 1 false)), mvt 5 20]) (.seq (.seq (.reg [mvt 21 5, rg 22 (.call true 103 [(.t 21), (.c (.int .i64 (-1000000000000))), (.c (.int .i64 1000000000000))]), rg 23 (.p true (.not (.t 22)))]) (.cond (.t 23) (.seq (.reg [rg 2 (.p true (.mv (.c (.str []))))]) .ret) .skip)) (.reg [mvt 24 3, mvt 25 5, rg 26 (.call true 54 [(.t 25)]), rg 27 (.f (.bsl 1 [(.t 26)])), rg 28 (.f (.app (.t 24) (.t 27) 1 16 true)), mvt 3 28])))) (.reg [rg 29 (.p true (.bin .add (.t 17) (.c (.int .i64 1)))), mvt 17 29]))))))) (.seq (.reg [mvt 30 3, rg 31 (.call true 53 [(.t 30), (.c (.str [44]))]), mvt 2 31]) .ret))))))
theorem c123_is : compFn Tryd.prog 123 = some (c123, [(.tmp 2)]) := by kernel_rfl
theorem c123_ok : okFn Tryd.prog 123 = true := by kernel_rfl

noncomputable def F_impl_ListText_l0 (v0 : List Int) (k1 : Int × (List (List UInt8)) → Option (List UInt8)) : Int × (List (List UInt8)) → Option (List UInt8)
 | (v50006, v50007) => (bif (decide (v50006 < (v0.length : Int))) then ((ix v0 v50006).bind fun v1009 => ((F_impl_within v1009 (-1000000000000) 1000000000000).bind fun v1010 => (bif (!v1010) then some []
 else ((F_impl_Decimal v1009).bind fun v1011 => (need (room (v50007.length + [v1011].length) 16) (k1 (w64 (v50006 + 1), v50007 ++ [v1011])))))))
 else ((F_join v50007 [44]).bind fun v1013 => some v1013))
noncomputable def F_impl_ListText (v0 : List Int) : Option (List UInt8) :=
 (bif (decide ((64 : Int) < (v0.length : Int))) then some []
 else (bif (decide ((v0.length : Int) = (0 : Int))) then some [45]
 else (need (0 ≤ (0 : Int) ∧ (0 : Int) ≤ (v0.length : Int) ∧ (v0.length : Int) ≤ 9223372036854775807 ∧ 16 * (v0.length : Int) ≤ 281474976710656) (loop (F_impl_ListText_l0 v0) (0, List.replicate ((0 : Int)).toNat ([] : List UInt8))))))
@[simp] def res_impl_ListText (r : List UInt8) : RV := .one (.one (.val (.str r)))
theorem con_impl_ListText {v0 : List Int} {r : List UInt8} (hF : F_impl_ListText v0 = some r) : Con Tryd.prog 123 [.sl 1 (v0.map vI)] (res_impl_ListText r) := by
 unfold F_impl_ListText at hF
 refine con_of c123_is fun N => ?_
 refine ws 0 64 ?_
 refine qp (AS []) rfl ?_
 refine r_nil ?_
 refine w_seq ?_
 refine ws 64 256 ?_
 refine qp (AL 1 (v0.map vI)) rfl (qp (AI (v0.length : Int)) (ev_len_n rfl) (qp (AB (decide ((64 : Int) < (v0.length : Int)))) rfl ?_))
 refine r_nil ?_
 refine cF hF (fun hF => ?_) fun hF => ?_
 ·
  refine ws 256 320 ?_
  refine qp (AS []) rfl ?_
  refine r_nil ?_
  refine w_ret ?_
  refine thenQ_r ?_
  cases hF
  exact eR
 ·
  refine w_skip ?_
  refine thenQ_n ?_
  refine w_seq ?_
  refine ws 256 448 ?_
  refine qp (AL 1 (v0.map vI)) rfl (qp (AI (v0.length : Int)) (ev_len_n rfl) (qp (AB (decide ((v0.length : Int) = (0 : Int)))) rfl ?_))
  refine r_nil ?_
  refine cF hF (fun hF => ?_) fun hF => ?_
  ·
   refine ws 448 512 ?_
   refine qp (AS [45]) rfl ?_
   refine r_nil ?_
   refine w_ret ?_
   refine thenQ_r ?_
   cases hF
   exact eR
  ·
   refine w_skip ?_
   refine thenQ_n ?_
   refine ws 448 704 ?_
   refine qp (AL 1 (v0.map vI)) rfl (qp (AI (v0.length : Int)) (ev_len_n rfl) ?_)
   obtain ⟨g1000, hF⟩ := need_some hF
   refine qf (.sl 576 0 ((List.replicate ((0 : Int)).toNat ([] : List UInt8)).length)) [(576, .row true 1 ((List.replicate ((0 : Int)).toNat ([] : List UInt8)).map V.str))] (effT_mks rfl rfl g1000 rfl) ?_
   refine qp (.sl 576 0 ((List.replicate ((0 : Int)).toNat ([] : List UInt8)).length)) rfl ?_
   refine r_nil ?_
   refine w_seq ?_
   refine ws 704 896 ?_
   refine qp (AL 1 (v0.map vI)) rfl (qp (AI (v0.length : Int)) (ev_len_n rfl) (qp (AI 0) rfl ?_))
   refine r_nil ?_
   refine w_block ?_
   refine wr (l' := [(3, .sl 0 0 (List.replicate ((0 : Int)).toNat ([] : List UInt8)).length), (15, AL 1 (v0.map vI)), (16, AI (v0.length : Int)), (17, AI 0)]) (L := [(0, .row true 1 ((List.replicate ((0 : Int)).toNat ([] : List UInt8)).map V.str))]) [3, 15, 16, 17] [(576, 0)] 1 ?_
   refine w_loopF (F_impl_ListText_l0 v0) (fun s : Int × (List (List UInt8)) => mkS [(3, .sl 0 0 s.2.length), (15, AL 1 (v0.map vI)), (16, AI (v0.length : Int)), (17, AI s.1)] (fo [(0, .row true 1 (s.2.map V.str))]) 1) hF ?_
   rintro k1 ⟨v50006, v50007⟩ hF
   rw [F_impl_ListText_l0] at hF
   try dsimp only
   refine ws 1 65 ?_
   refine qp (AB (decide (v50006 < (v0.length : Int)))) rfl ?_
   refine r_nil ?_
   refine w_seq ?_
   refine cF hF (fun hF => ?_) fun hF => ?_
   ·
    refine w_skip ?_
    refine thenQ_n ?_
    refine w_seq ?_
    refine w_block ?_
    refine ws 65 257 ?_
    obtain ⟨v1009, e1009, hF⟩ := bind_get hF
    refine qp (.val none (.ptr [.int .i64 v1009])) (ev_iad_n rfl rfl e1009 rfl) (qp (AI v1009) rfl (qp (AI v1009) rfl ?_))
    refine r_nil ?_
    refine w_seq ?_
    refine ws 257 449 ?_
    refine qp (AI v1009) rfl ?_
    obtain ⟨v1010, e1010, hF⟩ := bind_get hF
    refine qc (AB v1010) [(0, .row true 1 (v50007.map V.str))] false (con_impl_within e1010) c103_ok (by first | rfl | simp) rfl ?_
    refine qp (AB (!v1010)) rfl ?_
    refine r_nil ?_
    refine cF hF (fun hF => ?_) fun hF => ?_
    ·
     refine ws 449 513 ?_
     refine qp (AS []) rfl ?_
     refine r_nil ?_
     refine w_ret ?_
     refine thenQ_r ?_
     refine blockQ_r ?_
     refine thenQ_r ?_
     refine thenQ_r ?_
     refine blockQ_r ?_
     refine thenQ_r ?_
     cases hF
     exact eR
    ·
     refine w_skip ?_
     refine thenQ_n ?_
     refine w_reg 449 833 rfl rfl ?_
     refine qp (.sl 0 0 v50007.length) rfl (qp (AI v1009) rfl ?_)
     obtain ⟨v1011, e1011, hF⟩ := bind_get hF
     refine qc (AS v1011) [(0, .row true 1 (v50007.map V.str))] false (con_impl_Decimal e1011) c54_ok (by first | rfl | simp) rfl ?_
     refine qf (.sl 641 0 ([v1011].length)) [(641, .row true 1 ([v1011].map V.str)), (0, .row true 1 (v50007.map V.str))] (by simp [List.take_of_length_le]) ?_
     obtain ⟨g1012, hF⟩ := need_some hF
     refine qf (.sl 705 0 ((v50007 ++ [v1011]).length)) [(705, .row true 1 ((v50007 ++ [v1011]).map V.str)), (0, .dead), (641, .dead), (641, .row true 1 ([v1011].map V.str)), (0, .row true 1 (v50007.map V.str))] (effT_app_l rfl (by simp) rfl rfl (by simp) rfl (by decide) g1012 rfl) ?_
     refine qp (.sl 705 0 ((v50007 ++ [v1011]).length)) rfl ?_
     refine r_nil ?_
     refine blockQ_n ?_
     refine thenQ_n ?_
     refine w_reg 833 961 rfl rfl ?_
     refine qp (AI (w64 (v50006 + 1))) rfl (qp (AI (w64 (v50006 + 1))) rfl ?_)
     refine r_nil ?_
     refine thenQ_n ?_
     refine ar (l' := [(3, .sl 0 0 (v50007 ++ [v1011]).length), (15, AL 1 (v0.map vI)), (16, AI (v0.length : Int)), (17, AI (w64 (v50006 + 1)))]) (L := [(0, .row true 1 ((v50007 ++ [v1011]).map V.str))]) [3, 15, 16, 17] [(705, 0)] 1 ⟨_, by rfl, hF⟩
   ·
    refine w_exit ?_
    refine thenQ_e ?_
    refine thenQ_e ?_
    refine blockQ_e ?_
    refine thenQ_n ?_
    refine ws 65 257 ?_
    refine qp (.sl 0 0 v50007.length) rfl ?_
    obtain ⟨v1013, e1013, hF⟩ := bind_get hF
    refine qc (AS v1013) [(0, .row true 1 (v50007.map V.str))] true (con_join e1013) c53_ok (by simp [List.take_of_length_le]) rfl ?_
    refine qp (AS v1013) rfl ?_
    refine r_nil ?_
    refine w_ret ?_
    cases hF
    exact eR

def c94 : MC := (.seq (.reg [rg 2 (.f (.nilrow 1)), rg 3 (.p true (.mv (.c (.bool false))))]) (.seq (.seq (.reg [mvt 9 0, rg 10 (.p true (.bin .eql (.t 9) (.c (.str [45]))))]) (.cond (.t 10) (.seq (.reg [rg 2 (.f (.nilrow 1)), rg 3 (.p true (.mv (.c (.bool true))))]) .ret) .skip)) (.seq (.reg [rg 4 (.f (.nilrow 1))]) (.seq (.seq (.reg [mvt 11 0, rg 12 (.call true 74 [(.t 11), (.c (.str [44])), (.c (.int .i64 65))]), rg 13 (.p true (.len (.t 12))), rg 14 (.p true (.mv (.c (.int .i64 0))))]) (.block 0 (.loop (.seq (.reg [rg 15 (.p true (.bin .lss (.t 14) (.t 13)))]) (.seq (.cond (.t 15) .skip (.exit 0)) (.seq (.block 1 (.seq (.reg [rg 16 (.p true (.iad (.t 12) (.t 14) 1)), rg 17 (.p true (.ld (.t 16) 1 false)), mvt 6 17]) (.seq (.reg [mvt 19 6, rg 20 (.call true 70 [(.t 19)]), mvt 18 20, rg 21 (.p true (.ext (.t 18) 0)), rg 22 (.p true (.ext (.t 18) 1)), mvt 7 21, mvt 8 22]) (.seq (.seq (.reg [mvt 23 8, rg 24 (.p true (.not (.t 23)))]) (.cond (.t 24) (.seq (.reg [rg 2 (.f (.nilrow 1)), rg 3 (.p true (.mv (.c (.bool false))))]) .ret) .skip)) (.reg [mvt 25 4, mvt 26 7, rg 27 (.f (.bsl 1 [(.t 26)])), rg 28 (.f (.app (.t 25) (.t 27) 1 8 true)), mvt 4 28]))))) (.reg [rg 29 (.p true (.bin .add (.t 14) (.c (.int .i64 1)))), mvt 14 29]))))))) (.seq (.seq (.reg [mvt 30 4, rg 31 (.call true 123 [(.t 30)]), mvt 32 0, rg 33 (.p true (.bin .neq (.t 31) (.t 32)))]) (.cond (.t 33) (.seq (.reg [rg 2 (.f (.nilrow 1)), rg 3 (.p true (.mv (.c (.bool false))))]) .ret) .skip)) (.seq (.reg [mvt 34 4, mvt 2 34, rg 3 (.p true (.mv (.c (.bool true))))]) .ret))))))
theorem c94_is : compFn Tryd.prog 94 = some (c94, [(.tmp 2), (.tmp 3)]) := by kernel_rfl
theorem c94_ok : okFn Tryd.prog 94 = true := by kernel_rfl

noncomputable def F_impl_ReadList_l0 (v0 : List UInt8) (v1000 : List (List UInt8)) (k1 : Int × (List Int) → Option ((List Int) × Bool)) : Int × (List Int) → Option ((List Int) × Bool)
 | (v50006, v50007) => (bif (decide (v50006 < (v1000.length : Int))) then ((ix v1000 v50006).bind fun v1007 => ((F_readDec v1007).bind fun v1008 => (bif (!v1008.2) then some ([], false)
 else (need (room (v50007.length + [v1008.1].length) 8) (k1 (w64 (v50006 + 1), v50007 ++ [v1008.1]))))))
 else ((F_impl_ListText v50007).bind fun v1010 => (bif (decide (v1010 ≠ v0)) then some ([], false)
 else some (v50007, true))))
noncomputable def F_impl_ReadList (v0 : List UInt8) : Option ((List Int) × Bool) :=
 (bif (decide (v0 = [45])) then some ([], true)
 else ((F_splitN v0 [44] 65).bind fun v1000 => loop (F_impl_ReadList_l0 v0 v1000) (0, [])))
@[simp] def res_impl_ReadList (r : (List Int) × Bool) : RV := .tup [.one (.row true 1 (r.1.map vI)), .one (.val (.bool r.2))]
theorem con_impl_ReadList {v0 : List UInt8} {r : (List Int) × Bool} (hF : F_impl_ReadList v0 = some r) : Con Tryd.prog 94 [.str v0] (res_impl_ReadList r) := by
 unfold F_impl_ReadList at hF
 refine con_of c94_is fun N => ?_
 refine ws 0 128 ?_
 refine qf (.sl 0 0 0) [(0, .row true 1 (([] : List Int).map vI))] (by simp) ?_
 refine qp (AB false) rfl ?_
 refine r_nil ?_
 refine w_seq ?_
 refine ws 128 256 ?_
 refine qp (AS v0) rfl (qp (AB (decide (v0 = [45]))) rfl ?_)
 refine r_nil ?_
 refine cF hF (fun hF => ?_) fun hF => ?_
 ·
  refine ws 256 384 ?_
  refine qf (.sl 256 0 0) [(256, .row true 1 (([] : List Int).map vI)), (0, .row true 1 (([] : List Int).map vI))] (by simp) ?_
  refine qp (AB true) rfl ?_
  refine r_nil ?_
  refine w_ret ?_
  refine thenQ_r ?_
  cases hF
  exact eR
 ·
  refine w_skip ?_
  refine thenQ_n ?_
  refine ws 256 320 ?_
  refine qf (.sl 256 0 0) [(256, .row true 1 (([] : List Int).map vI)), (0, .row true 1 (([] : List Int).map vI))] (by simp) ?_
  refine r_nil ?_
  refine w_seq ?_
  refine ws 320 576 ?_
  refine qp (AS v0) rfl ?_
  obtain ⟨v1000, e1000, hF⟩ := bind_get hF
  refine qc (.sl 384 0 v1000.length) [(384, .row true 1 (v1000.map V.str)), (256, .row true 1 (([] : List Int).map vI)), (0, .row true 1 (([] : List Int).map vI))] false (con_splitN e1000) c74_ok (by first | rfl | simp) (by simp [res_splitN]) ?_
  refine qp (AI (v1000.length : Int)) rfl (qp (AI 0) rfl ?_)
  refine r_nil ?_
  refine w_block ?_
  refine wr (l' := [(0, AS v0), (4, .sl 0 0 0), (12, .sl 1 0 v1000.length), (13, AI (v1000.length : Int)), (14, AI 0)]) (L := [(1, .row true 1 (v1000.map V.str)), (0, .row true 1 (([] : List Int).map vI))]) [0, 4, 12, 13, 14] [(384, 1), (256, 0)] 2 ?_
  refine w_loopF (F_impl_ReadList_l0 v0 v1000) (fun s : Int × (List Int) => mkS [(0, AS v0), (4, .sl 0 0 s.2.length), (12, .sl 1 0 v1000.length), (13, AI (v1000.length : Int)), (14, AI s.1)] (fo [(1, .row true 1 (v1000.map V.str)), (0, .row true 1 (s.2.map vI))]) 2) hF ?_
  rintro k1 ⟨v50006, v50007⟩ hF
  rw [F_impl_ReadList_l0] at hF
  try dsimp only
  refine ws 2 66 ?_
  refine qp (AB (decide (v50006 < (v1000.length : Int)))) rfl ?_
  refine r_nil ?_
  refine w_seq ?_
  refine cF hF (fun hF => ?_) fun hF => ?_
  ·
   refine w_skip ?_
   refine thenQ_n ?_
   refine w_seq ?_
   refine w_block ?_
   refine ws 66 258 ?_
   obtain ⟨v1007, e1007, hF⟩ := bind_get hF
   refine qp (.ptr 1 v50006.toNat 0) (ev_iad_r rfl (by simp) rfl rfl e1007) (qp (AS v1007) (ev_ld_r rfl rfl (ix_some e1007).2 rfl rfl) (qp (AS v1007) rfl ?_))
   refine r_nil ?_
   refine ws 258 706 ?_
   refine qp (AS v1007) rfl ?_
   obtain ⟨v1008, e1008, hF⟩ := bind_get hF
   refine qc (.tup [AI v1008.1, AB v1008.2]) [(1, .row true 1 (v1000.map V.str)), (0, .row true 1 (v50007.map vI))] false (con_readDec e1008) c70_ok (by first | rfl | simp) rfl ?_
   refine qp (.tup [AI v1008.1, AB v1008.2]) rfl (qp (AI v1008.1) rfl (qp (AB v1008.2) rfl (qp (AI v1008.1) rfl (qp (AB v1008.2) rfl ?_))))
   refine r_nil ?_
   refine w_seq ?_
   refine ws 706 834 ?_
   refine qp (AB v1008.2) rfl (qp (AB (!v1008.2)) rfl ?_)
   refine r_nil ?_
   refine cF hF (fun hF => ?_) fun hF => ?_
   ·
    refine ws 834 962 ?_
    refine qf (.sl 834 0 0) [(834, .row true 1 (([] : List Int).map vI)), (1, .row true 1 (v1000.map V.str)), (0, .row true 1 (v50007.map vI))] (by simp) ?_
    refine qp (AB false) rfl ?_
    refine r_nil ?_
    refine w_ret ?_
    refine thenQ_r ?_
    refine blockQ_r ?_
    refine thenQ_r ?_
    refine thenQ_r ?_
    refine blockQ_r ?_
    refine thenQ_r ?_
    cases hF
    exact eR
   ·
    refine w_skip ?_
    refine thenQ_n ?_
    refine w_reg 834 1154 rfl rfl ?_
    refine qp (.sl 0 0 v50007.length) rfl (qp (AI v1008.1) rfl ?_)
    refine qf (.sl 962 0 ([v1008.1].length)) [(962, .row true 1 ([v1008.1].map vI)), (1, .row true 1 (v1000.map V.str)), (0, .row true 1 (v50007.map vI))] (by simp [List.take_of_length_le]) ?_
    obtain ⟨g1009, hF⟩ := need_some hF
    refine qf (.sl 1026 0 ((v50007 ++ [v1008.1]).length)) [(1026, .row true 1 ((v50007 ++ [v1008.1]).map vI)), (0, .dead), (962, .dead), (962, .row true 1 ([v1008.1].map vI)), (1, .row true 1 (v1000.map V.str)), (0, .row true 1 (v50007.map vI))] (effT_app_l rfl (by simp) rfl rfl (by simp) rfl (by decide) g1009 rfl) ?_
    refine qp (.sl 1026 0 ((v50007 ++ [v1008.1]).length)) rfl ?_
    refine r_nil ?_
    refine blockQ_n ?_
    refine thenQ_n ?_
    refine w_reg 1154 1282 rfl rfl ?_
    refine qp (AI (w64 (v50006 + 1))) rfl (qp (AI (w64 (v50006 + 1))) rfl ?_)
    refine r_nil ?_
    refine thenQ_n ?_
    refine ar (l' := [(0, AS v0), (4, .sl 0 0 (v50007 ++ [v1008.1]).length), (12, .sl 1 0 v1000.length), (13, AI (v1000.length : Int)), (14, AI (w64 (v50006 + 1)))]) (L := [(1, .row true 1 (v1000.map V.str)), (0, .row true 1 ((v50007 ++ [v1008.1]).map vI))]) [0, 4, 12, 13, 14] [(1, 1), (1026, 0)] 2 ⟨_, by rfl, hF⟩
  ·
   refine w_exit ?_
   refine thenQ_e ?_
   refine thenQ_e ?_
   refine blockQ_e ?_
   refine thenQ_n ?_
   refine w_seq ?_
   refine ws 66 322 ?_
   refine qp (.sl 0 0 v50007.length) rfl ?_
   obtain ⟨v1010, e1010, hF⟩ := bind_get hF
   refine qc (AS v1010) [(1, .row true 1 (v1000.map V.str)), (0, .row true 1 (v50007.map vI))] true (con_impl_ListText e1010) c123_ok (by simp [List.take_of_length_le]) rfl ?_
   refine qp (AS v0) rfl (qp (AB (decide (v1010 ≠ v0))) rfl ?_)
   refine r_nil ?_
   refine cF hF (fun hF => ?_) fun hF => ?_
   ·
    refine ws 322 450 ?_
    refine qf (.sl 322 0 0) [(322, .row true 1 (([] : List Int).map vI)), (1, .row true 1 (v1000.map V.str)), (0, .row true 1 (v50007.map vI))] (by simp) ?_
    refine qp (AB false) rfl ?_
    refine r_nil ?_
    refine w_ret ?_
    refine thenQ_r ?_
    cases hF
    exact eR
   ·
    refine w_skip ?_
    refine thenQ_n ?_
    refine ws 322 514 ?_
    refine qp (.sl 0 0 v50007.length) rfl (qp (.sl 0 0 v50007.length) rfl (qp (AB true) rfl ?_))
    refine r_nil ?_
    refine w_ret ?_
    cases hF
    exact eR

def c197 : MC := (.seq (.reg [rg 4 (.p true (.mv (.c (.bool false))))]) (.seq (.reg [mvt 5 0, rg 6 (.p true (.ld (.t 1) 1 false)), rg 7 (.p true (.ld (.t 2) 1 false)), rg 8 (.call true 103 [(.t 5), (.t 6), (.t 7)]), rg 9 (.p true (.not (.t 8))), mvt 4 9]) .ret))
theorem c197_is : compFn Tryd.prog 197 = some (c197, [(.tmp 4)]) := by kernel_rfl
theorem c197_ok : okFn Tryd.prog 197 = true := by kernel_rfl

noncomputable def F_impl_allWithin_1 (v0 : Int) (v1 : Int) (v2 : Int) : Option (Bool) :=
 ((F_impl_within v0 v1 v2).bind fun v1000 => some (!v1000))
@[simp] def res_impl_allWithin_1 (r : Bool) : RV := .one (.one (.val (.bool r)))
theorem con_impl_allWithin_1 {v0 : Int} {v1 : Int} {v2 : Int} {r : Bool} (hF : F_impl_allWithin_1 v0 v1 v2 = some r) : Con Tryd.prog 197 [.int .i64 v0, .ptr [.int .i64 v1], .ptr [.int .i64 v2]] (res_impl_allWithin_1 r) := by
 unfold F_impl_allWithin_1 at hF
 refine con_of c197_is fun N => ?_
 refine ws 0 64 ?_
 refine qp (AB false) rfl ?_
 refine r_nil ?_
 refine ws 64 448 ?_
 refine qp (AI v0) rfl (qp (AI v1) rfl (qp (AI v2) rfl ?_))
 obtain ⟨v1000, e1000, hF⟩ := bind_get hF
 refine qc (AB v1000) [] false (con_impl_within e1000) c103_ok (by first | rfl | simp) rfl ?_
 refine qp (AB (!v1000)) rfl (qp (AB (!v1000)) rfl ?_)
 refine r_nil ?_
 refine w_ret ?_
 cases hF
 exact eR

def c212 : MC := (.seq (.reg [rg 4 (.p true (.mv (.c (.int .i64 0))))]) (.seq (.seq (.reg [mvt 6 0, rg 7 (.p true (.len (.t 6))), rg 8 (.p true (.mv (.c (.int .i64 0))))]) (.block 0 (.loop (.seq (.reg [rg 9 (.p true (.bin .lss (.t 8) (.t 7)))]) (.seq (.cond (.t 9) .skip (.exit 0)) (.seq (.block 1 (.seq (.reg [mvt 10 8, mvt 5 10]) (.seq (.reg [mvt 11 1, mvt 12 0, mvt 13 5, rg 14 (.p true (.iad (.t 12) (.t 13) 1)), rg 15 (.p true (.ld (.t 14) 1 false)), rg 16 (.callv (.t 11) [(.t 15)])]) (.cond (.t 16) (.seq (.reg [mvt 17 5, mvt 4 17]) .ret) .skip)))) (.reg [rg 18 (.p true (.bin .add (.t 8) (.c (.int .i64 1)))), mvt 8 18]))))))) (.seq (.reg [rg 4 (.p true (.mv (.c (.int .i64 (-1)))))]) .ret)))
theorem c212_is : compFn Tryd.prog 212 = some (c212, [(.tmp 4)]) := by kernel_rfl
theorem c212_ok : okFn Tryd.prog 212 = true := by kernel_rfl

noncomputable def F_slices_IndexFunc_Sint64_int64_l0 (v0 : List Int) (v1 : Int) (v2 : Int) (k0 : Int → Option (Int)) : Int → Option (Int)
 | v50001 => (bif (decide (v50001 < (v0.length : Int))) then ((ix v0 v50001).bind fun v1000 => ((F_impl_allWithin_1 v1000 v1 v2).bind fun v1001 => (bif v1001 then some v50001
 else k0 (w64 (v50001 + 1)))))
 else some (-1))
noncomputable def F_slices_IndexFunc_Sint64_int64 (v0 : List Int) (v1 : Int) (v2 : Int) : Option (Int) :=
 loop (F_slices_IndexFunc_Sint64_int64_l0 v0 v1 v2) 0
@[simp] def res_slices_IndexFunc_Sint64_int64 (r : Int) : RV := .one (.one (.val (.int .i64 r)))
theorem con_slices_IndexFunc_Sint64_int64 {v0 : List Int} {v1 : Int} {v2 : Int} {r : Int} (hF : F_slices_IndexFunc_Sint64_int64 v0 v1 v2 = some r) : Con Tryd.prog 212 [.sl 1 (v0.map vI), .fn 197 [.ptr [.int .i64 v1], .ptr [.int .i64 v2]]] (res_slices_IndexFunc_Sint64_int64 r) := by
 unfold F_slices_IndexFunc_Sint64_int64 at hF
 refine con_of c212_is fun N => ?_
 refine ws 0 64 ?_
 refine qp (AI 0) rfl ?_
 refine r_nil ?_
 refine w_seq ?_
 refine ws 64 256 ?_
 refine qp (AL 1 (v0.map vI)) rfl (qp (AI (v0.length : Int)) (ev_len_n rfl) (qp (AI 0) rfl ?_))
 refine r_nil ?_
 refine w_block ?_
 refine wr (l' := [(0, AL 1 (v0.map vI)), (1, .val none (.fn 197 [.ptr [.int .i64 v1], .ptr [.int .i64 v2]])), (7, AI (v0.length : Int)), (8, AI 0)]) (L := []) [0, 1, 7, 8] [] 1 ?_
 refine w_loopF (F_slices_IndexFunc_Sint64_int64_l0 v0 v1 v2) (fun s : Int => mkS [(0, AL 1 (v0.map vI)), (1, .val none (.fn 197 [.ptr [.int .i64 v1], .ptr [.int .i64 v2]])), (7, AI (v0.length : Int)), (8, AI s)] (fo []) 1) hF ?_
 rintro k0 v50001 hF
 rw [F_slices_IndexFunc_Sint64_int64_l0] at hF
 try dsimp only
 refine ws 1 65 ?_
 refine qp (AB (decide (v50001 < (v0.length : Int)))) rfl ?_
 refine r_nil ?_
 refine w_seq ?_
 refine cF hF (fun hF => ?_) fun hF => ?_
 ·
  refine w_skip ?_
  refine thenQ_n ?_
  refine w_seq ?_
  refine w_block ?_
  refine ws 65 193 ?_
  refine qp (AI v50001) rfl (qp (AI v50001) rfl ?_)
  refine r_nil ?_
  refine ws 193 577 ?_
  refine qp (.val none (.fn 197 [.ptr [.int .i64 v1], .ptr [.int .i64 v2]])) rfl (qp (AL 1 (v0.map vI)) rfl (qp (AI v50001) rfl ?_))
  obtain ⟨v1000, e1000, hF⟩ := bind_get hF
  refine qp (.val none (.ptr [.int .i64 v1000])) (ev_iad_n rfl rfl e1000 rfl) (qp (AI v1000) rfl ?_)
  obtain ⟨v1001, e1001, hF⟩ := bind_get hF
  refine qcv (AB v1001) [] false rfl (con_impl_allWithin_1 e1001) c197_ok (by first | rfl | simp) rfl ?_
  refine r_nil ?_
  refine cF hF (fun hF => ?_) fun hF => ?_
  ·
   refine ws 577 705 ?_
   refine qp (AI v50001) rfl (qp (AI v50001) rfl ?_)
   refine r_nil ?_
   refine w_ret ?_
   refine blockQ_r ?_
   refine thenQ_r ?_
   refine thenQ_r ?_
   refine blockQ_r ?_
   refine thenQ_r ?_
   cases hF
   exact eR
  ·
   refine w_skip ?_
   refine blockQ_n ?_
   refine thenQ_n ?_
   refine w_reg 577 705 rfl rfl ?_
   refine qp (AI (w64 (v50001 + 1))) rfl (qp (AI (w64 (v50001 + 1))) rfl ?_)
   refine r_nil ?_
   refine thenQ_n ?_
   refine ar (l' := [(0, AL 1 (v0.map vI)), (1, .val none (.fn 197 [.ptr [.int .i64 v1], .ptr [.int .i64 v2]])), (7, AI (v0.length : Int)), (8, AI (w64 (v50001 + 1)))]) (L := []) [0, 1, 7, 8] [] 1 ⟨_, by rfl, hF⟩
 ·
  refine w_exit ?_
  refine thenQ_e ?_
  refine thenQ_e ?_
  refine blockQ_e ?_
  refine thenQ_n ?_
  refine ws 65 129 ?_
  refine qp (AI (-1)) rfl ?_
  refine r_nil ?_
  refine w_ret ?_
  cases hF
  exact eR

def c196 : MC := (.seq (.reg [rg 4 (.p true (.mv (.c (.bool false))))]) (.seq (.reg [mvt 5 0, mvt 6 1, rg 7 (.call true 212 [(.t 5), (.t 6)]), rg 8 (.p true (.bin .geq (.t 7) (.c (.int .i64 0)))), mvt 4 8]) .ret))
theorem c196_is : compFn Tryd.prog 196 = some (c196, [(.tmp 4)]) := by kernel_rfl
theorem c196_ok : okFn Tryd.prog 196 = true := by kernel_rfl

noncomputable def F_slices_ContainsFunc_Sint64_int64 (v0 : List Int) (v1 : Int) (v2 : Int) : Option (Bool) :=
 ((F_slices_IndexFunc_Sint64_int64 v0 v1 v2).bind fun v1000 => some (decide ((0 : Int) ≤ v1000)))
@[simp] def res_slices_ContainsFunc_Sint64_int64 (r : Bool) : RV := .one (.one (.val (.bool r)))
theorem con_slices_ContainsFunc_Sint64_int64 {v0 : List Int} {v1 : Int} {v2 : Int} {r : Bool} (hF : F_slices_ContainsFunc_Sint64_int64 v0 v1 v2 = some r) : Con Tryd.prog 196 [.sl 1 (v0.map vI), .fn 197 [.ptr [.int .i64 v1], .ptr [.int .i64 v2]]] (res_slices_ContainsFunc_Sint64_int64 r) := by
 unfold F_slices_ContainsFunc_Sint64_int64 at hF
 refine con_of c196_is fun N => ?_
 refine ws 0 64 ?_
 refine qp (AB false) rfl ?_
 refine r_nil ?_
 refine ws 64 384 ?_
 refine qp (AL 1 (v0.map vI)) rfl (qp (.val none (.fn 197 [.ptr [.int .i64 v1], .ptr [.int .i64 v2]])) rfl ?_)
 obtain ⟨v1000, e1000, hF⟩ := bind_get hF
 refine qc (AI v1000) [] false (con_slices_IndexFunc_Sint64_int64 e1000) c212_ok (by first | rfl | simp) rfl ?_
 refine qp (AB (decide ((0 : Int) ≤ v1000))) rfl (qp (AB (decide ((0 : Int) ≤ v1000))) rfl ?_)
 refine r_nil ?_
 refine w_ret ?_
 cases hF
 exact eR

def c171 : MC := (.seq (.reg [rg 4 (.f (.box (.t 1))), rg 5 (.f (.box (.t 2))), rg 6 (.p true (.mv (.c (.bool false))))]) (.seq (.reg [mvt 7 0, rg 8 (.p true (.mkf 197 [(.t 4), (.t 5)])), rg 9 (.call true 196 [(.t 7), (.t 8)]), rg 10 (.p true (.not (.t 9))), mvt 6 10]) .ret))
theorem c171_is : compFn Tryd.prog 171 = some (c171, [(.tmp 6)]) := by kernel_rfl
theorem c171_ok : okFn Tryd.prog 171 = true := by kernel_rfl

noncomputable def F_impl_allWithin (v0 : List Int) (v1 : Int) (v2 : Int) : Option (Bool) :=
 ((F_slices_ContainsFunc_Sint64_int64 v0 v1 v2).bind fun v1000 => some (!v1000))
@[simp] def res_impl_allWithin (r : Bool) : RV := .one (.one (.val (.bool r)))
theorem con_impl_allWithin {v0 : List Int} {v1 : Int} {v2 : Int} {r : Bool} (hF : F_impl_allWithin v0 v1 v2 = some r) : Con Tryd.prog 171 [.sl 1 (v0.map vI), .int .i64 v1, .int .i64 v2] (res_impl_allWithin r) := by
 unfold F_impl_allWithin at hF
 refine con_of c171_is fun N => ?_
 refine ws 0 192 ?_
 refine qf (.ptr 0 0 0) [(0, .box [AI v1])] (by simp) ?_
 refine qf (.ptr 64 0 0) [(64, .box [AI v2]), (0, .box [AI v1])] (by simp) ?_
 refine qp (AB false) rfl ?_
 refine r_nil ?_
 refine ws 192 512 ?_
 refine qp (AL 1 (v0.map vI)) rfl (qp (.fn 197 [.ptr 0 0 0, .ptr 64 0 0]) rfl ?_)
 obtain ⟨v1000, e1000, hF⟩ := bind_get hF
 refine qc (AB v1000) [(64, .box [AI v2]), (0, .box [AI v1])] true (con_slices_ContainsFunc_Sint64_int64 e1000) c196_ok (by simp [List.take_of_length_le]) rfl ?_
 refine qp (AB (!v1000)) rfl (qp (AB (!v1000)) rfl ?_)
 refine r_nil ?_
 refine w_ret ?_
 cases hF
 exact eR

def c135 : MC := (.seq (.reg [rg 1 (.f (.box (.t 0))), rg 2 (.p true (.mv (.c (.bool false))))]) (.seq (.reg [rg 3 (.p true (.fad (.t 1) 0)), rg 4 (.p true (.ld (.t 3) 1 false)), rg 5 (.p true (.len (.t 4))), rg 6 (.p true (.bin .geq (.t 5) (.c (.int .i64 1)))), mvt 7 6, ⟨(some 8), (some (7, true)), (.p true (.fad (.t 1) 0))⟩, ⟨(some 9), (some (7, true)), (.p true (.ld (.t 8) 1 false))⟩, ⟨(some 10), (some (7, true)), (.p true (.len (.t 9)))⟩, ⟨(some 11), (some (7, true)), (.p true (.bin .leq (.t 10) (.c (.int .i64 8))))⟩, rg 12 (.p true (.pick (.t 7) (.t 11) (.c (.bool false)))), mvt 13 12, ⟨(some 14), (some (13, true)), (.p true (.fad (.t 1) 0))⟩, ⟨(some 15), (some (13, true)), (.p true (.ld (.t 14) 1 false))⟩, ⟨(some 16), (some (13, true)), (.call true 171 [(.t 15), (.c (.int .i64 (-12))), (.c (.int .i64 23))])⟩, rg 17 (.p true (.pick (.t 13) (.t 16) (.c (.bool false)))), mvt 18 17, ⟨(some 19), (some (18, true)), (.p true (.fad (.t 1) 1))⟩, ⟨(some 20), (some (18, true)), (.p true (.ld (.t 19) 1 false))⟩, ⟨(some 21), (some (18, true)), (.call true 103 [(.t 20), (.c (.int .i64 0)), (.c (.int .i64 1000))])⟩, rg 22 (.p true (.pick (.t 18) (.t 21) (.c (.bool false)))), mvt 2 22]) .ret))
theorem c135_is : compFn Tryd.prog 135 = some (c135, [(.tmp 2)]) := by kernel_rfl
theorem c135_ok : okFn Tryd.prog 135 = true := by kernel_rfl

noncomputable def F_impl_Pattern_valid (v0 : TPattern) : Option (Bool) :=
 (bif (decide ((1 : Int) ≤ (v0.1.length : Int))) then (bif (decide ((v0.1.length : Int) ≤ (8 : Int))) then ((F_impl_allWithin v0.1 (-12) 23).bind fun v1000 => (bif v1000 then ((F_impl_within v0.2 0 1000).bind fun v1001 => some v1001)
 else some false))
 else some false)
 else some false)
@[simp] def res_impl_Pattern_valid (r : Bool) : RV := .one (.one (.val (.bool r)))
theorem con_impl_Pattern_valid {v0 : TPattern} {r : Bool} (hF : F_impl_Pattern_valid v0 = some r) : Con Tryd.prog 135 [ePattern v0] (res_impl_Pattern_valid r) := by
 unfold F_impl_Pattern_valid at hF
 refine con_of c135_is fun N => ?_
 refine ws 0 128 ?_
 refine qf (.ptr 0 0 0) [(0, .box [.val none (.sl 1 (v0.1.map vI)), AI v0.2])] (by simp) ?_
 refine qp (AB false) rfl ?_
 refine r_nil ?_
 refine ws 128 1472 ?_
 refine qp (.ptr 0 0 0) rfl (qp (AL 1 (v0.1.map vI)) rfl (qp (AI (v0.1.length : Int)) (ev_len_n rfl) (qp (AB (decide ((1 : Int) ≤ (v0.1.length : Int)))) rfl (qp (AB (decide ((1 : Int) ≤ (v0.1.length : Int)))) rfl ?_))))
 refine q_case 7 hF rfl (fun hF => ?_) (fun hF => ?_)
 ·
  refine qg (.ptr 0 0 0) rfl rfl (qg (AL 1 (v0.1.map vI)) rfl rfl (qg (AI (v0.1.length : Int)) rfl (ev_len_n rfl) (qg (AB (decide ((v0.1.length : Int) ≤ (8 : Int)))) rfl rfl (qp (AB (decide ((v0.1.length : Int) ≤ (8 : Int)))) rfl (qp (AB (decide ((v0.1.length : Int) ≤ (8 : Int)))) rfl ?_)))))
  refine q_case 13 hF rfl (fun hF => ?_) (fun hF => ?_)
  ·
   refine qg (.ptr 0 0 0) rfl rfl (qg (AL 1 (v0.1.map vI)) rfl rfl ?_)
   obtain ⟨v1000, e1000, hF⟩ := bind_get hF
   refine qcg (AB v1000) [(0, .box [.val none (.sl 1 (v0.1.map vI)), AI v0.2])] false rfl (con_impl_allWithin e1000) c171_ok (by first | rfl | simp) rfl ?_
   refine qp (AB v1000) rfl (qp (AB v1000) rfl ?_)
   refine q_case 18 hF rfl (fun hF => ?_) (fun hF => ?_)
   ·
    refine qg (.ptr 0 0 1) rfl rfl (qg (AI v0.2) rfl rfl ?_)
    obtain ⟨v1001, e1001, hF⟩ := bind_get hF
    refine qcg (AB v1001) [(0, .box [.val none (.sl 1 (v0.1.map vI)), AI v0.2])] false rfl (con_impl_within e1001) c103_ok (by first | rfl | simp) rfl ?_
    refine qp (AB v1001) rfl (qp (AB v1001) rfl ?_)
    refine r_nil ?_
    refine w_ret ?_
    cases hF
    exact eR
   ·
    refine qn rfl (qn rfl (qn rfl (qp (AB false) rfl (qp (AB false) rfl ?_))))
    refine r_nil ?_
    refine w_ret ?_
    cases hF
    exact eR
  ·
   refine qn rfl (qn rfl (qn rfl (qp (AB false) rfl (qp (AB false) rfl (qn rfl (qn rfl (qn rfl ?_)))))))
   refine qp (AB false) rfl (qp (AB false) rfl ?_)
   refine r_nil ?_
   refine w_ret ?_
   cases hF
   exact eR
 ·
  refine qn rfl (qn rfl (qn rfl (qn rfl (qp (AB false) rfl (qp (AB false) rfl (qn rfl (qn rfl ?_)))))))
  refine qn rfl (qp (AB false) rfl (qp (AB false) rfl (qn rfl (qn rfl (qn rfl (qp (AB false) rfl (qp (AB false) rfl ?_)))))))
  refine r_nil ?_
  refine w_ret ?_
  cases hF
  exact eR

def c95 : MC := (.seq (.reg [rg 1 (.f (.box (.t 0))), rg 2 (.p true (.mv (.c (.str []))))]) (.seq (.seq (.reg [rg 3 (.p true (.ld (.t 1) 2 true)), rg 4 (.call true 135 [(.t 3)]), rg 5 (.p true (.not (.t 4)))]) (.cond (.t 5) (.seq (.reg [rg 2 (.p true (.mv (.c (.str []))))]) .ret) .skip)) (.seq (.reg [rg 6 (.p false (.fad (.t 1) 1)), rg 7 (.p false (.ld (.t 6) 1 false)), rg 8 (.call false 54 [(.t 7)]), rg 9 (.p false (.bin .add (.t 8) (.c (.str [58])))), rg 10 (.p false (.fad (.t 1) 0)), rg 11 (.p false (.ld (.t 10) 1 false)), rg 12 (.call false 123 [(.t 11)]), rg 13 (.p false (.bin .add (.t 9) (.t 12))), rg 2 (.p false (.mv (.t 13)))]) .ret)))
theorem c95_is : compFn Tryd.prog 95 = some (c95, [(.tmp 2)]) := by kernel_rfl
theorem c95_ok : okFn Tryd.prog 95 = true := by kernel_rfl

noncomputable def F_impl_PatternText (v0 : TPattern) : Option (List UInt8) :=
 ((F_impl_Pattern_valid v0).bind fun v1000 => (bif (!v1000) then some []
 else ((F_impl_Decimal v0.2).bind fun v1001 => (need (v1001.length + [58].length < 9223372036854775808) (((F_impl_ListText v0.1).bind fun v1003 => (need ((v1001 ++ [58]).length + v1003.length < 9223372036854775808) (some ((v1001 ++ [58]) ++ v1003)))))))))
@[simp] def res_impl_PatternText (r : List UInt8) : RV := .one (.one (.val (.str r)))
theorem con_impl_PatternText {v0 : TPattern} {r : List UInt8} (hF : F_impl_PatternText v0 = some r) : Con Tryd.prog 95 [ePattern v0] (res_impl_PatternText r) := by
 unfold F_impl_PatternText at hF
 refine con_of c95_is fun N => ?_
 refine ws 0 128 ?_
 refine qf (.ptr 0 0 0) [(0, .box [.val none (.sl 1 (v0.1.map vI)), AI v0.2])] (by simp) ?_
 refine qp (AS []) rfl ?_
 refine r_nil ?_
 refine w_seq ?_
 refine ws 128 320 ?_
 refine qp (.agg [.val none (.sl 1 (v0.1.map vI)), AI v0.2]) rfl ?_
 obtain ⟨v1000, e1000, hF⟩ := bind_get hF
 refine qc (AB v1000) [(0, .box [.val none (.sl 1 (v0.1.map vI)), AI v0.2])] false (con_impl_Pattern_valid e1000) c135_ok (by first | rfl | simp) rfl ?_
 refine qp (AB (!v1000)) rfl ?_
 refine r_nil ?_
 refine cF hF (fun hF => ?_) fun hF => ?_
 ·
  refine ws 320 384 ?_
  refine qp (AS []) rfl ?_
  refine r_nil ?_
  refine w_ret ?_
  refine thenQ_r ?_
  cases hF
  exact eR
 ·
  refine w_skip ?_
  refine thenQ_n ?_
  refine ws 320 896 ?_
  refine qp (.ptr 0 0 1) rfl (qp (AI v0.2) rfl ?_)
  obtain ⟨v1001, e1001, hF⟩ := bind_get hF
  refine qc (AS v1001) [(0, .box [.val none (.sl 1 (v0.1.map vI)), AI v0.2])] false (con_impl_Decimal e1001) c54_ok (by first | rfl | simp) rfl ?_
  obtain ⟨g1002, hF⟩ := need_some hF
  refine qp (AS (v1001 ++ [58])) (ev_add_s rfl rfl g1002) (qp (.ptr 0 0 0) rfl (qp (AL 1 (v0.1.map vI)) rfl ?_))
  obtain ⟨v1003, e1003, hF⟩ := bind_get hF
  refine qc (AS v1003) [(0, .box [.val none (.sl 1 (v0.1.map vI)), AI v0.2])] false (con_impl_ListText e1003) c123_ok (by first | rfl | simp) rfl ?_
  obtain ⟨g1004, hF⟩ := need_some hF
  refine qp (AS ((v1001 ++ [58]) ++ v1003)) (ev_add_s rfl rfl g1004) (qp (AS ((v1001 ++ [58]) ++ v1003)) rfl ?_)
  refine r_nil ?_
  refine w_ret ?_
  cases hF
  exact eR

def c44 : MC := (.seq (.reg [rg 2 (.f (.alloc [((.sl 0 []), (1, false)), ((.int .i64 0), (0, false))])), rg 3 (.p true (.mv (.c (.bool false))))]) (.seq (.reg [mvt 13 0, rg 14 (.call true 93 [(.t 13), (.c (.str [58]))]), mvt 12 14, rg 15 (.p true (.ext (.t 12) 0)), rg 16 (.p true (.ext (.t 12) 1)), rg 17 (.p true (.ext (.t 12) 2)), mvt 4 15, mvt 5 16, mvt 6 17]) (.seq (.reg [mvt 19 4, rg 20 (.call true 70 [(.t 19)]), mvt 18 20, rg 21 (.p true (.ext (.t 18) 0)), rg 22 (.p true (.ext (.t 18) 1)), mvt 7 21, mvt 8 22]) (.seq (.reg [mvt 24 5, rg 25 (.call true 94 [(.t 24)]), mvt 23 25, rg 26 (.p true (.ext (.t 23) 0)), rg 27 (.p true (.ext (.t 23) 1)), mvt 9 26, mvt 10 27]) (.seq (.reg [mvt 28 9, mvt 29 7, rg 30 (.f (.bld [((.sl 0 []), (1, true)), ((.int .i64 0), (0, true))] [(0, (1, (.t 28))), (1, (1, (.t 29)))])), rg 11 (.f (.alloc [((.sl 0 []), (1, false)), ((.int .i64 0), (0, false))])), ⟨none, none, (.f (.st (.t 11) (.t 30) 2))⟩]) (.seq (.seq (.reg [mvt 31 8, rg 32 (.p true (.not (.t 31))), mvt 33 32, ⟨(some 34), (some (33, false)), (.p true (.mv (.t 10)))⟩, ⟨(some 35), (some (33, false)), (.p true (.not (.t 34)))⟩, rg 36 (.p true (.pick (.t 33) (.c (.bool true)) (.t 35))), mvt 37 36, ⟨(some 38), (some (37, false)), (.p true (.ld (.t 11) 2 true))⟩, ⟨(some 39), (some (37, false)), (.call true 95 [(.t 38)])⟩, ⟨(some 40), (some (37, false)), (.p true (.mv (.t 0)))⟩, ⟨(some 41), (some (37, false)), (.p true (.bin .neq (.t 39) (.t 40)))⟩, rg 42 (.p true (.pick (.t 37) (.c (.bool true)) (.t 41)))]) (.cond (.t 42) (.seq (.reg [rg 43 (.f (.bld [((.sl 0 []), (1, false)), ((.int .i64 0), (0, false))] [])), ⟨none, none, (.f (.st (.t 2) (.t 43) 2))⟩, rg 3 (.p true (.mv (.c (.bool false))))]) .ret) .skip)) (.seq (.reg [rg 44 (.p true (.ld (.t 11) 2 true)), ⟨none, none, (.f (.st (.t 2) (.t 44) 2))⟩, rg 3 (.p true (.mv (.c (.bool true))))]) .ret)))))))
theorem c44_is : compFn Tryd.prog 44 = some (c44, [(.cell (.ld (.t 2) 2 true)), (.tmp 3)]) := by kernel_rfl
theorem c44_ok : okFn Tryd.prog 44 = true := by kernel_rfl

noncomputable def F_impl_ReadPattern (v0 : List UInt8) : Option (TPattern × Bool) :=
 ((F_cut v0 [58]).bind fun v1000 => ((F_readDec v1000.1).bind fun v1001 => ((F_impl_ReadList v1000.2.1).bind fun v1002 => (bif (!v1001.2) then some (([], 0), false)
 else (bif (!v1002.2) then some (([], 0), false)
 else ((F_impl_PatternText (v1002.1, v1001.1)).bind fun v1003 => (bif (decide (v1003 ≠ v0)) then some (([], 0), false)
 else some ((v1002.1, v1001.1), true))))))))
@[simp] def res_impl_ReadPattern (r : TPattern × Bool) : RV := .tup [.agg [.row true 1 (r.1.1.map vI), .val (.int .i64 r.1.2)], .one (.val (.bool r.2))]
theorem con_impl_ReadPattern {v0 : List UInt8} {r : TPattern × Bool} (hF : F_impl_ReadPattern v0 = some r) : Con Tryd.prog 44 [.str v0] (res_impl_ReadPattern r) := by
 unfold F_impl_ReadPattern at hF
 refine con_of c44_is fun N => ?_
 refine ws 0 128 ?_
 refine qf (.ptr 0 0 0) [(0, .box [.sl 1 0 0, AI 0]), (1, .row true 1 (([] : List Int).map vI))] (by simp) ?_
 refine qp (AB false) rfl ?_
 refine r_nil ?_
 refine ws 128 704 ?_
 refine qp (AS v0) rfl ?_
 obtain ⟨v1000, e1000, hF⟩ := bind_get hF
 refine qc (.tup [AS v1000.1, AS v1000.2.1, AB v1000.2.2]) [(0, .box [.sl 1 0 0, AI 0]), (1, .row true 1 (([] : List Int).map vI))] false (con_cut e1000) c93_ok (by first | rfl | simp) rfl ?_
 refine qp (.tup [AS v1000.1, AS v1000.2.1, AB v1000.2.2]) rfl (qp (AS v1000.1) rfl (qp (AS v1000.2.1) rfl (qp (AB v1000.2.2) rfl (qp (AS v1000.1) rfl (qp (AS v1000.2.1) rfl (qp (AB v1000.2.2) rfl ?_))))))
 refine r_nil ?_
 refine ws 704 1152 ?_
 refine qp (AS v1000.1) rfl ?_
 obtain ⟨v1001, e1001, hF⟩ := bind_get hF
 refine qc (.tup [AI v1001.1, AB v1001.2]) [(0, .box [.sl 1 0 0, AI 0]), (1, .row true 1 (([] : List Int).map vI))] false (con_readDec e1001) c70_ok (by first | rfl | simp) rfl ?_
 refine qp (.tup [AI v1001.1, AB v1001.2]) rfl (qp (AI v1001.1) rfl (qp (AB v1001.2) rfl (qp (AI v1001.1) rfl (qp (AB v1001.2) rfl ?_))))
 refine r_nil ?_
 refine ws 1152 1600 ?_
 refine qp (AS v1000.2.1) rfl ?_
 obtain ⟨v1002, e1002, hF⟩ := bind_get hF
 refine qc (.tup [.sl 1216 0 v1002.1.length, AB v1002.2]) [(1216, .row true 1 (v1002.1.map vI)), (0, .box [.sl 1 0 0, AI 0]), (1, .row true 1 (([] : List Int).map vI))] false (con_impl_ReadList e1002) c94_ok (by first | rfl | simp) (by simp [res_impl_ReadList]) ?_
 refine qp (.tup [.sl 1216 0 v1002.1.length, AB v1002.2]) rfl (qp (.sl 1216 0 v1002.1.length) rfl (qp (AB v1002.2) rfl (qp (.sl 1216 0 v1002.1.length) rfl (qp (AB v1002.2) rfl ?_))))
 refine r_nil ?_
 refine ws 1600 1920 ?_
 refine qp (.sl 1216 0 v1002.1.length) rfl (qp (AI v1001.1) rfl ?_)
 refine qf (.agg [.sl 1216 0 v1002.1.length, AI v1001.1]) [(1216, .row true 1 (v1002.1.map vI)), (0, .box [.sl 1 0 0, AI 0]), (1, .row true 1 (([] : List Int).map vI))] (by simp) ?_
 refine qf (.ptr 1792 0 0) [(1792, .box [.sl 1793 0 0, AI 0]), (1793, .row true 1 (([] : List Int).map vI)), (1216, .row true 1 (v1002.1.map vI)), (0, .box [.sl 1 0 0, AI 0]), (1, .row true 1 (([] : List Int).map vI))] (by simp) ?_
 refine qf0 (.undef) [(1792, .box [.sl 1216 0 v1002.1.length, AI v1001.1]), (1792, .box [.sl 1793 0 0, AI 0]), (1793, .row true 1 (([] : List Int).map vI)), (1216, .row true 1 (v1002.1.map vI)), (0, .box [.sl 1 0 0, AI 0]), (1, .row true 1 (([] : List Int).map vI))] (by simp) ?_
 refine r_nil ?_
 refine w_seq ?_
 refine ws 1920 2688 ?_
 refine qp (AB v1001.2) rfl (qp (AB (!v1001.2)) rfl (qp (AB (!v1001.2)) rfl ?_))
 refine q_case 33 hF rfl (fun hF => ?_) (fun hF => ?_)
 ·
  refine qn rfl (qn rfl (qp (AB true) rfl (qp (AB true) rfl (qn rfl (qn rfl (qn rfl (qn rfl ?_)))))))
  refine qp (AB true) rfl ?_
  refine r_nil ?_
  refine w_true rfl ?_
  refine ws 2688 2880 ?_
  refine qf (.agg [.sl 2688 0 0, AI 0]) [(2688, .row true 1 (([] : List Int).map vI)), (1792, .box [.sl 1216 0 v1002.1.length, AI v1001.1]), (1792, .box [.sl 1793 0 0, AI 0]), (1793, .row true 1 (([] : List Int).map vI)), (1216, .row true 1 (v1002.1.map vI)), (0, .box [.sl 1 0 0, AI 0]), (1, .row true 1 (([] : List Int).map vI))] (by simp) ?_
  refine qf0 (.undef) [(0, .box [.sl 2688 0 0, AI 0]), (2688, .row true 1 (([] : List Int).map vI)), (1792, .box [.sl 1216 0 v1002.1.length, AI v1001.1]), (1792, .box [.sl 1793 0 0, AI 0]), (1793, .row true 1 (([] : List Int).map vI)), (1216, .row true 1 (v1002.1.map vI)), (0, .box [.sl 1 0 0, AI 0]), (1, .row true 1 (([] : List Int).map vI))] (by simp) ?_
  refine qp (AB false) rfl ?_
  refine r_nil ?_
  refine w_ret ?_
  refine thenQ_r ?_
  cases hF
  exact eR
 ·
  refine qg (AB v1002.2) rfl rfl (qg (AB (!v1002.2)) rfl rfl (qp (AB (!v1002.2)) rfl (qp (AB (!v1002.2)) rfl ?_)))
  refine q_case 37 hF rfl (fun hF => ?_) (fun hF => ?_)
  ·
   refine qn rfl (qn rfl (qn rfl (qn rfl (qp (AB true) rfl ?_))))
   refine r_nil ?_
   refine w_true rfl ?_
   refine ws 2688 2880 ?_
   refine qf (.agg [.sl 2688 0 0, AI 0]) [(2688, .row true 1 (([] : List Int).map vI)), (1792, .box [.sl 1216 0 v1002.1.length, AI v1001.1]), (1792, .box [.sl 1793 0 0, AI 0]), (1793, .row true 1 (([] : List Int).map vI)), (1216, .row true 1 (v1002.1.map vI)), (0, .box [.sl 1 0 0, AI 0]), (1, .row true 1 (([] : List Int).map vI))] (by simp) ?_
   refine qf0 (.undef) [(0, .box [.sl 2688 0 0, AI 0]), (2688, .row true 1 (([] : List Int).map vI)), (1792, .box [.sl 1216 0 v1002.1.length, AI v1001.1]), (1792, .box [.sl 1793 0 0, AI 0]), (1793, .row true 1 (([] : List Int).map vI)), (1216, .row true 1 (v1002.1.map vI)), (0, .box [.sl 1 0 0, AI 0]), (1, .row true 1 (([] : List Int).map vI))] (by simp) ?_
   refine qp (AB false) rfl ?_
   refine r_nil ?_
   refine w_ret ?_
   refine thenQ_r ?_
   cases hF
   exact eR
  ·
   refine qg (.agg [.sl 1216 0 v1002.1.length, AI v1001.1]) rfl rfl ?_
   obtain ⟨v1003, e1003, hF⟩ := bind_get hF
   refine qcg (AS v1003) [(1792, .box [.sl 1216 0 v1002.1.length, AI v1001.1]), (1792, .box [.sl 1793 0 0, AI 0]), (1793, .row true 1 (([] : List Int).map vI)), (1216, .row true 1 (v1002.1.map vI)), (0, .box [.sl 1 0 0, AI 0]), (1, .row true 1 (([] : List Int).map vI))] true rfl (con_impl_PatternText e1003) c95_ok (by simp [List.take_of_length_le]) rfl ?_
   refine qg (AS v0) rfl rfl (qg (AB (decide (v1003 ≠ v0))) rfl rfl (qp (AB (decide (v1003 ≠ v0))) rfl ?_))
   refine r_nil ?_
   refine cF hF (fun hF => ?_) fun hF => ?_
   ·
    refine ws 2688 2880 ?_
    refine qf (.agg [.sl 2688 0 0, AI 0]) [(2688, .row true 1 (([] : List Int).map vI)), (1792, .box [.sl 1216 0 v1002.1.length, AI v1001.1]), (1792, .box [.sl 1793 0 0, AI 0]), (1793, .row true 1 (([] : List Int).map vI)), (1216, .row true 1 (v1002.1.map vI)), (0, .box [.sl 1 0 0, AI 0]), (1, .row true 1 (([] : List Int).map vI))] (by simp) ?_
    refine qf0 (.undef) [(0, .box [.sl 2688 0 0, AI 0]), (2688, .row true 1 (([] : List Int).map vI)), (1792, .box [.sl 1216 0 v1002.1.length, AI v1001.1]), (1792, .box [.sl 1793 0 0, AI 0]), (1793, .row true 1 (([] : List Int).map vI)), (1216, .row true 1 (v1002.1.map vI)), (0, .box [.sl 1 0 0, AI 0]), (1, .row true 1 (([] : List Int).map vI))] (by simp) ?_
    refine qp (AB false) rfl ?_
    refine r_nil ?_
    refine w_ret ?_
    refine thenQ_r ?_
    cases hF
    exact eR
   ·
    refine w_skip ?_
    refine thenQ_n ?_
    refine ws 2688 2880 ?_
    refine qp (.agg [.sl 1216 0 v1002.1.length, AI v1001.1]) rfl ?_
    refine qf0 (.undef) [(0, .box [.sl 1216 0 v1002.1.length, AI v1001.1]), (1792, .box [.sl 1216 0 v1002.1.length, AI v1001.1]), (1792, .box [.sl 1793 0 0, AI 0]), (1793, .row true 1 (([] : List Int).map vI)), (1216, .row true 1 (v1002.1.map vI)), (0, .box [.sl 1 0 0, AI 0]), (1, .row true 1 (([] : List Int).map vI))] (by simp) ?_
    refine qp (AB true) rfl ?_
    refine r_nil ?_
    refine w_ret ?_
    cases hF
    exact eR

def c23 : MC := (.seq (.reg [rg 4 (.p true (.mv (.c (.bool false))))]) (.seq (.seq (.reg [mvt 6 0, rg 7 (.p true (.len (.t 6))), mvt 8 1, rg 9 (.p true (.len (.t 8))), rg 10 (.p true (.bin .neq (.t 7) (.t 9)))]) (.cond (.t 10) (.seq (.reg [rg 4 (.p true (.mv (.c (.bool false))))]) .ret) .skip)) (.seq (.seq (.reg [rg 5 (.p true (.mv (.c (.int .i64 0))))]) (.block 0 (.loop (.seq (.seq (.reg [mvt 11 5, mvt 12 0, rg 13 (.p true (.len (.t 12))), rg 14 (.p true (.bin .lss (.t 11) (.t 13)))]) (.cond (.t 14) .skip (.exit 0))) (.seq (.block 1 (.seq (.reg [rg 17 (.p false (.mv (.t 0))), rg 18 (.p false (.mv (.t 5))), rg 19 (.p false (.iad (.t 17) (.t 18) 1)), rg 20 (.p false (.ld (.t 19) 1 false)), rg 21 (.p false (.mv (.t 1))), rg 22 (.p false (.mv (.t 5))), rg 23 (.p false (.iad (.t 21) (.t 22) 1)), rg 24 (.p false (.ld (.t 23) 1 false)), rg 25 (.p false (.bin .neq (.t 20) (.t 24)))]) (.cond (.t 25) (.seq (.reg [rg 4 (.p true (.mv (.c (.bool false))))]) .ret) .skip))) (.reg [mvt 15 5, rg 16 (.p true (.bin .add (.t 15) (.c (.int .i64 1)))), mvt 5 16])))))) (.seq (.reg [rg 4 (.p true (.mv (.c (.bool true))))]) .ret))))
theorem c23_is : compFn Tryd.prog 23 = some (c23, [(.tmp 4)]) := by kernel_rfl
theorem c23_ok : okFn Tryd.prog 23 = true := by kernel_rfl

noncomputable def F_laws_eqInt64S_l0 (v0 : List Int) (v1 : List Int) (k0 : Int → Option (Bool)) : Int → Option (Bool)
 | v50001 => (bif (decide (v50001 < (v0.length : Int))) then ((ix v0 v50001).bind fun v1000 => ((ix v1 v50001).bind fun v1001 => (bif (decide (v1000 ≠ v1001)) then some false
 else k0 (w64 (v50001 + 1)))))
 else some true)
noncomputable def F_laws_eqInt64S (v0 : List Int) (v1 : List Int) : Option (Bool) :=
 (bif (decide ((v0.length : Int) ≠ (v1.length : Int))) then some false
 else loop (F_laws_eqInt64S_l0 v0 v1) 0)
@[simp] def res_laws_eqInt64S (r : Bool) : RV := .one (.one (.val (.bool r)))
theorem con_laws_eqInt64S {v0 : List Int} {v1 : List Int} {r : Bool} (hF : F_laws_eqInt64S v0 v1 = some r) : Con Tryd.prog 23 [.sl 1 (v0.map vI), .sl 1 (v1.map vI)] (res_laws_eqInt64S r) := by
 unfold F_laws_eqInt64S at hF
 refine con_of c23_is fun N => ?_
 refine ws 0 64 ?_
 refine qp (AB false) rfl ?_
 refine r_nil ?_
 refine w_seq ?_
 refine ws 64 384 ?_
 refine qp (AL 1 (v0.map vI)) rfl (qp (AI (v0.length : Int)) (ev_len_n rfl) (qp (AL 1 (v1.map vI)) rfl (qp (AI (v1.length : Int)) (ev_len_n rfl) (qp (AB (decide ((v0.length : Int) ≠ (v1.length : Int)))) rfl ?_))))
 refine r_nil ?_
 refine cF hF (fun hF => ?_) fun hF => ?_
 ·
  refine ws 384 448 ?_
  refine qp (AB false) rfl ?_
  refine r_nil ?_
  refine w_ret ?_
  refine thenQ_r ?_
  cases hF
  exact eR
 ·
  refine w_skip ?_
  refine thenQ_n ?_
  refine w_seq ?_
  refine ws 384 448 ?_
  refine qp (AI 0) rfl ?_
  refine r_nil ?_
  refine w_block ?_
  refine wr (l' := [(0, AL 1 (v0.map vI)), (1, AL 1 (v1.map vI)), (5, AI 0)]) (L := []) [0, 1, 5] [] 1 ?_
  refine w_loopF (F_laws_eqInt64S_l0 v0 v1) (fun s : Int => mkS [(0, AL 1 (v0.map vI)), (1, AL 1 (v1.map vI)), (5, AI s)] (fo []) 1) hF ?_
  rintro k0 v50001 hF
  rw [F_laws_eqInt64S_l0] at hF
  try dsimp only
  refine w_seq ?_
  refine ws 1 257 ?_
  refine qp (AI v50001) rfl (qp (AL 1 (v0.map vI)) rfl (qp (AI (v0.length : Int)) (ev_len_n rfl) (qp (AB (decide (v50001 < (v0.length : Int)))) rfl ?_)))
  refine r_nil ?_
  refine cF hF (fun hF => ?_) fun hF => ?_
  ·
   refine w_skip ?_
   refine thenQ_n ?_
   refine w_seq ?_
   refine w_block ?_
   refine ws 257 833 ?_
   refine qp (AL 1 (v0.map vI)) rfl (qp (AI v50001) rfl ?_)
   obtain ⟨v1000, e1000, hF⟩ := bind_get hF
   refine qp (.val none (.ptr [.int .i64 v1000])) (ev_iad_n rfl rfl e1000 rfl) (qp (AI v1000) rfl (qp (AL 1 (v1.map vI)) rfl (qp (AI v50001) rfl ?_)))
   obtain ⟨v1001, e1001, hF⟩ := bind_get hF
   refine qp (.val none (.ptr [.int .i64 v1001])) (ev_iad_n rfl rfl e1001 rfl) (qp (AI v1001) rfl (qp (AB (decide (v1000 ≠ v1001))) rfl ?_))
   refine r_nil ?_
   refine cF hF (fun hF => ?_) fun hF => ?_
   ·
    refine ws 833 897 ?_
    refine qp (AB false) rfl ?_
    refine r_nil ?_
    refine w_ret ?_
    refine blockQ_r ?_
    refine thenQ_r ?_
    refine thenQ_r ?_
    refine blockQ_r ?_
    refine thenQ_r ?_
    cases hF
    exact eR
   ·
    refine w_skip ?_
    refine blockQ_n ?_
    refine thenQ_n ?_
    refine w_reg 833 1025 rfl rfl ?_
    refine qp (AI v50001) rfl (qp (AI (w64 (v50001 + 1))) rfl (qp (AI (w64 (v50001 + 1))) rfl ?_))
    refine r_nil ?_
    refine thenQ_n ?_
    refine ar (l' := [(0, AL 1 (v0.map vI)), (1, AL 1 (v1.map vI)), (5, AI (w64 (v50001 + 1)))]) (L := []) [0, 1, 5] [] 1 ⟨_, by rfl, hF⟩
  ·
   refine w_exit ?_
   refine thenQ_e ?_
   refine thenQ_e ?_
   refine blockQ_e ?_
   refine thenQ_n ?_
   refine ws 257 321 ?_
   refine qp (AB true) rfl ?_
   refine r_nil ?_
   refine w_ret ?_
   cases hF
   exact eR

def c45 : MC := (.seq (.reg [rg 2 (.f (.box (.t 0))), rg 3 (.f (.box (.t 1))), rg 4 (.p true (.mv (.c (.bool false))))]) (.seq (.seq (.reg [rg 5 (.p true (.fad (.t 2) 0)), rg 6 (.p true (.ld (.t 5) 1 false)), rg 7 (.p true (.fad (.t 3) 0)), rg 8 (.p true (.ld (.t 7) 1 false)), rg 9 (.call true 23 [(.t 6), (.t 8)]), rg 10 (.p true (.not (.t 9)))]) (.cond (.t 10) (.seq (.reg [rg 4 (.p true (.mv (.c (.bool false))))]) .ret) .skip)) (.seq (.seq (.reg [rg 11 (.p true (.fad (.t 2) 1)), rg 12 (.p true (.ld (.t 11) 1 false)), rg 13 (.p true (.fad (.t 3) 1)), rg 14 (.p true (.ld (.t 13) 1 false)), rg 15 (.p true (.bin .neq (.t 12) (.t 14)))]) (.cond (.t 15) (.seq (.reg [rg 4 (.p true (.mv (.c (.bool false))))]) .ret) .skip)) (.seq (.reg [rg 4 (.p true (.mv (.c (.bool true))))]) .ret))))
theorem c45_is : compFn Tryd.prog 45 = some (c45, [(.tmp 4)]) := by kernel_rfl
theorem c45_ok : okFn Tryd.prog 45 = true := by kernel_rfl

noncomputable def F_laws_eqPattern (v0 : TPattern) (v1 : TPattern) : Option (Bool) :=
 ((F_laws_eqInt64S v0.1 v1.1).bind fun v1000 => (bif (!v1000) then some false
 else (bif (decide (v0.2 ≠ v1.2)) then some false
 else some true)))
@[simp] def res_laws_eqPattern (r : Bool) : RV := .one (.one (.val (.bool r)))
theorem con_laws_eqPattern {v0 : TPattern} {v1 : TPattern} {r : Bool} (hF : F_laws_eqPattern v0 v1 = some r) : Con Tryd.prog 45 [ePattern v0, ePattern v1] (res_laws_eqPattern r) := by
 unfold F_laws_eqPattern at hF
 refine con_of c45_is fun N => ?_
 refine ws 0 192 ?_
 refine qf (.ptr 0 0 0) [(0, .box [.val none (.sl 1 (v0.1.map vI)), AI v0.2])] (by simp) ?_
 refine qf (.ptr 64 0 0) [(64, .box [.val none (.sl 1 (v1.1.map vI)), AI v1.2]), (0, .box [.val none (.sl 1 (v0.1.map vI)), AI v0.2])] (by simp) ?_
 refine qp (AB false) rfl ?_
 refine r_nil ?_
 refine w_seq ?_
 refine ws 192 576 ?_
 refine qp (.ptr 0 0 0) rfl (qp (AL 1 (v0.1.map vI)) rfl (qp (.ptr 64 0 0) rfl (qp (AL 1 (v1.1.map vI)) rfl ?_)))
 obtain ⟨v1000, e1000, hF⟩ := bind_get hF
 refine qc (AB v1000) [(64, .box [.val none (.sl 1 (v1.1.map vI)), AI v1.2]), (0, .box [.val none (.sl 1 (v0.1.map vI)), AI v0.2])] false (con_laws_eqInt64S e1000) c23_ok (by first | rfl | simp) rfl ?_
 refine qp (AB (!v1000)) rfl ?_
 refine r_nil ?_
 refine cF hF (fun hF => ?_) fun hF => ?_
 ·
  refine ws 576 640 ?_
  refine qp (AB false) rfl ?_
  refine r_nil ?_
  refine w_ret ?_
  refine thenQ_r ?_
  cases hF
  exact eR
 ·
  refine w_skip ?_
  refine thenQ_n ?_
  refine w_seq ?_
  refine ws 576 896 ?_
  refine qp (.ptr 0 0 1) rfl (qp (AI v0.2) rfl (qp (.ptr 64 0 1) rfl (qp (AI v1.2) rfl (qp (AB (decide (v0.2 ≠ v1.2))) rfl ?_))))
  refine r_nil ?_
  refine cF hF (fun hF => ?_) fun hF => ?_
  ·
   refine ws 896 960 ?_
   refine qp (AB false) rfl ?_
   refine r_nil ?_
   refine w_ret ?_
   refine thenQ_r ?_
   cases hF
   exact eR
  ·
   refine w_skip ?_
   refine thenQ_n ?_
   refine ws 896 960 ?_
   refine qp (AB true) rfl ?_
   refine r_nil ?_
   refine w_ret ?_
   cases hF
   exact eR

def c24 : MC := (.seq (.reg [rg 4 (.p true (.mv (.c (.int .i64 0))))]) (.seq (.seq (.reg [rg 5 (.p true (.mv (.c (.int .i64 0))))]) (.block 0 (.loop (.seq (.seq (.reg [mvt 6 5, mvt 7 0, rg 8 (.p true (.len (.t 7))), rg 9 (.p true (.bin .lss (.t 6) (.t 8)))]) (.cond (.t 9) .skip (.exit 0))) (.seq (.block 1 (.seq (.reg [mvt 12 0, mvt 13 5, mvt 14 1, rg 15 (.p true (.iad (.t 12) (.t 13) 1)), ⟨none, none, (.f (.st (.t 15) (.t 14) 1))⟩]) (.reg [mvt 16 1, rg 17 (.p true (.bin .add (.t 16) (.c (.int .i64 1)))), mvt 1 17]))) (.reg [mvt 10 5, rg 11 (.p true (.bin .add (.t 10) (.c (.int .i64 1)))), mvt 5 11])))))) (.seq (.reg [mvt 18 1, mvt 4 18]) .ret)))
theorem c24_is : compFnM Tryd.prog 24 = some (c24, [(.tmp 4)]) := by kernel_rfl
theorem c24_ok : okFn Tryd.prog 24 = true := by kernel_rfl

noncomputable def F_laws_markInt64S_l0 (k0 : Int × Int × (List Int) → Option (TPattern)) : Int × Int × (List Int) → Option (TPattern)
 | (v50003, v50004, v50005) => (bif (decide (v50004 < (v50005.length : Int))) then ((ix v50005 v50004).bind fun v1000 => k0 (w64 (v50003 + 1), w64 (v50004 + 1), List.set v50005 v50004.toNat v50003))
 else some (v50005, v50003))
noncomputable def F_laws_markInt64S (v0 : List Int) (v1 : Int) : Option (TPattern) :=
 loop (F_laws_markInt64S_l0) (v1, 0, v0)
theorem con_laws_markInt64S {v0 : List Int} {v1 : Int} {r : TPattern} (hF : F_laws_markInt64S v0 v1 = some r) : ConM Tryd.prog 24 (.one (.row true 1 (v0.map vI))) (.one (.row true 1 (r.1.map vI))) [.int .i64 v1] (.int .i64 r.2) := by
 unfold F_laws_markInt64S at hF
 refine conM_of (av := .sl 0 0 v0.length) (L := [(0, .row true 1 (v0.map vI))]) c24_is rfl rfl rfl (by simp) fun N => ?_
 refine ws 64 128 ?_
 refine qp (AI 0) rfl ?_
 refine r_nil ?_
 refine w_seq ?_
 refine ws 128 192 ?_
 refine qp (AI 0) rfl ?_
 refine r_nil ?_
 refine w_block ?_
 refine wr (l' := [(0, .sl 0 0 v0.length), (1, AI v1), (5, AI 0)]) (L := [(0, .row true 1 (v0.map vI))]) [0, 1, 5] [(0, 0)] 1 ?_
 refine w_loopF (F_laws_markInt64S_l0) (fun s : Int × Int × (List Int) => mkS [(0, .sl 0 0 s.2.2.length), (1, AI s.1), (5, AI s.2.1)] (fo [(0, .row true 1 (s.2.2.map vI))]) 1) hF ?_
 rintro k0 ⟨v50003, v50004, v50005⟩ hF
 rw [F_laws_markInt64S_l0] at hF
 try dsimp only
 refine w_seq ?_
 refine ws 1 257 ?_
 refine qp (AI v50004) rfl (qp (.sl 0 0 v50005.length) rfl (qp (AI (v50005.length : Int)) rfl (qp (AB (decide (v50004 < (v50005.length : Int)))) rfl ?_)))
 refine r_nil ?_
 refine cF hF (fun hF => ?_) fun hF => ?_
 ·
  refine w_skip ?_
  refine thenQ_n ?_
  refine w_seq ?_
  refine w_block ?_
  refine ws 257 577 ?_
  refine qp (.sl 0 0 v50005.length) rfl (qp (AI v50004) rfl (qp (AI v50003) rfl ?_))
  obtain ⟨v1000, e1000, hF⟩ := bind_get hF
  refine qp (.ptr 0 v50004.toNat 0) (ev_iad_r rfl (by simp) rfl rfl e1000) ?_
  refine qf0 (.undef) [(0, .row true 1 ((List.set v50005 v50004.toNat v50003).map vI)), (0, .row true 1 (v50005.map vI))] (effT_st rfl rfl (ix_some e1000).2 rfl rfl (by rfl) (by first | rfl | simp [patch, reb, List.take_of_length_le]) (by rfl) rfl) ?_
  refine r_nil ?_
  refine w_reg 577 769 rfl rfl ?_
  refine qp (AI v50003) rfl (qp (AI (w64 (v50003 + 1))) rfl (qp (AI (w64 (v50003 + 1))) rfl ?_))
  refine r_nil ?_
  refine blockQ_n ?_
  refine thenQ_n ?_
  refine w_reg 769 961 rfl rfl ?_
  refine qp (AI v50004) rfl (qp (AI (w64 (v50004 + 1))) rfl (qp (AI (w64 (v50004 + 1))) rfl ?_))
  refine r_nil ?_
  refine thenQ_n ?_
  refine ar (l' := [(0, .sl 0 0 (List.set v50005 v50004.toNat v50003).length), (1, AI (w64 (v50003 + 1))), (5, AI (w64 (v50004 + 1)))]) (L := [(0, .row true 1 ((List.set v50005 v50004.toNat v50003).map vI))]) [0, 1, 5] [(0, 0)] 1 ⟨_, by rfl, hF⟩
 ·
  refine w_exit ?_
  refine thenQ_e ?_
  refine thenQ_e ?_
  refine blockQ_e ?_
  refine thenQ_n ?_
  refine ws 257 385 ?_
  refine qp (AI v50003) rfl (qp (AI v50003) rfl ?_)
  refine r_nil ?_
  refine w_ret ?_
  cases hF
  exact endM_r rfl rfl (by first | rfl | (simp [List.take_of_length_le]; first | exact ⟨rfl, rfl⟩ | rfl)) (by simp)

def c46 : MC := (.seq (.reg [rg 2 (.f (.box (.t 0))), rg 4 (.p true (.mv (.c (.int .i64 0))))]) (.seq (.reg [rg 5 (.p true (.fad (.t 2) 0)), rg 6 (.p true (.ld (.t 5) 1 false)), mvt 7 1, rg 8 (.call true 24 [(.t 6), (.t 7)]), mvt 1 8]) (.seq (.reg [mvt 9 1, mvt 4 9]) .ret)))
theorem c46_is : compFnM Tryd.prog 46 = some (c46, [(.tmp 4)]) := by kernel_rfl
theorem c46_ok : okFn Tryd.prog 46 = true := by kernel_rfl

noncomputable def F_laws_markPattern (v0 : TPattern) (v1 : Int) : Option (TPattern × Int) :=
 ((F_laws_markInt64S v0.1 v1).bind fun v1000 => need (v1000.1.length = v0.1.length) (some ((v1000.1, v0.2), v1000.2)))
theorem con_laws_markPattern {v0 : TPattern} {v1 : Int} {r : TPattern × Int} (hF : F_laws_markPattern v0 v1 = some r) : ConM Tryd.prog 46 (.agg [.row true 1 (v0.1.map vI), .val (.int .i64 v0.2)]) (.agg [.row true 1 (r.1.1.map vI), .val (.int .i64 r.1.2)]) [.int .i64 v1] (.int .i64 r.2) := by
 unfold F_laws_markPattern at hF
 refine conM_of (av := .agg [.sl 0 0 v0.1.length, AI v0.2]) (L := [(0, .row true 1 (v0.1.map vI))]) c46_is rfl rfl rfl (by simp) fun N => ?_
 refine ws 64 192 ?_
 refine qf (.ptr 64 0 0) [(64, .box [.sl 0 0 v0.1.length, AI v0.2]), (0, .row true 1 (v0.1.map vI))] (by simp) ?_
 refine qp (AI 0) rfl ?_
 refine r_nil ?_
 refine ws 192 512 ?_
 refine qp (.ptr 64 0 0) rfl (qp (.sl 0 0 v0.1.length) rfl (qp (AI v1) rfl ?_))
 obtain ⟨v1000, e1000, hF⟩ := bind_get hF
 obtain ⟨g1001, hF⟩ := need_some hF
 refine qm (ls := [0]) [(0, .row true 1 (v1000.1.map vI)), (64, .box [.sl 0 0 v0.1.length, AI v0.2]), (0, .row true 1 (v0.1.map vI))] (con_laws_markInt64S e1000) c24_ok (by first | rfl | simp [takeM, takeML, takeM1, g1001]) (by decide) (by simp [like2, likeL, like1, g1001]) rfl rfl rfl (by simp [scrO_fo, newO2, newO, scrR, scrA, scrAs]) ?_
 refine qp (AI v1000.2) rfl ?_
 refine r_nil ?_
 refine ws 512 640 ?_
 refine qp (AI v1000.2) rfl (qp (AI v1000.2) rfl ?_)
 refine r_nil ?_
 refine w_ret ?_
 cases hF
 exact endM_r rfl rfl (by first | rfl | (simp [List.take_of_length_le, g1001]; first | exact ⟨rfl, rfl⟩ | rfl)) (by simp)

def c25 : MC := (.seq (.reg [rg 4 (.p true (.mv (.c (.int .i64 0))))]) (.seq (.seq (.reg [rg 5 (.p true (.mv (.c (.int .i64 0))))]) (.block 0 (.loop (.seq (.seq (.reg [mvt 6 5, mvt 7 0, rg 8 (.p true (.len (.t 7))), rg 9 (.p true (.bin .lss (.t 6) (.t 8)))]) (.cond (.t 9) .skip (.exit 0))) (.seq (.block 1 (.seq (.seq (.reg [mvt 12 0, mvt 13 5, rg 14 (.p true (.iad (.t 12) (.t 13) 1)), rg 15 (.p true (.ld (.t 14) 1 false)), mvt 16 1, rg 17 (.p true (.bin .neq (.t 15) (.t 16)))]) (.cond (.t 17) (.seq (.reg [rg 4 (.p true (.mv (.c (.int .i64 (-1)))))]) .ret) .skip)) (.reg [mvt 18 1, rg 19 (.p true (.bin .add (.t 18) (.c (.int .i64 1)))), mvt 1 19]))) (.reg [mvt 10 5, rg 11 (.p true (.bin .add (.t 10) (.c (.int .i64 1)))), mvt 5 11])))))) (.seq (.reg [mvt 20 1, mvt 4 20]) .ret)))
theorem c25_is : compFn Tryd.prog 25 = some (c25, [(.tmp 4)]) := by kernel_rfl
theorem c25_ok : okFn Tryd.prog 25 = true := by kernel_rfl

noncomputable def F_laws_heldInt64S_l0 (v0 : List Int) (k0 : Int × Int → Option (Int)) : Int × Int → Option (Int)
 | (v50002, v50003) => (bif (decide (v50003 < (v0.length : Int))) then ((ix v0 v50003).bind fun v1000 => (bif (decide (v1000 ≠ v50002)) then some (-1)
 else k0 (w64 (v50002 + 1), w64 (v50003 + 1))))
 else some v50002)
noncomputable def F_laws_heldInt64S (v0 : List Int) (v1 : Int) : Option (Int) :=
 loop (F_laws_heldInt64S_l0 v0) (v1, 0)
@[simp] def res_laws_heldInt64S (r : Int) : RV := .one (.one (.val (.int .i64 r)))
theorem con_laws_heldInt64S {v0 : List Int} {v1 : Int} {r : Int} (hF : F_laws_heldInt64S v0 v1 = some r) : Con Tryd.prog 25 [.sl 1 (v0.map vI), .int .i64 v1] (res_laws_heldInt64S r) := by
 unfold F_laws_heldInt64S at hF
 refine con_of c25_is fun N => ?_
 refine ws 0 64 ?_
 refine qp (AI 0) rfl ?_
 refine r_nil ?_
 refine w_seq ?_
 refine ws 64 128 ?_
 refine qp (AI 0) rfl ?_
 refine r_nil ?_
 refine w_block ?_
 refine wr (l' := [(0, AL 1 (v0.map vI)), (1, AI v1), (5, AI 0)]) (L := []) [0, 1, 5] [] 1 ?_
 refine w_loopF (F_laws_heldInt64S_l0 v0) (fun s : Int × Int => mkS [(0, AL 1 (v0.map vI)), (1, AI s.1), (5, AI s.2)] (fo []) 1) hF ?_
 rintro k0 ⟨v50002, v50003⟩ hF
 rw [F_laws_heldInt64S_l0] at hF
 try dsimp only
 refine w_seq ?_
 refine ws 1 257 ?_
 refine qp (AI v50003) rfl (qp (AL 1 (v0.map vI)) rfl (qp (AI (v0.length : Int)) (ev_len_n rfl) (qp (AB (decide (v50003 < (v0.length : Int)))) rfl ?_)))
 refine r_nil ?_
 refine cF hF (fun hF => ?_) fun hF => ?_
 ·
  refine w_skip ?_
  refine thenQ_n ?_
  refine w_seq ?_
  refine w_block ?_
  refine w_seq ?_
  refine ws 257 641 ?_
  refine qp (AL 1 (v0.map vI)) rfl (qp (AI v50003) rfl ?_)
  obtain ⟨v1000, e1000, hF⟩ := bind_get hF
  refine qp (.val none (.ptr [.int .i64 v1000])) (ev_iad_n rfl rfl e1000 rfl) (qp (AI v1000) rfl (qp (AI v50002) rfl (qp (AB (decide (v1000 ≠ v50002))) rfl ?_)))
  refine r_nil ?_
  refine cF hF (fun hF => ?_) fun hF => ?_
  ·
   refine ws 641 705 ?_
   refine qp (AI (-1)) rfl ?_
   refine r_nil ?_
   refine w_ret ?_
   refine thenQ_r ?_
   refine blockQ_r ?_
   refine thenQ_r ?_
   refine thenQ_r ?_
   refine blockQ_r ?_
   refine thenQ_r ?_
   cases hF
   exact eR
  ·
   refine w_skip ?_
   refine thenQ_n ?_
   refine w_reg 641 833 rfl rfl ?_
   refine qp (AI v50002) rfl (qp (AI (w64 (v50002 + 1))) rfl (qp (AI (w64 (v50002 + 1))) rfl ?_))
   refine r_nil ?_
   refine blockQ_n ?_
   refine thenQ_n ?_
   refine w_reg 833 1025 rfl rfl ?_
   refine qp (AI v50003) rfl (qp (AI (w64 (v50003 + 1))) rfl (qp (AI (w64 (v50003 + 1))) rfl ?_))
   refine r_nil ?_
   refine thenQ_n ?_
   refine ar (l' := [(0, AL 1 (v0.map vI)), (1, AI (w64 (v50002 + 1))), (5, AI (w64 (v50003 + 1)))]) (L := []) [0, 1, 5] [] 1 ⟨_, by rfl, hF⟩
 ·
  refine w_exit ?_
  refine thenQ_e ?_
  refine thenQ_e ?_
  refine blockQ_e ?_
  refine thenQ_n ?_
  refine ws 257 385 ?_
  refine qp (AI v50002) rfl (qp (AI v50002) rfl ?_)
  refine r_nil ?_
  refine w_ret ?_
  cases hF
  exact eR

def c47 : MC := (.seq (.reg [rg 2 (.f (.box (.t 0))), rg 4 (.p true (.mv (.c (.int .i64 0))))]) (.seq (.reg [rg 5 (.p true (.fad (.t 2) 0)), rg 6 (.p true (.ld (.t 5) 1 false)), mvt 7 1, rg 8 (.call true 25 [(.t 6), (.t 7)]), mvt 1 8]) (.seq (.seq (.reg [mvt 9 1, rg 10 (.p true (.bin .lss (.t 9) (.c (.int .i64 0))))]) (.cond (.t 10) (.seq (.reg [rg 4 (.p true (.mv (.c (.int .i64 (-1)))))]) .ret) .skip)) (.seq (.reg [mvt 11 1, mvt 4 11]) .ret))))
theorem c47_is : compFn Tryd.prog 47 = some (c47, [(.tmp 4)]) := by kernel_rfl
theorem c47_ok : okFn Tryd.prog 47 = true := by kernel_rfl

noncomputable def F_laws_heldPattern (v0 : TPattern) (v1 : Int) : Option (Int) :=
 ((F_laws_heldInt64S v0.1 v1).bind fun v1000 => (bif (decide (v1000 < (0 : Int))) then some (-1)
 else some v1000))
@[simp] def res_laws_heldPattern (r : Int) : RV := .one (.one (.val (.int .i64 r)))
theorem con_laws_heldPattern {v0 : TPattern} {v1 : Int} {r : Int} (hF : F_laws_heldPattern v0 v1 = some r) : Con Tryd.prog 47 [ePattern v0, .int .i64 v1] (res_laws_heldPattern r) := by
 unfold F_laws_heldPattern at hF
 refine con_of c47_is fun N => ?_
 refine ws 0 128 ?_
 refine qf (.ptr 0 0 0) [(0, .box [.val none (.sl 1 (v0.1.map vI)), AI v0.2])] (by simp) ?_
 refine qp (AI 0) rfl ?_
 refine r_nil ?_
 refine ws 128 448 ?_
 refine qp (.ptr 0 0 0) rfl (qp (AL 1 (v0.1.map vI)) rfl (qp (AI v1) rfl ?_))
 obtain ⟨v1000, e1000, hF⟩ := bind_get hF
 refine qc (AI v1000) [(0, .box [.val none (.sl 1 (v0.1.map vI)), AI v0.2])] false (con_laws_heldInt64S e1000) c25_ok (by first | rfl | simp) rfl ?_
 refine qp (AI v1000) rfl ?_
 refine r_nil ?_
 refine w_seq ?_
 refine ws 448 576 ?_
 refine qp (AI v1000) rfl (qp (AB (decide (v1000 < (0 : Int)))) rfl ?_)
 refine r_nil ?_
 refine cF hF (fun hF => ?_) fun hF => ?_
 ·
  refine ws 576 640 ?_
  refine qp (AI (-1)) rfl ?_
  refine r_nil ?_
  refine w_ret ?_
  refine thenQ_r ?_
  cases hF
  exact eR
 ·
  refine w_skip ?_
  refine thenQ_n ?_
  refine ws 576 704 ?_
  refine qp (AI v1000) rfl (qp (AI v1000) rfl ?_)
  refine r_nil ?_
  refine w_ret ?_
  cases hF
  exact eR

def c10 : MC := (.seq (.reg [rg 2 (.p true (.mv (.c (.bool false))))]) (.seq (.seq (.reg [mvt 11 0, rg 12 (.p true (.lens (.t 11))), rg 13 (.p true (.bin .gtr (.t 12) (.c (.int .i64 1048576))))]) (.cond (.t 13) (.seq (.reg [rg 2 (.p true (.mv (.c (.bool true))))]) .ret) .skip)) (.seq (.reg [mvt 15 0, rg 16 (.call true 43 [(.t 15)]), mvt 14 16, rg 17 (.p true (.ext (.t 14) 0)), rg 18 (.p true (.ext (.t 14) 1)), rg 3 (.f (.alloc [((.sl 0 []), (1, false)), ((.int .i64 0), (0, false))])), ⟨none, none, (.f (.st (.t 3) (.t 17) 2))⟩, mvt 4 18]) (.seq (.reg [mvt 20 0, rg 21 (.call true 44 [(.t 20)]), mvt 19 21, rg 22 (.p true (.ext (.t 19) 0)), rg 23 (.p true (.ext (.t 19) 1)), rg 5 (.f (.alloc [((.sl 0 []), (1, false)), ((.int .i64 0), (0, false))])), ⟨none, none, (.f (.st (.t 5) (.t 22) 2))⟩, mvt 6 23]) (.seq (.seq (.reg [rg 24 (.p true (.ld (.t 5) 2 true)), rg 25 (.p true (.ld (.t 3) 2 true)), rg 26 (.call true 45 [(.t 24), (.t 25)]), rg 27 (.p true (.not (.t 26))), mvt 28 27, ⟨(some 29), (some (28, false)), (.p true (.mv (.t 6)))⟩, ⟨(some 30), (some (28, false)), (.p true (.mv (.t 4)))⟩, ⟨(some 31), (some (28, false)), (.p true (.bnb true (.t 29) (.t 30)))⟩, rg 32 (.p true (.pick (.t 28) (.c (.bool true)) (.t 31)))]) (.cond (.t 32) (.seq (.reg [rg 2 (.p true (.mv (.c (.bool false))))]) .ret) .skip)) (.seq (.reg [rg 7 (.p true (.mv (.c (.int .i64 1))))]) (.seq (.reg [rg 33 (.p true (.ld (.t 5) 2 true)), mvt 34 7, rg 35 (.call true 46 [(.t 33), (.t 34)]), mvt 7 35]) (.seq (.reg [rg 8 (.p true (.mv (.c (.int .i64 1))))]) (.seq (.reg [rg 36 (.p true (.ld (.t 5) 2 true)), mvt 37 8, rg 38 (.call true 47 [(.t 36), (.t 37)]), mvt 8 38]) (.seq (.seq (.reg [mvt 39 8, rg 40 (.p true (.bin .lss (.t 39) (.c (.int .i64 0))))]) (.cond (.t 40) (.seq (.reg [rg 2 (.p true (.mv (.c (.bool false))))]) .ret) .skip)) (.seq (.seq (.reg [mvt 41 8, mvt 42 7, rg 43 (.p true (.bin .neq (.t 41) (.t 42)))]) (.cond (.t 43) (.seq (.reg [rg 2 (.p true (.mv (.c (.bool false))))]) .ret) .skip)) (.seq (.reg [mvt 45 0, rg 46 (.call true 44 [(.t 45)]), mvt 44 46, rg 47 (.p true (.ext (.t 44) 0)), rg 48 (.p true (.ext (.t 44) 1)), rg 9 (.f (.alloc [((.sl 0 []), (1, false)), ((.int .i64 0), (0, false))])), ⟨none, none, (.f (.st (.t 9) (.t 47) 2))⟩, mvt 10 48]) (.seq (.seq (.reg [rg 49 (.p true (.ld (.t 9) 2 true)), rg 50 (.p true (.ld (.t 3) 2 true)), rg 51 (.call true 45 [(.t 49), (.t 50)]), rg 52 (.p true (.not (.t 51))), mvt 53 52, ⟨(some 54), (some (53, false)), (.p true (.mv (.t 10)))⟩, ⟨(some 55), (some (53, false)), (.p true (.mv (.t 4)))⟩, ⟨(some 56), (some (53, false)), (.p true (.bnb true (.t 54) (.t 55)))⟩, rg 57 (.p true (.pick (.t 53) (.c (.bool true)) (.t 56)))]) (.cond (.t 57) (.seq (.reg [rg 2 (.p true (.mv (.c (.bool false))))]) .ret) .skip)) (.seq (.reg [rg 8 (.p true (.mv (.c (.int .i64 1))))]) (.seq (.reg [rg 58 (.p true (.ld (.t 5) 2 true)), mvt 59 8, rg 60 (.call true 47 [(.t 58), (.t 59)]), mvt 8 60]) (.seq (.seq (.reg [mvt 61 8, rg 62 (.p true (.bin .lss (.t 61) (.c (.int .i64 0))))]) (.cond (.t 62) (.seq (.reg [rg 2 (.p true (.mv (.c (.bool false))))]) .ret) .skip)) (.seq (.seq (.reg [mvt 63 8, mvt 64 7, rg 65 (.p true (.bin .neq (.t 63) (.t 64)))]) (.cond (.t 65) (.seq (.reg [rg 2 (.p true (.mv (.c (.bool false))))]) .ret) .skip)) (.seq (.reg [rg 2 (.p true (.mv (.c (.bool true))))]) .ret))))))))))))))))))
theorem c10_is : compFn Tryd.prog 10 = some (c10, [(.tmp 2)]) := by kernel_rfl
theorem c10_ok : okFn Tryd.prog 10 = true := by kernel_rfl

noncomputable def F_laws_FnExactReadPattern (v0 : List UInt8) : Option (Bool) :=
 (bif (decide ((1048576 : Int) < (v0.length : Int))) then some true
 else ((F_spec_ReadPattern v0).bind fun v1000 => ((F_impl_ReadPattern v0).bind fun v1001 => ((F_laws_eqPattern v1001.1 v1000.1).bind fun v1003 => (bif (!v1003) then some false
 else (bif (v1001.2 != v1000.2) then some false
 else ((F_laws_markPattern v1001.1 1).bind fun v1004 => need (v1004.1.1.length = v1001.1.1.length) (((F_laws_heldPattern (v1004.1.1, v1001.1.2) 1).bind fun v1007 => (bif (decide (v1007 < (0 : Int))) then some false
 else (bif (decide (v1007 ≠ v1004.2)) then some false
 else ((F_impl_ReadPattern v0).bind fun v1008 => ((F_laws_eqPattern v1008.1 v1000.1).bind fun v1010 => (bif (!v1010) then some false
 else (bif (v1008.2 != v1000.2) then some false
 else ((F_laws_heldPattern (v1004.1.1, v1001.1.2) 1).bind fun v1011 => (bif (decide (v1011 < (0 : Int))) then some false
 else (bif (decide (v1011 ≠ v1004.2)) then some false
 else some true))))))))))))))))))
@[simp] def res_laws_FnExactReadPattern (r : Bool) : RV := .one (.one (.val (.bool r)))
theorem con_laws_FnExactReadPattern {v0 : List UInt8} {r : Bool} (hF : F_laws_FnExactReadPattern v0 = some r) : Con Tryd.prog 10 [.str v0] (res_laws_FnExactReadPattern r) := by
 unfold F_laws_FnExactReadPattern at hF
 refine con_of c10_is fun N => ?_
 refine ws 0 64 ?_
 refine qp (AB false) rfl ?_
 refine r_nil ?_
 refine w_seq ?_
 refine ws 64 256 ?_
 refine qp (AS v0) rfl (qp (AI (v0.length : Int)) rfl (qp (AB (decide ((1048576 : Int) < (v0.length : Int)))) rfl ?_))
 refine r_nil ?_
 refine cF hF (fun hF => ?_) fun hF => ?_
 ·
  refine ws 256 320 ?_
  refine qp (AB true) rfl ?_
  refine r_nil ?_
  refine w_ret ?_
  refine thenQ_r ?_
  cases hF
  exact eR
 ·
  refine w_skip ?_
  refine thenQ_n ?_
  refine ws 256 768 ?_
  refine qp (AS v0) rfl ?_
  obtain ⟨v1000, e1000, hF⟩ := bind_get hF
  refine qc (.tup [.agg [.sl 320 0 v1000.1.1.length, AI v1000.1.2], AB v1000.2]) [(320, .row true 1 (v1000.1.1.map vI))] false (con_spec_ReadPattern e1000) c43_ok (by first | rfl | simp) (by simp [res_spec_ReadPattern]) ?_
  refine qp (.tup [.agg [.sl 320 0 v1000.1.1.length, AI v1000.1.2], AB v1000.2]) rfl (qp (.agg [.sl 320 0 v1000.1.1.length, AI v1000.1.2]) rfl (qp (AB v1000.2) rfl ?_))
  refine qf (.ptr 576 0 0) [(576, .box [.sl 577 0 0, AI 0]), (577, .row true 1 (([] : List Int).map vI)), (320, .row true 1 (v1000.1.1.map vI))] (by simp) ?_
  refine qf0 (.undef) [(576, .box [.sl 320 0 v1000.1.1.length, AI v1000.1.2]), (576, .box [.sl 577 0 0, AI 0]), (577, .row true 1 (([] : List Int).map vI)), (320, .row true 1 (v1000.1.1.map vI))] (by simp) ?_
  refine qp (AB v1000.2) rfl ?_
  refine r_nil ?_
  refine ws 768 1280 ?_
  refine qp (AS v0) rfl ?_
  obtain ⟨v1001, e1001, hF⟩ := bind_get hF
  refine qc (.tup [.agg [.sl 832 0 v1001.1.1.length, AI v1001.1.2], AB v1001.2]) [(832, .row true 1 (v1001.1.1.map vI)), (576, .box [.sl 320 0 v1000.1.1.length, AI v1000.1.2]), (576, .box [.sl 577 0 0, AI 0]), (577, .row true 1 (([] : List Int).map vI)), (320, .row true 1 (v1000.1.1.map vI))] false (con_impl_ReadPattern e1001) c44_ok (by first | rfl | simp) (by simp [res_impl_ReadPattern]) ?_
  refine qp (.tup [.agg [.sl 832 0 v1001.1.1.length, AI v1001.1.2], AB v1001.2]) rfl (qp (.agg [.sl 832 0 v1001.1.1.length, AI v1001.1.2]) rfl (qp (AB v1001.2) rfl ?_))
  refine qf (.ptr 1088 0 0) [(1088, .box [.sl 1089 0 0, AI 0]), (1089, .row true 1 (([] : List Int).map vI)), (832, .row true 1 (v1001.1.1.map vI)), (576, .box [.sl 320 0 v1000.1.1.length, AI v1000.1.2]), (576, .box [.sl 577 0 0, AI 0]), (577, .row true 1 (([] : List Int).map vI)), (320, .row true 1 (v1000.1.1.map vI))] (by simp) ?_
  refine qf0 (.undef) [(1088, .box [.sl 832 0 v1001.1.1.length, AI v1001.1.2]), (1088, .box [.sl 1089 0 0, AI 0]), (1089, .row true 1 (([] : List Int).map vI)), (832, .row true 1 (v1001.1.1.map vI)), (576, .box [.sl 320 0 v1000.1.1.length, AI v1000.1.2]), (576, .box [.sl 577 0 0, AI 0]), (577, .row true 1 (([] : List Int).map vI)), (320, .row true 1 (v1000.1.1.map vI))] (by simp) ?_
  refine qp (AB v1001.2) rfl ?_
  refine r_nil ?_
  refine w_seq ?_
  refine ws 1280 1856 ?_
  refine qp (.agg [.sl 832 0 v1001.1.1.length, AI v1001.1.2]) rfl (qp (.agg [.sl 320 0 v1000.1.1.length, AI v1000.1.2]) rfl ?_)
  obtain ⟨v1003, e1003, hF⟩ := bind_get hF
  refine qc (AB v1003) [(1088, .box [.sl 832 0 v1001.1.1.length, AI v1001.1.2]), (1088, .box [.sl 1089 0 0, AI 0]), (1089, .row true 1 (([] : List Int).map vI)), (832, .row true 1 (v1001.1.1.map vI)), (576, .box [.sl 320 0 v1000.1.1.length, AI v1000.1.2]), (576, .box [.sl 577 0 0, AI 0]), (577, .row true 1 (([] : List Int).map vI)), (320, .row true 1 (v1000.1.1.map vI))] true (con_laws_eqPattern e1003) c45_ok (by simp [List.take_of_length_le]) rfl ?_
  refine qp (AB (!v1003)) rfl (qp (AB (!v1003)) rfl ?_)
  refine q_case 28 hF rfl (fun hF => ?_) (fun hF => ?_)
  ·
   refine qn rfl (qn rfl (qn rfl (qp (AB true) rfl ?_)))
   refine r_nil ?_
   refine w_true rfl ?_
   refine ws 1856 1920 ?_
   refine qp (AB false) rfl ?_
   refine r_nil ?_
   refine w_ret ?_
   refine thenQ_r ?_
   cases hF
   exact eR
  ·
   refine qg (AB v1001.2) rfl rfl (qg (AB v1000.2) rfl rfl (qg (AB (v1001.2 != v1000.2)) rfl rfl (qp (AB (v1001.2 != v1000.2)) rfl ?_)))
   refine r_nil ?_
   refine cF hF (fun hF => ?_) fun hF => ?_
   ·
    refine ws 1856 1920 ?_
    refine qp (AB false) rfl ?_
    refine r_nil ?_
    refine w_ret ?_
    refine thenQ_r ?_
    cases hF
    exact eR
   ·
    refine w_skip ?_
    refine thenQ_n ?_
    refine ws 1856 1920 ?_
    refine qp (AI 1) rfl ?_
    refine r_nil ?_
    refine ws 1920 2176 ?_
    refine qp (.agg [.sl 832 0 v1001.1.1.length, AI v1001.1.2]) rfl (qp (AI 1) rfl ?_)
    obtain ⟨v1004, e1004, hF⟩ := bind_get hF
    obtain ⟨g1005, hF⟩ := need_some hF
    have g1006 : v1004.1.2 = v1001.1.2 := by have h := e1004; unfold F_laws_markPattern at h; obtain ⟨_, _, h⟩ := bind_get h; obtain ⟨_, h⟩ := need_some h; cases h; rfl
    refine qm (ls := [832]) [(832, .row true 1 (v1004.1.1.map vI)), (1088, .box [.sl 832 0 v1001.1.1.length, AI v1001.1.2]), (1088, .box [.sl 1089 0 0, AI 0]), (1089, .row true 1 (([] : List Int).map vI)), (832, .row true 1 (v1001.1.1.map vI)), (576, .box [.sl 320 0 v1000.1.1.length, AI v1000.1.2]), (576, .box [.sl 577 0 0, AI 0]), (577, .row true 1 (([] : List Int).map vI)), (320, .row true 1 (v1000.1.1.map vI))] (con_laws_markPattern e1004) c46_ok (by first | rfl | simp [takeM, takeML, takeM1, g1005, g1006]) (by decide) (by simp [like2, likeL, like1, g1005, g1006]) rfl rfl rfl (by simp [scrO_fo, newO2, newO, scrR, scrA, scrAs]) ?_
    refine qp (AI v1004.2) rfl ?_
    refine r_nil ?_
    refine ws 2176 2240 ?_
    refine qp (AI 1) rfl ?_
    refine r_nil ?_
    refine ws 2240 2496 ?_
    refine qp (.agg [.sl 832 0 v1001.1.1.length, AI v1001.1.2]) rfl (qp (AI 1) rfl ?_)
    obtain ⟨v1007, e1007, hF⟩ := bind_get hF
    refine qc (AI v1007) [(832, .row true 1 (v1004.1.1.map vI)), (1088, .box [.sl 832 0 v1001.1.1.length, AI v1001.1.2]), (1088, .box [.sl 1089 0 0, AI 0]), (1089, .row true 1 (([] : List Int).map vI)), (832, .row true 1 (v1001.1.1.map vI)), (576, .box [.sl 320 0 v1000.1.1.length, AI v1000.1.2]), (576, .box [.sl 577 0 0, AI 0]), (577, .row true 1 (([] : List Int).map vI)), (320, .row true 1 (v1000.1.1.map vI))] true (con_laws_heldPattern e1007) c47_ok (by simp [g1005, g1006, List.take_of_length_le]) rfl ?_
    refine qp (AI v1007) rfl ?_
    refine r_nil ?_
    refine w_seq ?_
    refine ws 2496 2624 ?_
    refine qp (AI v1007) rfl (qp (AB (decide (v1007 < (0 : Int)))) rfl ?_)
    refine r_nil ?_
    refine cF hF (fun hF => ?_) fun hF => ?_
    ·
     refine ws 2624 2688 ?_
     refine qp (AB false) rfl ?_
     refine r_nil ?_
     refine w_ret ?_
     refine thenQ_r ?_
     cases hF
     exact endQ_r rfl (.inl ⟨_, _, by first | rfl | (simp [List.take_of_length_le]; first | exact ⟨rfl, rfl⟩ | rfl), by simp, by first | rfl | simp [res_laws_FnExactReadPattern, List.take_of_length_le, g1005, g1006]⟩)
    ·
     refine w_skip ?_
     refine thenQ_n ?_
     refine w_seq ?_
     refine ws 2624 2816 ?_
     refine qp (AI v1007) rfl (qp (AI v1004.2) rfl (qp (AB (decide (v1007 ≠ v1004.2))) rfl ?_))
     refine r_nil ?_
     refine cF hF (fun hF => ?_) fun hF => ?_
     ·
      refine ws 2816 2880 ?_
      refine qp (AB false) rfl ?_
      refine r_nil ?_
      refine w_ret ?_
      refine thenQ_r ?_
      cases hF
      exact endQ_r rfl (.inl ⟨_, _, by first | rfl | (simp [List.take_of_length_le]; first | exact ⟨rfl, rfl⟩ | rfl), by simp, by first | rfl | simp [res_laws_FnExactReadPattern, List.take_of_length_le, g1005, g1006]⟩)
     ·
      refine w_skip ?_
      refine thenQ_n ?_
      refine ws 2816 3328 ?_
      refine qp (AS v0) rfl ?_
      obtain ⟨v1008, e1008, hF⟩ := bind_get hF
      refine qc (.tup [.agg [.sl 2880 0 v1008.1.1.length, AI v1008.1.2], AB v1008.2]) [(2880, .row true 1 (v1008.1.1.map vI)), (832, .row true 1 (v1004.1.1.map vI)), (1088, .box [.sl 832 0 v1001.1.1.length, AI v1001.1.2]), (1088, .box [.sl 1089 0 0, AI 0]), (1089, .row true 1 (([] : List Int).map vI)), (832, .row true 1 (v1001.1.1.map vI)), (576, .box [.sl 320 0 v1000.1.1.length, AI v1000.1.2]), (576, .box [.sl 577 0 0, AI 0]), (577, .row true 1 (([] : List Int).map vI)), (320, .row true 1 (v1000.1.1.map vI))] false (con_impl_ReadPattern e1008) c44_ok (by first | rfl | simp) (by simp [res_impl_ReadPattern]) ?_
      refine qp (.tup [.agg [.sl 2880 0 v1008.1.1.length, AI v1008.1.2], AB v1008.2]) rfl (qp (.agg [.sl 2880 0 v1008.1.1.length, AI v1008.1.2]) rfl (qp (AB v1008.2) rfl ?_))
      refine qf (.ptr 3136 0 0) [(3136, .box [.sl 3137 0 0, AI 0]), (3137, .row true 1 (([] : List Int).map vI)), (2880, .row true 1 (v1008.1.1.map vI)), (832, .row true 1 (v1004.1.1.map vI)), (1088, .box [.sl 832 0 v1001.1.1.length, AI v1001.1.2]), (1088, .box [.sl 1089 0 0, AI 0]), (1089, .row true 1 (([] : List Int).map vI)), (832, .row true 1 (v1001.1.1.map vI)), (576, .box [.sl 320 0 v1000.1.1.length, AI v1000.1.2]), (576, .box [.sl 577 0 0, AI 0]), (577, .row true 1 (([] : List Int).map vI)), (320, .row true 1 (v1000.1.1.map vI))] (by simp) ?_
      refine qf0 (.undef) [(3136, .box [.sl 2880 0 v1008.1.1.length, AI v1008.1.2]), (3136, .box [.sl 3137 0 0, AI 0]), (3137, .row true 1 (([] : List Int).map vI)), (2880, .row true 1 (v1008.1.1.map vI)), (832, .row true 1 (v1004.1.1.map vI)), (1088, .box [.sl 832 0 v1001.1.1.length, AI v1001.1.2]), (1088, .box [.sl 1089 0 0, AI 0]), (1089, .row true 1 (([] : List Int).map vI)), (832, .row true 1 (v1001.1.1.map vI)), (576, .box [.sl 320 0 v1000.1.1.length, AI v1000.1.2]), (576, .box [.sl 577 0 0, AI 0]), (577, .row true 1 (([] : List Int).map vI)), (320, .row true 1 (v1000.1.1.map vI))] (by simp) ?_
      refine qp (AB v1008.2) rfl ?_
      refine r_nil ?_
      refine w_seq ?_
      refine ws 3328 3904 ?_
      refine qp (.agg [.sl 2880 0 v1008.1.1.length, AI v1008.1.2]) rfl (qp (.agg [.sl 320 0 v1000.1.1.length, AI v1000.1.2]) rfl ?_)
      obtain ⟨v1010, e1010, hF⟩ := bind_get hF
      refine qc (AB v1010) [(3136, .box [.sl 2880 0 v1008.1.1.length, AI v1008.1.2]), (3136, .box [.sl 3137 0 0, AI 0]), (3137, .row true 1 (([] : List Int).map vI)), (2880, .row true 1 (v1008.1.1.map vI)), (832, .row true 1 (v1004.1.1.map vI)), (1088, .box [.sl 832 0 v1001.1.1.length, AI v1001.1.2]), (1088, .box [.sl 1089 0 0, AI 0]), (1089, .row true 1 (([] : List Int).map vI)), (832, .row true 1 (v1001.1.1.map vI)), (576, .box [.sl 320 0 v1000.1.1.length, AI v1000.1.2]), (576, .box [.sl 577 0 0, AI 0]), (577, .row true 1 (([] : List Int).map vI)), (320, .row true 1 (v1000.1.1.map vI))] true (con_laws_eqPattern e1010) c45_ok (by simp [g1005, g1006, List.take_of_length_le]) rfl ?_
      refine qp (AB (!v1010)) rfl (qp (AB (!v1010)) rfl ?_)
      refine q_case 53 hF rfl (fun hF => ?_) (fun hF => ?_)
      ·
       refine qn rfl (qn rfl (qn rfl (qp (AB true) rfl ?_)))
       refine r_nil ?_
       refine w_true rfl ?_
       refine ws 3904 3968 ?_
       refine qp (AB false) rfl ?_
       refine r_nil ?_
       refine w_ret ?_
       refine thenQ_r ?_
       cases hF
       exact endQ_r rfl (.inl ⟨_, _, by first | rfl | (simp [List.take_of_length_le]; first | exact ⟨rfl, rfl⟩ | rfl), by simp, by first | rfl | simp [res_laws_FnExactReadPattern, List.take_of_length_le, g1005, g1006]⟩)
      ·
       refine qg (AB v1008.2) rfl rfl (qg (AB v1000.2) rfl rfl (qg (AB (v1008.2 != v1000.2)) rfl rfl (qp (AB (v1008.2 != v1000.2)) rfl ?_)))
       refine r_nil ?_
       refine cF hF (fun hF => ?_) fun hF => ?_
       ·
        refine ws 3904 3968 ?_
        refine qp (AB false) rfl ?_
        refine r_nil ?_
        refine w_ret ?_
        refine thenQ_r ?_
        cases hF
        exact endQ_r rfl (.inl ⟨_, _, by first | rfl | (simp [List.take_of_length_le]; first | exact ⟨rfl, rfl⟩ | rfl), by simp, by first | rfl | simp [res_laws_FnExactReadPattern, List.take_of_length_le, g1005, g1006]⟩)
       ·
        refine w_skip ?_
        refine thenQ_n ?_
        refine ws 3904 3968 ?_
        refine qp (AI 1) rfl ?_
        refine r_nil ?_
        refine ws 3968 4224 ?_
        refine qp (.agg [.sl 832 0 v1001.1.1.length, AI v1001.1.2]) rfl (qp (AI 1) rfl ?_)
        obtain ⟨v1011, e1011, hF⟩ := bind_get hF
        refine qc (AI v1011) [(3136, .box [.sl 2880 0 v1008.1.1.length, AI v1008.1.2]), (3136, .box [.sl 3137 0 0, AI 0]), (3137, .row true 1 (([] : List Int).map vI)), (2880, .row true 1 (v1008.1.1.map vI)), (832, .row true 1 (v1004.1.1.map vI)), (1088, .box [.sl 832 0 v1001.1.1.length, AI v1001.1.2]), (1088, .box [.sl 1089 0 0, AI 0]), (1089, .row true 1 (([] : List Int).map vI)), (832, .row true 1 (v1001.1.1.map vI)), (576, .box [.sl 320 0 v1000.1.1.length, AI v1000.1.2]), (576, .box [.sl 577 0 0, AI 0]), (577, .row true 1 (([] : List Int).map vI)), (320, .row true 1 (v1000.1.1.map vI))] true (con_laws_heldPattern e1011) c47_ok (by simp [g1005, g1006, List.take_of_length_le]) rfl ?_
        refine qp (AI v1011) rfl ?_
        refine r_nil ?_
        refine w_seq ?_
        refine ws 4224 4352 ?_
        refine qp (AI v1011) rfl (qp (AB (decide (v1011 < (0 : Int)))) rfl ?_)
        refine r_nil ?_
        refine cF hF (fun hF => ?_) fun hF => ?_
        ·
         refine ws 4352 4416 ?_
         refine qp (AB false) rfl ?_
         refine r_nil ?_
         refine w_ret ?_
         refine thenQ_r ?_
         cases hF
         exact endQ_r rfl (.inl ⟨_, _, by first | rfl | (simp [List.take_of_length_le]; first | exact ⟨rfl, rfl⟩ | rfl), by simp, by first | rfl | simp [res_laws_FnExactReadPattern, List.take_of_length_le, g1005, g1006]⟩)
        ·
         refine w_skip ?_
         refine thenQ_n ?_
         refine w_seq ?_
         refine ws 4352 4544 ?_
         refine qp (AI v1011) rfl (qp (AI v1004.2) rfl (qp (AB (decide (v1011 ≠ v1004.2))) rfl ?_))
         refine r_nil ?_
         refine cF hF (fun hF => ?_) fun hF => ?_
         ·
          refine ws 4544 4608 ?_
          refine qp (AB false) rfl ?_
          refine r_nil ?_
          refine w_ret ?_
          refine thenQ_r ?_
          cases hF
          exact endQ_r rfl (.inl ⟨_, _, by first | rfl | (simp [List.take_of_length_le]; first | exact ⟨rfl, rfl⟩ | rfl), by simp, by first | rfl | simp [res_laws_FnExactReadPattern, List.take_of_length_le, g1005, g1006]⟩)
         ·
          refine w_skip ?_
          refine thenQ_n ?_
          refine ws 4544 4608 ?_
          refine qp (AB true) rfl ?_
          refine r_nil ?_
          refine w_ret ?_
          cases hF
          exact endQ_r rfl (.inl ⟨_, _, by first | rfl | (simp [List.take_of_length_le]; first | exact ⟨rfl, rfl⟩ | rfl), by simp, by first | rfl | simp [res_laws_FnExactReadPattern, List.take_of_length_le, g1005, g1006]⟩)

end Go.Ab
