/- Walks (printed by auto.py, a program of this session's own). -/
import Derived.Test.YthcojmhjnbebdaaDoorS0
import Derived.Test.YthcojmhjnbebdaaDoorProg
import Derived.KernelRfl
import Derived.Test.YthcojmhjnbebdaaDoorSQ
set_option linter.unusedVariables false
set_option linter.unusedSimpArgs false
set_option maxRecDepth 8000
set_option maxHeartbeats 8000000
namespace Go.Ab
open Go.RowKit Go.Proofs

abbrev TLesson := Int × (List UInt8) × (List UInt8) × Int × Int
@[simp] def eLesson (p : TLesson) : V := .agg [.int .i64 p.1, .str p.2.1, .str p.2.2.1, .int .i64 p.2.2.2.1, .int .i64 p.2.2.2.2]
def c89 : MC := (.seq (.reg [rg 4 (.f (.nilrow 1))]) (.seq (.reg [rg 8 (.f (.bsl 1 [])), mvt 5 8]) (.seq (.reg [rg 6 (.p true (.mv (.c (.int .i64 0))))]) (.seq (.seq (.reg [rg 7 (.p true (.mv (.c (.int .i64 0))))]) (.block 0 (.loop (.seq (.seq (.reg [mvt 9 7, mvt 10 0, rg 11 (.p true (.lens (.t 10))), rg 12 (.p true (.bin .lss (.t 9) (.t 11)))]) (.cond (.t 12) .skip (.exit 0))) (.seq (.block 1 (.seq (.reg [mvt 15 0, mvt 16 7, rg 17 (.p true (.ixs (.t 15) (.t 16))), mvt 18 1, rg 19 (.p true (.bin .eql (.t 17) (.t 18)))]) (.cond (.t 19) (.seq (.reg [mvt 20 5, mvt 21 0, mvt 22 6, mvt 23 7, rg 24 (.p true (.slcs (.t 21) (some (.t 22)) (some (.t 23)))), rg 25 (.f (.bsl 1 [(.t 24)])), rg 26 (.f (.app (.t 20) (.t 25) 1 16 true)), mvt 5 26]) (.reg [mvt 27 7, rg 28 (.p true (.bin .add (.t 27) (.c (.int .i64 1)))), mvt 6 28])) .skip))) (.reg [mvt 13 7, rg 14 (.p true (.bin .add (.t 13) (.c (.int .i64 1)))), mvt 7 14])))))) (.seq (.reg [mvt 29 5, mvt 30 0, mvt 31 6, rg 32 (.p true (.slcs (.t 30) (some (.t 31)) none)), rg 33 (.f (.bsl 1 [(.t 32)])), rg 34 (.f (.app (.t 29) (.t 33) 1 16 true)), mvt 4 34]) .ret)))))
theorem c89_is : compFn Tryd.prog 89 = some (c89, [(.tmp 4)]) := by kernel_rfl
theorem c89_ok : okFn Tryd.prog 89 = true := by kernel_rfl

noncomputable def F_spec_l01Split_l0 (v0 : List UInt8) (v1 : Int) (k0 : Int × Int × (List (List UInt8)) → Option (List (List UInt8))) : Int × Int × (List (List UInt8)) → Option (List (List UInt8))
 | (v50003, v50004, v50005) => (bif (decide (v50004 < (v0.length : Int))) then ((ix v0 v50004).bind fun v1000 => (bif (decide ((v1000.toNat : Int) = v1)) then (need (0 ≤ v50003 ∧ v50003 ≤ v50004 ∧ v50004 ≤ (v0.length : Int)) ((need (room (v50005.length + [sub v0 v50003 v50004].length) 16) (k0 (w64 (v50004 + 1), w64 (v50004 + 1), v50005 ++ [sub v0 v50003 v50004])))))
 else k0 (v50003, w64 (v50004 + 1), v50005)))
 else (need (0 ≤ v50003 ∧ v50003 ≤ (v0.length : Int) ∧ (v0.length : Int) ≤ (v0.length : Int)) ((need (room (v50005.length + [sub v0 v50003 (v0.length : Int)].length) 16) (some (v50005 ++ [sub v0 v50003 (v0.length : Int)]))))))
noncomputable def F_spec_l01Split (v0 : List UInt8) (v1 : Int) : Option (List (List UInt8)) :=
 loop (F_spec_l01Split_l0 v0 v1) (0, 0, [])
@[simp] def res_spec_l01Split (r : List (List UInt8)) : RV := .one (.one (.row true 1 (r.map V.str)))
theorem con_spec_l01Split {v0 : List UInt8} {v1 : Int} {r : List (List UInt8)} (hF : F_spec_l01Split v0 v1 = some r) : Con Tryd.prog 89 [.str v0, .int .u8 v1] (res_spec_l01Split r) := by
 unfold F_spec_l01Split at hF
 refine con_of c89_is fun N => ?_
 refine ws 0 64 ?_
 refine qf (.sl 0 0 0) [(0, .row true 1 (([] : List Int).map vI))] (by simp) ?_
 refine r_nil ?_
 refine ws 64 192 ?_
 refine qf (.sl 64 0 0) [(64, .row true 1 (([] : List (List UInt8)).map V.str)), (0, .row true 1 (([] : List Int).map vI))] (by simp [List.take_of_length_le]) ?_
 refine qp (.sl 64 0 0) rfl ?_
 refine r_nil ?_
 refine ws 192 256 ?_
 refine qp (AI 0) rfl ?_
 refine r_nil ?_
 refine w_seq ?_
 refine ws 256 320 ?_
 refine qp (AI 0) rfl ?_
 refine r_nil ?_
 refine w_block ?_
 refine wr (l' := [(0, AS v0), (1, .val none (.int .u8 v1)), (5, .sl 0 0 0), (6, AI 0), (7, AI 0)]) (L := [(0, .row true 1 (([] : List (List UInt8)).map V.str))]) [0, 1, 5, 6, 7] [(64, 0)] 1 ?_
 refine w_loopF (F_spec_l01Split_l0 v0 v1) (fun s : Int × Int × (List (List UInt8)) => mkS [(0, AS v0), (1, .val none (.int .u8 v1)), (5, .sl 0 0 s.2.2.length), (6, AI s.1), (7, AI s.2.1)] (fo [(0, .row true 1 (s.2.2.map V.str))]) 1) hF ?_
 rintro k0 ⟨v50003, v50004, v50005⟩ hF
 rw [F_spec_l01Split_l0] at hF
 try dsimp only
 refine w_seq ?_
 refine ws 1 257 ?_
 refine qp (AI v50004) rfl (qp (AS v0) rfl (qp (AI (v0.length : Int)) rfl (qp (AB (decide (v50004 < (v0.length : Int)))) rfl ?_)))
 refine r_nil ?_
 refine cF hF (fun hF => ?_) fun hF => ?_
 ·
  refine w_skip ?_
  refine thenQ_n ?_
  refine w_seq ?_
  refine w_block ?_
  refine ws 257 577 ?_
  refine qp (AS v0) rfl (qp (AI v50004) rfl ?_)
  obtain ⟨v1000, e1000, hF⟩ := bind_get hF
  refine qp (.val none (.int .u8 (v1000.toNat : Int))) (ev_ixs rfl rfl e1000) (qp (.val none (.int .u8 v1)) rfl (qp (AB (decide ((v1000.toNat : Int) = v1))) rfl ?_))
  refine r_nil ?_
  refine cF hF (fun hF => ?_) fun hF => ?_
  ·
   refine ws 577 1089 ?_
   refine qp (.sl 0 0 v50005.length) rfl (qp (AS v0) rfl (qp (AI v50003) rfl (qp (AI v50004) rfl ?_)))
   obtain ⟨g1001, hF⟩ := need_some hF
   refine qp (AS (sub v0 v50003 v50004)) (ev_slcs rfl (bnd_some rfl g1001.1) (bnd_some rfl (Int.le_trans g1001.1 g1001.2.1)) g1001) ?_
   refine qf (.sl 897 0 ([sub v0 v50003 v50004].length)) [(897, .row true 1 ([sub v0 v50003 v50004].map V.str)), (0, .row true 1 (v50005.map V.str))] (by simp [List.take_of_length_le]) ?_
   obtain ⟨g1002, hF⟩ := need_some hF
   refine qf (.sl 961 0 ((v50005 ++ [sub v0 v50003 v50004]).length)) [(961, .row true 1 ((v50005 ++ [sub v0 v50003 v50004]).map V.str)), (0, .dead), (897, .dead), (897, .row true 1 ([sub v0 v50003 v50004].map V.str)), (0, .row true 1 (v50005.map V.str))] (effT_app_l rfl (by simp) rfl rfl (by simp) rfl (by decide) g1002 rfl) ?_
   refine qp (.sl 961 0 ((v50005 ++ [sub v0 v50003 v50004]).length)) rfl ?_
   refine r_nil ?_
   refine w_reg 1089 1281 rfl rfl ?_
   refine qp (AI v50004) rfl (qp (AI (w64 (v50004 + 1))) rfl (qp (AI (w64 (v50004 + 1))) rfl ?_))
   refine r_nil ?_
   refine blockQ_n ?_
   refine thenQ_n ?_
   refine w_reg 1281 1473 rfl rfl ?_
   refine qp (AI v50004) rfl (qp (AI (w64 (v50004 + 1))) rfl (qp (AI (w64 (v50004 + 1))) rfl ?_))
   refine r_nil ?_
   refine thenQ_n ?_
   refine ar (l' := [(0, AS v0), (1, .val none (.int .u8 v1)), (5, .sl 0 0 (v50005 ++ [sub v0 v50003 v50004]).length), (6, AI (w64 (v50004 + 1))), (7, AI (w64 (v50004 + 1)))]) (L := [(0, .row true 1 ((v50005 ++ [sub v0 v50003 v50004]).map V.str))]) [0, 1, 5, 6, 7] [(961, 0)] 1 ⟨_, by rfl, hF⟩
  ·
   refine w_skip ?_
   refine blockQ_n ?_
   refine thenQ_n ?_
   refine w_reg 577 769 rfl rfl ?_
   refine qp (AI v50004) rfl (qp (AI (w64 (v50004 + 1))) rfl (qp (AI (w64 (v50004 + 1))) rfl ?_))
   refine r_nil ?_
   refine thenQ_n ?_
   refine ar (l' := [(0, AS v0), (1, .val none (.int .u8 v1)), (5, .sl 0 0 v50005.length), (6, AI v50003), (7, AI (w64 (v50004 + 1)))]) (L := [(0, .row true 1 (v50005.map V.str))]) [0, 1, 5, 6, 7] [(0, 0)] 1 ⟨_, by rfl, hF⟩
 ·
  refine w_exit ?_
  refine thenQ_e ?_
  refine thenQ_e ?_
  refine blockQ_e ?_
  refine thenQ_n ?_
  refine ws 257 705 ?_
  refine qp (.sl 0 0 v50005.length) rfl (qp (AS v0) rfl (qp (AI v50003) rfl ?_))
  obtain ⟨g1003, hF⟩ := need_some hF
  refine qp (AS (sub v0 v50003 (v0.length : Int))) (ev_slcs rfl (bnd_some rfl g1003.1) rfl g1003) ?_
  refine qf (.sl 513 0 ([sub v0 v50003 (v0.length : Int)].length)) [(513, .row true 1 ([sub v0 v50003 (v0.length : Int)].map V.str)), (0, .row true 1 (v50005.map V.str))] (by simp [List.take_of_length_le]) ?_
  obtain ⟨g1004, hF⟩ := need_some hF
  refine qf (.sl 577 0 ((v50005 ++ [sub v0 v50003 (v0.length : Int)]).length)) [(577, .row true 1 ((v50005 ++ [sub v0 v50003 (v0.length : Int)]).map V.str)), (0, .dead), (513, .dead), (513, .row true 1 ([sub v0 v50003 (v0.length : Int)].map V.str)), (0, .row true 1 (v50005.map V.str))] (effT_app_l rfl (by simp) rfl rfl (by simp) rfl (by decide) g1004 rfl) ?_
  refine qp (.sl 577 0 ((v50005 ++ [sub v0 v50003 (v0.length : Int)]).length)) rfl ?_
  refine r_nil ?_
  refine w_ret ?_
  cases hF
  exact eR

def c132 : MC := (.seq (.reg [rg 2 (.p true (.mv (.c (.bool false))))]) (.seq (.reg [mvt 3 0, rg 4 (.p true (.bin .geq (.t 3) (.c (.int .u8 48)))), mvt 5 4, ⟨(some 6), (some (5, true)), (.p true (.mv (.t 0)))⟩, ⟨(some 7), (some (5, true)), (.p true (.bin .leq (.t 6) (.c (.int .u8 57))))⟩, rg 8 (.p true (.pick (.t 5) (.t 7) (.c (.bool false)))), mvt 2 8]) .ret))
theorem c132_is : compFn Tryd.prog 132 = some (c132, [(.tmp 2)]) := by kernel_rfl
theorem c132_ok : okFn Tryd.prog 132 = true := by kernel_rfl

noncomputable def F_spec_l01Digit (v0 : Int) : Option (Bool) :=
 (bif (decide ((48 : Int) ≤ v0)) then some (decide (v0 ≤ (57 : Int)))
 else some false)
@[simp] def res_spec_l01Digit (r : Bool) : RV := .one (.one (.val (.bool r)))
theorem con_spec_l01Digit {v0 : Int} {r : Bool} (hF : F_spec_l01Digit v0 = some r) : Con Tryd.prog 132 [.int .u8 v0] (res_spec_l01Digit r) := by
 unfold F_spec_l01Digit at hF
 refine con_of c132_is fun N => ?_
 refine ws 0 64 ?_
 refine qp (AB false) rfl ?_
 refine r_nil ?_
 refine ws 64 512 ?_
 refine qp (.val none (.int .u8 v0)) rfl (qp (AB (decide ((48 : Int) ≤ v0))) rfl (qp (AB (decide ((48 : Int) ≤ v0))) rfl ?_))
 refine q_case 5 hF rfl (fun hF => ?_) (fun hF => ?_)
 ·
  refine qg (.val none (.int .u8 v0)) rfl rfl (qg (AB (decide (v0 ≤ (57 : Int)))) rfl rfl (qp (AB (decide (v0 ≤ (57 : Int)))) rfl (qp (AB (decide (v0 ≤ (57 : Int)))) rfl ?_)))
  refine r_nil ?_
  refine w_ret ?_
  cases hF
  exact eR
 ·
  refine qn rfl (qn rfl (qp (AB false) rfl (qp (AB false) rfl ?_)))
  refine r_nil ?_
  refine w_ret ?_
  cases hF
  exact eR

def c90 : MC := (.seq (.reg [rg 2 (.p true (.mv (.c (.int .i64 0)))), rg 3 (.p true (.mv (.c (.bool false))))]) (.seq (.reg [rg 4 (.p true (.mv (.c (.int .i64 0))))]) (.seq (.seq (.reg [mvt 7 0, rg 8 (.p true (.lens (.t 7))), rg 9 (.p true (.bin .gtr (.t 8) (.c (.int .i64 0)))), mvt 10 9, ⟨(some 11), (some (10, true)), (.p true (.mv (.t 0)))⟩, ⟨(some 12), (some (10, true)), (.p true (.ixs (.t 11) (.c (.int .i64 0))))⟩, ⟨(some 13), (some (10, true)), (.p true (.bin .eql (.t 12) (.c (.int .u8 45))))⟩, rg 14 (.p true (.pick (.t 10) (.t 13) (.c (.bool false))))]) (.cond (.t 14) (.reg [rg 4 (.p true (.mv (.c (.int .i64 1))))]) .skip)) (.seq (.seq (.reg [mvt 15 0, rg 16 (.p true (.lens (.t 15))), mvt 17 4, rg 18 (.p true (.bin .eql (.t 16) (.t 17))), mvt 19 18, ⟨(some 20), (some (19, false)), (.p true (.mv (.t 0)))⟩, ⟨(some 21), (some (19, false)), (.p true (.lens (.t 20)))⟩, ⟨(some 22), (some (19, false)), (.p true (.mv (.t 4)))⟩, ⟨(some 23), (some (19, false)), (.p true (.bin .sub (.t 21) (.t 22)))⟩, ⟨(some 24), (some (19, false)), (.p true (.bin .gtr (.t 23) (.c (.int .i64 18))))⟩, rg 25 (.p true (.pick (.t 19) (.c (.bool true)) (.t 24))), mvt 26 25, ⟨(some 27), (some (26, false)), (.p true (.mv (.t 0)))⟩, ⟨(some 28), (some (26, false)), (.p true (.mv (.t 4)))⟩, ⟨(some 29), (some (26, false)), (.p true (.ixs (.t 27) (.t 28)))⟩, ⟨(some 30), (some (26, false)), (.p true (.bin .eql (.t 29) (.c (.int .u8 48))))⟩, ⟨(some 31), (some (26, false)), (.p true (.mv (.t 30)))⟩, ⟨(some 32), (some (31, true)), (.p true (.mv (.t 0)))⟩, ⟨(some 33), (some (31, true)), (.p true (.lens (.t 32)))⟩, ⟨(some 34), (some (31, true)), (.p true (.bin .gtr (.t 33) (.c (.int .i64 1))))⟩, ⟨(some 35), (some (26, false)), (.p true (.pick (.t 31) (.t 34) (.c (.bool false))))⟩, rg 36 (.p true (.pick (.t 26) (.c (.bool true)) (.t 35)))]) (.cond (.t 36) (.seq (.reg [rg 2 (.p true (.mv (.c (.int .i64 0)))), rg 3 (.p true (.mv (.c (.bool false))))]) .ret) .skip)) (.seq (.reg [rg 5 (.p true (.mv (.c (.int .i64 0))))]) (.seq (.seq (.reg [mvt 37 4, mvt 6 37]) (.block 0 (.loop (.seq (.seq (.reg [mvt 38 6, mvt 39 0, rg 40 (.p true (.lens (.t 39))), rg 41 (.p true (.bin .lss (.t 38) (.t 40)))]) (.cond (.t 41) .skip (.exit 0))) (.seq (.block 1 (.seq (.seq (.reg [mvt 44 0, mvt 45 6, rg 46 (.p true (.ixs (.t 44) (.t 45))), rg 47 (.call true 132 [(.t 46)]), rg 48 (.p true (.not (.t 47)))]) (.cond (.t 48) (.seq (.reg [rg 2 (.p true (.mv (.c (.int .i64 0)))), rg 3 (.p true (.mv (.c (.bool false))))]) .ret) .skip)) (.reg [mvt 49 5, rg 50 (.p true (.bin .mul (.c (.int .i64 10)) (.t 49))), mvt 51 0, mvt 52 6, rg 53 (.p true (.ixs (.t 51) (.t 52))), rg 54 (.p true (.bin .sub (.t 53) (.c (.int .u8 48)))), rg 55 (.p true (.conv .i64 (.t 54))), rg 56 (.p true (.bin .add (.t 50) (.t 55))), mvt 5 56]))) (.reg [mvt 42 6, rg 43 (.p true (.bin .add (.t 42) (.c (.int .i64 1)))), mvt 6 43])))))) (.seq (.seq (.reg [mvt 57 4, rg 58 (.p true (.bin .eql (.t 57) (.c (.int .i64 1))))]) (.cond (.t 58) (.reg [mvt 59 5, rg 60 (.p true (.neg (.t 59))), mvt 5 60]) .skip)) (.seq (.reg [mvt 61 5, mvt 2 61, rg 3 (.p true (.mv (.c (.bool true))))]) .ret))))))))
theorem c90_is : compFn Tryd.prog 90 = some (c90, [(.tmp 2), (.tmp 3)]) := by kernel_rfl
theorem c90_ok : okFn Tryd.prog 90 = true := by kernel_rfl

noncomputable def F_spec_l01Number_l2 (v0 : List UInt8) (v50000 : Int) (k0 : Int × Int → Option (Int × Bool)) : Int × Int → Option (Int × Bool)
 | (v50003, v50004) => (bif (decide (v50004 < (v0.length : Int))) then ((ix v0 v50004).bind fun v1002 => ((F_spec_l01Digit (v1002.toNat : Int)).bind fun v1003 => (bif (!v1003) then some (0, false)
 else ((ix v0 v50004).bind fun v1004 => k0 (w64 ((w64 (10 * v50003)) + (w64 (IntKind.wrap .u8 ((v1004.toNat : Int) - 48)))), w64 (v50004 + 1))))))
 else (bif (decide (v50000 = (1 : Int))) then some (w64 (0 - v50003), true)
 else some (v50003, true)))
noncomputable def F_spec_l01Number_j1 (v0 : List UInt8) (v50000 : Int) : Option (Int × Bool) :=
 loop (F_spec_l01Number_l2 v0 v50000) (0, v50000)
noncomputable def F_spec_l01Number_j0 (v0 : List UInt8) (v50000 : Int) : Option (Int × Bool) :=
 (bif (decide ((v0.length : Int) = v50000)) then some (0, false)
 else (bif (decide ((18 : Int) < w64 ((v0.length : Int) - v50000))) then some (0, false)
 else ((ix v0 v50000).bind fun v1001 => (bif (decide ((v1001.toNat : Int) = (48 : Int))) then (bif (decide ((1 : Int) < (v0.length : Int))) then some (0, false)
 else F_spec_l01Number_j1 v0 v50000)
 else F_spec_l01Number_j1 v0 v50000))))
noncomputable def F_spec_l01Number (v0 : List UInt8) : Option (Int × Bool) :=
 (bif (decide ((0 : Int) < (v0.length : Int))) then ((ix v0 0).bind fun v1000 => (bif (decide ((v1000.toNat : Int) = (45 : Int))) then F_spec_l01Number_j0 v0 1
 else F_spec_l01Number_j0 v0 0))
 else F_spec_l01Number_j0 v0 0)
@[simp] def res_spec_l01Number (r : Int × Bool) : RV := .tup [.one (.val (.int .i64 r.1)), .one (.val (.bool r.2))]
theorem con_spec_l01Number {v0 : List UInt8} {r : Int × Bool} (hF : F_spec_l01Number v0 = some r) : Con Tryd.prog 90 [.str v0] (res_spec_l01Number r) := by
 unfold F_spec_l01Number at hF
 refine con_of c90_is fun N => ?_
 refine ws 0 128 ?_
 refine qp (AI 0) rfl (qp (AB false) rfl ?_)
 refine r_nil ?_
 refine ws 128 192 ?_
 refine qp (AI 0) rfl ?_
 refine r_nil ?_
 refine w_meet (fun s' => ∃ (v50000 : Int), s' = mkS [(0, AS v0), (4, AI v50000)] (fo []) 1 ∧ F_spec_l01Number_j0 v0 v50000 = some r) ?_ ?_
 ·
  refine ws 192 704 ?_
  refine qp (AS v0) rfl (qp (AI (v0.length : Int)) rfl (qp (AB (decide ((0 : Int) < (v0.length : Int)))) rfl (qp (AB (decide ((0 : Int) < (v0.length : Int)))) rfl ?_)))
  refine q_case 10 hF rfl (fun hF => ?_) (fun hF => ?_)
  ·
   refine qg (AS v0) rfl rfl ?_
   obtain ⟨v1000, e1000, hF⟩ := bind_get hF
   refine qg (.val none (.int .u8 (v1000.toNat : Int))) rfl (ev_ixs rfl rfl e1000) (qg (AB (decide ((v1000.toNat : Int) = (45 : Int)))) rfl rfl (qp (AB (decide ((v1000.toNat : Int) = (45 : Int)))) rfl ?_))
   refine r_nil ?_
   refine cF hF (fun hF => ?_) fun hF => ?_
   ·
    refine w_reg 704 768 rfl rfl ?_
    refine qp (AI 1) rfl ?_
    refine r_nil ?_
    refine thenQ_n ?_
    refine aw_ren (l' := [(0, AS v0), (4, AI 1)]) (L := []) [0, 4] [] 1 (by first | rfl | simp) (by first | rfl | simp) (by decide) (by decide) (by decide) ⟨_, rfl, hF⟩
   ·
    refine w_skip ?_
    refine thenQ_n ?_
    refine aw_ren (l' := [(0, AS v0), (4, AI 0)]) (L := []) [0, 4] [] 1 (by first | rfl | simp) (by first | rfl | simp) (by decide) (by decide) (by decide) ⟨_, rfl, hF⟩
  ·
   refine qn rfl (qn rfl (qn rfl (qp (AB false) rfl ?_)))
   refine r_nil ?_
   refine w_false rfl ?_
   refine w_skip ?_
   refine thenQ_n ?_
   refine aw_ren (l' := [(0, AS v0), (4, AI 0)]) (L := []) [0, 4] [] 1 (by first | rfl | simp) (by first | rfl | simp) (by decide) (by decide) (by decide) ⟨_, rfl, hF⟩
 ·
  rintro s' ⟨v50000, rfl, hF⟩
  unfold F_spec_l01Number_j0 at hF
  refine w_meet (fun s' => s' = mkS [(0, AS v0), (4, AI v50000)] (fo []) 1 ∧ F_spec_l01Number_j1 v0 v50000 = some r) ?_ ?_
  ·
   refine ws 1 1409 ?_
   refine qp (AS v0) rfl (qp (AI (v0.length : Int)) rfl (qp (AI v50000) rfl (qp (AB (decide ((v0.length : Int) = v50000))) rfl (qp (AB (decide ((v0.length : Int) = v50000))) rfl ?_))))
   refine q_case 19 hF rfl (fun hF => ?_) (fun hF => ?_)
   ·
    refine qn rfl (qn rfl (qn rfl (qn rfl (qn rfl (qp (AB true) rfl (qp (AB true) rfl (qn rfl ?_)))))))
    refine qn rfl (qn rfl (qn rfl (qn rfl (qu rfl (qu rfl (qu rfl (qn rfl ?_)))))))
    refine qp (AB true) rfl ?_
    refine r_nil ?_
    refine w_true rfl ?_
    refine ws 1409 1537 ?_
    refine qp (AI 0) rfl (qp (AB false) rfl ?_)
    refine r_nil ?_
    refine w_ret ?_
    refine thenQ_r ?_
    cases hF
    exact eR
   ·
    refine qg (AS v0) rfl rfl (qg (AI (v0.length : Int)) rfl rfl (qg (AI v50000) rfl rfl (qg (AI (w64 ((v0.length : Int) - v50000))) rfl rfl (qg (AB (decide ((18 : Int) < w64 ((v0.length : Int) - v50000)))) rfl rfl (qp (AB (decide ((18 : Int) < w64 ((v0.length : Int) - v50000)))) rfl (qp (AB (decide ((18 : Int) < w64 ((v0.length : Int) - v50000)))) rfl ?_))))))
    refine q_case 26 hF rfl (fun hF => ?_) (fun hF => ?_)
    ·
     refine qn rfl (qn rfl (qn rfl (qn rfl (qn rfl (qu rfl (qu rfl (qu rfl ?_)))))))
     refine qn rfl (qp (AB true) rfl ?_)
     refine r_nil ?_
     refine w_true rfl ?_
     refine ws 1409 1537 ?_
     refine qp (AI 0) rfl (qp (AB false) rfl ?_)
     refine r_nil ?_
     refine w_ret ?_
     refine thenQ_r ?_
     cases hF
     exact eR
    ·
     refine qg (AS v0) rfl rfl (qg (AI v50000) rfl rfl ?_)
     obtain ⟨v1001, e1001, hF⟩ := bind_get hF
     refine qg (.val none (.int .u8 (v1001.toNat : Int))) rfl (ev_ixs rfl rfl e1001) (qg (AB (decide ((v1001.toNat : Int) = (48 : Int)))) rfl rfl (qg (AB (decide ((v1001.toNat : Int) = (48 : Int)))) rfl rfl ?_))
     refine q_case 31 hF rfl (fun hF => ?_) (fun hF => ?_)
     ·
      refine qg (AS v0) rfl rfl (qg (AI (v0.length : Int)) rfl rfl (qg (AB (decide ((1 : Int) < (v0.length : Int)))) rfl rfl (qg (AB (decide ((1 : Int) < (v0.length : Int)))) rfl rfl (qp (AB (decide ((1 : Int) < (v0.length : Int)))) rfl ?_))))
      refine r_nil ?_
      refine cF hF (fun hF => ?_) fun hF => ?_
      ·
       refine ws 1409 1537 ?_
       refine qp (AI 0) rfl (qp (AB false) rfl ?_)
       refine r_nil ?_
       refine w_ret ?_
       refine thenQ_r ?_
       cases hF
       exact eR
      ·
       refine w_skip ?_
       refine thenQ_n ?_
       refine aw_ren (l' := [(0, AS v0), (4, AI v50000)]) (L := []) [0, 4] [] 1 (by first | rfl | simp) (by first | rfl | simp) (by decide) (by decide) (by decide) ⟨rfl, hF⟩
     ·
      refine qn rfl (qn rfl (qn rfl (qg (AB false) rfl rfl (qp (AB false) rfl ?_))))
      refine r_nil ?_
      refine w_false rfl ?_
      refine w_skip ?_
      refine thenQ_n ?_
      refine aw_ren (l' := [(0, AS v0), (4, AI v50000)]) (L := []) [0, 4] [] 1 (by first | rfl | simp) (by first | rfl | simp) (by decide) (by decide) (by decide) ⟨rfl, hF⟩
  ·
   rintro s' ⟨rfl, hF⟩
   unfold F_spec_l01Number_j1 at hF
   refine ws 1 65 ?_
   refine qp (AI 0) rfl ?_
   refine r_nil ?_
   refine w_seq ?_
   refine ws 65 193 ?_
   refine qp (AI v50000) rfl (qp (AI v50000) rfl ?_)
   refine r_nil ?_
   refine w_block ?_
   refine wr (l' := [(0, AS v0), (4, AI v50000), (5, AI 0), (6, AI v50000)]) (L := []) [0, 4, 5, 6] [] 1 ?_
   refine w_loopF (F_spec_l01Number_l2 v0 v50000) (fun s : Int × Int => mkS [(0, AS v0), (4, AI v50000), (5, AI s.1), (6, AI s.2)] (fo []) 1) hF ?_
   rintro k0 ⟨v50003, v50004⟩ hF
   rw [F_spec_l01Number_l2] at hF
   try dsimp only
   refine w_seq ?_
   refine ws 1 257 ?_
   refine qp (AI v50004) rfl (qp (AS v0) rfl (qp (AI (v0.length : Int)) rfl (qp (AB (decide (v50004 < (v0.length : Int)))) rfl ?_)))
   refine r_nil ?_
   refine cF hF (fun hF => ?_) fun hF => ?_
   ·
    refine w_skip ?_
    refine thenQ_n ?_
    refine w_seq ?_
    refine w_block ?_
    refine w_seq ?_
    refine ws 257 577 ?_
    refine qp (AS v0) rfl (qp (AI v50004) rfl ?_)
    obtain ⟨v1002, e1002, hF⟩ := bind_get hF
    refine qp (.val none (.int .u8 (v1002.toNat : Int))) (ev_ixs rfl rfl e1002) ?_
    obtain ⟨v1003, e1003, hF⟩ := bind_get hF
    refine qc (AB v1003) [] false (con_spec_l01Digit e1003) c132_ok (by first | rfl | simp) rfl ?_
    refine qp (AB (!v1003)) rfl ?_
    refine r_nil ?_
    refine cF hF (fun hF => ?_) fun hF => ?_
    ·
     refine ws 577 705 ?_
     refine qp (AI 0) rfl (qp (AB false) rfl ?_)
     refine r_nil ?_
     refine w_ret ?_
     refine thenQ_r ?_
     refine blockQ_r ?_
     refine thenQ_r ?_
     refine thenQ_r ?_
     refine blockQ_r ?_
     refine thenQ_r ?_
     cases hF
     exact eR
    ·
     refine w_skip ?_
     refine thenQ_n ?_
     refine w_reg 577 1153 rfl rfl ?_
     refine qp (AI v50003) rfl (qp (AI (w64 (10 * v50003))) rfl (qp (AS v0) rfl (qp (AI v50004) rfl ?_)))
     obtain ⟨v1004, e1004, hF⟩ := bind_get hF
     refine qp (.val none (.int .u8 (v1004.toNat : Int))) (ev_ixs rfl rfl e1004) (qp (.val none (.int .u8 (IntKind.wrap .u8 ((v1004.toNat : Int) - 48)))) rfl (qp (AI (w64 (IntKind.wrap .u8 ((v1004.toNat : Int) - 48)))) rfl (qp (AI (w64 ((w64 (10 * v50003)) + (w64 (IntKind.wrap .u8 ((v1004.toNat : Int) - 48)))))) rfl (qp (AI (w64 ((w64 (10 * v50003)) + (w64 (IntKind.wrap .u8 ((v1004.toNat : Int) - 48)))))) rfl ?_))))
     refine r_nil ?_
     refine blockQ_n ?_
     refine thenQ_n ?_
     refine w_reg 1153 1345 rfl rfl ?_
     refine qp (AI v50004) rfl (qp (AI (w64 (v50004 + 1))) rfl (qp (AI (w64 (v50004 + 1))) rfl ?_))
     refine r_nil ?_
     refine thenQ_n ?_
     refine ar (l' := [(0, AS v0), (4, AI v50000), (5, AI (w64 ((w64 (10 * v50003)) + (w64 (IntKind.wrap .u8 ((v1004.toNat : Int) - 48)))))), (6, AI (w64 (v50004 + 1)))]) (L := []) [0, 4, 5, 6] [] 1 ⟨_, by rfl, hF⟩
   ·
    refine w_exit ?_
    refine thenQ_e ?_
    refine thenQ_e ?_
    refine blockQ_e ?_
    refine thenQ_n ?_
    refine w_seq ?_
    refine ws 257 385 ?_
    refine qp (AI v50000) rfl (qp (AB (decide (v50000 = (1 : Int)))) rfl ?_)
    refine r_nil ?_
    refine cF hF (fun hF => ?_) fun hF => ?_
    ·
     refine w_reg 385 577 rfl rfl ?_
     refine qp (AI v50003) rfl (qp (AI (w64 (0 - v50003))) rfl (qp (AI (w64 (0 - v50003))) rfl ?_))
     refine r_nil ?_
     refine thenQ_n ?_
     refine ws 577 769 ?_
     refine qp (AI (w64 (0 - v50003))) rfl (qp (AI (w64 (0 - v50003))) rfl (qp (AB true) rfl ?_))
     refine r_nil ?_
     refine w_ret ?_
     cases hF
     exact eR
    ·
     refine w_skip ?_
     refine thenQ_n ?_
     refine ws 385 577 ?_
     refine qp (AI v50003) rfl (qp (AI v50003) rfl (qp (AB true) rfl ?_))
     refine r_nil ?_
     refine w_ret ?_
     cases hF
     exact eR

def c98 : MC := (.seq (.reg [rg 6 (.p true (.mv (.c (.bool false))))]) (.seq (.reg [mvt 7 0, mvt 8 1, rg 9 (.p true (.bin .geq (.t 7) (.t 8))), mvt 10 9, ⟨(some 11), (some (10, true)), (.p true (.mv (.t 0)))⟩, ⟨(some 12), (some (10, true)), (.p true (.mv (.t 2)))⟩, ⟨(some 13), (some (10, true)), (.p true (.bin .leq (.t 11) (.t 12)))⟩, rg 14 (.p true (.pick (.t 10) (.t 13) (.c (.bool false)))), mvt 6 14]) .ret))
theorem c98_is : compFn Tryd.prog 98 = some (c98, [(.tmp 6)]) := by kernel_rfl
theorem c98_ok : okFn Tryd.prog 98 = true := by kernel_rfl

noncomputable def F_spec_l00In (v0 : Int) (v1 : Int) (v2 : Int) : Option (Bool) :=
 (bif (decide (v1 ≤ v0)) then some (decide (v0 ≤ v2))
 else some false)
@[simp] def res_spec_l00In (r : Bool) : RV := .one (.one (.val (.bool r)))
theorem con_spec_l00In {v0 : Int} {v1 : Int} {v2 : Int} {r : Bool} (hF : F_spec_l00In v0 v1 v2 = some r) : Con Tryd.prog 98 [.int .i64 v0, .int .i64 v1, .int .i64 v2] (res_spec_l00In r) := by
 unfold F_spec_l00In at hF
 refine con_of c98_is fun N => ?_
 refine ws 0 64 ?_
 refine qp (AB false) rfl ?_
 refine r_nil ?_
 refine ws 64 640 ?_
 refine qp (AI v0) rfl (qp (AI v1) rfl (qp (AB (decide (v1 ≤ v0))) rfl (qp (AB (decide (v1 ≤ v0))) rfl ?_)))
 refine q_case 10 hF rfl (fun hF => ?_) (fun hF => ?_)
 ·
  refine qg (AI v0) rfl rfl (qg (AI v2) rfl rfl (qg (AB (decide (v0 ≤ v2))) rfl rfl (qp (AB (decide (v0 ≤ v2))) rfl (qp (AB (decide (v0 ≤ v2))) rfl ?_))))
  refine r_nil ?_
  refine w_ret ?_
  cases hF
  exact eR
 ·
  refine qn rfl (qn rfl (qn rfl (qp (AB false) rfl (qp (AB false) rfl ?_))))
  refine r_nil ?_
  refine w_ret ?_
  cases hF
  exact eR

def c91 : MC := (.seq (.reg [rg 2 (.f (.nilrow 1)), rg 3 (.p true (.mv (.c (.bool false))))]) (.seq (.seq (.reg [mvt 9 0, rg 10 (.p true (.bin .eql (.t 9) (.c (.str [45]))))]) (.cond (.t 10) (.seq (.reg [rg 11 (.f (.bsl 1 [])), mvt 2 11, rg 3 (.p true (.mv (.c (.bool true))))]) .ret) .skip)) (.seq (.reg [mvt 12 0, rg 13 (.call true 89 [(.t 12), (.c (.int .u8 44))]), mvt 4 13]) (.seq (.seq (.reg [mvt 14 4, rg 15 (.p true (.len (.t 14))), rg 16 (.p true (.bin .gtr (.t 15) (.c (.int .i64 64))))]) (.cond (.t 16) (.seq (.reg [rg 2 (.f (.nilrow 1)), rg 3 (.p true (.mv (.c (.bool false))))]) .ret) .skip)) (.seq (.reg [rg 17 (.f (.bsl 1 [])), mvt 5 17]) (.seq (.seq (.reg [rg 6 (.p true (.mv (.c (.int .i64 0))))]) (.block 0 (.loop (.seq (.seq (.reg [mvt 18 6, mvt 19 4, rg 20 (.p true (.len (.t 19))), rg 21 (.p true (.bin .lss (.t 18) (.t 20)))]) (.cond (.t 21) .skip (.exit 0))) (.seq (.block 1 (.seq (.reg [mvt 25 4, mvt 26 6, rg 27 (.p true (.iad (.t 25) (.t 26) 1)), rg 28 (.p true (.ld (.t 27) 1 false)), rg 29 (.call true 90 [(.t 28)]), mvt 24 29, rg 30 (.p true (.ext (.t 24) 0)), rg 31 (.p true (.ext (.t 24) 1)), mvt 7 30, mvt 8 31]) (.seq (.seq (.reg [mvt 32 8, rg 33 (.p true (.not (.t 32))), mvt 34 33, ⟨(some 35), (some (34, false)), (.p true (.mv (.t 7)))⟩, ⟨(some 36), (some (34, false)), (.call true 98 [(.t 35), (.c (.int .i64 (-1000000000000))), (.c (.int .i64 1000000000000))])⟩, ⟨(some 37), (some (34, false)), (.p true (.not (.t 36)))⟩, rg 38 (.p true (.pick (.t 34) (.c (.bool true)) (.t 37)))]) (.cond (.t 38) (.seq (.reg [rg 2 (.f (.nilrow 1)), rg 3 (.p true (.mv (.c (.bool false))))]) .ret) .skip)) (.reg [mvt 39 5, mvt 40 7, rg 41 (.f (.bsl 1 [(.t 40)])), rg 42 (.f (.app (.t 39) (.t 41) 1 8 true)), mvt 5 42])))) (.reg [mvt 22 6, rg 23 (.p true (.bin .add (.t 22) (.c (.int .i64 1)))), mvt 6 23])))))) (.seq (.reg [mvt 43 5, mvt 2 43, rg 3 (.p true (.mv (.c (.bool true))))]) .ret)))))))
theorem c91_is : compFn Tryd.prog 91 = some (c91, [(.tmp 2), (.tmp 3)]) := by kernel_rfl
theorem c91_ok : okFn Tryd.prog 91 = true := by kernel_rfl

noncomputable def F_spec_ReadList_l0 (v1000 : List (List UInt8)) (k1 : Int × (List Int) → Option ((List Int) × Bool)) : Int × (List Int) → Option ((List Int) × Bool)
 | (v50006, v50007) => (bif (decide (v50006 < (v1000.length : Int))) then ((ix v1000 v50006).bind fun v1009 => ((F_spec_l01Number v1009).bind fun v1010 => (bif (!v1010.2) then some ([], false)
 else ((F_spec_l00In v1010.1 (-1000000000000) 1000000000000).bind fun v1011 => (bif (!v1011) then some ([], false)
 else (need (room (v50007.length + [v1010.1].length) 8) (k1 (w64 (v50006 + 1), v50007 ++ [v1010.1]))))))))
 else some (v50007, true))
noncomputable def F_spec_ReadList (v0 : List UInt8) : Option ((List Int) × Bool) :=
 (bif (decide (v0 = [45])) then some ([], true)
 else ((F_spec_l01Split v0 44).bind fun v1000 => (bif (decide ((64 : Int) < (v1000.length : Int))) then some ([], false)
 else loop (F_spec_ReadList_l0 v1000) (0, []))))
@[simp] def res_spec_ReadList (r : (List Int) × Bool) : RV := .tup [.one (.row true 1 (r.1.map vI)), .one (.val (.bool r.2))]
theorem con_spec_ReadList {v0 : List UInt8} {r : (List Int) × Bool} (hF : F_spec_ReadList v0 = some r) : Con Tryd.prog 91 [.str v0] (res_spec_ReadList r) := by
 unfold F_spec_ReadList at hF
 refine con_of c91_is fun N => ?_
 refine ws 0 128 ?_
 refine qf (.sl 0 0 0) [(0, .row true 1 (([] : List Int).map vI))] (by simp) ?_
 refine qp (AB false) rfl ?_
 refine r_nil ?_
 refine w_seq ?_
 refine ws 128 256 ?_
 refine qp (AS v0) rfl (qp (AB (decide (v0 = [45]))) rfl ?_)
 refine r_nil ?_
 refine cF hF (fun hF => ?_) fun hF => ?_
 ·
  refine ws 256 448 ?_
  refine qf (.sl 256 0 0) [(256, .row true 1 (([] : List Int).map vI)), (0, .row true 1 (([] : List Int).map vI))] (by simp [List.take_of_length_le]) ?_
  refine qp (.sl 256 0 0) rfl (qp (AB true) rfl ?_)
  refine r_nil ?_
  refine w_ret ?_
  refine thenQ_r ?_
  cases hF
  exact eR
 ·
  refine w_skip ?_
  refine thenQ_n ?_
  refine ws 256 448 ?_
  refine qp (AS v0) rfl ?_
  obtain ⟨v1000, e1000, hF⟩ := bind_get hF
  refine qc (.sl 320 0 v1000.length) [(320, .row true 1 (v1000.map V.str)), (0, .row true 1 (([] : List Int).map vI))] false (con_spec_l01Split e1000) c89_ok (by first | rfl | simp) (by simp [res_spec_l01Split]) ?_
  refine qp (.sl 320 0 v1000.length) rfl ?_
  refine r_nil ?_
  refine w_seq ?_
  refine ws 448 640 ?_
  refine qp (.sl 320 0 v1000.length) rfl (qp (AI (v1000.length : Int)) rfl (qp (AB (decide ((64 : Int) < (v1000.length : Int)))) rfl ?_))
  refine r_nil ?_
  refine cF hF (fun hF => ?_) fun hF => ?_
  ·
   refine ws 640 768 ?_
   refine qf (.sl 640 0 0) [(640, .row true 1 (([] : List Int).map vI)), (320, .row true 1 (v1000.map V.str)), (0, .row true 1 (([] : List Int).map vI))] (by simp) ?_
   refine qp (AB false) rfl ?_
   refine r_nil ?_
   refine w_ret ?_
   refine thenQ_r ?_
   cases hF
   exact eR
  ·
   refine w_skip ?_
   refine thenQ_n ?_
   refine ws 640 768 ?_
   refine qf (.sl 640 0 0) [(640, .row true 1 (([] : List Int).map vI)), (320, .row true 1 (v1000.map V.str)), (0, .row true 1 (([] : List Int).map vI))] (by simp [List.take_of_length_le]) ?_
   refine qp (.sl 640 0 0) rfl ?_
   refine r_nil ?_
   refine w_seq ?_
   refine ws 768 832 ?_
   refine qp (AI 0) rfl ?_
   refine r_nil ?_
   refine w_block ?_
   refine wr (l' := [(4, .sl 0 0 v1000.length), (5, .sl 1 0 0), (6, AI 0)]) (L := [(1, .row true 1 (([] : List Int).map vI)), (0, .row true 1 (v1000.map V.str))]) [4, 5, 6] [(640, 1), (320, 0)] 2 ?_
   refine w_loopF (F_spec_ReadList_l0 v1000) (fun s : Int × (List Int) => mkS [(4, .sl 0 0 v1000.length), (5, .sl 1 0 s.2.length), (6, AI s.1)] (fo [(1, .row true 1 (s.2.map vI)), (0, .row true 1 (v1000.map V.str))]) 2) hF ?_
   rintro k1 ⟨v50006, v50007⟩ hF
   rw [F_spec_ReadList_l0] at hF
   try dsimp only
   refine w_seq ?_
   refine ws 2 258 ?_
   refine qp (AI v50006) rfl (qp (.sl 0 0 v1000.length) rfl (qp (AI (v1000.length : Int)) rfl (qp (AB (decide (v50006 < (v1000.length : Int)))) rfl ?_)))
   refine r_nil ?_
   refine cF hF (fun hF => ?_) fun hF => ?_
   ·
    refine w_skip ?_
    refine thenQ_n ?_
    refine w_seq ?_
    refine w_block ?_
    refine ws 258 898 ?_
    refine qp (.sl 0 0 v1000.length) rfl (qp (AI v50006) rfl ?_)
    obtain ⟨v1009, e1009, hF⟩ := bind_get hF
    refine qp (.ptr 0 v50006.toNat 0) (ev_iad_r rfl (by simp) rfl rfl e1009) (qp (AS v1009) (ev_ld_r rfl rfl (ix_some e1009).2 rfl rfl) ?_)
    obtain ⟨v1010, e1010, hF⟩ := bind_get hF
    refine qc (.tup [AI v1010.1, AB v1010.2]) [(1, .row true 1 (v50007.map vI)), (0, .row true 1 (v1000.map V.str))] false (con_spec_l01Number e1010) c90_ok (by first | rfl | simp) rfl ?_
    refine qp (.tup [AI v1010.1, AB v1010.2]) rfl (qp (AI v1010.1) rfl (qp (AB v1010.2) rfl (qp (AI v1010.1) rfl (qp (AB v1010.2) rfl ?_))))
    refine r_nil ?_
    refine w_seq ?_
    refine ws 898 1346 ?_
    refine qp (AB v1010.2) rfl (qp (AB (!v1010.2)) rfl (qp (AB (!v1010.2)) rfl ?_))
    refine q_case 34 hF rfl (fun hF => ?_) (fun hF => ?_)
    ·
     refine qn rfl (qn rfl (qn rfl (qp (AB true) rfl ?_)))
     refine r_nil ?_
     refine w_true rfl ?_
     refine ws 1346 1474 ?_
     refine qf (.sl 1346 0 0) [(1346, .row true 1 (([] : List Int).map vI)), (1, .row true 1 (v50007.map vI)), (0, .row true 1 (v1000.map V.str))] (by simp) ?_
     refine qp (AB false) rfl ?_
     refine r_nil ?_
     refine w_ret ?_
     refine thenQ_r ?_
     refine blockQ_r ?_
     refine thenQ_r ?_
     refine thenQ_r ?_
     refine blockQ_r ?_
     refine thenQ_r ?_
     cases hF
     exact eR
    ·
     refine qg (AI v1010.1) rfl rfl ?_
     obtain ⟨v1011, e1011, hF⟩ := bind_get hF
     refine qcg (AB v1011) [(1, .row true 1 (v50007.map vI)), (0, .row true 1 (v1000.map V.str))] false rfl (con_spec_l00In e1011) c98_ok (by first | rfl | simp) rfl ?_
     refine qg (AB (!v1011)) rfl rfl (qp (AB (!v1011)) rfl ?_)
     refine r_nil ?_
     refine cF hF (fun hF => ?_) fun hF => ?_
     ·
      refine ws 1346 1474 ?_
      refine qf (.sl 1346 0 0) [(1346, .row true 1 (([] : List Int).map vI)), (1, .row true 1 (v50007.map vI)), (0, .row true 1 (v1000.map V.str))] (by simp) ?_
      refine qp (AB false) rfl ?_
      refine r_nil ?_
      refine w_ret ?_
      refine thenQ_r ?_
      refine blockQ_r ?_
      refine thenQ_r ?_
      refine thenQ_r ?_
      refine blockQ_r ?_
      refine thenQ_r ?_
      cases hF
      exact eR
     ·
      refine w_skip ?_
      refine thenQ_n ?_
      refine w_reg 1346 1666 rfl rfl ?_
      refine qp (.sl 1 0 v50007.length) rfl (qp (AI v1010.1) rfl ?_)
      refine qf (.sl 1474 0 ([v1010.1].length)) [(1474, .row true 1 ([v1010.1].map vI)), (1, .row true 1 (v50007.map vI)), (0, .row true 1 (v1000.map V.str))] (by simp [List.take_of_length_le]) ?_
      obtain ⟨g1012, hF⟩ := need_some hF
      refine qf (.sl 1538 0 ((v50007 ++ [v1010.1]).length)) [(1538, .row true 1 ((v50007 ++ [v1010.1]).map vI)), (1, .dead), (1474, .dead), (1474, .row true 1 ([v1010.1].map vI)), (1, .row true 1 (v50007.map vI)), (0, .row true 1 (v1000.map V.str))] (effT_app_l rfl (by simp) rfl rfl (by simp) rfl (by decide) g1012 rfl) ?_
      refine qp (.sl 1538 0 ((v50007 ++ [v1010.1]).length)) rfl ?_
      refine r_nil ?_
      refine blockQ_n ?_
      refine thenQ_n ?_
      refine w_reg 1666 1858 rfl rfl ?_
      refine qp (AI v50006) rfl (qp (AI (w64 (v50006 + 1))) rfl (qp (AI (w64 (v50006 + 1))) rfl ?_))
      refine r_nil ?_
      refine thenQ_n ?_
      refine ar (l' := [(4, .sl 0 0 v1000.length), (5, .sl 1 0 (v50007 ++ [v1010.1]).length), (6, AI (w64 (v50006 + 1)))]) (L := [(1, .row true 1 ((v50007 ++ [v1010.1]).map vI)), (0, .row true 1 (v1000.map V.str))]) [4, 5, 6] [(1538, 1), (0, 0)] 2 ⟨_, by rfl, hF⟩
   ·
    refine w_exit ?_
    refine thenQ_e ?_
    refine thenQ_e ?_
    refine blockQ_e ?_
    refine thenQ_n ?_
    refine ws 258 450 ?_
    refine qp (.sl 1 0 v50007.length) rfl (qp (.sl 1 0 v50007.length) rfl (qp (AB true) rfl ?_))
    refine r_nil ?_
    refine w_ret ?_
    cases hF
    exact eR

def c136 : MC := (.seq (.reg [rg 2 (.p true (.mv (.c (.bool false))))]) (.seq (.reg [mvt 3 0, rg 4 (.p true (.bin .geq (.t 3) (.c (.int .u8 97)))), mvt 5 4, ⟨(some 6), (some (5, true)), (.p true (.mv (.t 0)))⟩, ⟨(some 7), (some (5, true)), (.p true (.bin .leq (.t 6) (.c (.int .u8 122))))⟩, rg 8 (.p true (.pick (.t 5) (.t 7) (.c (.bool false)))), mvt 2 8]) .ret))
theorem c136_is : compFn Tryd.prog 136 = some (c136, [(.tmp 2)]) := by kernel_rfl
theorem c136_ok : okFn Tryd.prog 136 = true := by kernel_rfl

noncomputable def F_spec_l01Small (v0 : Int) : Option (Bool) :=
 (bif (decide ((97 : Int) ≤ v0)) then some (decide (v0 ≤ (122 : Int)))
 else some false)
@[simp] def res_spec_l01Small (r : Bool) : RV := .one (.one (.val (.bool r)))
theorem con_spec_l01Small {v0 : Int} {r : Bool} (hF : F_spec_l01Small v0 = some r) : Con Tryd.prog 136 [.int .u8 v0] (res_spec_l01Small r) := by
 unfold F_spec_l01Small at hF
 refine con_of c136_is fun N => ?_
 refine ws 0 64 ?_
 refine qp (AB false) rfl ?_
 refine r_nil ?_
 refine ws 64 512 ?_
 refine qp (.val none (.int .u8 v0)) rfl (qp (AB (decide ((97 : Int) ≤ v0))) rfl (qp (AB (decide ((97 : Int) ≤ v0))) rfl ?_))
 refine q_case 5 hF rfl (fun hF => ?_) (fun hF => ?_)
 ·
  refine qg (.val none (.int .u8 v0)) rfl rfl (qg (AB (decide (v0 ≤ (122 : Int)))) rfl rfl (qp (AB (decide (v0 ≤ (122 : Int)))) rfl (qp (AB (decide (v0 ≤ (122 : Int)))) rfl ?_)))
  refine r_nil ?_
  refine w_ret ?_
  cases hF
  exact eR
 ·
  refine qn rfl (qn rfl (qp (AB false) rfl (qp (AB false) rfl ?_)))
  refine r_nil ?_
  refine w_ret ?_
  cases hF
  exact eR

def c97 : MC := (.seq (.reg [rg 2 (.p true (.mv (.c (.bool false))))]) (.seq (.seq (.reg [mvt 4 0, rg 5 (.p true (.bin .eql (.t 4) (.c (.str [])))), mvt 6 5, ⟨(some 7), (some (6, false)), (.p true (.mv (.t 0)))⟩, ⟨(some 8), (some (6, false)), (.p true (.lens (.t 7)))⟩, ⟨(some 9), (some (6, false)), (.p true (.bin .gtr (.t 8) (.c (.int .i64 10))))⟩, rg 10 (.p true (.pick (.t 6) (.c (.bool true)) (.t 9))), mvt 11 10, ⟨(some 12), (some (11, false)), (.p true (.mv (.t 0)))⟩, ⟨(some 13), (some (11, false)), (.p true (.ixs (.t 12) (.c (.int .i64 0))))⟩, ⟨(some 14), (some (11, false)), (.call true 136 [(.t 13)])⟩, ⟨(some 15), (some (11, false)), (.p true (.not (.t 14)))⟩, rg 16 (.p true (.pick (.t 11) (.c (.bool true)) (.t 15)))]) (.cond (.t 16) (.seq (.reg [rg 2 (.p true (.mv (.c (.bool false))))]) .ret) .skip)) (.seq (.seq (.reg [rg 3 (.p true (.mv (.c (.int .i64 0))))]) (.block 0 (.loop (.seq (.seq (.reg [mvt 17 3, mvt 18 0, rg 19 (.p true (.lens (.t 18))), rg 20 (.p true (.bin .lss (.t 17) (.t 19)))]) (.cond (.t 20) .skip (.exit 0))) (.seq (.block 1 (.seq (.reg [mvt 23 0, mvt 24 3, rg 25 (.p true (.ixs (.t 23) (.t 24))), rg 26 (.call true 136 [(.t 25)]), rg 27 (.p true (.not (.t 26))), mvt 28 27, ⟨(some 29), (some (28, true)), (.p true (.mv (.t 0)))⟩, ⟨(some 30), (some (28, true)), (.p true (.mv (.t 3)))⟩, ⟨(some 31), (some (28, true)), (.p true (.ixs (.t 29) (.t 30)))⟩, ⟨(some 32), (some (28, true)), (.call true 132 [(.t 31)])⟩, ⟨(some 33), (some (28, true)), (.p true (.not (.t 32)))⟩, rg 34 (.p true (.pick (.t 28) (.t 33) (.c (.bool false))))]) (.cond (.t 34) (.seq (.reg [rg 2 (.p true (.mv (.c (.bool false))))]) .ret) .skip))) (.reg [mvt 21 3, rg 22 (.p true (.bin .add (.t 21) (.c (.int .i64 1)))), mvt 3 22])))))) (.seq (.reg [rg 2 (.p true (.mv (.c (.bool true))))]) .ret))))
theorem c97_is : compFn Tryd.prog 97 = some (c97, [(.tmp 2)]) := by kernel_rfl
theorem c97_ok : okFn Tryd.prog 97 = true := by kernel_rfl

noncomputable def F_spec_l01Name_l0 (v0 : List UInt8) (k1 : Int → Option (Bool)) : Int → Option (Bool)
 | v50003 => (bif (decide (v50003 < (v0.length : Int))) then ((ix v0 v50003).bind fun v1010 => ((F_spec_l01Small (v1010.toNat : Int)).bind fun v1011 => (bif (!v1011) then ((ix v0 v50003).bind fun v1012 => ((F_spec_l01Digit (v1012.toNat : Int)).bind fun v1013 => (bif (!v1013) then some false
 else k1 (w64 (v50003 + 1)))))
 else k1 (w64 (v50003 + 1)))))
 else some true)
noncomputable def F_spec_l01Name (v0 : List UInt8) : Option (Bool) :=
 (bif (decide (v0 = [])) then some false
 else (bif (decide ((10 : Int) < (v0.length : Int))) then some false
 else ((ix v0 0).bind fun v1000 => ((F_spec_l01Small (v1000.toNat : Int)).bind fun v1001 => (bif (!v1001) then some false
 else loop (F_spec_l01Name_l0 v0) 0)))))
@[simp] def res_spec_l01Name (r : Bool) : RV := .one (.one (.val (.bool r)))
theorem con_spec_l01Name {v0 : List UInt8} {r : Bool} (hF : F_spec_l01Name v0 = some r) : Con Tryd.prog 97 [.str v0] (res_spec_l01Name r) := by
 unfold F_spec_l01Name at hF
 refine con_of c97_is fun N => ?_
 refine ws 0 64 ?_
 refine qp (AB false) rfl ?_
 refine r_nil ?_
 refine w_seq ?_
 refine ws 64 896 ?_
 refine qp (AS v0) rfl (qp (AB (decide (v0 = []))) rfl (qp (AB (decide (v0 = []))) rfl ?_))
 refine q_case 6 hF rfl (fun hF => ?_) (fun hF => ?_)
 ·
  refine qn rfl (qn rfl (qn rfl (qp (AB true) rfl (qp (AB true) rfl (qn rfl (qn rfl (qn rfl ?_)))))))
  refine qn rfl (qp (AB true) rfl ?_)
  refine r_nil ?_
  refine w_true rfl ?_
  refine ws 896 960 ?_
  refine qp (AB false) rfl ?_
  refine r_nil ?_
  refine w_ret ?_
  refine thenQ_r ?_
  cases hF
  exact eR
 ·
  refine qg (AS v0) rfl rfl (qg (AI (v0.length : Int)) rfl rfl (qg (AB (decide ((10 : Int) < (v0.length : Int)))) rfl rfl (qp (AB (decide ((10 : Int) < (v0.length : Int)))) rfl (qp (AB (decide ((10 : Int) < (v0.length : Int)))) rfl ?_))))
  refine q_case 11 hF rfl (fun hF => ?_) (fun hF => ?_)
  ·
   refine qn rfl (qn rfl (qn rfl (qn rfl (qp (AB true) rfl ?_))))
   refine r_nil ?_
   refine w_true rfl ?_
   refine ws 896 960 ?_
   refine qp (AB false) rfl ?_
   refine r_nil ?_
   refine w_ret ?_
   refine thenQ_r ?_
   cases hF
   exact eR
  ·
   refine qg (AS v0) rfl rfl ?_
   obtain ⟨v1000, e1000, hF⟩ := bind_get hF
   refine qg (.val none (.int .u8 (v1000.toNat : Int))) rfl (ev_ixs rfl rfl e1000) ?_
   obtain ⟨v1001, e1001, hF⟩ := bind_get hF
   refine qcg (AB v1001) [] false rfl (con_spec_l01Small e1001) c136_ok (by first | rfl | simp) rfl ?_
   refine qg (AB (!v1001)) rfl rfl (qp (AB (!v1001)) rfl ?_)
   refine r_nil ?_
   refine cF hF (fun hF => ?_) fun hF => ?_
   ·
    refine ws 896 960 ?_
    refine qp (AB false) rfl ?_
    refine r_nil ?_
    refine w_ret ?_
    refine thenQ_r ?_
    cases hF
    exact eR
   ·
    refine w_skip ?_
    refine thenQ_n ?_
    refine w_seq ?_
    refine ws 896 960 ?_
    refine qp (AI 0) rfl ?_
    refine r_nil ?_
    refine w_block ?_
    refine wr (l' := [(0, AS v0), (3, AI 0)]) (L := []) [0, 3] [] 1 ?_
    refine w_loopF (F_spec_l01Name_l0 v0) (fun s : Int => mkS [(0, AS v0), (3, AI s)] (fo []) 1) hF ?_
    rintro k1 v50003 hF
    rw [F_spec_l01Name_l0] at hF
    try dsimp only
    refine w_seq ?_
    refine ws 1 257 ?_
    refine qp (AI v50003) rfl (qp (AS v0) rfl (qp (AI (v0.length : Int)) rfl (qp (AB (decide (v50003 < (v0.length : Int)))) rfl ?_)))
    refine r_nil ?_
    refine cF hF (fun hF => ?_) fun hF => ?_
    ·
     refine w_skip ?_
     refine thenQ_n ?_
     refine w_seq ?_
     refine w_block ?_
     refine ws 257 1025 ?_
     refine qp (AS v0) rfl (qp (AI v50003) rfl ?_)
     obtain ⟨v1010, e1010, hF⟩ := bind_get hF
     refine qp (.val none (.int .u8 (v1010.toNat : Int))) (ev_ixs rfl rfl e1010) ?_
     obtain ⟨v1011, e1011, hF⟩ := bind_get hF
     refine qc (AB v1011) [] false (con_spec_l01Small e1011) c136_ok (by first | rfl | simp) rfl ?_
     refine qp (AB (!v1011)) rfl (qp (AB (!v1011)) rfl ?_)
     refine q_case 28 hF rfl (fun hF => ?_) (fun hF => ?_)
     ·
      refine qg (AS v0) rfl rfl (qg (AI v50003) rfl rfl ?_)
      obtain ⟨v1012, e1012, hF⟩ := bind_get hF
      refine qg (.val none (.int .u8 (v1012.toNat : Int))) rfl (ev_ixs rfl rfl e1012) ?_
      obtain ⟨v1013, e1013, hF⟩ := bind_get hF
      refine qcg (AB v1013) [] false rfl (con_spec_l01Digit e1013) c132_ok (by first | rfl | simp) rfl ?_
      refine qg (AB (!v1013)) rfl rfl (qp (AB (!v1013)) rfl ?_)
      refine r_nil ?_
      refine cF hF (fun hF => ?_) fun hF => ?_
      ·
       refine ws 1025 1089 ?_
       refine qp (AB false) rfl ?_
       refine r_nil ?_
       refine w_ret ?_
       refine blockQ_r ?_
       refine thenQ_r ?_
       refine thenQ_r ?_
       refine blockQ_r ?_
       refine thenQ_r ?_
       cases hF
       exact eR
      ·
       refine w_skip ?_
       refine blockQ_n ?_
       refine thenQ_n ?_
       refine w_reg 1025 1217 rfl rfl ?_
       refine qp (AI v50003) rfl (qp (AI (w64 (v50003 + 1))) rfl (qp (AI (w64 (v50003 + 1))) rfl ?_))
       refine r_nil ?_
       refine thenQ_n ?_
       refine ar (l' := [(0, AS v0), (3, AI (w64 (v50003 + 1)))]) (L := []) [0, 3] [] 1 ⟨_, by rfl, hF⟩
     ·
      refine qn rfl (qn rfl (qn rfl (qn rfl (qn rfl (qp (AB false) rfl ?_)))))
      refine r_nil ?_
      refine w_false rfl ?_
      refine w_skip ?_
      refine blockQ_n ?_
      refine thenQ_n ?_
      refine w_reg 1025 1217 rfl rfl ?_
      refine qp (AI v50003) rfl (qp (AI (w64 (v50003 + 1))) rfl (qp (AI (w64 (v50003 + 1))) rfl ?_))
      refine r_nil ?_
      refine thenQ_n ?_
      refine ar (l' := [(0, AS v0), (3, AI (w64 (v50003 + 1)))]) (L := []) [0, 3] [] 1 ⟨_, by rfl, hF⟩
    ·
     refine w_exit ?_
     refine thenQ_e ?_
     refine thenQ_e ?_
     refine blockQ_e ?_
     refine thenQ_n ?_
     refine ws 257 321 ?_
     refine qp (AB true) rfl ?_
     refine r_nil ?_
     refine w_ret ?_
     cases hF
     exact eR

def c119 : MC := (.seq (.reg [rg 2 (.p true (.mv (.c (.bool false))))]) (.seq (.reg [mvt 3 0, rg 4 (.p true (.nck (.t 3))), rg 5 (.p true (.fad (.t 4) 0)), rg 6 (.p true (.ld (.t 5) 1 false)), rg 7 (.call true 98 [(.t 6), (.c (.int .i64 0)), (.c (.int .i64 100000))]), mvt 8 7, ⟨(some 9), (some (8, true)), (.p true (.mv (.t 0)))⟩, ⟨(some 10), (some (8, true)), (.p true (.nck (.t 9)))⟩, ⟨(some 11), (some (8, true)), (.p true (.fad (.t 10) 1))⟩, ⟨(some 12), (some (8, true)), (.p true (.ld (.t 11) 1 false))⟩, ⟨(some 13), (some (8, true)), (.call true 97 [(.t 12)])⟩, rg 14 (.p true (.pick (.t 8) (.t 13) (.c (.bool false)))), mvt 15 14, ⟨(some 16), (some (15, true)), (.p true (.mv (.t 0)))⟩, ⟨(some 17), (some (15, true)), (.p true (.nck (.t 16)))⟩, ⟨(some 18), (some (15, true)), (.p true (.fad (.t 17) 2))⟩, ⟨(some 19), (some (15, true)), (.p true (.ld (.t 18) 1 false))⟩, ⟨(some 20), (some (15, true)), (.call true 97 [(.t 19)])⟩, rg 21 (.p true (.pick (.t 15) (.t 20) (.c (.bool false)))), mvt 22 21, ⟨(some 23), (some (22, true)), (.p true (.mv (.t 0)))⟩, ⟨(some 24), (some (22, true)), (.p true (.nck (.t 23)))⟩, ⟨(some 25), (some (22, true)), (.p true (.fad (.t 24) 3))⟩, ⟨(some 26), (some (22, true)), (.p true (.ld (.t 25) 1 false))⟩, ⟨(some 27), (some (22, true)), (.call true 98 [(.t 26), (.c (.int .i64 1)), (.c (.int .i64 480))])⟩, rg 28 (.p true (.pick (.t 22) (.t 27) (.c (.bool false)))), mvt 29 28, ⟨(some 30), (some (29, true)), (.p true (.mv (.t 0)))⟩, ⟨(some 31), (some (29, true)), (.p true (.nck (.t 30)))⟩, ⟨(some 32), (some (29, true)), (.p true (.fad (.t 31) 4))⟩, ⟨(some 33), (some (29, true)), (.p true (.ld (.t 32) 1 false))⟩, ⟨(some 34), (some (29, true)), (.call true 98 [(.t 33), (.c (.int .i64 0)), (.c (.int .i64 100))])⟩, rg 35 (.p true (.pick (.t 29) (.t 34) (.c (.bool false)))), mvt 2 35]) .ret))
theorem c119_is : compFn Tryd.prog 119 = some (c119, [(.tmp 2)]) := by kernel_rfl
theorem c119_ok : okFn Tryd.prog 119 = true := by kernel_rfl

noncomputable def F_spec_l28One (v0 : TLesson) : Option (Bool) :=
 ((F_spec_l00In v0.1 0 100000).bind fun v1000 => (bif v1000 then ((F_spec_l01Name v0.2.1).bind fun v1001 => (bif v1001 then ((F_spec_l01Name v0.2.2.1).bind fun v1002 => (bif v1002 then ((F_spec_l00In v0.2.2.2.1 1 480).bind fun v1003 => (bif v1003 then ((F_spec_l00In v0.2.2.2.2 0 100).bind fun v1004 => some v1004)
 else some false))
 else some false))
 else some false))
 else some false))
@[simp] def res_spec_l28One (r : Bool) : RV := .one (.one (.val (.bool r)))
theorem con_spec_l28One {v0 : TLesson} {r : Bool} (hF : F_spec_l28One v0 = some r) : Con Tryd.prog 119 [.ptr [.int .i64 v0.1, .str v0.2.1, .str v0.2.2.1, .int .i64 v0.2.2.2.1, .int .i64 v0.2.2.2.2]] (res_spec_l28One r) := by
 unfold F_spec_l28One at hF
 refine con_of c119_is fun N => ?_
 refine ws 0 64 ?_
 refine qp (AB false) rfl ?_
 refine r_nil ?_
 refine ws 64 2240 ?_
 refine qp (.val none (.ptr [.int .i64 v0.1, .str v0.2.1, .str v0.2.2.1, .int .i64 v0.2.2.2.1, .int .i64 v0.2.2.2.2])) rfl (qp (.val none (.ptr [.int .i64 v0.1, .str v0.2.1, .str v0.2.2.1, .int .i64 v0.2.2.2.1, .int .i64 v0.2.2.2.2])) rfl (qp (.val none (.ptr [.int .i64 v0.1, .str v0.2.1, .str v0.2.2.1, .int .i64 v0.2.2.2.1, .int .i64 v0.2.2.2.2])) rfl (qp (AI v0.1) rfl ?_)))
 obtain ⟨v1000, e1000, hF⟩ := bind_get hF
 refine qc (AB v1000) [] false (con_spec_l00In e1000) c98_ok (by first | rfl | simp) rfl ?_
 refine qp (AB v1000) rfl ?_
 refine q_case 8 hF rfl (fun hF => ?_) (fun hF => ?_)
 ·
  refine qg (.val none (.ptr [.int .i64 v0.1, .str v0.2.1, .str v0.2.2.1, .int .i64 v0.2.2.2.1, .int .i64 v0.2.2.2.2])) rfl rfl (qg (.val none (.ptr [.int .i64 v0.1, .str v0.2.1, .str v0.2.2.1, .int .i64 v0.2.2.2.1, .int .i64 v0.2.2.2.2])) rfl rfl (qg (.val none (.ptr [.str v0.2.1, .str v0.2.2.1, .int .i64 v0.2.2.2.1, .int .i64 v0.2.2.2.2])) rfl rfl (qg (AS v0.2.1) rfl rfl ?_)))
  obtain ⟨v1001, e1001, hF⟩ := bind_get hF
  refine qcg (AB v1001) [] false rfl (con_spec_l01Name e1001) c97_ok (by first | rfl | simp) rfl ?_
  refine qp (AB v1001) rfl (qp (AB v1001) rfl ?_)
  refine q_case 15 hF rfl (fun hF => ?_) (fun hF => ?_)
  ·
   refine qg (.val none (.ptr [.int .i64 v0.1, .str v0.2.1, .str v0.2.2.1, .int .i64 v0.2.2.2.1, .int .i64 v0.2.2.2.2])) rfl rfl (qg (.val none (.ptr [.int .i64 v0.1, .str v0.2.1, .str v0.2.2.1, .int .i64 v0.2.2.2.1, .int .i64 v0.2.2.2.2])) rfl rfl (qg (.val none (.ptr [.str v0.2.2.1, .int .i64 v0.2.2.2.1, .int .i64 v0.2.2.2.2])) rfl rfl (qg (AS v0.2.2.1) rfl rfl ?_)))
   obtain ⟨v1002, e1002, hF⟩ := bind_get hF
   refine qcg (AB v1002) [] false rfl (con_spec_l01Name e1002) c97_ok (by first | rfl | simp) rfl ?_
   refine qp (AB v1002) rfl (qp (AB v1002) rfl ?_)
   refine q_case 22 hF rfl (fun hF => ?_) (fun hF => ?_)
   ·
    refine qg (.val none (.ptr [.int .i64 v0.1, .str v0.2.1, .str v0.2.2.1, .int .i64 v0.2.2.2.1, .int .i64 v0.2.2.2.2])) rfl rfl (qg (.val none (.ptr [.int .i64 v0.1, .str v0.2.1, .str v0.2.2.1, .int .i64 v0.2.2.2.1, .int .i64 v0.2.2.2.2])) rfl rfl (qg (.val none (.ptr [.int .i64 v0.2.2.2.1, .int .i64 v0.2.2.2.2])) rfl rfl (qg (AI v0.2.2.2.1) rfl rfl ?_)))
    obtain ⟨v1003, e1003, hF⟩ := bind_get hF
    refine qcg (AB v1003) [] false rfl (con_spec_l00In e1003) c98_ok (by first | rfl | simp) rfl ?_
    refine qp (AB v1003) rfl (qp (AB v1003) rfl ?_)
    refine q_case 29 hF rfl (fun hF => ?_) (fun hF => ?_)
    ·
     refine qg (.val none (.ptr [.int .i64 v0.1, .str v0.2.1, .str v0.2.2.1, .int .i64 v0.2.2.2.1, .int .i64 v0.2.2.2.2])) rfl rfl (qg (.val none (.ptr [.int .i64 v0.1, .str v0.2.1, .str v0.2.2.1, .int .i64 v0.2.2.2.1, .int .i64 v0.2.2.2.2])) rfl rfl (qg (.val none (.ptr [.int .i64 v0.2.2.2.2])) rfl rfl (qg (AI v0.2.2.2.2) rfl rfl ?_)))
     obtain ⟨v1004, e1004, hF⟩ := bind_get hF
     refine qcg (AB v1004) [] false rfl (con_spec_l00In e1004) c98_ok (by first | rfl | simp) rfl ?_
     refine qp (AB v1004) rfl (qp (AB v1004) rfl ?_)
     refine r_nil ?_
     refine w_ret ?_
     cases hF
     exact eR
    ·
     refine qn rfl (qn rfl (qn rfl (qn rfl (qn rfl (qp (AB false) rfl (qp (AB false) rfl ?_))))))
     refine r_nil ?_
     refine w_ret ?_
     cases hF
     exact eR
   ·
    refine qn rfl (qn rfl (qn rfl (qn rfl (qn rfl (qp (AB false) rfl (qp (AB false) rfl (qn rfl ?_)))))))
    refine qn rfl (qn rfl (qn rfl (qn rfl (qp (AB false) rfl (qp (AB false) rfl ?_)))))
    refine r_nil ?_
    refine w_ret ?_
    cases hF
    exact eR
  ·
   refine qn rfl (qn rfl (qn rfl (qn rfl (qn rfl (qp (AB false) rfl (qp (AB false) rfl (qn rfl ?_)))))))
   refine qn rfl (qn rfl (qn rfl (qn rfl (qp (AB false) rfl (qp (AB false) rfl (qn rfl (qn rfl ?_)))))))
   refine qn rfl (qn rfl (qn rfl (qp (AB false) rfl (qp (AB false) rfl ?_))))
   refine r_nil ?_
   refine w_ret ?_
   cases hF
   exact eR
 ·
  refine qn rfl (qn rfl (qn rfl (qn rfl (qn rfl (qp (AB false) rfl (qp (AB false) rfl (qn rfl ?_)))))))
  refine qn rfl (qn rfl (qn rfl (qn rfl (qp (AB false) rfl (qp (AB false) rfl (qn rfl (qn rfl ?_)))))))
  refine qn rfl (qn rfl (qn rfl (qp (AB false) rfl (qp (AB false) rfl (qn rfl (qn rfl (qn rfl ?_)))))))
  refine qn rfl (qn rfl (qp (AB false) rfl (qp (AB false) rfl ?_)))
  refine r_nil ?_
  refine w_ret ?_
  cases hF
  exact eR

def c69 : MC := (.seq (.reg [rg 2 (.f (.alloc [((.int .i64 0), (0, false)), ((.str []), (0, false)), ((.str []), (0, false)), ((.int .i64 0), (0, false)), ((.int .i64 0), (0, false))])), rg 3 (.p true (.mv (.c (.bool false))))]) (.seq (.reg [mvt 10 0, rg 11 (.call true 89 [(.t 10), (.c (.int .u8 32))]), mvt 4 11]) (.seq (.seq (.reg [mvt 12 4, rg 13 (.p true (.len (.t 12))), rg 14 (.p true (.bin .neq (.t 13) (.c (.int .i64 4))))]) (.cond (.t 14) (.seq (.reg [rg 15 (.f (.bld [((.int .i64 0), (0, false)), ((.str []), (0, false)), ((.str []), (0, false)), ((.int .i64 0), (0, false)), ((.int .i64 0), (0, false))] [])), ⟨none, none, (.f (.st (.t 2) (.t 15) 5))⟩, rg 3 (.p true (.mv (.c (.bool false))))]) .ret) .skip)) (.seq (.reg [mvt 17 4, rg 18 (.p true (.iad (.t 17) (.c (.int .i64 0)) 1)), rg 19 (.p true (.ld (.t 18) 1 false)), rg 20 (.call true 90 [(.t 19)]), mvt 16 20, rg 21 (.p true (.ext (.t 16) 0)), rg 22 (.p true (.ext (.t 16) 1)), mvt 5 21, mvt 6 22]) (.seq (.reg [mvt 24 4, rg 25 (.p true (.iad (.t 24) (.c (.int .i64 3)) 1)), rg 26 (.p true (.ld (.t 25) 1 false)), rg 27 (.call true 91 [(.t 26)]), mvt 23 27, rg 28 (.p true (.ext (.t 23) 0)), rg 29 (.p true (.ext (.t 23) 1)), mvt 7 28, mvt 8 29]) (.seq (.seq (.reg [mvt 30 6, rg 31 (.p true (.not (.t 30))), mvt 32 31, ⟨(some 33), (some (32, false)), (.p true (.mv (.t 8)))⟩, ⟨(some 34), (some (32, false)), (.p true (.not (.t 33)))⟩, rg 35 (.p true (.pick (.t 32) (.c (.bool true)) (.t 34))), mvt 36 35, ⟨(some 37), (some (36, false)), (.p true (.mv (.t 7)))⟩, ⟨(some 38), (some (36, false)), (.p true (.len (.t 37)))⟩, ⟨(some 39), (some (36, false)), (.p true (.bin .neq (.t 38) (.c (.int .i64 2))))⟩, rg 40 (.p true (.pick (.t 36) (.c (.bool true)) (.t 39)))]) (.cond (.t 40) (.seq (.reg [rg 41 (.f (.bld [((.int .i64 0), (0, false)), ((.str []), (0, false)), ((.str []), (0, false)), ((.int .i64 0), (0, false)), ((.int .i64 0), (0, false))] [])), ⟨none, none, (.f (.st (.t 2) (.t 41) 5))⟩, rg 3 (.p true (.mv (.c (.bool false))))]) .ret) .skip)) (.seq (.reg [rg 42 (.p false (.mv (.t 5))), rg 43 (.p false (.mv (.t 4))), rg 44 (.p false (.iad (.t 43) (.c (.int .i64 1)) 1)), rg 45 (.p false (.ld (.t 44) 1 false)), rg 46 (.p false (.mv (.t 4))), rg 47 (.p false (.iad (.t 46) (.c (.int .i64 2)) 1)), rg 48 (.p false (.ld (.t 47) 1 false)), rg 49 (.p false (.mv (.t 7))), rg 50 (.p false (.iad (.t 49) (.c (.int .i64 0)) 1)), rg 51 (.p false (.ld (.t 50) 1 false)), rg 52 (.p false (.mv (.t 7))), rg 53 (.p false (.iad (.t 52) (.c (.int .i64 1)) 1)), rg 54 (.p false (.ld (.t 53) 1 false)), rg 55 (.f (.bld [((.int .i64 0), (0, true)), ((.str []), (0, true)), ((.str []), (0, true)), ((.int .i64 0), (0, true)), ((.int .i64 0), (0, true))] [(0, (1, (.t 42))), (1, (1, (.t 45))), (2, (1, (.t 48))), (3, (1, (.t 51))), (4, (1, (.t 54)))])), rg 9 (.f (.alloc [((.int .i64 0), (0, false)), ((.str []), (0, false)), ((.str []), (0, false)), ((.int .i64 0), (0, false)), ((.int .i64 0), (0, false))])), ⟨none, none, (.f (.st (.t 9) (.t 55) 5))⟩]) (.seq (.seq (.reg [rg 56 (.call true 119 [(.t 9)]), rg 57 (.p true (.not (.t 56)))]) (.cond (.t 57) (.seq (.reg [rg 58 (.f (.bld [((.int .i64 0), (0, false)), ((.str []), (0, false)), ((.str []), (0, false)), ((.int .i64 0), (0, false)), ((.int .i64 0), (0, false))] [])), ⟨none, none, (.f (.st (.t 2) (.t 58) 5))⟩, rg 3 (.p true (.mv (.c (.bool false))))]) .ret) .skip)) (.seq (.reg [rg 59 (.p true (.ld (.t 9) 5 true)), ⟨none, none, (.f (.st (.t 2) (.t 59) 5))⟩, rg 3 (.p true (.mv (.c (.bool true))))]) .ret)))))))))
theorem c69_is : compFn Tryd.prog 69 = some (c69, [(.cell (.ld (.t 2) 5 true)), (.tmp 3)]) := by kernel_rfl
theorem c69_ok : okFn Tryd.prog 69 = true := by kernel_rfl

noncomputable def F_spec_l28Read (v0 : List UInt8) : Option (TLesson × Bool) :=
 ((F_spec_l01Split v0 32).bind fun v1000 => (bif (decide ((v1000.length : Int) ≠ (4 : Int))) then some ((0, [], [], 0, 0), false)
 else ((ix v1000 0).bind fun v1001 => ((F_spec_l01Number v1001).bind fun v1002 => ((ix v1000 3).bind fun v1003 => ((F_spec_ReadList v1003).bind fun v1004 => (bif (!v1002.2) then some ((0, [], [], 0, 0), false)
 else (bif (!v1004.2) then some ((0, [], [], 0, 0), false)
 else (bif (decide ((v1004.1.length : Int) ≠ (2 : Int))) then some ((0, [], [], 0, 0), false)
 else ((ix v1000 1).bind fun v1005 => ((ix v1000 2).bind fun v1006 => ((ix v1004.1 0).bind fun v1007 => ((ix v1004.1 1).bind fun v1008 => ((F_spec_l28One (v1002.1, v1005, v1006, v1007, v1008)).bind fun v1009 => (bif (!v1009) then some ((0, [], [], 0, 0), false)
 else some ((v1002.1, v1005, v1006, v1007, v1008), true))))))))))))))))
@[simp] def res_spec_l28Read (r : TLesson × Bool) : RV := .tup [.one (.val (eLesson r.1)), .one (.val (.bool r.2))]
theorem con_spec_l28Read {v0 : List UInt8} {r : TLesson × Bool} (hF : F_spec_l28Read v0 = some r) : Con Tryd.prog 69 [.str v0] (res_spec_l28Read r) := by
 unfold F_spec_l28Read at hF
 refine con_of c69_is fun N => ?_
 refine ws 0 128 ?_
 refine qf (.ptr 0 0 0) [(0, .box [AI 0, AS [], AS [], AI 0, AI 0])] (by simp) ?_
 refine qp (AB false) rfl ?_
 refine r_nil ?_
 refine ws 128 320 ?_
 refine qp (AS v0) rfl ?_
 obtain ⟨v1000, e1000, hF⟩ := bind_get hF
 refine qc (.sl 192 0 v1000.length) [(192, .row true 1 (v1000.map V.str)), (0, .box [AI 0, AS [], AS [], AI 0, AI 0])] false (con_spec_l01Split e1000) c89_ok (by first | rfl | simp) (by simp [res_spec_l01Split]) ?_
 refine qp (.sl 192 0 v1000.length) rfl ?_
 refine r_nil ?_
 refine w_seq ?_
 refine ws 320 512 ?_
 refine qp (.sl 192 0 v1000.length) rfl (qp (AI (v1000.length : Int)) rfl (qp (AB (decide ((v1000.length : Int) ≠ (4 : Int)))) rfl ?_))
 refine r_nil ?_
 refine cF hF (fun hF => ?_) fun hF => ?_
 ·
  refine ws 512 704 ?_
  refine qf (.agg [AI 0, AS [], AS [], AI 0, AI 0]) [(192, .row true 1 (v1000.map V.str)), (0, .box [AI 0, AS [], AS [], AI 0, AI 0])] (by simp) ?_
  refine qf0 (.undef) [(0, .box [AI 0, AS [], AS [], AI 0, AI 0]), (192, .row true 1 (v1000.map V.str)), (0, .box [AI 0, AS [], AS [], AI 0, AI 0])] (by simp) ?_
  refine qp (AB false) rfl ?_
  refine r_nil ?_
  refine w_ret ?_
  refine thenQ_r ?_
  cases hF
  exact eR
 ·
  refine w_skip ?_
  refine thenQ_n ?_
  refine ws 512 1088 ?_
  refine qp (.sl 192 0 v1000.length) rfl ?_
  obtain ⟨v1001, e1001, hF⟩ := bind_get hF
  refine qp (.ptr 192 ((0 : Int).toNat) 0) (ev_iad_r rfl (by simp) rfl rfl e1001) (qp (AS v1001) (ev_ld_r rfl rfl (ix_some e1001).2 rfl rfl) ?_)
  obtain ⟨v1002, e1002, hF⟩ := bind_get hF
  refine qc (.tup [AI v1002.1, AB v1002.2]) [(192, .row true 1 (v1000.map V.str)), (0, .box [AI 0, AS [], AS [], AI 0, AI 0])] false (con_spec_l01Number e1002) c90_ok (by first | rfl | simp) rfl ?_
  refine qp (.tup [AI v1002.1, AB v1002.2]) rfl (qp (AI v1002.1) rfl (qp (AB v1002.2) rfl (qp (AI v1002.1) rfl (qp (AB v1002.2) rfl ?_))))
  refine r_nil ?_
  refine ws 1088 1664 ?_
  refine qp (.sl 192 0 v1000.length) rfl ?_
  obtain ⟨v1003, e1003, hF⟩ := bind_get hF
  refine qp (.ptr 192 ((3 : Int).toNat) 0) (ev_iad_r rfl (by simp) rfl rfl e1003) (qp (AS v1003) (ev_ld_r rfl rfl (ix_some e1003).2 rfl rfl) ?_)
  obtain ⟨v1004, e1004, hF⟩ := bind_get hF
  refine qc (.tup [.sl 1280 0 v1004.1.length, AB v1004.2]) [(1280, .row true 1 (v1004.1.map vI)), (192, .row true 1 (v1000.map V.str)), (0, .box [AI 0, AS [], AS [], AI 0, AI 0])] false (con_spec_ReadList e1004) c91_ok (by first | rfl | simp) (by simp [res_spec_ReadList]) ?_
  refine qp (.tup [.sl 1280 0 v1004.1.length, AB v1004.2]) rfl (qp (.sl 1280 0 v1004.1.length) rfl (qp (AB v1004.2) rfl (qp (.sl 1280 0 v1004.1.length) rfl (qp (AB v1004.2) rfl ?_))))
  refine r_nil ?_
  refine w_seq ?_
  refine ws 1664 2368 ?_
  refine qp (AB v1002.2) rfl (qp (AB (!v1002.2)) rfl (qp (AB (!v1002.2)) rfl ?_))
  refine q_case 32 hF rfl (fun hF => ?_) (fun hF => ?_)
  ·
   refine qn rfl (qn rfl (qp (AB true) rfl (qp (AB true) rfl (qn rfl (qn rfl (qn rfl (qp (AB true) rfl ?_)))))))
   refine r_nil ?_
   refine w_true rfl ?_
   refine ws 2368 2560 ?_
   refine qf (.agg [AI 0, AS [], AS [], AI 0, AI 0]) [(1280, .row true 1 (v1004.1.map vI)), (192, .row true 1 (v1000.map V.str)), (0, .box [AI 0, AS [], AS [], AI 0, AI 0])] (by simp) ?_
   refine qf0 (.undef) [(0, .box [AI 0, AS [], AS [], AI 0, AI 0]), (1280, .row true 1 (v1004.1.map vI)), (192, .row true 1 (v1000.map V.str)), (0, .box [AI 0, AS [], AS [], AI 0, AI 0])] (by simp) ?_
   refine qp (AB false) rfl ?_
   refine r_nil ?_
   refine w_ret ?_
   refine thenQ_r ?_
   cases hF
   exact eR
  ·
   refine qg (AB v1004.2) rfl rfl (qg (AB (!v1004.2)) rfl rfl (qp (AB (!v1004.2)) rfl (qp (AB (!v1004.2)) rfl ?_)))
   refine q_case 36 hF rfl (fun hF => ?_) (fun hF => ?_)
   ·
    refine qn rfl (qn rfl (qn rfl (qp (AB true) rfl ?_)))
    refine r_nil ?_
    refine w_true rfl ?_
    refine ws 2368 2560 ?_
    refine qf (.agg [AI 0, AS [], AS [], AI 0, AI 0]) [(1280, .row true 1 (v1004.1.map vI)), (192, .row true 1 (v1000.map V.str)), (0, .box [AI 0, AS [], AS [], AI 0, AI 0])] (by simp) ?_
    refine qf0 (.undef) [(0, .box [AI 0, AS [], AS [], AI 0, AI 0]), (1280, .row true 1 (v1004.1.map vI)), (192, .row true 1 (v1000.map V.str)), (0, .box [AI 0, AS [], AS [], AI 0, AI 0])] (by simp) ?_
    refine qp (AB false) rfl ?_
    refine r_nil ?_
    refine w_ret ?_
    refine thenQ_r ?_
    cases hF
    exact eR
   ·
    refine qg (.sl 1280 0 v1004.1.length) rfl rfl (qg (AI (v1004.1.length : Int)) rfl rfl (qg (AB (decide ((v1004.1.length : Int) ≠ (2 : Int)))) rfl rfl (qp (AB (decide ((v1004.1.length : Int) ≠ (2 : Int)))) rfl ?_)))
    refine r_nil ?_
    refine cF hF (fun hF => ?_) fun hF => ?_
    ·
     refine ws 2368 2560 ?_
     refine qf (.agg [AI 0, AS [], AS [], AI 0, AI 0]) [(1280, .row true 1 (v1004.1.map vI)), (192, .row true 1 (v1000.map V.str)), (0, .box [AI 0, AS [], AS [], AI 0, AI 0])] (by simp) ?_
     refine qf0 (.undef) [(0, .box [AI 0, AS [], AS [], AI 0, AI 0]), (1280, .row true 1 (v1004.1.map vI)), (192, .row true 1 (v1000.map V.str)), (0, .box [AI 0, AS [], AS [], AI 0, AI 0])] (by simp) ?_
     refine qp (AB false) rfl ?_
     refine r_nil ?_
     refine w_ret ?_
     refine thenQ_r ?_
     cases hF
     exact eR
    ·
     refine w_skip ?_
     refine thenQ_n ?_
     refine ws 2368 3392 ?_
     refine qp (AI v1002.1) rfl (qp (.sl 192 0 v1000.length) rfl ?_)
     obtain ⟨v1005, e1005, hF⟩ := bind_get hF
     refine qp (.ptr 192 ((1 : Int).toNat) 0) (ev_iad_r rfl (by simp) rfl rfl e1005) (qp (AS v1005) (ev_ld_r rfl rfl (ix_some e1005).2 rfl rfl) (qp (.sl 192 0 v1000.length) rfl ?_))
     obtain ⟨v1006, e1006, hF⟩ := bind_get hF
     refine qp (.ptr 192 ((2 : Int).toNat) 0) (ev_iad_r rfl (by simp) rfl rfl e1006) (qp (AS v1006) (ev_ld_r rfl rfl (ix_some e1006).2 rfl rfl) (qp (.sl 1280 0 v1004.1.length) rfl ?_))
     obtain ⟨v1007, e1007, hF⟩ := bind_get hF
     refine qp (.ptr 1280 ((0 : Int).toNat) 0) (ev_iad_r rfl (by simp) rfl rfl e1007) (qp (AI v1007) (ev_ld_r rfl rfl (ix_some e1007).2 rfl rfl) (qp (.sl 1280 0 v1004.1.length) rfl ?_))
     obtain ⟨v1008, e1008, hF⟩ := bind_get hF
     refine qp (.ptr 1280 ((1 : Int).toNat) 0) (ev_iad_r rfl (by simp) rfl rfl e1008) (qp (AI v1008) (ev_ld_r rfl rfl (ix_some e1008).2 rfl rfl) ?_)
     refine qf (.agg [AI v1002.1, AS v1005, AS v1006, AI v1007, AI v1008]) [(1280, .row true 1 (v1004.1.map vI)), (192, .row true 1 (v1000.map V.str)), (0, .box [AI 0, AS [], AS [], AI 0, AI 0])] (by simp) ?_
     refine qf (.ptr 3264 0 0) [(3264, .box [AI 0, AS [], AS [], AI 0, AI 0]), (1280, .row true 1 (v1004.1.map vI)), (192, .row true 1 (v1000.map V.str)), (0, .box [AI 0, AS [], AS [], AI 0, AI 0])] (by simp) ?_
     refine qf0 (.undef) [(3264, .box [AI v1002.1, AS v1005, AS v1006, AI v1007, AI v1008]), (3264, .box [AI 0, AS [], AS [], AI 0, AI 0]), (1280, .row true 1 (v1004.1.map vI)), (192, .row true 1 (v1000.map V.str)), (0, .box [AI 0, AS [], AS [], AI 0, AI 0])] (by simp) ?_
     refine r_nil ?_
     refine w_seq ?_
     refine ws 3392 3520 ?_
     obtain ⟨v1009, e1009, hF⟩ := bind_get hF
     refine qc (AB v1009) [(3264, .box [AI v1002.1, AS v1005, AS v1006, AI v1007, AI v1008]), (3264, .box [AI 0, AS [], AS [], AI 0, AI 0]), (1280, .row true 1 (v1004.1.map vI)), (192, .row true 1 (v1000.map V.str)), (0, .box [AI 0, AS [], AS [], AI 0, AI 0])] true (con_spec_l28One e1009) c119_ok (by simp [List.take_of_length_le]) rfl ?_
     refine qp (AB (!v1009)) rfl ?_
     refine r_nil ?_
     refine cF hF (fun hF => ?_) fun hF => ?_
     ·
      refine ws 3520 3712 ?_
      refine qf (.agg [AI 0, AS [], AS [], AI 0, AI 0]) [(3264, .box [AI v1002.1, AS v1005, AS v1006, AI v1007, AI v1008]), (3264, .box [AI 0, AS [], AS [], AI 0, AI 0]), (1280, .row true 1 (v1004.1.map vI)), (192, .row true 1 (v1000.map V.str)), (0, .box [AI 0, AS [], AS [], AI 0, AI 0])] (by simp) ?_
      refine qf0 (.undef) [(0, .box [AI 0, AS [], AS [], AI 0, AI 0]), (3264, .box [AI v1002.1, AS v1005, AS v1006, AI v1007, AI v1008]), (3264, .box [AI 0, AS [], AS [], AI 0, AI 0]), (1280, .row true 1 (v1004.1.map vI)), (192, .row true 1 (v1000.map V.str)), (0, .box [AI 0, AS [], AS [], AI 0, AI 0])] (by simp) ?_
      refine qp (AB false) rfl ?_
      refine r_nil ?_
      refine w_ret ?_
      refine thenQ_r ?_
      cases hF
      exact eR
     ·
      refine w_skip ?_
      refine thenQ_n ?_
      refine ws 3520 3712 ?_
      refine qp (.agg [AI v1002.1, AS v1005, AS v1006, AI v1007, AI v1008]) rfl ?_
      refine qf0 (.undef) [(0, .box [AI v1002.1, AS v1005, AS v1006, AI v1007, AI v1008]), (3264, .box [AI v1002.1, AS v1005, AS v1006, AI v1007, AI v1008]), (3264, .box [AI 0, AS [], AS [], AI 0, AI 0]), (1280, .row true 1 (v1004.1.map vI)), (192, .row true 1 (v1000.map V.str)), (0, .box [AI 0, AS [], AS [], AI 0, AI 0])] (by simp) ?_
      refine qp (AB true) rfl ?_
      refine r_nil ?_
      refine w_ret ?_
      cases hF
      exact eR

def c26 : MC := (.seq (.reg [rg 2 (.f (.alloc [((.int .i64 0), (0, false)), ((.str []), (0, false)), ((.str []), (0, false)), ((.int .i64 0), (0, false)), ((.int .i64 0), (0, false))])), rg 3 (.p true (.mv (.c (.bool false))))]) (.seq (.reg [mvt 4 0, rg 5 (.call true 69 [(.t 4)]), rg 6 (.p true (.ext (.t 5) 0)), rg 7 (.p true (.ext (.t 5) 1)), ⟨none, none, (.f (.st (.t 2) (.t 6) 5))⟩, mvt 3 7]) .ret))
theorem c26_is : compFn Tryd.prog 26 = some (c26, [(.cell (.ld (.t 2) 5 true)), (.tmp 3)]) := by kernel_rfl
theorem c26_ok : okFn Tryd.prog 26 = true := by kernel_rfl

noncomputable def F_spec_ReadLesson (v0 : List UInt8) : Option (TLesson × Bool) :=
 ((F_spec_l28Read v0).bind fun v1000 => some (v1000.1, v1000.2))
@[simp] def res_spec_ReadLesson (r : TLesson × Bool) : RV := .tup [.one (.val (eLesson r.1)), .one (.val (.bool r.2))]
theorem con_spec_ReadLesson {v0 : List UInt8} {r : TLesson × Bool} (hF : F_spec_ReadLesson v0 = some r) : Con Tryd.prog 26 [.str v0] (res_spec_ReadLesson r) := by
 unfold F_spec_ReadLesson at hF
 refine con_of c26_is fun N => ?_
 refine ws 0 128 ?_
 refine qf (.ptr 0 0 0) [(0, .box [AI 0, AS [], AS [], AI 0, AI 0])] (by simp) ?_
 refine qp (AB false) rfl ?_
 refine r_nil ?_
 refine ws 128 512 ?_
 refine qp (AS v0) rfl ?_
 obtain ⟨v1000, e1000, hF⟩ := bind_get hF
 refine qc (.tup [.val none (eLesson v1000.1), AB v1000.2]) [(0, .box [AI 0, AS [], AS [], AI 0, AI 0])] false (con_spec_l28Read e1000) c69_ok (by first | rfl | simp) rfl ?_
 refine qp (.val none (eLesson v1000.1)) rfl (qp (AB v1000.2) rfl ?_)
 refine qf0 (.undef) [(0, .box [AI v1000.1.1, AS v1000.1.2.1, AS v1000.1.2.2.1, AI v1000.1.2.2.2.1, AI v1000.1.2.2.2.2]), (0, .box [AI 0, AS [], AS [], AI 0, AI 0])] (by simp) ?_
 refine qp (AB v1000.2) rfl ?_
 refine r_nil ?_
 refine w_ret ?_
 cases hF
 exact eR

theorem c67_ok : okFn Tryd.prog 67 = true := by kernel_rfl




theorem c70_ok : okFn Tryd.prog 70 = true := by kernel_rfl




theorem c74_ok : okFn Tryd.prog 74 = true := by kernel_rfl




def c103 : MC := (.seq (.reg [rg 6 (.p true (.mv (.c (.bool false))))]) (.seq (.reg [mvt 7 0, mvt 8 1, rg 9 (.p true (.bin .geq (.t 7) (.t 8))), mvt 10 9, ⟨(some 11), (some (10, true)), (.p true (.mv (.t 0)))⟩, ⟨(some 12), (some (10, true)), (.p true (.mv (.t 2)))⟩, ⟨(some 13), (some (10, true)), (.p true (.bin .leq (.t 11) (.t 12)))⟩, rg 14 (.p true (.pick (.t 10) (.t 13) (.c (.bool false)))), mvt 6 14]) .ret))
theorem c103_is : compFn Tryd.prog 103 = some (c103, [(.tmp 6)]) := by kernel_rfl
theorem c103_ok : okFn Tryd.prog 103 = true := by kernel_rfl

noncomputable def F_impl_within (v0 : Int) (v1 : Int) (v2 : Int) : Option (Bool) :=
 (bif (decide (v1 ≤ v0)) then some (decide (v0 ≤ v2))
 else some false)
@[simp] def res_impl_within (r : Bool) : RV := .one (.one (.val (.bool r)))
theorem con_impl_within {v0 : Int} {v1 : Int} {v2 : Int} {r : Bool} (hF : F_impl_within v0 v1 v2 = some r) : Con Tryd.prog 103 [.int .i64 v0, .int .i64 v1, .int .i64 v2] (res_impl_within r) := by
 unfold F_impl_within at hF
 refine con_of c103_is fun N => ?_
 refine ws 0 64 ?_
 refine qp (AB false) rfl ?_
 refine r_nil ?_
 refine ws 64 640 ?_
 refine qp (AI v0) rfl (qp (AI v1) rfl (qp (AB (decide (v1 ≤ v0))) rfl (qp (AB (decide (v1 ≤ v0))) rfl ?_)))
 refine q_case 10 hF rfl (fun hF => ?_) (fun hF => ?_)
 ·
  refine qg (AI v0) rfl rfl (qg (AI v2) rfl rfl (qg (AB (decide (v0 ≤ v2))) rfl rfl (qp (AB (decide (v0 ≤ v2))) rfl (qp (AB (decide (v0 ≤ v2))) rfl ?_))))
  refine r_nil ?_
  refine w_ret ?_
  cases hF
  exact eR
 ·
  refine qn rfl (qn rfl (qn rfl (qp (AB false) rfl (qp (AB false) rfl ?_))))
  refine r_nil ?_
  refine w_ret ?_
  cases hF
  exact eR

theorem c106_ok : okFn Tryd.prog 106 = true := by kernel_rfl




def c54 : MC := (.seq (.reg [rg 2 (.p true (.mv (.c (.str []))))]) (.seq (.reg [mvt 3 0, rg 4 (.call true 106 [(.t 3), (.c (.int .i64 10))]), mvt 2 4]) .ret))
theorem c54_is : compFn Tryd.prog 54 = some (c54, [(.tmp 2)]) := by kernel_rfl
theorem c54_ok : okFn Tryd.prog 54 = true := by kernel_rfl

noncomputable def F_impl_Decimal (v0 : Int) : Option (List UInt8) :=
 ((F_formatInt v0 10).bind fun v1000 => some v1000)
@[simp] def res_impl_Decimal (r : List UInt8) : RV := .one (.one (.val (.str r)))
theorem con_impl_Decimal {v0 : Int} {r : List UInt8} (hF : F_impl_Decimal v0 = some r) : Con Tryd.prog 54 [.int .i64 v0] (res_impl_Decimal r) := by
 unfold F_impl_Decimal at hF
 refine con_of c54_is fun N => ?_
 refine ws 0 64 ?_
 refine qp (AS []) rfl ?_
 refine r_nil ?_
 refine ws 64 256 ?_
 refine qp (AI v0) rfl ?_
 obtain ⟨v1000, e1000, hF⟩ := bind_get hF
 refine qc (AS v1000) [] false (con_formatInt e1000) c106_ok (by first | rfl | simp) rfl ?_
 refine qp (AS v1000) rfl ?_
 refine r_nil ?_
 refine w_ret ?_
 cases hF
 exact eR

theorem c53_ok : okFn Tryd.prog 53 = true := by kernel_rfl




def c123 : MC := (.seq (.reg [rg 2 (.p true (.mv (.c (.str []))))]) (.seq (.seq (.reg [mvt 6 0, rg 7 (.p true (.len (.t 6))), rg 8 (.p true (.bin .gtr (.t 7) (.c (.int .i64 64))))]) (.cond (.t 8) (.seq (.reg [rg 2 (.p true (.mv (.c (.str []))))]) .ret) .skip)) (.seq (.seq (.reg [mvt 9 0, rg 10 (.p true (.len (.t 9))), rg 11 (.p true (.bin .eql (.t 10) (.c (.int .i64 0))))]) (.cond (.t 11) (.seq (.reg [rg 2 (.p true (.mv (.c (.str [45]))))]) .ret) .skip)) (.seq (.reg [mvt 12 0, rg 13 (.p true (.len (.t 12))), rg 14 (.f (.mks 1 16 (.str []) (.c (.int .i64 0)) (.t 13))), mvt 3 14]) (.seq (.seq (.reg [mvt 15 0, rg 16 (.p true (.len (.t 15))), rg 17 (.p true (.mv (.c (.int .i64 0))))]) (.block 0 (.loop (.seq (.reg [rg 18 (.p true (.bin .lss (.t 17) (.t 16)))]) (.seq (.cond (.t 18) .skip (.exit 0)) (.seq (.block 1 (.seq (.reg [rg 19 (.p true (.iad (.t 15) (.t 17) 1)), rg 20 (.p true (.ld (.t 19) 1 false)), mvt 5 20]) (.seq (.seq (.reg [mvt 21 5, rg 22 (.call true 103 [(.t 21), (.c (.int .i64 (-1000000000000))), (.c (.int .i64 1000000000000))]), rg 23 (.p true (.not (.t 22)))]) (.cond (.t 23) (.seq (.reg [rg 2 (.p true (.mv (.c (.str []))))]) .ret) .skip)) (.reg [mvt 24 3, mvt 25 5, rg 26 (.call true 54 [(.t 25)]), rg 27 (.f (.bsl 1 [(.t 26)])), rg 28 (.f (.app (.t 24) (.t 27) 1 16 true)), mvt 3 28])))) (.reg [rg 29 (.p true (.bin .add (.t 17) (.c (.int .i64 1)))), mvt 17 29]))))))) (.seq (.reg [mvt 30 3, rg 31 (.call true 53 [(.t 30), (.c (.str [44]))]), mvt 2 31]) .ret))))))
theorem c123_is : compFn Tryd.prog 123 = some (c123, [(.tmp 2)]) := by kernel_rfl
theorem c123_ok : okFn Tryd.prog 123 = true := by kernel_rfl

noncomputable def F_impl_ListText_l0 (v0 : List Int) (k1 : Int × (List (List UInt8)) → Option (List UInt8)) : Int × (List (List UInt8)) → Option (List UInt8)
 | (v50006, v50007) => (bif (decide (v50006 < (v0.length : Int))) then ((ix v0 v50006).bind fun v1009 => ((F_impl_within v1009 (-1000000000000) 1000000000000).bind fun v1010 => (bif (!v1010) then some []
 else ((F_impl_Decimal v1009).bind fun v1011 => (need (room (v50007.length + [v1011].length) 16) (k1 (w64 (v50006 + 1), v50007 ++ [v1011])))))))
 else ((F_join v50007 [44]).bind fun v1013 => some v1013))
noncomputable def F_impl_ListText (v0 : List Int) : Option (List UInt8) :=
 (bif (decide ((64 : Int) < (v0.length : Int))) then some []
 else (bif (decide ((v0.length : Int) = (0 : Int))) then some [45]
 else (need (0 ≤ (0 : Int) ∧ (0 : Int) ≤ (v0.length : Int) ∧ (v0.length : Int) ≤ 9223372036854775807 ∧ 16 * (v0.length : Int) ≤ 281474976710656) (loop (F_impl_ListText_l0 v0) (0, List.replicate ((0 : Int)).toNat ([] : List UInt8))))))
@[simp] def res_impl_ListText (r : List UInt8) : RV := .one (.one (.val (.str r)))
theorem con_impl_ListText {v0 : List Int} {r : List UInt8} (hF : F_impl_ListText v0 = some r) : Con Tryd.prog 123 [.sl 1 (v0.map vI)] (res_impl_ListText r) := by
 unfold F_impl_ListText at hF
 refine con_of c123_is fun N => ?_
 refine ws 0 64 ?_
 refine qp (AS []) rfl ?_
 refine r_nil ?_
 refine w_seq ?_
 refine ws 64 256 ?_
 refine qp (AL 1 (v0.map vI)) rfl (qp (AI (v0.length : Int)) (ev_len_n rfl) (qp (AB (decide ((64 : Int) < (v0.length : Int)))) rfl ?_))
 refine r_nil ?_
 refine cF hF (fun hF => ?_) fun hF => ?_
 ·
  refine ws 256 320 ?_
  refine qp (AS []) rfl ?_
  refine r_nil ?_
  refine w_ret ?_
  refine thenQ_r ?_
  cases hF
  exact eR
 ·
  refine w_skip ?_
  refine thenQ_n ?_
  refine w_seq ?_
  refine ws 256 448 ?_
  refine qp (AL 1 (v0.map vI)) rfl (qp (AI (v0.length : Int)) (ev_len_n rfl) (qp (AB (decide ((v0.length : Int) = (0 : Int)))) rfl ?_))
  refine r_nil ?_
  refine cF hF (fun hF => ?_) fun hF => ?_
  ·
   refine ws 448 512 ?_
   refine qp (AS [45]) rfl ?_
   refine r_nil ?_
   refine w_ret ?_
   refine thenQ_r ?_
   cases hF
   exact eR
  ·
   refine w_skip ?_
   refine thenQ_n ?_
   refine ws 448 704 ?_
   refine qp (AL 1 (v0.map vI)) rfl (qp (AI (v0.length : Int)) (ev_len_n rfl) ?_)
   obtain ⟨g1000, hF⟩ := need_some hF
   refine qf (.sl 576 0 ((List.replicate ((0 : Int)).toNat ([] : List UInt8)).length)) [(576, .row true 1 ((List.replicate ((0 : Int)).toNat ([] : List UInt8)).map V.str))] (effT_mks rfl rfl g1000 rfl) ?_
   refine qp (.sl 576 0 ((List.replicate ((0 : Int)).toNat ([] : List UInt8)).length)) rfl ?_
   refine r_nil ?_
   refine w_seq ?_
   refine ws 704 896 ?_
   refine qp (AL 1 (v0.map vI)) rfl (qp (AI (v0.length : Int)) (ev_len_n rfl) (qp (AI 0) rfl ?_))
   refine r_nil ?_
   refine w_block ?_
   refine wr (l' := [(3, .sl 0 0 (List.replicate ((0 : Int)).toNat ([] : List UInt8)).length), (15, AL 1 (v0.map vI)), (16, AI (v0.length : Int)), (17, AI 0)]) (L := [(0, .row true 1 ((List.replicate ((0 : Int)).toNat ([] : List UInt8)).map V.str))]) [3, 15, 16, 17] [(576, 0)] 1 ?_
   refine w_loopF (F_impl_ListText_l0 v0) (fun s : Int × (List (List UInt8)) => mkS [(3, .sl 0 0 s.2.length), (15, AL 1 (v0.map vI)), (16, AI (v0.length : Int)), (17, AI s.1)] (fo [(0, .row true 1 (s.2.map V.str))]) 1) hF ?_
   rintro k1 ⟨v50006, v50007⟩ hF
   rw [F_impl_ListText_l0] at hF
   try dsimp only
   refine ws 1 65 ?_
   refine qp (AB (decide (v50006 < (v0.length : Int)))) rfl ?_
   refine r_nil ?_
   refine w_seq ?_
   refine cF hF (fun hF => ?_) fun hF => ?_
   ·
    refine w_skip ?_
    refine thenQ_n ?_
    refine w_seq ?_
    refine w_block ?_
    refine ws 65 257 ?_
    obtain ⟨v1009, e1009, hF⟩ := bind_get hF
    refine qp (.val none (.ptr [.int .i64 v1009])) (ev_iad_n rfl rfl e1009 rfl) (qp (AI v1009) rfl (qp (AI v1009) rfl ?_))
    refine r_nil ?_
    refine w_seq ?_
    refine ws 257 449 ?_
    refine qp (AI v1009) rfl ?_
    obtain ⟨v1010, e1010, hF⟩ := bind_get hF
    refine qc (AB v1010) [(0, .row true 1 (v50007.map V.str))] false (con_impl_within e1010) c103_ok (by first | rfl | simp) rfl ?_
    refine qp (AB (!v1010)) rfl ?_
    refine r_nil ?_
    refine cF hF (fun hF => ?_) fun hF => ?_
    ·
     refine ws 449 513 ?_
     refine qp (AS []) rfl ?_
     refine r_nil ?_
     refine w_ret ?_
     refine thenQ_r ?_
     refine blockQ_r ?_
     refine thenQ_r ?_
     refine thenQ_r ?_
     refine blockQ_r ?_
     refine thenQ_r ?_
     cases hF
     exact eR
    ·
     refine w_skip ?_
     refine thenQ_n ?_
     refine w_reg 449 833 rfl rfl ?_
     refine qp (.sl 0 0 v50007.length) rfl (qp (AI v1009) rfl ?_)
     obtain ⟨v1011, e1011, hF⟩ := bind_get hF
     refine qc (AS v1011) [(0, .row true 1 (v50007.map V.str))] false (con_impl_Decimal e1011) c54_ok (by first | rfl | simp) rfl ?_
     refine qf (.sl 641 0 ([v1011].length)) [(641, .row true 1 ([v1011].map V.str)), (0, .row true 1 (v50007.map V.str))] (by simp [List.take_of_length_le]) ?_
     obtain ⟨g1012, hF⟩ := need_some hF
     refine qf (.sl 705 0 ((v50007 ++ [v1011]).length)) [(705, .row true 1 ((v50007 ++ [v1011]).map V.str)), (0, .dead), (641, .dead), (641, .row true 1 ([v1011].map V.str)), (0, .row true 1 (v50007.map V.str))] (effT_app_l rfl (by simp) rfl rfl (by simp) rfl (by decide) g1012 rfl) ?_
     refine qp (.sl 705 0 ((v50007 ++ [v1011]).length)) rfl ?_
     refine r_nil ?_
     refine blockQ_n ?_
     refine thenQ_n ?_
     refine w_reg 833 961 rfl rfl ?_
     refine qp (AI (w64 (v50006 + 1))) rfl (qp (AI (w64 (v50006 + 1))) rfl ?_)
     refine r_nil ?_
     refine thenQ_n ?_
     refine ar (l' := [(3, .sl 0 0 (v50007 ++ [v1011]).length), (15, AL 1 (v0.map vI)), (16, AI (v0.length : Int)), (17, AI (w64 (v50006 + 1)))]) (L := [(0, .row true 1 ((v50007 ++ [v1011]).map V.str))]) [3, 15, 16, 17] [(705, 0)] 1 ⟨_, by rfl, hF⟩
   ·
    refine w_exit ?_
    refine thenQ_e ?_
    refine thenQ_e ?_
    refine blockQ_e ?_
    refine thenQ_n ?_
    refine ws 65 257 ?_
    refine qp (.sl 0 0 v50007.length) rfl ?_
    obtain ⟨v1013, e1013, hF⟩ := bind_get hF
    refine qc (AS v1013) [(0, .row true 1 (v50007.map V.str))] true (con_join e1013) c53_ok (by simp [List.take_of_length_le]) rfl ?_
    refine qp (AS v1013) rfl ?_
    refine r_nil ?_
    refine w_ret ?_
    cases hF
    exact eR

def c94 : MC := (.seq (.reg [rg 2 (.f (.nilrow 1)), rg 3 (.p true (.mv (.c (.bool false))))]) (.seq (.seq (.reg [mvt 9 0, rg 10 (.p true (.bin .eql (.t 9) (.c (.str [45]))))]) (.cond (.t 10) (.seq (.reg [rg 2 (.f (.nilrow 1)), rg 3 (.p true (.mv (.c (.bool true))))]) .ret) .skip)) (.seq (.reg [rg 4 (.f (.nilrow 1))]) (.seq (.seq (.reg [mvt 11 0, rg 12 (.call true 74 [(.t 11), (.c (.str [44])), (.c (.int .i64 65))]), rg 13 (.p true (.len (.t 12))), rg 14 (.p true (.mv (.c (.int .i64 0))))]) (.block 0 (.loop (.seq (.reg [rg 15 (.p true (.bin .lss (.t 14) (.t 13)))]) (.seq (.cond (.t 15) .skip (.exit 0)) (.seq (.block 1 (.seq (.reg [rg 16 (.p true (.iad (.t 12) (.t 14) 1)), rg 17 (.p true (.ld (.t 16) 1 false)), mvt 6 17]) (.seq (.reg [mvt 19 6, rg 20 (.call true 70 [(.t 19)]), mvt 18 20, rg 21 (.p true (.ext (.t 18) 0)), rg 22 (.p true (.ext (.t 18) 1)), mvt 7 21, mvt 8 22]) (.seq (.seq (.reg [mvt 23 8, rg 24 (.p true (.not (.t 23)))]) (.cond (.t 24) (.seq (.reg [rg 2 (.f (.nilrow 1)), rg 3 (.p true (.mv (.c (.bool false))))]) .ret) .skip)) (.reg [mvt 25 4, mvt 26 7, rg 27 (.f (.bsl 1 [(.t 26)])), rg 28 (.f (.app (.t 25) (.t 27) 1 8 true)), mvt 4 28]))))) (.reg [rg 29 (.p true (.bin .add (.t 14) (.c (.int .i64 1)))), mvt 14 29]))))))) (.seq (.seq (.reg [mvt 30 4, rg 31 (.call true 123 [(.t 30)]), mvt 32 0, rg 33 (.p true (.bin .neq (.t 31) (.t 32)))]) (.cond (.t 33) (.seq (.reg [rg 2 (.f (.nilrow 1)), rg 3 (.p true (.mv (.c (.bool false))))]) .ret) .skip)) (.seq (.reg [mvt 34 4, mvt 2 34, rg 3 (.p true (.mv (.c (.bool true))))]) .ret))))))
theorem c94_is : compFn Tryd.prog 94 = some (c94, [(.tmp 2), (.tmp 3)]) := by kernel_rfl
theorem c94_ok : okFn Tryd.prog 94 = true := by kernel_rfl

noncomputable def F_impl_ReadList_l0 (v0 : List UInt8) (v1000 : List (List UInt8)) (k1 : Int × (List Int) → Option ((List Int) × Bool)) : Int × (List Int) → Option ((List Int) × Bool)
 | (v50006, v50007) => (bif (decide (v50006 < (v1000.length : Int))) then ((ix v1000 v50006).bind fun v1007 => ((F_readDec v1007).bind fun v1008 => (bif (!v1008.2) then some ([], false)
 else (need (room (v50007.length + [v1008.1].length) 8) (k1 (w64 (v50006 + 1), v50007 ++ [v1008.1]))))))
 else ((F_impl_ListText v50007).bind fun v1010 => (bif (decide (v1010 ≠ v0)) then some ([], false)
 else some (v50007, true))))
noncomputable def F_impl_ReadList (v0 : List UInt8) : Option ((List Int) × Bool) :=
 (bif (decide (v0 = [45])) then some ([], true)
 else ((F_splitN v0 [44] 65).bind fun v1000 => loop (F_impl_ReadList_l0 v0 v1000) (0, [])))
@[simp] def res_impl_ReadList (r : (List Int) × Bool) : RV := .tup [.one (.row true 1 (r.1.map vI)), .one (.val (.bool r.2))]
theorem con_impl_ReadList {v0 : List UInt8} {r : (List Int) × Bool} (hF : F_impl_ReadList v0 = some r) : Con Tryd.prog 94 [.str v0] (res_impl_ReadList r) := by
 unfold F_impl_ReadList at hF
 refine con_of c94_is fun N => ?_
 refine ws 0 128 ?_
 refine qf (.sl 0 0 0) [(0, .row true 1 (([] : List Int).map vI))] (by simp) ?_
 refine qp (AB false) rfl ?_
 refine r_nil ?_
 refine w_seq ?_
 refine ws 128 256 ?_
 refine qp (AS v0) rfl (qp (AB (decide (v0 = [45]))) rfl ?_)
 refine r_nil ?_
 refine cF hF (fun hF => ?_) fun hF => ?_
 ·
  refine ws 256 384 ?_
  refine qf (.sl 256 0 0) [(256, .row true 1 (([] : List Int).map vI)), (0, .row true 1 (([] : List Int).map vI))] (by simp) ?_
  refine qp (AB true) rfl ?_
  refine r_nil ?_
  refine w_ret ?_
  refine thenQ_r ?_
  cases hF
  exact eR
 ·
  refine w_skip ?_
  refine thenQ_n ?_
  refine ws 256 320 ?_
  refine qf (.sl 256 0 0) [(256, .row true 1 (([] : List Int).map vI)), (0, .row true 1 (([] : List Int).map vI))] (by simp) ?_
  refine r_nil ?_
  refine w_seq ?_
  refine ws 320 576 ?_
  refine qp (AS v0) rfl ?_
  obtain ⟨v1000, e1000, hF⟩ := bind_get hF
  refine qc (.sl 384 0 v1000.length) [(384, .row true 1 (v1000.map V.str)), (256, .row true 1 (([] : List Int).map vI)), (0, .row true 1 (([] : List Int).map vI))] false (con_splitN e1000) c74_ok (by first | rfl | simp) (by simp [res_splitN]) ?_
  refine qp (AI (v1000.length : Int)) rfl (qp (AI 0) rfl ?_)
  refine r_nil ?_
  refine w_block ?_
  refine wr (l' := [(0, AS v0), (4, .sl 0 0 0), (12, .sl 1 0 v1000.length), (13, AI (v1000.length : Int)), (14, AI 0)]) (L := [(1, .row true 1 (v1000.map V.str)), (0, .row true 1 (([] : List Int).map vI))]) [0, 4, 12, 13, 14] [(384, 1), (256, 0)] 2 ?_
  refine w_loopF (F_impl_ReadList_l0 v0 v1000) (fun s : Int × (List Int) => mkS [(0, AS v0), (4, .sl 0 0 s.2.length), (12, .sl 1 0 v1000.length), (13, AI (v1000.length : Int)), (14, AI s.1)] (fo [(1, .row true 1 (v1000.map V.str)), (0, .row true 1 (s.2.map vI))]) 2) hF ?_
  rintro k1 ⟨v50006, v50007⟩ hF
  rw [F_impl_ReadList_l0] at hF
  try dsimp only
  refine ws 2 66 ?_
  refine qp (AB (decide (v50006 < (v1000.length : Int)))) rfl ?_
  refine r_nil ?_
  refine w_seq ?_
  refine cF hF (fun hF => ?_) fun hF => ?_
  ·
   refine w_skip ?_
   refine thenQ_n ?_
   refine w_seq ?_
   refine w_block ?_
   refine ws 66 258 ?_
   obtain ⟨v1007, e1007, hF⟩ := bind_get hF
   refine qp (.ptr 1 v50006.toNat 0) (ev_iad_r rfl (by simp) rfl rfl e1007) (qp (AS v1007) (ev_ld_r rfl rfl (ix_some e1007).2 rfl rfl) (qp (AS v1007) rfl ?_))
   refine r_nil ?_
   refine ws 258 706 ?_
   refine qp (AS v1007) rfl ?_
   obtain ⟨v1008, e1008, hF⟩ := bind_get hF
   refine qc (.tup [AI v1008.1, AB v1008.2]) [(1, .row true 1 (v1000.map V.str)), (0, .row true 1 (v50007.map vI))] false (con_readDec e1008) c70_ok (by first | rfl | simp) rfl ?_
   refine qp (.tup [AI v1008.1, AB v1008.2]) rfl (qp (AI v1008.1) rfl (qp (AB v1008.2) rfl (qp (AI v1008.1) rfl (qp (AB v1008.2) rfl ?_))))
   refine r_nil ?_
   refine w_seq ?_
   refine ws 706 834 ?_
   refine qp (AB v1008.2) rfl (qp (AB (!v1008.2)) rfl ?_)
   refine r_nil ?_
   refine cF hF (fun hF => ?_) fun hF => ?_
   ·
    refine ws 834 962 ?_
    refine qf (.sl 834 0 0) [(834, .row true 1 (([] : List Int).map vI)), (1, .row true 1 (v1000.map V.str)), (0, .row true 1 (v50007.map vI))] (by simp) ?_
    refine qp (AB false) rfl ?_
    refine r_nil ?_
    refine w_ret ?_
    refine thenQ_r ?_
    refine blockQ_r ?_
    refine thenQ_r ?_
    refine thenQ_r ?_
    refine blockQ_r ?_
    refine thenQ_r ?_
    cases hF
    exact eR
   ·
    refine w_skip ?_
    refine thenQ_n ?_
    refine w_reg 834 1154 rfl rfl ?_
    refine qp (.sl 0 0 v50007.length) rfl (qp (AI v1008.1) rfl ?_)
    refine qf (.sl 962 0 ([v1008.1].length)) [(962, .row true 1 ([v1008.1].map vI)), (1, .row true 1 (v1000.map V.str)), (0, .row true 1 (v50007.map vI))] (by simp [List.take_of_length_le]) ?_
    obtain ⟨g1009, hF⟩ := need_some hF
    refine qf (.sl 1026 0 ((v50007 ++ [v1008.1]).length)) [(1026, .row true 1 ((v50007 ++ [v1008.1]).map vI)), (0, .dead), (962, .dead), (962, .row true 1 ([v1008.1].map vI)), (1, .row true 1 (v1000.map V.str)), (0, .row true 1 (v50007.map vI))] (effT_app_l rfl (by simp) rfl rfl (by simp) rfl (by decide) g1009 rfl) ?_
    refine qp (.sl 1026 0 ((v50007 ++ [v1008.1]).length)) rfl ?_
    refine r_nil ?_
    refine blockQ_n ?_
    refine thenQ_n ?_
    refine w_reg 1154 1282 rfl rfl ?_
    refine qp (AI (w64 (v50006 + 1))) rfl (qp (AI (w64 (v50006 + 1))) rfl ?_)
    refine r_nil ?_
    refine thenQ_n ?_
    refine ar (l' := [(0, AS v0), (4, .sl 0 0 (v50007 ++ [v1008.1]).length), (12, .sl 1 0 v1000.length), (13, AI (v1000.length : Int)), (14, AI (w64 (v50006 + 1)))]) (L := [(1, .row true 1 (v1000.map V.str)), (0, .row true 1 ((v50007 ++ [v1008.1]).map vI))]) [0, 4, 12, 13, 14] [(1, 1), (1026, 0)] 2 ⟨_, by rfl, hF⟩
  ·
   refine w_exit ?_
   refine thenQ_e ?_
   refine thenQ_e ?_
   refine blockQ_e ?_
   refine thenQ_n ?_
   refine w_seq ?_
   refine ws 66 322 ?_
   refine qp (.sl 0 0 v50007.length) rfl ?_
   obtain ⟨v1010, e1010, hF⟩ := bind_get hF
   refine qc (AS v1010) [(1, .row true 1 (v1000.map V.str)), (0, .row true 1 (v50007.map vI))] true (con_impl_ListText e1010) c123_ok (by simp [List.take_of_length_le]) rfl ?_
   refine qp (AS v0) rfl (qp (AB (decide (v1010 ≠ v0))) rfl ?_)
   refine r_nil ?_
   refine cF hF (fun hF => ?_) fun hF => ?_
   ·
    refine ws 322 450 ?_
    refine qf (.sl 322 0 0) [(322, .row true 1 (([] : List Int).map vI)), (1, .row true 1 (v1000.map V.str)), (0, .row true 1 (v50007.map vI))] (by simp) ?_
    refine qp (AB false) rfl ?_
    refine r_nil ?_
    refine w_ret ?_
    refine thenQ_r ?_
    cases hF
    exact eR
   ·
    refine w_skip ?_
    refine thenQ_n ?_
    refine ws 322 514 ?_
    refine qp (.sl 0 0 v50007.length) rfl (qp (.sl 0 0 v50007.length) rfl (qp (AB true) rfl ?_))
    refine r_nil ?_
    refine w_ret ?_
    cases hF
    exact eR

def c71 : MC := (.seq (.reg [rg 4 (.f (.nilrow 1)), rg 5 (.p true (.mv (.c (.bool false))))]) (.seq (.reg [mvt 9 0, rg 10 (.call true 94 [(.t 9)]), mvt 8 10, rg 11 (.p true (.ext (.t 8) 0)), rg 12 (.p true (.ext (.t 8) 1)), mvt 6 11, mvt 7 12]) (.seq (.seq (.reg [mvt 13 7, rg 14 (.p true (.not (.t 13))), mvt 15 14, ⟨(some 16), (some (15, false)), (.p true (.mv (.t 6)))⟩, ⟨(some 17), (some (15, false)), (.p true (.len (.t 16)))⟩, ⟨(some 18), (some (15, false)), (.p true (.mv (.t 1)))⟩, ⟨(some 19), (some (15, false)), (.p true (.bin .neq (.t 17) (.t 18)))⟩, rg 20 (.p true (.pick (.t 15) (.c (.bool true)) (.t 19)))]) (.cond (.t 20) (.seq (.reg [mvt 21 1, rg 22 (.f (.mks 1 8 (.int .i64 0) (.t 21) (.t 21))), mvt 4 22, rg 5 (.p true (.mv (.c (.bool false))))]) .ret) .skip)) (.seq (.reg [mvt 23 6, mvt 4 23, rg 5 (.p true (.mv (.c (.bool true))))]) .ret))))
theorem c71_is : compFn Tryd.prog 71 = some (c71, [(.tmp 4), (.tmp 5)]) := by kernel_rfl
theorem c71_ok : okFn Tryd.prog 71 = true := by kernel_rfl

noncomputable def F_impl_readNumbers (v0 : List UInt8) (v1 : Int) : Option ((List Int) × Bool) :=
 ((F_impl_ReadList v0).bind fun v1000 => (bif (!v1000.2) then (need (0 ≤ v1 ∧ v1 ≤ v1 ∧ v1 ≤ 9223372036854775807 ∧ 8 * v1 ≤ 281474976710656) (some (List.replicate (v1).toNat (0 : Int), false)))
 else (bif (decide ((v1000.1.length : Int) ≠ v1)) then (need (0 ≤ v1 ∧ v1 ≤ v1 ∧ v1 ≤ 9223372036854775807 ∧ 8 * v1 ≤ 281474976710656) (some (List.replicate (v1).toNat (0 : Int), false)))
 else some (v1000.1, true))))
@[simp] def res_impl_readNumbers (r : (List Int) × Bool) : RV := .tup [.one (.row true 1 (r.1.map vI)), .one (.val (.bool r.2))]
theorem con_impl_readNumbers {v0 : List UInt8} {v1 : Int} {r : (List Int) × Bool} (hF : F_impl_readNumbers v0 v1 = some r) : Con Tryd.prog 71 [.str v0, .int .i64 v1] (res_impl_readNumbers r) := by
 unfold F_impl_readNumbers at hF
 refine con_of c71_is fun N => ?_
 refine ws 0 128 ?_
 refine qf (.sl 0 0 0) [(0, .row true 1 (([] : List Int).map vI))] (by simp) ?_
 refine qp (AB false) rfl ?_
 refine r_nil ?_
 refine ws 128 576 ?_
 refine qp (AS v0) rfl ?_
 obtain ⟨v1000, e1000, hF⟩ := bind_get hF
 refine qc (.tup [.sl 192 0 v1000.1.length, AB v1000.2]) [(192, .row true 1 (v1000.1.map vI)), (0, .row true 1 (([] : List Int).map vI))] false (con_impl_ReadList e1000) c94_ok (by first | rfl | simp) (by simp [res_impl_ReadList]) ?_
 refine qp (.tup [.sl 192 0 v1000.1.length, AB v1000.2]) rfl (qp (.sl 192 0 v1000.1.length) rfl (qp (AB v1000.2) rfl (qp (.sl 192 0 v1000.1.length) rfl (qp (AB v1000.2) rfl ?_))))
 refine r_nil ?_
 refine w_seq ?_
 refine ws 576 1088 ?_
 refine qp (AB v1000.2) rfl (qp (AB (!v1000.2)) rfl (qp (AB (!v1000.2)) rfl ?_))
 refine q_case 15 hF rfl (fun hF => ?_) (fun hF => ?_)
 ·
  refine qn rfl (qn rfl (qn rfl (qn rfl (qp (AB true) rfl ?_))))
  refine r_nil ?_
  refine w_true rfl ?_
  refine ws 1088 1344 ?_
  refine qp (AI v1) rfl ?_
  obtain ⟨g1001, hF⟩ := need_some hF
  refine qf (.sl 1152 0 ((List.replicate (v1).toNat (0 : Int)).length)) [(1152, .row true 1 ((List.replicate (v1).toNat (0 : Int)).map vI)), (192, .row true 1 (v1000.1.map vI)), (0, .row true 1 (([] : List Int).map vI))] (effT_mks rfl rfl g1001 rfl) ?_
  refine qp (.sl 1152 0 ((List.replicate (v1).toNat (0 : Int)).length)) rfl (qp (AB false) rfl ?_)
  refine r_nil ?_
  refine w_ret ?_
  refine thenQ_r ?_
  cases hF
  exact eR
 ·
  refine qg (.sl 192 0 v1000.1.length) rfl rfl (qg (AI (v1000.1.length : Int)) rfl rfl (qg (AI v1) rfl rfl (qg (AB (decide ((v1000.1.length : Int) ≠ v1))) rfl rfl (qp (AB (decide ((v1000.1.length : Int) ≠ v1))) rfl ?_))))
  refine r_nil ?_
  refine cF hF (fun hF => ?_) fun hF => ?_
  ·
   refine ws 1088 1344 ?_
   refine qp (AI v1) rfl ?_
   obtain ⟨g1002, hF⟩ := need_some hF
   refine qf (.sl 1152 0 ((List.replicate (v1).toNat (0 : Int)).length)) [(1152, .row true 1 ((List.replicate (v1).toNat (0 : Int)).map vI)), (192, .row true 1 (v1000.1.map vI)), (0, .row true 1 (([] : List Int).map vI))] (effT_mks rfl rfl g1002 rfl) ?_
   refine qp (.sl 1152 0 ((List.replicate (v1).toNat (0 : Int)).length)) rfl (qp (AB false) rfl ?_)
   refine r_nil ?_
   refine w_ret ?_
   refine thenQ_r ?_
   cases hF
   exact eR
  ·
   refine w_skip ?_
   refine thenQ_n ?_
   refine ws 1088 1280 ?_
   refine qp (.sl 192 0 v1000.1.length) rfl (qp (.sl 192 0 v1000.1.length) rfl (qp (AB true) rfl ?_))
   refine r_nil ?_
   refine w_ret ?_
   cases hF
   exact eR

def c137 : MC := (.seq (.reg [rg 2 (.p true (.mv (.c (.bool false))))]) (.seq (.seq (.reg [mvt 5 0, rg 6 (.p true (.lens (.t 5))), rg 7 (.p true (.mv (.c (.int .i64 0))))]) (.block 0 (.loop (.seq (.reg [rg 8 (.p true (.bin .lss (.t 7) (.t 6)))]) (.seq (.cond (.t 8) .skip (.exit 0)) (.seq (.block 1 (.seq (.reg [mvt 9 7, mvt 3 9]) (.seq (.reg [mvt 10 0, mvt 11 3, rg 12 (.p true (.ixs (.t 10) (.t 11))), mvt 4 12]) (.seq (.reg [mvt 13 4, rg 14 (.p true (.bin .lss (.t 13) (.c (.int .u8 97)))), mvt 15 14, ⟨(some 16), (some (15, false)), (.p true (.mv (.t 4)))⟩, ⟨(some 17), (some (15, false)), (.p true (.bin .gtr (.t 16) (.c (.int .u8 122))))⟩, rg 18 (.p true (.pick (.t 15) (.c (.bool true)) (.t 17))), mvt 19 18, ⟨(some 20), (some (19, true)), (.p true (.mv (.t 4)))⟩, ⟨(some 21), (some (19, true)), (.p true (.bin .lss (.t 20) (.c (.int .u8 48))))⟩, ⟨(some 22), (some (19, true)), (.p true (.mv (.t 21)))⟩, ⟨(some 23), (some (22, false)), (.p true (.mv (.t 4)))⟩, ⟨(some 24), (some (22, false)), (.p true (.bin .gtr (.t 23) (.c (.int .u8 57))))⟩, ⟨(some 25), (some (19, true)), (.p true (.pick (.t 22) (.c (.bool true)) (.t 24)))⟩, rg 26 (.p true (.pick (.t 19) (.t 25) (.c (.bool false))))]) (.cond (.t 26) (.seq (.reg [rg 2 (.p true (.mv (.c (.bool false))))]) .ret) .skip))))) (.reg [rg 27 (.p true (.bin .add (.t 7) (.c (.int .i64 1)))), mvt 7 27]))))))) (.seq (.reg [rg 2 (.p true (.mv (.c (.bool true))))]) .ret)))
theorem c137_is : compFn Tryd.prog 137 = some (c137, [(.tmp 2)]) := by kernel_rfl
theorem c137_ok : okFn Tryd.prog 137 = true := by kernel_rfl

noncomputable def F_impl_onlyNameBytes_l0 (v0 : List UInt8) (k0 : Int → Option (Bool)) : Int → Option (Bool)
 | v50001 => (bif (decide (v50001 < (v0.length : Int))) then ((ix v0 v50001).bind fun v1000 => (bif (decide ((v1000.toNat : Int) < (97 : Int))) then (bif (decide ((v1000.toNat : Int) < (48 : Int))) then some false
 else (bif (decide ((57 : Int) < (v1000.toNat : Int))) then some false
 else k0 (w64 (v50001 + 1))))
 else (bif (decide ((122 : Int) < (v1000.toNat : Int))) then (bif (decide ((v1000.toNat : Int) < (48 : Int))) then some false
 else (bif (decide ((57 : Int) < (v1000.toNat : Int))) then some false
 else k0 (w64 (v50001 + 1))))
 else k0 (w64 (v50001 + 1)))))
 else some true)
noncomputable def F_impl_onlyNameBytes (v0 : List UInt8) : Option (Bool) :=
 loop (F_impl_onlyNameBytes_l0 v0) 0
@[simp] def res_impl_onlyNameBytes (r : Bool) : RV := .one (.one (.val (.bool r)))
theorem con_impl_onlyNameBytes {v0 : List UInt8} {r : Bool} (hF : F_impl_onlyNameBytes v0 = some r) : Con Tryd.prog 137 [.str v0] (res_impl_onlyNameBytes r) := by
 unfold F_impl_onlyNameBytes at hF
 refine con_of c137_is fun N => ?_
 refine ws 0 64 ?_
 refine qp (AB false) rfl ?_
 refine r_nil ?_
 refine w_seq ?_
 refine ws 64 256 ?_
 refine qp (AS v0) rfl (qp (AI (v0.length : Int)) rfl (qp (AI 0) rfl ?_))
 refine r_nil ?_
 refine w_block ?_
 refine wr (l' := [(0, AS v0), (6, AI (v0.length : Int)), (7, AI 0)]) (L := []) [0, 6, 7] [] 1 ?_
 refine w_loopF (F_impl_onlyNameBytes_l0 v0) (fun s : Int => mkS [(0, AS v0), (6, AI (v0.length : Int)), (7, AI s)] (fo []) 1) hF ?_
 rintro k0 v50001 hF
 rw [F_impl_onlyNameBytes_l0] at hF
 try dsimp only
 refine ws 1 65 ?_
 refine qp (AB (decide (v50001 < (v0.length : Int)))) rfl ?_
 refine r_nil ?_
 refine w_seq ?_
 refine cF hF (fun hF => ?_) fun hF => ?_
 ·
  refine w_skip ?_
  refine thenQ_n ?_
  refine w_seq ?_
  refine w_block ?_
  refine ws 65 193 ?_
  refine qp (AI v50001) rfl (qp (AI v50001) rfl ?_)
  refine r_nil ?_
  refine ws 193 449 ?_
  refine qp (AS v0) rfl (qp (AI v50001) rfl ?_)
  obtain ⟨v1000, e1000, hF⟩ := bind_get hF
  refine qp (.val none (.int .u8 (v1000.toNat : Int))) (ev_ixs rfl rfl e1000) (qp (.val none (.int .u8 (v1000.toNat : Int))) rfl ?_)
  refine r_nil ?_
  refine ws 449 1345 ?_
  refine qp (.val none (.int .u8 (v1000.toNat : Int))) rfl (qp (AB (decide ((v1000.toNat : Int) < (97 : Int)))) rfl (qp (AB (decide ((v1000.toNat : Int) < (97 : Int)))) rfl ?_))
  refine q_case 15 hF rfl (fun hF => ?_) (fun hF => ?_)
  ·
   refine qn rfl (qn rfl (qp (AB true) rfl (qp (AB true) rfl (qg (.val none (.int .u8 (v1000.toNat : Int))) rfl rfl (qg (AB (decide ((v1000.toNat : Int) < (48 : Int)))) rfl rfl (qg (AB (decide ((v1000.toNat : Int) < (48 : Int)))) rfl rfl ?_))))))
   refine q_case 22 hF rfl (fun hF => ?_) (fun hF => ?_)
   ·
    refine qn rfl (qn rfl (qg (AB true) rfl rfl (qp (AB true) rfl ?_)))
    refine r_nil ?_
    refine w_true rfl ?_
    refine ws 1345 1409 ?_
    refine qp (AB false) rfl ?_
    refine r_nil ?_
    refine w_ret ?_
    refine blockQ_r ?_
    refine thenQ_r ?_
    refine thenQ_r ?_
    refine blockQ_r ?_
    refine thenQ_r ?_
    cases hF
    exact eR
   ·
    refine qg (.val none (.int .u8 (v1000.toNat : Int))) rfl rfl (qg (AB (decide ((57 : Int) < (v1000.toNat : Int)))) rfl rfl (qg (AB (decide ((57 : Int) < (v1000.toNat : Int)))) rfl rfl (qp (AB (decide ((57 : Int) < (v1000.toNat : Int)))) rfl ?_)))
    refine r_nil ?_
    refine cF hF (fun hF => ?_) fun hF => ?_
    ·
     refine ws 1345 1409 ?_
     refine qp (AB false) rfl ?_
     refine r_nil ?_
     refine w_ret ?_
     refine blockQ_r ?_
     refine thenQ_r ?_
     refine thenQ_r ?_
     refine blockQ_r ?_
     refine thenQ_r ?_
     cases hF
     exact eR
    ·
     refine w_skip ?_
     refine blockQ_n ?_
     refine thenQ_n ?_
     refine w_reg 1345 1473 rfl rfl ?_
     refine qp (AI (w64 (v50001 + 1))) rfl (qp (AI (w64 (v50001 + 1))) rfl ?_)
     refine r_nil ?_
     refine thenQ_n ?_
     refine ar (l' := [(0, AS v0), (6, AI (v0.length : Int)), (7, AI (w64 (v50001 + 1)))]) (L := []) [0, 6, 7] [] 1 ⟨_, by rfl, hF⟩
  ·
   refine qg (.val none (.int .u8 (v1000.toNat : Int))) rfl rfl (qg (AB (decide ((122 : Int) < (v1000.toNat : Int)))) rfl rfl (qp (AB (decide ((122 : Int) < (v1000.toNat : Int)))) rfl (qp (AB (decide ((122 : Int) < (v1000.toNat : Int)))) rfl ?_)))
   refine q_case 19 hF rfl (fun hF => ?_) (fun hF => ?_)
   ·
    refine qg (.val none (.int .u8 (v1000.toNat : Int))) rfl rfl (qg (AB (decide ((v1000.toNat : Int) < (48 : Int)))) rfl rfl (qg (AB (decide ((v1000.toNat : Int) < (48 : Int)))) rfl rfl ?_))
    refine q_case 22 hF rfl (fun hF => ?_) (fun hF => ?_)
    ·
     refine qn rfl (qn rfl (qg (AB true) rfl rfl (qp (AB true) rfl ?_)))
     refine r_nil ?_
     refine w_true rfl ?_
     refine ws 1345 1409 ?_
     refine qp (AB false) rfl ?_
     refine r_nil ?_
     refine w_ret ?_
     refine blockQ_r ?_
     refine thenQ_r ?_
     refine thenQ_r ?_
     refine blockQ_r ?_
     refine thenQ_r ?_
     cases hF
     exact eR
    ·
     refine qg (.val none (.int .u8 (v1000.toNat : Int))) rfl rfl (qg (AB (decide ((57 : Int) < (v1000.toNat : Int)))) rfl rfl (qg (AB (decide ((57 : Int) < (v1000.toNat : Int)))) rfl rfl (qp (AB (decide ((57 : Int) < (v1000.toNat : Int)))) rfl ?_)))
     refine r_nil ?_
     refine cF hF (fun hF => ?_) fun hF => ?_
     ·
      refine ws 1345 1409 ?_
      refine qp (AB false) rfl ?_
      refine r_nil ?_
      refine w_ret ?_
      refine blockQ_r ?_
      refine thenQ_r ?_
      refine thenQ_r ?_
      refine blockQ_r ?_
      refine thenQ_r ?_
      cases hF
      exact eR
     ·
      refine w_skip ?_
      refine blockQ_n ?_
      refine thenQ_n ?_
      refine w_reg 1345 1473 rfl rfl ?_
      refine qp (AI (w64 (v50001 + 1))) rfl (qp (AI (w64 (v50001 + 1))) rfl ?_)
      refine r_nil ?_
      refine thenQ_n ?_
      refine ar (l' := [(0, AS v0), (6, AI (v0.length : Int)), (7, AI (w64 (v50001 + 1)))]) (L := []) [0, 6, 7] [] 1 ⟨_, by rfl, hF⟩
   ·
    refine qn rfl (qn rfl (qn rfl (qu rfl (qu rfl (qn rfl (qp (AB false) rfl ?_))))))
    refine r_nil ?_
    refine w_false rfl ?_
    refine w_skip ?_
    refine blockQ_n ?_
    refine thenQ_n ?_
    refine w_reg 1345 1473 rfl rfl ?_
    refine qp (AI (w64 (v50001 + 1))) rfl (qp (AI (w64 (v50001 + 1))) rfl ?_)
    refine r_nil ?_
    refine thenQ_n ?_
    refine ar (l' := [(0, AS v0), (6, AI (v0.length : Int)), (7, AI (w64 (v50001 + 1)))]) (L := []) [0, 6, 7] [] 1 ⟨_, by rfl, hF⟩
 ·
  refine w_exit ?_
  refine thenQ_e ?_
  refine thenQ_e ?_
  refine blockQ_e ?_
  refine thenQ_n ?_
  refine ws 65 129 ?_
  refine qp (AB true) rfl ?_
  refine r_nil ?_
  refine w_ret ?_
  cases hF
  exact eR

def c102 : MC := (.seq (.reg [rg 2 (.p true (.mv (.c (.bool false))))]) (.seq (.seq (.reg [mvt 3 0, rg 4 (.p true (.lens (.t 3))), rg 5 (.p true (.bin .lss (.t 4) (.c (.int .i64 1)))), mvt 6 5, ⟨(some 7), (some (6, false)), (.p true (.mv (.t 0)))⟩, ⟨(some 8), (some (6, false)), (.p true (.lens (.t 7)))⟩, ⟨(some 9), (some (6, false)), (.p true (.bin .gtr (.t 8) (.c (.int .i64 10))))⟩, rg 10 (.p true (.pick (.t 6) (.c (.bool true)) (.t 9))), mvt 11 10, ⟨(some 12), (some (11, false)), (.p true (.mv (.t 0)))⟩, ⟨(some 13), (some (11, false)), (.p true (.ixs (.t 12) (.c (.int .i64 0))))⟩, ⟨(some 14), (some (11, false)), (.p true (.bin .lss (.t 13) (.c (.int .u8 97))))⟩, rg 15 (.p true (.pick (.t 11) (.c (.bool true)) (.t 14))), mvt 16 15, ⟨(some 17), (some (16, false)), (.p true (.mv (.t 0)))⟩, ⟨(some 18), (some (16, false)), (.p true (.ixs (.t 17) (.c (.int .i64 0))))⟩, ⟨(some 19), (some (16, false)), (.p true (.bin .gtr (.t 18) (.c (.int .u8 122))))⟩, rg 20 (.p true (.pick (.t 16) (.c (.bool true)) (.t 19)))]) (.cond (.t 20) (.seq (.reg [rg 2 (.p true (.mv (.c (.bool false))))]) .ret) .skip)) (.seq (.reg [mvt 21 0, rg 22 (.call true 137 [(.t 21)]), mvt 2 22]) .ret)))
theorem c102_is : compFn Tryd.prog 102 = some (c102, [(.tmp 2)]) := by kernel_rfl
theorem c102_ok : okFn Tryd.prog 102 = true := by kernel_rfl

noncomputable def F_impl_IsName (v0 : List UInt8) : Option (Bool) :=
 (bif (decide ((v0.length : Int) < (1 : Int))) then some false
 else (bif (decide ((10 : Int) < (v0.length : Int))) then some false
 else ((ix v0 0).bind fun v1000 => (bif (decide ((v1000.toNat : Int) < (97 : Int))) then some false
 else ((ix v0 0).bind fun v1001 => (bif (decide ((122 : Int) < (v1001.toNat : Int))) then some false
 else ((F_impl_onlyNameBytes v0).bind fun v1002 => some v1002)))))))
@[simp] def res_impl_IsName (r : Bool) : RV := .one (.one (.val (.bool r)))
theorem con_impl_IsName {v0 : List UInt8} {r : Bool} (hF : F_impl_IsName v0 = some r) : Con Tryd.prog 102 [.str v0] (res_impl_IsName r) := by
 unfold F_impl_IsName at hF
 refine con_of c102_is fun N => ?_
 refine ws 0 64 ?_
 refine qp (AB false) rfl ?_
 refine r_nil ?_
 refine w_seq ?_
 refine ws 64 1216 ?_
 refine qp (AS v0) rfl (qp (AI (v0.length : Int)) rfl (qp (AB (decide ((v0.length : Int) < (1 : Int)))) rfl (qp (AB (decide ((v0.length : Int) < (1 : Int)))) rfl ?_)))
 refine q_case 6 hF rfl (fun hF => ?_) (fun hF => ?_)
 ·
  refine qn rfl (qn rfl (qn rfl (qp (AB true) rfl (qp (AB true) rfl (qn rfl (qn rfl (qn rfl ?_)))))))
  refine qp (AB true) rfl (qp (AB true) rfl (qn rfl (qn rfl (qn rfl (qp (AB true) rfl ?_)))))
  refine r_nil ?_
  refine w_true rfl ?_
  refine ws 1216 1280 ?_
  refine qp (AB false) rfl ?_
  refine r_nil ?_
  refine w_ret ?_
  refine thenQ_r ?_
  cases hF
  exact eR
 ·
  refine qg (AS v0) rfl rfl (qg (AI (v0.length : Int)) rfl rfl (qg (AB (decide ((10 : Int) < (v0.length : Int)))) rfl rfl (qp (AB (decide ((10 : Int) < (v0.length : Int)))) rfl (qp (AB (decide ((10 : Int) < (v0.length : Int)))) rfl ?_))))
  refine q_case 11 hF rfl (fun hF => ?_) (fun hF => ?_)
  ·
   refine qn rfl (qn rfl (qn rfl (qp (AB true) rfl (qp (AB true) rfl (qn rfl (qn rfl (qn rfl ?_)))))))
   refine qp (AB true) rfl ?_
   refine r_nil ?_
   refine w_true rfl ?_
   refine ws 1216 1280 ?_
   refine qp (AB false) rfl ?_
   refine r_nil ?_
   refine w_ret ?_
   refine thenQ_r ?_
   cases hF
   exact eR
  ·
   refine qg (AS v0) rfl rfl ?_
   obtain ⟨v1000, e1000, hF⟩ := bind_get hF
   refine qg (.val none (.int .u8 (v1000.toNat : Int))) rfl (ev_ixs rfl rfl e1000) (qg (AB (decide ((v1000.toNat : Int) < (97 : Int)))) rfl rfl (qp (AB (decide ((v1000.toNat : Int) < (97 : Int)))) rfl (qp (AB (decide ((v1000.toNat : Int) < (97 : Int)))) rfl ?_)))
   refine q_case 16 hF rfl (fun hF => ?_) (fun hF => ?_)
   ·
    refine qn rfl (qn rfl (qn rfl (qp (AB true) rfl ?_)))
    refine r_nil ?_
    refine w_true rfl ?_
    refine ws 1216 1280 ?_
    refine qp (AB false) rfl ?_
    refine r_nil ?_
    refine w_ret ?_
    refine thenQ_r ?_
    cases hF
    exact eR
   ·
    refine qg (AS v0) rfl rfl ?_
    obtain ⟨v1001, e1001, hF⟩ := bind_get hF
    refine qg (.val none (.int .u8 (v1001.toNat : Int))) rfl (ev_ixs rfl rfl e1001) (qg (AB (decide ((122 : Int) < (v1001.toNat : Int)))) rfl rfl (qp (AB (decide ((122 : Int) < (v1001.toNat : Int)))) rfl ?_))
    refine r_nil ?_
    refine cF hF (fun hF => ?_) fun hF => ?_
    ·
     refine ws 1216 1280 ?_
     refine qp (AB false) rfl ?_
     refine r_nil ?_
     refine w_ret ?_
     refine thenQ_r ?_
     cases hF
     exact eR
    ·
     refine w_skip ?_
     refine thenQ_n ?_
     refine ws 1216 1408 ?_
     refine qp (AS v0) rfl ?_
     obtain ⟨v1002, e1002, hF⟩ := bind_get hF
     refine qc (AB v1002) [] false (con_impl_onlyNameBytes e1002) c137_ok (by first | rfl | simp) rfl ?_
     refine qp (AB v1002) rfl ?_
     refine r_nil ?_
     refine w_ret ?_
     cases hF
     exact eR

def c122 : MC := (.seq (.reg [rg 1 (.f (.box (.t 0))), rg 2 (.p true (.mv (.c (.bool false))))]) (.seq (.reg [rg 3 (.p true (.fad (.t 1) 0)), rg 4 (.p true (.ld (.t 3) 1 false)), rg 5 (.call true 103 [(.t 4), (.c (.int .i64 0)), (.c (.int .i64 100000))]), mvt 6 5, ⟨(some 7), (some (6, true)), (.p true (.fad (.t 1) 1))⟩, ⟨(some 8), (some (6, true)), (.p true (.ld (.t 7) 1 false))⟩, ⟨(some 9), (some (6, true)), (.call true 102 [(.t 8)])⟩, rg 10 (.p true (.pick (.t 6) (.t 9) (.c (.bool false)))), mvt 11 10, ⟨(some 12), (some (11, true)), (.p true (.fad (.t 1) 2))⟩, ⟨(some 13), (some (11, true)), (.p true (.ld (.t 12) 1 false))⟩, ⟨(some 14), (some (11, true)), (.call true 102 [(.t 13)])⟩, rg 15 (.p true (.pick (.t 11) (.t 14) (.c (.bool false)))), mvt 16 15, ⟨(some 17), (some (16, true)), (.p true (.fad (.t 1) 3))⟩, ⟨(some 18), (some (16, true)), (.p true (.ld (.t 17) 1 false))⟩, ⟨(some 19), (some (16, true)), (.call true 103 [(.t 18), (.c (.int .i64 1)), (.c (.int .i64 480))])⟩, rg 20 (.p true (.pick (.t 16) (.t 19) (.c (.bool false)))), mvt 21 20, ⟨(some 22), (some (21, true)), (.p true (.fad (.t 1) 4))⟩, ⟨(some 23), (some (21, true)), (.p true (.ld (.t 22) 1 false))⟩, ⟨(some 24), (some (21, true)), (.call true 103 [(.t 23), (.c (.int .i64 0)), (.c (.int .i64 100))])⟩, rg 25 (.p true (.pick (.t 21) (.t 24) (.c (.bool false)))), mvt 2 25]) .ret))
theorem c122_is : compFn Tryd.prog 122 = some (c122, [(.tmp 2)]) := by kernel_rfl
theorem c122_ok : okFn Tryd.prog 122 = true := by kernel_rfl

noncomputable def F_impl_Lesson_valid (v0 : TLesson) : Option (Bool) :=
 ((F_impl_within v0.1 0 100000).bind fun v1000 => (bif v1000 then ((F_impl_IsName v0.2.1).bind fun v1001 => (bif v1001 then ((F_impl_IsName v0.2.2.1).bind fun v1002 => (bif v1002 then ((F_impl_within v0.2.2.2.1 1 480).bind fun v1003 => (bif v1003 then ((F_impl_within v0.2.2.2.2 0 100).bind fun v1004 => some v1004)
 else some false))
 else some false))
 else some false))
 else some false))
@[simp] def res_impl_Lesson_valid (r : Bool) : RV := .one (.one (.val (.bool r)))
theorem con_impl_Lesson_valid {v0 : TLesson} {r : Bool} (hF : F_impl_Lesson_valid v0 = some r) : Con Tryd.prog 122 [eLesson v0] (res_impl_Lesson_valid r) := by
 unfold F_impl_Lesson_valid at hF
 refine con_of c122_is fun N => ?_
 refine ws 0 128 ?_
 refine qf (.ptr 0 0 0) [(0, .box [AI v0.1, AS v0.2.1, AS v0.2.2.1, AI v0.2.2.2.1, AI v0.2.2.2.2])] (by simp) ?_
 refine qp (AB false) rfl ?_
 refine r_nil ?_
 refine ws 128 1664 ?_
 refine qp (.ptr 0 0 0) rfl (qp (AI v0.1) rfl ?_)
 obtain ⟨v1000, e1000, hF⟩ := bind_get hF
 refine qc (AB v1000) [(0, .box [AI v0.1, AS v0.2.1, AS v0.2.2.1, AI v0.2.2.2.1, AI v0.2.2.2.2])] false (con_impl_within e1000) c103_ok (by first | rfl | simp) rfl ?_
 refine qp (AB v1000) rfl ?_
 refine q_case 6 hF rfl (fun hF => ?_) (fun hF => ?_)
 ·
  refine qg (.ptr 0 0 1) rfl rfl (qg (AS v0.2.1) rfl rfl ?_)
  obtain ⟨v1001, e1001, hF⟩ := bind_get hF
  refine qcg (AB v1001) [(0, .box [AI v0.1, AS v0.2.1, AS v0.2.2.1, AI v0.2.2.2.1, AI v0.2.2.2.2])] false rfl (con_impl_IsName e1001) c102_ok (by first | rfl | simp) rfl ?_
  refine qp (AB v1001) rfl (qp (AB v1001) rfl ?_)
  refine q_case 11 hF rfl (fun hF => ?_) (fun hF => ?_)
  ·
   refine qg (.ptr 0 0 2) rfl rfl (qg (AS v0.2.2.1) rfl rfl ?_)
   obtain ⟨v1002, e1002, hF⟩ := bind_get hF
   refine qcg (AB v1002) [(0, .box [AI v0.1, AS v0.2.1, AS v0.2.2.1, AI v0.2.2.2.1, AI v0.2.2.2.2])] false rfl (con_impl_IsName e1002) c102_ok (by first | rfl | simp) rfl ?_
   refine qp (AB v1002) rfl (qp (AB v1002) rfl ?_)
   refine q_case 16 hF rfl (fun hF => ?_) (fun hF => ?_)
   ·
    refine qg (.ptr 0 0 3) rfl rfl (qg (AI v0.2.2.2.1) rfl rfl ?_)
    obtain ⟨v1003, e1003, hF⟩ := bind_get hF
    refine qcg (AB v1003) [(0, .box [AI v0.1, AS v0.2.1, AS v0.2.2.1, AI v0.2.2.2.1, AI v0.2.2.2.2])] false rfl (con_impl_within e1003) c103_ok (by first | rfl | simp) rfl ?_
    refine qp (AB v1003) rfl (qp (AB v1003) rfl ?_)
    refine q_case 21 hF rfl (fun hF => ?_) (fun hF => ?_)
    ·
     refine qg (.ptr 0 0 4) rfl rfl (qg (AI v0.2.2.2.2) rfl rfl ?_)
     obtain ⟨v1004, e1004, hF⟩ := bind_get hF
     refine qcg (AB v1004) [(0, .box [AI v0.1, AS v0.2.1, AS v0.2.2.1, AI v0.2.2.2.1, AI v0.2.2.2.2])] false rfl (con_impl_within e1004) c103_ok (by first | rfl | simp) rfl ?_
     refine qp (AB v1004) rfl (qp (AB v1004) rfl ?_)
     refine r_nil ?_
     refine w_ret ?_
     cases hF
     exact eR
    ·
     refine qn rfl (qn rfl (qn rfl (qp (AB false) rfl (qp (AB false) rfl ?_))))
     refine r_nil ?_
     refine w_ret ?_
     cases hF
     exact eR
   ·
    refine qn rfl (qn rfl (qn rfl (qp (AB false) rfl (qp (AB false) rfl (qn rfl (qn rfl (qn rfl ?_)))))))
    refine qp (AB false) rfl (qp (AB false) rfl ?_)
    refine r_nil ?_
    refine w_ret ?_
    cases hF
    exact eR
  ·
   refine qn rfl (qn rfl (qn rfl (qp (AB false) rfl (qp (AB false) rfl (qn rfl (qn rfl (qn rfl ?_)))))))
   refine qp (AB false) rfl (qp (AB false) rfl (qn rfl (qn rfl (qn rfl (qp (AB false) rfl (qp (AB false) rfl ?_))))))
   refine r_nil ?_
   refine w_ret ?_
   cases hF
   exact eR
 ·
  refine qn rfl (qn rfl (qn rfl (qp (AB false) rfl (qp (AB false) rfl (qn rfl (qn rfl (qn rfl ?_)))))))
  refine qp (AB false) rfl (qp (AB false) rfl (qn rfl (qn rfl (qn rfl (qp (AB false) rfl (qp (AB false) rfl (qn rfl ?_)))))))
  refine qn rfl (qn rfl (qp (AB false) rfl (qp (AB false) rfl ?_)))
  refine r_nil ?_
  refine w_ret ?_
  cases hF
  exact eR

def c72 : MC := (.seq (.reg [rg 1 (.f (.box (.t 0))), rg 2 (.p true (.mv (.c (.str []))))]) (.seq (.seq (.reg [rg 3 (.p true (.ld (.t 1) 5 true)), rg 4 (.call true 122 [(.t 3)]), rg 5 (.p true (.not (.t 4)))]) (.cond (.t 5) (.seq (.reg [rg 2 (.p true (.mv (.c (.str []))))]) .ret) .skip)) (.seq (.reg [rg 6 (.p false (.fad (.t 1) 0)), rg 7 (.p false (.ld (.t 6) 1 false)), rg 8 (.call false 54 [(.t 7)]), rg 9 (.p false (.bin .add (.t 8) (.c (.str [32])))), rg 10 (.p false (.fad (.t 1) 1)), rg 11 (.p false (.ld (.t 10) 1 false)), rg 12 (.p false (.bin .add (.t 9) (.t 11))), rg 13 (.p false (.bin .add (.t 12) (.c (.str [32])))), rg 14 (.p false (.fad (.t 1) 2)), rg 15 (.p false (.ld (.t 14) 1 false)), rg 16 (.p false (.bin .add (.t 13) (.t 15))), rg 17 (.p false (.bin .add (.t 16) (.c (.str [32])))), rg 18 (.p false (.fad (.t 1) 3)), rg 19 (.p false (.ld (.t 18) 1 false)), rg 20 (.p false (.fad (.t 1) 4)), rg 21 (.p false (.ld (.t 20) 1 false)), rg 22 (.f (.bslp 1 [(.t 19), (.t 21)])), rg 23 (.call false 123 [(.t 22)]), rg 24 (.p false (.bin .add (.t 17) (.t 23))), rg 2 (.p false (.mv (.t 24)))]) .ret)))
theorem c72_is : compFn Tryd.prog 72 = some (c72, [(.tmp 2)]) := by kernel_rfl
theorem c72_ok : okFn Tryd.prog 72 = true := by kernel_rfl

noncomputable def F_impl_LessonText (v0 : TLesson) : Option (List UInt8) :=
 ((F_impl_Lesson_valid v0).bind fun v1000 => (bif (!v1000) then some []
 else ((F_impl_Decimal v0.1).bind fun v1001 => (need (v1001.length + [32].length < 9223372036854775808) ((need ((v1001 ++ [32]).length + v0.2.1.length < 9223372036854775808) ((need (((v1001 ++ [32]) ++ v0.2.1).length + [32].length < 9223372036854775808) ((need ((((v1001 ++ [32]) ++ v0.2.1) ++ [32]).length + v0.2.2.1.length < 9223372036854775808) ((need (((((v1001 ++ [32]) ++ v0.2.1) ++ [32]) ++ v0.2.2.1).length + [32].length < 9223372036854775808) (((F_impl_ListText [v0.2.2.2.1, v0.2.2.2.2]).bind fun v1007 => (need ((((((v1001 ++ [32]) ++ v0.2.1) ++ [32]) ++ v0.2.2.1) ++ [32]).length + v1007.length < 9223372036854775808) (some ((((((v1001 ++ [32]) ++ v0.2.1) ++ [32]) ++ v0.2.2.1) ++ [32]) ++ v1007)))))))))))))))))
@[simp] def res_impl_LessonText (r : List UInt8) : RV := .one (.one (.val (.str r)))
theorem con_impl_LessonText {v0 : TLesson} {r : List UInt8} (hF : F_impl_LessonText v0 = some r) : Con Tryd.prog 72 [eLesson v0] (res_impl_LessonText r) := by
 unfold F_impl_LessonText at hF
 refine con_of c72_is fun N => ?_
 refine ws 0 128 ?_
 refine qf (.ptr 0 0 0) [(0, .box [AI v0.1, AS v0.2.1, AS v0.2.2.1, AI v0.2.2.2.1, AI v0.2.2.2.2])] (by simp) ?_
 refine qp (AS []) rfl ?_
 refine r_nil ?_
 refine w_seq ?_
 refine ws 128 320 ?_
 refine qp (.agg [AI v0.1, AS v0.2.1, AS v0.2.2.1, AI v0.2.2.2.1, AI v0.2.2.2.2]) rfl ?_
 obtain ⟨v1000, e1000, hF⟩ := bind_get hF
 refine qc (AB v1000) [(0, .box [AI v0.1, AS v0.2.1, AS v0.2.2.1, AI v0.2.2.2.1, AI v0.2.2.2.2])] false (con_impl_Lesson_valid e1000) c122_ok (by first | rfl | simp) rfl ?_
 refine qp (AB (!v1000)) rfl ?_
 refine r_nil ?_
 refine cF hF (fun hF => ?_) fun hF => ?_
 ·
  refine ws 320 384 ?_
  refine qp (AS []) rfl ?_
  refine r_nil ?_
  refine w_ret ?_
  refine thenQ_r ?_
  cases hF
  exact eR
 ·
  refine w_skip ?_
  refine thenQ_n ?_
  refine ws 320 1600 ?_
  refine qp (.ptr 0 0 0) rfl (qp (AI v0.1) rfl ?_)
  obtain ⟨v1001, e1001, hF⟩ := bind_get hF
  refine qc (AS v1001) [(0, .box [AI v0.1, AS v0.2.1, AS v0.2.2.1, AI v0.2.2.2.1, AI v0.2.2.2.2])] false (con_impl_Decimal e1001) c54_ok (by first | rfl | simp) rfl ?_
  obtain ⟨g1002, hF⟩ := need_some hF
  refine qp (AS (v1001 ++ [32])) (ev_add_s rfl rfl g1002) (qp (.ptr 0 0 1) rfl (qp (AS v0.2.1) rfl ?_))
  obtain ⟨g1003, hF⟩ := need_some hF
  refine qp (AS ((v1001 ++ [32]) ++ v0.2.1)) (ev_add_s rfl rfl g1003) ?_
  obtain ⟨g1004, hF⟩ := need_some hF
  refine qp (AS (((v1001 ++ [32]) ++ v0.2.1) ++ [32])) (ev_add_s rfl rfl g1004) (qp (.ptr 0 0 2) rfl (qp (AS v0.2.2.1) rfl ?_))
  obtain ⟨g1005, hF⟩ := need_some hF
  refine qp (AS ((((v1001 ++ [32]) ++ v0.2.1) ++ [32]) ++ v0.2.2.1)) (ev_add_s rfl rfl g1005) ?_
  obtain ⟨g1006, hF⟩ := need_some hF
  refine qp (AS (((((v1001 ++ [32]) ++ v0.2.1) ++ [32]) ++ v0.2.2.1) ++ [32])) (ev_add_s rfl rfl g1006) (qp (.ptr 0 0 3) rfl (qp (AI v0.2.2.2.1) rfl (qp (.ptr 0 0 4) rfl (qp (AI v0.2.2.2.2) rfl ?_))))
  refine qf (.sl 1344 0 ([v0.2.2.2.1, v0.2.2.2.2].length)) [(1344, .row true 1 ([v0.2.2.2.1, v0.2.2.2.2].map vI)), (0, .box [AI v0.1, AS v0.2.1, AS v0.2.2.1, AI v0.2.2.2.1, AI v0.2.2.2.2])] (by simp [List.take_of_length_le]) ?_
  obtain ⟨v1007, e1007, hF⟩ := bind_get hF
  refine qc (AS v1007) [(1344, .row true 1 ([v0.2.2.2.1, v0.2.2.2.2].map vI)), (0, .box [AI v0.1, AS v0.2.1, AS v0.2.2.1, AI v0.2.2.2.1, AI v0.2.2.2.2])] true (con_impl_ListText e1007) c123_ok (by simp [List.take_of_length_le]) rfl ?_
  obtain ⟨g1008, hF⟩ := need_some hF
  refine qp (AS ((((((v1001 ++ [32]) ++ v0.2.1) ++ [32]) ++ v0.2.2.1) ++ [32]) ++ v1007)) (ev_add_s rfl rfl g1008) (qp (AS ((((((v1001 ++ [32]) ++ v0.2.1) ++ [32]) ++ v0.2.2.1) ++ [32]) ++ v1007)) rfl ?_)
  refine r_nil ?_
  refine w_ret ?_
  cases hF
  exact eR

def c27 : MC := (.seq (.reg [rg 2 (.f (.alloc [((.int .i64 0), (0, false)), ((.str []), (0, false)), ((.str []), (0, false)), ((.int .i64 0), (0, false)), ((.int .i64 0), (0, false))])), rg 3 (.p true (.mv (.c (.bool false))))]) (.seq (.reg [mvt 10 0, rg 11 (.call true 67 [(.t 10), (.c (.str [32]))]), mvt 4 11]) (.seq (.seq (.reg [mvt 12 4, rg 13 (.p true (.len (.t 12))), rg 14 (.p true (.bin .neq (.t 13) (.c (.int .i64 4))))]) (.cond (.t 14) (.seq (.reg [rg 15 (.f (.bld [((.int .i64 0), (0, false)), ((.str []), (0, false)), ((.str []), (0, false)), ((.int .i64 0), (0, false)), ((.int .i64 0), (0, false))] [])), ⟨none, none, (.f (.st (.t 2) (.t 15) 5))⟩, rg 3 (.p true (.mv (.c (.bool false))))]) .ret) .skip)) (.seq (.reg [mvt 17 4, rg 18 (.p true (.iad (.t 17) (.c (.int .i64 0)) 1)), rg 19 (.p true (.ld (.t 18) 1 false)), rg 20 (.call true 70 [(.t 19)]), mvt 16 20, rg 21 (.p true (.ext (.t 16) 0)), rg 22 (.p true (.ext (.t 16) 1)), mvt 5 21, mvt 6 22]) (.seq (.reg [mvt 24 4, rg 25 (.p true (.iad (.t 24) (.c (.int .i64 3)) 1)), rg 26 (.p true (.ld (.t 25) 1 false)), rg 27 (.call true 71 [(.t 26), (.c (.int .i64 2))]), mvt 23 27, rg 28 (.p true (.ext (.t 23) 0)), rg 29 (.p true (.ext (.t 23) 1)), mvt 7 28, mvt 8 29]) (.seq (.reg [rg 30 (.p false (.mv (.t 5))), rg 31 (.p false (.mv (.t 4))), rg 32 (.p false (.iad (.t 31) (.c (.int .i64 1)) 1)), rg 33 (.p false (.ld (.t 32) 1 false)), rg 34 (.p false (.mv (.t 4))), rg 35 (.p false (.iad (.t 34) (.c (.int .i64 2)) 1)), rg 36 (.p false (.ld (.t 35) 1 false)), rg 37 (.p false (.mv (.t 7))), rg 38 (.p false (.iad (.t 37) (.c (.int .i64 0)) 1)), rg 39 (.p false (.ld (.t 38) 1 false)), rg 40 (.p false (.mv (.t 7))), rg 41 (.p false (.iad (.t 40) (.c (.int .i64 1)) 1)), rg 42 (.p false (.ld (.t 41) 1 false)), rg 43 (.f (.bld [((.int .i64 0), (0, true)), ((.str []), (0, true)), ((.str []), (0, true)), ((.int .i64 0), (0, true)), ((.int .i64 0), (0, true))] [(0, (1, (.t 30))), (1, (1, (.t 33))), (2, (1, (.t 36))), (3, (1, (.t 39))), (4, (1, (.t 42)))])), rg 9 (.f (.alloc [((.int .i64 0), (0, false)), ((.str []), (0, false)), ((.str []), (0, false)), ((.int .i64 0), (0, false)), ((.int .i64 0), (0, false))])), ⟨none, none, (.f (.st (.t 9) (.t 43) 5))⟩]) (.seq (.seq (.reg [mvt 44 6, rg 45 (.p true (.not (.t 44))), mvt 46 45, ⟨(some 47), (some (46, false)), (.p true (.mv (.t 8)))⟩, ⟨(some 48), (some (46, false)), (.p true (.not (.t 47)))⟩, rg 49 (.p true (.pick (.t 46) (.c (.bool true)) (.t 48))), mvt 50 49, ⟨(some 51), (some (50, false)), (.p true (.ld (.t 9) 5 true))⟩, ⟨(some 52), (some (50, false)), (.call true 72 [(.t 51)])⟩, ⟨(some 53), (some (50, false)), (.p true (.mv (.t 0)))⟩, ⟨(some 54), (some (50, false)), (.p true (.bin .neq (.t 52) (.t 53)))⟩, rg 55 (.p true (.pick (.t 50) (.c (.bool true)) (.t 54)))]) (.cond (.t 55) (.seq (.reg [rg 56 (.f (.bld [((.int .i64 0), (0, false)), ((.str []), (0, false)), ((.str []), (0, false)), ((.int .i64 0), (0, false)), ((.int .i64 0), (0, false))] [])), ⟨none, none, (.f (.st (.t 2) (.t 56) 5))⟩, rg 3 (.p true (.mv (.c (.bool false))))]) .ret) .skip)) (.seq (.reg [rg 57 (.p true (.ld (.t 9) 5 true)), ⟨none, none, (.f (.st (.t 2) (.t 57) 5))⟩, rg 3 (.p true (.mv (.c (.bool true))))]) .ret))))))))
theorem c27_is : compFn Tryd.prog 27 = some (c27, [(.cell (.ld (.t 2) 5 true)), (.tmp 3)]) := by kernel_rfl
theorem c27_ok : okFn Tryd.prog 27 = true := by kernel_rfl

noncomputable def F_impl_ReadLesson (v0 : List UInt8) : Option (TLesson × Bool) :=
 ((F_split v0 [32]).bind fun v1000 => (bif (decide ((v1000.length : Int) ≠ (4 : Int))) then some ((0, [], [], 0, 0), false)
 else ((ix v1000 0).bind fun v1001 => ((F_readDec v1001).bind fun v1002 => ((ix v1000 3).bind fun v1003 => ((F_impl_readNumbers v1003 2).bind fun v1004 => ((ix v1000 1).bind fun v1005 => ((ix v1000 2).bind fun v1006 => ((ix v1004.1 0).bind fun v1007 => ((ix v1004.1 1).bind fun v1008 => (bif (!v1002.2) then some ((0, [], [], 0, 0), false)
 else (bif (!v1004.2) then some ((0, [], [], 0, 0), false)
 else ((F_impl_LessonText (v1002.1, v1005, v1006, v1007, v1008)).bind fun v1009 => (bif (decide (v1009 ≠ v0)) then some ((0, [], [], 0, 0), false)
 else some ((v1002.1, v1005, v1006, v1007, v1008), true)))))))))))))))
@[simp] def res_impl_ReadLesson (r : TLesson × Bool) : RV := .tup [.one (.val (eLesson r.1)), .one (.val (.bool r.2))]
theorem con_impl_ReadLesson {v0 : List UInt8} {r : TLesson × Bool} (hF : F_impl_ReadLesson v0 = some r) : Con Tryd.prog 27 [.str v0] (res_impl_ReadLesson r) := by
 unfold F_impl_ReadLesson at hF
 refine con_of c27_is fun N => ?_
 refine ws 0 128 ?_
 refine qf (.ptr 0 0 0) [(0, .box [AI 0, AS [], AS [], AI 0, AI 0])] (by simp) ?_
 refine qp (AB false) rfl ?_
 refine r_nil ?_
 refine ws 128 320 ?_
 refine qp (AS v0) rfl ?_
 obtain ⟨v1000, e1000, hF⟩ := bind_get hF
 refine qc (.sl 192 0 v1000.length) [(192, .row true 1 (v1000.map V.str)), (0, .box [AI 0, AS [], AS [], AI 0, AI 0])] false (con_split e1000) c67_ok (by first | rfl | simp) (by simp [res_split]) ?_
 refine qp (.sl 192 0 v1000.length) rfl ?_
 refine r_nil ?_
 refine w_seq ?_
 refine ws 320 512 ?_
 refine qp (.sl 192 0 v1000.length) rfl (qp (AI (v1000.length : Int)) rfl (qp (AB (decide ((v1000.length : Int) ≠ (4 : Int)))) rfl ?_))
 refine r_nil ?_
 refine cF hF (fun hF => ?_) fun hF => ?_
 ·
  refine ws 512 704 ?_
  refine qf (.agg [AI 0, AS [], AS [], AI 0, AI 0]) [(192, .row true 1 (v1000.map V.str)), (0, .box [AI 0, AS [], AS [], AI 0, AI 0])] (by simp) ?_
  refine qf0 (.undef) [(0, .box [AI 0, AS [], AS [], AI 0, AI 0]), (192, .row true 1 (v1000.map V.str)), (0, .box [AI 0, AS [], AS [], AI 0, AI 0])] (by simp) ?_
  refine qp (AB false) rfl ?_
  refine r_nil ?_
  refine w_ret ?_
  refine thenQ_r ?_
  cases hF
  exact eR
 ·
  refine w_skip ?_
  refine thenQ_n ?_
  refine ws 512 1088 ?_
  refine qp (.sl 192 0 v1000.length) rfl ?_
  obtain ⟨v1001, e1001, hF⟩ := bind_get hF
  refine qp (.ptr 192 ((0 : Int).toNat) 0) (ev_iad_r rfl (by simp) rfl rfl e1001) (qp (AS v1001) (ev_ld_r rfl rfl (ix_some e1001).2 rfl rfl) ?_)
  obtain ⟨v1002, e1002, hF⟩ := bind_get hF
  refine qc (.tup [AI v1002.1, AB v1002.2]) [(192, .row true 1 (v1000.map V.str)), (0, .box [AI 0, AS [], AS [], AI 0, AI 0])] false (con_readDec e1002) c70_ok (by first | rfl | simp) rfl ?_
  refine qp (.tup [AI v1002.1, AB v1002.2]) rfl (qp (AI v1002.1) rfl (qp (AB v1002.2) rfl (qp (AI v1002.1) rfl (qp (AB v1002.2) rfl ?_))))
  refine r_nil ?_
  refine ws 1088 1664 ?_
  refine qp (.sl 192 0 v1000.length) rfl ?_
  obtain ⟨v1003, e1003, hF⟩ := bind_get hF
  refine qp (.ptr 192 ((3 : Int).toNat) 0) (ev_iad_r rfl (by simp) rfl rfl e1003) (qp (AS v1003) (ev_ld_r rfl rfl (ix_some e1003).2 rfl rfl) ?_)
  obtain ⟨v1004, e1004, hF⟩ := bind_get hF
  refine qc (.tup [.sl 1280 0 v1004.1.length, AB v1004.2]) [(1280, .row true 1 (v1004.1.map vI)), (192, .row true 1 (v1000.map V.str)), (0, .box [AI 0, AS [], AS [], AI 0, AI 0])] false (con_impl_readNumbers e1004) c71_ok (by first | rfl | simp) (by simp [res_impl_readNumbers]) ?_
  refine qp (.tup [.sl 1280 0 v1004.1.length, AB v1004.2]) rfl (qp (.sl 1280 0 v1004.1.length) rfl (qp (AB v1004.2) rfl (qp (.sl 1280 0 v1004.1.length) rfl (qp (AB v1004.2) rfl ?_))))
  refine r_nil ?_
  refine ws 1664 2688 ?_
  refine qp (AI v1002.1) rfl (qp (.sl 192 0 v1000.length) rfl ?_)
  obtain ⟨v1005, e1005, hF⟩ := bind_get hF
  refine qp (.ptr 192 ((1 : Int).toNat) 0) (ev_iad_r rfl (by simp) rfl rfl e1005) (qp (AS v1005) (ev_ld_r rfl rfl (ix_some e1005).2 rfl rfl) (qp (.sl 192 0 v1000.length) rfl ?_))
  obtain ⟨v1006, e1006, hF⟩ := bind_get hF
  refine qp (.ptr 192 ((2 : Int).toNat) 0) (ev_iad_r rfl (by simp) rfl rfl e1006) (qp (AS v1006) (ev_ld_r rfl rfl (ix_some e1006).2 rfl rfl) (qp (.sl 1280 0 v1004.1.length) rfl ?_))
  obtain ⟨v1007, e1007, hF⟩ := bind_get hF
  refine qp (.ptr 1280 ((0 : Int).toNat) 0) (ev_iad_r rfl (by simp) rfl rfl e1007) (qp (AI v1007) (ev_ld_r rfl rfl (ix_some e1007).2 rfl rfl) (qp (.sl 1280 0 v1004.1.length) rfl ?_))
  obtain ⟨v1008, e1008, hF⟩ := bind_get hF
  refine qp (.ptr 1280 ((1 : Int).toNat) 0) (ev_iad_r rfl (by simp) rfl rfl e1008) (qp (AI v1008) (ev_ld_r rfl rfl (ix_some e1008).2 rfl rfl) ?_)
  refine qf (.agg [AI v1002.1, AS v1005, AS v1006, AI v1007, AI v1008]) [(1280, .row true 1 (v1004.1.map vI)), (192, .row true 1 (v1000.map V.str)), (0, .box [AI 0, AS [], AS [], AI 0, AI 0])] (by simp) ?_
  refine qf (.ptr 2560 0 0) [(2560, .box [AI 0, AS [], AS [], AI 0, AI 0]), (1280, .row true 1 (v1004.1.map vI)), (192, .row true 1 (v1000.map V.str)), (0, .box [AI 0, AS [], AS [], AI 0, AI 0])] (by simp) ?_
  refine qf0 (.undef) [(2560, .box [AI v1002.1, AS v1005, AS v1006, AI v1007, AI v1008]), (2560, .box [AI 0, AS [], AS [], AI 0, AI 0]), (1280, .row true 1 (v1004.1.map vI)), (192, .row true 1 (v1000.map V.str)), (0, .box [AI 0, AS [], AS [], AI 0, AI 0])] (by simp) ?_
  refine r_nil ?_
  refine w_seq ?_
  refine ws 2688 3456 ?_
  refine qp (AB v1002.2) rfl (qp (AB (!v1002.2)) rfl (qp (AB (!v1002.2)) rfl ?_))
  refine q_case 46 hF rfl (fun hF => ?_) (fun hF => ?_)
  ·
   refine qn rfl (qn rfl (qp (AB true) rfl (qp (AB true) rfl (qn rfl (qn rfl (qn rfl (qn rfl ?_)))))))
   refine qp (AB true) rfl ?_
   refine r_nil ?_
   refine w_true rfl ?_
   refine ws 3456 3648 ?_
   refine qf (.agg [AI 0, AS [], AS [], AI 0, AI 0]) [(2560, .box [AI v1002.1, AS v1005, AS v1006, AI v1007, AI v1008]), (2560, .box [AI 0, AS [], AS [], AI 0, AI 0]), (1280, .row true 1 (v1004.1.map vI)), (192, .row true 1 (v1000.map V.str)), (0, .box [AI 0, AS [], AS [], AI 0, AI 0])] (by simp) ?_
   refine qf0 (.undef) [(0, .box [AI 0, AS [], AS [], AI 0, AI 0]), (2560, .box [AI v1002.1, AS v1005, AS v1006, AI v1007, AI v1008]), (2560, .box [AI 0, AS [], AS [], AI 0, AI 0]), (1280, .row true 1 (v1004.1.map vI)), (192, .row true 1 (v1000.map V.str)), (0, .box [AI 0, AS [], AS [], AI 0, AI 0])] (by simp) ?_
   refine qp (AB false) rfl ?_
   refine r_nil ?_
   refine w_ret ?_
   refine thenQ_r ?_
   cases hF
   exact eR
  ·
   refine qg (AB v1004.2) rfl rfl (qg (AB (!v1004.2)) rfl rfl (qp (AB (!v1004.2)) rfl (qp (AB (!v1004.2)) rfl ?_)))
   refine q_case 50 hF rfl (fun hF => ?_) (fun hF => ?_)
   ·
    refine qn rfl (qn rfl (qn rfl (qn rfl (qp (AB true) rfl ?_))))
    refine r_nil ?_
    refine w_true rfl ?_
    refine ws 3456 3648 ?_
    refine qf (.agg [AI 0, AS [], AS [], AI 0, AI 0]) [(2560, .box [AI v1002.1, AS v1005, AS v1006, AI v1007, AI v1008]), (2560, .box [AI 0, AS [], AS [], AI 0, AI 0]), (1280, .row true 1 (v1004.1.map vI)), (192, .row true 1 (v1000.map V.str)), (0, .box [AI 0, AS [], AS [], AI 0, AI 0])] (by simp) ?_
    refine qf0 (.undef) [(0, .box [AI 0, AS [], AS [], AI 0, AI 0]), (2560, .box [AI v1002.1, AS v1005, AS v1006, AI v1007, AI v1008]), (2560, .box [AI 0, AS [], AS [], AI 0, AI 0]), (1280, .row true 1 (v1004.1.map vI)), (192, .row true 1 (v1000.map V.str)), (0, .box [AI 0, AS [], AS [], AI 0, AI 0])] (by simp) ?_
    refine qp (AB false) rfl ?_
    refine r_nil ?_
    refine w_ret ?_
    refine thenQ_r ?_
    cases hF
    exact eR
   ·
    refine qg (.agg [AI v1002.1, AS v1005, AS v1006, AI v1007, AI v1008]) rfl rfl ?_
    obtain ⟨v1009, e1009, hF⟩ := bind_get hF
    refine qcg (AS v1009) [(2560, .box [AI v1002.1, AS v1005, AS v1006, AI v1007, AI v1008]), (2560, .box [AI 0, AS [], AS [], AI 0, AI 0]), (1280, .row true 1 (v1004.1.map vI)), (192, .row true 1 (v1000.map V.str)), (0, .box [AI 0, AS [], AS [], AI 0, AI 0])] false rfl (con_impl_LessonText e1009) c72_ok (by first | rfl | simp) rfl ?_
    refine qg (AS v0) rfl rfl (qg (AB (decide (v1009 ≠ v0))) rfl rfl (qp (AB (decide (v1009 ≠ v0))) rfl ?_))
    refine r_nil ?_
    refine cF hF (fun hF => ?_) fun hF => ?_
    ·
     refine ws 3456 3648 ?_
     refine qf (.agg [AI 0, AS [], AS [], AI 0, AI 0]) [(2560, .box [AI v1002.1, AS v1005, AS v1006, AI v1007, AI v1008]), (2560, .box [AI 0, AS [], AS [], AI 0, AI 0]), (1280, .row true 1 (v1004.1.map vI)), (192, .row true 1 (v1000.map V.str)), (0, .box [AI 0, AS [], AS [], AI 0, AI 0])] (by simp) ?_
     refine qf0 (.undef) [(0, .box [AI 0, AS [], AS [], AI 0, AI 0]), (2560, .box [AI v1002.1, AS v1005, AS v1006, AI v1007, AI v1008]), (2560, .box [AI 0, AS [], AS [], AI 0, AI 0]), (1280, .row true 1 (v1004.1.map vI)), (192, .row true 1 (v1000.map V.str)), (0, .box [AI 0, AS [], AS [], AI 0, AI 0])] (by simp) ?_
     refine qp (AB false) rfl ?_
     refine r_nil ?_
     refine w_ret ?_
     refine thenQ_r ?_
     cases hF
     exact eR
    ·
     refine w_skip ?_
     refine thenQ_n ?_
     refine ws 3456 3648 ?_
     refine qp (.agg [AI v1002.1, AS v1005, AS v1006, AI v1007, AI v1008]) rfl ?_
     refine qf0 (.undef) [(0, .box [AI v1002.1, AS v1005, AS v1006, AI v1007, AI v1008]), (2560, .box [AI v1002.1, AS v1005, AS v1006, AI v1007, AI v1008]), (2560, .box [AI 0, AS [], AS [], AI 0, AI 0]), (1280, .row true 1 (v1004.1.map vI)), (192, .row true 1 (v1000.map V.str)), (0, .box [AI 0, AS [], AS [], AI 0, AI 0])] (by simp) ?_
     refine qp (AB true) rfl ?_
     refine r_nil ?_
     refine w_ret ?_
     cases hF
     exact eR

def c28 : MC := (.seq (.reg [rg 2 (.f (.box (.t 0))), rg 3 (.f (.box (.t 1))), rg 4 (.p true (.mv (.c (.bool false))))]) (.seq (.seq (.reg [rg 5 (.p true (.fad (.t 2) 0)), rg 6 (.p true (.ld (.t 5) 1 false)), rg 7 (.p true (.fad (.t 3) 0)), rg 8 (.p true (.ld (.t 7) 1 false)), rg 9 (.p true (.bin .neq (.t 6) (.t 8)))]) (.cond (.t 9) (.seq (.reg [rg 4 (.p true (.mv (.c (.bool false))))]) .ret) .skip)) (.seq (.seq (.reg [rg 10 (.p true (.fad (.t 2) 1)), rg 11 (.p true (.ld (.t 10) 1 false)), rg 12 (.p true (.fad (.t 3) 1)), rg 13 (.p true (.ld (.t 12) 1 false)), rg 14 (.p true (.bin .neq (.t 11) (.t 13)))]) (.cond (.t 14) (.seq (.reg [rg 4 (.p true (.mv (.c (.bool false))))]) .ret) .skip)) (.seq (.seq (.reg [rg 15 (.p true (.fad (.t 2) 2)), rg 16 (.p true (.ld (.t 15) 1 false)), rg 17 (.p true (.fad (.t 3) 2)), rg 18 (.p true (.ld (.t 17) 1 false)), rg 19 (.p true (.bin .neq (.t 16) (.t 18)))]) (.cond (.t 19) (.seq (.reg [rg 4 (.p true (.mv (.c (.bool false))))]) .ret) .skip)) (.seq (.seq (.reg [rg 20 (.p true (.fad (.t 2) 3)), rg 21 (.p true (.ld (.t 20) 1 false)), rg 22 (.p true (.fad (.t 3) 3)), rg 23 (.p true (.ld (.t 22) 1 false)), rg 24 (.p true (.bin .neq (.t 21) (.t 23)))]) (.cond (.t 24) (.seq (.reg [rg 4 (.p true (.mv (.c (.bool false))))]) .ret) .skip)) (.seq (.seq (.reg [rg 25 (.p true (.fad (.t 2) 4)), rg 26 (.p true (.ld (.t 25) 1 false)), rg 27 (.p true (.fad (.t 3) 4)), rg 28 (.p true (.ld (.t 27) 1 false)), rg 29 (.p true (.bin .neq (.t 26) (.t 28)))]) (.cond (.t 29) (.seq (.reg [rg 4 (.p true (.mv (.c (.bool false))))]) .ret) .skip)) (.seq (.reg [rg 4 (.p true (.mv (.c (.bool true))))]) .ret)))))))
theorem c28_is : compFn Tryd.prog 28 = some (c28, [(.tmp 4)]) := by kernel_rfl
theorem c28_ok : okFn Tryd.prog 28 = true := by kernel_rfl

noncomputable def F_laws_eqLesson (v0 : TLesson) (v1 : TLesson) : Option (Bool) :=
 (bif (decide (v0.1 ≠ v1.1)) then some false
 else (bif (decide (v0.2.1 ≠ v1.2.1)) then some false
 else (bif (decide (v0.2.2.1 ≠ v1.2.2.1)) then some false
 else (bif (decide (v0.2.2.2.1 ≠ v1.2.2.2.1)) then some false
 else (bif (decide (v0.2.2.2.2 ≠ v1.2.2.2.2)) then some false
 else some true)))))
@[simp] def res_laws_eqLesson (r : Bool) : RV := .one (.one (.val (.bool r)))
theorem con_laws_eqLesson {v0 : TLesson} {v1 : TLesson} {r : Bool} (hF : F_laws_eqLesson v0 v1 = some r) : Con Tryd.prog 28 [eLesson v0, eLesson v1] (res_laws_eqLesson r) := by
 unfold F_laws_eqLesson at hF
 refine con_of c28_is fun N => ?_
 refine ws 0 192 ?_
 refine qf (.ptr 0 0 0) [(0, .box [AI v0.1, AS v0.2.1, AS v0.2.2.1, AI v0.2.2.2.1, AI v0.2.2.2.2])] (by simp) ?_
 refine qf (.ptr 64 0 0) [(64, .box [AI v1.1, AS v1.2.1, AS v1.2.2.1, AI v1.2.2.2.1, AI v1.2.2.2.2]), (0, .box [AI v0.1, AS v0.2.1, AS v0.2.2.1, AI v0.2.2.2.1, AI v0.2.2.2.2])] (by simp) ?_
 refine qp (AB false) rfl ?_
 refine r_nil ?_
 refine w_seq ?_
 refine ws 192 512 ?_
 refine qp (.ptr 0 0 0) rfl (qp (AI v0.1) rfl (qp (.ptr 64 0 0) rfl (qp (AI v1.1) rfl (qp (AB (decide (v0.1 ≠ v1.1))) rfl ?_))))
 refine r_nil ?_
 refine cF hF (fun hF => ?_) fun hF => ?_
 ·
  refine ws 512 576 ?_
  refine qp (AB false) rfl ?_
  refine r_nil ?_
  refine w_ret ?_
  refine thenQ_r ?_
  cases hF
  exact eR
 ·
  refine w_skip ?_
  refine thenQ_n ?_
  refine w_seq ?_
  refine ws 512 832 ?_
  refine qp (.ptr 0 0 1) rfl (qp (AS v0.2.1) rfl (qp (.ptr 64 0 1) rfl (qp (AS v1.2.1) rfl (qp (AB (decide (v0.2.1 ≠ v1.2.1))) rfl ?_))))
  refine r_nil ?_
  refine cF hF (fun hF => ?_) fun hF => ?_
  ·
   refine ws 832 896 ?_
   refine qp (AB false) rfl ?_
   refine r_nil ?_
   refine w_ret ?_
   refine thenQ_r ?_
   cases hF
   exact eR
  ·
   refine w_skip ?_
   refine thenQ_n ?_
   refine w_seq ?_
   refine ws 832 1152 ?_
   refine qp (.ptr 0 0 2) rfl (qp (AS v0.2.2.1) rfl (qp (.ptr 64 0 2) rfl (qp (AS v1.2.2.1) rfl (qp (AB (decide (v0.2.2.1 ≠ v1.2.2.1))) rfl ?_))))
   refine r_nil ?_
   refine cF hF (fun hF => ?_) fun hF => ?_
   ·
    refine ws 1152 1216 ?_
    refine qp (AB false) rfl ?_
    refine r_nil ?_
    refine w_ret ?_
    refine thenQ_r ?_
    cases hF
    exact eR
   ·
    refine w_skip ?_
    refine thenQ_n ?_
    refine w_seq ?_
    refine ws 1152 1472 ?_
    refine qp (.ptr 0 0 3) rfl (qp (AI v0.2.2.2.1) rfl (qp (.ptr 64 0 3) rfl (qp (AI v1.2.2.2.1) rfl (qp (AB (decide (v0.2.2.2.1 ≠ v1.2.2.2.1))) rfl ?_))))
    refine r_nil ?_
    refine cF hF (fun hF => ?_) fun hF => ?_
    ·
     refine ws 1472 1536 ?_
     refine qp (AB false) rfl ?_
     refine r_nil ?_
     refine w_ret ?_
     refine thenQ_r ?_
     cases hF
     exact eR
    ·
     refine w_skip ?_
     refine thenQ_n ?_
     refine w_seq ?_
     refine ws 1472 1792 ?_
     refine qp (.ptr 0 0 4) rfl (qp (AI v0.2.2.2.2) rfl (qp (.ptr 64 0 4) rfl (qp (AI v1.2.2.2.2) rfl (qp (AB (decide (v0.2.2.2.2 ≠ v1.2.2.2.2))) rfl ?_))))
     refine r_nil ?_
     refine cF hF (fun hF => ?_) fun hF => ?_
     ·
      refine ws 1792 1856 ?_
      refine qp (AB false) rfl ?_
      refine r_nil ?_
      refine w_ret ?_
      refine thenQ_r ?_
      cases hF
      exact eR
     ·
      refine w_skip ?_
      refine thenQ_n ?_
      refine ws 1792 1856 ?_
      refine qp (AB true) rfl ?_
      refine r_nil ?_
      refine w_ret ?_
      cases hF
      exact eR

def c6 : MC := (.seq (.reg [rg 2 (.p true (.mv (.c (.bool false))))]) (.seq (.seq (.reg [mvt 7 0, rg 8 (.p true (.lens (.t 7))), rg 9 (.p true (.bin .gtr (.t 8) (.c (.int .i64 1048576))))]) (.cond (.t 9) (.seq (.reg [rg 2 (.p true (.mv (.c (.bool true))))]) .ret) .skip)) (.seq (.reg [mvt 11 0, rg 12 (.call true 26 [(.t 11)]), mvt 10 12, rg 13 (.p true (.ext (.t 10) 0)), rg 14 (.p true (.ext (.t 10) 1)), rg 3 (.f (.alloc [((.int .i64 0), (0, false)), ((.str []), (0, false)), ((.str []), (0, false)), ((.int .i64 0), (0, false)), ((.int .i64 0), (0, false))])), ⟨none, none, (.f (.st (.t 3) (.t 13) 5))⟩, mvt 4 14]) (.seq (.reg [mvt 16 0, rg 17 (.call true 27 [(.t 16)]), mvt 15 17, rg 18 (.p true (.ext (.t 15) 0)), rg 19 (.p true (.ext (.t 15) 1)), rg 5 (.f (.alloc [((.int .i64 0), (0, false)), ((.str []), (0, false)), ((.str []), (0, false)), ((.int .i64 0), (0, false)), ((.int .i64 0), (0, false))])), ⟨none, none, (.f (.st (.t 5) (.t 18) 5))⟩, mvt 6 19]) (.seq (.seq (.reg [rg 20 (.p true (.ld (.t 5) 5 true)), rg 21 (.p true (.ld (.t 3) 5 true)), rg 22 (.call true 28 [(.t 20), (.t 21)]), rg 23 (.p true (.not (.t 22))), mvt 24 23, ⟨(some 25), (some (24, false)), (.p true (.mv (.t 6)))⟩, ⟨(some 26), (some (24, false)), (.p true (.mv (.t 4)))⟩, ⟨(some 27), (some (24, false)), (.p true (.bnb true (.t 25) (.t 26)))⟩, rg 28 (.p true (.pick (.t 24) (.c (.bool true)) (.t 27)))]) (.cond (.t 28) (.seq (.reg [rg 2 (.p true (.mv (.c (.bool false))))]) .ret) .skip)) (.seq (.reg [rg 2 (.p true (.mv (.c (.bool true))))]) .ret))))))
theorem c6_is : compFn Tryd.prog 6 = some (c6, [(.tmp 2)]) := by kernel_rfl
theorem c6_ok : okFn Tryd.prog 6 = true := by kernel_rfl

noncomputable def F_laws_FnExactReadLesson (v0 : List UInt8) : Option (Bool) :=
 (bif (decide ((1048576 : Int) < (v0.length : Int))) then some true
 else ((F_spec_ReadLesson v0).bind fun v1000 => ((F_impl_ReadLesson v0).bind fun v1001 => ((F_laws_eqLesson v1001.1 v1000.1).bind fun v1002 => (bif (!v1002) then some false
 else (bif (v1001.2 != v1000.2) then some false
 else some true))))))
@[simp] def res_laws_FnExactReadLesson (r : Bool) : RV := .one (.one (.val (.bool r)))
theorem con_laws_FnExactReadLesson {v0 : List UInt8} {r : Bool} (hF : F_laws_FnExactReadLesson v0 = some r) : Con Tryd.prog 6 [.str v0] (res_laws_FnExactReadLesson r) := by
 unfold F_laws_FnExactReadLesson at hF
 refine con_of c6_is fun N => ?_
 refine ws 0 64 ?_
 refine qp (AB false) rfl ?_
 refine r_nil ?_
 refine w_seq ?_
 refine ws 64 256 ?_
 refine qp (AS v0) rfl (qp (AI (v0.length : Int)) rfl (qp (AB (decide ((1048576 : Int) < (v0.length : Int)))) rfl ?_))
 refine r_nil ?_
 refine cF hF (fun hF => ?_) fun hF => ?_
 ·
  refine ws 256 320 ?_
  refine qp (AB true) rfl ?_
  refine r_nil ?_
  refine w_ret ?_
  refine thenQ_r ?_
  cases hF
  exact eR
 ·
  refine w_skip ?_
  refine thenQ_n ?_
  refine ws 256 768 ?_
  refine qp (AS v0) rfl ?_
  obtain ⟨v1000, e1000, hF⟩ := bind_get hF
  refine qc (.tup [.val none (eLesson v1000.1), AB v1000.2]) [] false (con_spec_ReadLesson e1000) c26_ok (by first | rfl | simp) rfl ?_
  refine qp (.tup [.val none (eLesson v1000.1), AB v1000.2]) rfl (qp (.val none (eLesson v1000.1)) rfl (qp (AB v1000.2) rfl ?_))
  refine qf (.ptr 576 0 0) [(576, .box [AI 0, AS [], AS [], AI 0, AI 0])] (by simp) ?_
  refine qf0 (.undef) [(576, .box [AI v1000.1.1, AS v1000.1.2.1, AS v1000.1.2.2.1, AI v1000.1.2.2.2.1, AI v1000.1.2.2.2.2]), (576, .box [AI 0, AS [], AS [], AI 0, AI 0])] (by simp) ?_
  refine qp (AB v1000.2) rfl ?_
  refine r_nil ?_
  refine ws 768 1280 ?_
  refine qp (AS v0) rfl ?_
  obtain ⟨v1001, e1001, hF⟩ := bind_get hF
  refine qc (.tup [.val none (eLesson v1001.1), AB v1001.2]) [(576, .box [AI v1000.1.1, AS v1000.1.2.1, AS v1000.1.2.2.1, AI v1000.1.2.2.2.1, AI v1000.1.2.2.2.2]), (576, .box [AI 0, AS [], AS [], AI 0, AI 0])] false (con_impl_ReadLesson e1001) c27_ok (by first | rfl | simp) rfl ?_
  refine qp (.tup [.val none (eLesson v1001.1), AB v1001.2]) rfl (qp (.val none (eLesson v1001.1)) rfl (qp (AB v1001.2) rfl ?_))
  refine qf (.ptr 1088 0 0) [(1088, .box [AI 0, AS [], AS [], AI 0, AI 0]), (576, .box [AI v1000.1.1, AS v1000.1.2.1, AS v1000.1.2.2.1, AI v1000.1.2.2.2.1, AI v1000.1.2.2.2.2]), (576, .box [AI 0, AS [], AS [], AI 0, AI 0])] (by simp) ?_
  refine qf0 (.undef) [(1088, .box [AI v1001.1.1, AS v1001.1.2.1, AS v1001.1.2.2.1, AI v1001.1.2.2.2.1, AI v1001.1.2.2.2.2]), (1088, .box [AI 0, AS [], AS [], AI 0, AI 0]), (576, .box [AI v1000.1.1, AS v1000.1.2.1, AS v1000.1.2.2.1, AI v1000.1.2.2.2.1, AI v1000.1.2.2.2.2]), (576, .box [AI 0, AS [], AS [], AI 0, AI 0])] (by simp) ?_
  refine qp (AB v1001.2) rfl ?_
  refine r_nil ?_
  refine w_seq ?_
  refine ws 1280 1856 ?_
  refine qp (.agg [AI v1001.1.1, AS v1001.1.2.1, AS v1001.1.2.2.1, AI v1001.1.2.2.2.1, AI v1001.1.2.2.2.2]) rfl (qp (.agg [AI v1000.1.1, AS v1000.1.2.1, AS v1000.1.2.2.1, AI v1000.1.2.2.2.1, AI v1000.1.2.2.2.2]) rfl ?_)
  obtain ⟨v1002, e1002, hF⟩ := bind_get hF
  refine qc (AB v1002) [(1088, .box [AI v1001.1.1, AS v1001.1.2.1, AS v1001.1.2.2.1, AI v1001.1.2.2.2.1, AI v1001.1.2.2.2.2]), (1088, .box [AI 0, AS [], AS [], AI 0, AI 0]), (576, .box [AI v1000.1.1, AS v1000.1.2.1, AS v1000.1.2.2.1, AI v1000.1.2.2.2.1, AI v1000.1.2.2.2.2]), (576, .box [AI 0, AS [], AS [], AI 0, AI 0])] false (con_laws_eqLesson e1002) c28_ok (by first | rfl | simp) rfl ?_
  refine qp (AB (!v1002)) rfl (qp (AB (!v1002)) rfl ?_)
  refine q_case 24 hF rfl (fun hF => ?_) (fun hF => ?_)
  ·
   refine qn rfl (qn rfl (qn rfl (qp (AB true) rfl ?_)))
   refine r_nil ?_
   refine w_true rfl ?_
   refine ws 1856 1920 ?_
   refine qp (AB false) rfl ?_
   refine r_nil ?_
   refine w_ret ?_
   refine thenQ_r ?_
   cases hF
   exact eR
  ·
   refine qg (AB v1001.2) rfl rfl (qg (AB v1000.2) rfl rfl (qg (AB (v1001.2 != v1000.2)) rfl rfl (qp (AB (v1001.2 != v1000.2)) rfl ?_)))
   refine r_nil ?_
   refine cF hF (fun hF => ?_) fun hF => ?_
   ·
    refine ws 1856 1920 ?_
    refine qp (AB false) rfl ?_
    refine r_nil ?_
    refine w_ret ?_
    refine thenQ_r ?_
    cases hF
    exact eR
   ·
    refine w_skip ?_
    refine thenQ_n ?_
    refine ws 1856 1920 ?_
    refine qp (AB true) rfl ?_
    refine r_nil ?_
    refine w_ret ?_
    cases hF
    exact eR

end Go.Ab
