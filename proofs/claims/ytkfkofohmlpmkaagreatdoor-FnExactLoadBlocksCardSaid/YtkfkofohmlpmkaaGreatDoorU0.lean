/- Walks (printed by auto.py, a program of this session's own). -/
import Derived.Test.YtkfkofohmlpmkaaGreatDoorS0
import Derived.Test.YtkfkofohmlpmkaaGreatDoorProg
import Derived.KernelRfl
import Derived.Test.YtkfkofohmlpmkaaGreatDoorSQ
set_option linter.unusedVariables false
set_option linter.unusedSimpArgs false
set_option maxRecDepth 8000
set_option maxHeartbeats 8000000
namespace Go.Ab
open Go.RowKit Go.Proofs

abbrev TBlock := (List UInt8) × (List UInt8) × (List UInt8)
@[simp] def eBlock (p : TBlock) : V := .agg [.str p.1, .str p.2.1, .str p.2.2]
def c23 : MC := (.seq (.reg [rg 4 (.f (.nilrow 1))]) (.seq (.reg [rg 8 (.f (.bsl 1 [])), mvt 5 8]) (.seq (.reg [rg 6 (.p true (.mv (.c (.int .i64 0))))]) (.seq (.seq (.reg [rg 7 (.p true (.mv (.c (.int .i64 0))))]) (.block 0 (.loop (.seq (.seq (.reg [mvt 9 7, mvt 10 0, rg 11 (.p true (.lens (.t 10))), rg 12 (.p true (.bin .lss (.t 9) (.t 11)))]) (.cond (.t 12) .skip (.exit 0))) (.seq (.block 1 (.seq (.reg [mvt 15 0, mvt 16 7, rg 17 (.p true (.ixs (.t 15) (.t 16))), mvt 18 1, rg 19 (.p true (.bin .eql (.t 17) (.t 18)))]) (.cond (.t 19) (.seq (.reg [mvt 20 5, mvt 21 0, mvt 22 6, mvt 23 7, rg 24 (.p true (.slcs (.t 21) (some (.t 22)) (some (.t 23)))), rg 25 (.f (.bsl 1 [(.t 24)])), rg 26 (.f (.app (.t 20) (.t 25) 1 16 true)), mvt 5 26]) (.reg [mvt 27 7, rg 28 (.p true (.bin .add (.t 27) (.c (.int .i64 1)))), mvt 6 28])) .skip))) (.reg [mvt 13 7, rg 14 (.p true (.bin .add (.t 13) (.c (.int .i64 1)))), mvt 7 14])))))) (.seq (.reg [mvt 29 5, mvt 30 0, mvt 31 6, rg 32 (.p true (.slcs (.t 30) (some (.t 31)) none)), rg 33 (.f (.bsl 1 [(.t 32)])), rg 34 (.f (.app (.t 29) (.t 33) 1 16 true)), mvt 4 34]) .ret)))))
theorem c23_is : compFn Tryz.prog 23 = some (c23, [(.tmp 4)]) := by kernel_rfl
theorem c23_ok : okFn Tryz.prog 23 = true := by kernel_rfl

noncomputable def F_spec_l01Split_l0 (v0 : List UInt8) (v1 : Int) (k0 : Int × Int × (List (List UInt8)) → Option (List (List UInt8))) : Int × Int × (List (List UInt8)) → Option (List (List UInt8))
 | (v50003, v50004, v50005) => (bif (decide (v50004 < (v0.length : Int))) then ((ix v0 v50004).bind fun v1000 => (bif (decide ((v1000.toNat : Int) = v1)) then (need (0 ≤ v50003 ∧ v50003 ≤ v50004 ∧ v50004 ≤ (v0.length : Int)) ((need (room (v50005.length + [sub v0 v50003 v50004].length) 16) (k0 (w64 (v50004 + 1), w64 (v50004 + 1), v50005 ++ [sub v0 v50003 v50004])))))
 else k0 (v50003, w64 (v50004 + 1), v50005)))
 else (need (0 ≤ v50003 ∧ v50003 ≤ (v0.length : Int) ∧ (v0.length : Int) ≤ (v0.length : Int)) ((need (room (v50005.length + [sub v0 v50003 (v0.length : Int)].length) 16) (some (v50005 ++ [sub v0 v50003 (v0.length : Int)]))))))
noncomputable def F_spec_l01Split (v0 : List UInt8) (v1 : Int) : Option (List (List UInt8)) :=
 loop (F_spec_l01Split_l0 v0 v1) (0, 0, [])
@[simp] def res_spec_l01Split (r : List (List UInt8)) : RV := .one (.one (.row true 1 (r.map V.str)))
theorem con_spec_l01Split {v0 : List UInt8} {v1 : Int} {r : List (List UInt8)} (hF : F_spec_l01Split v0 v1 = some r) : Con Tryz.prog 23 [.str v0, .int .u8 v1] (res_spec_l01Split r) := by
 unfold F_spec_l01Split at hF
 refine con_of c23_is fun N => ?_
 refine ws 0 64 ?_
 refine qf (.sl 0 0 0) [(0, .row true 1 (([] : List Int).map vI))] (by simp) ?_
 refine r_nil ?_
 refine ws 64 192 ?_
 refine qf (.sl 64 0 0) [(64, .row true 1 (([] : List (List UInt8)).map V.str)), (0, .row true 1 (([] : List Int).map vI))] (by simp [List.take_of_length_le]) ?_
 refine qp (.sl 64 0 0) rfl ?_
 refine r_nil ?_
 refine ws 192 256 ?_
 refine qp (AI 0) rfl ?_
 refine r_nil ?_
 refine w_seq ?_
 refine ws 256 320 ?_
 refine qp (AI 0) rfl ?_
 refine r_nil ?_
 refine w_block ?_
 refine wr (l' := [(0, AS v0), (1, .val none (.int .u8 v1)), (5, .sl 0 0 0), (6, AI 0), (7, AI 0)]) (L := [(0, .row true 1 (([] : List (List UInt8)).map V.str))]) [0, 1, 5, 6, 7] [(64, 0)] 1 ?_
 refine w_loopF (F_spec_l01Split_l0 v0 v1) (fun s : Int × Int × (List (List UInt8)) => mkS [(0, AS v0), (1, .val none (.int .u8 v1)), (5, .sl 0 0 s.2.2.length), (6, AI s.1), (7, AI s.2.1)] (fo [(0, .row true 1 (s.2.2.map V.str))]) 1) hF ?_
 rintro k0 ⟨v50003, v50004, v50005⟩ hF
 rw [F_spec_l01Split_l0] at hF
 try dsimp only
 refine w_seq ?_
 refine ws 1 257 ?_
 refine qp (AI v50004) rfl (qp (AS v0) rfl (qp (AI (v0.length : Int)) rfl (qp (AB (decide (v50004 < (v0.length : Int)))) rfl ?_)))
 refine r_nil ?_
 refine cF hF (fun hF => ?_) fun hF => ?_
 ·
  refine w_skip ?_
  refine thenQ_n ?_
  refine w_seq ?_
  refine w_block ?_
  refine ws 257 577 ?_
  refine qp (AS v0) rfl (qp (AI v50004) rfl ?_)
  obtain ⟨v1000, e1000, hF⟩ := bind_get hF
  refine qp (.val none (.int .u8 (v1000.toNat : Int))) (ev_ixs rfl rfl e1000) (qp (.val none (.int .u8 v1)) rfl (qp (AB (decide ((v1000.toNat : Int) = v1))) rfl ?_))
  refine r_nil ?_
  refine cF hF (fun hF => ?_) fun hF => ?_
  ·
   refine ws 577 1089 ?_
   refine qp (.sl 0 0 v50005.length) rfl (qp (AS v0) rfl (qp (AI v50003) rfl (qp (AI v50004) rfl ?_)))
   obtain ⟨g1001, hF⟩ := need_some hF
   refine qp (AS (sub v0 v50003 v50004)) (ev_slcs rfl (bnd_some rfl g1001.1) (bnd_some rfl (Int.le_trans g1001.1 g1001.2.1)) g1001) ?_
   refine qf (.sl 897 0 ([sub v0 v50003 v50004].length)) [(897, .row true 1 ([sub v0 v50003 v50004].map V.str)), (0, .row true 1 (v50005.map V.str))] (by simp [List.take_of_length_le]) ?_
   obtain ⟨g1002, hF⟩ := need_some hF
   refine qf (.sl 961 0 ((v50005 ++ [sub v0 v50003 v50004]).length)) [(961, .row true 1 ((v50005 ++ [sub v0 v50003 v50004]).map V.str)), (0, .dead), (897, .dead), (897, .row true 1 ([sub v0 v50003 v50004].map V.str)), (0, .row true 1 (v50005.map V.str))] (effT_app_l rfl (by simp) rfl rfl (by simp) rfl (by decide) g1002 rfl) ?_
   refine qp (.sl 961 0 ((v50005 ++ [sub v0 v50003 v50004]).length)) rfl ?_
   refine r_nil ?_
   refine w_reg 1089 1281 rfl rfl ?_
   refine qp (AI v50004) rfl (qp (AI (w64 (v50004 + 1))) rfl (qp (AI (w64 (v50004 + 1))) rfl ?_))
   refine r_nil ?_
   refine blockQ_n ?_
   refine thenQ_n ?_
   refine w_reg 1281 1473 rfl rfl ?_
   refine qp (AI v50004) rfl (qp (AI (w64 (v50004 + 1))) rfl (qp (AI (w64 (v50004 + 1))) rfl ?_))
   refine r_nil ?_
   refine thenQ_n ?_
   refine ar (l' := [(0, AS v0), (1, .val none (.int .u8 v1)), (5, .sl 0 0 (v50005 ++ [sub v0 v50003 v50004]).length), (6, AI (w64 (v50004 + 1))), (7, AI (w64 (v50004 + 1)))]) (L := [(0, .row true 1 ((v50005 ++ [sub v0 v50003 v50004]).map V.str))]) [0, 1, 5, 6, 7] [(961, 0)] 1 ⟨_, by rfl, hF⟩
  ·
   refine w_skip ?_
   refine blockQ_n ?_
   refine thenQ_n ?_
   refine w_reg 577 769 rfl rfl ?_
   refine qp (AI v50004) rfl (qp (AI (w64 (v50004 + 1))) rfl (qp (AI (w64 (v50004 + 1))) rfl ?_))
   refine r_nil ?_
   refine thenQ_n ?_
   refine ar (l' := [(0, AS v0), (1, .val none (.int .u8 v1)), (5, .sl 0 0 v50005.length), (6, AI v50003), (7, AI (w64 (v50004 + 1)))]) (L := [(0, .row true 1 (v50005.map V.str))]) [0, 1, 5, 6, 7] [(0, 0)] 1 ⟨_, by rfl, hF⟩
 ·
  refine w_exit ?_
  refine thenQ_e ?_
  refine thenQ_e ?_
  refine blockQ_e ?_
  refine thenQ_n ?_
  refine ws 257 705 ?_
  refine qp (.sl 0 0 v50005.length) rfl (qp (AS v0) rfl (qp (AI v50003) rfl ?_))
  obtain ⟨g1003, hF⟩ := need_some hF
  refine qp (AS (sub v0 v50003 (v0.length : Int))) (ev_slcs rfl (bnd_some rfl g1003.1) rfl g1003) ?_
  refine qf (.sl 513 0 ([sub v0 v50003 (v0.length : Int)].length)) [(513, .row true 1 ([sub v0 v50003 (v0.length : Int)].map V.str)), (0, .row true 1 (v50005.map V.str))] (by simp [List.take_of_length_le]) ?_
  obtain ⟨g1004, hF⟩ := need_some hF
  refine qf (.sl 577 0 ((v50005 ++ [sub v0 v50003 (v0.length : Int)]).length)) [(577, .row true 1 ((v50005 ++ [sub v0 v50003 (v0.length : Int)]).map V.str)), (0, .dead), (513, .dead), (513, .row true 1 ([sub v0 v50003 (v0.length : Int)].map V.str)), (0, .row true 1 (v50005.map V.str))] (effT_app_l rfl (by simp) rfl rfl (by simp) rfl (by decide) g1004 rfl) ?_
  refine qp (.sl 577 0 ((v50005 ++ [sub v0 v50003 (v0.length : Int)]).length)) rfl ?_
  refine r_nil ?_
  refine w_ret ?_
  cases hF
  exact eR

def c9 : MC := (.seq (.reg [rg 2 (.f (.nilrow 1)), rg 3 (.p true (.mv (.c (.bool false))))]) (.seq (.reg [mvt 6 0, rg 7 (.call true 23 [(.t 6), (.c (.int .u8 10))]), mvt 4 7]) (.seq (.reg [mvt 8 4, rg 9 (.p true (.len (.t 8))), rg 10 (.p true (.bin .sub (.t 9) (.c (.int .i64 1)))), mvt 5 10]) (.seq (.reg [rg 11 (.p false (.mv (.t 4))), rg 12 (.p false (.mv (.t 5))), rg 13 (.p false (.slc (.t 11) none (some (.t 12)) 1)), rg 14 (.p false (.mv (.t 4))), rg 15 (.p false (.mv (.t 5))), rg 16 (.p false (.iad (.t 14) (.t 15) 1)), rg 17 (.p false (.ld (.t 16) 1 false)), rg 18 (.p false (.bin .eql (.t 17) (.c (.str [])))), rg 2 (.p false (.mv (.t 13))), rg 3 (.p false (.mv (.t 18)))]) .ret))))
theorem c9_is : compFn Tryz.prog 9 = some (c9, [(.tmp 2), (.tmp 3)]) := by kernel_rfl
theorem c9_ok : okFn Tryz.prog 9 = true := by kernel_rfl

noncomputable def F_spec_l29Lines (v0 : List UInt8) : Option ((List (List UInt8)) × Bool) :=
 ((F_spec_l01Split v0 10).bind fun v1000 => (need (0 ≤ (0 : Int) ∧ (0 : Int) ≤ w64 ((v1000.length : Int) - 1) ∧ w64 ((v1000.length : Int) - 1) ≤ (v1000.length : Int)) (((ix v1000 (w64 ((v1000.length : Int) - 1))).bind fun v1002 => some (sub v1000 (0 : Int) (w64 ((v1000.length : Int) - 1)), (decide (v1002 = [])))))))
@[simp] def res_spec_l29Lines (r : (List (List UInt8)) × Bool) : RV := .tup [.one (.row true 1 (r.1.map V.str)), .one (.val (.bool r.2))]
theorem con_spec_l29Lines {v0 : List UInt8} {r : (List (List UInt8)) × Bool} (hF : F_spec_l29Lines v0 = some r) : Con Tryz.prog 9 [.str v0] (res_spec_l29Lines r) := by
 unfold F_spec_l29Lines at hF
 refine con_of c9_is fun N => ?_
 refine ws 0 128 ?_
 refine qf (.sl 0 0 0) [(0, .row true 1 (([] : List Int).map vI))] (by simp) ?_
 refine qp (AB false) rfl ?_
 refine r_nil ?_
 refine ws 128 320 ?_
 refine qp (AS v0) rfl ?_
 obtain ⟨v1000, e1000, hF⟩ := bind_get hF
 refine qc (.sl 192 0 v1000.length) [(192, .row true 1 (v1000.map V.str)), (0, .row true 1 (([] : List Int).map vI))] false (con_spec_l01Split e1000) c23_ok (by first | rfl | simp) (by simp [res_spec_l01Split]) ?_
 refine qp (.sl 192 0 v1000.length) rfl ?_
 refine r_nil ?_
 refine ws 320 576 ?_
 refine qp (.sl 192 0 v1000.length) rfl (qp (AI (v1000.length : Int)) rfl (qp (AI (w64 ((v1000.length : Int) - 1))) rfl (qp (AI (w64 ((v1000.length : Int) - 1))) rfl ?_)))
 refine r_nil ?_
 refine ws 576 1216 ?_
 refine qp (.sl 192 0 v1000.length) rfl (qp (AI (w64 ((v1000.length : Int) - 1))) rfl ?_)
 obtain ⟨g1001, hF⟩ := need_some hF
 refine qp (.sl 192 (0 : Int).toNat ((w64 ((v1000.length : Int) - 1)).toNat - (0 : Int).toNat)) (ev_slc_r rfl (by simp) rfl rfl (bnd_some rfl (Int.le_trans g1001.1 g1001.2.1)) g1001) (qp (.sl 192 0 v1000.length) rfl (qp (AI (w64 ((v1000.length : Int) - 1))) rfl ?_))
 obtain ⟨v1002, e1002, hF⟩ := bind_get hF
 refine qp (.ptr 192 ((w64 ((v1000.length : Int) - 1)).toNat) 0) (ev_iad_r rfl (by simp) rfl rfl e1002) (qp (AS v1002) (ev_ld_r rfl rfl (ix_some e1002).2 rfl rfl) (qp (AB (decide (v1002 = []))) rfl (qp (.sl 192 (0 : Int).toNat ((w64 ((v1000.length : Int) - 1)).toNat - (0 : Int).toNat)) rfl (qp (AB (decide (v1002 = []))) rfl ?_))))
 refine r_nil ?_
 have g1003 : 0 ≤ (0 : Int) ∧ (0 : Int) ≤ w64 ((v1000.length : Int) - 1) ∧ w64 ((v1000.length : Int) - 1) ≤ (v1000.length : Int) := by first | exact g1001 | (have h := g1001; simp only [] at h ⊢; exact h)
 refine w_drop (l' := [(2, .sl 192 (0 : Int).toNat ((w64 ((v1000.length : Int) - 1)).toNat - (0 : Int).toNat)), (3, AB (decide (v1002 = [])))]) [2, 3] (by first | rfl | simp) ?_
 refine w_rebF (l' := [(2, .sl 192 0 ((sub v1000 (0 : Int) (w64 ((v1000.length : Int) - 1))).length)), (3, AB (decide (v1002 = [])))]) (r := 192) (lo := (0 : Int)) (hi := w64 ((v1000.length : Int) - 1)) rfl g1003 (RebL.part (sub_len g1003) (RebL.keep rfl RebL.nil)) rfl ?_
 refine w_ret ?_
 cases hF
 exact eR

def c41 : MC := (.seq (.reg [rg 2 (.p true (.mv (.c (.bool false))))]) (.seq (.reg [mvt 3 0, rg 4 (.p true (.bin .geq (.t 3) (.c (.int .u8 48)))), mvt 5 4, ⟨(some 6), (some (5, true)), (.p true (.mv (.t 0)))⟩, ⟨(some 7), (some (5, true)), (.p true (.bin .leq (.t 6) (.c (.int .u8 57))))⟩, rg 8 (.p true (.pick (.t 5) (.t 7) (.c (.bool false)))), mvt 2 8]) .ret))
theorem c41_is : compFn Tryz.prog 41 = some (c41, [(.tmp 2)]) := by kernel_rfl
theorem c41_ok : okFn Tryz.prog 41 = true := by kernel_rfl

noncomputable def F_spec_l01Digit (v0 : Int) : Option (Bool) :=
 (bif (decide ((48 : Int) ≤ v0)) then some (decide (v0 ≤ (57 : Int)))
 else some false)
@[simp] def res_spec_l01Digit (r : Bool) : RV := .one (.one (.val (.bool r)))
theorem con_spec_l01Digit {v0 : Int} {r : Bool} (hF : F_spec_l01Digit v0 = some r) : Con Tryz.prog 41 [.int .u8 v0] (res_spec_l01Digit r) := by
 unfold F_spec_l01Digit at hF
 refine con_of c41_is fun N => ?_
 refine ws 0 64 ?_
 refine qp (AB false) rfl ?_
 refine r_nil ?_
 refine ws 64 512 ?_
 refine qp (.val none (.int .u8 v0)) rfl (qp (AB (decide ((48 : Int) ≤ v0))) rfl (qp (AB (decide ((48 : Int) ≤ v0))) rfl ?_))
 refine q_case 5 hF rfl (fun hF => ?_) (fun hF => ?_)
 ·
  refine qg (.val none (.int .u8 v0)) rfl rfl (qg (AB (decide (v0 ≤ (57 : Int)))) rfl rfl (qp (AB (decide (v0 ≤ (57 : Int)))) rfl (qp (AB (decide (v0 ≤ (57 : Int)))) rfl ?_)))
  refine r_nil ?_
  refine w_ret ?_
  cases hF
  exact eR
 ·
  refine qn rfl (qn rfl (qp (AB false) rfl (qp (AB false) rfl ?_)))
  refine r_nil ?_
  refine w_ret ?_
  cases hF
  exact eR

def c24 : MC := (.seq (.reg [rg 2 (.p true (.mv (.c (.int .i64 0)))), rg 3 (.p true (.mv (.c (.bool false))))]) (.seq (.reg [rg 4 (.p true (.mv (.c (.int .i64 0))))]) (.seq (.seq (.reg [mvt 7 0, rg 8 (.p true (.lens (.t 7))), rg 9 (.p true (.bin .gtr (.t 8) (.c (.int .i64 0)))), mvt 10 9, ⟨(some 11), (some (10, true)), (.p true (.mv (.t 0)))⟩, ⟨(some 12), (some (10, true)), (.p true (.ixs (.t 11) (.c (.int .i64 0))))⟩, ⟨(some 13), (some (10, true)), (.p true (.bin .eql (.t 12) (.c (.int .u8 45))))⟩, rg 14 (.p true (.pick (.t 10) (.t 13) (.c (.bool false))))]) (.cond (.t 14) (.reg [rg 4 (.p true (.mv (.c (.int .i64 1))))]) .skip)) (.seq (.seq (.reg [mvt 15 0, rg 16 (.p true (.lens (.t 15))), mvt 17 4, rg 18 (.p true (.bin .eql (.t 16) (.t 17))), mvt 19 18, ⟨(some 20), (some (19, false)), (.p true (.mv (.t 0)))⟩, ⟨(some 21), (some (19, false)), (.p true (.lens (.t 20)))⟩, ⟨(some 22), (some (19, false)), (.p true (.mv (.t 4)))⟩, ⟨(some 23), (some (19, false)), (.p true (.bin .sub (.t 21) (.t 22)))⟩, ⟨(some 24), (some (19, false)), (.p true (.bin .gtr (.t 23) (.c (.int .i64 18))))⟩, rg 25 (.p true (.pick (.t 19) (.c (.bool true)) (.t 24))), mvt 26 25, ⟨(some 27), (some (26, false)), (.p true (.mv (.t 0)))⟩, ⟨(some 28), (some (26, false)), (.p true (.mv (.t 4)))⟩, ⟨(some 29), (some (26, false)), (.p true (.ixs (.t 27) (.t 28)))⟩, ⟨(some 30), (some (26, false)), (.p true (.bin .eql (.t 29) (.c (.int .u8 48))))⟩, ⟨(some 31), (some (26, false)), (.p true (.mv (.t 30)))⟩, ⟨(some 32), (some (31, true)), (.p true (.mv (.t 0)))⟩, ⟨(some 33), (some (31, true)), (.p true (.lens (.t 32)))⟩, ⟨(some 34), (some (31, true)), (.p true (.bin .gtr (.t 33) (.c (.int .i64 1))))⟩, ⟨(some 35), (some (26, false)), (.p true (.pick (.t 31) (.t 34) (.c (.bool false))))⟩, rg 36 (.p true (.pick (.t 26) (.c (.bool true)) (.t 35)))]) (.cond (.t 36) (.seq (.reg [rg 2 (.p true (.mv (.c (.int .i64 0)))), rg 3 (.p true (.mv (.c (.bool false))))]) .ret) .skip)) (.seq (.reg [rg 5 (.p true (.mv (.c (.int .i64 0))))]) (.seq (.seq (.reg [mvt 37 4, mvt 6 37]) (.block 0 (.loop (.seq (.seq (.reg [mvt 38 6, mvt 39 0, rg 40 (.p true (.lens (.t 39))), rg 41 (.p true (.bin .lss (.t 38) (.t 40)))]) (.cond (.t 41) .skip (.exit 0))) (.seq (.block 1 (.seq (.seq (.reg [mvt 44 0, mvt 45 6, rg 46 (.p true (.ixs (.t 44) (.t 45))), rg 47 (.call true 41 [(.t 46)]), rg 48 (.p true (.not (.t 47)))]) (.cond (.t 48) (.seq (.reg [rg 2 (.p true (.mv (.c (.int .i64 0)))), rg 3 (.p true (.mv (.c (.bool false))))]) .ret) .skip)) (.reg [mvt 49 5, rg 50 (.p true (.bin .mul (.c (.int .i64 10)) (.t 49))), mvt 51 0, mvt 52 6, rg 53 (.p true (.ixs (.t 51) (.t 52))), rg 54 (.p true (.bin .sub (.t 53) (.c (.int .u8 48)))), rg 55 (.p true (.conv .i64 (.t 54))), rg 56 (.p true (.bin .add (.t 50) (.t 55))), mvt 5 56]))) (.reg [mvt 42 6, rg 43 (.p true (.bin .add (.t 42) (.c (.int .i64 1)))), mvt 6 43])))))) (.seq (.seq (.reg [mvt 57 4, rg 58 (.p true (.bin .eql (.t 57) (.c (.int .i64 1))))]) (.cond (.t 58) (.reg [mvt 59 5, rg 60 (.p true (.neg (.t 59))), mvt 5 60]) .skip)) (.seq (.reg [mvt 61 5, mvt 2 61, rg 3 (.p true (.mv (.c (.bool true))))]) .ret))))))))
theorem c24_is : compFn Tryz.prog 24 = some (c24, [(.tmp 2), (.tmp 3)]) := by kernel_rfl
theorem c24_ok : okFn Tryz.prog 24 = true := by kernel_rfl

noncomputable def F_spec_l01Number_l2 (v0 : List UInt8) (v50000 : Int) (k0 : Int × Int → Option (Int × Bool)) : Int × Int → Option (Int × Bool)
 | (v50003, v50004) => (bif (decide (v50004 < (v0.length : Int))) then ((ix v0 v50004).bind fun v1002 => ((F_spec_l01Digit (v1002.toNat : Int)).bind fun v1003 => (bif (!v1003) then some (0, false)
 else ((ix v0 v50004).bind fun v1004 => k0 (w64 ((w64 (10 * v50003)) + (w64 (IntKind.wrap .u8 ((v1004.toNat : Int) - 48)))), w64 (v50004 + 1))))))
 else (bif (decide (v50000 = (1 : Int))) then some (w64 (0 - v50003), true)
 else some (v50003, true)))
noncomputable def F_spec_l01Number_j1 (v0 : List UInt8) (v50000 : Int) : Option (Int × Bool) :=
 loop (F_spec_l01Number_l2 v0 v50000) (0, v50000)
noncomputable def F_spec_l01Number_j0 (v0 : List UInt8) (v50000 : Int) : Option (Int × Bool) :=
 (bif (decide ((v0.length : Int) = v50000)) then some (0, false)
 else (bif (decide ((18 : Int) < w64 ((v0.length : Int) - v50000))) then some (0, false)
 else ((ix v0 v50000).bind fun v1001 => (bif (decide ((v1001.toNat : Int) = (48 : Int))) then (bif (decide ((1 : Int) < (v0.length : Int))) then some (0, false)
 else F_spec_l01Number_j1 v0 v50000)
 else F_spec_l01Number_j1 v0 v50000))))
noncomputable def F_spec_l01Number (v0 : List UInt8) : Option (Int × Bool) :=
 (bif (decide ((0 : Int) < (v0.length : Int))) then ((ix v0 0).bind fun v1000 => (bif (decide ((v1000.toNat : Int) = (45 : Int))) then F_spec_l01Number_j0 v0 1
 else F_spec_l01Number_j0 v0 0))
 else F_spec_l01Number_j0 v0 0)
@[simp] def res_spec_l01Number (r : Int × Bool) : RV := .tup [.one (.val (.int .i64 r.1)), .one (.val (.bool r.2))]
theorem con_spec_l01Number {v0 : List UInt8} {r : Int × Bool} (hF : F_spec_l01Number v0 = some r) : Con Tryz.prog 24 [.str v0] (res_spec_l01Number r) := by
 unfold F_spec_l01Number at hF
 refine con_of c24_is fun N => ?_
 refine ws 0 128 ?_
 refine qp (AI 0) rfl (qp (AB false) rfl ?_)
 refine r_nil ?_
 refine ws 128 192 ?_
 refine qp (AI 0) rfl ?_
 refine r_nil ?_
 refine w_meet (fun s' => ∃ (v50000 : Int), s' = mkS [(0, AS v0), (4, AI v50000)] (fo []) 1 ∧ F_spec_l01Number_j0 v0 v50000 = some r) ?_ ?_
 ·
  refine ws 192 704 ?_
  refine qp (AS v0) rfl (qp (AI (v0.length : Int)) rfl (qp (AB (decide ((0 : Int) < (v0.length : Int)))) rfl (qp (AB (decide ((0 : Int) < (v0.length : Int)))) rfl ?_)))
  refine q_case 10 hF rfl (fun hF => ?_) (fun hF => ?_)
  ·
   refine qg (AS v0) rfl rfl ?_
   obtain ⟨v1000, e1000, hF⟩ := bind_get hF
   refine qg (.val none (.int .u8 (v1000.toNat : Int))) rfl (ev_ixs rfl rfl e1000) (qg (AB (decide ((v1000.toNat : Int) = (45 : Int)))) rfl rfl (qp (AB (decide ((v1000.toNat : Int) = (45 : Int)))) rfl ?_))
   refine r_nil ?_
   refine cF hF (fun hF => ?_) fun hF => ?_
   ·
    refine w_reg 704 768 rfl rfl ?_
    refine qp (AI 1) rfl ?_
    refine r_nil ?_
    refine thenQ_n ?_
    refine aw_ren (l' := [(0, AS v0), (4, AI 1)]) (L := []) [0, 4] [] 1 (by first | rfl | simp) (by first | rfl | simp) (by decide) (by decide) (by decide) ⟨_, rfl, hF⟩
   ·
    refine w_skip ?_
    refine thenQ_n ?_
    refine aw_ren (l' := [(0, AS v0), (4, AI 0)]) (L := []) [0, 4] [] 1 (by first | rfl | simp) (by first | rfl | simp) (by decide) (by decide) (by decide) ⟨_, rfl, hF⟩
  ·
   refine qn rfl (qn rfl (qn rfl (qp (AB false) rfl ?_)))
   refine r_nil ?_
   refine w_false rfl ?_
   refine w_skip ?_
   refine thenQ_n ?_
   refine aw_ren (l' := [(0, AS v0), (4, AI 0)]) (L := []) [0, 4] [] 1 (by first | rfl | simp) (by first | rfl | simp) (by decide) (by decide) (by decide) ⟨_, rfl, hF⟩
 ·
  rintro s' ⟨v50000, rfl, hF⟩
  unfold F_spec_l01Number_j0 at hF
  refine w_meet (fun s' => s' = mkS [(0, AS v0), (4, AI v50000)] (fo []) 1 ∧ F_spec_l01Number_j1 v0 v50000 = some r) ?_ ?_
  ·
   refine ws 1 1409 ?_
   refine qp (AS v0) rfl (qp (AI (v0.length : Int)) rfl (qp (AI v50000) rfl (qp (AB (decide ((v0.length : Int) = v50000))) rfl (qp (AB (decide ((v0.length : Int) = v50000))) rfl ?_))))
   refine q_case 19 hF rfl (fun hF => ?_) (fun hF => ?_)
   ·
    refine qn rfl (qn rfl (qn rfl (qn rfl (qn rfl (qp (AB true) rfl (qp (AB true) rfl (qn rfl ?_)))))))
    refine qn rfl (qn rfl (qn rfl (qn rfl (qu rfl (qu rfl (qu rfl (qn rfl ?_)))))))
    refine qp (AB true) rfl ?_
    refine r_nil ?_
    refine w_true rfl ?_
    refine ws 1409 1537 ?_
    refine qp (AI 0) rfl (qp (AB false) rfl ?_)
    refine r_nil ?_
    refine w_ret ?_
    refine thenQ_r ?_
    cases hF
    exact eR
   ·
    refine qg (AS v0) rfl rfl (qg (AI (v0.length : Int)) rfl rfl (qg (AI v50000) rfl rfl (qg (AI (w64 ((v0.length : Int) - v50000))) rfl rfl (qg (AB (decide ((18 : Int) < w64 ((v0.length : Int) - v50000)))) rfl rfl (qp (AB (decide ((18 : Int) < w64 ((v0.length : Int) - v50000)))) rfl (qp (AB (decide ((18 : Int) < w64 ((v0.length : Int) - v50000)))) rfl ?_))))))
    refine q_case 26 hF rfl (fun hF => ?_) (fun hF => ?_)
    ·
     refine qn rfl (qn rfl (qn rfl (qn rfl (qn rfl (qu rfl (qu rfl (qu rfl ?_)))))))
     refine qn rfl (qp (AB true) rfl ?_)
     refine r_nil ?_
     refine w_true rfl ?_
     refine ws 1409 1537 ?_
     refine qp (AI 0) rfl (qp (AB false) rfl ?_)
     refine r_nil ?_
     refine w_ret ?_
     refine thenQ_r ?_
     cases hF
     exact eR
    ·
     refine qg (AS v0) rfl rfl (qg (AI v50000) rfl rfl ?_)
     obtain ⟨v1001, e1001, hF⟩ := bind_get hF
     refine qg (.val none (.int .u8 (v1001.toNat : Int))) rfl (ev_ixs rfl rfl e1001) (qg (AB (decide ((v1001.toNat : Int) = (48 : Int)))) rfl rfl (qg (AB (decide ((v1001.toNat : Int) = (48 : Int)))) rfl rfl ?_))
     refine q_case 31 hF rfl (fun hF => ?_) (fun hF => ?_)
     ·
      refine qg (AS v0) rfl rfl (qg (AI (v0.length : Int)) rfl rfl (qg (AB (decide ((1 : Int) < (v0.length : Int)))) rfl rfl (qg (AB (decide ((1 : Int) < (v0.length : Int)))) rfl rfl (qp (AB (decide ((1 : Int) < (v0.length : Int)))) rfl ?_))))
      refine r_nil ?_
      refine cF hF (fun hF => ?_) fun hF => ?_
      ·
       refine ws 1409 1537 ?_
       refine qp (AI 0) rfl (qp (AB false) rfl ?_)
       refine r_nil ?_
       refine w_ret ?_
       refine thenQ_r ?_
       cases hF
       exact eR
      ·
       refine w_skip ?_
       refine thenQ_n ?_
       refine aw_ren (l' := [(0, AS v0), (4, AI v50000)]) (L := []) [0, 4] [] 1 (by first | rfl | simp) (by first | rfl | simp) (by decide) (by decide) (by decide) ⟨rfl, hF⟩
     ·
      refine qn rfl (qn rfl (qn rfl (qg (AB false) rfl rfl (qp (AB false) rfl ?_))))
      refine r_nil ?_
      refine w_false rfl ?_
      refine w_skip ?_
      refine thenQ_n ?_
      refine aw_ren (l' := [(0, AS v0), (4, AI v50000)]) (L := []) [0, 4] [] 1 (by first | rfl | simp) (by first | rfl | simp) (by decide) (by decide) (by decide) ⟨rfl, hF⟩
  ·
   rintro s' ⟨rfl, hF⟩
   unfold F_spec_l01Number_j1 at hF
   refine ws 1 65 ?_
   refine qp (AI 0) rfl ?_
   refine r_nil ?_
   refine w_seq ?_
   refine ws 65 193 ?_
   refine qp (AI v50000) rfl (qp (AI v50000) rfl ?_)
   refine r_nil ?_
   refine w_block ?_
   refine wr (l' := [(0, AS v0), (4, AI v50000), (5, AI 0), (6, AI v50000)]) (L := []) [0, 4, 5, 6] [] 1 ?_
   refine w_loopF (F_spec_l01Number_l2 v0 v50000) (fun s : Int × Int => mkS [(0, AS v0), (4, AI v50000), (5, AI s.1), (6, AI s.2)] (fo []) 1) hF ?_
   rintro k0 ⟨v50003, v50004⟩ hF
   rw [F_spec_l01Number_l2] at hF
   try dsimp only
   refine w_seq ?_
   refine ws 1 257 ?_
   refine qp (AI v50004) rfl (qp (AS v0) rfl (qp (AI (v0.length : Int)) rfl (qp (AB (decide (v50004 < (v0.length : Int)))) rfl ?_)))
   refine r_nil ?_
   refine cF hF (fun hF => ?_) fun hF => ?_
   ·
    refine w_skip ?_
    refine thenQ_n ?_
    refine w_seq ?_
    refine w_block ?_
    refine w_seq ?_
    refine ws 257 577 ?_
    refine qp (AS v0) rfl (qp (AI v50004) rfl ?_)
    obtain ⟨v1002, e1002, hF⟩ := bind_get hF
    refine qp (.val none (.int .u8 (v1002.toNat : Int))) (ev_ixs rfl rfl e1002) ?_
    obtain ⟨v1003, e1003, hF⟩ := bind_get hF
    refine qc (AB v1003) [] false (con_spec_l01Digit e1003) c41_ok (by first | rfl | simp) rfl ?_
    refine qp (AB (!v1003)) rfl ?_
    refine r_nil ?_
    refine cF hF (fun hF => ?_) fun hF => ?_
    ·
     refine ws 577 705 ?_
     refine qp (AI 0) rfl (qp (AB false) rfl ?_)
     refine r_nil ?_
     refine w_ret ?_
     refine thenQ_r ?_
     refine blockQ_r ?_
     refine thenQ_r ?_
     refine thenQ_r ?_
     refine blockQ_r ?_
     refine thenQ_r ?_
     cases hF
     exact eR
    ·
     refine w_skip ?_
     refine thenQ_n ?_
     refine w_reg 577 1153 rfl rfl ?_
     refine qp (AI v50003) rfl (qp (AI (w64 (10 * v50003))) rfl (qp (AS v0) rfl (qp (AI v50004) rfl ?_)))
     obtain ⟨v1004, e1004, hF⟩ := bind_get hF
     refine qp (.val none (.int .u8 (v1004.toNat : Int))) (ev_ixs rfl rfl e1004) (qp (.val none (.int .u8 (IntKind.wrap .u8 ((v1004.toNat : Int) - 48)))) rfl (qp (AI (w64 (IntKind.wrap .u8 ((v1004.toNat : Int) - 48)))) rfl (qp (AI (w64 ((w64 (10 * v50003)) + (w64 (IntKind.wrap .u8 ((v1004.toNat : Int) - 48)))))) rfl (qp (AI (w64 ((w64 (10 * v50003)) + (w64 (IntKind.wrap .u8 ((v1004.toNat : Int) - 48)))))) rfl ?_))))
     refine r_nil ?_
     refine blockQ_n ?_
     refine thenQ_n ?_
     refine w_reg 1153 1345 rfl rfl ?_
     refine qp (AI v50004) rfl (qp (AI (w64 (v50004 + 1))) rfl (qp (AI (w64 (v50004 + 1))) rfl ?_))
     refine r_nil ?_
     refine thenQ_n ?_
     refine ar (l' := [(0, AS v0), (4, AI v50000), (5, AI (w64 ((w64 (10 * v50003)) + (w64 (IntKind.wrap .u8 ((v1004.toNat : Int) - 48)))))), (6, AI (w64 (v50004 + 1)))]) (L := []) [0, 4, 5, 6] [] 1 ⟨_, by rfl, hF⟩
   ·
    refine w_exit ?_
    refine thenQ_e ?_
    refine thenQ_e ?_
    refine blockQ_e ?_
    refine thenQ_n ?_
    refine w_seq ?_
    refine ws 257 385 ?_
    refine qp (AI v50000) rfl (qp (AB (decide (v50000 = (1 : Int)))) rfl ?_)
    refine r_nil ?_
    refine cF hF (fun hF => ?_) fun hF => ?_
    ·
     refine w_reg 385 577 rfl rfl ?_
     refine qp (AI v50003) rfl (qp (AI (w64 (0 - v50003))) rfl (qp (AI (w64 (0 - v50003))) rfl ?_))
     refine r_nil ?_
     refine thenQ_n ?_
     refine ws 577 769 ?_
     refine qp (AI (w64 (0 - v50003))) rfl (qp (AI (w64 (0 - v50003))) rfl (qp (AB true) rfl ?_))
     refine r_nil ?_
     refine w_ret ?_
     cases hF
     exact eR
    ·
     refine w_skip ?_
     refine thenQ_n ?_
     refine ws 385 577 ?_
     refine qp (AI v50003) rfl (qp (AI v50003) rfl (qp (AB true) rfl ?_))
     refine r_nil ?_
     refine w_ret ?_
     cases hF
     exact eR

def c25 : MC := (.seq (.reg [rg 6 (.p true (.mv (.c (.bool false))))]) (.seq (.reg [mvt 7 0, mvt 8 1, rg 9 (.p true (.bin .geq (.t 7) (.t 8))), mvt 10 9, ⟨(some 11), (some (10, true)), (.p true (.mv (.t 0)))⟩, ⟨(some 12), (some (10, true)), (.p true (.mv (.t 2)))⟩, ⟨(some 13), (some (10, true)), (.p true (.bin .leq (.t 11) (.t 12)))⟩, rg 14 (.p true (.pick (.t 10) (.t 13) (.c (.bool false)))), mvt 6 14]) .ret))
theorem c25_is : compFn Tryz.prog 25 = some (c25, [(.tmp 6)]) := by kernel_rfl
theorem c25_ok : okFn Tryz.prog 25 = true := by kernel_rfl

noncomputable def F_spec_l00In (v0 : Int) (v1 : Int) (v2 : Int) : Option (Bool) :=
 (bif (decide (v1 ≤ v0)) then some (decide (v0 ≤ v2))
 else some false)
@[simp] def res_spec_l00In (r : Bool) : RV := .one (.one (.val (.bool r)))
theorem con_spec_l00In {v0 : Int} {v1 : Int} {v2 : Int} {r : Bool} (hF : F_spec_l00In v0 v1 v2 = some r) : Con Tryz.prog 25 [.int .i64 v0, .int .i64 v1, .int .i64 v2] (res_spec_l00In r) := by
 unfold F_spec_l00In at hF
 refine con_of c25_is fun N => ?_
 refine ws 0 64 ?_
 refine qp (AB false) rfl ?_
 refine r_nil ?_
 refine ws 64 640 ?_
 refine qp (AI v0) rfl (qp (AI v1) rfl (qp (AB (decide (v1 ≤ v0))) rfl (qp (AB (decide (v1 ≤ v0))) rfl ?_)))
 refine q_case 10 hF rfl (fun hF => ?_) (fun hF => ?_)
 ·
  refine qg (AI v0) rfl rfl (qg (AI v2) rfl rfl (qg (AB (decide (v0 ≤ v2))) rfl rfl (qp (AB (decide (v0 ≤ v2))) rfl (qp (AB (decide (v0 ≤ v2))) rfl ?_))))
  refine r_nil ?_
  refine w_ret ?_
  cases hF
  exact eR
 ·
  refine qn rfl (qn rfl (qn rfl (qp (AB false) rfl (qp (AB false) rfl ?_))))
  refine r_nil ?_
  refine w_ret ?_
  cases hF
  exact eR

def c10 : MC := (.seq (.reg [rg 2 (.p true (.mv (.c (.int .i64 0)))), rg 3 (.p true (.mv (.c (.bool false))))]) (.seq (.reg [mvt 7 0, rg 8 (.call true 23 [(.t 7), (.c (.int .u8 32))]), mvt 4 8]) (.seq (.seq (.reg [mvt 9 4, rg 10 (.p true (.len (.t 9))), rg 11 (.p true (.bin .neq (.t 10) (.c (.int .i64 2)))), mvt 12 11, ⟨(some 13), (some (12, false)), (.p true (.mv (.t 4)))⟩, ⟨(some 14), (some (12, false)), (.p true (.iad (.t 13) (.c (.int .i64 0)) 1))⟩, ⟨(some 15), (some (12, false)), (.p true (.ld (.t 14) 1 false))⟩, ⟨(some 16), (some (12, false)), (.p true (.bin .neq (.t 15) (.c (.str [97, 114, 99, 104, 105, 118, 101]))))⟩, rg 17 (.p true (.pick (.t 12) (.c (.bool true)) (.t 16)))]) (.cond (.t 17) (.seq (.reg [rg 2 (.p true (.mv (.c (.int .i64 0)))), rg 3 (.p true (.mv (.c (.bool false))))]) .ret) .skip)) (.seq (.reg [mvt 19 4, rg 20 (.p true (.iad (.t 19) (.c (.int .i64 1)) 1)), rg 21 (.p true (.ld (.t 20) 1 false)), rg 22 (.call true 24 [(.t 21)]), mvt 18 22, rg 23 (.p true (.ext (.t 18) 0)), rg 24 (.p true (.ext (.t 18) 1)), mvt 5 23, mvt 6 24]) (.seq (.reg [mvt 25 5, mvt 26 6, mvt 27 26, ⟨(some 28), (some (27, true)), (.p true (.mv (.t 5)))⟩, ⟨(some 29), (some (27, true)), (.call true 25 [(.t 28), (.c (.int .i64 0)), (.c (.int .i64 32))])⟩, rg 30 (.p true (.pick (.t 27) (.t 29) (.c (.bool false)))), mvt 2 25, mvt 3 30]) .ret)))))
theorem c10_is : compFn Tryz.prog 10 = some (c10, [(.tmp 2), (.tmp 3)]) := by kernel_rfl
theorem c10_ok : okFn Tryz.prog 10 = true := by kernel_rfl

noncomputable def F_spec_l29Head (v0 : List UInt8) : Option (Int × Bool) :=
 ((F_spec_l01Split v0 32).bind fun v1000 => (bif (decide ((v1000.length : Int) ≠ (2 : Int))) then some (0, false)
 else ((ix v1000 0).bind fun v1002 => (bif (decide (v1002 ≠ [97, 114, 99, 104, 105, 118, 101])) then some (0, false)
 else ((ix v1000 1).bind fun v1003 => ((F_spec_l01Number v1003).bind fun v1004 => (bif v1004.2 then ((F_spec_l00In v1004.1 0 32).bind fun v1005 => some (v1004.1, v1005))
 else some (v1004.1, false))))))))
@[simp] def res_spec_l29Head (r : Int × Bool) : RV := .tup [.one (.val (.int .i64 r.1)), .one (.val (.bool r.2))]
theorem con_spec_l29Head {v0 : List UInt8} {r : Int × Bool} (hF : F_spec_l29Head v0 = some r) : Con Tryz.prog 10 [.str v0] (res_spec_l29Head r) := by
 unfold F_spec_l29Head at hF
 refine con_of c10_is fun N => ?_
 refine ws 0 128 ?_
 refine qp (AI 0) rfl (qp (AB false) rfl ?_)
 refine r_nil ?_
 refine ws 128 320 ?_
 refine qp (AS v0) rfl ?_
 obtain ⟨v1000, e1000, hF⟩ := bind_get hF
 refine qc (.sl 192 0 v1000.length) [(192, .row true 1 (v1000.map V.str))] false (con_spec_l01Split e1000) c23_ok (by first | rfl | simp) (by simp [res_spec_l01Split]) ?_
 refine qp (.sl 192 0 v1000.length) rfl ?_
 refine r_nil ?_
 refine w_seq ?_
 refine ws 320 896 ?_
 refine qp (.sl 192 0 v1000.length) rfl (qp (AI (v1000.length : Int)) rfl (qp (AB (decide ((v1000.length : Int) ≠ (2 : Int)))) rfl (qp (AB (decide ((v1000.length : Int) ≠ (2 : Int)))) rfl ?_)))
 refine q_case 12 hF rfl (fun hF => ?_) (fun hF => ?_)
 ·
  refine qn rfl (qn rfl (qn rfl (qn rfl (qp (AB true) rfl ?_))))
  refine r_nil ?_
  refine w_true rfl ?_
  refine ws 896 1024 ?_
  refine qp (AI 0) rfl (qp (AB false) rfl ?_)
  refine r_nil ?_
  refine w_ret ?_
  refine thenQ_r ?_
  cases hF
  exact eR
 ·
  refine qg (.sl 192 0 v1000.length) rfl rfl ?_
  obtain ⟨v1002, e1002, hF⟩ := bind_get hF
  refine qg (.ptr 192 ((0 : Int).toNat) 0) rfl (ev_iad_r rfl (by simp) rfl rfl e1002) (qg (AS v1002) rfl (ev_ld_r rfl rfl (ix_some e1002).2 rfl rfl) (qg (AB (decide (v1002 ≠ [97, 114, 99, 104, 105, 118, 101]))) rfl rfl (qp (AB (decide (v1002 ≠ [97, 114, 99, 104, 105, 118, 101]))) rfl ?_)))
  refine r_nil ?_
  refine cF hF (fun hF => ?_) fun hF => ?_
  ·
   refine ws 896 1024 ?_
   refine qp (AI 0) rfl (qp (AB false) rfl ?_)
   refine r_nil ?_
   refine w_ret ?_
   refine thenQ_r ?_
   cases hF
   exact eR
  ·
   refine w_skip ?_
   refine thenQ_n ?_
   refine ws 896 1472 ?_
   refine qp (.sl 192 0 v1000.length) rfl ?_
   obtain ⟨v1003, e1003, hF⟩ := bind_get hF
   refine qp (.ptr 192 ((1 : Int).toNat) 0) (ev_iad_r rfl (by simp) rfl rfl e1003) (qp (AS v1003) (ev_ld_r rfl rfl (ix_some e1003).2 rfl rfl) ?_)
   obtain ⟨v1004, e1004, hF⟩ := bind_get hF
   refine qc (.tup [AI v1004.1, AB v1004.2]) [(192, .row true 1 (v1000.map V.str))] false (con_spec_l01Number e1004) c24_ok (by first | rfl | simp) rfl ?_
   refine qp (.tup [AI v1004.1, AB v1004.2]) rfl (qp (AI v1004.1) rfl (qp (AB v1004.2) rfl (qp (AI v1004.1) rfl (qp (AB v1004.2) rfl ?_))))
   refine r_nil ?_
   refine ws 1472 1984 ?_
   refine qp (AI v1004.1) rfl (qp (AB v1004.2) rfl (qp (AB v1004.2) rfl ?_))
   refine q_case 27 hF rfl (fun hF => ?_) (fun hF => ?_)
   ·
    refine qg (AI v1004.1) rfl rfl ?_
    obtain ⟨v1005, e1005, hF⟩ := bind_get hF
    refine qcg (AB v1005) [(192, .row true 1 (v1000.map V.str))] false rfl (con_spec_l00In e1005) c25_ok (by first | rfl | simp) rfl ?_
    refine qp (AB v1005) rfl (qp (AI v1004.1) rfl (qp (AB v1005) rfl ?_))
    refine r_nil ?_
    refine w_ret ?_
    cases hF
    exact eR
   ·
    refine qn rfl (qn rfl (qp (AB false) rfl (qp (AI v1004.1) rfl (qp (AB false) rfl ?_))))
    refine r_nil ?_
    refine w_ret ?_
    cases hF
    exact eR

def c27 : MC := (.seq (.reg [rg 4 (.p true (.mv (.c (.int .i64 0))))]) (.seq (.seq (.reg [rg 5 (.p true (.mv (.c (.int .i64 0))))]) (.block 0 (.loop (.seq (.seq (.reg [mvt 7 5, mvt 8 0, rg 9 (.p true (.lens (.t 8))), rg 10 (.p true (.bin .lss (.t 7) (.t 9)))]) (.cond (.t 10) .skip (.exit 0))) (.seq (.block 1 (.seq (.reg [mvt 13 1, mvt 14 0, mvt 15 5, rg 16 (.p true (.ixs (.t 14) (.t 15))), rg 17 (.p true (.conv .i64 (.t 16))), rg 18 (.p true (.bin .shl (.t 17) (.c (.int .u64 8)))), rg 19 (.p true (.bin .xor (.t 13) (.t 18))), mvt 1 19]) (.seq (.reg [rg 6 (.p true (.mv (.c (.int .i64 0))))]) (.block 2 (.loop (.seq (.seq (.reg [mvt 20 6, rg 21 (.p true (.bin .lss (.t 20) (.c (.int .i64 8))))]) (.cond (.t 21) .skip (.exit 2))) (.seq (.block 3 (.seq (.reg [mvt 24 1, rg 25 (.p true (.bin .shl (.t 24) (.c (.int .u64 1)))), mvt 1 25]) (.seq (.reg [mvt 26 1, rg 27 (.p true (.bin .gtr (.t 26) (.c (.int .i64 65535))))]) (.cond (.t 27) (.reg [mvt 28 1, rg 29 (.p true (.bin .and (.t 28) (.c (.int .i64 65535)))), rg 30 (.p true (.bin .xor (.t 29) (.c (.int .i64 4129)))), mvt 1 30]) .skip)))) (.reg [mvt 22 6, rg 23 (.p true (.bin .add (.t 22) (.c (.int .i64 1)))), mvt 6 23])))))))) (.reg [mvt 11 5, rg 12 (.p true (.bin .add (.t 11) (.c (.int .i64 1)))), mvt 5 12])))))) (.seq (.reg [mvt 31 1, mvt 4 31]) .ret)))
theorem c27_is : compFn Tryz.prog 27 = some (c27, [(.tmp 4)]) := by kernel_rfl
theorem c27_ok : okFn Tryz.prog 27 = true := by kernel_rfl

noncomputable def F_spec_l01Crc_l1 (v50011 : Int) (k2 : Int × Int → Option (Int)) (k4 : Int × Int → Option (Int)) : Int × Int → Option (Int)
 | (v50018, v50019) => (bif (decide (v50019 < (8 : Int))) then (need (0 ≤ (1 : Int)) ((bif (decide ((65535 : Int) < w64 (v50018 * 2 ^ (min ((1 : Int)).toNat (IntKind.bits .i64))))) then k4 (bitXor .i64 (bitAnd .i64 (w64 (v50018 * 2 ^ (min ((1 : Int)).toNat (IntKind.bits .i64)))) 65535) 4129, w64 (v50019 + 1))
 else k4 (w64 (v50018 * 2 ^ (min ((1 : Int)).toNat (IntKind.bits .i64))), w64 (v50019 + 1)))))
 else k2 (v50018, w64 (v50011 + 1)))
noncomputable def F_spec_l01Crc_l0 (v0 : List UInt8) (k2 : Int × Int → Option (Int)) : Int × Int → Option (Int)
 | (v50010, v50011) => (bif (decide (v50011 < (v0.length : Int))) then ((ix v0 v50011).bind fun v1000 => (need (0 ≤ (8 : Int)) (loop (F_spec_l01Crc_l1 v50011 k2) (bitXor .i64 v50010 (w64 ((w64 ((v1000.toNat : Int))) * 2 ^ (min ((8 : Int)).toNat (IntKind.bits .i64)))), 0))))
 else some v50010)
noncomputable def F_spec_l01Crc (v0 : List UInt8) (v1 : Int) : Option (Int) :=
 loop (F_spec_l01Crc_l0 v0) (v1, 0)
@[simp] def res_spec_l01Crc (r : Int) : RV := .one (.one (.val (.int .i64 r)))
theorem con_spec_l01Crc {v0 : List UInt8} {v1 : Int} {r : Int} (hF : F_spec_l01Crc v0 v1 = some r) : Con Tryz.prog 27 [.str v0, .int .i64 v1] (res_spec_l01Crc r) := by
 unfold F_spec_l01Crc at hF
 refine con_of c27_is fun N => ?_
 refine ws 0 64 ?_
 refine qp (AI 0) rfl ?_
 refine r_nil ?_
 refine w_seq ?_
 refine ws 64 128 ?_
 refine qp (AI 0) rfl ?_
 refine r_nil ?_
 refine w_block ?_
 refine wr (l' := [(0, AS v0), (1, AI v1), (5, AI 0)]) (L := []) [0, 1, 5] [] 1 ?_
 refine w_loopF (F_spec_l01Crc_l0 v0) (fun s : Int × Int => mkS [(0, AS v0), (1, AI s.1), (5, AI s.2)] (fo []) 1) hF ?_
 rintro k2 ⟨v50010, v50011⟩ hF
 rw [F_spec_l01Crc_l0] at hF
 try dsimp only
 refine w_seq ?_
 refine ws 1 257 ?_
 refine qp (AI v50011) rfl (qp (AS v0) rfl (qp (AI (v0.length : Int)) rfl (qp (AB (decide (v50011 < (v0.length : Int)))) rfl ?_)))
 refine r_nil ?_
 refine cF hF (fun hF => ?_) fun hF => ?_
 ·
  refine w_skip ?_
  refine thenQ_n ?_
  refine w_seq ?_
  refine w_block ?_
  refine ws 257 769 ?_
  refine qp (AI v50010) rfl (qp (AS v0) rfl (qp (AI v50011) rfl ?_))
  obtain ⟨v1000, e1000, hF⟩ := bind_get hF
  refine qp (.val none (.int .u8 (v1000.toNat : Int))) (ev_ixs rfl rfl e1000) (qp (AI (w64 ((v1000.toNat : Int)))) rfl ?_)
  obtain ⟨g1001, hF⟩ := need_some hF
  refine qp (AI (w64 ((w64 ((v1000.toNat : Int))) * 2 ^ (min ((8 : Int)).toNat (IntKind.bits .i64))))) (ev_shl rfl rfl g1001) (qp (AI (bitXor .i64 v50010 (w64 ((w64 ((v1000.toNat : Int))) * 2 ^ (min ((8 : Int)).toNat (IntKind.bits .i64)))))) rfl (qp (AI (bitXor .i64 v50010 (w64 ((w64 ((v1000.toNat : Int))) * 2 ^ (min ((8 : Int)).toNat (IntKind.bits .i64)))))) rfl ?_))
  refine r_nil ?_
  refine ws 769 833 ?_
  refine qp (AI 0) rfl ?_
  refine r_nil ?_
  refine w_block ?_
  refine wr (l' := [(0, AS v0), (1, AI (bitXor .i64 v50010 (w64 ((w64 ((v1000.toNat : Int))) * 2 ^ (min ((8 : Int)).toNat (IntKind.bits .i64)))))), (5, AI v50011), (6, AI 0)]) (L := []) [0, 1, 5, 6] [] 1 ?_
  refine w_loopF (F_spec_l01Crc_l1 v50011 k2) (fun s : Int × Int => mkS [(0, AS v0), (1, AI s.1), (5, AI v50011), (6, AI s.2)] (fo []) 1) hF ?_
  rintro k4 ⟨v50018, v50019⟩ hF
  rw [F_spec_l01Crc_l1] at hF
  try dsimp only
  refine w_seq ?_
  refine ws 1 129 ?_
  refine qp (AI v50019) rfl (qp (AB (decide (v50019 < (8 : Int)))) rfl ?_)
  refine r_nil ?_
  refine cF hF (fun hF => ?_) fun hF => ?_
  ·
   refine w_skip ?_
   refine thenQ_n ?_
   refine w_seq ?_
   refine w_block ?_
   refine ws 129 321 ?_
   refine qp (AI v50018) rfl ?_
   obtain ⟨g1004, hF⟩ := need_some hF
   refine qp (AI (w64 (v50018 * 2 ^ (min ((1 : Int)).toNat (IntKind.bits .i64))))) (ev_shl rfl rfl g1004) (qp (AI (w64 (v50018 * 2 ^ (min ((1 : Int)).toNat (IntKind.bits .i64))))) rfl ?_)
   refine r_nil ?_
   refine ws 321 449 ?_
   refine qp (AI (w64 (v50018 * 2 ^ (min ((1 : Int)).toNat (IntKind.bits .i64))))) rfl (qp (AB (decide ((65535 : Int) < w64 (v50018 * 2 ^ (min ((1 : Int)).toNat (IntKind.bits .i64)))))) rfl ?_)
   refine r_nil ?_
   refine cF hF (fun hF => ?_) fun hF => ?_
   ·
    refine w_reg 449 705 rfl rfl ?_
    refine qp (AI (w64 (v50018 * 2 ^ (min ((1 : Int)).toNat (IntKind.bits .i64))))) rfl (qp (AI (bitAnd .i64 (w64 (v50018 * 2 ^ (min ((1 : Int)).toNat (IntKind.bits .i64)))) 65535)) rfl (qp (AI (bitXor .i64 (bitAnd .i64 (w64 (v50018 * 2 ^ (min ((1 : Int)).toNat (IntKind.bits .i64)))) 65535) 4129)) rfl (qp (AI (bitXor .i64 (bitAnd .i64 (w64 (v50018 * 2 ^ (min ((1 : Int)).toNat (IntKind.bits .i64)))) 65535) 4129)) rfl ?_)))
    refine r_nil ?_
    refine blockQ_n ?_
    refine thenQ_n ?_
    refine w_reg 705 897 rfl rfl ?_
    refine qp (AI v50019) rfl (qp (AI (w64 (v50019 + 1))) rfl (qp (AI (w64 (v50019 + 1))) rfl ?_))
    refine r_nil ?_
    refine thenQ_n ?_
    refine ar (l' := [(0, AS v0), (1, AI (bitXor .i64 (bitAnd .i64 (w64 (v50018 * 2 ^ (min ((1 : Int)).toNat (IntKind.bits .i64)))) 65535) 4129)), (5, AI v50011), (6, AI (w64 (v50019 + 1)))]) (L := []) [0, 1, 5, 6] [] 1 ⟨_, by rfl, hF⟩
   ·
    refine w_skip ?_
    refine blockQ_n ?_
    refine thenQ_n ?_
    refine w_reg 449 641 rfl rfl ?_
    refine qp (AI v50019) rfl (qp (AI (w64 (v50019 + 1))) rfl (qp (AI (w64 (v50019 + 1))) rfl ?_))
    refine r_nil ?_
    refine thenQ_n ?_
    refine ar (l' := [(0, AS v0), (1, AI (w64 (v50018 * 2 ^ (min ((1 : Int)).toNat (IntKind.bits .i64))))), (5, AI v50011), (6, AI (w64 (v50019 + 1)))]) (L := []) [0, 1, 5, 6] [] 1 ⟨_, by rfl, hF⟩
  ·
   refine w_exit ?_
   refine thenQ_e ?_
   refine thenQ_e ?_
   refine blockQ_e ?_
   refine blockQ_n ?_
   refine thenQ_n ?_
   refine w_reg 129 321 rfl rfl ?_
   refine qp (AI v50011) rfl (qp (AI (w64 (v50011 + 1))) rfl (qp (AI (w64 (v50011 + 1))) rfl ?_))
   refine r_nil ?_
   refine thenQ_n ?_
   refine ar (l' := [(0, AS v0), (1, AI v50018), (5, AI (w64 (v50011 + 1)))]) (L := []) [0, 1, 5] [] 1 ⟨_, by rfl, hF⟩
 ·
  refine w_exit ?_
  refine thenQ_e ?_
  refine thenQ_e ?_
  refine blockQ_e ?_
  refine thenQ_n ?_
  refine ws 257 385 ?_
  refine qp (AI v50010) rfl (qp (AI v50010) rfl ?_)
  refine r_nil ?_
  refine w_ret ?_
  cases hF
  exact eR

def c42 : MC := (.seq (.reg [rg 2 (.p true (.mv (.c (.str []))))]) (.seq (.seq (.reg [mvt 8 0, rg 9 (.p true (.bin .eql (.t 8) (.c (.int .i64 0))))]) (.cond (.t 9) (.seq (.reg [rg 2 (.p true (.mv (.c (.str [48]))))]) .ret) .skip)) (.seq (.reg [rg 10 (.f (.bsl 1 [])), mvt 3 10]) (.seq (.seq (.reg [mvt 11 0, mvt 4 11]) (.block 0 (.loop (.seq (.seq (.reg [mvt 12 4, rg 13 (.p true (.bin .neq (.t 12) (.c (.int .i64 0))))]) (.cond (.t 13) .skip (.exit 0))) (.seq (.block 1 (.seq (.reg [mvt 16 4, rg 17 (.p true (.bin .rem (.t 16) (.c (.int .i64 10)))), mvt 5 17]) (.seq (.seq (.reg [mvt 18 5, rg 19 (.p true (.bin .lss (.t 18) (.c (.int .i64 0))))]) (.cond (.t 19) (.reg [mvt 20 5, rg 21 (.p true (.neg (.t 20))), mvt 5 21]) .skip)) (.reg [mvt 22 3, mvt 23 5, rg 24 (.p true (.bin .add (.c (.int .i64 48)) (.t 23))), rg 25 (.p true (.conv .u8 (.t 24))), rg 26 (.f (.bsl 1 [(.t 25)])), rg 27 (.f (.app (.t 22) (.t 26) 1 1 true)), mvt 3 27])))) (.reg [mvt 14 4, rg 15 (.p true (.bin .quo (.t 14) (.c (.int .i64 10)))), mvt 4 15])))))) (.seq (.seq (.reg [mvt 28 0, rg 29 (.p true (.bin .lss (.t 28) (.c (.int .i64 0))))]) (.cond (.t 29) (.reg [mvt 30 3, rg 31 (.f (.bsl 1 [(.c (.int .u8 45))])), rg 32 (.f (.app (.t 30) (.t 31) 1 1 true)), mvt 3 32]) .skip)) (.seq (.reg [rg 33 (.f (.bsl 1 [])), mvt 6 33]) (.seq (.seq (.reg [mvt 34 3, rg 35 (.p true (.len (.t 34))), rg 36 (.p true (.bin .sub (.t 35) (.c (.int .i64 1)))), mvt 7 36]) (.block 2 (.loop (.seq (.seq (.reg [mvt 37 7, rg 38 (.p true (.bin .geq (.t 37) (.c (.int .i64 0))))]) (.cond (.t 38) .skip (.exit 2))) (.seq (.block 3 (.reg [mvt 41 6, mvt 42 3, mvt 43 7, rg 44 (.p true (.iad (.t 42) (.t 43) 1)), rg 45 (.p true (.ld (.t 44) 1 false)), rg 46 (.f (.bsl 1 [(.t 45)])), rg 47 (.f (.app (.t 41) (.t 46) 1 1 true)), mvt 6 47])) (.reg [mvt 39 7, rg 40 (.p true (.bin .sub (.t 39) (.c (.int .i64 1)))), mvt 7 40])))))) (.seq (.reg [mvt 48 6, rg 49 (.p true (.bts (.t 48))), mvt 2 49]) .ret))))))))
theorem c42_is : compFn Tryz.prog 42 = some (c42, [(.tmp 2)]) := by kernel_rfl
theorem c42_ok : okFn Tryz.prog 42 = true := by kernel_rfl

noncomputable def F_spec_l01Dec_j1 (v50004 : Int) (v50005 : List Int) (k0 : Int × (List Int) → Option (List UInt8)) (v50006 : Int) : Option (List UInt8) :=
 (need (room (v50005.length + [IntKind.wrap .u8 (w64 (48 + v50006))].length) 1) (k0 (w64 (Int.tdiv v50004 10), v50005 ++ [IntKind.wrap .u8 (w64 (48 + v50006))])))
noncomputable def F_spec_l01Dec_l3 (v50007 : List Int) (k1 : Int × (List Int) → Option (List UInt8)) : Int × (List Int) → Option (List UInt8)
 | (v50010, v50011) => (bif (decide ((0 : Int) ≤ v50010)) then ((ix v50007 v50010).bind fun v1002 => (need (room (v50011.length + [v1002].length) 1) (k1 (w64 (v50010 - 1), v50011 ++ [v1002]))))
 else some (bytesI v50011))
noncomputable def F_spec_l01Dec_j2 (v50007 : List Int) : Option (List UInt8) :=
 loop (F_spec_l01Dec_l3 v50007) (w64 ((v50007.length : Int) - 1), [])
noncomputable def F_spec_l01Dec_l0 (v0 : Int) (k0 : Int × (List Int) → Option (List UInt8)) : Int × (List Int) → Option (List UInt8)
 | (v50004, v50005) => (bif (decide (v50004 ≠ (0 : Int))) then (bif (decide (Int.tmod v50004 10 < (0 : Int))) then F_spec_l01Dec_j1 v50004 v50005 k0 (w64 (0 - (Int.tmod v50004 10)))
 else F_spec_l01Dec_j1 v50004 v50005 k0 (Int.tmod v50004 10))
 else (bif (decide (v0 < (0 : Int))) then (need (room (v50005.length + [(45 : Int)].length) 1) (F_spec_l01Dec_j2 (v50005 ++ [(45 : Int)])))
 else F_spec_l01Dec_j2 v50005))
noncomputable def F_spec_l01Dec (v0 : Int) : Option (List UInt8) :=
 (bif (decide (v0 = (0 : Int))) then some [48]
 else loop (F_spec_l01Dec_l0 v0) (v0, []))
@[simp] def res_spec_l01Dec (r : List UInt8) : RV := .one (.one (.val (.str r)))
theorem con_spec_l01Dec {v0 : Int} {r : List UInt8} (hF : F_spec_l01Dec v0 = some r) : Con Tryz.prog 42 [.int .i64 v0] (res_spec_l01Dec r) := by
 unfold F_spec_l01Dec at hF
 refine con_of c42_is fun N => ?_
 refine ws 0 64 ?_
 refine qp (AS []) rfl ?_
 refine r_nil ?_
 refine w_seq ?_
 refine ws 64 192 ?_
 refine qp (AI v0) rfl (qp (AB (decide (v0 = (0 : Int)))) rfl ?_)
 refine r_nil ?_
 refine cF hF (fun hF => ?_) fun hF => ?_
 ·
  refine ws 192 256 ?_
  refine qp (AS [48]) rfl ?_
  refine r_nil ?_
  refine w_ret ?_
  refine thenQ_r ?_
  cases hF
  exact eR
 ·
  refine w_skip ?_
  refine thenQ_n ?_
  refine ws 192 320 ?_
  refine qf (.sl 192 0 0) [(192, .row true 1 (([] : List Int).map (V.int .u8)))] (by simp [List.take_of_length_le]) ?_
  refine qp (.sl 192 0 0) rfl ?_
  refine r_nil ?_
  refine w_seq ?_
  refine ws 320 448 ?_
  refine qp (AI v0) rfl (qp (AI v0) rfl ?_)
  refine r_nil ?_
  refine w_block ?_
  refine wr (l' := [(0, AI v0), (3, .sl 0 0 0), (4, AI v0)]) (L := [(0, .row true 1 (([] : List Int).map (V.int .u8)))]) [0, 3, 4] [(192, 0)] 1 ?_
  refine w_loopF (F_spec_l01Dec_l0 v0) (fun s : Int × (List Int) => mkS [(0, AI v0), (3, .sl 0 0 s.2.length), (4, AI s.1)] (fo [(0, .row true 1 (s.2.map (V.int .u8)))]) 1) hF ?_
  rintro k0 ⟨v50004, v50005⟩ hF
  rw [F_spec_l01Dec_l0] at hF
  try dsimp only
  refine w_seq ?_
  refine ws 1 129 ?_
  refine qp (AI v50004) rfl (qp (AB (decide (v50004 ≠ (0 : Int)))) rfl ?_)
  refine r_nil ?_
  refine cF hF (fun hF => ?_) fun hF => ?_
  ·
   refine w_skip ?_
   refine thenQ_n ?_
   refine w_seq ?_
   refine w_block ?_
   refine ws 129 321 ?_
   refine qp (AI v50004) rfl (qp (AI (Int.tmod v50004 10)) (ev_rem rfl rfl (by decide)) (qp (AI (Int.tmod v50004 10)) rfl ?_))
   refine r_nil ?_
   refine w_meet (fun s' => ∃ (v50006 : Int), s' = mkS [(0, AI v0), (3, .sl 0 0 v50005.length), (4, AI v50004), (5, AI v50006)] (fo [(0, .row true 1 (v50005.map (V.int .u8)))]) 1 ∧ F_spec_l01Dec_j1 v50004 v50005 k0 v50006 = some r) ?_ ?_
   ·
    refine ws 321 449 ?_
    refine qp (AI (Int.tmod v50004 10)) rfl (qp (AB (decide (Int.tmod v50004 10 < (0 : Int)))) rfl ?_)
    refine r_nil ?_
    refine cF hF (fun hF => ?_) fun hF => ?_
    ·
     refine w_reg 449 641 rfl rfl ?_
     refine qp (AI (Int.tmod v50004 10)) rfl (qp (AI (w64 (0 - (Int.tmod v50004 10)))) rfl (qp (AI (w64 (0 - (Int.tmod v50004 10)))) rfl ?_))
     refine r_nil ?_
     refine thenQ_n ?_
     refine aw_ren (l' := [(0, AI v0), (3, .sl 0 0 v50005.length), (4, AI v50004), (5, AI (w64 (0 - (Int.tmod v50004 10))))]) (L := [(0, .row true 1 (v50005.map (V.int .u8)))]) [0, 3, 4, 5] [(0, 0)] 1 (by first | rfl | simp) (by first | rfl | simp) (by decide) (by decide) (by decide) ⟨_, rfl, hF⟩
    ·
     refine w_skip ?_
     refine thenQ_n ?_
     refine aw_ren (l' := [(0, AI v0), (3, .sl 0 0 v50005.length), (4, AI v50004), (5, AI (Int.tmod v50004 10))]) (L := [(0, .row true 1 (v50005.map (V.int .u8)))]) [0, 3, 4, 5] [(0, 0)] 1 (by first | rfl | simp) (by first | rfl | simp) (by decide) (by decide) (by decide) ⟨_, rfl, hF⟩
   ·
    rintro s' ⟨v50006, rfl, hF⟩
    unfold F_spec_l01Dec_j1 at hF
    refine w_reg 1 449 rfl rfl ?_
    refine qp (.sl 0 0 v50005.length) rfl (qp (AI v50006) rfl (qp (AI (w64 (48 + v50006))) rfl (qp (.val none (.int .u8 (IntKind.wrap .u8 (w64 (48 + v50006))))) rfl ?_)))
    refine qf (.sl 257 0 ([IntKind.wrap .u8 (w64 (48 + v50006))].length)) [(257, .row true 1 ([IntKind.wrap .u8 (w64 (48 + v50006))].map (V.int .u8))), (0, .row true 1 (v50005.map (V.int .u8)))] (by simp [List.take_of_length_le]) ?_
    obtain ⟨g1000, hF⟩ := need_some hF
    refine qf (.sl 321 0 ((v50005 ++ [IntKind.wrap .u8 (w64 (48 + v50006))]).length)) [(321, .row true 1 ((v50005 ++ [IntKind.wrap .u8 (w64 (48 + v50006))]).map (V.int .u8))), (0, .dead), (257, .dead), (257, .row true 1 ([IntKind.wrap .u8 (w64 (48 + v50006))].map (V.int .u8))), (0, .row true 1 (v50005.map (V.int .u8)))] (effT_app_l rfl (by simp) rfl rfl (by simp) rfl (by decide) g1000 rfl) ?_
    refine qp (.sl 321 0 ((v50005 ++ [IntKind.wrap .u8 (w64 (48 + v50006))]).length)) rfl ?_
    refine r_nil ?_
    refine blockQ_n ?_
    refine thenQ_n ?_
    refine w_reg 449 641 rfl rfl ?_
    refine qp (AI v50004) rfl (qp (AI (w64 (Int.tdiv v50004 10))) (ev_quo rfl rfl (by decide)) (qp (AI (w64 (Int.tdiv v50004 10))) rfl ?_))
    refine r_nil ?_
    refine thenQ_n ?_
    refine ar (l' := [(0, AI v0), (3, .sl 0 0 (v50005 ++ [IntKind.wrap .u8 (w64 (48 + v50006))]).length), (4, AI (w64 (Int.tdiv v50004 10)))]) (L := [(0, .row true 1 ((v50005 ++ [IntKind.wrap .u8 (w64 (48 + v50006))]).map (V.int .u8)))]) [0, 3, 4] [(321, 0)] 1 ⟨_, by rfl, hF⟩
  ·
   refine w_exit ?_
   refine thenQ_e ?_
   refine thenQ_e ?_
   refine blockQ_e ?_
   refine thenQ_n ?_
   refine w_meet (fun s' => ∃ (v50007 : List Int), s' = mkS [(3, .sl 0 0 v50007.length)] (fo [(0, .row true 1 (v50007.map (V.int .u8)))]) 1 ∧ F_spec_l01Dec_j2 v50007 = some r) ?_ ?_
   ·
    refine ws 129 257 ?_
    refine qp (AI v0) rfl (qp (AB (decide (v0 < (0 : Int)))) rfl ?_)
    refine r_nil ?_
    refine cF hF (fun hF => ?_) fun hF => ?_
    ·
     refine w_reg 257 513 rfl rfl ?_
     refine qp (.sl 0 0 v50005.length) rfl ?_
     refine qf (.sl 321 0 ([(45 : Int)].length)) [(321, .row true 1 ([(45 : Int)].map (V.int .u8))), (0, .row true 1 (v50005.map (V.int .u8)))] (by simp [List.take_of_length_le]) ?_
     obtain ⟨g1001, hF⟩ := need_some hF
     refine qf (.sl 385 0 ((v50005 ++ [(45 : Int)]).length)) [(385, .row true 1 ((v50005 ++ [(45 : Int)]).map (V.int .u8))), (0, .dead), (321, .dead), (321, .row true 1 ([(45 : Int)].map (V.int .u8))), (0, .row true 1 (v50005.map (V.int .u8)))] (effT_app_l rfl (by simp) rfl rfl (by simp) rfl (by decide) g1001 rfl) ?_
     refine qp (.sl 385 0 ((v50005 ++ [(45 : Int)]).length)) rfl ?_
     refine r_nil ?_
     refine thenQ_n ?_
     refine aw_ren (l' := [(3, .sl 0 0 (v50005 ++ [(45 : Int)]).length)]) (L := [(0, .row true 1 ((v50005 ++ [(45 : Int)]).map (V.int .u8)))]) [3] [(385, 0)] 1 (by first | rfl | simp) (by first | rfl | simp) (by decide) (by decide) (by decide) ⟨_, rfl, hF⟩
    ·
     refine w_skip ?_
     refine thenQ_n ?_
     refine aw_ren (l' := [(3, .sl 0 0 v50005.length)]) (L := [(0, .row true 1 (v50005.map (V.int .u8)))]) [3] [(0, 0)] 1 (by first | rfl | simp) (by first | rfl | simp) (by decide) (by decide) (by decide) ⟨_, rfl, hF⟩
   ·
    rintro s' ⟨v50007, rfl, hF⟩
    unfold F_spec_l01Dec_j2 at hF
    refine ws 1 129 ?_
    refine qf (.sl 1 0 0) [(1, .row true 1 (([] : List Int).map (V.int .u8))), (0, .row true 1 (v50007.map (V.int .u8)))] (by simp [List.take_of_length_le]) ?_
    refine qp (.sl 1 0 0) rfl ?_
    refine r_nil ?_
    refine w_seq ?_
    refine ws 129 385 ?_
    refine qp (.sl 0 0 v50007.length) rfl (qp (AI (v50007.length : Int)) rfl (qp (AI (w64 ((v50007.length : Int) - 1))) rfl (qp (AI (w64 ((v50007.length : Int) - 1))) rfl ?_)))
    refine r_nil ?_
    refine w_block ?_
    refine wr (l' := [(3, .sl 0 0 v50007.length), (6, .sl 1 0 0), (7, AI (w64 ((v50007.length : Int) - 1)))]) (L := [(1, .row true 1 (([] : List Int).map (V.int .u8))), (0, .row true 1 (v50007.map (V.int .u8)))]) [3, 6, 7] [(1, 1), (0, 0)] 2 ?_
    refine w_loopF (F_spec_l01Dec_l3 v50007) (fun s : Int × (List Int) => mkS [(3, .sl 0 0 v50007.length), (6, .sl 1 0 s.2.length), (7, AI s.1)] (fo [(1, .row true 1 (s.2.map (V.int .u8))), (0, .row true 1 (v50007.map (V.int .u8)))]) 2) hF ?_
    rintro k1 ⟨v50010, v50011⟩ hF
    rw [F_spec_l01Dec_l3] at hF
    try dsimp only
    refine w_seq ?_
    refine ws 2 130 ?_
    refine qp (AI v50010) rfl (qp (AB (decide ((0 : Int) ≤ v50010))) rfl ?_)
    refine r_nil ?_
    refine cF hF (fun hF => ?_) fun hF => ?_
    ·
     refine w_skip ?_
     refine thenQ_n ?_
     refine w_seq ?_
     refine w_block ?_
     refine w_reg 130 642 rfl rfl ?_
     refine qp (.sl 1 0 v50011.length) rfl (qp (.sl 0 0 v50007.length) rfl (qp (AI v50010) rfl ?_))
     obtain ⟨v1002, e1002, hF⟩ := bind_get hF
     refine qp (.ptr 0 v50010.toNat 0) (ev_iad_r rfl (by simp) rfl rfl e1002) (qp (.val none (.int .u8 v1002)) (ev_ld_r rfl rfl (ix_some e1002).2 rfl rfl) ?_)
     refine qf (.sl 450 0 ([v1002].length)) [(450, .row true 1 ([v1002].map (V.int .u8))), (1, .row true 1 (v50011.map (V.int .u8))), (0, .row true 1 (v50007.map (V.int .u8)))] (by simp [List.take_of_length_le]) ?_
     obtain ⟨g1003, hF⟩ := need_some hF
     refine qf (.sl 514 0 ((v50011 ++ [v1002]).length)) [(514, .row true 1 ((v50011 ++ [v1002]).map (V.int .u8))), (1, .dead), (450, .dead), (450, .row true 1 ([v1002].map (V.int .u8))), (1, .row true 1 (v50011.map (V.int .u8))), (0, .row true 1 (v50007.map (V.int .u8)))] (effT_app_l rfl (by simp) rfl rfl (by simp) rfl (by decide) g1003 rfl) ?_
     refine qp (.sl 514 0 ((v50011 ++ [v1002]).length)) rfl ?_
     refine r_nil ?_
     refine blockQ_n ?_
     refine thenQ_n ?_
     refine w_reg 642 834 rfl rfl ?_
     refine qp (AI v50010) rfl (qp (AI (w64 (v50010 - 1))) rfl (qp (AI (w64 (v50010 - 1))) rfl ?_))
     refine r_nil ?_
     refine thenQ_n ?_
     refine ar (l' := [(3, .sl 0 0 v50007.length), (6, .sl 1 0 (v50011 ++ [v1002]).length), (7, AI (w64 (v50010 - 1)))]) (L := [(1, .row true 1 ((v50011 ++ [v1002]).map (V.int .u8))), (0, .row true 1 (v50007.map (V.int .u8)))]) [3, 6, 7] [(514, 1), (0, 0)] 2 ⟨_, by rfl, hF⟩
    ·
     refine w_exit ?_
     refine thenQ_e ?_
     refine thenQ_e ?_
     refine blockQ_e ?_
     refine thenQ_n ?_
     refine ws 130 322 ?_
     refine qp (.sl 1 0 v50011.length) rfl (qp (AS (bytesI v50011)) (ev_bts_r rfl (by simp) rfl) (qp (AS (bytesI v50011)) rfl ?_))
     refine r_nil ?_
     refine w_ret ?_
     cases hF
     exact eR

def c26 : MC := (.seq (.reg [rg 2 (.p true (.mv (.c (.str []))))]) (.seq (.reg [mvt 4 0, rg 5 (.call true 42 [(.t 4)]), mvt 3 5]) (.seq (.block 0 (.loop (.seq (.seq (.reg [mvt 6 3, rg 7 (.p true (.lens (.t 6))), rg 8 (.p true (.bin .lss (.t 7) (.c (.int .i64 5))))]) (.cond (.t 8) .skip (.exit 0))) (.block 1 (.reg [mvt 9 3, rg 10 (.p true (.bin .add (.c (.str [48])) (.t 9))), mvt 3 10]))))) (.seq (.reg [mvt 11 3, mvt 2 11]) .ret))))
theorem c26_is : compFn Tryz.prog 26 = some (c26, [(.tmp 2)]) := by kernel_rfl
theorem c26_ok : okFn Tryz.prog 26 = true := by kernel_rfl

noncomputable def F_spec_l29Five_l0 (k1 : (List UInt8) → Option (List UInt8)) : (List UInt8) → Option (List UInt8)
 | v50003 => (bif (decide ((v50003.length : Int) < (5 : Int))) then (need ([48].length + v50003.length < 9223372036854775808) (k1 ([48] ++ v50003)))
 else some v50003)
noncomputable def F_spec_l29Five (v0 : Int) : Option (List UInt8) :=
 ((F_spec_l01Dec v0).bind fun v1000 => loop (F_spec_l29Five_l0) v1000)
@[simp] def res_spec_l29Five (r : List UInt8) : RV := .one (.one (.val (.str r)))
theorem con_spec_l29Five {v0 : Int} {r : List UInt8} (hF : F_spec_l29Five v0 = some r) : Con Tryz.prog 26 [.int .i64 v0] (res_spec_l29Five r) := by
 unfold F_spec_l29Five at hF
 refine con_of c26_is fun N => ?_
 refine ws 0 64 ?_
 refine qp (AS []) rfl ?_
 refine r_nil ?_
 refine ws 64 256 ?_
 refine qp (AI v0) rfl ?_
 obtain ⟨v1000, e1000, hF⟩ := bind_get hF
 refine qc (AS v1000) [] false (con_spec_l01Dec e1000) c42_ok (by first | rfl | simp) rfl ?_
 refine qp (AS v1000) rfl ?_
 refine r_nil ?_
 refine w_seq ?_
 refine w_block ?_
 refine wr (l' := [(3, AS v1000)]) (L := []) [3] [] 1 ?_
 refine w_loopF (F_spec_l29Five_l0) (fun s : (List UInt8) => mkS [(3, AS s)] (fo []) 1) hF ?_
 rintro k1 v50003 hF
 rw [F_spec_l29Five_l0] at hF
 try dsimp only
 refine w_seq ?_
 refine ws 1 193 ?_
 refine qp (AS v50003) rfl (qp (AI (v50003.length : Int)) rfl (qp (AB (decide ((v50003.length : Int) < (5 : Int)))) rfl ?_))
 refine r_nil ?_
 refine cF hF (fun hF => ?_) fun hF => ?_
 ·
  refine w_skip ?_
  refine thenQ_n ?_
  refine w_block ?_
  refine w_reg 193 385 rfl rfl ?_
  refine qp (AS v50003) rfl ?_
  obtain ⟨g1003, hF⟩ := need_some hF
  refine qp (AS ([48] ++ v50003)) (ev_add_s rfl rfl g1003) (qp (AS ([48] ++ v50003)) rfl ?_)
  refine r_nil ?_
  refine blockQ_n ?_
  refine thenQ_n ?_
  refine ar (l' := [(3, AS ([48] ++ v50003))]) (L := []) [3] [] 1 ⟨_, by rfl, hF⟩
 ·
  refine w_exit ?_
  refine thenQ_e ?_
  refine thenQ_e ?_
  refine blockQ_e ?_
  refine thenQ_n ?_
  refine ws 193 321 ?_
  refine qp (AS v50003) rfl (qp (AS v50003) rfl ?_)
  refine r_nil ?_
  refine w_ret ?_
  cases hF
  exact eR

def c58 : MC := (.seq (.reg [rg 2 (.p true (.mv (.c (.bool false))))]) (.seq (.reg [mvt 3 0, rg 4 (.p true (.bin .geq (.t 3) (.c (.int .u8 97)))), mvt 5 4, ⟨(some 6), (some (5, true)), (.p true (.mv (.t 0)))⟩, ⟨(some 7), (some (5, true)), (.p true (.bin .leq (.t 6) (.c (.int .u8 122))))⟩, rg 8 (.p true (.pick (.t 5) (.t 7) (.c (.bool false)))), mvt 2 8]) .ret))
theorem c58_is : compFn Tryz.prog 58 = some (c58, [(.tmp 2)]) := by kernel_rfl
theorem c58_ok : okFn Tryz.prog 58 = true := by kernel_rfl

noncomputable def F_spec_l01Small (v0 : Int) : Option (Bool) :=
 (bif (decide ((97 : Int) ≤ v0)) then some (decide (v0 ≤ (122 : Int)))
 else some false)
@[simp] def res_spec_l01Small (r : Bool) : RV := .one (.one (.val (.bool r)))
theorem con_spec_l01Small {v0 : Int} {r : Bool} (hF : F_spec_l01Small v0 = some r) : Con Tryz.prog 58 [.int .u8 v0] (res_spec_l01Small r) := by
 unfold F_spec_l01Small at hF
 refine con_of c58_is fun N => ?_
 refine ws 0 64 ?_
 refine qp (AB false) rfl ?_
 refine r_nil ?_
 refine ws 64 512 ?_
 refine qp (.val none (.int .u8 v0)) rfl (qp (AB (decide ((97 : Int) ≤ v0))) rfl (qp (AB (decide ((97 : Int) ≤ v0))) rfl ?_))
 refine q_case 5 hF rfl (fun hF => ?_) (fun hF => ?_)
 ·
  refine qg (.val none (.int .u8 v0)) rfl rfl (qg (AB (decide (v0 ≤ (122 : Int)))) rfl rfl (qp (AB (decide (v0 ≤ (122 : Int)))) rfl (qp (AB (decide (v0 ≤ (122 : Int)))) rfl ?_)))
  refine r_nil ?_
  refine w_ret ?_
  cases hF
  exact eR
 ·
  refine qn rfl (qn rfl (qp (AB false) rfl (qp (AB false) rfl ?_)))
  refine r_nil ?_
  refine w_ret ?_
  cases hF
  exact eR

def c43 : MC := (.seq (.reg [rg 2 (.p true (.mv (.c (.bool false))))]) (.seq (.seq (.reg [mvt 4 0, rg 5 (.p true (.bin .eql (.t 4) (.c (.str [])))), mvt 6 5, ⟨(some 7), (some (6, false)), (.p true (.mv (.t 0)))⟩, ⟨(some 8), (some (6, false)), (.p true (.lens (.t 7)))⟩, ⟨(some 9), (some (6, false)), (.p true (.bin .gtr (.t 8) (.c (.int .i64 10))))⟩, rg 10 (.p true (.pick (.t 6) (.c (.bool true)) (.t 9))), mvt 11 10, ⟨(some 12), (some (11, false)), (.p true (.mv (.t 0)))⟩, ⟨(some 13), (some (11, false)), (.p true (.ixs (.t 12) (.c (.int .i64 0))))⟩, ⟨(some 14), (some (11, false)), (.call true 58 [(.t 13)])⟩, ⟨(some 15), (some (11, false)), (.p true (.not (.t 14)))⟩, rg 16 (.p true (.pick (.t 11) (.c (.bool true)) (.t 15)))]) (.cond (.t 16) (.seq (.reg [rg 2 (.p true (.mv (.c (.bool false))))]) .ret) .skip)) (.seq (.seq (.reg [rg 3 (.p true (.mv (.c (.int .i64 0))))]) (.block 0 (.loop (.seq (.seq (.reg [mvt 17 3, mvt 18 0, rg 19 (.p true (.lens (.t 18))), rg 20 (.p true (.bin .lss (.t 17) (.t 19)))]) (.cond (.t 20) .skip (.exit 0))) (.seq (.block 1 (.seq (.reg [mvt 23 0, mvt 24 3, rg 25 (.p true (.ixs (.t 23) (.t 24))), rg 26 (.call true 58 [(.t 25)]), rg 27 (.p true (.not (.t 26))), mvt 28 27, ⟨(some 29), (some (28, true)), (.p true (.mv (.t 0)))⟩, ⟨(some 30), (some (28, true)), (.p true (.mv (.t 3)))⟩, ⟨(some 31), (some (28, true)), (.p true (.ixs (.t 29) (.t 30)))⟩, ⟨(some 32), (some (28, true)), (.call true 41 [(.t 31)])⟩, ⟨(some 33), (some (28, true)), (.p true (.not (.t 32)))⟩, rg 34 (.p true (.pick (.t 28) (.t 33) (.c (.bool false))))]) (.cond (.t 34) (.seq (.reg [rg 2 (.p true (.mv (.c (.bool false))))]) .ret) .skip))) (.reg [mvt 21 3, rg 22 (.p true (.bin .add (.t 21) (.c (.int .i64 1)))), mvt 3 22])))))) (.seq (.reg [rg 2 (.p true (.mv (.c (.bool true))))]) .ret))))
theorem c43_is : compFn Tryz.prog 43 = some (c43, [(.tmp 2)]) := by kernel_rfl
theorem c43_ok : okFn Tryz.prog 43 = true := by kernel_rfl

noncomputable def F_spec_l01Name_l0 (v0 : List UInt8) (k1 : Int → Option (Bool)) : Int → Option (Bool)
 | v50003 => (bif (decide (v50003 < (v0.length : Int))) then ((ix v0 v50003).bind fun v1010 => ((F_spec_l01Small (v1010.toNat : Int)).bind fun v1011 => (bif (!v1011) then ((ix v0 v50003).bind fun v1012 => ((F_spec_l01Digit (v1012.toNat : Int)).bind fun v1013 => (bif (!v1013) then some false
 else k1 (w64 (v50003 + 1)))))
 else k1 (w64 (v50003 + 1)))))
 else some true)
noncomputable def F_spec_l01Name (v0 : List UInt8) : Option (Bool) :=
 (bif (decide (v0 = [])) then some false
 else (bif (decide ((10 : Int) < (v0.length : Int))) then some false
 else ((ix v0 0).bind fun v1000 => ((F_spec_l01Small (v1000.toNat : Int)).bind fun v1001 => (bif (!v1001) then some false
 else loop (F_spec_l01Name_l0 v0) 0)))))
@[simp] def res_spec_l01Name (r : Bool) : RV := .one (.one (.val (.bool r)))
theorem con_spec_l01Name {v0 : List UInt8} {r : Bool} (hF : F_spec_l01Name v0 = some r) : Con Tryz.prog 43 [.str v0] (res_spec_l01Name r) := by
 unfold F_spec_l01Name at hF
 refine con_of c43_is fun N => ?_
 refine ws 0 64 ?_
 refine qp (AB false) rfl ?_
 refine r_nil ?_
 refine w_seq ?_
 refine ws 64 896 ?_
 refine qp (AS v0) rfl (qp (AB (decide (v0 = []))) rfl (qp (AB (decide (v0 = []))) rfl ?_))
 refine q_case 6 hF rfl (fun hF => ?_) (fun hF => ?_)
 ·
  refine qn rfl (qn rfl (qn rfl (qp (AB true) rfl (qp (AB true) rfl (qn rfl (qn rfl (qn rfl ?_)))))))
  refine qn rfl (qp (AB true) rfl ?_)
  refine r_nil ?_
  refine w_true rfl ?_
  refine ws 896 960 ?_
  refine qp (AB false) rfl ?_
  refine r_nil ?_
  refine w_ret ?_
  refine thenQ_r ?_
  cases hF
  exact eR
 ·
  refine qg (AS v0) rfl rfl (qg (AI (v0.length : Int)) rfl rfl (qg (AB (decide ((10 : Int) < (v0.length : Int)))) rfl rfl (qp (AB (decide ((10 : Int) < (v0.length : Int)))) rfl (qp (AB (decide ((10 : Int) < (v0.length : Int)))) rfl ?_))))
  refine q_case 11 hF rfl (fun hF => ?_) (fun hF => ?_)
  ·
   refine qn rfl (qn rfl (qn rfl (qn rfl (qp (AB true) rfl ?_))))
   refine r_nil ?_
   refine w_true rfl ?_
   refine ws 896 960 ?_
   refine qp (AB false) rfl ?_
   refine r_nil ?_
   refine w_ret ?_
   refine thenQ_r ?_
   cases hF
   exact eR
  ·
   refine qg (AS v0) rfl rfl ?_
   obtain ⟨v1000, e1000, hF⟩ := bind_get hF
   refine qg (.val none (.int .u8 (v1000.toNat : Int))) rfl (ev_ixs rfl rfl e1000) ?_
   obtain ⟨v1001, e1001, hF⟩ := bind_get hF
   refine qcg (AB v1001) [] false rfl (con_spec_l01Small e1001) c58_ok (by first | rfl | simp) rfl ?_
   refine qg (AB (!v1001)) rfl rfl (qp (AB (!v1001)) rfl ?_)
   refine r_nil ?_
   refine cF hF (fun hF => ?_) fun hF => ?_
   ·
    refine ws 896 960 ?_
    refine qp (AB false) rfl ?_
    refine r_nil ?_
    refine w_ret ?_
    refine thenQ_r ?_
    cases hF
    exact eR
   ·
    refine w_skip ?_
    refine thenQ_n ?_
    refine w_seq ?_
    refine ws 896 960 ?_
    refine qp (AI 0) rfl ?_
    refine r_nil ?_
    refine w_block ?_
    refine wr (l' := [(0, AS v0), (3, AI 0)]) (L := []) [0, 3] [] 1 ?_
    refine w_loopF (F_spec_l01Name_l0 v0) (fun s : Int => mkS [(0, AS v0), (3, AI s)] (fo []) 1) hF ?_
    rintro k1 v50003 hF
    rw [F_spec_l01Name_l0] at hF
    try dsimp only
    refine w_seq ?_
    refine ws 1 257 ?_
    refine qp (AI v50003) rfl (qp (AS v0) rfl (qp (AI (v0.length : Int)) rfl (qp (AB (decide (v50003 < (v0.length : Int)))) rfl ?_)))
    refine r_nil ?_
    refine cF hF (fun hF => ?_) fun hF => ?_
    ·
     refine w_skip ?_
     refine thenQ_n ?_
     refine w_seq ?_
     refine w_block ?_
     refine ws 257 1025 ?_
     refine qp (AS v0) rfl (qp (AI v50003) rfl ?_)
     obtain ⟨v1010, e1010, hF⟩ := bind_get hF
     refine qp (.val none (.int .u8 (v1010.toNat : Int))) (ev_ixs rfl rfl e1010) ?_
     obtain ⟨v1011, e1011, hF⟩ := bind_get hF
     refine qc (AB v1011) [] false (con_spec_l01Small e1011) c58_ok (by first | rfl | simp) rfl ?_
     refine qp (AB (!v1011)) rfl (qp (AB (!v1011)) rfl ?_)
     refine q_case 28 hF rfl (fun hF => ?_) (fun hF => ?_)
     ·
      refine qg (AS v0) rfl rfl (qg (AI v50003) rfl rfl ?_)
      obtain ⟨v1012, e1012, hF⟩ := bind_get hF
      refine qg (.val none (.int .u8 (v1012.toNat : Int))) rfl (ev_ixs rfl rfl e1012) ?_
      obtain ⟨v1013, e1013, hF⟩ := bind_get hF
      refine qcg (AB v1013) [] false rfl (con_spec_l01Digit e1013) c41_ok (by first | rfl | simp) rfl ?_
      refine qg (AB (!v1013)) rfl rfl (qp (AB (!v1013)) rfl ?_)
      refine r_nil ?_
      refine cF hF (fun hF => ?_) fun hF => ?_
      ·
       refine ws 1025 1089 ?_
       refine qp (AB false) rfl ?_
       refine r_nil ?_
       refine w_ret ?_
       refine blockQ_r ?_
       refine thenQ_r ?_
       refine thenQ_r ?_
       refine blockQ_r ?_
       refine thenQ_r ?_
       cases hF
       exact eR
      ·
       refine w_skip ?_
       refine blockQ_n ?_
       refine thenQ_n ?_
       refine w_reg 1025 1217 rfl rfl ?_
       refine qp (AI v50003) rfl (qp (AI (w64 (v50003 + 1))) rfl (qp (AI (w64 (v50003 + 1))) rfl ?_))
       refine r_nil ?_
       refine thenQ_n ?_
       refine ar (l' := [(0, AS v0), (3, AI (w64 (v50003 + 1)))]) (L := []) [0, 3] [] 1 ⟨_, by rfl, hF⟩
     ·
      refine qn rfl (qn rfl (qn rfl (qn rfl (qn rfl (qp (AB false) rfl ?_)))))
      refine r_nil ?_
      refine w_false rfl ?_
      refine w_skip ?_
      refine blockQ_n ?_
      refine thenQ_n ?_
      refine w_reg 1025 1217 rfl rfl ?_
      refine qp (AI v50003) rfl (qp (AI (w64 (v50003 + 1))) rfl (qp (AI (w64 (v50003 + 1))) rfl ?_))
      refine r_nil ?_
      refine thenQ_n ?_
      refine ar (l' := [(0, AS v0), (3, AI (w64 (v50003 + 1)))]) (L := []) [0, 3] [] 1 ⟨_, by rfl, hF⟩
    ·
     refine w_exit ?_
     refine thenQ_e ?_
     refine thenQ_e ?_
     refine blockQ_e ?_
     refine thenQ_n ?_
     refine ws 257 321 ?_
     refine qp (AB true) rfl ?_
     refine r_nil ?_
     refine w_ret ?_
     cases hF
     exact eR

def c28 : MC := (.seq (.reg [rg 2 (.p true (.mv (.c (.bool false))))]) (.seq (.seq (.reg [rg 3 (.p true (.mv (.c (.int .i64 0))))]) (.block 0 (.loop (.seq (.seq (.reg [mvt 4 3, mvt 5 0, rg 6 (.p true (.nck (.t 5))), rg 7 (.p true (.fad (.t 6) 2)), rg 8 (.p true (.ld (.t 7) 1 false)), rg 9 (.p true (.lens (.t 8))), rg 10 (.p true (.bin .lss (.t 4) (.t 9)))]) (.cond (.t 10) .skip (.exit 0))) (.seq (.block 1 (.seq (.reg [mvt 13 0, rg 14 (.p true (.nck (.t 13))), rg 15 (.p true (.fad (.t 14) 2)), rg 16 (.p true (.ld (.t 15) 1 false)), mvt 17 3, rg 18 (.p true (.ixs (.t 16) (.t 17))), rg 19 (.p true (.bin .eql (.t 18) (.c (.int .u8 10))))]) (.cond (.t 19) (.seq (.reg [rg 2 (.p true (.mv (.c (.bool false))))]) .ret) .skip))) (.reg [mvt 11 3, rg 12 (.p true (.bin .add (.t 11) (.c (.int .i64 1)))), mvt 3 12])))))) (.seq (.reg [mvt 20 0, rg 21 (.p true (.nck (.t 20))), rg 22 (.p true (.fad (.t 21) 0)), rg 23 (.p true (.ld (.t 22) 1 false)), rg 24 (.call true 43 [(.t 23)]), mvt 25 24, ⟨(some 26), (some (25, true)), (.p true (.mv (.t 0)))⟩, ⟨(some 27), (some (25, true)), (.p true (.nck (.t 26)))⟩, ⟨(some 28), (some (25, true)), (.p true (.fad (.t 27) 1))⟩, ⟨(some 29), (some (25, true)), (.p true (.ld (.t 28) 1 false))⟩, ⟨(some 30), (some (25, true)), (.call true 43 [(.t 29)])⟩, rg 31 (.p true (.pick (.t 25) (.t 30) (.c (.bool false)))), mvt 32 31, ⟨(some 33), (some (32, true)), (.p true (.mv (.t 0)))⟩, ⟨(some 34), (some (32, true)), (.p true (.nck (.t 33)))⟩, ⟨(some 35), (some (32, true)), (.p true (.fad (.t 34) 2))⟩, ⟨(some 36), (some (32, true)), (.p true (.ld (.t 35) 1 false))⟩, ⟨(some 37), (some (32, true)), (.p true (.lens (.t 36)))⟩, ⟨(some 38), (some (32, true)), (.p true (.bin .leq (.t 37) (.c (.int .i64 400))))⟩, rg 39 (.p true (.pick (.t 32) (.t 38) (.c (.bool false)))), mvt 2 39]) .ret)))
theorem c28_is : compFn Tryz.prog 28 = some (c28, [(.tmp 2)]) := by kernel_rfl
theorem c28_ok : okFn Tryz.prog 28 = true := by kernel_rfl

noncomputable def F_spec_l29One_l0 (v0 : TBlock) (k0 : Int → Option (Bool)) : Int → Option (Bool)
 | v50001 => (bif (decide (v50001 < (v0.2.2.length : Int))) then ((ix v0.2.2 v50001).bind fun v1000 => (bif (decide ((v1000.toNat : Int) = (10 : Int))) then some false
 else k0 (w64 (v50001 + 1))))
 else ((F_spec_l01Name v0.1).bind fun v1001 => (bif v1001 then ((F_spec_l01Name v0.2.1).bind fun v1002 => (bif v1002 then some (decide ((v0.2.2.length : Int) ≤ (400 : Int)))
 else some false))
 else some false)))
noncomputable def F_spec_l29One (v0 : TBlock) : Option (Bool) :=
 loop (F_spec_l29One_l0 v0) 0
@[simp] def res_spec_l29One (r : Bool) : RV := .one (.one (.val (.bool r)))
theorem con_spec_l29One {v0 : TBlock} {r : Bool} (hF : F_spec_l29One v0 = some r) : Con Tryz.prog 28 [.ptr [.str v0.1, .str v0.2.1, .str v0.2.2]] (res_spec_l29One r) := by
 unfold F_spec_l29One at hF
 refine con_of c28_is fun N => ?_
 refine ws 0 64 ?_
 refine qp (AB false) rfl ?_
 refine r_nil ?_
 refine w_seq ?_
 refine ws 64 128 ?_
 refine qp (AI 0) rfl ?_
 refine r_nil ?_
 refine w_block ?_
 refine wr (l' := [(0, .val none (.ptr [.str v0.1, .str v0.2.1, .str v0.2.2])), (3, AI 0)]) (L := []) [0, 3] [] 1 ?_
 refine w_loopF (F_spec_l29One_l0 v0) (fun s : Int => mkS [(0, .val none (.ptr [.str v0.1, .str v0.2.1, .str v0.2.2])), (3, AI s)] (fo []) 1) hF ?_
 rintro k0 v50001 hF
 rw [F_spec_l29One_l0] at hF
 try dsimp only
 refine w_seq ?_
 refine ws 1 449 ?_
 refine qp (AI v50001) rfl (qp (.val none (.ptr [.str v0.1, .str v0.2.1, .str v0.2.2])) rfl (qp (.val none (.ptr [.str v0.1, .str v0.2.1, .str v0.2.2])) rfl (qp (.val none (.ptr [.str v0.2.2])) rfl (qp (AS v0.2.2) rfl (qp (AI (v0.2.2.length : Int)) rfl (qp (AB (decide (v50001 < (v0.2.2.length : Int)))) rfl ?_))))))
 refine r_nil ?_
 refine cF hF (fun hF => ?_) fun hF => ?_
 ·
  refine w_skip ?_
  refine thenQ_n ?_
  refine w_seq ?_
  refine w_block ?_
  refine ws 449 897 ?_
  refine qp (.val none (.ptr [.str v0.1, .str v0.2.1, .str v0.2.2])) rfl (qp (.val none (.ptr [.str v0.1, .str v0.2.1, .str v0.2.2])) rfl (qp (.val none (.ptr [.str v0.2.2])) rfl (qp (AS v0.2.2) rfl (qp (AI v50001) rfl ?_))))
  obtain ⟨v1000, e1000, hF⟩ := bind_get hF
  refine qp (.val none (.int .u8 (v1000.toNat : Int))) (ev_ixs rfl rfl e1000) (qp (AB (decide ((v1000.toNat : Int) = (10 : Int)))) rfl ?_)
  refine r_nil ?_
  refine cF hF (fun hF => ?_) fun hF => ?_
  ·
   refine ws 897 961 ?_
   refine qp (AB false) rfl ?_
   refine r_nil ?_
   refine w_ret ?_
   refine blockQ_r ?_
   refine thenQ_r ?_
   refine thenQ_r ?_
   refine blockQ_r ?_
   refine thenQ_r ?_
   cases hF
   exact eR
  ·
   refine w_skip ?_
   refine blockQ_n ?_
   refine thenQ_n ?_
   refine w_reg 897 1089 rfl rfl ?_
   refine qp (AI v50001) rfl (qp (AI (w64 (v50001 + 1))) rfl (qp (AI (w64 (v50001 + 1))) rfl ?_))
   refine r_nil ?_
   refine thenQ_n ?_
   refine ar (l' := [(0, .val none (.ptr [.str v0.1, .str v0.2.1, .str v0.2.2])), (3, AI (w64 (v50001 + 1)))]) (L := []) [0, 3] [] 1 ⟨_, by rfl, hF⟩
 ·
  refine w_exit ?_
  refine thenQ_e ?_
  refine thenQ_e ?_
  refine blockQ_e ?_
  refine thenQ_n ?_
  refine ws 449 1793 ?_
  refine qp (.val none (.ptr [.str v0.1, .str v0.2.1, .str v0.2.2])) rfl (qp (.val none (.ptr [.str v0.1, .str v0.2.1, .str v0.2.2])) rfl (qp (.val none (.ptr [.str v0.1, .str v0.2.1, .str v0.2.2])) rfl (qp (AS v0.1) rfl ?_)))
  obtain ⟨v1001, e1001, hF⟩ := bind_get hF
  refine qc (AB v1001) [] false (con_spec_l01Name e1001) c43_ok (by first | rfl | simp) rfl ?_
  refine qp (AB v1001) rfl ?_
  refine q_case 25 hF rfl (fun hF => ?_) (fun hF => ?_)
  ·
   refine qg (.val none (.ptr [.str v0.1, .str v0.2.1, .str v0.2.2])) rfl rfl (qg (.val none (.ptr [.str v0.1, .str v0.2.1, .str v0.2.2])) rfl rfl (qg (.val none (.ptr [.str v0.2.1, .str v0.2.2])) rfl rfl (qg (AS v0.2.1) rfl rfl ?_)))
   obtain ⟨v1002, e1002, hF⟩ := bind_get hF
   refine qcg (AB v1002) [] false rfl (con_spec_l01Name e1002) c43_ok (by first | rfl | simp) rfl ?_
   refine qp (AB v1002) rfl (qp (AB v1002) rfl ?_)
   refine q_case 32 hF rfl (fun hF => ?_) (fun hF => ?_)
   ·
    refine qg (.val none (.ptr [.str v0.1, .str v0.2.1, .str v0.2.2])) rfl rfl (qg (.val none (.ptr [.str v0.1, .str v0.2.1, .str v0.2.2])) rfl rfl (qg (.val none (.ptr [.str v0.2.2])) rfl rfl (qg (AS v0.2.2) rfl rfl (qg (AI (v0.2.2.length : Int)) rfl rfl (qg (AB (decide ((v0.2.2.length : Int) ≤ (400 : Int)))) rfl rfl (qp (AB (decide ((v0.2.2.length : Int) ≤ (400 : Int)))) rfl (qp (AB (decide ((v0.2.2.length : Int) ≤ (400 : Int)))) rfl ?_)))))))
    refine r_nil ?_
    refine w_ret ?_
    cases hF
    exact eR
   ·
    refine qn rfl (qn rfl (qn rfl (qn rfl (qn rfl (qn rfl (qp (AB false) rfl (qp (AB false) rfl ?_)))))))
    refine r_nil ?_
    refine w_ret ?_
    cases hF
    exact eR
  ·
   refine qn rfl (qn rfl (qn rfl (qn rfl (qn rfl (qp (AB false) rfl (qp (AB false) rfl (qn rfl ?_)))))))
   refine qn rfl (qn rfl (qn rfl (qn rfl (qn rfl (qp (AB false) rfl (qp (AB false) rfl ?_))))))
   refine r_nil ?_
   refine w_ret ?_
   cases hF
   exact eR

def c11 : MC := (.seq (.reg [rg 2 (.f (.alloc [((.str []), (0, false)), ((.str []), (0, false)), ((.str []), (0, false))])), rg 3 (.p true (.mv (.c (.int .i64 0))))]) (.seq (.seq (.reg [mvt 8 0, rg 9 (.p true (.lens (.t 8))), rg 10 (.p true (.bin .lss (.t 9) (.c (.int .i64 6)))), mvt 11 10, ⟨(some 12), (some (11, false)), (.p true (.mv (.t 0)))⟩, ⟨(some 13), (some (11, false)), (.p true (.ixs (.t 12) (.c (.int .i64 5))))⟩, ⟨(some 14), (some (11, false)), (.p true (.bin .neq (.t 13) (.c (.int .u8 32))))⟩, rg 15 (.p true (.pick (.t 11) (.c (.bool true)) (.t 14)))]) (.cond (.t 15) (.seq (.reg [rg 16 (.f (.bld [((.str []), (0, false)), ((.str []), (0, false)), ((.str []), (0, false))] [])), ⟨none, none, (.f (.st (.t 2) (.t 16) 3))⟩, rg 3 (.p true (.mv (.c (.int .i64 9))))]) .ret) .skip)) (.seq (.reg [mvt 17 0, rg 18 (.p true (.slcs (.t 17) (some (.c (.int .i64 6))) none)), mvt 4 18]) (.seq (.seq (.reg [rg 19 (.p false (.mv (.t 0))), rg 20 (.p false (.slcs (.t 19) none (some (.c (.int .i64 5))))), rg 21 (.p false (.mv (.t 4))), rg 22 (.call false 27 [(.t 21), (.c (.int .i64 65535))]), rg 23 (.call false 26 [(.t 22)]), rg 24 (.p false (.bin .neq (.t 20) (.t 23)))]) (.cond (.t 24) (.seq (.reg [rg 25 (.f (.bld [((.str []), (0, false)), ((.str []), (0, false)), ((.str []), (0, false))] [])), ⟨none, none, (.f (.st (.t 2) (.t 25) 3))⟩, rg 3 (.p true (.mv (.c (.int .i64 10))))]) .ret) .skip)) (.seq (.reg [rg 5 (.p true (.mv (.c (.int .i64 0))))]) (.seq (.block 0 (.loop (.seq (.seq (.reg [mvt 26 5, mvt 27 4, rg 28 (.p true (.lens (.t 27))), rg 29 (.p true (.bin .lss (.t 26) (.t 28))), mvt 30 29, ⟨(some 31), (some (30, true)), (.p true (.mv (.t 4)))⟩, ⟨(some 32), (some (30, true)), (.p true (.mv (.t 5)))⟩, ⟨(some 33), (some (30, true)), (.p true (.ixs (.t 31) (.t 32)))⟩, ⟨(some 34), (some (30, true)), (.p true (.bin .neq (.t 33) (.c (.int .u8 32))))⟩, rg 35 (.p true (.pick (.t 30) (.t 34) (.c (.bool false))))]) (.cond (.t 35) .skip (.exit 0))) (.block 1 (.reg [mvt 36 5, rg 37 (.p true (.bin .add (.t 36) (.c (.int .i64 1)))), mvt 5 37]))))) (.seq (.reg [mvt 38 5, rg 39 (.p true (.bin .add (.t 38) (.c (.int .i64 1)))), mvt 6 39]) (.seq (.block 2 (.loop (.seq (.seq (.reg [mvt 40 6, mvt 41 4, rg 42 (.p true (.lens (.t 41))), rg 43 (.p true (.bin .lss (.t 40) (.t 42))), mvt 44 43, ⟨(some 45), (some (44, true)), (.p true (.mv (.t 4)))⟩, ⟨(some 46), (some (44, true)), (.p true (.mv (.t 6)))⟩, ⟨(some 47), (some (44, true)), (.p true (.ixs (.t 45) (.t 46)))⟩, ⟨(some 48), (some (44, true)), (.p true (.bin .neq (.t 47) (.c (.int .u8 32))))⟩, rg 49 (.p true (.pick (.t 44) (.t 48) (.c (.bool false))))]) (.cond (.t 49) .skip (.exit 2))) (.block 3 (.reg [mvt 50 6, rg 51 (.p true (.bin .add (.t 50) (.c (.int .i64 1)))), mvt 6 51]))))) (.seq (.seq (.reg [mvt 52 6, mvt 53 4, rg 54 (.p true (.lens (.t 53))), rg 55 (.p true (.bin .geq (.t 52) (.t 54)))]) (.cond (.t 55) (.seq (.reg [rg 56 (.f (.bld [((.str []), (0, false)), ((.str []), (0, false)), ((.str []), (0, false))] [])), ⟨none, none, (.f (.st (.t 2) (.t 56) 3))⟩, rg 3 (.p true (.mv (.c (.int .i64 9))))]) .ret) .skip)) (.seq (.reg [rg 57 (.p false (.mv (.t 4))), rg 58 (.p false (.mv (.t 5))), rg 59 (.p false (.slcs (.t 57) none (some (.t 58)))), rg 60 (.p false (.mv (.t 4))), rg 61 (.p false (.mv (.t 5))), rg 62 (.p false (.bin .add (.t 61) (.c (.int .i64 1)))), rg 63 (.p false (.mv (.t 6))), rg 64 (.p false (.slcs (.t 60) (some (.t 62)) (some (.t 63)))), rg 65 (.p false (.mv (.t 4))), rg 66 (.p false (.mv (.t 6))), rg 67 (.p false (.bin .add (.t 66) (.c (.int .i64 1)))), rg 68 (.p false (.slcs (.t 65) (some (.t 67)) none)), rg 69 (.f (.bld [((.str []), (0, true)), ((.str []), (0, true)), ((.str []), (0, true))] [(0, (1, (.t 59))), (1, (1, (.t 64))), (2, (1, (.t 68)))])), rg 7 (.f (.alloc [((.str []), (0, false)), ((.str []), (0, false)), ((.str []), (0, false))])), ⟨none, none, (.f (.st (.t 7) (.t 69) 3))⟩]) (.seq (.seq (.reg [rg 70 (.call true 28 [(.t 7)]), rg 71 (.p true (.not (.t 70)))]) (.cond (.t 71) (.seq (.reg [rg 72 (.f (.bld [((.str []), (0, false)), ((.str []), (0, false)), ((.str []), (0, false))] [])), ⟨none, none, (.f (.st (.t 2) (.t 72) 3))⟩, rg 3 (.p true (.mv (.c (.int .i64 9))))]) .ret) .skip)) (.seq (.reg [rg 73 (.p true (.ld (.t 7) 3 true)), ⟨none, none, (.f (.st (.t 2) (.t 73) 3))⟩, rg 3 (.p true (.mv (.c (.int .i64 0))))]) .ret))))))))))))
theorem c11_is : compFn Tryz.prog 11 = some (c11, [(.cell (.ld (.t 2) 3 true)), (.tmp 3)]) := by kernel_rfl
theorem c11_ok : okFn Tryz.prog 11 = true := by kernel_rfl

noncomputable def F_spec_l29Parse_j3 (v0 : List UInt8) (v50008 : Int) (v50011 : Int) : Option (TBlock × Int) :=
 (bif (decide (((sub v0 6 (v0.length : Int)).length : Int) ≤ v50011)) then some (([], [], []), 9)
 else (need (0 ≤ (0 : Int) ∧ (0 : Int) ≤ v50008 ∧ v50008 ≤ ((sub v0 6 (v0.length : Int)).length : Int)) ((need (0 ≤ w64 (v50008 + 1) ∧ w64 (v50008 + 1) ≤ v50011 ∧ v50011 ≤ ((sub v0 6 (v0.length : Int)).length : Int)) ((need (0 ≤ w64 (v50011 + 1) ∧ w64 (v50011 + 1) ≤ ((sub v0 6 (v0.length : Int)).length : Int) ∧ ((sub v0 6 (v0.length : Int)).length : Int) ≤ ((sub v0 6 (v0.length : Int)).length : Int)) (((F_spec_l29One (sub (sub v0 6 (v0.length : Int)) 0 v50008, sub (sub v0 6 (v0.length : Int)) (w64 (v50008 + 1)) v50011, sub (sub v0 6 (v0.length : Int)) (w64 (v50011 + 1)) ((sub v0 6 (v0.length : Int)).length : Int))).bind fun v1013 => (bif (!v1013) then some (([], [], []), 9)
 else some ((sub (sub v0 6 (v0.length : Int)) 0 v50008, sub (sub v0 6 (v0.length : Int)) (w64 (v50008 + 1)) v50011, sub (sub v0 6 (v0.length : Int)) (w64 (v50011 + 1)) ((sub v0 6 (v0.length : Int)).length : Int)), 0))))))))))
noncomputable def F_spec_l29Parse_l4 (v0 : List UInt8) (v50008 : Int) (k3 : Int → Option (TBlock × Int)) : Int → Option (TBlock × Int)
 | v50010 => (bif (decide (v50010 < ((sub v0 6 (v0.length : Int)).length : Int))) then ((ix (sub v0 6 (v0.length : Int)) v50010).bind fun v1009 => (bif (decide ((v1009.toNat : Int) ≠ (32 : Int))) then k3 (w64 (v50010 + 1))
 else F_spec_l29Parse_j3 v0 v50008 v50010))
 else F_spec_l29Parse_j3 v0 v50008 v50010)
noncomputable def F_spec_l29Parse_j1 (v0 : List UInt8) (v50008 : Int) : Option (TBlock × Int) :=
 loop (F_spec_l29Parse_l4 v0 v50008) (w64 (v50008 + 1))
noncomputable def F_spec_l29Parse_l2 (v0 : List UInt8) (k2 : Int → Option (TBlock × Int)) : Int → Option (TBlock × Int)
 | v50007 => (bif (decide (v50007 < ((sub v0 6 (v0.length : Int)).length : Int))) then ((ix (sub v0 6 (v0.length : Int)) v50007).bind fun v1008 => (bif (decide ((v1008.toNat : Int) ≠ (32 : Int))) then k2 (w64 (v50007 + 1))
 else F_spec_l29Parse_j1 v0 v50007))
 else F_spec_l29Parse_j1 v0 v50007)
noncomputable def F_spec_l29Parse (v0 : List UInt8) : Option (TBlock × Int) :=
 (bif (decide ((v0.length : Int) < (6 : Int))) then some (([], [], []), 9)
 else ((ix v0 5).bind fun v1000 => (bif (decide ((v1000.toNat : Int) ≠ (32 : Int))) then some (([], [], []), 9)
 else (need (0 ≤ (6 : Int) ∧ (6 : Int) ≤ (v0.length : Int) ∧ (v0.length : Int) ≤ (v0.length : Int)) ((need (0 ≤ (0 : Int) ∧ (0 : Int) ≤ (5 : Int) ∧ (5 : Int) ≤ (v0.length : Int)) (((F_spec_l01Crc (sub v0 6 (v0.length : Int)) 65535).bind fun v1003 => ((F_spec_l29Five v1003).bind fun v1004 => (bif (decide (sub v0 0 5 ≠ v1004)) then some (([], [], []), 10)
 else loop (F_spec_l29Parse_l2 v0) 0))))))))))
@[simp] def res_spec_l29Parse (r : TBlock × Int) : RV := .tup [.one (.val (eBlock r.1)), .one (.val (.int .i64 r.2))]
theorem con_spec_l29Parse {v0 : List UInt8} {r : TBlock × Int} (hF : F_spec_l29Parse v0 = some r) : Con Tryz.prog 11 [.str v0] (res_spec_l29Parse r) := by
 unfold F_spec_l29Parse at hF
 refine con_of c11_is fun N => ?_
 refine ws 0 128 ?_
 refine qf (.ptr 0 0 0) [(0, .box [AS [], AS [], AS []])] (by simp) ?_
 refine qp (AI 0) rfl ?_
 refine r_nil ?_
 refine w_seq ?_
 refine ws 128 640 ?_
 refine qp (AS v0) rfl (qp (AI (v0.length : Int)) rfl (qp (AB (decide ((v0.length : Int) < (6 : Int)))) rfl (qp (AB (decide ((v0.length : Int) < (6 : Int)))) rfl ?_)))
 refine q_case 11 hF rfl (fun hF => ?_) (fun hF => ?_)
 ·
  refine qn rfl (qn rfl (qn rfl (qp (AB true) rfl ?_)))
  refine r_nil ?_
  refine w_true rfl ?_
  refine ws 640 832 ?_
  refine qf (.agg [AS [], AS [], AS []]) [(0, .box [AS [], AS [], AS []])] (by simp) ?_
  refine qf0 (.undef) [(0, .box [AS [], AS [], AS []]), (0, .box [AS [], AS [], AS []])] (by simp) ?_
  refine qp (AI 9) rfl ?_
  refine r_nil ?_
  refine w_ret ?_
  refine thenQ_r ?_
  cases hF
  exact eR
 ·
  refine qg (AS v0) rfl rfl ?_
  obtain ⟨v1000, e1000, hF⟩ := bind_get hF
  refine qg (.val none (.int .u8 (v1000.toNat : Int))) rfl (ev_ixs rfl rfl e1000) (qg (AB (decide ((v1000.toNat : Int) ≠ (32 : Int)))) rfl rfl (qp (AB (decide ((v1000.toNat : Int) ≠ (32 : Int)))) rfl ?_))
  refine r_nil ?_
  refine cF hF (fun hF => ?_) fun hF => ?_
  ·
   refine ws 640 832 ?_
   refine qf (.agg [AS [], AS [], AS []]) [(0, .box [AS [], AS [], AS []])] (by simp) ?_
   refine qf0 (.undef) [(0, .box [AS [], AS [], AS []]), (0, .box [AS [], AS [], AS []])] (by simp) ?_
   refine qp (AI 9) rfl ?_
   refine r_nil ?_
   refine w_ret ?_
   refine thenQ_r ?_
   cases hF
   exact eR
  ·
   refine w_skip ?_
   refine thenQ_n ?_
   refine ws 640 832 ?_
   refine qp (AS v0) rfl ?_
   obtain ⟨g1001, hF⟩ := need_some hF
   refine qp (AS (sub v0 6 (v0.length : Int))) (ev_slcs rfl rfl rfl g1001) (qp (AS (sub v0 6 (v0.length : Int))) rfl ?_)
   refine r_nil ?_
   refine w_seq ?_
   refine ws 832 1216 ?_
   refine qp (AS v0) rfl ?_
   obtain ⟨g1002, hF⟩ := need_some hF
   refine qp (AS (sub v0 0 5)) (ev_slcs rfl rfl rfl g1002) (qp (AS (sub v0 6 (v0.length : Int))) rfl ?_)
   obtain ⟨v1003, e1003, hF⟩ := bind_get hF
   refine qc (AI v1003) [(0, .box [AS [], AS [], AS []])] false (con_spec_l01Crc e1003) c27_ok (by first | rfl | simp) rfl ?_
   obtain ⟨v1004, e1004, hF⟩ := bind_get hF
   refine qc (AS v1004) [(0, .box [AS [], AS [], AS []])] false (con_spec_l29Five e1004) c26_ok (by first | rfl | simp) rfl ?_
   refine qp (AB (decide (sub v0 0 5 ≠ v1004))) rfl ?_
   refine r_nil ?_
   refine cF hF (fun hF => ?_) fun hF => ?_
   ·
    refine ws 1216 1408 ?_
    refine qf (.agg [AS [], AS [], AS []]) [(0, .box [AS [], AS [], AS []])] (by simp) ?_
    refine qf0 (.undef) [(0, .box [AS [], AS [], AS []]), (0, .box [AS [], AS [], AS []])] (by simp) ?_
    refine qp (AI 10) rfl ?_
    refine r_nil ?_
    refine w_ret ?_
    refine thenQ_r ?_
    cases hF
    exact eR
   ·
    refine w_skip ?_
    refine thenQ_n ?_
    refine ws 1216 1280 ?_
    refine qp (AI 0) rfl ?_
    refine r_nil ?_
    refine w_meet (fun s' => ∃ (v50008 : Int), s' = mkS [(2, .ptr 0 0 0), (4, AS (sub v0 6 (v0.length : Int))), (5, AI v50008)] (fo [(0, .box [AS [], AS [], AS []])]) 1 ∧ F_spec_l29Parse_j1 v0 v50008 = some r) ?_ ?_
    ·
     refine w_block ?_
     refine wr (l' := [(2, .ptr 0 0 0), (4, AS (sub v0 6 (v0.length : Int))), (5, AI 0)]) (L := [(0, .box [AS [], AS [], AS []])]) [2, 4, 5] [(0, 0)] 1 ?_
     refine w_loopF (F_spec_l29Parse_l2 v0) (fun s : Int => mkS [(2, .ptr 0 0 0), (4, AS (sub v0 6 (v0.length : Int))), (5, AI s)] (fo [(0, .box [AS [], AS [], AS []])]) 1) hF ?_
     rintro k2 v50007 hF
     rw [F_spec_l29Parse_l2] at hF
     try dsimp only
     refine w_seq ?_
     refine ws 1 641 ?_
     refine qp (AI v50007) rfl (qp (AS (sub v0 6 (v0.length : Int))) rfl (qp (AI ((sub v0 6 (v0.length : Int)).length : Int)) rfl (qp (AB (decide (v50007 < ((sub v0 6 (v0.length : Int)).length : Int)))) rfl (qp (AB (decide (v50007 < ((sub v0 6 (v0.length : Int)).length : Int)))) rfl ?_))))
     refine q_case 30 hF rfl (fun hF => ?_) (fun hF => ?_)
     ·
      refine qg (AS (sub v0 6 (v0.length : Int))) rfl rfl (qg (AI v50007) rfl rfl ?_)
      obtain ⟨v1008, e1008, hF⟩ := bind_get hF
      refine qg (.val none (.int .u8 (v1008.toNat : Int))) rfl (ev_ixs rfl rfl e1008) (qg (AB (decide ((v1008.toNat : Int) ≠ (32 : Int)))) rfl rfl (qp (AB (decide ((v1008.toNat : Int) ≠ (32 : Int)))) rfl ?_))
      refine r_nil ?_
      refine cF hF (fun hF => ?_) fun hF => ?_
      ·
       refine w_skip ?_
       refine thenQ_n ?_
       refine w_block ?_
       refine w_reg 641 833 rfl rfl ?_
       refine qp (AI v50007) rfl (qp (AI (w64 (v50007 + 1))) rfl (qp (AI (w64 (v50007 + 1))) rfl ?_))
       refine r_nil ?_
       refine blockQ_n ?_
       refine thenQ_n ?_
       refine ar (l' := [(2, .ptr 0 0 0), (4, AS (sub v0 6 (v0.length : Int))), (5, AI (w64 (v50007 + 1)))]) (L := [(0, .box [AS [], AS [], AS []])]) [2, 4, 5] [(0, 0)] 1 ⟨_, by rfl, hF⟩
      ·
       refine w_exit ?_
       refine thenQ_e ?_
       refine thenQ_e ?_
       refine blockQ_e ?_
       refine thenQ_n ?_
       refine aw_ren (l' := [(2, .ptr 0 0 0), (4, AS (sub v0 6 (v0.length : Int))), (5, AI v50007)]) (L := [(0, .box [AS [], AS [], AS []])]) [2, 4, 5] [(0, 0)] 1 (by first | rfl | simp) (by first | rfl | simp) (by decide) (by decide) (by decide) ⟨_, rfl, hF⟩
     ·
      refine qn rfl (qn rfl (qn rfl (qn rfl (qp (AB false) rfl ?_))))
      refine r_nil ?_
      refine w_false rfl ?_
      refine w_exit ?_
      refine thenQ_e ?_
      refine thenQ_e ?_
      refine blockQ_e ?_
      refine thenQ_n ?_
      refine aw_ren (l' := [(2, .ptr 0 0 0), (4, AS (sub v0 6 (v0.length : Int))), (5, AI v50007)]) (L := [(0, .box [AS [], AS [], AS []])]) [2, 4, 5] [(0, 0)] 1 (by first | rfl | simp) (by first | rfl | simp) (by decide) (by decide) (by decide) ⟨_, rfl, hF⟩
    ·
     rintro s' ⟨v50008, rfl, hF⟩
     unfold F_spec_l29Parse_j1 at hF
     refine ws 1 193 ?_
     refine qp (AI v50008) rfl (qp (AI (w64 (v50008 + 1))) rfl (qp (AI (w64 (v50008 + 1))) rfl ?_))
     refine r_nil ?_
     refine w_meet (fun s' => ∃ (v50011 : Int), s' = mkS [(2, .ptr 0 0 0), (4, AS (sub v0 6 (v0.length : Int))), (5, AI v50008), (6, AI v50011)] (fo [(0, .box [AS [], AS [], AS []])]) 1 ∧ F_spec_l29Parse_j3 v0 v50008 v50011 = some r) ?_ ?_
     ·
      refine w_block ?_
      refine wr (l' := [(2, .ptr 0 0 0), (4, AS (sub v0 6 (v0.length : Int))), (5, AI v50008), (6, AI (w64 (v50008 + 1)))]) (L := [(0, .box [AS [], AS [], AS []])]) [2, 4, 5, 6] [(0, 0)] 1 ?_
      refine w_loopF (F_spec_l29Parse_l4 v0 v50008) (fun s : Int => mkS [(2, .ptr 0 0 0), (4, AS (sub v0 6 (v0.length : Int))), (5, AI v50008), (6, AI s)] (fo [(0, .box [AS [], AS [], AS []])]) 1) hF ?_
      rintro k3 v50010 hF
      rw [F_spec_l29Parse_l4] at hF
      try dsimp only
      refine w_seq ?_
      refine ws 1 641 ?_
      refine qp (AI v50010) rfl (qp (AS (sub v0 6 (v0.length : Int))) rfl (qp (AI ((sub v0 6 (v0.length : Int)).length : Int)) rfl (qp (AB (decide (v50010 < ((sub v0 6 (v0.length : Int)).length : Int)))) rfl (qp (AB (decide (v50010 < ((sub v0 6 (v0.length : Int)).length : Int)))) rfl ?_))))
      refine q_case 44 hF rfl (fun hF => ?_) (fun hF => ?_)
      ·
       refine qg (AS (sub v0 6 (v0.length : Int))) rfl rfl (qg (AI v50010) rfl rfl ?_)
       obtain ⟨v1009, e1009, hF⟩ := bind_get hF
       refine qg (.val none (.int .u8 (v1009.toNat : Int))) rfl (ev_ixs rfl rfl e1009) (qg (AB (decide ((v1009.toNat : Int) ≠ (32 : Int)))) rfl rfl (qp (AB (decide ((v1009.toNat : Int) ≠ (32 : Int)))) rfl ?_))
       refine r_nil ?_
       refine cF hF (fun hF => ?_) fun hF => ?_
       ·
        refine w_skip ?_
        refine thenQ_n ?_
        refine w_block ?_
        refine w_reg 641 833 rfl rfl ?_
        refine qp (AI v50010) rfl (qp (AI (w64 (v50010 + 1))) rfl (qp (AI (w64 (v50010 + 1))) rfl ?_))
        refine r_nil ?_
        refine blockQ_n ?_
        refine thenQ_n ?_
        refine ar (l' := [(2, .ptr 0 0 0), (4, AS (sub v0 6 (v0.length : Int))), (5, AI v50008), (6, AI (w64 (v50010 + 1)))]) (L := [(0, .box [AS [], AS [], AS []])]) [2, 4, 5, 6] [(0, 0)] 1 ⟨_, by rfl, hF⟩
       ·
        refine w_exit ?_
        refine thenQ_e ?_
        refine thenQ_e ?_
        refine blockQ_e ?_
        refine thenQ_n ?_
        refine aw_ren (l' := [(2, .ptr 0 0 0), (4, AS (sub v0 6 (v0.length : Int))), (5, AI v50008), (6, AI v50010)]) (L := [(0, .box [AS [], AS [], AS []])]) [2, 4, 5, 6] [(0, 0)] 1 (by first | rfl | simp) (by first | rfl | simp) (by decide) (by decide) (by decide) ⟨_, rfl, hF⟩
      ·
       refine qn rfl (qn rfl (qn rfl (qn rfl (qp (AB false) rfl ?_))))
       refine r_nil ?_
       refine w_false rfl ?_
       refine w_exit ?_
       refine thenQ_e ?_
       refine thenQ_e ?_
       refine blockQ_e ?_
       refine thenQ_n ?_
       refine aw_ren (l' := [(2, .ptr 0 0 0), (4, AS (sub v0 6 (v0.length : Int))), (5, AI v50008), (6, AI v50010)]) (L := [(0, .box [AS [], AS [], AS []])]) [2, 4, 5, 6] [(0, 0)] 1 (by first | rfl | simp) (by first | rfl | simp) (by decide) (by decide) (by decide) ⟨_, rfl, hF⟩
     ·
      rintro s' ⟨v50011, rfl, hF⟩
      unfold F_spec_l29Parse_j3 at hF
      refine w_seq ?_
      refine ws 1 257 ?_
      refine qp (AI v50011) rfl (qp (AS (sub v0 6 (v0.length : Int))) rfl (qp (AI ((sub v0 6 (v0.length : Int)).length : Int)) rfl (qp (AB (decide (((sub v0 6 (v0.length : Int)).length : Int) ≤ v50011))) rfl ?_)))
      refine r_nil ?_
      refine cF hF (fun hF => ?_) fun hF => ?_
      ·
       refine ws 257 449 ?_
       refine qf (.agg [AS [], AS [], AS []]) [(0, .box [AS [], AS [], AS []])] (by simp) ?_
       refine qf0 (.undef) [(0, .box [AS [], AS [], AS []]), (0, .box [AS [], AS [], AS []])] (by simp) ?_
       refine qp (AI 9) rfl ?_
       refine r_nil ?_
       refine w_ret ?_
       refine thenQ_r ?_
       cases hF
       exact eR
      ·
       refine w_skip ?_
       refine thenQ_n ?_
       refine ws 257 1217 ?_
       refine qp (AS (sub v0 6 (v0.length : Int))) rfl (qp (AI v50008) rfl ?_)
       obtain ⟨g1010, hF⟩ := need_some hF
       refine qp (AS (sub (sub v0 6 (v0.length : Int)) 0 v50008)) (ev_slcs rfl rfl (bnd_some rfl (Int.le_trans g1010.1 g1010.2.1)) g1010) (qp (AS (sub v0 6 (v0.length : Int))) rfl (qp (AI v50008) rfl (qp (AI (w64 (v50008 + 1))) rfl (qp (AI v50011) rfl ?_))))
       obtain ⟨g1011, hF⟩ := need_some hF
       refine qp (AS (sub (sub v0 6 (v0.length : Int)) (w64 (v50008 + 1)) v50011)) (ev_slcs rfl (bnd_some rfl g1011.1) (bnd_some rfl (Int.le_trans g1011.1 g1011.2.1)) g1011) (qp (AS (sub v0 6 (v0.length : Int))) rfl (qp (AI v50011) rfl (qp (AI (w64 (v50011 + 1))) rfl ?_)))
       obtain ⟨g1012, hF⟩ := need_some hF
       refine qp (AS (sub (sub v0 6 (v0.length : Int)) (w64 (v50011 + 1)) ((sub v0 6 (v0.length : Int)).length : Int))) (ev_slcs rfl (bnd_some rfl g1012.1) rfl g1012) ?_
       refine qf (.agg [AS (sub (sub v0 6 (v0.length : Int)) 0 v50008), AS (sub (sub v0 6 (v0.length : Int)) (w64 (v50008 + 1)) v50011), AS (sub (sub v0 6 (v0.length : Int)) (w64 (v50011 + 1)) ((sub v0 6 (v0.length : Int)).length : Int))]) [(0, .box [AS [], AS [], AS []])] (by simp) ?_
       refine qf (.ptr 1089 0 0) [(1089, .box [AS [], AS [], AS []]), (0, .box [AS [], AS [], AS []])] (by simp) ?_
       refine qf0 (.undef) [(1089, .box [AS (sub (sub v0 6 (v0.length : Int)) 0 v50008), AS (sub (sub v0 6 (v0.length : Int)) (w64 (v50008 + 1)) v50011), AS (sub (sub v0 6 (v0.length : Int)) (w64 (v50011 + 1)) ((sub v0 6 (v0.length : Int)).length : Int))]), (1089, .box [AS [], AS [], AS []]), (0, .box [AS [], AS [], AS []])] (by simp) ?_
       refine r_nil ?_
       refine w_seq ?_
       refine ws 1217 1345 ?_
       obtain ⟨v1013, e1013, hF⟩ := bind_get hF
       refine qc (AB v1013) [(1089, .box [AS (sub (sub v0 6 (v0.length : Int)) 0 v50008), AS (sub (sub v0 6 (v0.length : Int)) (w64 (v50008 + 1)) v50011), AS (sub (sub v0 6 (v0.length : Int)) (w64 (v50011 + 1)) ((sub v0 6 (v0.length : Int)).length : Int))]), (1089, .box [AS [], AS [], AS []]), (0, .box [AS [], AS [], AS []])] true (con_spec_l29One e1013) c28_ok (by simp [List.take_of_length_le]) rfl ?_
       refine qp (AB (!v1013)) rfl ?_
       refine r_nil ?_
       refine cF hF (fun hF => ?_) fun hF => ?_
       ·
        refine ws 1345 1537 ?_
        refine qf (.agg [AS [], AS [], AS []]) [(1089, .box [AS (sub (sub v0 6 (v0.length : Int)) 0 v50008), AS (sub (sub v0 6 (v0.length : Int)) (w64 (v50008 + 1)) v50011), AS (sub (sub v0 6 (v0.length : Int)) (w64 (v50011 + 1)) ((sub v0 6 (v0.length : Int)).length : Int))]), (1089, .box [AS [], AS [], AS []]), (0, .box [AS [], AS [], AS []])] (by simp) ?_
        refine qf0 (.undef) [(0, .box [AS [], AS [], AS []]), (1089, .box [AS (sub (sub v0 6 (v0.length : Int)) 0 v50008), AS (sub (sub v0 6 (v0.length : Int)) (w64 (v50008 + 1)) v50011), AS (sub (sub v0 6 (v0.length : Int)) (w64 (v50011 + 1)) ((sub v0 6 (v0.length : Int)).length : Int))]), (1089, .box [AS [], AS [], AS []]), (0, .box [AS [], AS [], AS []])] (by simp) ?_
        refine qp (AI 9) rfl ?_
        refine r_nil ?_
        refine w_ret ?_
        refine thenQ_r ?_
        cases hF
        exact eR
       ·
        refine w_skip ?_
        refine thenQ_n ?_
        refine ws 1345 1537 ?_
        refine qp (.agg [AS (sub (sub v0 6 (v0.length : Int)) 0 v50008), AS (sub (sub v0 6 (v0.length : Int)) (w64 (v50008 + 1)) v50011), AS (sub (sub v0 6 (v0.length : Int)) (w64 (v50011 + 1)) ((sub v0 6 (v0.length : Int)).length : Int))]) rfl ?_
        refine qf0 (.undef) [(0, .box [AS (sub (sub v0 6 (v0.length : Int)) 0 v50008), AS (sub (sub v0 6 (v0.length : Int)) (w64 (v50008 + 1)) v50011), AS (sub (sub v0 6 (v0.length : Int)) (w64 (v50011 + 1)) ((sub v0 6 (v0.length : Int)).length : Int))]), (1089, .box [AS (sub (sub v0 6 (v0.length : Int)) 0 v50008), AS (sub (sub v0 6 (v0.length : Int)) (w64 (v50008 + 1)) v50011), AS (sub (sub v0 6 (v0.length : Int)) (w64 (v50011 + 1)) ((sub v0 6 (v0.length : Int)).length : Int))]), (1089, .box [AS [], AS [], AS []]), (0, .box [AS [], AS [], AS []])] (by simp) ?_
        refine qp (AI 0) rfl ?_
        refine r_nil ?_
        refine w_ret ?_
        cases hF
        exact eR

def c12 : MC := (.seq (.reg [rg 4 (.p true (.mv (.c (.bool false))))]) (.seq (.reg [rg 5 (.p false (.mv (.t 0))), rg 6 (.p false (.nck (.t 5))), rg 7 (.p false (.fad (.t 6) 0)), rg 8 (.p false (.ld (.t 7) 1 false)), rg 9 (.p false (.mv (.t 1))), rg 10 (.p false (.nck (.t 9))), rg 11 (.p false (.fad (.t 10) 0)), rg 12 (.p false (.ld (.t 11) 1 false)), rg 13 (.p false (.bin .lss (.t 8) (.t 12))), rg 14 (.p false (.mv (.t 13))), ⟨(some 15), (some (14, false)), (.p false (.mv (.t 0)))⟩, ⟨(some 16), (some (14, false)), (.p false (.nck (.t 15)))⟩, ⟨(some 17), (some (14, false)), (.p false (.fad (.t 16) 0))⟩, ⟨(some 18), (some (14, false)), (.p false (.ld (.t 17) 1 false))⟩, ⟨(some 19), (some (14, false)), (.p false (.mv (.t 1)))⟩, ⟨(some 20), (some (14, false)), (.p false (.nck (.t 19)))⟩, ⟨(some 21), (some (14, false)), (.p false (.fad (.t 20) 0))⟩, ⟨(some 22), (some (14, false)), (.p false (.ld (.t 21) 1 false))⟩, ⟨(some 23), (some (14, false)), (.p false (.bin .eql (.t 18) (.t 22)))⟩, ⟨(some 24), (some (14, false)), (.p false (.mv (.t 23)))⟩, ⟨(some 25), (some (24, true)), (.p false (.mv (.t 0)))⟩, ⟨(some 26), (some (24, true)), (.p false (.nck (.t 25)))⟩, ⟨(some 27), (some (24, true)), (.p false (.fad (.t 26) 1))⟩, ⟨(some 28), (some (24, true)), (.p false (.ld (.t 27) 1 false))⟩, ⟨(some 29), (some (24, true)), (.p false (.mv (.t 1)))⟩, ⟨(some 30), (some (24, true)), (.p false (.nck (.t 29)))⟩, ⟨(some 31), (some (24, true)), (.p false (.fad (.t 30) 1))⟩, ⟨(some 32), (some (24, true)), (.p false (.ld (.t 31) 1 false))⟩, ⟨(some 33), (some (24, true)), (.p false (.bin .lss (.t 28) (.t 32)))⟩, ⟨(some 34), (some (14, false)), (.p false (.pick (.t 24) (.t 33) (.c (.bool false))))⟩, rg 35 (.p false (.pick (.t 14) (.c (.bool true)) (.t 34))), rg 4 (.p false (.mv (.t 35)))]) .ret))
theorem c12_is : compFn Tryz.prog 12 = some (c12, [(.tmp 4)]) := by kernel_rfl
theorem c12_ok : okFn Tryz.prog 12 = true := by kernel_rfl

noncomputable def F_spec_l29Before (v0 : TBlock) (v1 : TBlock) : Option (Bool) :=
 (bif (Op.bytesLess v0.1 v1.1) then some true
 else (bif (decide (v0.1 = v1.1)) then some (Op.bytesLess v0.2.1 v1.2.1)
 else some false))
@[simp] def res_spec_l29Before (r : Bool) : RV := .one (.one (.val (.bool r)))
theorem con_spec_l29Before {v0 : TBlock} {v1 : TBlock} {r : Bool} (hF : F_spec_l29Before v0 v1 = some r) : Con Tryz.prog 12 [.ptr [.str v0.1, .str v0.2.1, .str v0.2.2], .ptr [.str v1.1, .str v1.2.1, .str v1.2.2]] (res_spec_l29Before r) := by
 unfold F_spec_l29Before at hF
 refine con_of c12_is fun N => ?_
 refine ws 0 64 ?_
 refine qp (AB false) rfl ?_
 refine r_nil ?_
 refine ws 64 2112 ?_
 refine qp (.val none (.ptr [.str v0.1, .str v0.2.1, .str v0.2.2])) rfl (qp (.val none (.ptr [.str v0.1, .str v0.2.1, .str v0.2.2])) rfl (qp (.val none (.ptr [.str v0.1, .str v0.2.1, .str v0.2.2])) rfl (qp (AS v0.1) rfl (qp (.val none (.ptr [.str v1.1, .str v1.2.1, .str v1.2.2])) rfl (qp (.val none (.ptr [.str v1.1, .str v1.2.1, .str v1.2.2])) rfl (qp (.val none (.ptr [.str v1.1, .str v1.2.1, .str v1.2.2])) rfl (qp (AS v1.1) rfl ?_)))))))
 refine qp (AB (Op.bytesLess v0.1 v1.1)) rfl (qp (AB (Op.bytesLess v0.1 v1.1)) rfl ?_)
 refine q_case 14 hF rfl (fun hF => ?_) (fun hF => ?_)
 ·
  refine qn rfl (qn rfl (qn rfl (qn rfl (qn rfl (qn rfl (qn rfl (qn rfl ?_)))))))
  refine qn rfl (qn rfl (qu rfl (qu rfl (qu rfl (qu rfl (qu rfl (qu rfl ?_)))))))
  refine qu rfl (qu rfl (qu rfl (qn rfl (qp (AB true) rfl (qp (AB true) rfl ?_)))))
  refine r_nil ?_
  refine w_ret ?_
  cases hF
  exact eR
 ·
  refine qg (.val none (.ptr [.str v0.1, .str v0.2.1, .str v0.2.2])) rfl rfl (qg (.val none (.ptr [.str v0.1, .str v0.2.1, .str v0.2.2])) rfl rfl (qg (.val none (.ptr [.str v0.1, .str v0.2.1, .str v0.2.2])) rfl rfl (qg (AS v0.1) rfl rfl (qg (.val none (.ptr [.str v1.1, .str v1.2.1, .str v1.2.2])) rfl rfl (qg (.val none (.ptr [.str v1.1, .str v1.2.1, .str v1.2.2])) rfl rfl (qg (.val none (.ptr [.str v1.1, .str v1.2.1, .str v1.2.2])) rfl rfl (qg (AS v1.1) rfl rfl ?_)))))))
  refine qg (AB (decide (v0.1 = v1.1))) rfl rfl (qg (AB (decide (v0.1 = v1.1))) rfl rfl ?_)
  refine q_case 24 hF rfl (fun hF => ?_) (fun hF => ?_)
  ·
   refine qg (.val none (.ptr [.str v0.1, .str v0.2.1, .str v0.2.2])) rfl rfl (qg (.val none (.ptr [.str v0.1, .str v0.2.1, .str v0.2.2])) rfl rfl (qg (.val none (.ptr [.str v0.2.1, .str v0.2.2])) rfl rfl (qg (AS v0.2.1) rfl rfl (qg (.val none (.ptr [.str v1.1, .str v1.2.1, .str v1.2.2])) rfl rfl (qg (.val none (.ptr [.str v1.1, .str v1.2.1, .str v1.2.2])) rfl rfl (qg (.val none (.ptr [.str v1.2.1, .str v1.2.2])) rfl rfl (qg (AS v1.2.1) rfl rfl ?_)))))))
   refine qg (AB (Op.bytesLess v0.2.1 v1.2.1)) rfl rfl (qg (AB (Op.bytesLess v0.2.1 v1.2.1)) rfl rfl (qp (AB (Op.bytesLess v0.2.1 v1.2.1)) rfl (qp (AB (Op.bytesLess v0.2.1 v1.2.1)) rfl ?_)))
   refine r_nil ?_
   refine w_ret ?_
   cases hF
   exact eR
  ·
   refine qn rfl (qn rfl (qn rfl (qn rfl (qn rfl (qn rfl (qn rfl (qn rfl ?_)))))))
   refine qn rfl (qg (AB false) rfl rfl (qp (AB false) rfl (qp (AB false) rfl ?_)))
   refine r_nil ?_
   refine w_ret ?_
   cases hF
   exact eR

def c4 : MC := (.seq (.reg [rg 2 (.f (.nilrow 3)), rg 3 (.p true (.mv (.c (.int .i64 0)))), rg 4 (.p true (.mv (.c (.int .i64 0))))]) (.seq (.reg [mvt 14 0, rg 15 (.call true 9 [(.t 14)]), mvt 13 15, rg 16 (.p true (.ext (.t 13) 0)), rg 17 (.p true (.ext (.t 13) 1)), mvt 5 16, mvt 6 17]) (.seq (.seq (.reg [mvt 18 6, rg 19 (.p true (.not (.t 18))), mvt 20 19, ⟨(some 21), (some (20, false)), (.p true (.mv (.t 5)))⟩, ⟨(some 22), (some (20, false)), (.p true (.len (.t 21)))⟩, ⟨(some 23), (some (20, false)), (.p true (.bin .eql (.t 22) (.c (.int .i64 0))))⟩, rg 24 (.p true (.pick (.t 20) (.c (.bool true)) (.t 23)))]) (.cond (.t 24) (.seq (.reg [rg 2 (.f (.nilrow 3)), rg 3 (.p true (.mv (.c (.int .i64 0)))), rg 4 (.p true (.mv (.c (.int .i64 11))))]) .ret) .skip)) (.seq (.reg [mvt 26 5, rg 27 (.p true (.iad (.t 26) (.c (.int .i64 0)) 1)), rg 28 (.p true (.ld (.t 27) 1 false)), rg 29 (.call true 10 [(.t 28)]), mvt 25 29, rg 30 (.p true (.ext (.t 25) 0)), rg 31 (.p true (.ext (.t 25) 1)), mvt 7 30, mvt 8 31]) (.seq (.seq (.reg [mvt 32 8, rg 33 (.p true (.not (.t 32)))]) (.cond (.t 33) (.seq (.reg [rg 2 (.f (.nilrow 3)), rg 3 (.p true (.mv (.c (.int .i64 1)))), rg 4 (.p true (.mv (.c (.int .i64 9))))]) .ret) .skip)) (.seq (.reg [rg 34 (.f (.bsl 3 [])), mvt 9 34]) (.seq (.seq (.reg [rg 10 (.p true (.mv (.c (.int .i64 1))))]) (.block 0 (.loop (.seq (.seq (.reg [mvt 35 10, mvt 36 5, rg 37 (.p true (.len (.t 36))), rg 38 (.p true (.bin .lss (.t 35) (.t 37)))]) (.cond (.t 38) .skip (.exit 0))) (.seq (.block 1 (.seq (.reg [mvt 42 5, mvt 43 10, rg 44 (.p true (.iad (.t 42) (.t 43) 1)), rg 45 (.p true (.ld (.t 44) 1 false)), rg 46 (.call true 11 [(.t 45)]), mvt 41 46, rg 47 (.p true (.ext (.t 41) 0)), rg 48 (.p true (.ext (.t 41) 1)), rg 11 (.f (.alloc [((.str []), (0, false)), ((.str []), (0, false)), ((.str []), (0, false))])), ⟨none, none, (.f (.st (.t 11) (.t 47) 3))⟩, mvt 12 48]) (.seq (.seq (.reg [mvt 49 12, rg 50 (.p true (.bin .neq (.t 49) (.c (.int .i64 0))))]) (.cond (.t 50) (.seq (.reg [mvt 51 10, rg 52 (.p true (.bin .add (.t 51) (.c (.int .i64 1)))), mvt 53 12, rg 2 (.f (.nilrow 3)), mvt 3 52, mvt 4 53]) .ret) .skip)) (.seq (.seq (.reg [mvt 54 9, rg 55 (.p true (.len (.t 54))), rg 56 (.p true (.bin .gtr (.t 55) (.c (.int .i64 0)))), mvt 57 56, ⟨(some 58), (some (57, true)), (.p true (.mv (.t 9)))⟩, ⟨(some 59), (some (57, true)), (.p true (.mv (.t 9)))⟩, ⟨(some 60), (some (57, true)), (.p true (.len (.t 59)))⟩, ⟨(some 61), (some (57, true)), (.p true (.bin .sub (.t 60) (.c (.int .i64 1))))⟩, ⟨(some 62), (some (57, true)), (.p true (.iad (.t 58) (.t 61) 3))⟩, ⟨(some 63), (some (57, true)), (.call true 12 [(.t 62), (.t 11)])⟩, ⟨(some 64), (some (57, true)), (.p true (.not (.t 63)))⟩, rg 65 (.p true (.pick (.t 57) (.t 64) (.c (.bool false))))]) (.cond (.t 65) (.seq (.reg [mvt 66 10, rg 67 (.p true (.bin .add (.t 66) (.c (.int .i64 1)))), rg 2 (.f (.nilrow 3)), mvt 3 67, rg 4 (.p true (.mv (.c (.int .i64 7))))]) .ret) .skip)) (.reg [mvt 68 9, rg 69 (.p true (.ld (.t 11) 3 true)), rg 70 (.f (.bsl 3 [(.t 69)])), rg 71 (.f (.app (.t 68) (.t 70) 3 48 true)), mvt 9 71]))))) (.reg [mvt 39 10, rg 40 (.p true (.bin .add (.t 39) (.c (.int .i64 1)))), mvt 10 40])))))) (.seq (.seq (.reg [mvt 72 9, rg 73 (.p true (.len (.t 72))), mvt 74 7, rg 75 (.p true (.bin .neq (.t 73) (.t 74)))]) (.cond (.t 75) (.seq (.reg [rg 2 (.f (.nilrow 3)), rg 3 (.p true (.mv (.c (.int .i64 0)))), rg 4 (.p true (.mv (.c (.int .i64 11))))]) .ret) .skip)) (.seq (.reg [mvt 76 9, mvt 2 76, rg 3 (.p true (.mv (.c (.int .i64 0)))), rg 4 (.p true (.mv (.c (.int .i64 0))))]) .ret)))))))))
theorem c4_is : compFn Tryz.prog 4 = some (c4, [(.tmp 2), (.tmp 3), (.tmp 4)]) := by kernel_rfl
theorem c4_ok : okFn Tryz.prog 4 = true := by kernel_rfl

noncomputable def F_spec_LoadBlocks_l0 (v1000 : (List (List UInt8)) × Bool) (v1002 : Int × Bool) (k1 : Int × (List TBlock) → Option ((List TBlock) × Int × Int)) : Int × (List TBlock) → Option ((List TBlock) × Int × Int)
 | (v50006, v50007) => (bif (decide (v50006 < (v1000.1.length : Int))) then ((ix v1000.1 v50006).bind fun v1015 => ((F_spec_l29Parse v1015).bind fun v1016 => (bif (decide (v1016.2 ≠ (0 : Int))) then some ([], w64 (v50006 + 1), v1016.2)
 else (bif (decide ((0 : Int) < (v50007.length : Int))) then ((ix v50007 (w64 ((v50007.length : Int) - 1))).bind fun v1017 => ((F_spec_l29Before v1017 v1016.1).bind fun v1018 => (bif (!v1018) then some ([], w64 (v50006 + 1), 7)
 else (need (room (v50007.length + [v1016.1].length) 48) (k1 (w64 (v50006 + 1), v50007 ++ [v1016.1]))))))
 else (need (room (v50007.length + [v1016.1].length) 48) (k1 (w64 (v50006 + 1), v50007 ++ [v1016.1])))))))
 else (bif (decide ((v50007.length : Int) ≠ v1002.1)) then some ([], 0, 11)
 else some (v50007, 0, 0)))
noncomputable def F_spec_LoadBlocks (v0 : List UInt8) : Option ((List TBlock) × Int × Int) :=
 ((F_spec_l29Lines v0).bind fun v1000 => (bif (!v1000.2) then some ([], 0, 11)
 else (bif (decide ((v1000.1.length : Int) = (0 : Int))) then some ([], 0, 11)
 else ((ix v1000.1 0).bind fun v1001 => ((F_spec_l29Head v1001).bind fun v1002 => (bif (!v1002.2) then some ([], 1, 9)
 else loop (F_spec_LoadBlocks_l0 v1000 v1002) (1, [])))))))
@[simp] def res_spec_LoadBlocks (r : (List TBlock) × Int × Int) : RV := .tup [.one (.row true 3 (r.1.map eBlock)), .one (.val (.int .i64 r.2.1)), .one (.val (.int .i64 r.2.2))]
theorem con_spec_LoadBlocks {v0 : List UInt8} {r : (List TBlock) × Int × Int} (hF : F_spec_LoadBlocks v0 = some r) : Con Tryz.prog 4 [.str v0] (res_spec_LoadBlocks r) := by
 unfold F_spec_LoadBlocks at hF
 refine con_of c4_is fun N => ?_
 refine ws 0 192 ?_
 refine qf (.sl 0 0 0) [(0, .row true 3 (([] : List Int).map vI))] (by simp) ?_
 refine qp (AI 0) rfl (qp (AI 0) rfl ?_)
 refine r_nil ?_
 refine ws 192 640 ?_
 refine qp (AS v0) rfl ?_
 obtain ⟨v1000, e1000, hF⟩ := bind_get hF
 refine qc (.tup [.sl 256 0 v1000.1.length, AB v1000.2]) [(256, .row true 1 (v1000.1.map V.str)), (0, .row true 3 (([] : List Int).map vI))] false (con_spec_l29Lines e1000) c9_ok (by first | rfl | simp) (by simp [res_spec_l29Lines]) ?_
 refine qp (.tup [.sl 256 0 v1000.1.length, AB v1000.2]) rfl (qp (.sl 256 0 v1000.1.length) rfl (qp (AB v1000.2) rfl (qp (.sl 256 0 v1000.1.length) rfl (qp (AB v1000.2) rfl ?_))))
 refine r_nil ?_
 refine w_seq ?_
 refine ws 640 1088 ?_
 refine qp (AB v1000.2) rfl (qp (AB (!v1000.2)) rfl (qp (AB (!v1000.2)) rfl ?_))
 refine q_case 20 hF rfl (fun hF => ?_) (fun hF => ?_)
 ·
  refine qn rfl (qn rfl (qn rfl (qp (AB true) rfl ?_)))
  refine r_nil ?_
  refine w_true rfl ?_
  refine ws 1088 1280 ?_
  refine qf (.sl 1088 0 0) [(1088, .row true 3 (([] : List TBlock).map eBlock)), (256, .row true 1 (v1000.1.map V.str)), (0, .row true 3 (([] : List Int).map vI))] (by simp) ?_
  refine qp (AI 0) rfl (qp (AI 11) rfl ?_)
  refine r_nil ?_
  refine w_ret ?_
  refine thenQ_r ?_
  cases hF
  exact eR
 ·
  refine qg (.sl 256 0 v1000.1.length) rfl rfl (qg (AI (v1000.1.length : Int)) rfl rfl (qg (AB (decide ((v1000.1.length : Int) = (0 : Int)))) rfl rfl (qp (AB (decide ((v1000.1.length : Int) = (0 : Int)))) rfl ?_)))
  refine r_nil ?_
  refine cF hF (fun hF => ?_) fun hF => ?_
  ·
   refine ws 1088 1280 ?_
   refine qf (.sl 1088 0 0) [(1088, .row true 3 (([] : List TBlock).map eBlock)), (256, .row true 1 (v1000.1.map V.str)), (0, .row true 3 (([] : List Int).map vI))] (by simp) ?_
   refine qp (AI 0) rfl (qp (AI 11) rfl ?_)
   refine r_nil ?_
   refine w_ret ?_
   refine thenQ_r ?_
   cases hF
   exact eR
  ·
   refine w_skip ?_
   refine thenQ_n ?_
   refine ws 1088 1664 ?_
   refine qp (.sl 256 0 v1000.1.length) rfl ?_
   obtain ⟨v1001, e1001, hF⟩ := bind_get hF
   refine qp (.ptr 256 ((0 : Int).toNat) 0) (ev_iad_r rfl (by simp) rfl rfl e1001) (qp (AS v1001) (ev_ld_r rfl rfl (ix_some e1001).2 rfl rfl) ?_)
   obtain ⟨v1002, e1002, hF⟩ := bind_get hF
   refine qc (.tup [AI v1002.1, AB v1002.2]) [(256, .row true 1 (v1000.1.map V.str)), (0, .row true 3 (([] : List Int).map vI))] false (con_spec_l29Head e1002) c10_ok (by first | rfl | simp) rfl ?_
   refine qp (.tup [AI v1002.1, AB v1002.2]) rfl (qp (AI v1002.1) rfl (qp (AB v1002.2) rfl (qp (AI v1002.1) rfl (qp (AB v1002.2) rfl ?_))))
   refine r_nil ?_
   refine w_seq ?_
   refine ws 1664 1792 ?_
   refine qp (AB v1002.2) rfl (qp (AB (!v1002.2)) rfl ?_)
   refine r_nil ?_
   refine cF hF (fun hF => ?_) fun hF => ?_
   ·
    refine ws 1792 1984 ?_
    refine qf (.sl 1792 0 0) [(1792, .row true 3 (([] : List TBlock).map eBlock)), (256, .row true 1 (v1000.1.map V.str)), (0, .row true 3 (([] : List Int).map vI))] (by simp) ?_
    refine qp (AI 1) rfl (qp (AI 9) rfl ?_)
    refine r_nil ?_
    refine w_ret ?_
    refine thenQ_r ?_
    cases hF
    exact eR
   ·
    refine w_skip ?_
    refine thenQ_n ?_
    refine ws 1792 1920 ?_
    refine qf (.sl 1792 0 0) [(1792, .row true 3 (([] : List TBlock).map eBlock)), (256, .row true 1 (v1000.1.map V.str)), (0, .row true 3 (([] : List Int).map vI))] (by simp [List.take_of_length_le]) ?_
    refine qp (.sl 1792 0 0) rfl ?_
    refine r_nil ?_
    refine w_seq ?_
    refine ws 1920 1984 ?_
    refine qp (AI 1) rfl ?_
    refine r_nil ?_
    refine w_block ?_
    refine wr (l' := [(5, .sl 0 0 v1000.1.length), (7, AI v1002.1), (9, .sl 1 0 0), (10, AI 1)]) (L := [(1, .row true 3 (([] : List TBlock).map eBlock)), (0, .row true 1 (v1000.1.map V.str))]) [5, 7, 9, 10] [(1792, 1), (256, 0)] 2 ?_
    refine w_loopF (F_spec_LoadBlocks_l0 v1000 v1002) (fun s : Int × (List TBlock) => mkS [(5, .sl 0 0 v1000.1.length), (7, AI v1002.1), (9, .sl 1 0 s.2.length), (10, AI s.1)] (fo [(1, .row true 3 (s.2.map eBlock)), (0, .row true 1 (v1000.1.map V.str))]) 2) hF ?_
    rintro k1 ⟨v50006, v50007⟩ hF
    rw [F_spec_LoadBlocks_l0] at hF
    try dsimp only
    refine w_seq ?_
    refine ws 2 258 ?_
    refine qp (AI v50006) rfl (qp (.sl 0 0 v1000.1.length) rfl (qp (AI (v1000.1.length : Int)) rfl (qp (AB (decide (v50006 < (v1000.1.length : Int)))) rfl ?_)))
    refine r_nil ?_
    refine cF hF (fun hF => ?_) fun hF => ?_
    ·
     refine w_skip ?_
     refine thenQ_n ?_
     refine w_seq ?_
     refine w_block ?_
     refine ws 258 962 ?_
     refine qp (.sl 0 0 v1000.1.length) rfl (qp (AI v50006) rfl ?_)
     obtain ⟨v1015, e1015, hF⟩ := bind_get hF
     refine qp (.ptr 0 v50006.toNat 0) (ev_iad_r rfl (by simp) rfl rfl e1015) (qp (AS v1015) (ev_ld_r rfl rfl (ix_some e1015).2 rfl rfl) ?_)
     obtain ⟨v1016, e1016, hF⟩ := bind_get hF
     refine qc (.tup [.val none (eBlock v1016.1), AI v1016.2]) [(1, .row true 3 (v50007.map eBlock)), (0, .row true 1 (v1000.1.map V.str))] false (con_spec_l29Parse e1016) c11_ok (by first | rfl | simp) rfl ?_
     refine qp (.tup [.val none (eBlock v1016.1), AI v1016.2]) rfl (qp (.val none (eBlock v1016.1)) rfl (qp (AI v1016.2) rfl ?_))
     refine qf (.ptr 770 0 0) [(770, .box [AS [], AS [], AS []]), (1, .row true 3 (v50007.map eBlock)), (0, .row true 1 (v1000.1.map V.str))] (by simp) ?_
     refine qf0 (.undef) [(770, .box [AS v1016.1.1, AS v1016.1.2.1, AS v1016.1.2.2]), (770, .box [AS [], AS [], AS []]), (1, .row true 3 (v50007.map eBlock)), (0, .row true 1 (v1000.1.map V.str))] (by simp) ?_
     refine qp (AI v1016.2) rfl ?_
     refine r_nil ?_
     refine w_seq ?_
     refine ws 962 1090 ?_
     refine qp (AI v1016.2) rfl (qp (AB (decide (v1016.2 ≠ (0 : Int)))) rfl ?_)
     refine r_nil ?_
     refine cF hF (fun hF => ?_) fun hF => ?_
     ·
      refine ws 1090 1474 ?_
      refine qp (AI v50006) rfl (qp (AI (w64 (v50006 + 1))) rfl (qp (AI v1016.2) rfl ?_))
      refine qf (.sl 1282 0 0) [(1282, .row true 3 (([] : List TBlock).map eBlock)), (770, .box [AS v1016.1.1, AS v1016.1.2.1, AS v1016.1.2.2]), (770, .box [AS [], AS [], AS []]), (1, .row true 3 (v50007.map eBlock)), (0, .row true 1 (v1000.1.map V.str))] (by simp) ?_
      refine qp (AI (w64 (v50006 + 1))) rfl (qp (AI v1016.2) rfl ?_)
      refine r_nil ?_
      refine w_ret ?_
      refine thenQ_r ?_
      refine blockQ_r ?_
      refine thenQ_r ?_
      refine thenQ_r ?_
      refine blockQ_r ?_
      refine thenQ_r ?_
      cases hF
      exact eR
     ·
      refine w_skip ?_
      refine thenQ_n ?_
      refine w_seq ?_
      refine ws 1090 1858 ?_
      refine qp (.sl 1 0 v50007.length) rfl (qp (AI (v50007.length : Int)) rfl (qp (AB (decide ((0 : Int) < (v50007.length : Int)))) rfl (qp (AB (decide ((0 : Int) < (v50007.length : Int)))) rfl ?_)))
      refine q_case 57 hF rfl (fun hF => ?_) (fun hF => ?_)
      ·
       refine qg (.sl 1 0 v50007.length) rfl rfl (qg (.sl 1 0 v50007.length) rfl rfl (qg (AI (v50007.length : Int)) rfl rfl (qg (AI (w64 ((v50007.length : Int) - 1))) rfl rfl ?_)))
       obtain ⟨v1017, e1017, hF⟩ := bind_get hF
       refine qg (.ptr 1 ((w64 ((v50007.length : Int) - 1)).toNat) 0) rfl (ev_iad_r rfl (by simp) rfl rfl e1017) ?_
       obtain ⟨v1018, e1018, hF⟩ := bind_get hF
       refine qcg (AB v1018) [(770, .box [AS v1016.1.1, AS v1016.1.2.1, AS v1016.1.2.2]), (770, .box [AS [], AS [], AS []]), (1, .row true 3 (v50007.map eBlock)), (0, .row true 1 (v1000.1.map V.str))] true rfl (con_spec_l29Before e1018) c12_ok (by simp [List.take_of_length_le, (ix_some e1017).2]) rfl ?_
       refine qg (AB (!v1018)) rfl rfl (qp (AB (!v1018)) rfl ?_)
       refine r_nil ?_
       refine cF hF (fun hF => ?_) fun hF => ?_
       ·
        refine ws 1858 2178 ?_
        refine qp (AI v50006) rfl (qp (AI (w64 (v50006 + 1))) rfl ?_)
        refine qf (.sl 1986 0 0) [(1986, .row true 3 (([] : List TBlock).map eBlock)), (770, .box [AS v1016.1.1, AS v1016.1.2.1, AS v1016.1.2.2]), (770, .box [AS [], AS [], AS []]), (1, .row true 3 (v50007.map eBlock)), (0, .row true 1 (v1000.1.map V.str))] (by simp) ?_
        refine qp (AI (w64 (v50006 + 1))) rfl (qp (AI 7) rfl ?_)
        refine r_nil ?_
        refine w_ret ?_
        refine thenQ_r ?_
        refine blockQ_r ?_
        refine thenQ_r ?_
        refine thenQ_r ?_
        refine blockQ_r ?_
        refine thenQ_r ?_
        cases hF
        exact eR
       ·
        refine w_skip ?_
        refine thenQ_n ?_
        refine w_reg 1858 2178 rfl rfl ?_
        refine qp (.sl 1 0 v50007.length) rfl (qp (.agg [AS v1016.1.1, AS v1016.1.2.1, AS v1016.1.2.2]) rfl ?_)
        refine qf (.sl 1986 0 ([v1016.1].length)) [(1986, .row true 3 ([v1016.1].map eBlock)), (770, .box [AS v1016.1.1, AS v1016.1.2.1, AS v1016.1.2.2]), (770, .box [AS [], AS [], AS []]), (1, .row true 3 (v50007.map eBlock)), (0, .row true 1 (v1000.1.map V.str))] (by simp [List.take_of_length_le]) ?_
        obtain ⟨g1019, hF⟩ := need_some hF
        refine qf (.sl 2050 0 ((v50007 ++ [v1016.1]).length)) [(2050, .row true 3 ((v50007 ++ [v1016.1]).map eBlock)), (1, .dead), (1986, .dead), (1986, .row true 3 ([v1016.1].map eBlock)), (770, .box [AS v1016.1.1, AS v1016.1.2.1, AS v1016.1.2.2]), (770, .box [AS [], AS [], AS []]), (1, .row true 3 (v50007.map eBlock)), (0, .row true 1 (v1000.1.map V.str))] (effT_app_l rfl (by simp) rfl rfl (by simp) rfl (by decide) g1019 rfl) ?_
        refine qp (.sl 2050 0 ((v50007 ++ [v1016.1]).length)) rfl ?_
        refine r_nil ?_
        refine blockQ_n ?_
        refine thenQ_n ?_
        refine w_reg 2178 2370 rfl rfl ?_
        refine qp (AI v50006) rfl (qp (AI (w64 (v50006 + 1))) rfl (qp (AI (w64 (v50006 + 1))) rfl ?_))
        refine r_nil ?_
        refine thenQ_n ?_
        refine ar (l' := [(5, .sl 0 0 v1000.1.length), (7, AI v1002.1), (9, .sl 1 0 (v50007 ++ [v1016.1]).length), (10, AI (w64 (v50006 + 1)))]) (L := [(1, .row true 3 ((v50007 ++ [v1016.1]).map eBlock)), (0, .row true 1 (v1000.1.map V.str))]) [5, 7, 9, 10] [(2050, 1), (0, 0)] 2 ⟨_, by rfl, hF⟩
      ·
       refine qn rfl (qn rfl (qn rfl (qn rfl (qn rfl (qn rfl (qn rfl (qp (AB false) rfl ?_)))))))
       refine r_nil ?_
       refine w_false rfl ?_
       refine w_skip ?_
       refine thenQ_n ?_
       refine w_reg 1858 2178 rfl rfl ?_
       refine qp (.sl 1 0 v50007.length) rfl (qp (.agg [AS v1016.1.1, AS v1016.1.2.1, AS v1016.1.2.2]) rfl ?_)
       refine qf (.sl 1986 0 ([v1016.1].length)) [(1986, .row true 3 ([v1016.1].map eBlock)), (770, .box [AS v1016.1.1, AS v1016.1.2.1, AS v1016.1.2.2]), (770, .box [AS [], AS [], AS []]), (1, .row true 3 (v50007.map eBlock)), (0, .row true 1 (v1000.1.map V.str))] (by simp [List.take_of_length_le]) ?_
       obtain ⟨g1020, hF⟩ := need_some hF
       refine qf (.sl 2050 0 ((v50007 ++ [v1016.1]).length)) [(2050, .row true 3 ((v50007 ++ [v1016.1]).map eBlock)), (1, .dead), (1986, .dead), (1986, .row true 3 ([v1016.1].map eBlock)), (770, .box [AS v1016.1.1, AS v1016.1.2.1, AS v1016.1.2.2]), (770, .box [AS [], AS [], AS []]), (1, .row true 3 (v50007.map eBlock)), (0, .row true 1 (v1000.1.map V.str))] (effT_app_l rfl (by simp) rfl rfl (by simp) rfl (by decide) g1020 rfl) ?_
       refine qp (.sl 2050 0 ((v50007 ++ [v1016.1]).length)) rfl ?_
       refine r_nil ?_
       refine blockQ_n ?_
       refine thenQ_n ?_
       refine w_reg 2178 2370 rfl rfl ?_
       refine qp (AI v50006) rfl (qp (AI (w64 (v50006 + 1))) rfl (qp (AI (w64 (v50006 + 1))) rfl ?_))
       refine r_nil ?_
       refine thenQ_n ?_
       refine ar (l' := [(5, .sl 0 0 v1000.1.length), (7, AI v1002.1), (9, .sl 1 0 (v50007 ++ [v1016.1]).length), (10, AI (w64 (v50006 + 1)))]) (L := [(1, .row true 3 ((v50007 ++ [v1016.1]).map eBlock)), (0, .row true 1 (v1000.1.map V.str))]) [5, 7, 9, 10] [(2050, 1), (0, 0)] 2 ⟨_, by rfl, hF⟩
    ·
     refine w_exit ?_
     refine thenQ_e ?_
     refine thenQ_e ?_
     refine blockQ_e ?_
     refine thenQ_n ?_
     refine w_seq ?_
     refine ws 258 514 ?_
     refine qp (.sl 1 0 v50007.length) rfl (qp (AI (v50007.length : Int)) rfl (qp (AI v1002.1) rfl (qp (AB (decide ((v50007.length : Int) ≠ v1002.1))) rfl ?_)))
     refine r_nil ?_
     refine cF hF (fun hF => ?_) fun hF => ?_
     ·
      refine ws 514 706 ?_
      refine qf (.sl 514 0 0) [(514, .row true 3 (([] : List TBlock).map eBlock)), (1, .row true 3 (v50007.map eBlock)), (0, .row true 1 (v1000.1.map V.str))] (by simp) ?_
      refine qp (AI 0) rfl (qp (AI 11) rfl ?_)
      refine r_nil ?_
      refine w_ret ?_
      refine thenQ_r ?_
      cases hF
      exact eR
     ·
      refine w_skip ?_
      refine thenQ_n ?_
      refine ws 514 770 ?_
      refine qp (.sl 1 0 v50007.length) rfl (qp (.sl 1 0 v50007.length) rfl (qp (AI 0) rfl (qp (AI 0) rfl ?_)))
      refine r_nil ?_
      refine w_ret ?_
      cases hF
      exact eR

theorem c13_ok : okFn Tryz.prog 13 = true := by kernel_rfl




theorem c15_ok : okFn Tryz.prog 15 = true := by kernel_rfl




theorem c14_ok : okFn Tryz.prog 14 = true := by kernel_rfl




theorem c16_ok : okFn Tryz.prog 16 = true := by kernel_rfl




theorem c17_ok : okFn Tryz.prog 17 = true := by kernel_rfl




def c18 : MC := (.seq (.reg [rg 6 (.p true (.mv (.c (.bool false))))]) (.seq (.reg [mvt 7 0, mvt 8 1, rg 9 (.p true (.bin .geq (.t 7) (.t 8))), mvt 10 9, ⟨(some 11), (some (10, true)), (.p true (.mv (.t 0)))⟩, ⟨(some 12), (some (10, true)), (.p true (.mv (.t 2)))⟩, ⟨(some 13), (some (10, true)), (.p true (.bin .leq (.t 11) (.t 12)))⟩, rg 14 (.p true (.pick (.t 10) (.t 13) (.c (.bool false)))), mvt 6 14]) .ret))
theorem c18_is : compFn Tryz.prog 18 = some (c18, [(.tmp 6)]) := by kernel_rfl
theorem c18_ok : okFn Tryz.prog 18 = true := by kernel_rfl

noncomputable def F_impl_within (v0 : Int) (v1 : Int) (v2 : Int) : Option (Bool) :=
 (bif (decide (v1 ≤ v0)) then some (decide (v0 ≤ v2))
 else some false)
@[simp] def res_impl_within (r : Bool) : RV := .one (.one (.val (.bool r)))
theorem con_impl_within {v0 : Int} {v1 : Int} {v2 : Int} {r : Bool} (hF : F_impl_within v0 v1 v2 = some r) : Con Tryz.prog 18 [.int .i64 v0, .int .i64 v1, .int .i64 v2] (res_impl_within r) := by
 unfold F_impl_within at hF
 refine con_of c18_is fun N => ?_
 refine ws 0 64 ?_
 refine qp (AB false) rfl ?_
 refine r_nil ?_
 refine ws 64 640 ?_
 refine qp (AI v0) rfl (qp (AI v1) rfl (qp (AB (decide (v1 ≤ v0))) rfl (qp (AB (decide (v1 ≤ v0))) rfl ?_)))
 refine q_case 10 hF rfl (fun hF => ?_) (fun hF => ?_)
 ·
  refine qg (AI v0) rfl rfl (qg (AI v2) rfl rfl (qg (AB (decide (v0 ≤ v2))) rfl rfl (qp (AB (decide (v0 ≤ v2))) rfl (qp (AB (decide (v0 ≤ v2))) rfl ?_))))
  refine r_nil ?_
  refine w_ret ?_
  cases hF
  exact eR
 ·
  refine qn rfl (qn rfl (qn rfl (qp (AB false) rfl (qp (AB false) rfl ?_))))
  refine r_nil ?_
  refine w_ret ?_
  cases hF
  exact eR

def c52 : MC := (.seq (.reg [rg 4 (.p true (.mv (.c (.int .i64 0))))]) (.seq (.seq (.reg [mvt 7 1, rg 8 (.call true 18 [(.t 7), (.c (.int .i64 0)), (.c (.int .i64 65535))]), rg 9 (.p true (.not (.t 8)))]) (.cond (.t 9) (.seq (.reg [rg 4 (.p true (.mv (.c (.int .i64 0))))]) .ret) .skip)) (.seq (.reg [mvt 10 1, mvt 5 10]) (.seq (.seq (.reg [mvt 11 0, rg 12 (.p true (.lens (.t 11))), rg 13 (.p true (.mv (.c (.int .i64 0))))]) (.block 0 (.loop (.seq (.reg [rg 14 (.p true (.bin .lss (.t 13) (.t 12)))]) (.seq (.cond (.t 14) .skip (.exit 0)) (.seq (.block 1 (.seq (.reg [mvt 15 13, mvt 6 15]) (.seq (.reg [mvt 16 5, mvt 17 0, mvt 18 6, rg 19 (.p true (.ixs (.t 17) (.t 18))), rg 20 (.p true (.conv .i64 (.t 19))), rg 21 (.p true (.bin .shl (.t 20) (.c (.int .u64 8)))), rg 22 (.p true (.bin .xor (.t 16) (.t 21))), mvt 5 22]) (.seq (.reg [rg 23 (.p true (.mv (.c (.int .i64 0))))]) (.block 2 (.loop (.seq (.reg [rg 24 (.p true (.bin .lss (.t 23) (.c (.int .i64 8))))]) (.seq (.cond (.t 24) .skip (.exit 2)) (.seq (.block 3 (.seq (.reg [mvt 25 5, rg 26 (.p true (.bin .shl (.t 25) (.c (.int .u64 1)))), mvt 5 26]) (.seq (.reg [mvt 27 5, rg 28 (.p true (.bin .gtr (.t 27) (.c (.int .i64 65535))))]) (.cond (.t 28) (.reg [mvt 29 5, rg 30 (.p true (.bin .and (.t 29) (.c (.int .i64 65535)))), rg 31 (.p true (.bin .xor (.t 30) (.c (.int .i64 4129)))), mvt 5 31]) .skip)))) (.reg [rg 32 (.p true (.bin .add (.t 23) (.c (.int .i64 1)))), mvt 23 32])))))))))) (.reg [rg 33 (.p true (.bin .add (.t 13) (.c (.int .i64 1)))), mvt 13 33]))))))) (.seq (.reg [mvt 34 5, mvt 4 34]) .ret)))))
theorem c52_is : compFn Tryz.prog 52 = some (c52, [(.tmp 4)]) := by kernel_rfl
theorem c52_ok : okFn Tryz.prog 52 = true := by kernel_rfl

noncomputable def F_impl_Crc16_l3 (v50027 : Int) (k6 : Int × Int → Option (Int)) (k7 : Int × Int → Option (Int)) : Int × Int → Option (Int)
 | (v50030, v50031) => (bif (decide (v50031 < (8 : Int))) then (need (0 ≤ (1 : Int)) ((bif (decide ((65535 : Int) < w64 (v50030 * 2 ^ (min ((1 : Int)).toNat (IntKind.bits .i64))))) then k7 (bitXor .i64 (bitAnd .i64 (w64 (v50030 * 2 ^ (min ((1 : Int)).toNat (IntKind.bits .i64)))) 65535) 4129, w64 (v50031 + 1))
 else k7 (w64 (v50030 * 2 ^ (min ((1 : Int)).toNat (IntKind.bits .i64))), w64 (v50031 + 1)))))
 else k6 (v50030, w64 (v50027 + 1)))
noncomputable def F_impl_Crc16_l2 (v0 : List UInt8) (k6 : Int × Int → Option (Int)) : Int × Int → Option (Int)
 | (v50026, v50027) => (bif (decide (v50027 < (v0.length : Int))) then ((ix v0 v50027).bind fun v1011 => (need (0 ≤ (8 : Int)) (loop (F_impl_Crc16_l3 v50027 k6) (bitXor .i64 v50026 (w64 ((w64 ((v1011.toNat : Int))) * 2 ^ (min ((8 : Int)).toNat (IntKind.bits .i64)))), 0))))
 else some v50026)
noncomputable def F_impl_Crc16 (v0 : List UInt8) (v1 : Int) : Option (Int) :=
 ((F_impl_within v1 0 65535).bind fun v1000 => (bif (!v1000) then some 0
 else loop (F_impl_Crc16_l2 v0) (v1, 0)))
@[simp] def res_impl_Crc16 (r : Int) : RV := .one (.one (.val (.int .i64 r)))
theorem con_impl_Crc16 {v0 : List UInt8} {v1 : Int} {r : Int} (hF : F_impl_Crc16 v0 v1 = some r) : Con Tryz.prog 52 [.str v0, .int .i64 v1] (res_impl_Crc16 r) := by
 unfold F_impl_Crc16 at hF
 refine con_of c52_is fun N => ?_
 refine ws 0 64 ?_
 refine qp (AI 0) rfl ?_
 refine r_nil ?_
 refine w_seq ?_
 refine ws 64 256 ?_
 refine qp (AI v1) rfl ?_
 obtain ⟨v1000, e1000, hF⟩ := bind_get hF
 refine qc (AB v1000) [] false (con_impl_within e1000) c18_ok (by first | rfl | simp) rfl ?_
 refine qp (AB (!v1000)) rfl ?_
 refine r_nil ?_
 refine cF hF (fun hF => ?_) fun hF => ?_
 ·
  refine ws 256 320 ?_
  refine qp (AI 0) rfl ?_
  refine r_nil ?_
  refine w_ret ?_
  refine thenQ_r ?_
  cases hF
  exact eR
 ·
  refine w_skip ?_
  refine thenQ_n ?_
  refine ws 256 384 ?_
  refine qp (AI v1) rfl (qp (AI v1) rfl ?_)
  refine r_nil ?_
  refine w_seq ?_
  refine ws 384 576 ?_
  refine qp (AS v0) rfl (qp (AI (v0.length : Int)) rfl (qp (AI 0) rfl ?_))
  refine r_nil ?_
  refine w_block ?_
  refine wr (l' := [(0, AS v0), (5, AI v1), (12, AI (v0.length : Int)), (13, AI 0)]) (L := []) [0, 5, 12, 13] [] 1 ?_
  refine w_loopF (F_impl_Crc16_l2 v0) (fun s : Int × Int => mkS [(0, AS v0), (5, AI s.1), (12, AI (v0.length : Int)), (13, AI s.2)] (fo []) 1) hF ?_
  rintro k6 ⟨v50026, v50027⟩ hF
  rw [F_impl_Crc16_l2] at hF
  try dsimp only
  refine ws 1 65 ?_
  refine qp (AB (decide (v50027 < (v0.length : Int)))) rfl ?_
  refine r_nil ?_
  refine w_seq ?_
  refine cF hF (fun hF => ?_) fun hF => ?_
  ·
   refine w_skip ?_
   refine thenQ_n ?_
   refine w_seq ?_
   refine w_block ?_
   refine ws 65 193 ?_
   refine qp (AI v50027) rfl (qp (AI v50027) rfl ?_)
   refine r_nil ?_
   refine ws 193 705 ?_
   refine qp (AI v50026) rfl (qp (AS v0) rfl (qp (AI v50027) rfl ?_))
   obtain ⟨v1011, e1011, hF⟩ := bind_get hF
   refine qp (.val none (.int .u8 (v1011.toNat : Int))) (ev_ixs rfl rfl e1011) (qp (AI (w64 ((v1011.toNat : Int)))) rfl ?_)
   obtain ⟨g1012, hF⟩ := need_some hF
   refine qp (AI (w64 ((w64 ((v1011.toNat : Int))) * 2 ^ (min ((8 : Int)).toNat (IntKind.bits .i64))))) (ev_shl rfl rfl g1012) (qp (AI (bitXor .i64 v50026 (w64 ((w64 ((v1011.toNat : Int))) * 2 ^ (min ((8 : Int)).toNat (IntKind.bits .i64)))))) rfl (qp (AI (bitXor .i64 v50026 (w64 ((w64 ((v1011.toNat : Int))) * 2 ^ (min ((8 : Int)).toNat (IntKind.bits .i64)))))) rfl ?_))
   refine r_nil ?_
   refine ws 705 769 ?_
   refine qp (AI 0) rfl ?_
   refine r_nil ?_
   refine w_block ?_
   refine wr (l' := [(0, AS v0), (5, AI (bitXor .i64 v50026 (w64 ((w64 ((v1011.toNat : Int))) * 2 ^ (min ((8 : Int)).toNat (IntKind.bits .i64)))))), (12, AI (v0.length : Int)), (13, AI v50027), (23, AI 0)]) (L := []) [0, 5, 12, 13, 23] [] 1 ?_
   refine w_loopF (F_impl_Crc16_l3 v50027 k6) (fun s : Int × Int => mkS [(0, AS v0), (5, AI s.1), (12, AI (v0.length : Int)), (13, AI v50027), (23, AI s.2)] (fo []) 1) hF ?_
   rintro k7 ⟨v50030, v50031⟩ hF
   rw [F_impl_Crc16_l3] at hF
   try dsimp only
   refine ws 1 65 ?_
   refine qp (AB (decide (v50031 < (8 : Int)))) rfl ?_
   refine r_nil ?_
   refine w_seq ?_
   refine cF hF (fun hF => ?_) fun hF => ?_
   ·
    refine w_skip ?_
    refine thenQ_n ?_
    refine w_seq ?_
    refine w_block ?_
    refine ws 65 257 ?_
    refine qp (AI v50030) rfl ?_
    obtain ⟨g1015, hF⟩ := need_some hF
    refine qp (AI (w64 (v50030 * 2 ^ (min ((1 : Int)).toNat (IntKind.bits .i64))))) (ev_shl rfl rfl g1015) (qp (AI (w64 (v50030 * 2 ^ (min ((1 : Int)).toNat (IntKind.bits .i64))))) rfl ?_)
    refine r_nil ?_
    refine ws 257 385 ?_
    refine qp (AI (w64 (v50030 * 2 ^ (min ((1 : Int)).toNat (IntKind.bits .i64))))) rfl (qp (AB (decide ((65535 : Int) < w64 (v50030 * 2 ^ (min ((1 : Int)).toNat (IntKind.bits .i64)))))) rfl ?_)
    refine r_nil ?_
    refine cF hF (fun hF => ?_) fun hF => ?_
    ·
     refine w_reg 385 641 rfl rfl ?_
     refine qp (AI (w64 (v50030 * 2 ^ (min ((1 : Int)).toNat (IntKind.bits .i64))))) rfl (qp (AI (bitAnd .i64 (w64 (v50030 * 2 ^ (min ((1 : Int)).toNat (IntKind.bits .i64)))) 65535)) rfl (qp (AI (bitXor .i64 (bitAnd .i64 (w64 (v50030 * 2 ^ (min ((1 : Int)).toNat (IntKind.bits .i64)))) 65535) 4129)) rfl (qp (AI (bitXor .i64 (bitAnd .i64 (w64 (v50030 * 2 ^ (min ((1 : Int)).toNat (IntKind.bits .i64)))) 65535) 4129)) rfl ?_)))
     refine r_nil ?_
     refine blockQ_n ?_
     refine thenQ_n ?_
     refine w_reg 641 769 rfl rfl ?_
     refine qp (AI (w64 (v50031 + 1))) rfl (qp (AI (w64 (v50031 + 1))) rfl ?_)
     refine r_nil ?_
     refine thenQ_n ?_
     refine ar (l' := [(0, AS v0), (5, AI (bitXor .i64 (bitAnd .i64 (w64 (v50030 * 2 ^ (min ((1 : Int)).toNat (IntKind.bits .i64)))) 65535) 4129)), (12, AI (v0.length : Int)), (13, AI v50027), (23, AI (w64 (v50031 + 1)))]) (L := []) [0, 5, 12, 13, 23] [] 1 ⟨_, by rfl, hF⟩
    ·
     refine w_skip ?_
     refine blockQ_n ?_
     refine thenQ_n ?_
     refine w_reg 385 513 rfl rfl ?_
     refine qp (AI (w64 (v50031 + 1))) rfl (qp (AI (w64 (v50031 + 1))) rfl ?_)
     refine r_nil ?_
     refine thenQ_n ?_
     refine ar (l' := [(0, AS v0), (5, AI (w64 (v50030 * 2 ^ (min ((1 : Int)).toNat (IntKind.bits .i64))))), (12, AI (v0.length : Int)), (13, AI v50027), (23, AI (w64 (v50031 + 1)))]) (L := []) [0, 5, 12, 13, 23] [] 1 ⟨_, by rfl, hF⟩
   ·
    refine w_exit ?_
    refine thenQ_e ?_
    refine thenQ_e ?_
    refine blockQ_e ?_
    refine blockQ_n ?_
    refine thenQ_n ?_
    refine w_reg 65 193 rfl rfl ?_
    refine qp (AI (w64 (v50027 + 1))) rfl (qp (AI (w64 (v50027 + 1))) rfl ?_)
    refine r_nil ?_
    refine thenQ_n ?_
    refine ar (l' := [(0, AS v0), (5, AI v50030), (12, AI (v0.length : Int)), (13, AI (w64 (v50027 + 1)))]) (L := []) [0, 5, 12, 13] [] 1 ⟨_, by rfl, hF⟩
  ·
   refine w_exit ?_
   refine thenQ_e ?_
   refine thenQ_e ?_
   refine blockQ_e ?_
   refine thenQ_n ?_
   refine ws 65 193 ?_
   refine qp (AI v50026) rfl (qp (AI v50026) rfl ?_)
   refine r_nil ?_
   refine w_ret ?_
   cases hF
   exact eR

theorem c51_ok : okFn Tryz.prog 51 = true := by kernel_rfl




def c35 : MC := (.seq (.reg [rg 2 (.p true (.mv (.c (.str []))))]) (.seq (.reg [mvt 3 0, rg 4 (.call true 51 [(.t 3), (.c (.int .i64 10))]), mvt 2 4]) .ret))
theorem c35_is : compFn Tryz.prog 35 = some (c35, [(.tmp 2)]) := by kernel_rfl
theorem c35_ok : okFn Tryz.prog 35 = true := by kernel_rfl

noncomputable def F_impl_Decimal (v0 : Int) : Option (List UInt8) :=
 ((F_formatInt v0 10).bind fun v1000 => some v1000)
@[simp] def res_impl_Decimal (r : List UInt8) : RV := .one (.one (.val (.str r)))
theorem con_impl_Decimal {v0 : Int} {r : List UInt8} (hF : F_impl_Decimal v0 = some r) : Con Tryz.prog 35 [.int .i64 v0] (res_impl_Decimal r) := by
 unfold F_impl_Decimal at hF
 refine con_of c35_is fun N => ?_
 refine ws 0 64 ?_
 refine qp (AS []) rfl ?_
 refine r_nil ?_
 refine ws 64 256 ?_
 refine qp (AI v0) rfl ?_
 obtain ⟨v1000, e1000, hF⟩ := bind_get hF
 refine qc (AS v1000) [] false (con_formatInt e1000) c51_ok (by first | rfl | simp) rfl ?_
 refine qp (AS v1000) rfl ?_
 refine r_nil ?_
 refine w_ret ?_
 cases hF
 exact eR

theorem c53_ok : okFn Tryz.prog 53 = true := by kernel_rfl




def c36 : MC := (.seq (.reg [rg 2 (.p true (.mv (.c (.str []))))]) (.seq (.reg [mvt 4 0, rg 5 (.call true 52 [(.t 4), (.c (.int .i64 65535))]), rg 6 (.call true 35 [(.t 5)]), mvt 3 6]) (.seq (.reg [mvt 7 3, rg 8 (.p true (.lens (.t 7))), rg 9 (.p true (.bin .sub (.c (.int .i64 5)) (.t 8))), rg 10 (.call true 53 [(.c (.str [48])), (.t 9)]), mvt 11 3, rg 12 (.p true (.bin .add (.t 10) (.t 11))), mvt 2 12]) .ret)))
theorem c36_is : compFn Tryz.prog 36 = some (c36, [(.tmp 2)]) := by kernel_rfl
theorem c36_ok : okFn Tryz.prog 36 = true := by kernel_rfl

noncomputable def F_impl_checkText (v0 : List UInt8) : Option (List UInt8) :=
 ((F_impl_Crc16 v0 65535).bind fun v1000 => ((F_impl_Decimal v1000).bind fun v1001 => ((F_repeat [48] (w64 (5 - (v1001.length : Int)))).bind fun v1002 => (need (v1002.length + v1001.length < 9223372036854775808) (some (v1002 ++ v1001))))))
@[simp] def res_impl_checkText (r : List UInt8) : RV := .one (.one (.val (.str r)))
theorem con_impl_checkText {v0 : List UInt8} {r : List UInt8} (hF : F_impl_checkText v0 = some r) : Con Tryz.prog 36 [.str v0] (res_impl_checkText r) := by
 unfold F_impl_checkText at hF
 refine con_of c36_is fun N => ?_
 refine ws 0 64 ?_
 refine qp (AS []) rfl ?_
 refine r_nil ?_
 refine ws 64 320 ?_
 refine qp (AS v0) rfl ?_
 obtain ⟨v1000, e1000, hF⟩ := bind_get hF
 refine qc (AI v1000) [] false (con_impl_Crc16 e1000) c52_ok (by first | rfl | simp) rfl ?_
 obtain ⟨v1001, e1001, hF⟩ := bind_get hF
 refine qc (AS v1001) [] false (con_impl_Decimal e1001) c35_ok (by first | rfl | simp) rfl ?_
 refine qp (AS v1001) rfl ?_
 refine r_nil ?_
 refine ws 320 768 ?_
 refine qp (AS v1001) rfl (qp (AI (v1001.length : Int)) rfl (qp (AI (w64 (5 - (v1001.length : Int)))) rfl ?_))
 obtain ⟨v1002, e1002, hF⟩ := bind_get hF
 refine qc (AS v1002) [] false (con_repeat e1002) c53_ok (by first | rfl | simp) rfl ?_
 refine qp (AS v1001) rfl ?_
 obtain ⟨g1003, hF⟩ := need_some hF
 refine qp (AS (v1002 ++ v1001)) (ev_add_s rfl rfl g1003) (qp (AS (v1002 ++ v1001)) rfl ?_)
 refine r_nil ?_
 refine w_ret ?_
 cases hF
 exact eR

theorem c37_ok : okFn Tryz.prog 37 = true := by kernel_rfl




def c75 : MC := (.seq (.reg [rg 2 (.p true (.mv (.c (.bool false))))]) (.seq (.seq (.reg [mvt 5 0, rg 6 (.p true (.lens (.t 5))), rg 7 (.p true (.mv (.c (.int .i64 0))))]) (.block 0 (.loop (.seq (.reg [rg 8 (.p true (.bin .lss (.t 7) (.t 6)))]) (.seq (.cond (.t 8) .skip (.exit 0)) (.seq (.block 1 (.seq (.reg [mvt 9 7, mvt 3 9]) (.seq (.reg [mvt 10 0, mvt 11 3, rg 12 (.p true (.ixs (.t 10) (.t 11))), mvt 4 12]) (.seq (.reg [mvt 13 4, rg 14 (.p true (.bin .lss (.t 13) (.c (.int .u8 97)))), mvt 15 14, ⟨(some 16), (some (15, false)), (.p true (.mv (.t 4)))⟩, ⟨(some 17), (some (15, false)), (.p true (.bin .gtr (.t 16) (.c (.int .u8 122))))⟩, rg 18 (.p true (.pick (.t 15) (.c (.bool true)) (.t 17))), mvt 19 18, ⟨(some 20), (some (19, true)), (.p true (.mv (.t 4)))⟩, ⟨(some 21), (some (19, true)), (.p true (.bin .lss (.t 20) (.c (.int .u8 48))))⟩, ⟨(some 22), (some (19, true)), (.p true (.mv (.t 21)))⟩, ⟨(some 23), (some (22, false)), (.p true (.mv (.t 4)))⟩, ⟨(some 24), (some (22, false)), (.p true (.bin .gtr (.t 23) (.c (.int .u8 57))))⟩, ⟨(some 25), (some (19, true)), (.p true (.pick (.t 22) (.c (.bool true)) (.t 24)))⟩, rg 26 (.p true (.pick (.t 19) (.t 25) (.c (.bool false))))]) (.cond (.t 26) (.seq (.reg [rg 2 (.p true (.mv (.c (.bool false))))]) .ret) .skip))))) (.reg [rg 27 (.p true (.bin .add (.t 7) (.c (.int .i64 1)))), mvt 7 27]))))))) (.seq (.reg [rg 2 (.p true (.mv (.c (.bool true))))]) .ret)))
theorem c75_is : compFn Tryz.prog 75 = some (c75, [(.tmp 2)]) := by kernel_rfl
theorem c75_ok : okFn Tryz.prog 75 = true := by kernel_rfl

noncomputable def F_impl_onlyNameBytes_l0 (v0 : List UInt8) (k0 : Int → Option (Bool)) : Int → Option (Bool)
 | v50001 => (bif (decide (v50001 < (v0.length : Int))) then ((ix v0 v50001).bind fun v1000 => (bif (decide ((v1000.toNat : Int) < (97 : Int))) then (bif (decide ((v1000.toNat : Int) < (48 : Int))) then some false
 else (bif (decide ((57 : Int) < (v1000.toNat : Int))) then some false
 else k0 (w64 (v50001 + 1))))
 else (bif (decide ((122 : Int) < (v1000.toNat : Int))) then (bif (decide ((v1000.toNat : Int) < (48 : Int))) then some false
 else (bif (decide ((57 : Int) < (v1000.toNat : Int))) then some false
 else k0 (w64 (v50001 + 1))))
 else k0 (w64 (v50001 + 1)))))
 else some true)
noncomputable def F_impl_onlyNameBytes (v0 : List UInt8) : Option (Bool) :=
 loop (F_impl_onlyNameBytes_l0 v0) 0
@[simp] def res_impl_onlyNameBytes (r : Bool) : RV := .one (.one (.val (.bool r)))
theorem con_impl_onlyNameBytes {v0 : List UInt8} {r : Bool} (hF : F_impl_onlyNameBytes v0 = some r) : Con Tryz.prog 75 [.str v0] (res_impl_onlyNameBytes r) := by
 unfold F_impl_onlyNameBytes at hF
 refine con_of c75_is fun N => ?_
 refine ws 0 64 ?_
 refine qp (AB false) rfl ?_
 refine r_nil ?_
 refine w_seq ?_
 refine ws 64 256 ?_
 refine qp (AS v0) rfl (qp (AI (v0.length : Int)) rfl (qp (AI 0) rfl ?_))
 refine r_nil ?_
 refine w_block ?_
 refine wr (l' := [(0, AS v0), (6, AI (v0.length : Int)), (7, AI 0)]) (L := []) [0, 6, 7] [] 1 ?_
 refine w_loopF (F_impl_onlyNameBytes_l0 v0) (fun s : Int => mkS [(0, AS v0), (6, AI (v0.length : Int)), (7, AI s)] (fo []) 1) hF ?_
 rintro k0 v50001 hF
 rw [F_impl_onlyNameBytes_l0] at hF
 try dsimp only
 refine ws 1 65 ?_
 refine qp (AB (decide (v50001 < (v0.length : Int)))) rfl ?_
 refine r_nil ?_
 refine w_seq ?_
 refine cF hF (fun hF => ?_) fun hF => ?_
 ·
  refine w_skip ?_
  refine thenQ_n ?_
  refine w_seq ?_
  refine w_block ?_
  refine ws 65 193 ?_
  refine qp (AI v50001) rfl (qp (AI v50001) rfl ?_)
  refine r_nil ?_
  refine ws 193 449 ?_
  refine qp (AS v0) rfl (qp (AI v50001) rfl ?_)
  obtain ⟨v1000, e1000, hF⟩ := bind_get hF
  refine qp (.val none (.int .u8 (v1000.toNat : Int))) (ev_ixs rfl rfl e1000) (qp (.val none (.int .u8 (v1000.toNat : Int))) rfl ?_)
  refine r_nil ?_
  refine ws 449 1345 ?_
  refine qp (.val none (.int .u8 (v1000.toNat : Int))) rfl (qp (AB (decide ((v1000.toNat : Int) < (97 : Int)))) rfl (qp (AB (decide ((v1000.toNat : Int) < (97 : Int)))) rfl ?_))
  refine q_case 15 hF rfl (fun hF => ?_) (fun hF => ?_)
  ·
   refine qn rfl (qn rfl (qp (AB true) rfl (qp (AB true) rfl (qg (.val none (.int .u8 (v1000.toNat : Int))) rfl rfl (qg (AB (decide ((v1000.toNat : Int) < (48 : Int)))) rfl rfl (qg (AB (decide ((v1000.toNat : Int) < (48 : Int)))) rfl rfl ?_))))))
   refine q_case 22 hF rfl (fun hF => ?_) (fun hF => ?_)
   ·
    refine qn rfl (qn rfl (qg (AB true) rfl rfl (qp (AB true) rfl ?_)))
    refine r_nil ?_
    refine w_true rfl ?_
    refine ws 1345 1409 ?_
    refine qp (AB false) rfl ?_
    refine r_nil ?_
    refine w_ret ?_
    refine blockQ_r ?_
    refine thenQ_r ?_
    refine thenQ_r ?_
    refine blockQ_r ?_
    refine thenQ_r ?_
    cases hF
    exact eR
   ·
    refine qg (.val none (.int .u8 (v1000.toNat : Int))) rfl rfl (qg (AB (decide ((57 : Int) < (v1000.toNat : Int)))) rfl rfl (qg (AB (decide ((57 : Int) < (v1000.toNat : Int)))) rfl rfl (qp (AB (decide ((57 : Int) < (v1000.toNat : Int)))) rfl ?_)))
    refine r_nil ?_
    refine cF hF (fun hF => ?_) fun hF => ?_
    ·
     refine ws 1345 1409 ?_
     refine qp (AB false) rfl ?_
     refine r_nil ?_
     refine w_ret ?_
     refine blockQ_r ?_
     refine thenQ_r ?_
     refine thenQ_r ?_
     refine blockQ_r ?_
     refine thenQ_r ?_
     cases hF
     exact eR
    ·
     refine w_skip ?_
     refine blockQ_n ?_
     refine thenQ_n ?_
     refine w_reg 1345 1473 rfl rfl ?_
     refine qp (AI (w64 (v50001 + 1))) rfl (qp (AI (w64 (v50001 + 1))) rfl ?_)
     refine r_nil ?_
     refine thenQ_n ?_
     refine ar (l' := [(0, AS v0), (6, AI (v0.length : Int)), (7, AI (w64 (v50001 + 1)))]) (L := []) [0, 6, 7] [] 1 ⟨_, by rfl, hF⟩
  ·
   refine qg (.val none (.int .u8 (v1000.toNat : Int))) rfl rfl (qg (AB (decide ((122 : Int) < (v1000.toNat : Int)))) rfl rfl (qp (AB (decide ((122 : Int) < (v1000.toNat : Int)))) rfl (qp (AB (decide ((122 : Int) < (v1000.toNat : Int)))) rfl ?_)))
   refine q_case 19 hF rfl (fun hF => ?_) (fun hF => ?_)
   ·
    refine qg (.val none (.int .u8 (v1000.toNat : Int))) rfl rfl (qg (AB (decide ((v1000.toNat : Int) < (48 : Int)))) rfl rfl (qg (AB (decide ((v1000.toNat : Int) < (48 : Int)))) rfl rfl ?_))
    refine q_case 22 hF rfl (fun hF => ?_) (fun hF => ?_)
    ·
     refine qn rfl (qn rfl (qg (AB true) rfl rfl (qp (AB true) rfl ?_)))
     refine r_nil ?_
     refine w_true rfl ?_
     refine ws 1345 1409 ?_
     refine qp (AB false) rfl ?_
     refine r_nil ?_
     refine w_ret ?_
     refine blockQ_r ?_
     refine thenQ_r ?_
     refine thenQ_r ?_
     refine blockQ_r ?_
     refine thenQ_r ?_
     cases hF
     exact eR
    ·
     refine qg (.val none (.int .u8 (v1000.toNat : Int))) rfl rfl (qg (AB (decide ((57 : Int) < (v1000.toNat : Int)))) rfl rfl (qg (AB (decide ((57 : Int) < (v1000.toNat : Int)))) rfl rfl (qp (AB (decide ((57 : Int) < (v1000.toNat : Int)))) rfl ?_)))
     refine r_nil ?_
     refine cF hF (fun hF => ?_) fun hF => ?_
     ·
      refine ws 1345 1409 ?_
      refine qp (AB false) rfl ?_
      refine r_nil ?_
      refine w_ret ?_
      refine blockQ_r ?_
      refine thenQ_r ?_
      refine thenQ_r ?_
      refine blockQ_r ?_
      refine thenQ_r ?_
      cases hF
      exact eR
     ·
      refine w_skip ?_
      refine blockQ_n ?_
      refine thenQ_n ?_
      refine w_reg 1345 1473 rfl rfl ?_
      refine qp (AI (w64 (v50001 + 1))) rfl (qp (AI (w64 (v50001 + 1))) rfl ?_)
      refine r_nil ?_
      refine thenQ_n ?_
      refine ar (l' := [(0, AS v0), (6, AI (v0.length : Int)), (7, AI (w64 (v50001 + 1)))]) (L := []) [0, 6, 7] [] 1 ⟨_, by rfl, hF⟩
   ·
    refine qn rfl (qn rfl (qn rfl (qu rfl (qu rfl (qn rfl (qp (AB false) rfl ?_))))))
    refine r_nil ?_
    refine w_false rfl ?_
    refine w_skip ?_
    refine blockQ_n ?_
    refine thenQ_n ?_
    refine w_reg 1345 1473 rfl rfl ?_
    refine qp (AI (w64 (v50001 + 1))) rfl (qp (AI (w64 (v50001 + 1))) rfl ?_)
    refine r_nil ?_
    refine thenQ_n ?_
    refine ar (l' := [(0, AS v0), (6, AI (v0.length : Int)), (7, AI (w64 (v50001 + 1)))]) (L := []) [0, 6, 7] [] 1 ⟨_, by rfl, hF⟩
 ·
  refine w_exit ?_
  refine thenQ_e ?_
  refine thenQ_e ?_
  refine blockQ_e ?_
  refine thenQ_n ?_
  refine ws 65 129 ?_
  refine qp (AB true) rfl ?_
  refine r_nil ?_
  refine w_ret ?_
  cases hF
  exact eR

def c55 : MC := (.seq (.reg [rg 2 (.p true (.mv (.c (.bool false))))]) (.seq (.seq (.reg [mvt 3 0, rg 4 (.p true (.lens (.t 3))), rg 5 (.p true (.bin .lss (.t 4) (.c (.int .i64 1)))), mvt 6 5, ⟨(some 7), (some (6, false)), (.p true (.mv (.t 0)))⟩, ⟨(some 8), (some (6, false)), (.p true (.lens (.t 7)))⟩, ⟨(some 9), (some (6, false)), (.p true (.bin .gtr (.t 8) (.c (.int .i64 10))))⟩, rg 10 (.p true (.pick (.t 6) (.c (.bool true)) (.t 9))), mvt 11 10, ⟨(some 12), (some (11, false)), (.p true (.mv (.t 0)))⟩, ⟨(some 13), (some (11, false)), (.p true (.ixs (.t 12) (.c (.int .i64 0))))⟩, ⟨(some 14), (some (11, false)), (.p true (.bin .lss (.t 13) (.c (.int .u8 97))))⟩, rg 15 (.p true (.pick (.t 11) (.c (.bool true)) (.t 14))), mvt 16 15, ⟨(some 17), (some (16, false)), (.p true (.mv (.t 0)))⟩, ⟨(some 18), (some (16, false)), (.p true (.ixs (.t 17) (.c (.int .i64 0))))⟩, ⟨(some 19), (some (16, false)), (.p true (.bin .gtr (.t 18) (.c (.int .u8 122))))⟩, rg 20 (.p true (.pick (.t 16) (.c (.bool true)) (.t 19)))]) (.cond (.t 20) (.seq (.reg [rg 2 (.p true (.mv (.c (.bool false))))]) .ret) .skip)) (.seq (.reg [mvt 21 0, rg 22 (.call true 75 [(.t 21)]), mvt 2 22]) .ret)))
theorem c55_is : compFn Tryz.prog 55 = some (c55, [(.tmp 2)]) := by kernel_rfl
theorem c55_ok : okFn Tryz.prog 55 = true := by kernel_rfl

noncomputable def F_impl_IsName (v0 : List UInt8) : Option (Bool) :=
 (bif (decide ((v0.length : Int) < (1 : Int))) then some false
 else (bif (decide ((10 : Int) < (v0.length : Int))) then some false
 else ((ix v0 0).bind fun v1000 => (bif (decide ((v1000.toNat : Int) < (97 : Int))) then some false
 else ((ix v0 0).bind fun v1001 => (bif (decide ((122 : Int) < (v1001.toNat : Int))) then some false
 else ((F_impl_onlyNameBytes v0).bind fun v1002 => some v1002)))))))
@[simp] def res_impl_IsName (r : Bool) : RV := .one (.one (.val (.bool r)))
theorem con_impl_IsName {v0 : List UInt8} {r : Bool} (hF : F_impl_IsName v0 = some r) : Con Tryz.prog 55 [.str v0] (res_impl_IsName r) := by
 unfold F_impl_IsName at hF
 refine con_of c55_is fun N => ?_
 refine ws 0 64 ?_
 refine qp (AB false) rfl ?_
 refine r_nil ?_
 refine w_seq ?_
 refine ws 64 1216 ?_
 refine qp (AS v0) rfl (qp (AI (v0.length : Int)) rfl (qp (AB (decide ((v0.length : Int) < (1 : Int)))) rfl (qp (AB (decide ((v0.length : Int) < (1 : Int)))) rfl ?_)))
 refine q_case 6 hF rfl (fun hF => ?_) (fun hF => ?_)
 ·
  refine qn rfl (qn rfl (qn rfl (qp (AB true) rfl (qp (AB true) rfl (qn rfl (qn rfl (qn rfl ?_)))))))
  refine qp (AB true) rfl (qp (AB true) rfl (qn rfl (qn rfl (qn rfl (qp (AB true) rfl ?_)))))
  refine r_nil ?_
  refine w_true rfl ?_
  refine ws 1216 1280 ?_
  refine qp (AB false) rfl ?_
  refine r_nil ?_
  refine w_ret ?_
  refine thenQ_r ?_
  cases hF
  exact eR
 ·
  refine qg (AS v0) rfl rfl (qg (AI (v0.length : Int)) rfl rfl (qg (AB (decide ((10 : Int) < (v0.length : Int)))) rfl rfl (qp (AB (decide ((10 : Int) < (v0.length : Int)))) rfl (qp (AB (decide ((10 : Int) < (v0.length : Int)))) rfl ?_))))
  refine q_case 11 hF rfl (fun hF => ?_) (fun hF => ?_)
  ·
   refine qn rfl (qn rfl (qn rfl (qp (AB true) rfl (qp (AB true) rfl (qn rfl (qn rfl (qn rfl ?_)))))))
   refine qp (AB true) rfl ?_
   refine r_nil ?_
   refine w_true rfl ?_
   refine ws 1216 1280 ?_
   refine qp (AB false) rfl ?_
   refine r_nil ?_
   refine w_ret ?_
   refine thenQ_r ?_
   cases hF
   exact eR
  ·
   refine qg (AS v0) rfl rfl ?_
   obtain ⟨v1000, e1000, hF⟩ := bind_get hF
   refine qg (.val none (.int .u8 (v1000.toNat : Int))) rfl (ev_ixs rfl rfl e1000) (qg (AB (decide ((v1000.toNat : Int) < (97 : Int)))) rfl rfl (qp (AB (decide ((v1000.toNat : Int) < (97 : Int)))) rfl (qp (AB (decide ((v1000.toNat : Int) < (97 : Int)))) rfl ?_)))
   refine q_case 16 hF rfl (fun hF => ?_) (fun hF => ?_)
   ·
    refine qn rfl (qn rfl (qn rfl (qp (AB true) rfl ?_)))
    refine r_nil ?_
    refine w_true rfl ?_
    refine ws 1216 1280 ?_
    refine qp (AB false) rfl ?_
    refine r_nil ?_
    refine w_ret ?_
    refine thenQ_r ?_
    cases hF
    exact eR
   ·
    refine qg (AS v0) rfl rfl ?_
    obtain ⟨v1001, e1001, hF⟩ := bind_get hF
    refine qg (.val none (.int .u8 (v1001.toNat : Int))) rfl (ev_ixs rfl rfl e1001) (qg (AB (decide ((122 : Int) < (v1001.toNat : Int)))) rfl rfl (qp (AB (decide ((122 : Int) < (v1001.toNat : Int)))) rfl ?_))
    refine r_nil ?_
    refine cF hF (fun hF => ?_) fun hF => ?_
    ·
     refine ws 1216 1280 ?_
     refine qp (AB false) rfl ?_
     refine r_nil ?_
     refine w_ret ?_
     refine thenQ_r ?_
     cases hF
     exact eR
    ·
     refine w_skip ?_
     refine thenQ_n ?_
     refine ws 1216 1408 ?_
     refine qp (AS v0) rfl ?_
     obtain ⟨v1002, e1002, hF⟩ := bind_get hF
     refine qc (AB v1002) [] false (con_impl_onlyNameBytes e1002) c75_ok (by first | rfl | simp) rfl ?_
     refine qp (AB v1002) rfl ?_
     refine r_nil ?_
     refine w_ret ?_
     cases hF
     exact eR

theorem c94_x : IsIdx Tryz.prog 94 := ⟨by kernel_rfl, by kernel_rfl, by kernel_rfl, by kernel_rfl⟩




def c77 : MC := (.seq (.reg [rg 4 (.p true (.mv (.c (.int .i64 0))))]) (.seq (.reg [mvt 5 0, mvt 6 1, rg 7 (.call true 94 [(.t 5), (.t 6)]), mvt 4 7]) .ret))
theorem c77_is : compFn Tryz.prog 77 = some (c77, [(.tmp 4)]) := by kernel_rfl
theorem c77_ok : okFn Tryz.prog 77 = true := by kernel_rfl

noncomputable def F_stringslite_IndexByte (v0 : List UInt8) (v1 : Int) : Option (Int) :=
 some (byteIdx v0 (v1).toNat.toUInt8)
@[simp] def res_stringslite_IndexByte (r : Int) : RV := .one (.one (.val (.int .i64 r)))
theorem con_stringslite_IndexByte {v0 : List UInt8} {v1 : Int} {r : Int} (hF : F_stringslite_IndexByte v0 v1 = some r) : Con Tryz.prog 77 [.str v0, .int .u8 v1] (res_stringslite_IndexByte r) := by
 unfold F_stringslite_IndexByte at hF
 refine con_of c77_is fun N => ?_
 refine ws 0 64 ?_
 refine qp (AI 0) rfl ?_
 refine r_nil ?_
 refine ws 64 320 ?_
 refine qp (AS v0) rfl (qp (.val none (.int .u8 v1)) rfl ?_)
 refine qx (s := v0) (c := v1) c94_x (by first | rfl | simp) ?_
 refine qp (AI (byteIdx v0 (v1).toNat.toUInt8)) rfl ?_
 refine r_nil ?_
 refine w_ret ?_
 cases hF
 exact eR

def c62 : MC := (.seq (.reg [rg 4 (.p true (.mv (.c (.int .i64 0))))]) (.seq (.reg [mvt 14 1, rg 15 (.p true (.lens (.t 14))), mvt 5 15]) (.seq (.block 0 (.seq (.reg [mvt 17 5, rg 18 (.p true (.bin .eql (.t 17) (.c (.int .i64 0)))), mvt 19 18, ⟨(some 20), (some (19, false)), (.p true (.mv (.t 1)))⟩, ⟨(some 21), (some (19, false)), (.p true (.mv (.t 0)))⟩, ⟨(some 22), (some (19, false)), (.p true (.bin .eql (.t 20) (.t 21)))⟩, rg 23 (.p true (.pick (.t 19) (.c (.bool true)) (.t 22))), mvt 16 23]) (.cond (.t 16) (.seq (.reg [rg 4 (.p true (.mv (.c (.int .i64 0))))]) .ret) (.seq (.reg [mvt 25 5, rg 26 (.p true (.bin .eql (.t 25) (.c (.int .i64 1)))), mvt 24 26]) (.cond (.t 24) (.seq (.reg [mvt 27 0, mvt 28 1, rg 29 (.p true (.ixs (.t 28) (.c (.int .i64 0)))), rg 30 (.call true 77 [(.t 27), (.t 29)]), mvt 4 30]) .ret) (.seq (.reg [mvt 32 5, mvt 33 0, rg 34 (.p true (.lens (.t 33))), rg 35 (.p true (.bin .geq (.t 32) (.t 34))), mvt 31 35]) (.cond (.t 31) (.seq (.reg [rg 4 (.p true (.mv (.c (.int .i64 (-1)))))]) .ret) (.seq .bad (.cond (.t 36) (.seq (.reg [mvt 45 0, mvt 46 1, rg 47 (.call true 78 [(.t 45), (.t 46)]), mvt 4 47]) .ret) .skip))))))))) (.seq (.reg [mvt 48 1, rg 49 (.p true (.ixs (.t 48) (.c (.int .i64 0)))), mvt 6 49]) (.seq (.reg [mvt 50 1, rg 51 (.p true (.ixs (.t 50) (.c (.int .i64 1)))), mvt 7 51]) (.seq (.reg [rg 8 (.p true (.mv (.c (.int .i64 0))))]) (.seq (.reg [mvt 52 0, rg 53 (.p true (.lens (.t 52))), mvt 54 5, rg 55 (.p true (.bin .sub (.t 53) (.t 54))), rg 56 (.p true (.bin .add (.t 55) (.c (.int .i64 1)))), mvt 9 56]) (.seq (.reg [rg 10 (.p true (.mv (.c (.int .i64 0))))]) (.seq (.block 1 (.loop (.seq (.seq (.reg [mvt 57 8, mvt 58 9, rg 59 (.p true (.bin .lss (.t 57) (.t 58)))]) (.cond (.t 59) .skip (.exit 1))) (.block 2 (.seq (.seq (.reg [mvt 60 0, mvt 61 8, rg 62 (.p true (.ixs (.t 60) (.t 61))), mvt 63 6, rg 64 (.p true (.bin .neq (.t 62) (.t 63)))]) (.cond (.t 64) (.seq (.reg [mvt 65 0, mvt 66 8, rg 67 (.p true (.bin .add (.t 66) (.c (.int .i64 1)))), mvt 68 9, rg 69 (.p true (.slcs (.t 65) (some (.t 67)) (some (.t 68)))), mvt 70 6, rg 71 (.call true 77 [(.t 69), (.t 70)]), mvt 11 71]) (.seq (.seq (.reg [mvt 72 11, rg 73 (.p true (.bin .lss (.t 72) (.c (.int .i64 0))))]) (.cond (.t 73) (.seq (.reg [rg 4 (.p true (.mv (.c (.int .i64 (-1)))))]) .ret) .skip)) (.reg [mvt 74 8, mvt 75 11, rg 76 (.p true (.bin .add (.t 75) (.c (.int .i64 1)))), rg 77 (.p true (.bin .add (.t 74) (.t 76))), mvt 8 77]))) .skip)) (.seq (.seq (.reg [mvt 78 0, mvt 79 8, rg 80 (.p true (.bin .add (.t 79) (.c (.int .i64 1)))), rg 81 (.p true (.ixs (.t 78) (.t 80))), mvt 82 7, rg 83 (.p true (.bin .eql (.t 81) (.t 82))), mvt 84 83, ⟨(some 85), (some (84, true)), (.p true (.mv (.t 0)))⟩, ⟨(some 86), (some (84, true)), (.p true (.mv (.t 8)))⟩, ⟨(some 87), (some (84, true)), (.p true (.mv (.t 8)))⟩, ⟨(some 88), (some (84, true)), (.p true (.mv (.t 5)))⟩, ⟨(some 89), (some (84, true)), (.p true (.bin .add (.t 87) (.t 88)))⟩, ⟨(some 90), (some (84, true)), (.p true (.slcs (.t 85) (some (.t 86)) (some (.t 89))))⟩, ⟨(some 91), (some (84, true)), (.p true (.mv (.t 1)))⟩, ⟨(some 92), (some (84, true)), (.p true (.bin .eql (.t 90) (.t 91)))⟩, rg 93 (.p true (.pick (.t 84) (.t 92) (.c (.bool false))))]) (.cond (.t 93) (.seq (.reg [mvt 94 8, mvt 4 94]) .ret) .skip)) (.seq (.reg [mvt 95 8, rg 96 (.p true (.bin .add (.t 95) (.c (.int .i64 1)))), mvt 8 96]) (.seq (.reg [mvt 97 10, rg 98 (.p true (.bin .add (.t 97) (.c (.int .i64 1)))), mvt 10 98]) (.seq .bad (.cond (.t 107) (.seq (.reg [mvt 108 0, mvt 109 8, rg 110 (.p true (.slcs (.t 108) (some (.t 109)) none)), mvt 111 1, rg 112 (.call true 78 [(.t 110), (.t 111)]), mvt 12 112]) (.seq (.seq (.reg [mvt 113 12, rg 114 (.p true (.bin .geq (.t 113) (.c (.int .i64 0))))]) (.cond (.t 114) (.seq (.reg [mvt 115 12, mvt 116 8, rg 117 (.p true (.bin .add (.t 115) (.t 116))), mvt 4 117]) .ret) .skip)) (.seq (.reg [rg 4 (.p true (.mv (.c (.int .i64 (-1)))))]) .ret))) (.seq .bad (.cond (.t 132) (.seq (.reg [mvt 133 0, mvt 134 8, rg 135 (.p true (.slcs (.t 133) (some (.t 134)) none)), mvt 136 1, rg 137 (.call true 80 [(.t 135), (.t 136)]), mvt 13 137]) (.seq (.seq (.reg [mvt 138 13, rg 139 (.p true (.bin .lss (.t 138) (.c (.int .i64 0))))]) (.cond (.t 139) (.seq (.reg [rg 4 (.p true (.mv (.c (.int .i64 (-1)))))]) .ret) .skip)) (.seq (.reg [mvt 140 8, mvt 141 13, rg 142 (.p true (.bin .add (.t 140) (.t 141))), mvt 4 142]) .ret))) .skip)))))))))))) (.seq (.reg [rg 4 (.p true (.mv (.c (.int .i64 (-1)))))]) .ret))))))))))
theorem c62_is : compFn Tryz.prog 62 = some (c62, [(.tmp 4)]) := by kernel_rfl
theorem c62_ok : okFn Tryz.prog 62 = true := by kernel_rfl

noncomputable def F_stringslite_Index_j0 (v0 : List UInt8) (v1 : List UInt8) (v50000 : Bool) : Option (Int) :=
 (bif v50000 then some 0
 else (bif (decide ((v1.length : Int) = (1 : Int))) then ((ix v1 0).bind fun v1000 => ((F_stringslite_IndexByte v0 (v1000.toNat : Int)).bind fun v1001 => some v1001))
 else (bif (decide ((v0.length : Int) ≤ (v1.length : Int))) then some (-1)
 else none)))
noncomputable def F_stringslite_Index (v0 : List UInt8) (v1 : List UInt8) : Option (Int) :=
 (bif (decide ((v1.length : Int) = (0 : Int))) then F_stringslite_Index_j0 v0 v1 true
 else F_stringslite_Index_j0 v0 v1 (decide (v1 = v0)))
@[simp] def res_stringslite_Index (r : Int) : RV := .one (.one (.val (.int .i64 r)))
theorem con_stringslite_Index {v0 : List UInt8} {v1 : List UInt8} {r : Int} (hF : F_stringslite_Index v0 v1 = some r) : Con Tryz.prog 62 [.str v0, .str v1] (res_stringslite_Index r) := by
 unfold F_stringslite_Index at hF
 refine con_of c62_is fun N => ?_
 refine ws 0 64 ?_
 refine qp (AI 0) rfl ?_
 refine r_nil ?_
 refine ws 64 256 ?_
 refine qp (AS v1) rfl (qp (AI (v1.length : Int)) rfl (qp (AI (v1.length : Int)) rfl ?_))
 refine r_nil ?_
 refine w_seq ?_
 refine w_block ?_
 refine w_meet (fun s' => ∃ (v50000 : Bool), s' = mkS [(0, AS v0), (1, AS v1), (5, AI (v1.length : Int)), (16, AB v50000)] (fo []) 1 ∧ F_stringslite_Index_j0 v0 v1 v50000 = some r) ?_ ?_
 ·
  refine w_reg 256 768 rfl rfl ?_
  refine qp (AI (v1.length : Int)) rfl (qp (AB (decide ((v1.length : Int) = (0 : Int)))) rfl (qp (AB (decide ((v1.length : Int) = (0 : Int)))) rfl ?_))
  refine q_case 19 hF rfl (fun hF => ?_) (fun hF => ?_)
  ·
   refine qn rfl (qn rfl (qn rfl (qp (AB true) rfl (qp (AB true) rfl ?_))))
   refine r_nil ?_
   refine thenQ_n ?_
   refine aw_ren (l' := [(0, AS v0), (1, AS v1), (5, AI (v1.length : Int)), (16, AB true)]) (L := []) [0, 1, 5, 16] [] 1 (by first | rfl | simp) (by first | rfl | simp) (by decide) (by decide) (by decide) ⟨_, rfl, hF⟩
  ·
   refine qg (AS v1) rfl rfl (qg (AS v0) rfl rfl (qg (AB (decide (v1 = v0))) rfl rfl (qp (AB (decide (v1 = v0))) rfl (qp (AB (decide (v1 = v0))) rfl ?_))))
   refine r_nil ?_
   refine thenQ_n ?_
   refine aw_ren (l' := [(0, AS v0), (1, AS v1), (5, AI (v1.length : Int)), (16, AB (decide (v1 = v0)))]) (L := []) [0, 1, 5, 16] [] 1 (by first | rfl | simp) (by first | rfl | simp) (by decide) (by decide) (by decide) ⟨_, rfl, hF⟩
 ·
  rintro s' ⟨v50000, rfl, hF⟩
  unfold F_stringslite_Index_j0 at hF
  refine cF hF (fun hF => ?_) fun hF => ?_
  ·
   refine ws 1 65 ?_
   refine qp (AI 0) rfl ?_
   refine r_nil ?_
   refine w_ret ?_
   refine blockQ_r ?_
   refine thenQ_r ?_
   cases hF
   exact eR
  ·
   refine ws 1 193 ?_
   refine qp (AI (v1.length : Int)) rfl (qp (AB (decide ((v1.length : Int) = (1 : Int)))) rfl (qp (AB (decide ((v1.length : Int) = (1 : Int)))) rfl ?_))
   refine r_nil ?_
   refine cF hF (fun hF => ?_) fun hF => ?_
   ·
    refine ws 193 513 ?_
    refine qp (AS v0) rfl (qp (AS v1) rfl ?_)
    obtain ⟨v1000, e1000, hF⟩ := bind_get hF
    refine qp (.val none (.int .u8 (v1000.toNat : Int))) (ev_ixs rfl rfl e1000) ?_
    obtain ⟨v1001, e1001, hF⟩ := bind_get hF
    refine qc (AI v1001) [] false (con_stringslite_IndexByte e1001) c77_ok (by first | rfl | simp) rfl ?_
    refine qp (AI v1001) rfl ?_
    refine r_nil ?_
    refine w_ret ?_
    refine blockQ_r ?_
    refine thenQ_r ?_
    cases hF
    exact eR
   ·
    refine ws 193 513 ?_
    refine qp (AI (v1.length : Int)) rfl (qp (AS v0) rfl (qp (AI (v0.length : Int)) rfl (qp (AB (decide ((v0.length : Int) ≤ (v1.length : Int)))) rfl (qp (AB (decide ((v0.length : Int) ≤ (v1.length : Int)))) rfl ?_))))
    refine r_nil ?_
    refine cF hF (fun hF => ?_) fun hF => ?_
    ·
     refine ws 513 577 ?_
     refine qp (AI (-1)) rfl ?_
     refine r_nil ?_
     refine w_ret ?_
     refine blockQ_r ?_
     refine thenQ_r ?_
     cases hF
     exact eR
    ·
     refine w_seq ?_
     cases hF

def c46 : MC := (.seq (.reg [rg 4 (.p true (.mv (.c (.int .i64 0))))]) (.seq (.reg [mvt 5 0, mvt 6 1, rg 7 (.call true 62 [(.t 5), (.t 6)]), mvt 4 7]) .ret))
theorem c46_is : compFn Tryz.prog 46 = some (c46, [(.tmp 4)]) := by kernel_rfl
theorem c46_ok : okFn Tryz.prog 46 = true := by kernel_rfl

noncomputable def F_strings_Index (v0 : List UInt8) (v1 : List UInt8) : Option (Int) :=
 ((F_stringslite_Index v0 v1).bind fun v1000 => some v1000)
@[simp] def res_strings_Index (r : Int) : RV := .one (.one (.val (.int .i64 r)))
theorem con_strings_Index {v0 : List UInt8} {v1 : List UInt8} {r : Int} (hF : F_strings_Index v0 v1 = some r) : Con Tryz.prog 46 [.str v0, .str v1] (res_strings_Index r) := by
 unfold F_strings_Index at hF
 refine con_of c46_is fun N => ?_
 refine ws 0 64 ?_
 refine qp (AI 0) rfl ?_
 refine r_nil ?_
 refine ws 64 320 ?_
 refine qp (AS v0) rfl (qp (AS v1) rfl ?_)
 obtain ⟨v1000, e1000, hF⟩ := bind_get hF
 refine qc (AI v1000) [] false (con_stringslite_Index e1000) c62_ok (by first | rfl | simp) rfl ?_
 refine qp (AI v1000) rfl ?_
 refine r_nil ?_
 refine w_ret ?_
 cases hF
 exact eR

def c56 : MC := (.seq (.reg [rg 4 (.p true (.mv (.c (.bool false))))]) (.seq (.reg [mvt 5 0, mvt 6 1, rg 7 (.call true 46 [(.t 5), (.t 6)]), rg 8 (.p true (.bin .geq (.t 7) (.c (.int .i64 0)))), mvt 4 8]) .ret))
theorem c56_is : compFn Tryz.prog 56 = some (c56, [(.tmp 4)]) := by kernel_rfl
theorem c56_ok : okFn Tryz.prog 56 = true := by kernel_rfl

noncomputable def F_strings_Contains (v0 : List UInt8) (v1 : List UInt8) : Option (Bool) :=
 ((F_strings_Index v0 v1).bind fun v1000 => some (decide ((0 : Int) ≤ v1000)))
@[simp] def res_strings_Contains (r : Bool) : RV := .one (.one (.val (.bool r)))
theorem con_strings_Contains {v0 : List UInt8} {v1 : List UInt8} {r : Bool} (hF : F_strings_Contains v0 v1 = some r) : Con Tryz.prog 56 [.str v0, .str v1] (res_strings_Contains r) := by
 unfold F_strings_Contains at hF
 refine con_of c56_is fun N => ?_
 refine ws 0 64 ?_
 refine qp (AB false) rfl ?_
 refine r_nil ?_
 refine ws 64 384 ?_
 refine qp (AS v0) rfl (qp (AS v1) rfl ?_)
 obtain ⟨v1000, e1000, hF⟩ := bind_get hF
 refine qc (AI v1000) [] false (con_strings_Index e1000) c46_ok (by first | rfl | simp) rfl ?_
 refine qp (AB (decide ((0 : Int) ≤ v1000))) rfl (qp (AB (decide ((0 : Int) ≤ v1000))) rfl ?_)
 refine r_nil ?_
 refine w_ret ?_
 cases hF
 exact eR

def c38 : MC := (.seq (.reg [rg 1 (.f (.box (.t 0))), rg 2 (.p true (.mv (.c (.bool false))))]) (.seq (.reg [rg 3 (.p true (.fad (.t 1) 0)), rg 4 (.p true (.ld (.t 3) 1 false)), rg 5 (.call true 55 [(.t 4)]), mvt 6 5, ⟨(some 7), (some (6, true)), (.p true (.fad (.t 1) 1))⟩, ⟨(some 8), (some (6, true)), (.p true (.ld (.t 7) 1 false))⟩, ⟨(some 9), (some (6, true)), (.call true 55 [(.t 8)])⟩, rg 10 (.p true (.pick (.t 6) (.t 9) (.c (.bool false)))), mvt 11 10, ⟨(some 12), (some (11, true)), (.p true (.fad (.t 1) 2))⟩, ⟨(some 13), (some (11, true)), (.p true (.ld (.t 12) 1 false))⟩, ⟨(some 14), (some (11, true)), (.p true (.lens (.t 13)))⟩, ⟨(some 15), (some (11, true)), (.p true (.bin .leq (.t 14) (.c (.int .i64 400))))⟩, rg 16 (.p true (.pick (.t 11) (.t 15) (.c (.bool false)))), mvt 17 16, ⟨(some 18), (some (17, true)), (.p true (.fad (.t 1) 2))⟩, ⟨(some 19), (some (17, true)), (.p true (.ld (.t 18) 1 false))⟩, ⟨(some 20), (some (17, true)), (.call true 56 [(.t 19), (.c (.str [10]))])⟩, ⟨(some 21), (some (17, true)), (.p true (.not (.t 20)))⟩, rg 22 (.p true (.pick (.t 17) (.t 21) (.c (.bool false)))), mvt 2 22]) .ret))
theorem c38_is : compFn Tryz.prog 38 = some (c38, [(.tmp 2)]) := by kernel_rfl
theorem c38_ok : okFn Tryz.prog 38 = true := by kernel_rfl

noncomputable def F_impl_ValidBlock (v0 : TBlock) : Option (Bool) :=
 ((F_impl_IsName v0.1).bind fun v1000 => (bif v1000 then ((F_impl_IsName v0.2.1).bind fun v1001 => (bif v1001 then (bif (decide ((v0.2.2.length : Int) ≤ (400 : Int))) then ((F_strings_Contains v0.2.2 [10]).bind fun v1002 => some (!v1002))
 else some false)
 else some false))
 else some false))
@[simp] def res_impl_ValidBlock (r : Bool) : RV := .one (.one (.val (.bool r)))
theorem con_impl_ValidBlock {v0 : TBlock} {r : Bool} (hF : F_impl_ValidBlock v0 = some r) : Con Tryz.prog 38 [eBlock v0] (res_impl_ValidBlock r) := by
 unfold F_impl_ValidBlock at hF
 refine con_of c38_is fun N => ?_
 refine ws 0 128 ?_
 refine qf (.ptr 0 0 0) [(0, .box [AS v0.1, AS v0.2.1, AS v0.2.2])] (by simp) ?_
 refine qp (AB false) rfl ?_
 refine r_nil ?_
 refine ws 128 1472 ?_
 refine qp (.ptr 0 0 0) rfl (qp (AS v0.1) rfl ?_)
 obtain ⟨v1000, e1000, hF⟩ := bind_get hF
 refine qc (AB v1000) [(0, .box [AS v0.1, AS v0.2.1, AS v0.2.2])] false (con_impl_IsName e1000) c55_ok (by first | rfl | simp) rfl ?_
 refine qp (AB v1000) rfl ?_
 refine q_case 6 hF rfl (fun hF => ?_) (fun hF => ?_)
 ·
  refine qg (.ptr 0 0 1) rfl rfl (qg (AS v0.2.1) rfl rfl ?_)
  obtain ⟨v1001, e1001, hF⟩ := bind_get hF
  refine qcg (AB v1001) [(0, .box [AS v0.1, AS v0.2.1, AS v0.2.2])] false rfl (con_impl_IsName e1001) c55_ok (by first | rfl | simp) rfl ?_
  refine qp (AB v1001) rfl (qp (AB v1001) rfl ?_)
  refine q_case 11 hF rfl (fun hF => ?_) (fun hF => ?_)
  ·
   refine qg (.ptr 0 0 2) rfl rfl (qg (AS v0.2.2) rfl rfl (qg (AI (v0.2.2.length : Int)) rfl rfl (qg (AB (decide ((v0.2.2.length : Int) ≤ (400 : Int)))) rfl rfl (qp (AB (decide ((v0.2.2.length : Int) ≤ (400 : Int)))) rfl (qp (AB (decide ((v0.2.2.length : Int) ≤ (400 : Int)))) rfl ?_)))))
   refine q_case 17 hF rfl (fun hF => ?_) (fun hF => ?_)
   ·
    refine qg (.ptr 0 0 2) rfl rfl (qg (AS v0.2.2) rfl rfl ?_)
    obtain ⟨v1002, e1002, hF⟩ := bind_get hF
    refine qcg (AB v1002) [(0, .box [AS v0.1, AS v0.2.1, AS v0.2.2])] false rfl (con_strings_Contains e1002) c56_ok (by first | rfl | simp) rfl ?_
    refine qg (AB (!v1002)) rfl rfl (qp (AB (!v1002)) rfl (qp (AB (!v1002)) rfl ?_))
    refine r_nil ?_
    refine w_ret ?_
    cases hF
    exact eR
   ·
    refine qn rfl (qn rfl (qn rfl (qn rfl (qp (AB false) rfl (qp (AB false) rfl ?_)))))
    refine r_nil ?_
    refine w_ret ?_
    cases hF
    exact eR
  ·
   refine qn rfl (qn rfl (qn rfl (qn rfl (qp (AB false) rfl (qp (AB false) rfl (qn rfl (qn rfl ?_)))))))
   refine qn rfl (qn rfl (qp (AB false) rfl (qp (AB false) rfl ?_)))
   refine r_nil ?_
   refine w_ret ?_
   cases hF
   exact eR
 ·
  refine qn rfl (qn rfl (qn rfl (qp (AB false) rfl (qp (AB false) rfl (qn rfl (qn rfl (qn rfl ?_)))))))
  refine qn rfl (qp (AB false) rfl (qp (AB false) rfl (qn rfl (qn rfl (qn rfl (qn rfl (qp (AB false) rfl ?_)))))))
  refine qp (AB false) rfl ?_
  refine r_nil ?_
  refine w_ret ?_
  cases hF
  exact eR

def c19 : MC := (.seq (.reg [rg 2 (.f (.alloc [((.str []), (0, false)), ((.str []), (0, false)), ((.str []), (0, false))])), rg 3 (.p true (.mv (.c (.int .i64 0))))]) (.seq (.block 0 (.seq (.reg [mvt 12 0, rg 13 (.p true (.lens (.t 12))), rg 14 (.p true (.bin .lss (.t 13) (.c (.int .i64 6)))), mvt 15 14, ⟨(some 16), (some (15, false)), (.p true (.mv (.t 0)))⟩, ⟨(some 17), (some (15, false)), (.p true (.ixs (.t 16) (.c (.int .i64 5))))⟩, ⟨(some 18), (some (15, false)), (.p true (.bin .neq (.t 17) (.c (.int .u8 32))))⟩, rg 19 (.p true (.pick (.t 15) (.c (.bool true)) (.t 18))), mvt 11 19]) (.cond (.t 11) (.seq (.reg [rg 20 (.f (.bld [((.str []), (0, false)), ((.str []), (0, false)), ((.str []), (0, false))] [])), ⟨none, none, (.f (.st (.t 2) (.t 20) 3))⟩, rg 3 (.p true (.mv (.c (.int .i64 9))))]) .ret) (.seq (.reg [rg 22 (.p false (.mv (.t 0))), rg 23 (.p false (.slcs (.t 22) none (some (.c (.int .i64 5))))), rg 24 (.p false (.mv (.t 0))), rg 25 (.p false (.slcs (.t 24) (some (.c (.int .i64 6))) none)), rg 26 (.call false 36 [(.t 25)]), rg 27 (.p false (.bin .neq (.t 23) (.t 26))), rg 21 (.p false (.mv (.t 27)))]) (.cond (.t 21) (.seq (.reg [rg 28 (.f (.bld [((.str []), (0, false)), ((.str []), (0, false)), ((.str []), (0, false))] [])), ⟨none, none, (.f (.st (.t 2) (.t 28) 3))⟩, rg 3 (.p true (.mv (.c (.int .i64 10))))]) .ret) .skip))))) (.seq (.reg [mvt 30 0, rg 31 (.p true (.slcs (.t 30) (some (.c (.int .i64 6))) none)), rg 32 (.call true 37 [(.t 31), (.c (.str [32]))]), mvt 29 32, rg 33 (.p true (.ext (.t 29) 0)), rg 34 (.p true (.ext (.t 29) 1)), rg 35 (.p true (.ext (.t 29) 2)), mvt 4 33, mvt 5 34, mvt 6 35]) (.seq (.reg [mvt 37 5, rg 38 (.call true 37 [(.t 37), (.c (.str [32]))]), mvt 36 38, rg 39 (.p true (.ext (.t 36) 0)), rg 40 (.p true (.ext (.t 36) 1)), rg 41 (.p true (.ext (.t 36) 2)), mvt 7 39, mvt 8 40, mvt 9 41]) (.seq (.reg [mvt 42 4, mvt 43 7, mvt 44 8, rg 45 (.f (.bld [((.str []), (0, true)), ((.str []), (0, true)), ((.str []), (0, true))] [(0, (1, (.t 42))), (1, (1, (.t 43))), (2, (1, (.t 44)))])), rg 10 (.f (.alloc [((.str []), (0, false)), ((.str []), (0, false)), ((.str []), (0, false))])), ⟨none, none, (.f (.st (.t 10) (.t 45) 3))⟩]) (.seq (.seq (.reg [mvt 46 9, rg 47 (.p true (.not (.t 46))), mvt 48 47, ⟨(some 49), (some (48, false)), (.p true (.ld (.t 10) 3 true))⟩, ⟨(some 50), (some (48, false)), (.call true 38 [(.t 49)])⟩, ⟨(some 51), (some (48, false)), (.p true (.not (.t 50)))⟩, rg 52 (.p true (.pick (.t 48) (.c (.bool true)) (.t 51)))]) (.cond (.t 52) (.seq (.reg [rg 53 (.f (.bld [((.str []), (0, false)), ((.str []), (0, false)), ((.str []), (0, false))] [])), ⟨none, none, (.f (.st (.t 2) (.t 53) 3))⟩, rg 3 (.p true (.mv (.c (.int .i64 9))))]) .ret) .skip)) (.seq (.reg [rg 54 (.p true (.ld (.t 10) 3 true)), ⟨none, none, (.f (.st (.t 2) (.t 54) 3))⟩, rg 3 (.p true (.mv (.c (.int .i64 0))))]) .ret)))))))
theorem c19_is : compFn Tryz.prog 19 = some (c19, [(.cell (.ld (.t 2) 3 true)), (.tmp 3)]) := by kernel_rfl
theorem c19_ok : okFn Tryz.prog 19 = true := by kernel_rfl

noncomputable def F_impl_blockOf_j0 (v0 : List UInt8) : Option (TBlock × Int) :=
 (need (0 ≤ (6 : Int) ∧ (6 : Int) ≤ (v0.length : Int) ∧ (v0.length : Int) ≤ (v0.length : Int)) (((F_cut (sub v0 6 (v0.length : Int)) [32]).bind fun v1005 => ((F_cut v1005.2.1 [32]).bind fun v1006 => (bif (!v1006.2.2) then some (([], [], []), 9)
 else ((F_impl_ValidBlock (v1005.1, v1006.1, v1006.2.1)).bind fun v1007 => (bif (!v1007) then some (([], [], []), 9)
 else some ((v1005.1, v1006.1, v1006.2.1), 0))))))))
noncomputable def F_impl_blockOf_j1 (v0 : List UInt8) (v50000 : Bool) : Option (TBlock × Int) :=
 (bif v50000 then some (([], [], []), 9)
 else (need (0 ≤ (0 : Int) ∧ (0 : Int) ≤ (5 : Int) ∧ (5 : Int) ≤ (v0.length : Int)) ((need (0 ≤ (6 : Int) ∧ (6 : Int) ≤ (v0.length : Int) ∧ (v0.length : Int) ≤ (v0.length : Int)) (((F_impl_checkText (sub v0 6 (v0.length : Int))).bind fun v1003 => (bif (decide (sub v0 0 5 ≠ v1003)) then some (([], [], []), 10)
 else F_impl_blockOf_j0 v0)))))))
noncomputable def F_impl_blockOf (v0 : List UInt8) : Option (TBlock × Int) :=
 (bif (decide ((v0.length : Int) < (6 : Int))) then F_impl_blockOf_j1 v0 true
 else ((ix v0 5).bind fun v1000 => F_impl_blockOf_j1 v0 (decide ((v1000.toNat : Int) ≠ (32 : Int)))))
@[simp] def res_impl_blockOf (r : TBlock × Int) : RV := .tup [.one (.val (eBlock r.1)), .one (.val (.int .i64 r.2))]
theorem con_impl_blockOf {v0 : List UInt8} {r : TBlock × Int} (hF : F_impl_blockOf v0 = some r) : Con Tryz.prog 19 [.str v0] (res_impl_blockOf r) := by
 unfold F_impl_blockOf at hF
 refine con_of c19_is fun N => ?_
 refine ws 0 128 ?_
 refine qf (.ptr 0 0 0) [(0, .box [AS [], AS [], AS []])] (by simp) ?_
 refine qp (AI 0) rfl ?_
 refine r_nil ?_
 refine w_meet (fun s' => s' = mkS [(0, AS v0), (2, .ptr 0 0 0)] (fo [(0, .box [AS [], AS [], AS []])]) 1 ∧ F_impl_blockOf_j0 v0 = some r) ?_ ?_
 ·
  refine w_block ?_
  refine w_meet (fun s' => ∃ (v50000 : Bool), s' = mkS [(0, AS v0), (2, .ptr 0 0 0), (11, AB v50000)] (fo [(0, .box [AS [], AS [], AS []])]) 1 ∧ F_impl_blockOf_j1 v0 v50000 = some r) ?_ ?_
  ·
   refine w_reg 128 704 rfl rfl ?_
   refine qp (AS v0) rfl (qp (AI (v0.length : Int)) rfl (qp (AB (decide ((v0.length : Int) < (6 : Int)))) rfl (qp (AB (decide ((v0.length : Int) < (6 : Int)))) rfl ?_)))
   refine q_case 15 hF rfl (fun hF => ?_) (fun hF => ?_)
   ·
    refine qn rfl (qn rfl (qn rfl (qp (AB true) rfl (qp (AB true) rfl ?_))))
    refine r_nil ?_
    refine thenQ_n ?_
    refine aw_ren (l' := [(0, AS v0), (2, .ptr 0 0 0), (11, AB true)]) (L := [(0, .box [AS [], AS [], AS []])]) [0, 2, 11] [(0, 0)] 1 (by first | rfl | simp) (by first | rfl | simp) (by decide) (by decide) (by decide) ⟨_, rfl, hF⟩
   ·
    refine qg (AS v0) rfl rfl ?_
    obtain ⟨v1000, e1000, hF⟩ := bind_get hF
    refine qg (.val none (.int .u8 (v1000.toNat : Int))) rfl (ev_ixs rfl rfl e1000) (qg (AB (decide ((v1000.toNat : Int) ≠ (32 : Int)))) rfl rfl (qp (AB (decide ((v1000.toNat : Int) ≠ (32 : Int)))) rfl (qp (AB (decide ((v1000.toNat : Int) ≠ (32 : Int)))) rfl ?_)))
    refine r_nil ?_
    refine thenQ_n ?_
    refine aw_ren (l' := [(0, AS v0), (2, .ptr 0 0 0), (11, AB (decide ((v1000.toNat : Int) ≠ (32 : Int))))]) (L := [(0, .box [AS [], AS [], AS []])]) [0, 2, 11] [(0, 0)] 1 (by first | rfl | simp) (by first | rfl | simp) (by decide) (by decide) (by decide) ⟨_, rfl, hF⟩
  ·
   rintro s' ⟨v50000, rfl, hF⟩
   unfold F_impl_blockOf_j1 at hF
   refine cF hF (fun hF => ?_) fun hF => ?_
   ·
    refine ws 1 193 ?_
    refine qf (.agg [AS [], AS [], AS []]) [(0, .box [AS [], AS [], AS []])] (by simp) ?_
    refine qf0 (.undef) [(0, .box [AS [], AS [], AS []]), (0, .box [AS [], AS [], AS []])] (by simp) ?_
    refine qp (AI 9) rfl ?_
    refine r_nil ?_
    refine w_ret ?_
    refine blockQ_r ?_
    refine thenQ_r ?_
    cases hF
    exact eR
   ·
    refine ws 1 449 ?_
    refine qp (AS v0) rfl ?_
    obtain ⟨g1001, hF⟩ := need_some hF
    refine qp (AS (sub v0 0 5)) (ev_slcs rfl rfl rfl g1001) (qp (AS v0) rfl ?_)
    obtain ⟨g1002, hF⟩ := need_some hF
    refine qp (AS (sub v0 6 (v0.length : Int))) (ev_slcs rfl rfl rfl g1002) ?_
    obtain ⟨v1003, e1003, hF⟩ := bind_get hF
    refine qc (AS v1003) [(0, .box [AS [], AS [], AS []])] false (con_impl_checkText e1003) c36_ok (by first | rfl | simp) rfl ?_
    refine qp (AB (decide (sub v0 0 5 ≠ v1003))) rfl (qp (AB (decide (sub v0 0 5 ≠ v1003))) rfl ?_)
    refine r_nil ?_
    refine cF hF (fun hF => ?_) fun hF => ?_
    ·
     refine ws 449 641 ?_
     refine qf (.agg [AS [], AS [], AS []]) [(0, .box [AS [], AS [], AS []])] (by simp) ?_
     refine qf0 (.undef) [(0, .box [AS [], AS [], AS []]), (0, .box [AS [], AS [], AS []])] (by simp) ?_
     refine qp (AI 10) rfl ?_
     refine r_nil ?_
     refine w_ret ?_
     refine blockQ_r ?_
     refine thenQ_r ?_
     cases hF
     exact eR
    ·
     refine w_skip ?_
     refine blockQ_n ?_
     refine thenQ_n ?_
     refine aw_ren (l' := [(0, AS v0), (2, .ptr 0 0 0)]) (L := [(0, .box [AS [], AS [], AS []])]) [0, 2] [(0, 0)] 1 (by first | rfl | simp) (by first | rfl | simp) (by decide) (by decide) (by decide) ⟨rfl, hF⟩
 ·
  rintro s' ⟨rfl, hF⟩
  unfold F_impl_blockOf_j0 at hF
  refine ws 1 641 ?_
  refine qp (AS v0) rfl ?_
  obtain ⟨g1004, hF⟩ := need_some hF
  refine qp (AS (sub v0 6 (v0.length : Int))) (ev_slcs rfl rfl rfl g1004) ?_
  obtain ⟨v1005, e1005, hF⟩ := bind_get hF
  refine qc (.tup [AS v1005.1, AS v1005.2.1, AB v1005.2.2]) [(0, .box [AS [], AS [], AS []])] false (con_cut e1005) c37_ok (by first | rfl | simp) rfl ?_
  refine qp (.tup [AS v1005.1, AS v1005.2.1, AB v1005.2.2]) rfl (qp (AS v1005.1) rfl (qp (AS v1005.2.1) rfl (qp (AB v1005.2.2) rfl (qp (AS v1005.1) rfl (qp (AS v1005.2.1) rfl (qp (AB v1005.2.2) rfl ?_))))))
  refine r_nil ?_
  refine ws 641 1217 ?_
  refine qp (AS v1005.2.1) rfl ?_
  obtain ⟨v1006, e1006, hF⟩ := bind_get hF
  refine qc (.tup [AS v1006.1, AS v1006.2.1, AB v1006.2.2]) [(0, .box [AS [], AS [], AS []])] false (con_cut e1006) c37_ok (by first | rfl | simp) rfl ?_
  refine qp (.tup [AS v1006.1, AS v1006.2.1, AB v1006.2.2]) rfl (qp (AS v1006.1) rfl (qp (AS v1006.2.1) rfl (qp (AB v1006.2.2) rfl (qp (AS v1006.1) rfl (qp (AS v1006.2.1) rfl (qp (AB v1006.2.2) rfl ?_))))))
  refine r_nil ?_
  refine ws 1217 1601 ?_
  refine qp (AS v1005.1) rfl (qp (AS v1006.1) rfl (qp (AS v1006.2.1) rfl ?_))
  refine qf (.agg [AS v1005.1, AS v1006.1, AS v1006.2.1]) [(0, .box [AS [], AS [], AS []])] (by simp) ?_
  refine qf (.ptr 1473 0 0) [(1473, .box [AS [], AS [], AS []]), (0, .box [AS [], AS [], AS []])] (by simp) ?_
  refine qf0 (.undef) [(1473, .box [AS v1005.1, AS v1006.1, AS v1006.2.1]), (1473, .box [AS [], AS [], AS []]), (0, .box [AS [], AS [], AS []])] (by simp) ?_
  refine r_nil ?_
  refine w_seq ?_
  refine ws 1601 2049 ?_
  refine qp (AB v1006.2.2) rfl (qp (AB (!v1006.2.2)) rfl (qp (AB (!v1006.2.2)) rfl ?_))
  refine q_case 48 hF rfl (fun hF => ?_) (fun hF => ?_)
  ·
   refine qn rfl (qn rfl (qn rfl (qp (AB true) rfl ?_)))
   refine r_nil ?_
   refine w_true rfl ?_
   refine ws 2049 2241 ?_
   refine qf (.agg [AS [], AS [], AS []]) [(1473, .box [AS v1005.1, AS v1006.1, AS v1006.2.1]), (1473, .box [AS [], AS [], AS []]), (0, .box [AS [], AS [], AS []])] (by simp) ?_
   refine qf0 (.undef) [(0, .box [AS [], AS [], AS []]), (1473, .box [AS v1005.1, AS v1006.1, AS v1006.2.1]), (1473, .box [AS [], AS [], AS []]), (0, .box [AS [], AS [], AS []])] (by simp) ?_
   refine qp (AI 9) rfl ?_
   refine r_nil ?_
   refine w_ret ?_
   refine thenQ_r ?_
   cases hF
   exact eR
  ·
   refine qg (.agg [AS v1005.1, AS v1006.1, AS v1006.2.1]) rfl rfl ?_
   obtain ⟨v1007, e1007, hF⟩ := bind_get hF
   refine qcg (AB v1007) [(1473, .box [AS v1005.1, AS v1006.1, AS v1006.2.1]), (1473, .box [AS [], AS [], AS []]), (0, .box [AS [], AS [], AS []])] false rfl (con_impl_ValidBlock e1007) c38_ok (by first | rfl | simp) rfl ?_
   refine qg (AB (!v1007)) rfl rfl (qp (AB (!v1007)) rfl ?_)
   refine r_nil ?_
   refine cF hF (fun hF => ?_) fun hF => ?_
   ·
    refine ws 2049 2241 ?_
    refine qf (.agg [AS [], AS [], AS []]) [(1473, .box [AS v1005.1, AS v1006.1, AS v1006.2.1]), (1473, .box [AS [], AS [], AS []]), (0, .box [AS [], AS [], AS []])] (by simp) ?_
    refine qf0 (.undef) [(0, .box [AS [], AS [], AS []]), (1473, .box [AS v1005.1, AS v1006.1, AS v1006.2.1]), (1473, .box [AS [], AS [], AS []]), (0, .box [AS [], AS [], AS []])] (by simp) ?_
    refine qp (AI 9) rfl ?_
    refine r_nil ?_
    refine w_ret ?_
    refine thenQ_r ?_
    cases hF
    exact eR
   ·
    refine w_skip ?_
    refine thenQ_n ?_
    refine ws 2049 2241 ?_
    refine qp (.agg [AS v1005.1, AS v1006.1, AS v1006.2.1]) rfl ?_
    refine qf0 (.undef) [(0, .box [AS v1005.1, AS v1006.1, AS v1006.2.1]), (1473, .box [AS v1005.1, AS v1006.1, AS v1006.2.1]), (1473, .box [AS [], AS [], AS []]), (0, .box [AS [], AS [], AS []])] (by simp) ?_
    refine qp (AI 0) rfl ?_
    refine r_nil ?_
    refine w_ret ?_
    cases hF
    exact eR

def c57 : MC := (.seq (.reg [rg 2 (.p true (.mv (.c (.bool false))))]) (.seq (.reg [mvt 3 0, mvt 4 0, rg 5 (.p true (.bin .neq (.t 3) (.t 4))), mvt 2 5]) .ret))
theorem c57_is : compFn Tryz.prog 57 = some (c57, [(.tmp 2)]) := by kernel_rfl
theorem c57_ok : okFn Tryz.prog 57 = true := by kernel_rfl

noncomputable def F_cmp_isNaN_string (v0 : List UInt8) : Option (Bool) :=
 some (decide (v0 ≠ v0))
@[simp] def res_cmp_isNaN_string (r : Bool) : RV := .one (.one (.val (.bool r)))
theorem con_cmp_isNaN_string {v0 : List UInt8} {r : Bool} (hF : F_cmp_isNaN_string v0 = some r) : Con Tryz.prog 57 [.str v0] (res_cmp_isNaN_string r) := by
 unfold F_cmp_isNaN_string at hF
 refine con_of c57_is fun N => ?_
 refine ws 0 64 ?_
 refine qp (AB false) rfl ?_
 refine r_nil ?_
 refine ws 64 320 ?_
 refine qp (AS v0) rfl (qp (AS v0) rfl (qp (AB (decide (v0 ≠ v0))) rfl (qp (AB (decide (v0 ≠ v0))) rfl ?_)))
 refine r_nil ?_
 refine w_ret ?_
 cases hF
 exact eR

end Go.Ab
