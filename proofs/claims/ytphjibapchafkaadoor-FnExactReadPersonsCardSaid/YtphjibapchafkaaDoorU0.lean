/- Walks (printed by auto.py, a program of this session's own). -/
import Derived.Test.YtphjibapchafkaaDoorS0
import Derived.Test.YtphjibapchafkaaDoorProg
import Derived.KernelRfl
import Derived.Test.YtphjibapchafkaaDoorSQ
set_option linter.unusedVariables false
set_option linter.unusedSimpArgs false
set_option maxRecDepth 8000
set_option maxHeartbeats 8000000
namespace Go.Ab
open Go.RowKit Go.Proofs

abbrev TPerson := (List UInt8) × Int × (List (List UInt8))
@[simp] def ePerson (p : TPerson) : V := .agg [.str p.1, .int .i64 p.2.1, .sl 1 (p.2.2.map V.str)]
def c19 : MC := (.seq (.reg [rg 4 (.f (.nilrow 1))]) (.seq (.reg [rg 8 (.f (.bsl 1 [])), mvt 5 8]) (.seq (.reg [pT 6 (.mv (ci 0))]) (.seq (.seq (.reg [pT 7 (.mv (ci 0))]) (.block 0 (.loop (.seq (.seq (.reg [mvt 9 7, mvt 10 0, pT 11 (.lens t10), pT 12 (.bin .lss t9 t11)]) (.cond t12 .skip (.exit 0))) (.seq (.block 1 (.seq (.reg [mvt 15 0, mvt 16 7, pT 17 (.ixs t15 t16), mvt 18 1, pT 19 (.bin .eql t17 t18)]) (.cond t19 (.seq (.reg [mvt 20 5, mvt 21 0, mvt 22 6, mvt 23 7, pT 24 (.slcs t21 (some t22) (some t23)), rg 25 (.f (.bsl 1 [t24])), rg 26 (.f (.app t20 t25 1 16 true)), mvt 5 26]) (.reg [mvt 27 7, pT 28 (.bin .add t27 (ci 1)), mvt 6 28])) .skip))) (.reg [mvt 13 7, pT 14 (.bin .add t13 (ci 1)), mvt 7 14])))))) (.seq (.reg [mvt 29 5, mvt 30 0, mvt 31 6, pT 32 (.slcs t30 (some t31) none), rg 33 (.f (.bsl 1 [t32])), rg 34 (.f (.app t29 t33 1 16 true)), mvt 4 34]) .ret)))))
theorem c19_is : compFn Tryd.prog 19 = some (c19, [(.tmp 4)]) := by kernel_rfl
theorem c19_ok : okFn Tryd.prog 19 = true := by kernel_rfl

noncomputable def F_spec_l01Split_l0 (v0 : List UInt8) (v1 : Int) (k0 : Int × Int × (List (List UInt8)) → Option (List (List UInt8))) : Int × Int × (List (List UInt8)) → Option (List (List UInt8))
 | (v50003, v50004, v50005) => (bif (decide (v50004 < (v0.length : Int))) then ((ix v0 v50004).bind fun v1000 => (bif (decide ((v1000.toNat : Int) = v1)) then (need (0 ≤ v50003 ∧ v50003 ≤ v50004 ∧ v50004 ≤ (v0.length : Int)) ((need (room (v50005.length + [sub v0 v50003 v50004].length) 16) (k0 (w64 (v50004 + 1), w64 (v50004 + 1), v50005 ++ [sub v0 v50003 v50004])))))
 else k0 (v50003, w64 (v50004 + 1), v50005)))
 else (need (0 ≤ v50003 ∧ v50003 ≤ (v0.length : Int) ∧ (v0.length : Int) ≤ (v0.length : Int)) ((need (room (v50005.length + [sub v0 v50003 (v0.length : Int)].length) 16) (some (v50005 ++ [sub v0 v50003 (v0.length : Int)]))))))
noncomputable def F_spec_l01Split (v0 : List UInt8) (v1 : Int) : Option (List (List UInt8)) :=
 loop (F_spec_l01Split_l0 v0 v1) (0, 0, [])
@[simp] abbrev K1 : List (Nat × Root) := [(0, .row true 1 (([] : List Int).map vI))]
@[simp] abbrev K2 (v0 : List UInt8) (v50003 : Int) (v50004 : Int) (v50005 : List (List UInt8)) : List (Nat × Root) := [(897, .row true 1 ([sub v0 v50003 v50004].map V.str)), (0, .row true 1 (v50005.map V.str))]
@[simp] abbrev K3 (v0 : List UInt8) (v50003 : Int) (v50005 : List (List UInt8)) : List (Nat × Root) := [(513, .row true 1 ([sub v0 v50003 (v0.length : Int)].map V.str)), (0, .row true 1 (v50005.map V.str))]
@[simp] def res_spec_l01Split (r : List (List UInt8)) : RV := .one (.one (.row true 1 (r.map V.str)))
theorem con_spec_l01Split {v0 : List UInt8} {v1 : Int} {r : List (List UInt8)} (hF : F_spec_l01Split v0 v1 = some r) : Con Tryd.prog 19 [.str v0, .int .u8 v1] (res_spec_l01Split r) := by
 unfold F_spec_l01Split at hF
 refine con_of c19_is fun N => ?_
 refine ws 0 64 ?_
 refine qf (.sl 0 0 0) K1 (by simp) ?_
 refine r_nil ?_
 refine ws 64 192 ?_
 refine qf (.sl 64 0 0) ((64, .row true 1 (([] : List (List UInt8)).map V.str)) :: K1) (by simp [List.take_of_length_le]) ?_
 refine qp (.sl 64 0 0) rfl ?_
 refine r_nil ?_
 refine ws 192 256 ?_
 refine qp (AI 0) rfl ?_
 refine r_nil ?_
 refine w_seq ?_
 refine ws 256 320 ?_
 refine qp (AI 0) rfl ?_
 refine r_nil ?_
 refine w_block ?_
 refine wr (l' := [(0, AS v0), (1, .val none (.int .u8 v1)), (5, .sl 0 0 0), (6, AI 0), (7, AI 0)]) (L := [(0, .row true 1 (([] : List (List UInt8)).map V.str))]) [0, 1, 5, 6, 7] [(64, 0)] 1 ?_
 refine w_loopF (F_spec_l01Split_l0 v0 v1) (fun s : Int × Int × (List (List UInt8)) => mkS [(0, AS v0), (1, .val none (.int .u8 v1)), (5, .sl 0 0 s.2.2.length), (6, AI s.1), (7, AI s.2.1)] (fo [(0, .row true 1 (s.2.2.map V.str))]) 1) hF ?_
 rintro k0 ⟨v50003, v50004, v50005⟩ hF
 rw [F_spec_l01Split_l0] at hF
 try dsimp only
 refine w_seq ?_
 refine ws 1 257 ?_
 refine qp (AI v50004) rfl (qp (AS v0) rfl (qp (AI (v0.length : Int)) rfl (qp (AB (decide (v50004 < (v0.length : Int)))) rfl ?_)))
 refine r_nil ?_
 refine cF hF (fun hF => ?_) fun hF => ?_
 ·
  refine w_skip ?_
  refine thenQ_n ?_
  refine w_seq ?_
  refine w_block ?_
  refine ws 257 577 ?_
  refine qp (AS v0) rfl (qp (AI v50004) rfl ?_)
  obtain ⟨v1000, e1000, hF⟩ := bind_get hF
  refine qp (.val none (.int .u8 (v1000.toNat : Int))) (ev_ixs rfl rfl e1000) (qp (.val none (.int .u8 v1)) rfl (qp (AB (decide ((v1000.toNat : Int) = v1))) rfl ?_))
  refine r_nil ?_
  refine cF hF (fun hF => ?_) fun hF => ?_
  ·
   refine ws 577 1089 ?_
   refine qp (.sl 0 0 v50005.length) rfl (qp (AS v0) rfl (qp (AI v50003) rfl (qp (AI v50004) rfl ?_)))
   obtain ⟨g1001, hF⟩ := need_some hF
   refine qp (AS (sub v0 v50003 v50004)) (ev_slcs rfl (bnd_some rfl g1001.1) (bnd_some rfl (Int.le_trans g1001.1 g1001.2.1)) g1001) ?_
   refine qf (.sl 897 0 ([sub v0 v50003 v50004].length)) (K2 v0 v50003 v50004 v50005) (by simp [List.take_of_length_le]) ?_
   obtain ⟨g1002, hF⟩ := need_some hF
   refine qf (.sl 961 0 ((v50005 ++ [sub v0 v50003 v50004]).length)) ((961, .row true 1 ((v50005 ++ [sub v0 v50003 v50004]).map V.str)) :: (0, .dead) :: (897, .dead) :: (K2 v0 v50003 v50004 v50005)) (effT_app_l rfl (by simp) rfl rfl (by simp) rfl (by decide) g1002 rfl) ?_
   refine qp (.sl 961 0 ((v50005 ++ [sub v0 v50003 v50004]).length)) rfl ?_
   refine r_nil ?_
   refine w_reg 1089 1281 rfl rfl ?_
   refine qp (AI v50004) rfl (qp (AI (w64 (v50004 + 1))) rfl (qp (AI (w64 (v50004 + 1))) rfl ?_))
   refine r_nil ?_
   refine blockQ_n ?_
   refine thenQ_n ?_
   refine w_reg 1281 1473 rfl rfl ?_
   refine qp (AI v50004) rfl (qp (AI (w64 (v50004 + 1))) rfl (qp (AI (w64 (v50004 + 1))) rfl ?_))
   refine r_nil ?_
   refine thenQ_n ?_
   refine ar (l' := [(0, AS v0), (1, .val none (.int .u8 v1)), (5, .sl 0 0 (v50005 ++ [sub v0 v50003 v50004]).length), (6, AI (w64 (v50004 + 1))), (7, AI (w64 (v50004 + 1)))]) (L := [(0, .row true 1 ((v50005 ++ [sub v0 v50003 v50004]).map V.str))]) [0, 1, 5, 6, 7] [(961, 0)] 1 ⟨_, by rfl, hF⟩
  ·
   refine w_skip ?_
   refine blockQ_n ?_
   refine thenQ_n ?_
   refine w_reg 577 769 rfl rfl ?_
   refine qp (AI v50004) rfl (qp (AI (w64 (v50004 + 1))) rfl (qp (AI (w64 (v50004 + 1))) rfl ?_))
   refine r_nil ?_
   refine thenQ_n ?_
   refine ar (l' := [(0, AS v0), (1, .val none (.int .u8 v1)), (5, .sl 0 0 v50005.length), (6, AI v50003), (7, AI (w64 (v50004 + 1)))]) (L := [(0, .row true 1 (v50005.map V.str))]) [0, 1, 5, 6, 7] [(0, 0)] 1 ⟨_, by rfl, hF⟩
 ·
  refine w_exit ?_
  refine thenQ_e ?_
  refine thenQ_e ?_
  refine blockQ_e ?_
  refine thenQ_n ?_
  refine ws 257 705 ?_
  refine qp (.sl 0 0 v50005.length) rfl (qp (AS v0) rfl (qp (AI v50003) rfl ?_))
  obtain ⟨g1003, hF⟩ := need_some hF
  refine qp (AS (sub v0 v50003 (v0.length : Int))) (ev_slcs rfl (bnd_some rfl g1003.1) rfl g1003) ?_
  refine qf (.sl 513 0 ([sub v0 v50003 (v0.length : Int)].length)) (K3 v0 v50003 v50005) (by simp [List.take_of_length_le]) ?_
  obtain ⟨g1004, hF⟩ := need_some hF
  refine qf (.sl 577 0 ((v50005 ++ [sub v0 v50003 (v0.length : Int)]).length)) ((577, .row true 1 ((v50005 ++ [sub v0 v50003 (v0.length : Int)]).map V.str)) :: (0, .dead) :: (513, .dead) :: (K3 v0 v50003 v50005)) (effT_app_l rfl (by simp) rfl rfl (by simp) rfl (by decide) g1004 rfl) ?_
  refine qp (.sl 577 0 ((v50005 ++ [sub v0 v50003 (v0.length : Int)]).length)) rfl ?_
  exact rR hF

def c29 : MC := (.seq (.reg [pT 2 (.mv cf)]) (.seq (.reg [mvt 3 0, pT 4 (.bin .geq t3 (.c (.int .u8 48))), mvt 5 4, nT 6 5 t0, kT 7 5 (.bin .leq t6 (.c (.int .u8 57))), pT 8 (.pick t5 t7 cf), mvt 2 8]) .ret))
theorem c29_is : compFn Tryd.prog 29 = some (c29, [(.tmp 2)]) := by kernel_rfl
theorem c29_ok : okFn Tryd.prog 29 = true := by kernel_rfl

noncomputable def F_spec_l01Digit (v0 : Int) : Option (Bool) :=
 (bif (decide ((48 : Int) ≤ v0)) then some (decide (v0 ≤ (57 : Int)))
 else some false)
@[simp] def res_spec_l01Digit (r : Bool) : RV := .one (.one (.val (.bool r)))
theorem con_spec_l01Digit {v0 : Int} {r : Bool} (hF : F_spec_l01Digit v0 = some r) : Con Tryd.prog 29 [.int .u8 v0] (res_spec_l01Digit r) := by
 unfold F_spec_l01Digit at hF
 refine con_of c29_is fun N => ?_
 refine ws 0 64 ?_
 refine qp (AB false) rfl ?_
 refine r_nil ?_
 refine ws 64 512 ?_
 refine qp (.val none (.int .u8 v0)) rfl (qp (AB (decide ((48 : Int) ≤ v0))) rfl (qp (AB (decide ((48 : Int) ≤ v0))) rfl ?_))
 refine q_case 5 hF rfl (fun hF => ?_) (fun hF => ?_)
 ·
  refine qg (.val none (.int .u8 v0)) rfl rfl (qg (AB (decide (v0 ≤ (57 : Int)))) rfl rfl (qp (AB (decide (v0 ≤ (57 : Int)))) rfl (qp (AB (decide (v0 ≤ (57 : Int)))) rfl ?_)))
  exact rR hF
 ·
  refine qn2 (qp (AB false) rfl (qp (AB false) rfl ?_))
  exact rR hF

def c20 : MC := (.seq (.reg [pT 2 (.mv (ci 0)), pT 3 (.mv cf)]) (.seq (.reg [pT 4 (.mv (ci 0))]) (.seq (.seq (.reg [mvt 7 0, pT 8 (.lens t7), pT 9 (.bin .gtr t8 (ci 0)), mvt 10 9, nT 11 10 t0, kT 12 10 (.ixs t11 (ci 0)), kT 13 10 (.bin .eql t12 (.c (.int .u8 45))), pT 14 (.pick t10 t13 cf)]) (.cond t14 (.reg [pT 4 (.mv (ci 1))]) .skip)) (.seq (.seq (.reg [mvt 15 0, pT 16 (.lens t15), mvt 17 4, pT 18 (.bin .eql t16 t17), mvt 19 18, nF 20 19 t0, kF 21 19 (.lens t20), nF 22 19 t4, kF 23 19 (.bin .sub t21 t22), kF 24 19 (.bin .gtr t23 (ci 18)), pT 25 (.pick t19 ct t24), mvt 26 25, nF 27 26 t0, nF 28 26 t4, kF 29 26 (.ixs t27 t28), kF 30 26 (.bin .eql t29 (.c (.int .u8 48))), nF 31 26 t30, nT 32 31 t0, kT 33 31 (.lens t32), kT 34 31 (.bin .gtr t33 (ci 1)), kF 35 26 (.pick t31 t34 cf), pT 36 (.pick t26 ct t35)]) (.cond t36 (.seq (.reg [pT 2 (.mv (ci 0)), pT 3 (.mv cf)]) .ret) .skip)) (.seq (.reg [pT 5 (.mv (ci 0))]) (.seq (.seq (.reg [mvt 37 4, mvt 6 37]) (.block 0 (.loop (.seq (.seq (.reg [mvt 38 6, mvt 39 0, pT 40 (.lens t39), pT 41 (.bin .lss t38 t40)]) (.cond t41 .skip (.exit 0))) (.seq (.block 1 (.seq (.seq (.reg [mvt 44 0, mvt 45 6, pT 46 (.ixs t44 t45), rg 47 (.call true 29 [t46]), pT 48 (.not t47)]) (.cond t48 (.seq (.reg [pT 2 (.mv (ci 0)), pT 3 (.mv cf)]) .ret) .skip)) (.reg [mvt 49 5, pT 50 (.bin .mul (ci 10) t49), mvt 51 0, mvt 52 6, pT 53 (.ixs t51 t52), pT 54 (.bin .sub t53 (.c (.int .u8 48))), pT 55 (.conv .i64 t54), pT 56 (.bin .add t50 t55), mvt 5 56]))) (.reg [mvt 42 6, pT 43 (.bin .add t42 (ci 1)), mvt 6 43])))))) (.seq (.seq (.reg [mvt 57 4, pT 58 (.bin .eql t57 (ci 1))]) (.cond t58 (.reg [mvt 59 5, pT 60 (.neg t59), mvt 5 60]) .skip)) (.seq (.reg [mvt 61 5, mvt 2 61, pT 3 (.mv ct)]) .ret))))))))
theorem c20_is : compFn Tryd.prog 20 = some (c20, [(.tmp 2), (.tmp 3)]) := by kernel_rfl
theorem c20_ok : okFn Tryd.prog 20 = true := by kernel_rfl

noncomputable def F_spec_l01Number_l2 (v0 : List UInt8) (v50000 : Int) (k0 : Int × Int → Option (Int × Bool)) : Int × Int → Option (Int × Bool)
 | (v50003, v50004) => (bif (decide (v50004 < (v0.length : Int))) then ((ix v0 v50004).bind fun v1002 => ((F_spec_l01Digit (v1002.toNat : Int)).bind fun v1003 => (bif (!v1003) then some (0, false)
 else ((ix v0 v50004).bind fun v1004 => k0 (w64 ((w64 (10 * v50003)) + (w64 (IntKind.wrap .u8 ((v1004.toNat : Int) - 48)))), w64 (v50004 + 1))))))
 else (bif (decide (v50000 = (1 : Int))) then some (w64 (0 - v50003), true)
 else some (v50003, true)))
noncomputable def F_spec_l01Number_j1 (v0 : List UInt8) (v50000 : Int) : Option (Int × Bool) :=
 loop (F_spec_l01Number_l2 v0 v50000) (0, v50000)
noncomputable def F_spec_l01Number_j0 (v0 : List UInt8) (v50000 : Int) : Option (Int × Bool) :=
 (bif (decide ((v0.length : Int) = v50000)) then some (0, false)
 else (bif (decide ((18 : Int) < w64 ((v0.length : Int) - v50000))) then some (0, false)
 else ((ix v0 v50000).bind fun v1001 => (bif (decide ((v1001.toNat : Int) = (48 : Int))) then (bif (decide ((1 : Int) < (v0.length : Int))) then some (0, false)
 else F_spec_l01Number_j1 v0 v50000)
 else F_spec_l01Number_j1 v0 v50000))))
noncomputable def F_spec_l01Number (v0 : List UInt8) : Option (Int × Bool) :=
 (bif (decide ((0 : Int) < (v0.length : Int))) then ((ix v0 0).bind fun v1000 => (bif (decide ((v1000.toNat : Int) = (45 : Int))) then F_spec_l01Number_j0 v0 1
 else F_spec_l01Number_j0 v0 0))
 else F_spec_l01Number_j0 v0 0)
@[simp] def res_spec_l01Number (r : Int × Bool) : RV := .tup [.one (.val (.int .i64 r.1)), .one (.val (.bool r.2))]
theorem con_spec_l01Number {v0 : List UInt8} {r : Int × Bool} (hF : F_spec_l01Number v0 = some r) : Con Tryd.prog 20 [.str v0] (res_spec_l01Number r) := by
 unfold F_spec_l01Number at hF
 refine con_of c20_is fun N => ?_
 refine ws 0 128 ?_
 refine qp (AI 0) rfl (qp (AB false) rfl ?_)
 refine r_nil ?_
 refine ws 128 192 ?_
 refine qp (AI 0) rfl ?_
 refine r_nil ?_
 refine w_meet (fun s' => ∃ (v50000 : Int), s' = mkS [(0, AS v0), (4, AI v50000)] (fo []) 1 ∧ F_spec_l01Number_j0 v0 v50000 = some r) ?_ ?_
 ·
  refine ws 192 704 ?_
  refine qp (AS v0) rfl (qp (AI (v0.length : Int)) rfl (qp (AB (decide ((0 : Int) < (v0.length : Int)))) rfl (qp (AB (decide ((0 : Int) < (v0.length : Int)))) rfl ?_)))
  refine q_case 10 hF rfl (fun hF => ?_) (fun hF => ?_)
  ·
   refine qg (AS v0) rfl rfl ?_
   obtain ⟨v1000, e1000, hF⟩ := bind_get hF
   refine qg (.val none (.int .u8 (v1000.toNat : Int))) rfl (ev_ixs rfl rfl e1000) (qg (AB (decide ((v1000.toNat : Int) = (45 : Int)))) rfl rfl (qp (AB (decide ((v1000.toNat : Int) = (45 : Int)))) rfl ?_))
   refine r_nil ?_
   refine cF hF (fun hF => ?_) fun hF => ?_
   ·
    refine w_reg 704 768 rfl rfl ?_
    refine qp (AI 1) rfl ?_
    refine r_nil ?_
    refine thenQ_n ?_
    refine aw_ren (l' := [(0, AS v0), (4, AI 1)]) (L := []) [0, 4] [] 1 (by first | rfl | simp) (by first | rfl | simp) (by decide) (by decide) (by decide) ⟨_, rfl, hF⟩
   ·
    refine w_skip ?_
    refine thenQ_n ?_
    refine aw_ren (l' := [(0, AS v0), (4, AI 0)]) (L := []) [0, 4] [] 1 (by first | rfl | simp) (by first | rfl | simp) (by decide) (by decide) (by decide) ⟨_, rfl, hF⟩
  ·
   refine qn3 (qp (AB false) rfl ?_)
   refine r_nil ?_
   refine w_false rfl ?_
   refine w_skip ?_
   refine thenQ_n ?_
   refine aw_ren (l' := [(0, AS v0), (4, AI 0)]) (L := []) [0, 4] [] 1 (by first | rfl | simp) (by first | rfl | simp) (by decide) (by decide) (by decide) ⟨_, rfl, hF⟩
 ·
  rintro s' ⟨v50000, rfl, hF⟩
  unfold F_spec_l01Number_j0 at hF
  refine w_meet (fun s' => s' = mkS [(0, AS v0), (4, AI v50000)] (fo []) 1 ∧ F_spec_l01Number_j1 v0 v50000 = some r) ?_ ?_
  ·
   refine ws 1 1409 ?_
   refine qp (AS v0) rfl (qp (AI (v0.length : Int)) rfl (qp (AI v50000) rfl (qp (AB (decide ((v0.length : Int) = v50000))) rfl (qp (AB (decide ((v0.length : Int) = v50000))) rfl ?_))))
   refine q_case 19 hF rfl (fun hF => ?_) (fun hF => ?_)
   ·
    refine qn5 (qp (AB true) rfl (qp (AB true) rfl (qn rfl ?_)))
    refine qn4 (qu rfl (qu rfl (qu rfl (qn rfl ?_))))
    refine qp (AB true) rfl ?_
    refine r_nil ?_
    refine w_true rfl ?_
    refine ws 1409 1537 ?_
    refine qp (AI 0) rfl (qp (AB false) rfl ?_)
    refine r_nil ?_
    refine w_ret ?_
    refine thenQ_r ?_
    cases hF
    exact eR
   ·
    refine qg (AS v0) rfl rfl (qg (AI (v0.length : Int)) rfl rfl (qg (AI v50000) rfl rfl (qg (AI (w64 ((v0.length : Int) - v50000))) rfl rfl (qg (AB (decide ((18 : Int) < w64 ((v0.length : Int) - v50000)))) rfl rfl (qp (AB (decide ((18 : Int) < w64 ((v0.length : Int) - v50000)))) rfl (qp (AB (decide ((18 : Int) < w64 ((v0.length : Int) - v50000)))) rfl ?_))))))
    refine q_case 26 hF rfl (fun hF => ?_) (fun hF => ?_)
    ·
     refine qn5 (qu rfl (qu rfl (qu rfl ?_)))
     refine qn rfl (qp (AB true) rfl ?_)
     refine r_nil ?_
     refine w_true rfl ?_
     refine ws 1409 1537 ?_
     refine qp (AI 0) rfl (qp (AB false) rfl ?_)
     refine r_nil ?_
     refine w_ret ?_
     refine thenQ_r ?_
     cases hF
     exact eR
    ·
     refine qg (AS v0) rfl rfl (qg (AI v50000) rfl rfl ?_)
     obtain ⟨v1001, e1001, hF⟩ := bind_get hF
     refine qg (.val none (.int .u8 (v1001.toNat : Int))) rfl (ev_ixs rfl rfl e1001) (qg (AB (decide ((v1001.toNat : Int) = (48 : Int)))) rfl rfl (qg (AB (decide ((v1001.toNat : Int) = (48 : Int)))) rfl rfl ?_))
     refine q_case 31 hF rfl (fun hF => ?_) (fun hF => ?_)
     ·
      refine qg (AS v0) rfl rfl (qg (AI (v0.length : Int)) rfl rfl (qg (AB (decide ((1 : Int) < (v0.length : Int)))) rfl rfl (qg (AB (decide ((1 : Int) < (v0.length : Int)))) rfl rfl (qp (AB (decide ((1 : Int) < (v0.length : Int)))) rfl ?_))))
      refine r_nil ?_
      refine cF hF (fun hF => ?_) fun hF => ?_
      ·
       refine ws 1409 1537 ?_
       refine qp (AI 0) rfl (qp (AB false) rfl ?_)
       refine r_nil ?_
       refine w_ret ?_
       refine thenQ_r ?_
       cases hF
       exact eR
      ·
       refine w_skip ?_
       refine thenQ_n ?_
       refine aw_ren (l' := [(0, AS v0), (4, AI v50000)]) (L := []) [0, 4] [] 1 (by first | rfl | simp) (by first | rfl | simp) (by decide) (by decide) (by decide) ⟨rfl, hF⟩
     ·
      refine qn3 (qg (AB false) rfl rfl (qp (AB false) rfl ?_))
      refine r_nil ?_
      refine w_false rfl ?_
      refine w_skip ?_
      refine thenQ_n ?_
      refine aw_ren (l' := [(0, AS v0), (4, AI v50000)]) (L := []) [0, 4] [] 1 (by first | rfl | simp) (by first | rfl | simp) (by decide) (by decide) (by decide) ⟨rfl, hF⟩
  ·
   rintro s' ⟨rfl, hF⟩
   unfold F_spec_l01Number_j1 at hF
   refine ws 1 65 ?_
   refine qp (AI 0) rfl ?_
   refine r_nil ?_
   refine w_seq ?_
   refine ws 65 193 ?_
   refine qp (AI v50000) rfl (qp (AI v50000) rfl ?_)
   refine r_nil ?_
   refine w_block ?_
   refine wr (l' := [(0, AS v0), (4, AI v50000), (5, AI 0), (6, AI v50000)]) (L := []) [0, 4, 5, 6] [] 1 ?_
   refine w_loopF (F_spec_l01Number_l2 v0 v50000) (fun s : Int × Int => mkS [(0, AS v0), (4, AI v50000), (5, AI s.1), (6, AI s.2)] (fo []) 1) hF ?_
   rintro k0 ⟨v50003, v50004⟩ hF
   rw [F_spec_l01Number_l2] at hF
   try dsimp only
   refine w_seq ?_
   refine ws 1 257 ?_
   refine qp (AI v50004) rfl (qp (AS v0) rfl (qp (AI (v0.length : Int)) rfl (qp (AB (decide (v50004 < (v0.length : Int)))) rfl ?_)))
   refine r_nil ?_
   refine cF hF (fun hF => ?_) fun hF => ?_
   ·
    refine w_skip ?_
    refine thenQ_n ?_
    refine w_seq ?_
    refine w_block ?_
    refine w_seq ?_
    refine ws 257 577 ?_
    refine qp (AS v0) rfl (qp (AI v50004) rfl ?_)
    obtain ⟨v1002, e1002, hF⟩ := bind_get hF
    refine qp (.val none (.int .u8 (v1002.toNat : Int))) (ev_ixs rfl rfl e1002) ?_
    obtain ⟨v1003, e1003, hF⟩ := bind_get hF
    refine qc (AB v1003) [] false (con_spec_l01Digit e1003) c29_ok (by first | rfl | simp) rfl ?_
    refine qp (AB (!v1003)) rfl ?_
    refine r_nil ?_
    refine cF hF (fun hF => ?_) fun hF => ?_
    ·
     refine ws 577 705 ?_
     refine qp (AI 0) rfl (qp (AB false) rfl ?_)
     refine r_nil ?_
     refine w_ret ?_
     refine thenQ_r ?_
     refine blockQ_r ?_
     refine thenQ_r ?_
     refine thenQ_r ?_
     refine blockQ_r ?_
     refine thenQ_r ?_
     cases hF
     exact eR
    ·
     refine w_skip ?_
     refine thenQ_n ?_
     refine w_reg 577 1153 rfl rfl ?_
     refine qp (AI v50003) rfl (qp (AI (w64 (10 * v50003))) rfl (qp (AS v0) rfl (qp (AI v50004) rfl ?_)))
     obtain ⟨v1004, e1004, hF⟩ := bind_get hF
     refine qp (.val none (.int .u8 (v1004.toNat : Int))) (ev_ixs rfl rfl e1004) (qp (.val none (.int .u8 (IntKind.wrap .u8 ((v1004.toNat : Int) - 48)))) rfl (qp (AI (w64 (IntKind.wrap .u8 ((v1004.toNat : Int) - 48)))) rfl (qp (AI (w64 ((w64 (10 * v50003)) + (w64 (IntKind.wrap .u8 ((v1004.toNat : Int) - 48)))))) rfl (qp (AI (w64 ((w64 (10 * v50003)) + (w64 (IntKind.wrap .u8 ((v1004.toNat : Int) - 48)))))) rfl ?_))))
     refine r_nil ?_
     refine blockQ_n ?_
     refine thenQ_n ?_
     refine w_reg 1153 1345 rfl rfl ?_
     refine qp (AI v50004) rfl (qp (AI (w64 (v50004 + 1))) rfl (qp (AI (w64 (v50004 + 1))) rfl ?_))
     refine r_nil ?_
     refine thenQ_n ?_
     refine ar (l' := [(0, AS v0), (4, AI v50000), (5, AI (w64 ((w64 (10 * v50003)) + (w64 (IntKind.wrap .u8 ((v1004.toNat : Int) - 48)))))), (6, AI (w64 (v50004 + 1)))]) (L := []) [0, 4, 5, 6] [] 1 ⟨_, by rfl, hF⟩
   ·
    refine w_exit ?_
    refine thenQ_e ?_
    refine thenQ_e ?_
    refine blockQ_e ?_
    refine thenQ_n ?_
    refine w_seq ?_
    refine ws 257 385 ?_
    refine qp (AI v50000) rfl (qp (AB (decide (v50000 = (1 : Int)))) rfl ?_)
    refine r_nil ?_
    refine cF hF (fun hF => ?_) fun hF => ?_
    ·
     refine w_reg 385 577 rfl rfl ?_
     refine qp (AI v50003) rfl (qp (AI (w64 (0 - v50003))) rfl (qp (AI (w64 (0 - v50003))) rfl ?_))
     refine r_nil ?_
     refine thenQ_n ?_
     refine ws 577 769 ?_
     refine qp (AI (w64 (0 - v50003))) rfl (qp (AI (w64 (0 - v50003))) rfl (qp (AB true) rfl ?_))
     exact rR hF
    ·
     refine w_skip ?_
     refine thenQ_n ?_
     refine ws 385 577 ?_
     refine qp (AI v50003) rfl (qp (AI v50003) rfl (qp (AB true) rfl ?_))
     exact rR hF

def c46 : MC := (.seq (.reg [pT 2 (.mv cf)]) (.seq (.reg [mvt 3 0, pT 4 (.bin .geq t3 (.c (.int .u8 97))), mvt 5 4, nT 6 5 t0, kT 7 5 (.bin .leq t6 (.c (.int .u8 122))), pT 8 (.pick t5 t7 cf), mvt 2 8]) .ret))
theorem c46_is : compFn Tryd.prog 46 = some (c46, [(.tmp 2)]) := by kernel_rfl
theorem c46_ok : okFn Tryd.prog 46 = true := by kernel_rfl

noncomputable def F_spec_l01Small (v0 : Int) : Option (Bool) :=
 (bif (decide ((97 : Int) ≤ v0)) then some (decide (v0 ≤ (122 : Int)))
 else some false)
@[simp] def res_spec_l01Small (r : Bool) : RV := .one (.one (.val (.bool r)))
theorem con_spec_l01Small {v0 : Int} {r : Bool} (hF : F_spec_l01Small v0 = some r) : Con Tryd.prog 46 [.int .u8 v0] (res_spec_l01Small r) := by
 unfold F_spec_l01Small at hF
 refine con_of c46_is fun N => ?_
 refine ws 0 64 ?_
 refine qp (AB false) rfl ?_
 refine r_nil ?_
 refine ws 64 512 ?_
 refine qp (.val none (.int .u8 v0)) rfl (qp (AB (decide ((97 : Int) ≤ v0))) rfl (qp (AB (decide ((97 : Int) ≤ v0))) rfl ?_))
 refine q_case 5 hF rfl (fun hF => ?_) (fun hF => ?_)
 ·
  refine qg (.val none (.int .u8 v0)) rfl rfl (qg (AB (decide (v0 ≤ (122 : Int)))) rfl rfl (qp (AB (decide (v0 ≤ (122 : Int)))) rfl (qp (AB (decide (v0 ≤ (122 : Int)))) rfl ?_)))
  exact rR hF
 ·
  refine qn2 (qp (AB false) rfl (qp (AB false) rfl ?_))
  exact rR hF

def c30 : MC := (.seq (.reg [pT 2 (.mv cf)]) (.seq (.seq (.reg [mvt 4 0, pT 5 (.bin .eql t4 (.c (.str []))), mvt 6 5, nF 7 6 t0, kF 8 6 (.lens t7), kF 9 6 (.bin .gtr t8 (ci 10)), pT 10 (.pick t6 ct t9), mvt 11 10, nF 12 11 t0, kF 13 11 (.ixs t12 (ci 0)), ⟨(some 14), (some (11, false)), (.call true 46 [t13])⟩, kF 15 11 (.not t14), pT 16 (.pick t11 ct t15)]) (.cond t16 (.seq (.reg [pT 2 (.mv cf)]) .ret) .skip)) (.seq (.seq (.reg [pT 3 (.mv (ci 0))]) (.block 0 (.loop (.seq (.seq (.reg [mvt 17 3, mvt 18 0, pT 19 (.lens t18), pT 20 (.bin .lss t17 t19)]) (.cond t20 .skip (.exit 0))) (.seq (.block 1 (.seq (.reg [mvt 23 0, mvt 24 3, pT 25 (.ixs t23 t24), rg 26 (.call true 46 [t25]), pT 27 (.not t26), mvt 28 27, nT 29 28 t0, nT 30 28 t3, kT 31 28 (.ixs t29 t30), ⟨(some 32), (some (28, true)), (.call true 29 [t31])⟩, kT 33 28 (.not t32), pT 34 (.pick t28 t33 cf)]) (.cond t34 (.seq (.reg [pT 2 (.mv cf)]) .ret) .skip))) (.reg [mvt 21 3, pT 22 (.bin .add t21 (ci 1)), mvt 3 22])))))) (.seq (.reg [pT 2 (.mv ct)]) .ret))))
theorem c30_is : compFn Tryd.prog 30 = some (c30, [(.tmp 2)]) := by kernel_rfl
theorem c30_ok : okFn Tryd.prog 30 = true := by kernel_rfl

noncomputable def F_spec_l01Name_l0 (v0 : List UInt8) (k1 : Int → Option (Bool)) : Int → Option (Bool)
 | v50003 => (bif (decide (v50003 < (v0.length : Int))) then ((ix v0 v50003).bind fun v1010 => ((F_spec_l01Small (v1010.toNat : Int)).bind fun v1011 => (bif (!v1011) then ((ix v0 v50003).bind fun v1012 => ((F_spec_l01Digit (v1012.toNat : Int)).bind fun v1013 => (bif (!v1013) then some false
 else k1 (w64 (v50003 + 1)))))
 else k1 (w64 (v50003 + 1)))))
 else some true)
noncomputable def F_spec_l01Name (v0 : List UInt8) : Option (Bool) :=
 (bif (decide (v0 = [])) then some false
 else (bif (decide ((10 : Int) < (v0.length : Int))) then some false
 else ((ix v0 0).bind fun v1000 => ((F_spec_l01Small (v1000.toNat : Int)).bind fun v1001 => (bif (!v1001) then some false
 else loop (F_spec_l01Name_l0 v0) 0)))))
@[simp] def res_spec_l01Name (r : Bool) : RV := .one (.one (.val (.bool r)))
theorem con_spec_l01Name {v0 : List UInt8} {r : Bool} (hF : F_spec_l01Name v0 = some r) : Con Tryd.prog 30 [.str v0] (res_spec_l01Name r) := by
 unfold F_spec_l01Name at hF
 refine con_of c30_is fun N => ?_
 refine ws 0 64 ?_
 refine qp (AB false) rfl ?_
 refine r_nil ?_
 refine w_seq ?_
 refine ws 64 896 ?_
 refine qp (AS v0) rfl (qp (AB (decide (v0 = []))) rfl (qp (AB (decide (v0 = []))) rfl ?_))
 refine q_case 6 hF rfl (fun hF => ?_) (fun hF => ?_)
 ·
  refine qn3 (qp (AB true) rfl (qp (AB true) rfl (qn3 ?_)))
  refine qn rfl (qp (AB true) rfl ?_)
  refine r_nil ?_
  refine w_true rfl ?_
  refine ws 896 960 ?_
  refine qp (AB false) rfl ?_
  refine r_nil ?_
  refine w_ret ?_
  refine thenQ_r ?_
  cases hF
  exact eR
 ·
  refine qg (AS v0) rfl rfl (qg (AI (v0.length : Int)) rfl rfl (qg (AB (decide ((10 : Int) < (v0.length : Int)))) rfl rfl (qp (AB (decide ((10 : Int) < (v0.length : Int)))) rfl (qp (AB (decide ((10 : Int) < (v0.length : Int)))) rfl ?_))))
  refine q_case 11 hF rfl (fun hF => ?_) (fun hF => ?_)
  ·
   refine qn4 (qp (AB true) rfl ?_)
   refine r_nil ?_
   refine w_true rfl ?_
   refine ws 896 960 ?_
   refine qp (AB false) rfl ?_
   refine r_nil ?_
   refine w_ret ?_
   refine thenQ_r ?_
   cases hF
   exact eR
  ·
   refine qg (AS v0) rfl rfl ?_
   obtain ⟨v1000, e1000, hF⟩ := bind_get hF
   refine qg (.val none (.int .u8 (v1000.toNat : Int))) rfl (ev_ixs rfl rfl e1000) ?_
   obtain ⟨v1001, e1001, hF⟩ := bind_get hF
   refine qcg (AB v1001) [] false rfl (con_spec_l01Small e1001) c46_ok (by first | rfl | simp) rfl ?_
   refine qg (AB (!v1001)) rfl rfl (qp (AB (!v1001)) rfl ?_)
   refine r_nil ?_
   refine cF hF (fun hF => ?_) fun hF => ?_
   ·
    refine ws 896 960 ?_
    refine qp (AB false) rfl ?_
    refine r_nil ?_
    refine w_ret ?_
    refine thenQ_r ?_
    cases hF
    exact eR
   ·
    refine w_skip ?_
    refine thenQ_n ?_
    refine w_seq ?_
    refine ws 896 960 ?_
    refine qp (AI 0) rfl ?_
    refine r_nil ?_
    refine w_block ?_
    refine wr (l' := [(0, AS v0), (3, AI 0)]) (L := []) [0, 3] [] 1 ?_
    refine w_loopF (F_spec_l01Name_l0 v0) (fun s : Int => mkS [(0, AS v0), (3, AI s)] (fo []) 1) hF ?_
    rintro k1 v50003 hF
    rw [F_spec_l01Name_l0] at hF
    try dsimp only
    refine w_seq ?_
    refine ws 1 257 ?_
    refine qp (AI v50003) rfl (qp (AS v0) rfl (qp (AI (v0.length : Int)) rfl (qp (AB (decide (v50003 < (v0.length : Int)))) rfl ?_)))
    refine r_nil ?_
    refine cF hF (fun hF => ?_) fun hF => ?_
    ·
     refine w_skip ?_
     refine thenQ_n ?_
     refine w_seq ?_
     refine w_block ?_
     refine ws 257 1025 ?_
     refine qp (AS v0) rfl (qp (AI v50003) rfl ?_)
     obtain ⟨v1010, e1010, hF⟩ := bind_get hF
     refine qp (.val none (.int .u8 (v1010.toNat : Int))) (ev_ixs rfl rfl e1010) ?_
     obtain ⟨v1011, e1011, hF⟩ := bind_get hF
     refine qc (AB v1011) [] false (con_spec_l01Small e1011) c46_ok (by first | rfl | simp) rfl ?_
     refine qp (AB (!v1011)) rfl (qp (AB (!v1011)) rfl ?_)
     refine q_case 28 hF rfl (fun hF => ?_) (fun hF => ?_)
     ·
      refine qg (AS v0) rfl rfl (qg (AI v50003) rfl rfl ?_)
      obtain ⟨v1012, e1012, hF⟩ := bind_get hF
      refine qg (.val none (.int .u8 (v1012.toNat : Int))) rfl (ev_ixs rfl rfl e1012) ?_
      obtain ⟨v1013, e1013, hF⟩ := bind_get hF
      refine qcg (AB v1013) [] false rfl (con_spec_l01Digit e1013) c29_ok (by first | rfl | simp) rfl ?_
      refine qg (AB (!v1013)) rfl rfl (qp (AB (!v1013)) rfl ?_)
      refine r_nil ?_
      refine cF hF (fun hF => ?_) fun hF => ?_
      ·
       refine ws 1025 1089 ?_
       refine qp (AB false) rfl ?_
       refine r_nil ?_
       refine w_ret ?_
       refine blockQ_r ?_
       refine thenQ_r ?_
       refine thenQ_r ?_
       refine blockQ_r ?_
       refine thenQ_r ?_
       cases hF
       exact eR
      ·
       refine w_skip ?_
       refine blockQ_n ?_
       refine thenQ_n ?_
       refine w_reg 1025 1217 rfl rfl ?_
       refine qp (AI v50003) rfl (qp (AI (w64 (v50003 + 1))) rfl (qp (AI (w64 (v50003 + 1))) rfl ?_))
       refine r_nil ?_
       refine thenQ_n ?_
       refine ar (l' := [(0, AS v0), (3, AI (w64 (v50003 + 1)))]) (L := []) [0, 3] [] 1 ⟨_, by rfl, hF⟩
     ·
      refine qn5 (qp (AB false) rfl ?_)
      refine r_nil ?_
      refine w_false rfl ?_
      refine w_skip ?_
      refine blockQ_n ?_
      refine thenQ_n ?_
      refine w_reg 1025 1217 rfl rfl ?_
      refine qp (AI v50003) rfl (qp (AI (w64 (v50003 + 1))) rfl (qp (AI (w64 (v50003 + 1))) rfl ?_))
      refine r_nil ?_
      refine thenQ_n ?_
      refine ar (l' := [(0, AS v0), (3, AI (w64 (v50003 + 1)))]) (L := []) [0, 3] [] 1 ⟨_, by rfl, hF⟩
    ·
     refine w_exit ?_
     refine thenQ_e ?_
     refine thenQ_e ?_
     refine blockQ_e ?_
     refine thenQ_n ?_
     refine ws 257 321 ?_
     refine qp (AB true) rfl ?_
     exact rR hF

def c31 : MC := (.seq (.reg [pT 6 (.mv cf)]) (.seq (.reg [mvt 7 0, mvt 8 1, pT 9 (.bin .geq t7 t8), mvt 10 9, nT 11 10 t0, nT 12 10 t2, kT 13 10 (.bin .leq t11 t12), pT 14 (.pick t10 t13 cf), mvt 6 14]) .ret))
theorem c31_is : compFn Tryd.prog 31 = some (c31, [(.tmp 6)]) := by kernel_rfl
theorem c31_ok : okFn Tryd.prog 31 = true := by kernel_rfl

noncomputable def F_spec_l00In (v0 : Int) (v1 : Int) (v2 : Int) : Option (Bool) :=
 (bif (decide (v1 ≤ v0)) then some (decide (v0 ≤ v2))
 else some false)
@[simp] def res_spec_l00In (r : Bool) : RV := .one (.one (.val (.bool r)))
theorem con_spec_l00In {v0 : Int} {v1 : Int} {v2 : Int} {r : Bool} (hF : F_spec_l00In v0 v1 v2 = some r) : Con Tryd.prog 31 [.int .i64 v0, .int .i64 v1, .int .i64 v2] (res_spec_l00In r) := by
 unfold F_spec_l00In at hF
 refine con_of c31_is fun N => ?_
 refine ws 0 64 ?_
 refine qp (AB false) rfl ?_
 refine r_nil ?_
 refine ws 64 640 ?_
 refine qp (AI v0) rfl (qp (AI v1) rfl (qp (AB (decide (v1 ≤ v0))) rfl (qp (AB (decide (v1 ≤ v0))) rfl ?_)))
 refine q_case 10 hF rfl (fun hF => ?_) (fun hF => ?_)
 ·
  refine qg (AI v0) rfl rfl (qg (AI v2) rfl rfl (qg (AB (decide (v0 ≤ v2))) rfl rfl (qp (AB (decide (v0 ≤ v2))) rfl (qp (AB (decide (v0 ≤ v2))) rfl ?_))))
  exact rR hF
 ·
  refine qn3 (qp (AB false) rfl (qp (AB false) rfl ?_))
  exact rR hF

def c32 : MC := (.seq (.reg [pT 4 (.mv (ci 0))]) (.seq (.seq (.reg [pT 5 (.mv (ci 0))]) (.block 0 (.loop (.seq (.seq (.reg [mvt 6 5, mvt 7 0, pT 8 (.len t7), pT 9 (.bin .lss t6 t8)]) (.cond t9 .skip (.exit 0))) (.seq (.block 1 (.seq (.reg [mvt 12 0, mvt 13 5, pT 14 (.iad t12 t13 3), pT 15 (.fad t14 0), pT 16 (.ld t15 1 false), mvt 17 1, pT 18 (.bin .eql t16 t17)]) (.cond t18 (.seq (.reg [mvt 19 5, mvt 4 19]) .ret) .skip))) (.reg [mvt 10 5, pT 11 (.bin .add t10 (ci 1)), mvt 5 11])))))) (.seq (.reg [pT 4 (.mv (ci (-1)))]) .ret)))
theorem c32_is : compFn Tryd.prog 32 = some (c32, [(.tmp 4)]) := by kernel_rfl
theorem c32_ok : okFn Tryd.prog 32 = true := by kernel_rfl

noncomputable def F_spec_l30Find_l0 (v0 : List TPerson) (v1 : List UInt8) (k0 : Int → Option (Int)) : Int → Option (Int)
 | v50001 => (bif (decide (v50001 < (v0.length : Int))) then ((ix v0 v50001).bind fun v1000 => (bif (decide (v1000.1 = v1)) then some v50001
 else k0 (w64 (v50001 + 1))))
 else some (-1))
noncomputable def F_spec_l30Find (v0 : List TPerson) (v1 : List UInt8) : Option (Int) :=
 loop (F_spec_l30Find_l0 v0 v1) 0
@[simp] def res_spec_l30Find (r : Int) : RV := .one (.one (.val (.int .i64 r)))
theorem con_spec_l30Find {v0 : List TPerson} {v1 : List UInt8} {r : Int} (hF : F_spec_l30Find v0 v1 = some r) : Con Tryd.prog 32 [.sl 3 (v0.map ePerson), .str v1] (res_spec_l30Find r) := by
 unfold F_spec_l30Find at hF
 refine con_of c32_is fun N => ?_
 refine ws 0 64 ?_
 refine qp (AI 0) rfl ?_
 refine r_nil ?_
 refine w_seq ?_
 refine ws 64 128 ?_
 refine qp (AI 0) rfl ?_
 refine r_nil ?_
 refine w_block ?_
 refine wr (l' := [(0, AL 3 (v0.map ePerson)), (1, AS v1), (5, AI 0)]) (L := []) [0, 1, 5] [] 1 ?_
 refine w_loopF (F_spec_l30Find_l0 v0 v1) (fun s : Int => mkS [(0, AL 3 (v0.map ePerson)), (1, AS v1), (5, AI s)] (fo []) 1) hF ?_
 rintro k0 v50001 hF
 rw [F_spec_l30Find_l0] at hF
 try dsimp only
 refine w_seq ?_
 refine ws 1 257 ?_
 refine qp (AI v50001) rfl (qp (AL 3 (v0.map ePerson)) rfl (qp (AI (v0.length : Int)) (ev_len_n rfl) (qp (AB (decide (v50001 < (v0.length : Int)))) rfl ?_)))
 refine r_nil ?_
 refine cF hF (fun hF => ?_) fun hF => ?_
 ·
  refine w_skip ?_
  refine thenQ_n ?_
  refine w_seq ?_
  refine w_block ?_
  refine ws 257 705 ?_
  refine qp (AL 3 (v0.map ePerson)) rfl (qp (AI v50001) rfl ?_)
  obtain ⟨v1000, e1000, hF⟩ := bind_get hF
  refine qp (.val none (.ptr [.str v1000.1, .int .i64 v1000.2.1, .sl 1 (v1000.2.2.map V.str)])) (ev_iad_n rfl rfl e1000 rfl) (qp (.val none (.ptr [.str v1000.1, .int .i64 v1000.2.1, .sl 1 (v1000.2.2.map V.str)])) rfl (qp (AS v1000.1) rfl (qp (AS v1) rfl (qp (AB (decide (v1000.1 = v1))) rfl ?_))))
  refine r_nil ?_
  refine cF hF (fun hF => ?_) fun hF => ?_
  ·
   refine ws 705 833 ?_
   refine qp (AI v50001) rfl (qp (AI v50001) rfl ?_)
   refine r_nil ?_
   refine w_ret ?_
   refine blockQ_r ?_
   refine thenQ_r ?_
   refine thenQ_r ?_
   refine blockQ_r ?_
   refine thenQ_r ?_
   cases hF
   exact eR
  ·
   refine w_skip ?_
   refine blockQ_n ?_
   refine thenQ_n ?_
   refine w_reg 705 897 rfl rfl ?_
   refine qp (AI v50001) rfl (qp (AI (w64 (v50001 + 1))) rfl (qp (AI (w64 (v50001 + 1))) rfl ?_))
   refine r_nil ?_
   refine thenQ_n ?_
   refine ar (l' := [(0, AL 3 (v0.map ePerson)), (1, AS v1), (5, AI (w64 (v50001 + 1)))]) (L := []) [0, 1, 5] [] 1 ⟨_, by rfl, hF⟩
 ·
  refine w_exit ?_
  refine thenQ_e ?_
  refine thenQ_e ?_
  refine blockQ_e ?_
  refine thenQ_n ?_
  refine ws 257 321 ?_
  refine qp (AI (-1)) rfl ?_
  exact rR hF

def c21 : MC := (.seq (.reg [pT 2 (.mv cf)]) (.seq (.seq (.reg [pT 3 (.mv (ci 0))]) (.block 0 (.loop (.seq (.seq (.reg [mvt 7 3, mvt 8 0, pT 9 (.len t8), pT 10 (.bin .lss t7 t9)]) (.cond t10 .skip (.exit 0))) (.seq (.block 1 (.seq (.reg [mvt 13 0, mvt 14 3, pT 15 (.iad t13 t14 3), mvt 4 15]) (.seq (.seq (.reg [mP 16 t4, pF 17 (.nck t16), pF 18 (.fad t17 0), pF 19 (.ld t18 1 false), rg 20 (.call false 30 [t19]), pF 21 (.not t20), mP 22 t21, mF 23 22 t4, gF 24 22 (.nck t23), gF 25 22 (.fad t24 1), gF 26 22 (.ld t25 1 false), ⟨(some 27), (some (22, false)), (.call false 31 [t26, (ci 0), (ci 3000)])⟩, gF 28 22 (.not t27), pF 29 (.pick t22 ct t28), mP 30 t29, mF 31 30 t4, gF 32 30 (.nck t31), gF 33 30 (.fad t32 2), gF 34 30 (.ld t33 1 false), gF 35 30 (.len t34), gF 36 30 (.bin .gtr t35 (ci 4)), pF 37 (.pick t30 ct t36), mP 38 t37, mF 39 38 t3, gF 40 38 (.bin .gtr t39 (ci 0)), mF 41 38 t40, mT 42 41 t0, mT 43 41 t3, gT 44 41 (.bin .sub t43 (ci 1)), gT 45 41 (.iad t42 t44 3), gT 46 41 (.fad t45 0), gT 47 41 (.ld t46 1 false), mT 48 41 t4, gT 49 41 (.nck t48), gT 50 41 (.fad t49 0), gT 51 41 (.ld t50 1 false), gT 52 41 (.bin .geq t47 t51), gF 53 38 (.pick t41 t52 cf), pF 54 (.pick t38 ct t53)]) (.cond t54 (.seq (.reg [pT 2 (.mv cf)]) .ret) .skip)) (.seq (.reg [pT 5 (.mv (ci 0))]) (.block 2 (.loop (.seq (.seq (.reg [mvt 55 5, mvt 56 4, pT 57 (.nck t56), pT 58 (.fad t57 2), pT 59 (.ld t58 1 false), pT 60 (.len t59), pT 61 (.bin .lss t55 t60)]) (.cond t61 .skip (.exit 2))) (.seq (.block 3 (.seq (.reg [mvt 64 0, mvt 65 4, pT 66 (.nck t65), pT 67 (.fad t66 2), pT 68 (.ld t67 1 false), mvt 69 5, pT 70 (.iad t68 t69 1), pT 71 (.ld t70 1 false), rg 72 (.call true 32 [t64, t71]), mvt 6 72]) (.seq (.reg [mP 73 t6, pF 74 (.bin .lss t73 (ci 0)), mP 75 t74, mF 76 75 t0, mF 77 75 t6, gF 78 75 (.iad t76 t77 3), gF 79 75 (.fad t78 1), gF 80 75 (.ld t79 1 false), mF 81 75 t4, gF 82 75 (.nck t81), gF 83 75 (.fad t82 1), gF 84 75 (.ld t83 1 false), gF 85 75 (.bin .geq t80 t84), pF 86 (.pick t75 ct t85), mP 87 t86, mF 88 87 t5, gF 89 87 (.bin .gtr t88 (ci 0)), mF 90 87 t89, mT 91 90 t4, gT 92 90 (.nck t91), gT 93 90 (.fad t92 2), gT 94 90 (.ld t93 1 false), mT 95 90 t5, gT 96 90 (.bin .sub t95 (ci 1)), gT 97 90 (.iad t94 t96 1), gT 98 90 (.ld t97 1 false), mT 99 90 t4, gT 100 90 (.nck t99), gT 101 90 (.fad t100 2), gT 102 90 (.ld t101 1 false), mT 103 90 t5, gT 104 90 (.iad t102 t103 1), gT 105 90 (.ld t104 1 false), gT 106 90 (.bin .geq t98 t105), gF 107 87 (.pick t90 t106 cf), pF 108 (.pick t87 ct t107)]) (.cond t108 (.seq (.reg [pT 2 (.mv cf)]) .ret) .skip)))) (.reg [mvt 62 5, pT 63 (.bin .add t62 (ci 1)), mvt 5 63]))))))))) (.reg [mvt 11 3, pT 12 (.bin .add t11 (ci 1)), mvt 3 12])))))) (.seq (.reg [mvt 109 0, pT 110 (.len t109), pT 111 (.bin .leq t110 (ci 24)), mvt 2 111]) .ret)))
theorem c21_is : compFn Tryd.prog 21 = some (c21, [(.tmp 2)]) := by kernel_rfl
theorem c21_ok : okFn Tryd.prog 21 = true := by kernel_rfl

noncomputable def F_spec_l30Ok_l2 (v0 : List TPerson) (v1000 : TPerson) (v50005 : Int) (k2 : Int → Option (Bool)) (k4 : Int → Option (Bool)) : Int → Option (Bool)
 | v50009 => (bif (decide (v50009 < (v1000.2.2.length : Int))) then ((ix v1000.2.2 v50009).bind fun v1007 => ((F_spec_l30Find v0 v1007).bind fun v1008 => (bif (decide (v1008 < (0 : Int))) then some false
 else ((ix v0 v1008).bind fun v1009 => (bif (decide (v1000.2.1 ≤ v1009.2.1)) then some false
 else (bif (decide ((0 : Int) < v50009)) then ((ix v1000.2.2 (w64 (v50009 - 1))).bind fun v1010 => ((ix v1000.2.2 v50009).bind fun v1011 => (bif (!Op.bytesLess v1010 v1011) then some false
 else k4 (w64 (v50009 + 1)))))
 else k4 (w64 (v50009 + 1))))))))
 else k2 (w64 (v50005 + 1)))
noncomputable def F_spec_l30Ok_j1 (v0 : List TPerson) (v1000 : TPerson) (v50005 : Int) (k2 : Int → Option (Bool)) : Option (Bool) :=
 loop (F_spec_l30Ok_l2 v0 v1000 v50005 k2) 0
noncomputable def F_spec_l30Ok_l0 (v0 : List TPerson) (k2 : Int → Option (Bool)) : Int → Option (Bool)
 | v50005 => (bif (decide (v50005 < (v0.length : Int))) then ((ix v0 v50005).bind fun v1000 => ((F_spec_l01Name v1000.1).bind fun v1004 => (bif (!v1004) then some false
 else ((F_spec_l00In v1000.2.1 0 3000).bind fun v1005 => (bif (!v1005) then some false
 else (bif (decide ((4 : Int) < (v1000.2.2.length : Int))) then some false
 else (bif (decide ((0 : Int) < v50005)) then ((ix v0 (w64 (v50005 - 1))).bind fun v1006 => (bif (!Op.bytesLess v1006.1 v1000.1) then some false
 else F_spec_l30Ok_j1 v0 v1000 v50005 k2))
 else F_spec_l30Ok_j1 v0 v1000 v50005 k2)))))))
 else some (decide ((v0.length : Int) ≤ (24 : Int))))
noncomputable def F_spec_l30Ok (v0 : List TPerson) : Option (Bool) :=
 loop (F_spec_l30Ok_l0 v0) 0
@[simp] abbrev K4 (v1000 : TPerson) : V := .ptr [.str v1000.1, .int .i64 v1000.2.1, .sl 1 (v1000.2.2.map V.str)]
@[simp] abbrev K5 (v0 : List TPerson) : Nat × AV := (0, AL 3 (v0.map ePerson))
@[simp] abbrev K6 (v1000 : TPerson) : AV := .val none (K4 v1000)
@[simp] abbrev K7 (v1000 : TPerson) : AV := .val none (.ptr [.sl 1 (v1000.2.2.map V.str)])
@[simp] abbrev K8 (v0 : List TPerson) : AV := AL 3 (v0.map ePerson)
@[simp] abbrev K9 (v1000 : TPerson) : AV := AL 1 (v1000.2.2.map V.str)
@[simp] def res_spec_l30Ok (r : Bool) : RV := .one (.one (.val (.bool r)))
theorem con_spec_l30Ok {v0 : List TPerson} {r : Bool} (hF : F_spec_l30Ok v0 = some r) : Con Tryd.prog 21 [.sl 3 (v0.map ePerson)] (res_spec_l30Ok r) := by
 unfold F_spec_l30Ok at hF
 refine con_of c21_is fun N => ?_
 refine ws 0 64 ?_
 refine qp (AB false) rfl ?_
 refine r_nil ?_
 refine w_seq ?_
 refine ws 64 128 ?_
 refine qp (AI 0) rfl ?_
 refine r_nil ?_
 refine w_block ?_
 refine wr (l' := [(K5 v0), (3, AI 0)]) (L := []) [0, 3] [] 1 ?_
 refine w_loopF (F_spec_l30Ok_l0 v0) (fun s : Int => mkS [(K5 v0), (3, AI s)] (fo []) 1) hF ?_
 rintro k2 v50005 hF
 rw [F_spec_l30Ok_l0] at hF
 try dsimp only
 refine w_seq ?_
 refine ws 1 257 ?_
 refine qp (AI v50005) rfl (qp (K8 v0) rfl (qp (AI (v0.length : Int)) (ev_len_n rfl) (qp (AB (decide (v50005 < (v0.length : Int)))) rfl ?_)))
 refine r_nil ?_
 refine cF hF (fun hF => ?_) fun hF => ?_
 ·
  refine w_skip ?_
  refine thenQ_n ?_
  refine w_seq ?_
  refine w_block ?_
  refine ws 257 513 ?_
  refine qp (K8 v0) rfl (qp (AI v50005) rfl ?_)
  obtain ⟨v1000, e1000, hF⟩ := bind_get hF
  refine qp (K6 v1000) (ev_iad_n rfl rfl e1000 rfl) (qp (K6 v1000) rfl ?_)
  refine r_nil ?_
  refine w_meet (fun s' => s' = mkS [(K5 v0), (3, AI v50005), (4, .val none (K4 v1000))] (fo []) 1 ∧ F_spec_l30Ok_j1 v0 v1000 v50005 k2 = some r) ?_ ?_
  ·
   refine ws 513 3009 ?_
   refine qp (K6 v1000) rfl (qp (K6 v1000) rfl (qp (K6 v1000) rfl (qp (AS v1000.1) rfl ?_)))
   obtain ⟨v1004, e1004, hF⟩ := bind_get hF
   refine qc (AB v1004) [] false (con_spec_l01Name e1004) c30_ok (by first | rfl | simp) rfl ?_
   refine qp (AB (!v1004)) rfl (qp (AB (!v1004)) rfl ?_)
   refine q_case 22 hF rfl (fun hF => ?_) (fun hF => ?_)
   ·
    refine qn6 (qp (AB true) rfl (qp (AB true) rfl ?_))
    refine qn6 (qp (AB true) rfl (qp (AB true) rfl ?_))
    refine qn3 (qu rfl (qu rfl (qu rfl (qu rfl (qu rfl ?_)))))
    refine qu rfl (qu rfl (qu rfl (qu rfl (qu rfl (qu rfl (qn rfl (qp (AB true) rfl ?_)))))))
    refine r_nil ?_
    refine w_true rfl ?_
    refine ws 3009 3073 ?_
    refine qp (AB false) rfl ?_
    refine r_nil ?_
    refine w_ret ?_
    refine thenQ_r ?_
    refine blockQ_r ?_
    refine thenQ_r ?_
    refine thenQ_r ?_
    refine blockQ_r ?_
    refine thenQ_r ?_
    cases hF
    exact eR
   ·
    refine qg (K6 v1000) rfl rfl (qg (K6 v1000) rfl rfl (qg (.val none (.ptr [.int .i64 v1000.2.1, .sl 1 (v1000.2.2.map V.str)])) rfl rfl (qg (AI v1000.2.1) rfl rfl ?_)))
    obtain ⟨v1005, e1005, hF⟩ := bind_get hF
    refine qcg (AB v1005) [] false rfl (con_spec_l00In e1005) c31_ok (by first | rfl | simp) rfl ?_
    refine qg (AB (!v1005)) rfl rfl (qp (AB (!v1005)) rfl (qp (AB (!v1005)) rfl ?_))
    refine q_case 30 hF rfl (fun hF => ?_) (fun hF => ?_)
    ·
     refine qn6 (qp (AB true) rfl (qp (AB true) rfl ?_))
     refine qn3 (qu rfl (qu rfl (qu rfl (qu rfl (qu rfl ?_)))))
     refine qu rfl (qu rfl (qu rfl (qu rfl (qu rfl (qu rfl (qn rfl (qp (AB true) rfl ?_)))))))
     refine r_nil ?_
     refine w_true rfl ?_
     refine ws 3009 3073 ?_
     refine qp (AB false) rfl ?_
     refine r_nil ?_
     refine w_ret ?_
     refine thenQ_r ?_
     refine blockQ_r ?_
     refine thenQ_r ?_
     refine thenQ_r ?_
     refine blockQ_r ?_
     refine thenQ_r ?_
     cases hF
     exact eR
    ·
     refine qg (K6 v1000) rfl rfl (qg (K6 v1000) rfl rfl (qg (K7 v1000) rfl rfl (qg (K9 v1000) rfl rfl (qg (AI (v1000.2.2.length : Int)) rfl (ev_len_n rfl) (qg (AB (decide ((4 : Int) < (v1000.2.2.length : Int)))) rfl rfl (qp (AB (decide ((4 : Int) < (v1000.2.2.length : Int)))) rfl (qp (AB (decide ((4 : Int) < (v1000.2.2.length : Int)))) rfl ?_)))))))
     refine q_case 38 hF rfl (fun hF => ?_) (fun hF => ?_)
     ·
      refine qn3 (qu rfl (qu rfl (qu rfl (qu rfl (qu rfl ?_)))))
      refine qu rfl (qu rfl (qu rfl (qu rfl (qu rfl (qu rfl (qn rfl (qp (AB true) rfl ?_)))))))
      refine r_nil ?_
      refine w_true rfl ?_
      refine ws 3009 3073 ?_
      refine qp (AB false) rfl ?_
      refine r_nil ?_
      refine w_ret ?_
      refine thenQ_r ?_
      refine blockQ_r ?_
      refine thenQ_r ?_
      refine thenQ_r ?_
      refine blockQ_r ?_
      refine thenQ_r ?_
      cases hF
      exact eR
     ·
      refine qg (AI v50005) rfl rfl (qg (AB (decide ((0 : Int) < v50005))) rfl rfl (qg (AB (decide ((0 : Int) < v50005))) rfl rfl ?_))
      refine q_case 41 hF rfl (fun hF => ?_) (fun hF => ?_)
      ·
       refine qg (K8 v0) rfl rfl (qg (AI v50005) rfl rfl (qg (AI (w64 (v50005 - 1))) rfl rfl ?_))
       obtain ⟨v1006, e1006, hF⟩ := bind_get hF
       refine qg (.val none (.ptr [.str v1006.1, .int .i64 v1006.2.1, .sl 1 (v1006.2.2.map V.str)])) rfl (ev_iad_n rfl rfl e1006 rfl) (qg (.val none (.ptr [.str v1006.1, .int .i64 v1006.2.1, .sl 1 (v1006.2.2.map V.str)])) rfl rfl (qg (AS v1006.1) rfl rfl (qg (K6 v1000) rfl rfl (qg (K6 v1000) rfl rfl (qg (K6 v1000) rfl rfl (qg (AS v1000.1) rfl rfl (qg (AB (!Op.bytesLess v1006.1 v1000.1)) rfl rfl ?_)))))))
       refine qg (AB (!Op.bytesLess v1006.1 v1000.1)) rfl rfl (qp (AB (!Op.bytesLess v1006.1 v1000.1)) rfl ?_)
       refine r_nil ?_
       refine cF hF (fun hF => ?_) fun hF => ?_
       ·
        refine ws 3009 3073 ?_
        refine qp (AB false) rfl ?_
        refine r_nil ?_
        refine w_ret ?_
        refine thenQ_r ?_
        refine blockQ_r ?_
        refine thenQ_r ?_
        refine thenQ_r ?_
        refine blockQ_r ?_
        refine thenQ_r ?_
        cases hF
        exact eR
       ·
        refine w_skip ?_
        refine thenQ_n ?_
        refine aw_ren (l' := [(K5 v0), (3, AI v50005), (4, .val none (K4 v1000))]) (L := []) [0, 3, 4] [] 1 (by first | rfl | simp) (by first | rfl | simp) (by decide) (by decide) (by decide) ⟨rfl, hF⟩
      ·
       refine qn8 ?_
       refine qn3 (qg (AB false) rfl rfl (qp (AB false) rfl ?_))
       refine r_nil ?_
       refine w_false rfl ?_
       refine w_skip ?_
       refine thenQ_n ?_
       refine aw_ren (l' := [(K5 v0), (3, AI v50005), (4, .val none (K4 v1000))]) (L := []) [0, 3, 4] [] 1 (by first | rfl | simp) (by first | rfl | simp) (by decide) (by decide) (by decide) ⟨rfl, hF⟩
  ·
   rintro s' ⟨rfl, hF⟩
   unfold F_spec_l30Ok_j1 at hF
   refine ws 1 65 ?_
   refine qp (AI 0) rfl ?_
   refine r_nil ?_
   refine w_block ?_
   refine wr (l' := [(K5 v0), (3, AI v50005), (4, .val none (K4 v1000)), (5, AI 0)]) (L := []) [0, 3, 4, 5] [] 1 ?_
   refine w_loopF (F_spec_l30Ok_l2 v0 v1000 v50005 k2) (fun s : Int => mkS [(K5 v0), (3, AI v50005), (4, .val none (K4 v1000)), (5, AI s)] (fo []) 1) hF ?_
   rintro k4 v50009 hF
   rw [F_spec_l30Ok_l2] at hF
   try dsimp only
   refine w_seq ?_
   refine ws 1 449 ?_
   refine qp (AI v50009) rfl (qp (K6 v1000) rfl (qp (K6 v1000) rfl (qp (K7 v1000) rfl (qp (K9 v1000) rfl (qp (AI (v1000.2.2.length : Int)) (ev_len_n rfl) (qp (AB (decide (v50009 < (v1000.2.2.length : Int)))) rfl ?_))))))
   refine r_nil ?_
   refine cF hF (fun hF => ?_) fun hF => ?_
   ·
    refine w_skip ?_
    refine thenQ_n ?_
    refine w_seq ?_
    refine w_block ?_
    refine ws 449 1089 ?_
    refine qp (K8 v0) rfl (qp (K6 v1000) rfl (qp (K6 v1000) rfl (qp (K7 v1000) rfl (qp (K9 v1000) rfl (qp (AI v50009) rfl ?_)))))
    obtain ⟨v1007, e1007, hF⟩ := bind_get hF
    refine qp (.val none (.ptr [.str v1007])) (ev_iad_n rfl rfl e1007 rfl) (qp (AS v1007) rfl ?_)
    obtain ⟨v1008, e1008, hF⟩ := bind_get hF
    refine qc (AI v1008) [] false (con_spec_l30Find e1008) c32_ok (by first | rfl | simp) rfl ?_
    refine qp (AI v1008) rfl ?_
    refine r_nil ?_
    refine ws 1089 3393 ?_
    refine qp (AI v1008) rfl (qp (AB (decide (v1008 < (0 : Int)))) rfl (qp (AB (decide (v1008 < (0 : Int)))) rfl ?_))
    refine q_case 75 hF rfl (fun hF => ?_) (fun hF => ?_)
    ·
     refine qn8 ?_
     refine qn2 (qp (AB true) rfl (qp (AB true) rfl (qn3 (qu rfl ?_))))
     refine qu rfl (qu rfl (qu rfl (qu rfl (qu rfl (qu rfl (qu rfl (qu rfl ?_)))))))
     refine qu rfl (qu rfl (qu rfl (qu rfl (qu rfl (qu rfl (qu rfl (qn rfl ?_)))))))
     refine qp (AB true) rfl ?_
     refine r_nil ?_
     refine w_true rfl ?_
     refine ws 3393 3457 ?_
     refine qp (AB false) rfl ?_
     refine r_nil ?_
     refine w_ret ?_
     refine blockQ_r ?_
     refine thenQ_r ?_
     refine thenQ_r ?_
     refine blockQ_r ?_
     refine blockQ_r ?_
     refine thenQ_r ?_
     refine thenQ_r ?_
     refine blockQ_r ?_
     refine thenQ_r ?_
     cases hF
     exact eR
    ·
     refine qg (K8 v0) rfl rfl (qg (AI v1008) rfl rfl ?_)
     obtain ⟨v1009, e1009, hF⟩ := bind_get hF
     refine qg (.val none (.ptr [.str v1009.1, .int .i64 v1009.2.1, .sl 1 (v1009.2.2.map V.str)])) rfl (ev_iad_n rfl rfl e1009 rfl) (qg (.val none (.ptr [.int .i64 v1009.2.1, .sl 1 (v1009.2.2.map V.str)])) rfl rfl (qg (AI v1009.2.1) rfl rfl (qg (K6 v1000) rfl rfl (qg (K6 v1000) rfl rfl (qg (.val none (.ptr [.int .i64 v1000.2.1, .sl 1 (v1000.2.2.map V.str)])) rfl rfl (qg (AI v1000.2.1) rfl rfl (qg (AB (decide (v1000.2.1 ≤ v1009.2.1))) rfl rfl ?_)))))))
     refine qp (AB (decide (v1000.2.1 ≤ v1009.2.1))) rfl (qp (AB (decide (v1000.2.1 ≤ v1009.2.1))) rfl ?_)
     refine q_case 87 hF rfl (fun hF => ?_) (fun hF => ?_)
     ·
      refine qn3 (qu rfl (qu rfl (qu rfl (qu rfl (qu rfl ?_)))))
      refine qu rfl (qu rfl (qu rfl (qu rfl (qu rfl (qu rfl (qu rfl (qu rfl ?_)))))))
      refine qu rfl (qu rfl (qu rfl (qn rfl (qp (AB true) rfl ?_))))
      refine r_nil ?_
      refine w_true rfl ?_
      refine ws 3393 3457 ?_
      refine qp (AB false) rfl ?_
      refine r_nil ?_
      refine w_ret ?_
      refine blockQ_r ?_
      refine thenQ_r ?_
      refine thenQ_r ?_
      refine blockQ_r ?_
      refine blockQ_r ?_
      refine thenQ_r ?_
      refine thenQ_r ?_
      refine blockQ_r ?_
      refine thenQ_r ?_
      cases hF
      exact eR
     ·
      refine qg (AI v50009) rfl rfl (qg (AB (decide ((0 : Int) < v50009))) rfl rfl (qg (AB (decide ((0 : Int) < v50009))) rfl rfl ?_))
      refine q_case 90 hF rfl (fun hF => ?_) (fun hF => ?_)
      ·
       refine qg (K6 v1000) rfl rfl (qg (K6 v1000) rfl rfl (qg (K7 v1000) rfl rfl (qg (K9 v1000) rfl rfl (qg (AI v50009) rfl rfl (qg (AI (w64 (v50009 - 1))) rfl rfl ?_)))))
       obtain ⟨v1010, e1010, hF⟩ := bind_get hF
       refine qg (.val none (.ptr [.str v1010])) rfl (ev_iad_n rfl rfl e1010 rfl) (qg (AS v1010) rfl rfl (qg (K6 v1000) rfl rfl (qg (K6 v1000) rfl rfl (qg (K7 v1000) rfl rfl (qg (K9 v1000) rfl rfl (qg (AI v50009) rfl rfl ?_))))))
       obtain ⟨v1011, e1011, hF⟩ := bind_get hF
       refine qg (.val none (.ptr [.str v1011])) rfl (ev_iad_n rfl rfl e1011 rfl) (qg (AS v1011) rfl rfl (qg (AB (!Op.bytesLess v1010 v1011)) rfl rfl (qg (AB (!Op.bytesLess v1010 v1011)) rfl rfl (qp (AB (!Op.bytesLess v1010 v1011)) rfl ?_))))
       refine r_nil ?_
       refine cF hF (fun hF => ?_) fun hF => ?_
       ·
        refine ws 3393 3457 ?_
        refine qp (AB false) rfl ?_
        refine r_nil ?_
        refine w_ret ?_
        refine blockQ_r ?_
        refine thenQ_r ?_
        refine thenQ_r ?_
        refine blockQ_r ?_
        refine blockQ_r ?_
        refine thenQ_r ?_
        refine thenQ_r ?_
        refine blockQ_r ?_
        refine thenQ_r ?_
        cases hF
        exact eR
       ·
        refine w_skip ?_
        refine blockQ_n ?_
        refine thenQ_n ?_
        refine w_reg 3393 3585 rfl rfl ?_
        refine qp (AI v50009) rfl (qp (AI (w64 (v50009 + 1))) rfl (qp (AI (w64 (v50009 + 1))) rfl ?_))
        refine r_nil ?_
        refine thenQ_n ?_
        refine ar (l' := [(K5 v0), (3, AI v50005), (4, .val none (K4 v1000)), (5, AI (w64 (v50009 + 1)))]) (L := []) [0, 3, 4, 5] [] 1 ⟨_, by rfl, hF⟩
      ·
       refine qn8 ?_
       refine qn8 ?_
       refine qg (AB false) rfl rfl (qp (AB false) rfl ?_)
       refine r_nil ?_
       refine w_false rfl ?_
       refine w_skip ?_
       refine blockQ_n ?_
       refine thenQ_n ?_
       refine w_reg 3393 3585 rfl rfl ?_
       refine qp (AI v50009) rfl (qp (AI (w64 (v50009 + 1))) rfl (qp (AI (w64 (v50009 + 1))) rfl ?_))
       refine r_nil ?_
       refine thenQ_n ?_
       refine ar (l' := [(K5 v0), (3, AI v50005), (4, .val none (K4 v1000)), (5, AI (w64 (v50009 + 1)))]) (L := []) [0, 3, 4, 5] [] 1 ⟨_, by rfl, hF⟩
   ·
    refine w_exit ?_
    refine thenQ_e ?_
    refine thenQ_e ?_
    refine blockQ_e ?_
    refine blockQ_n ?_
    refine thenQ_n ?_
    refine w_reg 449 641 rfl rfl ?_
    refine qp (AI v50005) rfl (qp (AI (w64 (v50005 + 1))) rfl (qp (AI (w64 (v50005 + 1))) rfl ?_))
    refine r_nil ?_
    refine thenQ_n ?_
    refine ar (l' := [(K5 v0), (3, AI (w64 (v50005 + 1)))]) (L := []) [0, 3] [] 1 ⟨_, by rfl, hF⟩
 ·
  refine w_exit ?_
  refine thenQ_e ?_
  refine thenQ_e ?_
  refine blockQ_e ?_
  refine thenQ_n ?_
  refine ws 257 513 ?_
  refine qp (K8 v0) rfl (qp (AI (v0.length : Int)) (ev_len_n rfl) (qp (AB (decide ((v0.length : Int) ≤ (24 : Int)))) rfl (qp (AB (decide ((v0.length : Int) ≤ (24 : Int)))) rfl ?_)))
  exact rR hF

def c9 : MC := (.seq (.reg [rg 2 (.f (.nilrow 3)), pT 3 (.mv cf)]) (.seq (.reg [rg 10 (.f (.bsl 3 [])), mvt 4 10]) (.seq (.seq (.reg [mvt 11 0, pT 12 (.bin .eql t11 (.c (.str [])))]) (.cond t12 (.seq (.reg [mvt 13 4, mvt 2 13, pT 3 (.mv ct)]) .ret) .skip)) (.seq (.reg [mvt 14 0, rg 15 (.call true 19 [t14, (.c (.int .u8 47))]), mvt 5 15]) (.seq (.seq (.reg [pT 6 (.mv (ci 0))]) (.block 0 (.loop (.seq (.seq (.reg [mvt 16 6, mvt 17 5, pT 18 (.len t17), pT 19 (.bin .lss t16 t18)]) (.cond t19 .skip (.exit 0))) (.seq (.block 1 (.seq (.reg [mvt 22 5, mvt 23 6, pT 24 (.iad t22 t23 1), pT 25 (.ld t24 1 false), rg 26 (.call true 19 [t25, (.c (.int .u8 32))]), mvt 7 26]) (.seq (.seq (.reg [mvt 27 7, pT 28 (.len t27), pT 29 (.bin .lss t28 (ci 2))]) (.cond t29 (.seq (.reg [rg 2 (.f (.nilrow 3)), pT 3 (.mv cf)]) .ret) .skip)) (.seq (.reg [mvt 31 7, pT 32 (.iad t31 (ci 1) 1), pT 33 (.ld t32 1 false), rg 34 (.call true 20 [t33]), mvt 30 34, pT 35 (.ext t30 0), pT 36 (.ext t30 1), mvt 8 35, mvt 9 36]) (.seq (.seq (.reg [mvt 37 9, pT 38 (.not t37)]) (.cond t38 (.seq (.reg [rg 2 (.f (.nilrow 3)), pT 3 (.mv cf)]) .ret) .skip)) (.reg [mP 39 t4, mP 40 t7, pF 41 (.iad t40 (ci 0) 1), pF 42 (.ld t41 1 false), mP 43 t8, rg 44 (.f (.bsle 1)), mP 45 t7, pF 46 (.slc t45 (some (ci 2)) none 1), rg 47 (.f (.app0 t44 t46 1 16)), rg 48 (.f (.bld [((.str []), (0, true)), ((.int .i64 0), (0, true)), ((.sl 0 []), (1, true))] [(0, (1, t42)), (1, (1, t43)), (2, (1, t47))])), rg 49 (.f (.bsl 3 [t48])), rg 50 (.f (.app t39 t49 3 48 true)), mP 4 t50])))))) (.reg [mvt 20 6, pT 21 (.bin .add t20 (ci 1)), mvt 6 21])))))) (.seq (.seq (.reg [mvt 51 4, rg 52 (.call true 21 [t51]), pT 53 (.not t52)]) (.cond t53 (.seq (.reg [rg 2 (.f (.nilrow 3)), pT 3 (.mv cf)]) .ret) .skip)) (.seq (.reg [mvt 54 4, mvt 2 54, pT 3 (.mv ct)]) .ret)))))))
theorem c9_is : compFn Tryd.prog 9 = some (c9, [(.tmp 2), (.tmp 3)]) := by kernel_rfl
theorem c9_ok : okFn Tryd.prog 9 = true := by kernel_rfl

noncomputable def F_spec_l30Read_l0 (v1000 : List (List UInt8)) (k1 : Int × (List TPerson) → Option ((List TPerson) × Bool)) : Int × (List TPerson) → Option ((List TPerson) × Bool)
 | (v50006, v50007) => (bif (decide (v50006 < (v1000.length : Int))) then ((ix v1000 v50006).bind fun v1019 => ((F_spec_l01Split v1019 32).bind fun v1020 => (bif (decide ((v1020.length : Int) < (2 : Int))) then some ([], false)
 else ((ix v1020 1).bind fun v1021 => ((F_spec_l01Number v1021).bind fun v1022 => (bif (!v1022.2) then some ([], false)
 else ((ix v1020 0).bind fun v1023 => (need (0 ≤ (2 : Int) ∧ (2 : Int) ≤ (v1020.length : Int) ∧ (v1020.length : Int) ≤ (v1020.length : Int)) ((need (room ((sub v1020 (2 : Int) (v1020.length : Int)).length) 16) ((need (room (v50007.length + [(v1023, v1022.1, sub v1020 (2 : Int) (v1020.length : Int))].length) 48) (k1 (w64 (v50006 + 1), v50007 ++ [(v1023, v1022.1, sub v1020 (2 : Int) (v1020.length : Int))]))))))))))))))
 else ((F_spec_l30Ok v50007).bind fun v1028 => (bif (!v1028) then some ([], false)
 else some (v50007, true))))
noncomputable def F_spec_l30Read (v0 : List UInt8) : Option ((List TPerson) × Bool) :=
 (bif (decide (v0 = [])) then some ([], true)
 else ((F_spec_l01Split v0 47).bind fun v1000 => loop (F_spec_l30Read_l0 v1000) (0, [])))
@[simp] abbrev K0a : List (Nat × Root) := [(0, .row true 3 (([] : List Int).map vI))]
@[simp] abbrev K0b : List (Nat × Root) := ((128, .row true 3 (([] : List TPerson).map ePerson)) :: K0a)
@[simp] abbrev K0c (v1000 : List (List UInt8)) (v50007 : List TPerson) : List (Nat × Root) := [(1, .row true 1 (v1000.map V.str)), (0, .row true 3 (v50007.map ePerson))]
@[simp] abbrev K0d (v1020 : List (List UInt8)) (v1000 : List (List UInt8)) (v50007 : List TPerson) : List (Nat × Root) := ((514, .row true 1 (v1020.map V.str)) :: (K0c v1000 v50007))
@[simp] abbrev K0e (v1020 : List (List UInt8)) (v1000 : List (List UInt8)) (v50007 : List TPerson) : List (Nat × Root) := ((2050, .row true 1 ((sub v1020 (2 : Int) (v1020.length : Int)).map V.str)) :: (2051, .dead) :: (K0d v1020 v1000 v50007))
@[simp] abbrev K0f (v1023 : List UInt8) (v1022 : Int × Bool) (v1020 : List (List UInt8)) (v1000 : List (List UInt8)) (v50007 : List TPerson) : List (Nat × Root) := ((2178, .row true 3 ([(v1023, v1022.1, sub v1020 (2 : Int) (v1020.length : Int))].map ePerson)) :: (2050, .dead) :: (K0e v1020 v1000 v50007))
@[simp] def res_spec_l30Read (r : (List TPerson) × Bool) : RV := .tup [.one (.row true 3 (r.1.map ePerson)), .one (.val (.bool r.2))]
theorem con_spec_l30Read {v0 : List UInt8} {r : (List TPerson) × Bool} (hF : F_spec_l30Read v0 = some r) : Con Tryd.prog 9 [.str v0] (res_spec_l30Read r) := by
 unfold F_spec_l30Read at hF
 refine con_of c9_is fun N => ?_
 refine ws 0 128 ?_
 refine qf (.sl 0 0 0) K0a (by simp) ?_
 refine qp (AB false) rfl ?_
 refine r_nil ?_
 refine ws 128 256 ?_
 refine qf (.sl 128 0 0) K0b (by simp [List.take_of_length_le]) ?_
 refine qp (.sl 128 0 0) rfl ?_
 refine r_nil ?_
 refine w_seq ?_
 refine ws 256 384 ?_
 refine qp (AS v0) rfl (qp (AB (decide (v0 = []))) rfl ?_)
 refine r_nil ?_
 refine cF hF (fun hF => ?_) fun hF => ?_
 ·
  refine ws 384 576 ?_
  refine qp (.sl 128 0 0) rfl (qp (.sl 128 0 0) rfl (qp (AB true) rfl ?_))
  refine r_nil ?_
  refine w_ret ?_
  refine thenQ_r ?_
  cases hF
  exact eR
 ·
  refine w_skip ?_
  refine thenQ_n ?_
  refine ws 384 576 ?_
  refine qp (AS v0) rfl ?_
  obtain ⟨v1000, e1000, hF⟩ := bind_get hF
  refine qc (.sl 448 0 v1000.length) ((448, .row true 1 (v1000.map V.str)) :: K0b) false (con_spec_l01Split e1000) c19_ok (by first | rfl | simp) (by simp [res_spec_l01Split]) ?_
  refine qp (.sl 448 0 v1000.length) rfl ?_
  refine r_nil ?_
  refine w_seq ?_
  refine ws 576 640 ?_
  refine qp (AI 0) rfl ?_
  refine r_nil ?_
  refine w_block ?_
  refine wr (l' := [(4, .sl 0 0 0), (5, .sl 1 0 v1000.length), (6, AI 0)]) (L := [(1, .row true 1 (v1000.map V.str)), (0, .row true 3 (([] : List TPerson).map ePerson))]) [4, 5, 6] [(448, 1), (128, 0)] 2 ?_
  refine w_loopF (F_spec_l30Read_l0 v1000) (fun s : Int × (List TPerson) => mkS [(4, .sl 0 0 s.2.length), (5, .sl 1 0 v1000.length), (6, AI s.1)] (fo [(1, .row true 1 (v1000.map V.str)), (0, .row true 3 (s.2.map ePerson))]) 2) hF ?_
  rintro k1 ⟨v50006, v50007⟩ hF
  rw [F_spec_l30Read_l0] at hF
  try dsimp only
  refine w_seq ?_
  refine ws 2 258 ?_
  refine qp (AI v50006) rfl (qp (.sl 1 0 v1000.length) rfl (qp (AI (v1000.length : Int)) rfl (qp (AB (decide (v50006 < (v1000.length : Int)))) rfl ?_)))
  refine r_nil ?_
  refine cF hF (fun hF => ?_) fun hF => ?_
  ·
   refine w_skip ?_
   refine thenQ_n ?_
   refine w_seq ?_
   refine w_block ?_
   refine ws 258 642 ?_
   refine qp (.sl 1 0 v1000.length) rfl (qp (AI v50006) rfl ?_)
   obtain ⟨v1019, e1019, hF⟩ := bind_get hF
   refine qp (.ptr 1 v50006.toNat 0) (ev_iad_r rfl (by simp) rfl rfl e1019) (qp (AS v1019) (ev_ld_r rfl rfl (ix_some e1019).2 rfl rfl) ?_)
   obtain ⟨v1020, e1020, hF⟩ := bind_get hF
   refine qc (.sl 514 0 v1020.length) (K0d v1020 v1000 v50007) false (con_spec_l01Split e1020) c19_ok (by first | rfl | simp) (by simp [res_spec_l01Split]) ?_
   refine qp (.sl 514 0 v1020.length) rfl ?_
   refine r_nil ?_
   refine w_seq ?_
   refine ws 642 834 ?_
   refine qp (.sl 514 0 v1020.length) rfl (qp (AI (v1020.length : Int)) rfl (qp (AB (decide ((v1020.length : Int) < (2 : Int)))) rfl ?_))
   refine r_nil ?_
   refine cF hF (fun hF => ?_) fun hF => ?_
   ·
    refine ws 834 962 ?_
    refine qf (.sl 834 0 0) ((834, .row true 3 (([] : List TPerson).map ePerson)) :: (K0d v1020 v1000 v50007)) (by simp) ?_
    refine qp (AB false) rfl ?_
    refine r_nil ?_
    refine w_ret ?_
    refine thenQ_r ?_
    refine blockQ_r ?_
    refine thenQ_r ?_
    refine thenQ_r ?_
    refine blockQ_r ?_
    refine thenQ_r ?_
    cases hF
    exact eR
   ·
    refine w_skip ?_
    refine thenQ_n ?_
    refine ws 834 1410 ?_
    refine qp (.sl 514 0 v1020.length) rfl ?_
    obtain ⟨v1021, e1021, hF⟩ := bind_get hF
    refine qp (.ptr 514 ((1 : Int).toNat) 0) (ev_iad_r rfl (by simp) rfl rfl e1021) (qp (AS v1021) (ev_ld_r rfl rfl (ix_some e1021).2 rfl rfl) ?_)
    obtain ⟨v1022, e1022, hF⟩ := bind_get hF
    refine qc (.tup [AI v1022.1, AB v1022.2]) (K0d v1020 v1000 v50007) false (con_spec_l01Number e1022) c20_ok (by first | rfl | simp) rfl ?_
    refine qp (.tup [AI v1022.1, AB v1022.2]) rfl (qp (AI v1022.1) rfl (qp (AB v1022.2) rfl (qp (AI v1022.1) rfl (qp (AB v1022.2) rfl ?_))))
    refine r_nil ?_
    refine w_seq ?_
    refine ws 1410 1538 ?_
    refine qp (AB v1022.2) rfl (qp (AB (!v1022.2)) rfl ?_)
    refine r_nil ?_
    refine cF hF (fun hF => ?_) fun hF => ?_
    ·
     refine ws 1538 1666 ?_
     refine qf (.sl 1538 0 0) ((1538, .row true 3 (([] : List TPerson).map ePerson)) :: (K0d v1020 v1000 v50007)) (by simp) ?_
     refine qp (AB false) rfl ?_
     refine r_nil ?_
     refine w_ret ?_
     refine thenQ_r ?_
     refine blockQ_r ?_
     refine thenQ_r ?_
     refine thenQ_r ?_
     refine blockQ_r ?_
     refine thenQ_r ?_
     cases hF
     exact eR
    ·
     refine w_skip ?_
     refine thenQ_n ?_
     refine w_regA 1538 2370 rfl rfl ?_
     refine qp (.sl 0 0 v50007.length) rfl (qp (.sl 514 0 v1020.length) rfl ?_)
     obtain ⟨v1023, e1023, hF⟩ := bind_get hF
     refine qp (.ptr 514 ((0 : Int).toNat) 0) (ev_iad_r rfl (by simp) rfl rfl e1023) (qp (AS v1023) (ev_ld_r rfl rfl (ix_some e1023).2 rfl rfl) (qp (AI v1022.1) rfl ?_))
     refine qf (.e0) (K0d v1020 v1000 v50007) rfl ?_
     refine qp (.sl 514 0 v1020.length) rfl ?_
     obtain ⟨g1024, hF⟩ := need_some hF
     refine qp (.sl 514 (2 : Int).toNat ((v1020.length : Int).toNat - (2 : Int).toNat)) (ev_slc_r rfl (by simp) rfl rfl rfl g1024) ?_
     obtain ⟨g1025, hF⟩ := need_some hF
     refine qf (.sl 2050 0 ((sub v1020 (2 : Int) (v1020.length : Int)).length)) (K0e v1020 v1000 v50007) (effT_app0_pp rfl rfl rfl (fun _ => rfl) (by decide) g1025) ?_
     refine qf (.agg [AS v1023, AI v1022.1, .sl 2050 0 ((sub v1020 (2 : Int) (v1020.length : Int)).length)]) (K0e v1020 v1000 v50007) (by simp) ?_
     refine qf (.sl 2178 0 ([(v1023, v1022.1, sub v1020 (2 : Int) (v1020.length : Int))].length)) (K0f v1023 v1022 v1020 v1000 v50007) (by simp [List.take_of_length_le]) ?_
     obtain ⟨g1026, hF⟩ := need_some hF
     refine qf (.sl 2242 0 ((v50007 ++ [(v1023, v1022.1, sub v1020 (2 : Int) (v1020.length : Int))]).length)) ((2242, .row true 3 ((v50007 ++ [(v1023, v1022.1, sub v1020 (2 : Int) (v1020.length : Int))]).map ePerson)) :: (0, .dead) :: (2178, .dead) :: (K0f v1023 v1022 v1020 v1000 v50007)) (effT_app_l rfl (by simp) rfl rfl (by simp) rfl (by decide) g1026 rfl) ?_
     refine qp (.sl 2242 0 ((v50007 ++ [(v1023, v1022.1, sub v1020 (2 : Int) (v1020.length : Int))]).length)) rfl ?_
     refine r_nil ?_
     have g1027 : 0 ≤ (2 : Int) ∧ (2 : Int) ≤ (v1020.length : Int) ∧ (v1020.length : Int) ≤ (v1020.length : Int) := by first | exact g1024 | (have h := g1024; simp only [] at h ⊢; exact h)
     refine aw_drop (l' := [(4, .sl 2242 0 ((v50007 ++ [(v1023, v1022.1, sub v1020 (2 : Int) (v1020.length : Int))]).length)), (5, .sl 1 0 v1000.length), (6, AI v50006), (7, .sl 514 0 v1020.length), (8, AI v1022.1), (9, AB v1022.2), (16, AI v50006), (17, .sl 1 0 v1000.length), (18, AI (v1000.length : Int)), (19, AB (decide (v50006 < (v1000.length : Int)))), (22, .sl 1 0 v1000.length), (23, AI v50006), (24, .ptr 1 v50006.toNat 0), (25, AS v1019), (26, .sl 514 0 v1020.length), (27, .sl 514 0 v1020.length), (28, AI (v1020.length : Int)), (29, AB (decide ((v1020.length : Int) < (2 : Int)))), (30, .tup [AI v1022.1, AB v1022.2]), (31, .sl 514 0 v1020.length), (32, .ptr 514 ((1 : Int).toNat) 0), (33, AS v1021), (34, .tup [AI v1022.1, AB v1022.2]), (35, AI v1022.1), (36, AB v1022.2), (37, AB v1022.2), (38, AB (!v1022.2)), (39, .sl 0 0 v50007.length), (40, .sl 514 0 v1020.length), (41, .ptr 514 ((0 : Int).toNat) 0), (42, AS v1023), (43, AI v1022.1), (44, .e0), (45, .sl 514 0 v1020.length), (46, .sl 514 (2 : Int).toNat ((v1020.length : Int).toNat - (2 : Int).toNat)), (47, .sl 2050 0 ((sub v1020 (2 : Int) (v1020.length : Int)).length)), (48, .agg [AS v1023, AI v1022.1, .sl 2050 0 ((sub v1020 (2 : Int) (v1020.length : Int)).length)]), (49, .sl 2178 0 ([(v1023, v1022.1, sub v1020 (2 : Int) (v1020.length : Int))].length)), (50, .sl 2242 0 ((v50007 ++ [(v1023, v1022.1, sub v1020 (2 : Int) (v1020.length : Int))]).length))]) [4, 5, 6, 7, 8, 9, 16, 17, 18, 19, 22, 23, 24, 25, 26, 27, 28, 29, 30, 31, 32, 33, 34, 35, 36, 37, 38, 39, 40, 41, 42, 43, 44, 45, 46, 47, 48, 49, 50] (by first | rfl | simp) ?_
     refine aw_rebF (l' := [(4, .sl 2242 0 ((v50007 ++ [(v1023, v1022.1, sub v1020 (2 : Int) (v1020.length : Int))]).length)), (5, .sl 1 0 v1000.length), (6, AI v50006), (7, .bad), (8, AI v1022.1), (9, AB v1022.2), (16, AI v50006), (17, .sl 1 0 v1000.length), (18, AI (v1000.length : Int)), (19, AB (decide (v50006 < (v1000.length : Int)))), (22, .sl 1 0 v1000.length), (23, AI v50006), (24, .ptr 1 v50006.toNat 0), (25, AS v1019), (26, .bad), (27, .bad), (28, AI (v1020.length : Int)), (29, AB (decide ((v1020.length : Int) < (2 : Int)))), (30, .tup [AI v1022.1, AB v1022.2]), (31, .bad), (32, .bad), (33, AS v1021), (34, .tup [AI v1022.1, AB v1022.2]), (35, AI v1022.1), (36, AB v1022.2), (37, AB v1022.2), (38, AB (!v1022.2)), (39, .sl 0 0 v50007.length), (40, .bad), (41, .bad), (42, AS v1023), (43, AI v1022.1), (44, .e0), (45, .bad), (46, .sl 514 0 ((sub v1020 (2 : Int) (v1020.length : Int)).length)), (47, .sl 2050 0 ((sub v1020 (2 : Int) (v1020.length : Int)).length)), (48, .agg [AS v1023, AI v1022.1, .sl 2050 0 ((sub v1020 (2 : Int) (v1020.length : Int)).length)]), (49, .sl 2178 0 ([(v1023, v1022.1, sub v1020 (2 : Int) (v1020.length : Int))].length)), (50, .sl 2242 0 ((v50007 ++ [(v1023, v1022.1, sub v1020 (2 : Int) (v1020.length : Int))]).length))]) (r := 514) (lo := (2 : Int)) (hi := (v1020.length : Int)) rfl g1027 (RebL.keep rfl (RebL.keep rfl (RebL.keep rfl (RebL.bad (RebL.keep rfl (RebL.keep rfl (RebL.keep rfl (RebL.keep rfl (RebL.keep rfl (RebL.keep rfl (RebL.keep rfl (RebL.keep rfl (RebL.keep rfl (RebL.keep rfl (RebL.bad (RebL.bad (RebL.keep rfl (RebL.keep rfl (RebL.keep rfl (RebL.bad (RebL.bad (RebL.keep rfl (RebL.keep rfl (RebL.keep rfl (RebL.keep rfl (RebL.keep rfl (RebL.keep rfl (RebL.keep rfl (RebL.bad (RebL.bad (RebL.keep rfl (RebL.keep rfl (RebL.keep rfl (RebL.bad (RebL.part (sub_len g1027) (RebL.keep rfl (RebL.keep rfl (RebL.keep rfl (RebL.keep rfl RebL.nil))))))))))))))))))))))))))))))))))))))) rfl ?_
     refine blockQ_n ?_
     refine thenQ_n ?_
     refine w_reg 2370 2562 rfl rfl ?_
     refine qp (AI v50006) rfl (qp (AI (w64 (v50006 + 1))) rfl (qp (AI (w64 (v50006 + 1))) rfl ?_))
     refine r_nil ?_
     refine thenQ_n ?_
     refine ar (l' := [(4, .sl 0 0 (v50007 ++ [(v1023, v1022.1, sub v1020 (2 : Int) (v1020.length : Int))]).length), (5, .sl 1 0 v1000.length), (6, AI (w64 (v50006 + 1)))]) (L := [(1, .row true 1 (v1000.map V.str)), (0, .row true 3 ((v50007 ++ [(v1023, v1022.1, sub v1020 (2 : Int) (v1020.length : Int))]).map ePerson))]) [4, 5, 6] [(1, 1), (2242, 0)] 2 ⟨_, by rfl, hF⟩
  ·
   refine w_exit ?_
   refine thenQ_e ?_
   refine thenQ_e ?_
   refine blockQ_e ?_
   refine thenQ_n ?_
   refine w_seq ?_
   refine ws 258 450 ?_
   refine qp (.sl 0 0 v50007.length) rfl ?_
   obtain ⟨v1028, e1028, hF⟩ := bind_get hF
   refine qc (AB v1028) (K0c v1000 v50007) true (con_spec_l30Ok e1028) c21_ok (by simp [List.take_of_length_le]) rfl ?_
   refine qp (AB (!v1028)) rfl ?_
   refine r_nil ?_
   refine cF hF (fun hF => ?_) fun hF => ?_
   ·
    refine ws 450 578 ?_
    refine qf (.sl 450 0 0) ((450, .row true 3 (([] : List TPerson).map ePerson)) :: (K0c v1000 v50007)) (by simp) ?_
    refine qp (AB false) rfl ?_
    refine r_nil ?_
    refine w_ret ?_
    refine thenQ_r ?_
    cases hF
    exact eR
   ·
    refine w_skip ?_
    refine thenQ_n ?_
    refine ws 450 642 ?_
    refine qp (.sl 0 0 v50007.length) rfl (qp (.sl 0 0 v50007.length) rfl (qp (AB true) rfl ?_))
    exact rR hF

def c4 : MC := (.seq (.reg [rg 2 (.f (.nilrow 3)), pT 3 (.mv cf)]) (.seq (.reg [mvt 4 0, rg 5 (.call true 9 [t4]), pT 6 (.ext t5 0), pT 7 (.ext t5 1), mvt 2 6, mvt 3 7]) .ret))
theorem c4_is : compFn Tryd.prog 4 = some (c4, [(.tmp 2), (.tmp 3)]) := by kernel_rfl
theorem c4_ok : okFn Tryd.prog 4 = true := by kernel_rfl

noncomputable def F_spec_ReadPersons (v0 : List UInt8) : Option ((List TPerson) × Bool) :=
 ((F_spec_l30Read v0).bind fun v1000 => some (v1000.1, v1000.2))
@[simp] abbrev K0g : List (Nat × Root) := [(0, .row true 3 (([] : List Int).map vI))]
@[simp] def res_spec_ReadPersons (r : (List TPerson) × Bool) : RV := .tup [.one (.row true 3 (r.1.map ePerson)), .one (.val (.bool r.2))]
theorem con_spec_ReadPersons {v0 : List UInt8} {r : (List TPerson) × Bool} (hF : F_spec_ReadPersons v0 = some r) : Con Tryd.prog 4 [.str v0] (res_spec_ReadPersons r) := by
 unfold F_spec_ReadPersons at hF
 refine con_of c4_is fun N => ?_
 refine ws 0 128 ?_
 refine qf (.sl 0 0 0) K0g (by simp) ?_
 refine qp (AB false) rfl ?_
 refine r_nil ?_
 refine ws 128 512 ?_
 refine qp (AS v0) rfl ?_
 obtain ⟨v1000, e1000, hF⟩ := bind_get hF
 refine qc (.tup [.sl 192 0 v1000.1.length, AB v1000.2]) ((192, .row true 3 (v1000.1.map ePerson)) :: K0g) false (con_spec_l30Read e1000) c9_ok (by first | rfl | simp) (by simp [res_spec_l30Read]) ?_
 refine qp (.sl 192 0 v1000.1.length) rfl (qp (AB v1000.2) rfl (qp (.sl 192 0 v1000.1.length) rfl (qp (AB v1000.2) rfl ?_)))
 exact rR hF

theorem c10_ok : okFn Tryd.prog 10 = true := by kernel_rfl




theorem c11_ok : okFn Tryd.prog 11 = true := by kernel_rfl




theorem c12_ok : okFn Tryd.prog 12 = true := by kernel_rfl




def c13 : MC := (.seq (.reg [rg 2 (.f (.nilrow 1))]) (.seq (.seq (.reg [mvt 3 0, pT 4 (.isn false t3)]) (.cond t4 (.seq (.reg [rg 2 (.f (.nilrow 1))]) .ret) .skip)) (.seq (.reg [rg 5 (.f (.bsl 1 [])), mvt 6 0, rg 7 (.f (.app t5 t6 1 16 false)), mvt 2 7]) .ret)))
theorem c13_is : compFn Tryd.prog 13 = some (c13, [(.tmp 2)]) := by kernel_rfl
theorem c13_ok : okFn Tryd.prog 13 = true := by kernel_rfl

noncomputable def F_slices_Clone_Sstring_string_j0 (v0 : List (List UInt8)) : Option (List (List UInt8)) :=
 (need (room (v0.length) 16) (some v0))
noncomputable def F_slices_Clone_Sstring_string (v0 : List (List UInt8)) : Option (List (List UInt8)) :=
 (bif (decide (v0.length = 0)) then (both (some []) (F_slices_Clone_Sstring_string_j0 v0))
 else F_slices_Clone_Sstring_string_j0 v0)
@[simp] abbrev K0h : List (Nat × Root) := [(0, .row true 1 (([] : List Int).map vI))]
@[simp] abbrev K0i : List (Nat × Root) := [(1, .row true 1 (([] : List (List UInt8)).map V.str))]
@[simp] def res_slices_Clone_Sstring_string (r : List (List UInt8)) : RV := .one (.one (.row true 1 (r.map V.str)))
theorem con_slices_Clone_Sstring_string {v0 : List (List UInt8)} {r : List (List UInt8)} (hF : F_slices_Clone_Sstring_string v0 = some r) : Con Tryd.prog 13 [.sl 1 (v0.map V.str)] (res_slices_Clone_Sstring_string r) := by
 unfold F_slices_Clone_Sstring_string at hF
 refine con_of c13_is fun N => ?_
 refine ws 0 64 ?_
 refine qf (.sl 0 0 0) K0h (by simp) ?_
 refine r_nil ?_
 refine w_meet (fun s' => s' = mkS [(0, AL 1 (v0.map V.str))] (fo []) 1 ∧ F_slices_Clone_Sstring_string_j0 v0 = some r) ?_ ?_
 ·
  refine ws 64 192 ?_
  refine qp (AL 1 (v0.map V.str)) rfl ?_
  refine b_case hF (fun z1000 hF => ?_) (fun z1000 hF => ?_)
  ·
   refine qp .ub (isn_e (by simpa using z1000)) ?_
   refine r_nil ?_
   refine w_condUF hF rfl (fun hF => ?_) (fun hF => ?_)
   ·
    refine ws 192 256 ?_
    refine qf (.sl 192 0 0) ((192, .row true 1 (([] : List (List UInt8)).map V.str)) :: K0h) (by simp) ?_
    refine r_nil ?_
    refine w_ret ?_
    refine thenQ_r ?_
    cases hF
    exact eR
   ·
    refine w_skip ?_
    refine thenQ_n ?_
    refine aw_ren (l' := [(0, AL 1 (v0.map V.str))]) (L := []) [0] [] 1 (by first | rfl | simp) (by first | rfl | simp) (by decide) (by decide) (by decide) ⟨rfl, hF⟩
  ·
   refine qp (AB false) (isn_n (by simpa using z1000)) ?_
   refine r_nil ?_
   refine w_false rfl ?_
   refine w_skip ?_
   refine thenQ_n ?_
   refine aw_ren (l' := [(0, AL 1 (v0.map V.str))]) (L := []) [0] [] 1 (by first | rfl | simp) (by first | rfl | simp) (by decide) (by decide) (by decide) ⟨rfl, hF⟩
 ·
  rintro s' ⟨rfl, hF⟩
  unfold F_slices_Clone_Sstring_string_j0 at hF
  refine ws 1 257 ?_
  refine qf (.sl 1 0 0) K0i (by simp [List.take_of_length_le]) ?_
  refine qp (AL 1 (v0.map V.str)) rfl ?_
  obtain ⟨g1001, hF⟩ := need_some hF
  refine qf (.sl 129 0 v0.length) ((129, .row true 1 (v0.map V.str)) :: (1, .dead) :: K0i) (effT_app_v0 rfl (by simp) rfl rfl (fun _ => rfl) g1001) ?_
  refine qp (.sl 129 0 v0.length) rfl ?_
  exact rR hF

def c58 : MC := (.seq (.reg [pT 2 (.mv cf)]) (.seq (.seq (.reg [mvt 5 0, pT 6 (.lens t5), pT 7 (.mv (ci 0))]) (.block 0 (.loop (.seq (.reg [pT 8 (.bin .lss t7 t6)]) (.seq (.cond t8 .skip (.exit 0)) (.seq (.block 1 (.seq (.reg [mvt 9 7, mvt 3 9]) (.seq (.reg [mvt 10 0, mvt 11 3, pT 12 (.ixs t10 t11), mvt 4 12]) (.seq (.reg [mvt 13 4, pT 14 (.bin .lss t13 (.c (.int .u8 97))), mvt 15 14, nF 16 15 t4, kF 17 15 (.bin .gtr t16 (.c (.int .u8 122))), pT 18 (.pick t15 ct t17), mvt 19 18, nT 20 19 t4, kT 21 19 (.bin .lss t20 (.c (.int .u8 48))), nT 22 19 t21, nF 23 22 t4, kF 24 22 (.bin .gtr t23 (.c (.int .u8 57))), kT 25 19 (.pick t22 ct t24), pT 26 (.pick t19 t25 cf)]) (.cond t26 (.seq (.reg [pT 2 (.mv cf)]) .ret) .skip))))) (.reg [pT 27 (.bin .add t7 (ci 1)), mvt 7 27]))))))) (.seq (.reg [pT 2 (.mv ct)]) .ret)))
theorem c58_is : compFn Tryd.prog 58 = some (c58, [(.tmp 2)]) := by kernel_rfl
theorem c58_ok : okFn Tryd.prog 58 = true := by kernel_rfl

noncomputable def F_impl_onlyNameBytes_l0 (v0 : List UInt8) (k0 : Int → Option (Bool)) : Int → Option (Bool)
 | v50001 => (bif (decide (v50001 < (v0.length : Int))) then ((ix v0 v50001).bind fun v1000 => (bif (decide ((v1000.toNat : Int) < (97 : Int))) then (bif (decide ((v1000.toNat : Int) < (48 : Int))) then some false
 else (bif (decide ((57 : Int) < (v1000.toNat : Int))) then some false
 else k0 (w64 (v50001 + 1))))
 else (bif (decide ((122 : Int) < (v1000.toNat : Int))) then (bif (decide ((v1000.toNat : Int) < (48 : Int))) then some false
 else (bif (decide ((57 : Int) < (v1000.toNat : Int))) then some false
 else k0 (w64 (v50001 + 1))))
 else k0 (w64 (v50001 + 1)))))
 else some true)
noncomputable def F_impl_onlyNameBytes (v0 : List UInt8) : Option (Bool) :=
 loop (F_impl_onlyNameBytes_l0 v0) 0
@[simp] def res_impl_onlyNameBytes (r : Bool) : RV := .one (.one (.val (.bool r)))
theorem con_impl_onlyNameBytes {v0 : List UInt8} {r : Bool} (hF : F_impl_onlyNameBytes v0 = some r) : Con Tryd.prog 58 [.str v0] (res_impl_onlyNameBytes r) := by
 unfold F_impl_onlyNameBytes at hF
 refine con_of c58_is fun N => ?_
 refine ws 0 64 ?_
 refine qp (AB false) rfl ?_
 refine r_nil ?_
 refine w_seq ?_
 refine ws 64 256 ?_
 refine qp (AS v0) rfl (qp (AI (v0.length : Int)) rfl (qp (AI 0) rfl ?_))
 refine r_nil ?_
 refine w_block ?_
 refine wr (l' := [(0, AS v0), (6, AI (v0.length : Int)), (7, AI 0)]) (L := []) [0, 6, 7] [] 1 ?_
 refine w_loopF (F_impl_onlyNameBytes_l0 v0) (fun s : Int => mkS [(0, AS v0), (6, AI (v0.length : Int)), (7, AI s)] (fo []) 1) hF ?_
 rintro k0 v50001 hF
 rw [F_impl_onlyNameBytes_l0] at hF
 try dsimp only
 refine ws 1 65 ?_
 refine qp (AB (decide (v50001 < (v0.length : Int)))) rfl ?_
 refine r_nil ?_
 refine w_seq ?_
 refine cF hF (fun hF => ?_) fun hF => ?_
 ·
  refine w_skip ?_
  refine thenQ_n ?_
  refine w_seq ?_
  refine w_block ?_
  refine ws 65 193 ?_
  refine qp (AI v50001) rfl (qp (AI v50001) rfl ?_)
  refine r_nil ?_
  refine ws 193 449 ?_
  refine qp (AS v0) rfl (qp (AI v50001) rfl ?_)
  obtain ⟨v1000, e1000, hF⟩ := bind_get hF
  refine qp (.val none (.int .u8 (v1000.toNat : Int))) (ev_ixs rfl rfl e1000) (qp (.val none (.int .u8 (v1000.toNat : Int))) rfl ?_)
  refine r_nil ?_
  refine ws 449 1345 ?_
  refine qp (.val none (.int .u8 (v1000.toNat : Int))) rfl (qp (AB (decide ((v1000.toNat : Int) < (97 : Int)))) rfl (qp (AB (decide ((v1000.toNat : Int) < (97 : Int)))) rfl ?_))
  refine q_case 15 hF rfl (fun hF => ?_) (fun hF => ?_)
  ·
   refine qn2 (qp (AB true) rfl (qp (AB true) rfl (qg (.val none (.int .u8 (v1000.toNat : Int))) rfl rfl (qg (AB (decide ((v1000.toNat : Int) < (48 : Int)))) rfl rfl (qg (AB (decide ((v1000.toNat : Int) < (48 : Int)))) rfl rfl ?_)))))
   refine q_case 22 hF rfl (fun hF => ?_) (fun hF => ?_)
   ·
    refine qn2 (qg (AB true) rfl rfl (qp (AB true) rfl ?_))
    refine r_nil ?_
    refine w_true rfl ?_
    refine ws 1345 1409 ?_
    refine qp (AB false) rfl ?_
    refine r_nil ?_
    refine w_ret ?_
    refine blockQ_r ?_
    refine thenQ_r ?_
    refine thenQ_r ?_
    refine blockQ_r ?_
    refine thenQ_r ?_
    cases hF
    exact eR
   ·
    refine qg (.val none (.int .u8 (v1000.toNat : Int))) rfl rfl (qg (AB (decide ((57 : Int) < (v1000.toNat : Int)))) rfl rfl (qg (AB (decide ((57 : Int) < (v1000.toNat : Int)))) rfl rfl (qp (AB (decide ((57 : Int) < (v1000.toNat : Int)))) rfl ?_)))
    refine r_nil ?_
    refine cF hF (fun hF => ?_) fun hF => ?_
    ·
     refine ws 1345 1409 ?_
     refine qp (AB false) rfl ?_
     refine r_nil ?_
     refine w_ret ?_
     refine blockQ_r ?_
     refine thenQ_r ?_
     refine thenQ_r ?_
     refine blockQ_r ?_
     refine thenQ_r ?_
     cases hF
     exact eR
    ·
     refine w_skip ?_
     refine blockQ_n ?_
     refine thenQ_n ?_
     refine w_reg 1345 1473 rfl rfl ?_
     refine qp (AI (w64 (v50001 + 1))) rfl (qp (AI (w64 (v50001 + 1))) rfl ?_)
     refine r_nil ?_
     refine thenQ_n ?_
     refine ar (l' := [(0, AS v0), (6, AI (v0.length : Int)), (7, AI (w64 (v50001 + 1)))]) (L := []) [0, 6, 7] [] 1 ⟨_, by rfl, hF⟩
  ·
   refine qg (.val none (.int .u8 (v1000.toNat : Int))) rfl rfl (qg (AB (decide ((122 : Int) < (v1000.toNat : Int)))) rfl rfl (qp (AB (decide ((122 : Int) < (v1000.toNat : Int)))) rfl (qp (AB (decide ((122 : Int) < (v1000.toNat : Int)))) rfl ?_)))
   refine q_case 19 hF rfl (fun hF => ?_) (fun hF => ?_)
   ·
    refine qg (.val none (.int .u8 (v1000.toNat : Int))) rfl rfl (qg (AB (decide ((v1000.toNat : Int) < (48 : Int)))) rfl rfl (qg (AB (decide ((v1000.toNat : Int) < (48 : Int)))) rfl rfl ?_))
    refine q_case 22 hF rfl (fun hF => ?_) (fun hF => ?_)
    ·
     refine qn2 (qg (AB true) rfl rfl (qp (AB true) rfl ?_))
     refine r_nil ?_
     refine w_true rfl ?_
     refine ws 1345 1409 ?_
     refine qp (AB false) rfl ?_
     refine r_nil ?_
     refine w_ret ?_
     refine blockQ_r ?_
     refine thenQ_r ?_
     refine thenQ_r ?_
     refine blockQ_r ?_
     refine thenQ_r ?_
     cases hF
     exact eR
    ·
     refine qg (.val none (.int .u8 (v1000.toNat : Int))) rfl rfl (qg (AB (decide ((57 : Int) < (v1000.toNat : Int)))) rfl rfl (qg (AB (decide ((57 : Int) < (v1000.toNat : Int)))) rfl rfl (qp (AB (decide ((57 : Int) < (v1000.toNat : Int)))) rfl ?_)))
     refine r_nil ?_
     refine cF hF (fun hF => ?_) fun hF => ?_
     ·
      refine ws 1345 1409 ?_
      refine qp (AB false) rfl ?_
      refine r_nil ?_
      refine w_ret ?_
      refine blockQ_r ?_
      refine thenQ_r ?_
      refine thenQ_r ?_
      refine blockQ_r ?_
      refine thenQ_r ?_
      cases hF
      exact eR
     ·
      refine w_skip ?_
      refine blockQ_n ?_
      refine thenQ_n ?_
      refine w_reg 1345 1473 rfl rfl ?_
      refine qp (AI (w64 (v50001 + 1))) rfl (qp (AI (w64 (v50001 + 1))) rfl ?_)
      refine r_nil ?_
      refine thenQ_n ?_
      refine ar (l' := [(0, AS v0), (6, AI (v0.length : Int)), (7, AI (w64 (v50001 + 1)))]) (L := []) [0, 6, 7] [] 1 ⟨_, by rfl, hF⟩
   ·
    refine qn3 (qu rfl (qu rfl (qn rfl (qp (AB false) rfl ?_))))
    refine r_nil ?_
    refine w_false rfl ?_
    refine w_skip ?_
    refine blockQ_n ?_
    refine thenQ_n ?_
    refine w_reg 1345 1473 rfl rfl ?_
    refine qp (AI (w64 (v50001 + 1))) rfl (qp (AI (w64 (v50001 + 1))) rfl ?_)
    refine r_nil ?_
    refine thenQ_n ?_
    refine ar (l' := [(0, AS v0), (6, AI (v0.length : Int)), (7, AI (w64 (v50001 + 1)))]) (L := []) [0, 6, 7] [] 1 ⟨_, by rfl, hF⟩
 ·
  refine w_exit ?_
  refine thenQ_e ?_
  refine thenQ_e ?_
  refine blockQ_e ?_
  refine thenQ_n ?_
  refine ws 65 129 ?_
  refine qp (AB true) rfl ?_
  exact rR hF

def c40 : MC := (.seq (.reg [pT 2 (.mv cf)]) (.seq (.seq (.reg [mvt 3 0, pT 4 (.lens t3), pT 5 (.bin .lss t4 (ci 1)), mvt 6 5, nF 7 6 t0, kF 8 6 (.lens t7), kF 9 6 (.bin .gtr t8 (ci 10)), pT 10 (.pick t6 ct t9), mvt 11 10, nF 12 11 t0, kF 13 11 (.ixs t12 (ci 0)), kF 14 11 (.bin .lss t13 (.c (.int .u8 97))), pT 15 (.pick t11 ct t14), mvt 16 15, nF 17 16 t0, kF 18 16 (.ixs t17 (ci 0)), kF 19 16 (.bin .gtr t18 (.c (.int .u8 122))), pT 20 (.pick t16 ct t19)]) (.cond t20 (.seq (.reg [pT 2 (.mv cf)]) .ret) .skip)) (.seq (.reg [mvt 21 0, rg 22 (.call true 58 [t21]), mvt 2 22]) .ret)))
theorem c40_is : compFn Tryd.prog 40 = some (c40, [(.tmp 2)]) := by kernel_rfl
theorem c40_ok : okFn Tryd.prog 40 = true := by kernel_rfl

noncomputable def F_impl_IsName (v0 : List UInt8) : Option (Bool) :=
 (bif (decide ((v0.length : Int) < (1 : Int))) then some false
 else (bif (decide ((10 : Int) < (v0.length : Int))) then some false
 else ((ix v0 0).bind fun v1000 => (bif (decide ((v1000.toNat : Int) < (97 : Int))) then some false
 else ((ix v0 0).bind fun v1001 => (bif (decide ((122 : Int) < (v1001.toNat : Int))) then some false
 else ((F_impl_onlyNameBytes v0).bind fun v1002 => some v1002)))))))
@[simp] def res_impl_IsName (r : Bool) : RV := .one (.one (.val (.bool r)))
theorem con_impl_IsName {v0 : List UInt8} {r : Bool} (hF : F_impl_IsName v0 = some r) : Con Tryd.prog 40 [.str v0] (res_impl_IsName r) := by
 unfold F_impl_IsName at hF
 refine con_of c40_is fun N => ?_
 refine ws 0 64 ?_
 refine qp (AB false) rfl ?_
 refine r_nil ?_
 refine w_seq ?_
 refine ws 64 1216 ?_
 refine qp (AS v0) rfl (qp (AI (v0.length : Int)) rfl (qp (AB (decide ((v0.length : Int) < (1 : Int)))) rfl (qp (AB (decide ((v0.length : Int) < (1 : Int)))) rfl ?_)))
 refine q_case 6 hF rfl (fun hF => ?_) (fun hF => ?_)
 ·
  refine qn3 (qp (AB true) rfl (qp (AB true) rfl (qn3 ?_)))
  refine qp (AB true) rfl (qp (AB true) rfl (qn3 (qp (AB true) rfl ?_)))
  refine r_nil ?_
  refine w_true rfl ?_
  refine ws 1216 1280 ?_
  refine qp (AB false) rfl ?_
  refine r_nil ?_
  refine w_ret ?_
  refine thenQ_r ?_
  cases hF
  exact eR
 ·
  refine qg (AS v0) rfl rfl (qg (AI (v0.length : Int)) rfl rfl (qg (AB (decide ((10 : Int) < (v0.length : Int)))) rfl rfl (qp (AB (decide ((10 : Int) < (v0.length : Int)))) rfl (qp (AB (decide ((10 : Int) < (v0.length : Int)))) rfl ?_))))
  refine q_case 11 hF rfl (fun hF => ?_) (fun hF => ?_)
  ·
   refine qn3 (qp (AB true) rfl (qp (AB true) rfl (qn3 ?_)))
   refine qp (AB true) rfl ?_
   refine r_nil ?_
   refine w_true rfl ?_
   refine ws 1216 1280 ?_
   refine qp (AB false) rfl ?_
   refine r_nil ?_
   refine w_ret ?_
   refine thenQ_r ?_
   cases hF
   exact eR
  ·
   refine qg (AS v0) rfl rfl ?_
   obtain ⟨v1000, e1000, hF⟩ := bind_get hF
   refine qg (.val none (.int .u8 (v1000.toNat : Int))) rfl (ev_ixs rfl rfl e1000) (qg (AB (decide ((v1000.toNat : Int) < (97 : Int)))) rfl rfl (qp (AB (decide ((v1000.toNat : Int) < (97 : Int)))) rfl (qp (AB (decide ((v1000.toNat : Int) < (97 : Int)))) rfl ?_)))
   refine q_case 16 hF rfl (fun hF => ?_) (fun hF => ?_)
   ·
    refine qn3 (qp (AB true) rfl ?_)
    refine r_nil ?_
    refine w_true rfl ?_
    refine ws 1216 1280 ?_
    refine qp (AB false) rfl ?_
    refine r_nil ?_
    refine w_ret ?_
    refine thenQ_r ?_
    cases hF
    exact eR
   ·
    refine qg (AS v0) rfl rfl ?_
    obtain ⟨v1001, e1001, hF⟩ := bind_get hF
    refine qg (.val none (.int .u8 (v1001.toNat : Int))) rfl (ev_ixs rfl rfl e1001) (qg (AB (decide ((122 : Int) < (v1001.toNat : Int)))) rfl rfl (qp (AB (decide ((122 : Int) < (v1001.toNat : Int)))) rfl ?_))
    refine r_nil ?_
    refine cF hF (fun hF => ?_) fun hF => ?_
    ·
     refine ws 1216 1280 ?_
     refine qp (AB false) rfl ?_
     refine r_nil ?_
     refine w_ret ?_
     refine thenQ_r ?_
     cases hF
     exact eR
    ·
     refine w_skip ?_
     refine thenQ_n ?_
     refine ws 1216 1408 ?_
     refine qp (AS v0) rfl ?_
     obtain ⟨v1002, e1002, hF⟩ := bind_get hF
     refine qc (AB v1002) [] false (con_impl_onlyNameBytes e1002) c58_ok (by first | rfl | simp) rfl ?_
     refine qp (AB v1002) rfl ?_
     exact rR hF

def c41 : MC := (.seq (.reg [pT 6 (.mv cf)]) (.seq (.reg [mvt 7 0, mvt 8 1, pT 9 (.bin .geq t7 t8), mvt 10 9, nT 11 10 t0, nT 12 10 t2, kT 13 10 (.bin .leq t11 t12), pT 14 (.pick t10 t13 cf), mvt 6 14]) .ret))
theorem c41_is : compFn Tryd.prog 41 = some (c41, [(.tmp 6)]) := by kernel_rfl
theorem c41_ok : okFn Tryd.prog 41 = true := by kernel_rfl

noncomputable def F_impl_within (v0 : Int) (v1 : Int) (v2 : Int) : Option (Bool) :=
 (bif (decide (v1 ≤ v0)) then some (decide (v0 ≤ v2))
 else some false)
@[simp] def res_impl_within (r : Bool) : RV := .one (.one (.val (.bool r)))
theorem con_impl_within {v0 : Int} {v1 : Int} {v2 : Int} {r : Bool} (hF : F_impl_within v0 v1 v2 = some r) : Con Tryd.prog 41 [.int .i64 v0, .int .i64 v1, .int .i64 v2] (res_impl_within r) := by
 unfold F_impl_within at hF
 refine con_of c41_is fun N => ?_
 refine ws 0 64 ?_
 refine qp (AB false) rfl ?_
 refine r_nil ?_
 refine ws 64 640 ?_
 refine qp (AI v0) rfl (qp (AI v1) rfl (qp (AB (decide (v1 ≤ v0))) rfl (qp (AB (decide (v1 ≤ v0))) rfl ?_)))
 refine q_case 10 hF rfl (fun hF => ?_) (fun hF => ?_)
 ·
  refine qg (AI v0) rfl rfl (qg (AI v2) rfl rfl (qg (AB (decide (v0 ≤ v2))) rfl rfl (qp (AB (decide (v0 ≤ v2))) rfl (qp (AB (decide (v0 ≤ v2))) rfl ?_))))
  exact rR hF
 ·
  refine qn3 (qp (AB false) rfl (qp (AB false) rfl ?_))
  exact rR hF

def c60 : MC := (.seq (.reg [rg 2 (.f (.box t0)), pT 3 (.mv cf)]) (.seq (.reg [pT 4 (.fad t2 0), pT 5 (.ld t4 1 false), pT 6 (.ld t1 1 false), pT 7 (.bin .eql t5 t6), mvt 3 7]) .ret))
theorem c60_is : compFn Tryd.prog 60 = some (c60, [(.tmp 3)]) := by kernel_rfl
theorem c60_ok : okFn Tryd.prog 60 = true := by kernel_rfl

noncomputable def F_impl_personAt_1 (v0 : TPerson) (v1 : List UInt8) : Option (Bool) :=
 some (decide (v0.1 = v1))
@[simp] def res_impl_personAt_1 (r : Bool) : RV := .one (.one (.val (.bool r)))
theorem con_impl_personAt_1 {v0 : TPerson} {v1 : List UInt8} {r : Bool} (hF : F_impl_personAt_1 v0 v1 = some r) : Con Tryd.prog 60 [ePerson v0, .ptr [.str v1]] (res_impl_personAt_1 r) := by
 unfold F_impl_personAt_1 at hF
 refine con_of c60_is fun N => ?_
 refine ws 0 128 ?_
 refine qf (.ptr 0 0 0) [(0, .box [AS v0.1, AI v0.2.1, AL 1 (v0.2.2.map V.str)])] (by simp) ?_
 refine qp (AB false) rfl ?_
 refine r_nil ?_
 refine ws 128 448 ?_
 refine qp (.ptr 0 0 0) rfl (qp (AS v0.1) rfl (qp (AS v1) rfl (qp (AB (decide (v0.1 = v1))) rfl (qp (AB (decide (v0.1 = v1))) rfl ?_))))
 exact rR hF

def c59 : MC := (.seq (.reg [pT 4 (.mv (ci 0))]) (.seq (.seq (.reg [mvt 6 0, pT 7 (.len t6), pT 8 (.mv (ci 0))]) (.block 0 (.loop (.seq (.reg [pT 9 (.bin .lss t8 t7)]) (.seq (.cond t9 .skip (.exit 0)) (.seq (.block 1 (.seq (.reg [mvt 10 8, mvt 5 10]) (.seq (.reg [mvt 11 1, mvt 12 0, mvt 13 5, pT 14 (.iad t12 t13 3), pT 15 (.ld t14 3 true), rg 16 (.callv t11 [t15])]) (.cond t16 (.seq (.reg [mvt 17 5, mvt 4 17]) .ret) .skip)))) (.reg [pT 18 (.bin .add t8 (ci 1)), mvt 8 18]))))))) (.seq (.reg [pT 4 (.mv (ci (-1)))]) .ret)))
theorem c59_is : compFn Tryd.prog 59 = some (c59, [(.tmp 4)]) := by kernel_rfl
theorem c59_ok : okFn Tryd.prog 59 = true := by kernel_rfl

noncomputable def F_slices_IndexFunc_SPerson_Person_l0 (v0 : List TPerson) (v1 : List UInt8) (k0 : Int → Option (Int)) : Int → Option (Int)
 | v50001 => (bif (decide (v50001 < (v0.length : Int))) then ((ix v0 v50001).bind fun v1000 => ((F_impl_personAt_1 v1000 v1).bind fun v1001 => (bif v1001 then some v50001
 else k0 (w64 (v50001 + 1)))))
 else some (-1))
noncomputable def F_slices_IndexFunc_SPerson_Person (v0 : List TPerson) (v1 : List UInt8) : Option (Int) :=
 loop (F_slices_IndexFunc_SPerson_Person_l0 v0 v1) 0
@[simp] def res_slices_IndexFunc_SPerson_Person (r : Int) : RV := .one (.one (.val (.int .i64 r)))
theorem con_slices_IndexFunc_SPerson_Person {v0 : List TPerson} {v1 : List UInt8} {r : Int} (hF : F_slices_IndexFunc_SPerson_Person v0 v1 = some r) : Con Tryd.prog 59 [.sl 3 (v0.map ePerson), .fn 60 [.ptr [.str v1]]] (res_slices_IndexFunc_SPerson_Person r) := by
 unfold F_slices_IndexFunc_SPerson_Person at hF
 refine con_of c59_is fun N => ?_
 refine ws 0 64 ?_
 refine qp (AI 0) rfl ?_
 refine r_nil ?_
 refine w_seq ?_
 refine ws 64 256 ?_
 refine qp (AL 3 (v0.map ePerson)) rfl (qp (AI (v0.length : Int)) (ev_len_n rfl) (qp (AI 0) rfl ?_))
 refine r_nil ?_
 refine w_block ?_
 refine wr (l' := [(0, AL 3 (v0.map ePerson)), (1, .val none (.fn 60 [.ptr [.str v1]])), (7, AI (v0.length : Int)), (8, AI 0)]) (L := []) [0, 1, 7, 8] [] 1 ?_
 refine w_loopF (F_slices_IndexFunc_SPerson_Person_l0 v0 v1) (fun s : Int => mkS [(0, AL 3 (v0.map ePerson)), (1, .val none (.fn 60 [.ptr [.str v1]])), (7, AI (v0.length : Int)), (8, AI s)] (fo []) 1) hF ?_
 rintro k0 v50001 hF
 rw [F_slices_IndexFunc_SPerson_Person_l0] at hF
 try dsimp only
 refine ws 1 65 ?_
 refine qp (AB (decide (v50001 < (v0.length : Int)))) rfl ?_
 refine r_nil ?_
 refine w_seq ?_
 refine cF hF (fun hF => ?_) fun hF => ?_
 ·
  refine w_skip ?_
  refine thenQ_n ?_
  refine w_seq ?_
  refine w_block ?_
  refine ws 65 193 ?_
  refine qp (AI v50001) rfl (qp (AI v50001) rfl ?_)
  refine r_nil ?_
  refine ws 193 577 ?_
  refine qp (.val none (.fn 60 [.ptr [.str v1]])) rfl (qp (AL 3 (v0.map ePerson)) rfl (qp (AI v50001) rfl ?_))
  obtain ⟨v1000, e1000, hF⟩ := bind_get hF
  refine qp (.val none (.ptr [.str v1000.1, .int .i64 v1000.2.1, .sl 1 (v1000.2.2.map V.str)])) (ev_iad_n rfl rfl e1000 rfl) (qp (.val none (ePerson v1000)) rfl ?_)
  obtain ⟨v1001, e1001, hF⟩ := bind_get hF
  refine qcv (AB v1001) [] false rfl (con_impl_personAt_1 e1001) c60_ok (by first | rfl | simp) rfl ?_
  refine r_nil ?_
  refine cF hF (fun hF => ?_) fun hF => ?_
  ·
   refine ws 577 705 ?_
   refine qp (AI v50001) rfl (qp (AI v50001) rfl ?_)
   refine r_nil ?_
   refine w_ret ?_
   refine blockQ_r ?_
   refine thenQ_r ?_
   refine thenQ_r ?_
   refine blockQ_r ?_
   refine thenQ_r ?_
   cases hF
   exact eR
  ·
   refine w_skip ?_
   refine blockQ_n ?_
   refine thenQ_n ?_
   refine w_reg 577 705 rfl rfl ?_
   refine qp (AI (w64 (v50001 + 1))) rfl (qp (AI (w64 (v50001 + 1))) rfl ?_)
   refine r_nil ?_
   refine thenQ_n ?_
   refine ar (l' := [(0, AL 3 (v0.map ePerson)), (1, .val none (.fn 60 [.ptr [.str v1]])), (7, AI (v0.length : Int)), (8, AI (w64 (v50001 + 1)))]) (L := []) [0, 1, 7, 8] [] 1 ⟨_, by rfl, hF⟩
 ·
  refine w_exit ?_
  refine thenQ_e ?_
  refine thenQ_e ?_
  refine blockQ_e ?_
  refine thenQ_n ?_
  refine ws 65 129 ?_
  refine qp (AI (-1)) rfl ?_
  exact rR hF

def c42 : MC := (.seq (.reg [rg 3 (.f (.box t1)), pT 4 (.mv (ci 0))]) (.seq (.reg [mvt 5 0, pT 6 (.mkf 60 [t3]), rg 7 (.call true 59 [t5, t6]), mvt 4 7]) .ret))
theorem c42_is : compFn Tryd.prog 42 = some (c42, [(.tmp 4)]) := by kernel_rfl
theorem c42_ok : okFn Tryd.prog 42 = true := by kernel_rfl

noncomputable def F_impl_personAt (v0 : List TPerson) (v1 : List UInt8) : Option (Int) :=
 ((F_slices_IndexFunc_SPerson_Person v0 v1).bind fun v1000 => some v1000)
@[simp] def res_impl_personAt (r : Int) : RV := .one (.one (.val (.int .i64 r)))
theorem con_impl_personAt {v0 : List TPerson} {v1 : List UInt8} {r : Int} (hF : F_impl_personAt v0 v1 = some r) : Con Tryd.prog 42 [.sl 3 (v0.map ePerson), .str v1] (res_impl_personAt r) := by
 unfold F_impl_personAt at hF
 refine con_of c42_is fun N => ?_
 refine ws 0 128 ?_
 refine qf (.ptr 0 0 0) [(0, .box [AS v1])] (by simp) ?_
 refine qp (AI 0) rfl ?_
 refine r_nil ?_
 refine ws 128 384 ?_
 refine qp (AL 3 (v0.map ePerson)) rfl (qp (.fn 60 [.ptr 0 0 0]) rfl ?_)
 obtain ⟨v1000, e1000, hF⟩ := bind_get hF
 refine qc (AI v1000) [(0, .box [AS v1])] true (con_slices_IndexFunc_SPerson_Person e1000) c59_ok (by simp [List.take_of_length_le]) rfl ?_
 refine qp (AI v1000) rfl ?_
 exact rR hF

def c26 : MC := (.seq (.reg [pT 2 (.mv cf)]) (.seq (.seq (.reg [mvt 8 0, pT 9 (.len t8), pT 10 (.bin .gtr t9 (ci 24))]) (.cond t10 (.seq (.reg [pT 2 (.mv cf)]) .ret) .skip)) (.seq (.seq (.reg [mvt 11 0, pT 12 (.len t11), pT 13 (.mv (ci 0))]) (.block 0 (.loop (.seq (.reg [pT 14 (.bin .lss t13 t12)]) (.seq (.cond t14 .skip (.exit 0)) (.seq (.block 1 (.seq (.reg [mvt 15 13, pT 16 (.iad t11 t13 3), pT 17 (.ld t16 3 true), rg 4 (.f (.alloc [((.str []), (0, false)), ((.int .i64 0), (0, false)), ((.sl 0 []), (1, false))])), mvt 3 15, ⟨none, none, (.f (.st t4 t17 3))⟩]) (.seq (.seq (.reg [pF 18 (.fad t4 0), pF 19 (.ld t18 1 false), rg 20 (.call false 40 [t19]), pF 21 (.not t20), mP 22 t21, gF 23 22 (.fad t4 1), gF 24 22 (.ld t23 1 false), ⟨(some 25), (some (22, false)), (.call false 41 [t24, (ci 0), (ci 3000)])⟩, gF 26 22 (.not t25), pF 27 (.pick t22 ct t26), mP 28 t27, gF 29 28 (.fad t4 2), gF 30 28 (.ld t29 1 false), gF 31 28 (.len t30), gF 32 28 (.bin .gtr t31 (ci 4)), pF 33 (.pick t28 ct t32), mP 34 t33, mF 35 34 t3, gF 36 34 (.bin .gtr t35 (ci 0)), mF 37 34 t36, gT 38 37 (.fad t4 0), gT 39 37 (.ld t38 1 false), mT 40 37 t0, mT 41 37 t3, gT 42 37 (.bin .sub t41 (ci 1)), gT 43 37 (.iad t40 t42 3), gT 44 37 (.fad t43 0), gT 45 37 (.ld t44 1 false), gT 46 37 (.bin .leq t39 t45), gF 47 34 (.pick t37 t46 cf), pF 48 (.pick t34 ct t47)]) (.cond t48 (.seq (.reg [pT 2 (.mv cf)]) .ret) .skip)) (.seq (.reg [pT 49 (.fad t4 2), pT 50 (.ld t49 1 false), pT 51 (.len t50), pT 52 (.mv (ci 0))]) (.block 2 (.loop (.seq (.reg [pT 53 (.bin .lss t52 t51)]) (.seq (.cond t53 .skip (.exit 2)) (.seq (.block 3 (.seq (.reg [mvt 54 52, pT 55 (.iad t50 t52 1), pT 56 (.ld t55 1 false), mvt 5 54, mvt 6 56]) (.seq (.reg [mvt 57 0, mvt 58 6, rg 59 (.call true 42 [t57, t58]), mvt 7 59]) (.seq (.reg [mP 60 t7, pF 61 (.bin .lss t60 (ci 0)), mP 62 t61, mF 63 62 t0, mF 64 62 t7, gF 65 62 (.iad t63 t64 3), gF 66 62 (.fad t65 1), gF 67 62 (.ld t66 1 false), gF 68 62 (.fad t4 1), gF 69 62 (.ld t68 1 false), gF 70 62 (.bin .geq t67 t69), pF 71 (.pick t62 ct t70), mP 72 t71, mF 73 72 t5, gF 74 72 (.bin .gtr t73 (ci 0)), mF 75 72 t74, mT 76 75 t6, gT 77 75 (.fad t4 2), gT 78 75 (.ld t77 1 false), mT 79 75 t5, gT 80 75 (.bin .sub t79 (ci 1)), gT 81 75 (.iad t78 t80 1), gT 82 75 (.ld t81 1 false), gT 83 75 (.bin .leq t76 t82), gF 84 72 (.pick t75 t83 cf), pF 85 (.pick t72 ct t84)]) (.cond t85 (.seq (.reg [pT 2 (.mv cf)]) .ret) .skip))))) (.reg [pT 86 (.bin .add t52 (ci 1)), mvt 52 86])))))))))) (.reg [pT 87 (.bin .add t13 (ci 1)), mvt 13 87]))))))) (.seq (.reg [pT 2 (.mv ct)]) .ret))))
theorem c26_is : compFn Tryd.prog 26 = some (c26, [(.tmp 2)]) := by kernel_rfl
theorem c26_ok : okFn Tryd.prog 26 = true := by kernel_rfl

noncomputable def F_impl_ValidPersons_l2 (v0 : List TPerson) (v1000 : TPerson) (v50005 : Int) (k2 : Int → Option (Bool)) (k4 : Int → Option (Bool)) : Int → Option (Bool)
 | v50009 => (bif (decide (v50009 < (v1000.2.2.length : Int))) then ((ix v1000.2.2 v50009).bind fun v1007 => ((F_impl_personAt v0 v1007).bind fun v1008 => (bif (decide (v1008 < (0 : Int))) then some false
 else ((ix v0 v1008).bind fun v1009 => (bif (decide (v1000.2.1 ≤ v1009.2.1)) then some false
 else (bif (decide ((0 : Int) < v50009)) then ((ix v1000.2.2 (w64 (v50009 - 1))).bind fun v1010 => (bif (Op.bytesLess v1007 v1010 || decide (v1007 = v1010)) then some false
 else k4 (w64 (v50009 + 1))))
 else k4 (w64 (v50009 + 1))))))))
 else k2 (w64 (v50005 + 1)))
noncomputable def F_impl_ValidPersons_j1 (v0 : List TPerson) (v1000 : TPerson) (v50005 : Int) (k2 : Int → Option (Bool)) : Option (Bool) :=
 loop (F_impl_ValidPersons_l2 v0 v1000 v50005 k2) 0
noncomputable def F_impl_ValidPersons_l0 (v0 : List TPerson) (k2 : Int → Option (Bool)) : Int → Option (Bool)
 | v50005 => (bif (decide (v50005 < (v0.length : Int))) then ((ix v0 v50005).bind fun v1000 => ((F_impl_IsName v1000.1).bind fun v1004 => (bif (!v1004) then some false
 else ((F_impl_within v1000.2.1 0 3000).bind fun v1005 => (bif (!v1005) then some false
 else (bif (decide ((4 : Int) < (v1000.2.2.length : Int))) then some false
 else (bif (decide ((0 : Int) < v50005)) then ((ix v0 (w64 (v50005 - 1))).bind fun v1006 => (bif (Op.bytesLess v1000.1 v1006.1 || decide (v1000.1 = v1006.1)) then some false
 else F_impl_ValidPersons_j1 v0 v1000 v50005 k2))
 else F_impl_ValidPersons_j1 v0 v1000 v50005 k2)))))))
 else some true)
noncomputable def F_impl_ValidPersons (v0 : List TPerson) : Option (Bool) :=
 (bif (decide ((24 : Int) < (v0.length : Int))) then some false
 else loop (F_impl_ValidPersons_l0 v0) 0)
@[simp] abbrev K0o (v1000 : TPerson) : V := .sl 1 (v1000.2.2.map V.str)
@[simp] abbrev K0j (v1000 : TPerson) : List (Nat × Root) := [(0, .box [AS v1000.1, AI v1000.2.1, .val none (K0o v1000)])]
@[simp] abbrev K0k : List (Nat × Root) := [(257, .box [AS [], AI 0, .sl 258 0 0]), (258, .row true 1 (([] : List Int).map vI))]
@[simp] abbrev K0l (v1000 : TPerson) : List (Nat × Root) := ((257, .box [AS v1000.1, AI v1000.2.1, .val none (K0o v1000)]) :: K0k)
@[simp] abbrev K0m (v0 : List TPerson) : V := .sl 3 (v0.map ePerson)
@[simp] abbrev K0r (v0 : List TPerson) : Nat × AV := (0, .val none (K0m v0))
@[simp] abbrev K0q (v0 : List TPerson) : Nat × AV := (11, .val none (K0m v0))
@[simp] abbrev K0p (v0 : List TPerson) : Nat × AV := (12, AI (v0.length : Int))
@[simp] abbrev K0n (v0 : List TPerson) (v50005 : Int) : List (Nat × AV) := [(K0r v0), (4, .ptr 0 0 0), (K0q v0), (K0p v0), (13, AI v50005)]
@[simp] def res_impl_ValidPersons (r : Bool) : RV := .one (.one (.val (.bool r)))
theorem con_impl_ValidPersons {v0 : List TPerson} {r : Bool} (hF : F_impl_ValidPersons v0 = some r) : Con Tryd.prog 26 [.sl 3 (v0.map ePerson)] (res_impl_ValidPersons r) := by
 unfold F_impl_ValidPersons at hF
 refine con_of c26_is fun N => ?_
 refine ws 0 64 ?_
 refine qp (AB false) rfl ?_
 refine r_nil ?_
 refine w_seq ?_
 refine ws 64 256 ?_
 refine qp (.val none (K0m v0)) rfl (qp (AI (v0.length : Int)) (ev_len_n rfl) (qp (AB (decide ((24 : Int) < (v0.length : Int)))) rfl ?_))
 refine r_nil ?_
 refine cF hF (fun hF => ?_) fun hF => ?_
 ·
  refine ws 256 320 ?_
  refine qp (AB false) rfl ?_
  refine r_nil ?_
  refine w_ret ?_
  refine thenQ_r ?_
  cases hF
  exact eR
 ·
  refine w_skip ?_
  refine thenQ_n ?_
  refine w_seq ?_
  refine ws 256 448 ?_
  refine qp (.val none (K0m v0)) rfl (qp (AI (v0.length : Int)) (ev_len_n rfl) (qp (AI 0) rfl ?_))
  refine r_nil ?_
  refine w_block ?_
  refine wr (l' := [(K0r v0), (K0q v0), (K0p v0), (13, AI 0)]) (L := []) [0, 11, 12, 13] [] 1 ?_
  refine w_loopF (F_impl_ValidPersons_l0 v0) (fun s : Int => mkS [(K0r v0), (K0q v0), (K0p v0), (13, AI s)] (fo []) 1) hF ?_
  rintro k2 v50005 hF
  rw [F_impl_ValidPersons_l0] at hF
  try dsimp only
  refine ws 1 65 ?_
  refine qp (AB (decide (v50005 < (v0.length : Int)))) rfl ?_
  refine r_nil ?_
  refine w_seq ?_
  refine cF hF (fun hF => ?_) fun hF => ?_
  ·
   refine w_skip ?_
   refine thenQ_n ?_
   refine w_seq ?_
   refine w_block ?_
   refine ws 65 449 ?_
   refine qp (AI v50005) rfl ?_
   obtain ⟨v1000, e1000, hF⟩ := bind_get hF
   refine qp (.val none (.ptr [.str v1000.1, .int .i64 v1000.2.1, .sl 1 (v1000.2.2.map V.str)])) (ev_iad_n rfl rfl e1000 rfl) (qp (.val none (ePerson v1000)) rfl ?_)
   refine qf (.ptr 257 0 0) K0k (by simp) ?_
   refine qp (AI v50005) rfl ?_
   refine qf0 (.undef) (K0l v1000) (by simp) ?_
   refine r_nil ?_
   refine w_meet (fun s' => s' = mkS (K0n v0 v50005) (fo (K0j v1000)) 1 ∧ F_impl_ValidPersons_j1 v0 v1000 v50005 k2 = some r) ?_ ?_
   ·
    refine ws 449 2433 ?_
    refine qp (.ptr 257 0 0) rfl (qp (AS v1000.1) rfl ?_)
    obtain ⟨v1004, e1004, hF⟩ := bind_get hF
    refine qc (AB v1004) (K0l v1000) false (con_impl_IsName e1004) c40_ok (by first | rfl | simp) rfl ?_
    refine qp (AB (!v1004)) rfl (qp (AB (!v1004)) rfl ?_)
    refine q_case 22 hF rfl (fun hF => ?_) (fun hF => ?_)
    ·
     refine qn4 (qp (AB true) rfl (qp (AB true) rfl (qn2 ?_)))
     refine qn2 (qp (AB true) rfl (qp (AB true) rfl (qn3 (qu rfl ?_))))
     refine qu rfl (qu rfl (qu rfl (qu rfl (qu rfl (qu rfl (qu rfl (qu rfl ?_)))))))
     refine qn rfl (qp (AB true) rfl ?_)
     refine r_nil ?_
     refine w_true rfl ?_
     refine ws 2433 2497 ?_
     refine qp (AB false) rfl ?_
     refine r_nil ?_
     refine w_ret ?_
     refine thenQ_r ?_
     refine blockQ_r ?_
     refine thenQ_r ?_
     refine thenQ_r ?_
     refine blockQ_r ?_
     refine thenQ_r ?_
     cases hF
     exact eR
    ·
     refine qg (.ptr 257 0 1) rfl rfl (qg (AI v1000.2.1) rfl rfl ?_)
     obtain ⟨v1005, e1005, hF⟩ := bind_get hF
     refine qcg (AB v1005) (K0l v1000) false rfl (con_impl_within e1005) c41_ok (by first | rfl | simp) rfl ?_
     refine qg (AB (!v1005)) rfl rfl (qp (AB (!v1005)) rfl (qp (AB (!v1005)) rfl ?_))
     refine q_case 28 hF rfl (fun hF => ?_) (fun hF => ?_)
     ·
      refine qn4 (qp (AB true) rfl (qp (AB true) rfl (qn2 ?_)))
      refine qn rfl (qu rfl (qu rfl (qu rfl (qu rfl (qu rfl (qu rfl (qu rfl ?_)))))))
      refine qu rfl (qu rfl (qn rfl (qp (AB true) rfl ?_)))
      refine r_nil ?_
      refine w_true rfl ?_
      refine ws 2433 2497 ?_
      refine qp (AB false) rfl ?_
      refine r_nil ?_
      refine w_ret ?_
      refine thenQ_r ?_
      refine blockQ_r ?_
      refine thenQ_r ?_
      refine thenQ_r ?_
      refine blockQ_r ?_
      refine thenQ_r ?_
      cases hF
      exact eR
     ·
      refine qg (.ptr 257 0 2) rfl rfl (qg (.val none (K0o v1000)) rfl rfl (qg (AI (v1000.2.2.length : Int)) rfl (ev_len_n rfl) (qg (AB (decide ((4 : Int) < (v1000.2.2.length : Int)))) rfl rfl (qp (AB (decide ((4 : Int) < (v1000.2.2.length : Int)))) rfl (qp (AB (decide ((4 : Int) < (v1000.2.2.length : Int)))) rfl ?_)))))
      refine q_case 34 hF rfl (fun hF => ?_) (fun hF => ?_)
      ·
       refine qn3 (qu rfl (qu rfl (qu rfl (qu rfl (qu rfl ?_)))))
       refine qu rfl (qu rfl (qu rfl (qu rfl (qn rfl (qp (AB true) rfl ?_)))))
       refine r_nil ?_
       refine w_true rfl ?_
       refine ws 2433 2497 ?_
       refine qp (AB false) rfl ?_
       refine r_nil ?_
       refine w_ret ?_
       refine thenQ_r ?_
       refine blockQ_r ?_
       refine thenQ_r ?_
       refine thenQ_r ?_
       refine blockQ_r ?_
       refine thenQ_r ?_
       cases hF
       exact eR
      ·
       refine qg (AI v50005) rfl rfl (qg (AB (decide ((0 : Int) < v50005))) rfl rfl (qg (AB (decide ((0 : Int) < v50005))) rfl rfl ?_))
       refine q_case 37 hF rfl (fun hF => ?_) (fun hF => ?_)
       ·
        refine qg (.ptr 257 0 0) rfl rfl (qg (AS v1000.1) rfl rfl (qg (.val none (K0m v0)) rfl rfl (qg (AI v50005) rfl rfl (qg (AI (w64 (v50005 - 1))) rfl rfl ?_))))
        obtain ⟨v1006, e1006, hF⟩ := bind_get hF
        refine qg (.val none (.ptr [.str v1006.1, .int .i64 v1006.2.1, .sl 1 (v1006.2.2.map V.str)])) rfl (ev_iad_n rfl rfl e1006 rfl) (qg (.val none (.ptr [.str v1006.1, .int .i64 v1006.2.1, .sl 1 (v1006.2.2.map V.str)])) rfl rfl (qg (AS v1006.1) rfl rfl (qg (AB (Op.bytesLess v1000.1 v1006.1 || decide (v1000.1 = v1006.1))) rfl rfl (qg (AB (Op.bytesLess v1000.1 v1006.1 || decide (v1000.1 = v1006.1))) rfl rfl (qp (AB (Op.bytesLess v1000.1 v1006.1 || decide (v1000.1 = v1006.1))) rfl ?_)))))
        refine r_nil ?_
        refine cF hF (fun hF => ?_) fun hF => ?_
        ·
         refine ws 2433 2497 ?_
         refine qp (AB false) rfl ?_
         refine r_nil ?_
         refine w_ret ?_
         refine thenQ_r ?_
         refine blockQ_r ?_
         refine thenQ_r ?_
         refine thenQ_r ?_
         refine blockQ_r ?_
         refine thenQ_r ?_
         cases hF
         exact eR
        ·
         refine w_skip ?_
         refine thenQ_n ?_
         refine aw_ren (l' := (K0n v0 v50005)) (L := (K0j v1000)) [0, 4, 11, 12, 13] [(257, 0)] 1 (by first | rfl | simp) (by first | rfl | simp) (by decide) (by decide) (by decide) ⟨rfl, hF⟩
       ·
        refine qn8 ?_
        refine qn rfl (qg (AB false) rfl rfl (qp (AB false) rfl ?_))
        refine r_nil ?_
        refine w_false rfl ?_
        refine w_skip ?_
        refine thenQ_n ?_
        refine aw_ren (l' := (K0n v0 v50005)) (L := (K0j v1000)) [0, 4, 11, 12, 13] [(257, 0)] 1 (by first | rfl | simp) (by first | rfl | simp) (by decide) (by decide) (by decide) ⟨rfl, hF⟩
   ·
    rintro s' ⟨rfl, hF⟩
    unfold F_impl_ValidPersons_j1 at hF
    refine ws 1 257 ?_
    refine qp (.ptr 0 0 2) rfl (qp (.val none (K0o v1000)) rfl (qp (AI (v1000.2.2.length : Int)) (ev_len_n rfl) (qp (AI 0) rfl ?_)))
    refine r_nil ?_
    refine w_block ?_
    refine w_ren (l' := [(K0r v0), (4, .ptr 0 0 0), (K0q v0), (K0p v0), (13, AI v50005), (50, .val none (K0o v1000)), (51, AI (v1000.2.2.length : Int)), (52, AI 0)]) (L := (K0j v1000)) [0, 4, 11, 12, 13, 50, 51, 52] [(0, 0)] 1 (by first | rfl | simp) (by first | rfl | simp) (by decide) (by decide) (by decide) ?_
    refine w_loopF (F_impl_ValidPersons_l2 v0 v1000 v50005 k2) (fun s : Int => mkS [(K0r v0), (4, .ptr 0 0 0), (K0q v0), (K0p v0), (13, AI v50005), (50, .val none (K0o v1000)), (51, AI (v1000.2.2.length : Int)), (52, AI s)] (fo (K0j v1000)) 1) hF ?_
    rintro k4 v50009 hF
    rw [F_impl_ValidPersons_l2] at hF
    try dsimp only
    refine ws 1 65 ?_
    refine qp (AB (decide (v50009 < (v1000.2.2.length : Int)))) rfl ?_
    refine r_nil ?_
    refine w_seq ?_
    refine cF hF (fun hF => ?_) fun hF => ?_
    ·
     refine w_skip ?_
     refine thenQ_n ?_
     refine w_seq ?_
     refine w_block ?_
     refine ws 65 385 ?_
     refine qp (AI v50009) rfl ?_
     obtain ⟨v1007, e1007, hF⟩ := bind_get hF
     refine qp (.val none (.ptr [.str v1007])) (ev_iad_n rfl rfl e1007 rfl) (qp (AS v1007) rfl (qp (AI v50009) rfl (qp (AS v1007) rfl ?_)))
     refine r_nil ?_
     refine ws 385 641 ?_
     refine qp (.val none (K0m v0)) rfl (qp (AS v1007) rfl ?_)
     obtain ⟨v1008, e1008, hF⟩ := bind_get hF
     refine qc (AI v1008) (K0j v1000) false (con_impl_personAt e1008) c42_ok (by first | rfl | simp) rfl ?_
     refine qp (AI v1008) rfl ?_
     refine r_nil ?_
     refine ws 641 2305 ?_
     refine qp (AI v1008) rfl (qp (AB (decide (v1008 < (0 : Int)))) rfl (qp (AB (decide (v1008 < (0 : Int)))) rfl ?_))
     refine q_case 62 hF rfl (fun hF => ?_) (fun hF => ?_)
     ·
      refine qn8 ?_
      refine qp (AB true) rfl (qp (AB true) rfl (qn3 (qu rfl (qu rfl (qu rfl ?_)))))
      refine qu rfl (qu rfl (qu rfl (qu rfl (qu rfl (qn rfl (qp (AB true) rfl ?_))))))
      refine r_nil ?_
      refine w_true rfl ?_
      refine ws 2305 2369 ?_
      refine qp (AB false) rfl ?_
      refine r_nil ?_
      refine w_ret ?_
      refine blockQ_r ?_
      refine thenQ_r ?_
      refine thenQ_r ?_
      refine blockQ_r ?_
      refine blockQ_r ?_
      refine thenQ_r ?_
      refine thenQ_r ?_
      refine blockQ_r ?_
      refine thenQ_r ?_
      cases hF
      exact eR
     ·
      refine qg (.val none (K0m v0)) rfl rfl (qg (AI v1008) rfl rfl ?_)
      obtain ⟨v1009, e1009, hF⟩ := bind_get hF
      refine qg (.val none (.ptr [.str v1009.1, .int .i64 v1009.2.1, .sl 1 (v1009.2.2.map V.str)])) rfl (ev_iad_n rfl rfl e1009 rfl) (qg (.val none (.ptr [.int .i64 v1009.2.1, .sl 1 (v1009.2.2.map V.str)])) rfl rfl (qg (AI v1009.2.1) rfl rfl (qg (.ptr 0 0 1) rfl rfl (qg (AI v1000.2.1) rfl rfl (qg (AB (decide (v1000.2.1 ≤ v1009.2.1))) rfl rfl (qp (AB (decide (v1000.2.1 ≤ v1009.2.1))) rfl (qp (AB (decide (v1000.2.1 ≤ v1009.2.1))) rfl ?_)))))))
      refine q_case 72 hF rfl (fun hF => ?_) (fun hF => ?_)
      ·
       refine qn3 (qu rfl (qu rfl (qu rfl (qu rfl (qu rfl ?_)))))
       refine qu rfl (qu rfl (qu rfl (qn rfl (qp (AB true) rfl ?_))))
       refine r_nil ?_
       refine w_true rfl ?_
       refine ws 2305 2369 ?_
       refine qp (AB false) rfl ?_
       refine r_nil ?_
       refine w_ret ?_
       refine blockQ_r ?_
       refine thenQ_r ?_
       refine thenQ_r ?_
       refine blockQ_r ?_
       refine blockQ_r ?_
       refine thenQ_r ?_
       refine thenQ_r ?_
       refine blockQ_r ?_
       refine thenQ_r ?_
       cases hF
       exact eR
      ·
       refine qg (AI v50009) rfl rfl (qg (AB (decide ((0 : Int) < v50009))) rfl rfl (qg (AB (decide ((0 : Int) < v50009))) rfl rfl ?_))
       refine q_case 75 hF rfl (fun hF => ?_) (fun hF => ?_)
       ·
        refine qg (AS v1007) rfl rfl (qg (.ptr 0 0 2) rfl rfl (qg (.val none (K0o v1000)) rfl rfl (qg (AI v50009) rfl rfl (qg (AI (w64 (v50009 - 1))) rfl rfl ?_))))
        obtain ⟨v1010, e1010, hF⟩ := bind_get hF
        refine qg (.val none (.ptr [.str v1010])) rfl (ev_iad_n rfl rfl e1010 rfl) (qg (AS v1010) rfl rfl (qg (AB (Op.bytesLess v1007 v1010 || decide (v1007 = v1010))) rfl rfl (qg (AB (Op.bytesLess v1007 v1010 || decide (v1007 = v1010))) rfl rfl (qp (AB (Op.bytesLess v1007 v1010 || decide (v1007 = v1010))) rfl ?_))))
        refine r_nil ?_
        refine cF hF (fun hF => ?_) fun hF => ?_
        ·
         refine ws 2305 2369 ?_
         refine qp (AB false) rfl ?_
         refine r_nil ?_
         refine w_ret ?_
         refine blockQ_r ?_
         refine thenQ_r ?_
         refine thenQ_r ?_
         refine blockQ_r ?_
         refine blockQ_r ?_
         refine thenQ_r ?_
         refine thenQ_r ?_
         refine blockQ_r ?_
         refine thenQ_r ?_
         cases hF
         exact eR
        ·
         refine w_skip ?_
         refine blockQ_n ?_
         refine thenQ_n ?_
         refine w_reg 2305 2433 rfl rfl ?_
         refine qp (AI (w64 (v50009 + 1))) rfl (qp (AI (w64 (v50009 + 1))) rfl ?_)
         refine r_nil ?_
         refine thenQ_n ?_
         refine aw_ren (l' := [(K0r v0), (4, .ptr 0 0 0), (K0q v0), (K0p v0), (13, AI v50005), (50, .val none (K0o v1000)), (51, AI (v1000.2.2.length : Int)), (52, AI (w64 (v50009 + 1)))]) (L := (K0j v1000)) [0, 4, 11, 12, 13, 50, 51, 52] [(0, 0)] 1 (by first | rfl | simp) (by first | rfl | simp) (by decide) (by decide) (by decide) ⟨_, by rfl, hF⟩
       ·
        refine qn8 ?_
        refine qg (AB false) rfl rfl (qp (AB false) rfl ?_)
        refine r_nil ?_
        refine w_false rfl ?_
        refine w_skip ?_
        refine blockQ_n ?_
        refine thenQ_n ?_
        refine w_reg 2305 2433 rfl rfl ?_
        refine qp (AI (w64 (v50009 + 1))) rfl (qp (AI (w64 (v50009 + 1))) rfl ?_)
        refine r_nil ?_
        refine thenQ_n ?_
        refine aw_ren (l' := [(K0r v0), (4, .ptr 0 0 0), (K0q v0), (K0p v0), (13, AI v50005), (50, .val none (K0o v1000)), (51, AI (v1000.2.2.length : Int)), (52, AI (w64 (v50009 + 1)))]) (L := (K0j v1000)) [0, 4, 11, 12, 13, 50, 51, 52] [(0, 0)] 1 (by first | rfl | simp) (by first | rfl | simp) (by decide) (by decide) (by decide) ⟨_, by rfl, hF⟩
    ·
     refine w_exit ?_
     refine thenQ_e ?_
     refine thenQ_e ?_
     refine blockQ_e ?_
     refine blockQ_n ?_
     refine thenQ_n ?_
     refine w_reg 65 193 rfl rfl ?_
     refine qp (AI (w64 (v50005 + 1))) rfl (qp (AI (w64 (v50005 + 1))) rfl ?_)
     refine r_nil ?_
     refine thenQ_n ?_
     refine ar (l' := [(K0r v0), (K0q v0), (K0p v0), (13, AI (w64 (v50005 + 1)))]) (L := []) [0, 11, 12, 13] [] 1 ⟨_, by rfl, hF⟩
  ·
   refine w_exit ?_
   refine thenQ_e ?_
   refine thenQ_e ?_
   refine blockQ_e ?_
   refine thenQ_n ?_
   refine ws 65 129 ?_
   refine qp (AB true) rfl ?_
   exact rR hF

theorem c39_ok : okFn Tryd.prog 39 = true := by kernel_rfl




def c25 : MC := (.seq (.reg [pT 2 (.mv (.c (.str [])))]) (.seq (.reg [mvt 3 0, rg 4 (.call true 39 [t3, (ci 10)]), mvt 2 4]) .ret))
theorem c25_is : compFn Tryd.prog 25 = some (c25, [(.tmp 2)]) := by kernel_rfl
theorem c25_ok : okFn Tryd.prog 25 = true := by kernel_rfl

noncomputable def F_impl_Decimal (v0 : Int) : Option (List UInt8) :=
 ((F_formatInt v0 10).bind fun v1000 => some v1000)
@[simp] def res_impl_Decimal (r : List UInt8) : RV := .one (.one (.val (.str r)))
theorem con_impl_Decimal {v0 : Int} {r : List UInt8} (hF : F_impl_Decimal v0 = some r) : Con Tryd.prog 25 [.int .i64 v0] (res_impl_Decimal r) := by
 unfold F_impl_Decimal at hF
 refine con_of c25_is fun N => ?_
 refine ws 0 64 ?_
 refine qp (AS []) rfl ?_
 refine r_nil ?_
 refine ws 64 256 ?_
 refine qp (AI v0) rfl ?_
 obtain ⟨v1000, e1000, hF⟩ := bind_get hF
 refine qc (AS v1000) [] false (con_formatInt e1000) c39_ok (by first | rfl | simp) rfl ?_
 refine qp (AS v1000) rfl ?_
 exact rR hF

theorem c27_ok : okFn Tryd.prog 27 = true := by kernel_rfl




def c14 : MC := (.seq (.reg [pT 2 (.mv (.c (.str [])))]) (.seq (.seq (.reg [mvt 6 0, rg 7 (.call true 26 [t6]), pT 8 (.not t7)]) (.cond t8 (.seq (.reg [pT 2 (.mv (.c (.str [])))]) .ret) .skip)) (.seq (.reg [rg 3 (.f (.nilrow 1))]) (.seq (.seq (.reg [mvt 9 0, pT 10 (.len t9), pT 11 (.mv (ci 0))]) (.block 0 (.loop (.seq (.reg [pT 12 (.bin .lss t11 t10)]) (.seq (.cond t12 .skip (.exit 0)) (.seq (.block 1 (.seq (.reg [pT 13 (.iad t9 t11 3), pT 14 (.ld t13 3 true), rg 5 (.f (.alloc [((.str []), (0, false)), ((.int .i64 0), (0, false)), ((.sl 0 []), (1, false))])), ⟨none, none, (.f (.st t5 t14 3))⟩]) (.reg [mP 15 t3, pF 16 (.fad t5 0), pF 17 (.ld t16 1 false), pF 18 (.fad t5 1), pF 19 (.ld t18 1 false), rg 20 (.call false 25 [t19]), rg 21 (.f (.bslp 1 [t17, t20])), pF 22 (.fad t5 2), pF 23 (.ld t22 1 false), rg 24 (.f (.app t21 t23 1 16 false)), rg 25 (.call false 27 [t24, (.c (.str [32]))]), rg 26 (.f (.bslp 1 [t25])), rg 27 (.f (.app t15 t26 1 16 true)), mP 3 t27]))) (.reg [pT 28 (.bin .add t11 (ci 1)), mvt 11 28]))))))) (.seq (.reg [mvt 29 3, rg 30 (.call true 27 [t29, (.c (.str [47]))]), mvt 2 30]) .ret)))))
theorem c14_is : compFn Tryd.prog 14 = some (c14, [(.tmp 2)]) := by kernel_rfl
theorem c14_ok : okFn Tryd.prog 14 = true := by kernel_rfl

noncomputable def F_impl_PersonsText_l0 (v0 : List TPerson) (k1 : Int × (List (List UInt8)) → Option (List UInt8)) : Int × (List (List UInt8)) → Option (List UInt8)
 | (v50006, v50007) => (bif (decide (v50006 < (v0.length : Int))) then ((ix v0 v50006).bind fun v1011 => ((F_impl_Decimal v1011.2.1).bind fun v1012 => (need (room ([v1011.1, v1012].length + v1011.2.2.length) 16) (((F_join ([v1011.1, v1012] ++ v1011.2.2) [32]).bind fun v1014 => (need (room (v50007.length + [v1014].length) 16) (k1 (w64 (v50006 + 1), v50007 ++ [v1014]))))))))
 else ((F_join v50007 [47]).bind fun v1016 => some v1016))
noncomputable def F_impl_PersonsText (v0 : List TPerson) : Option (List UInt8) :=
 ((F_impl_ValidPersons v0).bind fun v1000 => (bif (!v1000) then some []
 else loop (F_impl_PersonsText_l0 v0) (0, [])))
@[simp] abbrev K0s (v50007 : List (List UInt8)) : List (Nat × Root) := [(193, .box [AS [], AI 0, .sl 194 0 0]), (194, .row true 1 (([] : List Int).map vI)), (0, .row true 1 (v50007.map V.str))]
@[simp] abbrev K0t (v1011 : TPerson) (v50007 : List (List UInt8)) : List (Nat × Root) := ((193, .box [AS v1011.1, AI v1011.2.1, AL 1 (v1011.2.2.map V.str)]) :: (K0s v50007))
@[simp] abbrev K0u (v1011 : TPerson) (v1012 : List UInt8) (v50007 : List (List UInt8)) : List (Nat × Root) := ((705, .row true 1 ([v1011.1, v1012].map V.str)) :: (K0t v1011 v50007))
@[simp] abbrev K0v (v1011 : TPerson) (v1012 : List UInt8) (v50007 : List (List UInt8)) : List (Nat × Root) := ((897, .row true 1 (([v1011.1, v1012] ++ v1011.2.2).map V.str)) :: (705, .dead) :: (K0u v1011 v1012 v50007))
@[simp] def res_impl_PersonsText (r : List UInt8) : RV := .one (.one (.val (.str r)))
theorem con_impl_PersonsText {v0 : List TPerson} {r : List UInt8} (hF : F_impl_PersonsText v0 = some r) : Con Tryd.prog 14 [.sl 3 (v0.map ePerson)] (res_impl_PersonsText r) := by
 unfold F_impl_PersonsText at hF
 refine con_of c14_is fun N => ?_
 refine ws 0 64 ?_
 refine qp (AS []) rfl ?_
 refine r_nil ?_
 refine w_seq ?_
 refine ws 64 256 ?_
 refine qp (AL 3 (v0.map ePerson)) rfl ?_
 obtain ⟨v1000, e1000, hF⟩ := bind_get hF
 refine qc (AB v1000) [] false (con_impl_ValidPersons e1000) c26_ok (by first | rfl | simp) rfl ?_
 refine qp (AB (!v1000)) rfl ?_
 refine r_nil ?_
 refine cF hF (fun hF => ?_) fun hF => ?_
 ·
  refine ws 256 320 ?_
  refine qp (AS []) rfl ?_
  refine r_nil ?_
  refine w_ret ?_
  refine thenQ_r ?_
  cases hF
  exact eR
 ·
  refine w_skip ?_
  refine thenQ_n ?_
  refine ws 256 320 ?_
  refine qf (.sl 256 0 0) [(256, .row true 1 (([] : List (List UInt8)).map V.str))] (by simp) ?_
  refine r_nil ?_
  refine w_seq ?_
  refine ws 320 512 ?_
  refine qp (AL 3 (v0.map ePerson)) rfl (qp (AI (v0.length : Int)) (ev_len_n rfl) (qp (AI 0) rfl ?_))
  refine r_nil ?_
  refine w_block ?_
  refine wr (l' := [(3, .sl 0 0 0), (9, AL 3 (v0.map ePerson)), (10, AI (v0.length : Int)), (11, AI 0)]) (L := [(0, .row true 1 (([] : List (List UInt8)).map V.str))]) [3, 9, 10, 11] [(256, 0)] 1 ?_
  refine w_loopF (F_impl_PersonsText_l0 v0) (fun s : Int × (List (List UInt8)) => mkS [(3, .sl 0 0 s.2.length), (9, AL 3 (v0.map ePerson)), (10, AI (v0.length : Int)), (11, AI s.1)] (fo [(0, .row true 1 (s.2.map V.str))]) 1) hF ?_
  rintro k1 ⟨v50006, v50007⟩ hF
  rw [F_impl_PersonsText_l0] at hF
  try dsimp only
  refine ws 1 65 ?_
  refine qp (AB (decide (v50006 < (v0.length : Int)))) rfl ?_
  refine r_nil ?_
  refine w_seq ?_
  refine cF hF (fun hF => ?_) fun hF => ?_
  ·
   refine w_skip ?_
   refine thenQ_n ?_
   refine w_seq ?_
   refine w_block ?_
   refine ws 65 321 ?_
   obtain ⟨v1011, e1011, hF⟩ := bind_get hF
   refine qp (.val none (.ptr [.str v1011.1, .int .i64 v1011.2.1, .sl 1 (v1011.2.2.map V.str)])) (ev_iad_n rfl rfl e1011 rfl) (qp (.val none (ePerson v1011)) rfl ?_)
   refine qf (.ptr 193 0 0) (K0s v50007) (by simp) ?_
   refine qf0 (.undef) (K0t v1011 v50007) (by simp) ?_
   refine r_nil ?_
   refine w_reg 321 1217 rfl rfl ?_
   refine qp (.sl 0 0 v50007.length) rfl (qp (.ptr 193 0 0) rfl (qp (AS v1011.1) rfl (qp (.ptr 193 0 1) rfl (qp (AI v1011.2.1) rfl ?_))))
   obtain ⟨v1012, e1012, hF⟩ := bind_get hF
   refine qc (AS v1012) (K0t v1011 v50007) false (con_impl_Decimal e1012) c25_ok (by first | rfl | simp) rfl ?_
   refine qf (.sl 705 0 ([v1011.1, v1012].length)) (K0u v1011 v1012 v50007) (by simp [List.take_of_length_le]) ?_
   refine qp (.ptr 193 0 2) rfl (qp (AL 1 (v1011.2.2.map V.str)) rfl ?_)
   obtain ⟨g1013, hF⟩ := need_some hF
   refine qf (.sl 897 0 (([v1011.1, v1012] ++ v1011.2.2).length)) (K0v v1011 v1012 v50007) (effT_app_v rfl (by simp) rfl rfl (fun _ => rfl) g1013) ?_
   obtain ⟨v1014, e1014, hF⟩ := bind_get hF
   refine qc (AS v1014) (K0v v1011 v1012 v50007) true (con_join e1014) c27_ok (by simp [List.take_of_length_le]) rfl ?_
   refine qf (.sl 1025 0 ([v1014].length)) ((1025, .row true 1 ([v1014].map V.str)) :: (K0v v1011 v1012 v50007)) (by simp [List.take_of_length_le]) ?_
   obtain ⟨g1015, hF⟩ := need_some hF
   refine qf (.sl 1089 0 ((v50007 ++ [v1014]).length)) ((1089, .row true 1 ((v50007 ++ [v1014]).map V.str)) :: (0, .dead) :: (1025, .dead) :: (1025, .row true 1 ([v1014].map V.str)) :: (K0v v1011 v1012 v50007)) (effT_app_l rfl (by simp) rfl rfl (by simp) rfl (by decide) g1015 rfl) ?_
   refine qp (.sl 1089 0 ((v50007 ++ [v1014]).length)) rfl ?_
   refine r_nil ?_
   refine blockQ_n ?_
   refine thenQ_n ?_
   refine w_reg 1217 1345 rfl rfl ?_
   refine qp (AI (w64 (v50006 + 1))) rfl (qp (AI (w64 (v50006 + 1))) rfl ?_)
   refine r_nil ?_
   refine thenQ_n ?_
   refine ar (l' := [(3, .sl 0 0 (v50007 ++ [v1014]).length), (9, AL 3 (v0.map ePerson)), (10, AI (v0.length : Int)), (11, AI (w64 (v50006 + 1)))]) (L := [(0, .row true 1 ((v50007 ++ [v1014]).map V.str))]) [3, 9, 10, 11] [(1089, 0)] 1 ⟨_, by rfl, hF⟩
  ·
   refine w_exit ?_
   refine thenQ_e ?_
   refine thenQ_e ?_
   refine blockQ_e ?_
   refine thenQ_n ?_
   refine ws 65 257 ?_
   refine qp (.sl 0 0 v50007.length) rfl ?_
   obtain ⟨v1016, e1016, hF⟩ := bind_get hF
   refine qc (AS v1016) [(0, .row true 1 (v50007.map V.str))] true (con_join e1016) c27_ok (by simp [List.take_of_length_le]) rfl ?_
   refine qp (AS v1016) rfl ?_
   exact rR hF

def c5 : MC := (.seq (.reg [rg 2 (.f (.nilrow 3)), pT 3 (.mv cf)]) (.seq (.seq (.reg [mvt 10 0, pT 11 (.bin .eql t10 (.c (.str [])))]) (.cond t11 (.seq (.reg [rg 2 (.f (.nilrow 3)), pT 3 (.mv ct)]) .ret) .skip)) (.seq (.reg [rg 4 (.f (.nilrow 3))]) (.seq (.seq (.reg [mvt 12 0, rg 13 (.call true 10 [t12, (.c (.str [47])), (ci 25)]), pT 14 (.len t13), pT 15 (.mv (ci 0))]) (.block 0 (.loop (.seq (.reg [pT 16 (.bin .lss t15 t14)]) (.seq (.cond t16 .skip (.exit 0)) (.seq (.block 1 (.seq (.reg [pT 17 (.iad t13 t15 1), pT 18 (.ld t17 1 false), mvt 6 18]) (.seq (.reg [mvt 19 6, rg 20 (.call true 11 [t19, (.c (.str [32]))]), mvt 7 20]) (.seq (.seq (.reg [mvt 21 7, pT 22 (.len t21), pT 23 (.bin .lss t22 (ci 2))]) (.cond t23 (.seq (.reg [rg 2 (.f (.nilrow 3)), pT 3 (.mv cf)]) .ret) .skip)) (.seq (.reg [mvt 25 7, pT 26 (.iad t25 (ci 1) 1), pT 27 (.ld t26 1 false), rg 28 (.call true 12 [t27]), mvt 24 28, pT 29 (.ext t24 0), pT 30 (.ext t24 1), mvt 8 29, mvt 9 30]) (.seq (.seq (.reg [mvt 31 9, pT 32 (.not t31)]) (.cond t32 (.seq (.reg [rg 2 (.f (.nilrow 3)), pT 3 (.mv cf)]) .ret) .skip)) (.reg [mP 33 t4, mP 34 t7, pF 35 (.iad t34 (ci 0) 1), pF 36 (.ld t35 1 false), mP 37 t8, mP 38 t7, pF 39 (.slc t38 (some (ci 2)) none 1), rg 40 (.call false 13 [t39]), rg 41 (.f (.bld [((.str []), (0, true)), ((.int .i64 0), (0, true)), ((.sl 0 []), (1, true))] [(0, (1, t36)), (1, (1, t37)), (2, (1, t40))])), rg 42 (.f (.bsl 3 [t41])), rg 43 (.f (.app t33 t42 3 48 true)), mP 4 t43]))))))) (.reg [pT 44 (.bin .add t15 (ci 1)), mvt 15 44]))))))) (.seq (.seq (.reg [mvt 45 4, rg 46 (.call true 14 [t45]), mvt 47 0, pT 48 (.bin .neq t46 t47)]) (.cond t48 (.seq (.reg [rg 2 (.f (.nilrow 3)), pT 3 (.mv cf)]) .ret) .skip)) (.seq (.reg [mvt 49 4, mvt 2 49, pT 3 (.mv ct)]) .ret))))))
theorem c5_is : compFn Tryd.prog 5 = some (c5, [(.tmp 2), (.tmp 3)]) := by kernel_rfl
theorem c5_ok : okFn Tryd.prog 5 = true := by kernel_rfl

noncomputable def F_impl_ReadPersons_l0 (v0 : List UInt8) (v1000 : List (List UInt8)) (k1 : Int × (List TPerson) → Option ((List TPerson) × Bool)) : Int × (List TPerson) → Option ((List TPerson) × Bool)
 | (v50006, v50007) => (bif (decide (v50006 < (v1000.length : Int))) then ((ix v1000 v50006).bind fun v1019 => ((F_split v1019 [32]).bind fun v1020 => (bif (decide ((v1020.length : Int) < (2 : Int))) then some ([], false)
 else ((ix v1020 1).bind fun v1021 => ((F_readDec v1021).bind fun v1022 => (bif (!v1022.2) then some ([], false)
 else ((ix v1020 0).bind fun v1023 => (need (0 ≤ (2 : Int) ∧ (2 : Int) ≤ (v1020.length : Int) ∧ (v1020.length : Int) ≤ (v1020.length : Int)) (((F_slices_Clone_Sstring_string (sub v1020 (2 : Int) (v1020.length : Int))).bind fun v1025 => (need (room (v50007.length + [(v1023, v1022.1, v1025)].length) 48) (k1 (w64 (v50006 + 1), v50007 ++ [(v1023, v1022.1, v1025)])))))))))))))
 else ((F_impl_PersonsText v50007).bind fun v1028 => (bif (decide (v1028 ≠ v0)) then some ([], false)
 else some (v50007, true))))
noncomputable def F_impl_ReadPersons (v0 : List UInt8) : Option ((List TPerson) × Bool) :=
 (bif (decide (v0 = [])) then some ([], true)
 else ((F_splitN v0 [47] 25).bind fun v1000 => loop (F_impl_ReadPersons_l0 v0 v1000) (0, [])))
@[simp] abbrev K0x : List (Nat × Root) := [(0, .row true 3 (([] : List Int).map vI))]
@[simp] abbrev K0y : List (Nat × Root) := ((256, .row true 3 (([] : List TPerson).map ePerson)) :: K0x)
@[simp] abbrev K0z (v1000 : List (List UInt8)) (v50007 : List TPerson) : List (Nat × Root) := [(1, .row true 1 (v1000.map V.str)), (0, .row true 3 (v50007.map ePerson))]
@[simp] abbrev K10 (v1020 : List (List UInt8)) (v1000 : List (List UInt8)) (v50007 : List TPerson) : List (Nat × Root) := ((322, .row true 1 (v1020.map V.str)) :: (K0z v1000 v50007))
@[simp] abbrev K12 (v1023 : List UInt8) (v1022 : Int × Bool) (v1025 : List (List UInt8)) (v1020 : List (List UInt8)) (v1000 : List (List UInt8)) (v50007 : List TPerson) : List (Nat × Root) := ((1922, .row true 3 ([(v1023, v1022.1, v1025)].map ePerson)) :: (1794, .dead) :: (1794, .row true 1 (v1025.map V.str)) :: (K10 v1020 v1000 v50007))
@[simp] def res_impl_ReadPersons (r : (List TPerson) × Bool) : RV := .tup [.one (.row true 3 (r.1.map ePerson)), .one (.val (.bool r.2))]
theorem con_impl_ReadPersons {v0 : List UInt8} {r : (List TPerson) × Bool} (hF : F_impl_ReadPersons v0 = some r) : Con Tryd.prog 5 [.str v0] (res_impl_ReadPersons r) := by
 unfold F_impl_ReadPersons at hF
 refine con_of c5_is fun N => ?_
 refine ws 0 128 ?_
 refine qf (.sl 0 0 0) K0x (by simp) ?_
 refine qp (AB false) rfl ?_
 refine r_nil ?_
 refine w_seq ?_
 refine ws 128 256 ?_
 refine qp (AS v0) rfl (qp (AB (decide (v0 = []))) rfl ?_)
 refine r_nil ?_
 refine cF hF (fun hF => ?_) fun hF => ?_
 ·
  refine ws 256 384 ?_
  refine qf (.sl 256 0 0) K0y (by simp) ?_
  refine qp (AB true) rfl ?_
  refine r_nil ?_
  refine w_ret ?_
  refine thenQ_r ?_
  cases hF
  exact eR
 ·
  refine w_skip ?_
  refine thenQ_n ?_
  refine ws 256 320 ?_
  refine qf (.sl 256 0 0) K0y (by simp) ?_
  refine r_nil ?_
  refine w_seq ?_
  refine ws 320 576 ?_
  refine qp (AS v0) rfl ?_
  obtain ⟨v1000, e1000, hF⟩ := bind_get hF
  refine qc (.sl 384 0 v1000.length) ((384, .row true 1 (v1000.map V.str)) :: K0y) false (con_splitN e1000) c10_ok (by first | rfl | simp) (by simp [res_splitN]) ?_
  refine qp (AI (v1000.length : Int)) rfl (qp (AI 0) rfl ?_)
  refine r_nil ?_
  refine w_block ?_
  refine wr (l' := [(0, AS v0), (4, .sl 0 0 0), (13, .sl 1 0 v1000.length), (14, AI (v1000.length : Int)), (15, AI 0)]) (L := [(1, .row true 1 (v1000.map V.str)), (0, .row true 3 (([] : List TPerson).map ePerson))]) [0, 4, 13, 14, 15] [(384, 1), (256, 0)] 2 ?_
  refine w_loopF (F_impl_ReadPersons_l0 v0 v1000) (fun s : Int × (List TPerson) => mkS [(0, AS v0), (4, .sl 0 0 s.2.length), (13, .sl 1 0 v1000.length), (14, AI (v1000.length : Int)), (15, AI s.1)] (fo [(1, .row true 1 (v1000.map V.str)), (0, .row true 3 (s.2.map ePerson))]) 2) hF ?_
  rintro k1 ⟨v50006, v50007⟩ hF
  rw [F_impl_ReadPersons_l0] at hF
  try dsimp only
  refine ws 2 66 ?_
  refine qp (AB (decide (v50006 < (v1000.length : Int)))) rfl ?_
  refine r_nil ?_
  refine w_seq ?_
  refine cF hF (fun hF => ?_) fun hF => ?_
  ·
   refine w_skip ?_
   refine thenQ_n ?_
   refine w_seq ?_
   refine w_block ?_
   refine ws 66 258 ?_
   obtain ⟨v1019, e1019, hF⟩ := bind_get hF
   refine qp (.ptr 1 v50006.toNat 0) (ev_iad_r rfl (by simp) rfl rfl e1019) (qp (AS v1019) (ev_ld_r rfl rfl (ix_some e1019).2 rfl rfl) (qp (AS v1019) rfl ?_))
   refine r_nil ?_
   refine ws 258 450 ?_
   refine qp (AS v1019) rfl ?_
   obtain ⟨v1020, e1020, hF⟩ := bind_get hF
   refine qc (.sl 322 0 v1020.length) (K10 v1020 v1000 v50007) false (con_split e1020) c11_ok (by first | rfl | simp) (by simp [res_split]) ?_
   refine qp (.sl 322 0 v1020.length) rfl ?_
   refine r_nil ?_
   refine w_seq ?_
   refine ws 450 642 ?_
   refine qp (.sl 322 0 v1020.length) rfl (qp (AI (v1020.length : Int)) rfl (qp (AB (decide ((v1020.length : Int) < (2 : Int)))) rfl ?_))
   refine r_nil ?_
   refine cF hF (fun hF => ?_) fun hF => ?_
   ·
    refine ws 642 770 ?_
    refine qf (.sl 642 0 0) ((642, .row true 3 (([] : List TPerson).map ePerson)) :: (K10 v1020 v1000 v50007)) (by simp) ?_
    refine qp (AB false) rfl ?_
    refine r_nil ?_
    refine w_ret ?_
    refine thenQ_r ?_
    refine blockQ_r ?_
    refine thenQ_r ?_
    refine thenQ_r ?_
    refine blockQ_r ?_
    refine thenQ_r ?_
    cases hF
    exact eR
   ·
    refine w_skip ?_
    refine thenQ_n ?_
    refine ws 642 1218 ?_
    refine qp (.sl 322 0 v1020.length) rfl ?_
    obtain ⟨v1021, e1021, hF⟩ := bind_get hF
    refine qp (.ptr 322 ((1 : Int).toNat) 0) (ev_iad_r rfl (by simp) rfl rfl e1021) (qp (AS v1021) (ev_ld_r rfl rfl (ix_some e1021).2 rfl rfl) ?_)
    obtain ⟨v1022, e1022, hF⟩ := bind_get hF
    refine qc (.tup [AI v1022.1, AB v1022.2]) (K10 v1020 v1000 v50007) false (con_readDec e1022) c12_ok (by first | rfl | simp) rfl ?_
    refine qp (.tup [AI v1022.1, AB v1022.2]) rfl (qp (AI v1022.1) rfl (qp (AB v1022.2) rfl (qp (AI v1022.1) rfl (qp (AB v1022.2) rfl ?_))))
    refine r_nil ?_
    refine w_seq ?_
    refine ws 1218 1346 ?_
    refine qp (AB v1022.2) rfl (qp (AB (!v1022.2)) rfl ?_)
    refine r_nil ?_
    refine cF hF (fun hF => ?_) fun hF => ?_
    ·
     refine ws 1346 1474 ?_
     refine qf (.sl 1346 0 0) ((1346, .row true 3 (([] : List TPerson).map ePerson)) :: (K10 v1020 v1000 v50007)) (by simp) ?_
     refine qp (AB false) rfl ?_
     refine r_nil ?_
     refine w_ret ?_
     refine thenQ_r ?_
     refine blockQ_r ?_
     refine thenQ_r ?_
     refine thenQ_r ?_
     refine blockQ_r ?_
     refine thenQ_r ?_
     cases hF
     exact eR
    ·
     refine w_skip ?_
     refine thenQ_n ?_
     refine w_regA 1346 2114 rfl rfl ?_
     refine qp (.sl 0 0 v50007.length) rfl (qp (.sl 322 0 v1020.length) rfl ?_)
     obtain ⟨v1023, e1023, hF⟩ := bind_get hF
     refine qp (.ptr 322 ((0 : Int).toNat) 0) (ev_iad_r rfl (by simp) rfl rfl e1023) (qp (AS v1023) (ev_ld_r rfl rfl (ix_some e1023).2 rfl rfl) (qp (AI v1022.1) rfl (qp (.sl 322 0 v1020.length) rfl ?_)))
     obtain ⟨g1024, hF⟩ := need_some hF
     refine qp (.sl 322 (2 : Int).toNat ((v1020.length : Int).toNat - (2 : Int).toNat)) (ev_slc_r rfl (by simp) rfl rfl rfl g1024) ?_
     obtain ⟨v1025, e1025, hF⟩ := bind_get hF
     refine qc (.sl 1794 0 v1025.length) ((1794, .row true 1 (v1025.map V.str)) :: (K10 v1020 v1000 v50007)) true (con_slices_Clone_Sstring_string e1025) c13_ok (trav_pp rfl) (by simp [res_slices_Clone_Sstring_string]) ?_
     refine qf (.agg [AS v1023, AI v1022.1, .sl 1794 0 v1025.length]) ((1794, .row true 1 (v1025.map V.str)) :: (K10 v1020 v1000 v50007)) (by simp) ?_
     refine qf (.sl 1922 0 ([(v1023, v1022.1, v1025)].length)) (K12 v1023 v1022 v1025 v1020 v1000 v50007) (by simp [List.take_of_length_le]) ?_
     obtain ⟨g1026, hF⟩ := need_some hF
     refine qf (.sl 1986 0 ((v50007 ++ [(v1023, v1022.1, v1025)]).length)) ((1986, .row true 3 ((v50007 ++ [(v1023, v1022.1, v1025)]).map ePerson)) :: (0, .dead) :: (1922, .dead) :: (K12 v1023 v1022 v1025 v1020 v1000 v50007)) (effT_app_l rfl (by simp) rfl rfl (by simp) rfl (by decide) g1026 rfl) ?_
     refine qp (.sl 1986 0 ((v50007 ++ [(v1023, v1022.1, v1025)]).length)) rfl ?_
     refine r_nil ?_
     have g1027 : 0 ≤ (2 : Int) ∧ (2 : Int) ≤ (v1020.length : Int) ∧ (v1020.length : Int) ≤ (v1020.length : Int) := by first | exact g1024 | (have h := g1024; simp only [] at h ⊢; exact h)
     refine aw_drop (l' := [(0, AS v0), (4, .sl 1986 0 ((v50007 ++ [(v1023, v1022.1, v1025)]).length)), (6, AS v1019), (7, .sl 322 0 v1020.length), (8, AI v1022.1), (9, AB v1022.2), (13, .sl 1 0 v1000.length), (14, AI (v1000.length : Int)), (15, AI v50006), (16, AB (decide (v50006 < (v1000.length : Int)))), (17, .ptr 1 v50006.toNat 0), (18, AS v1019), (19, AS v1019), (20, .sl 322 0 v1020.length), (21, .sl 322 0 v1020.length), (22, AI (v1020.length : Int)), (23, AB (decide ((v1020.length : Int) < (2 : Int)))), (24, .tup [AI v1022.1, AB v1022.2]), (25, .sl 322 0 v1020.length), (26, .ptr 322 ((1 : Int).toNat) 0), (27, AS v1021), (28, .tup [AI v1022.1, AB v1022.2]), (29, AI v1022.1), (30, AB v1022.2), (31, AB v1022.2), (32, AB (!v1022.2)), (33, .sl 0 0 v50007.length), (34, .sl 322 0 v1020.length), (35, .ptr 322 ((0 : Int).toNat) 0), (36, AS v1023), (37, AI v1022.1), (38, .sl 322 0 v1020.length), (39, .sl 322 (2 : Int).toNat ((v1020.length : Int).toNat - (2 : Int).toNat)), (40, .sl 1794 0 v1025.length), (41, .agg [AS v1023, AI v1022.1, .sl 1794 0 v1025.length]), (42, .sl 1922 0 ([(v1023, v1022.1, v1025)].length)), (43, .sl 1986 0 ((v50007 ++ [(v1023, v1022.1, v1025)]).length))]) [0, 4, 6, 7, 8, 9, 13, 14, 15, 16, 17, 18, 19, 20, 21, 22, 23, 24, 25, 26, 27, 28, 29, 30, 31, 32, 33, 34, 35, 36, 37, 38, 39, 40, 41, 42, 43] (by first | rfl | simp) ?_
     refine aw_rebF (l' := [(0, AS v0), (4, .sl 1986 0 ((v50007 ++ [(v1023, v1022.1, v1025)]).length)), (6, AS v1019), (7, .bad), (8, AI v1022.1), (9, AB v1022.2), (13, .sl 1 0 v1000.length), (14, AI (v1000.length : Int)), (15, AI v50006), (16, AB (decide (v50006 < (v1000.length : Int)))), (17, .ptr 1 v50006.toNat 0), (18, AS v1019), (19, AS v1019), (20, .bad), (21, .bad), (22, AI (v1020.length : Int)), (23, AB (decide ((v1020.length : Int) < (2 : Int)))), (24, .tup [AI v1022.1, AB v1022.2]), (25, .bad), (26, .bad), (27, AS v1021), (28, .tup [AI v1022.1, AB v1022.2]), (29, AI v1022.1), (30, AB v1022.2), (31, AB v1022.2), (32, AB (!v1022.2)), (33, .sl 0 0 v50007.length), (34, .bad), (35, .bad), (36, AS v1023), (37, AI v1022.1), (38, .bad), (39, .sl 322 0 ((sub v1020 (2 : Int) (v1020.length : Int)).length)), (40, .sl 1794 0 v1025.length), (41, .agg [AS v1023, AI v1022.1, .sl 1794 0 v1025.length]), (42, .sl 1922 0 ([(v1023, v1022.1, v1025)].length)), (43, .sl 1986 0 ((v50007 ++ [(v1023, v1022.1, v1025)]).length))]) (r := 322) (lo := (2 : Int)) (hi := (v1020.length : Int)) rfl g1027 (RebL.keep rfl (RebL.keep rfl (RebL.keep rfl (RebL.bad (RebL.keep rfl (RebL.keep rfl (RebL.keep rfl (RebL.keep rfl (RebL.keep rfl (RebL.keep rfl (RebL.keep rfl (RebL.keep rfl (RebL.keep rfl (RebL.bad (RebL.bad (RebL.keep rfl (RebL.keep rfl (RebL.keep rfl (RebL.bad (RebL.bad (RebL.keep rfl (RebL.keep rfl (RebL.keep rfl (RebL.keep rfl (RebL.keep rfl (RebL.keep rfl (RebL.keep rfl (RebL.bad (RebL.bad (RebL.keep rfl (RebL.keep rfl (RebL.bad (RebL.part (sub_len g1027) (RebL.keep rfl (RebL.keep rfl (RebL.keep rfl (RebL.keep rfl RebL.nil))))))))))))))))))))))))))))))))))))) rfl ?_
     refine blockQ_n ?_
     refine thenQ_n ?_
     refine w_reg 2114 2242 rfl rfl ?_
     refine qp (AI (w64 (v50006 + 1))) rfl (qp (AI (w64 (v50006 + 1))) rfl ?_)
     refine r_nil ?_
     refine thenQ_n ?_
     refine ar (l' := [(0, AS v0), (4, .sl 0 0 (v50007 ++ [(v1023, v1022.1, v1025)]).length), (13, .sl 1 0 v1000.length), (14, AI (v1000.length : Int)), (15, AI (w64 (v50006 + 1)))]) (L := [(1, .row true 1 (v1000.map V.str)), (0, .row true 3 ((v50007 ++ [(v1023, v1022.1, v1025)]).map ePerson))]) [0, 4, 13, 14, 15] [(1, 1), (1986, 0)] 2 ⟨_, by rfl, hF⟩
  ·
   refine w_exit ?_
   refine thenQ_e ?_
   refine thenQ_e ?_
   refine blockQ_e ?_
   refine thenQ_n ?_
   refine w_seq ?_
   refine ws 66 322 ?_
   refine qp (.sl 0 0 v50007.length) rfl ?_
   obtain ⟨v1028, e1028, hF⟩ := bind_get hF
   refine qc (AS v1028) (K0z v1000 v50007) true (con_impl_PersonsText e1028) c14_ok (by simp [List.take_of_length_le]) rfl ?_
   refine qp (AS v0) rfl (qp (AB (decide (v1028 ≠ v0))) rfl ?_)
   refine r_nil ?_
   refine cF hF (fun hF => ?_) fun hF => ?_
   ·
    refine ws 322 450 ?_
    refine qf (.sl 322 0 0) ((322, .row true 3 (([] : List TPerson).map ePerson)) :: (K0z v1000 v50007)) (by simp) ?_
    refine qp (AB false) rfl ?_
    refine r_nil ?_
    refine w_ret ?_
    refine thenQ_r ?_
    cases hF
    exact eR
   ·
    refine w_skip ?_
    refine thenQ_n ?_
    refine ws 322 514 ?_
    refine qp (.sl 0 0 v50007.length) rfl (qp (.sl 0 0 v50007.length) rfl (qp (AB true) rfl ?_))
    exact rR hF

def c28 : MC := (.seq (.reg [pT 4 (.mv cf)]) (.seq (.seq (.reg [mvt 6 0, pT 7 (.len t6), mvt 8 1, pT 9 (.len t8), pT 10 (.bin .neq t7 t9)]) (.cond t10 (.seq (.reg [pT 4 (.mv cf)]) .ret) .skip)) (.seq (.seq (.reg [pT 5 (.mv (ci 0))]) (.block 0 (.loop (.seq (.seq (.reg [mvt 11 5, mvt 12 0, pT 13 (.len t12), pT 14 (.bin .lss t11 t13)]) (.cond t14 .skip (.exit 0))) (.seq (.block 1 (.seq (.reg [mP 17 t0, mP 18 t5, pF 19 (.iad t17 t18 1), pF 20 (.ld t19 1 false), mP 21 t1, mP 22 t5, pF 23 (.iad t21 t22 1), pF 24 (.ld t23 1 false), pF 25 (.bin .neq t20 t24)]) (.cond t25 (.seq (.reg [pT 4 (.mv cf)]) .ret) .skip))) (.reg [mvt 15 5, pT 16 (.bin .add t15 (ci 1)), mvt 5 16])))))) (.seq (.reg [pT 4 (.mv ct)]) .ret))))
theorem c28_is : compFn Tryd.prog 28 = some (c28, [(.tmp 4)]) := by kernel_rfl
theorem c28_ok : okFn Tryd.prog 28 = true := by kernel_rfl

noncomputable def F_laws_eqStringS_l0 (v0 : List (List UInt8)) (v1 : List (List UInt8)) (k0 : Int → Option (Bool)) : Int → Option (Bool)
 | v50001 => (bif (decide (v50001 < (v0.length : Int))) then ((ix v0 v50001).bind fun v1000 => ((ix v1 v50001).bind fun v1001 => (bif (decide (v1000 ≠ v1001)) then some false
 else k0 (w64 (v50001 + 1)))))
 else some true)
noncomputable def F_laws_eqStringS (v0 : List (List UInt8)) (v1 : List (List UInt8)) : Option (Bool) :=
 (bif (decide ((v0.length : Int) ≠ (v1.length : Int))) then some false
 else loop (F_laws_eqStringS_l0 v0 v1) 0)
@[simp] def res_laws_eqStringS (r : Bool) : RV := .one (.one (.val (.bool r)))
theorem con_laws_eqStringS {v0 : List (List UInt8)} {v1 : List (List UInt8)} {r : Bool} (hF : F_laws_eqStringS v0 v1 = some r) : Con Tryd.prog 28 [.sl 1 (v0.map V.str), .sl 1 (v1.map V.str)] (res_laws_eqStringS r) := by
 unfold F_laws_eqStringS at hF
 refine con_of c28_is fun N => ?_
 refine ws 0 64 ?_
 refine qp (AB false) rfl ?_
 refine r_nil ?_
 refine w_seq ?_
 refine ws 64 384 ?_
 refine qp (AL 1 (v0.map V.str)) rfl (qp (AI (v0.length : Int)) (ev_len_n rfl) (qp (AL 1 (v1.map V.str)) rfl (qp (AI (v1.length : Int)) (ev_len_n rfl) (qp (AB (decide ((v0.length : Int) ≠ (v1.length : Int)))) rfl ?_))))
 refine r_nil ?_
 refine cF hF (fun hF => ?_) fun hF => ?_
 ·
  refine ws 384 448 ?_
  refine qp (AB false) rfl ?_
  refine r_nil ?_
  refine w_ret ?_
  refine thenQ_r ?_
  cases hF
  exact eR
 ·
  refine w_skip ?_
  refine thenQ_n ?_
  refine w_seq ?_
  refine ws 384 448 ?_
  refine qp (AI 0) rfl ?_
  refine r_nil ?_
  refine w_block ?_
  refine wr (l' := [(0, AL 1 (v0.map V.str)), (1, AL 1 (v1.map V.str)), (5, AI 0)]) (L := []) [0, 1, 5] [] 1 ?_
  refine w_loopF (F_laws_eqStringS_l0 v0 v1) (fun s : Int => mkS [(0, AL 1 (v0.map V.str)), (1, AL 1 (v1.map V.str)), (5, AI s)] (fo []) 1) hF ?_
  rintro k0 v50001 hF
  rw [F_laws_eqStringS_l0] at hF
  try dsimp only
  refine w_seq ?_
  refine ws 1 257 ?_
  refine qp (AI v50001) rfl (qp (AL 1 (v0.map V.str)) rfl (qp (AI (v0.length : Int)) (ev_len_n rfl) (qp (AB (decide (v50001 < (v0.length : Int)))) rfl ?_)))
  refine r_nil ?_
  refine cF hF (fun hF => ?_) fun hF => ?_
  ·
   refine w_skip ?_
   refine thenQ_n ?_
   refine w_seq ?_
   refine w_block ?_
   refine ws 257 833 ?_
   refine qp (AL 1 (v0.map V.str)) rfl (qp (AI v50001) rfl ?_)
   obtain ⟨v1000, e1000, hF⟩ := bind_get hF
   refine qp (.val none (.ptr [.str v1000])) (ev_iad_n rfl rfl e1000 rfl) (qp (AS v1000) rfl (qp (AL 1 (v1.map V.str)) rfl (qp (AI v50001) rfl ?_)))
   obtain ⟨v1001, e1001, hF⟩ := bind_get hF
   refine qp (.val none (.ptr [.str v1001])) (ev_iad_n rfl rfl e1001 rfl) (qp (AS v1001) rfl (qp (AB (decide (v1000 ≠ v1001))) rfl ?_))
   refine r_nil ?_
   refine cF hF (fun hF => ?_) fun hF => ?_
   ·
    refine ws 833 897 ?_
    refine qp (AB false) rfl ?_
    refine r_nil ?_
    refine w_ret ?_
    refine blockQ_r ?_
    refine thenQ_r ?_
    refine thenQ_r ?_
    refine blockQ_r ?_
    refine thenQ_r ?_
    cases hF
    exact eR
   ·
    refine w_skip ?_
    refine blockQ_n ?_
    refine thenQ_n ?_
    refine w_reg 833 1025 rfl rfl ?_
    refine qp (AI v50001) rfl (qp (AI (w64 (v50001 + 1))) rfl (qp (AI (w64 (v50001 + 1))) rfl ?_))
    refine r_nil ?_
    refine thenQ_n ?_
    refine ar (l' := [(0, AL 1 (v0.map V.str)), (1, AL 1 (v1.map V.str)), (5, AI (w64 (v50001 + 1)))]) (L := []) [0, 1, 5] [] 1 ⟨_, by rfl, hF⟩
  ·
   refine w_exit ?_
   refine thenQ_e ?_
   refine thenQ_e ?_
   refine blockQ_e ?_
   refine thenQ_n ?_
   refine ws 257 321 ?_
   refine qp (AB true) rfl ?_
   exact rR hF

def c15 : MC := (.seq (.reg [rg 2 (.f (.box t0)), rg 3 (.f (.box t1)), pT 4 (.mv cf)]) (.seq (.seq (.reg [pT 5 (.fad t2 0), pT 6 (.ld t5 1 false), pT 7 (.fad t3 0), pT 8 (.ld t7 1 false), pT 9 (.bin .neq t6 t8)]) (.cond t9 (.seq (.reg [pT 4 (.mv cf)]) .ret) .skip)) (.seq (.seq (.reg [pT 10 (.fad t2 1), pT 11 (.ld t10 1 false), pT 12 (.fad t3 1), pT 13 (.ld t12 1 false), pT 14 (.bin .neq t11 t13)]) (.cond t14 (.seq (.reg [pT 4 (.mv cf)]) .ret) .skip)) (.seq (.seq (.reg [pT 15 (.fad t2 2), pT 16 (.ld t15 1 false), pT 17 (.fad t3 2), pT 18 (.ld t17 1 false), rg 19 (.call true 28 [t16, t18]), pT 20 (.not t19)]) (.cond t20 (.seq (.reg [pT 4 (.mv cf)]) .ret) .skip)) (.seq (.reg [pT 4 (.mv ct)]) .ret)))))
theorem c15_is : compFn Tryd.prog 15 = some (c15, [(.tmp 4)]) := by kernel_rfl
theorem c15_ok : okFn Tryd.prog 15 = true := by kernel_rfl

noncomputable def F_laws_eqPerson (v0 : TPerson) (v1 : TPerson) : Option (Bool) :=
 (bif (decide (v0.1 ≠ v1.1)) then some false
 else (bif (decide (v0.2.1 ≠ v1.2.1)) then some false
 else ((F_laws_eqStringS v0.2.2 v1.2.2).bind fun v1000 => (bif (!v1000) then some false
 else some true))))
@[simp] abbrev K13 (v0 : TPerson) : List (Nat × Root) := [(0, .box [AS v0.1, AI v0.2.1, AL 1 (v0.2.2.map V.str)])]
@[simp] abbrev K14 (v1 : TPerson) (v0 : TPerson) : List (Nat × Root) := ((64, .box [AS v1.1, AI v1.2.1, AL 1 (v1.2.2.map V.str)]) :: (K13 v0))
@[simp] def res_laws_eqPerson (r : Bool) : RV := .one (.one (.val (.bool r)))
theorem con_laws_eqPerson {v0 : TPerson} {v1 : TPerson} {r : Bool} (hF : F_laws_eqPerson v0 v1 = some r) : Con Tryd.prog 15 [ePerson v0, ePerson v1] (res_laws_eqPerson r) := by
 unfold F_laws_eqPerson at hF
 refine con_of c15_is fun N => ?_
 refine ws 0 192 ?_
 refine qf (.ptr 0 0 0) (K13 v0) (by simp) ?_
 refine qf (.ptr 64 0 0) (K14 v1 v0) (by simp) ?_
 refine qp (AB false) rfl ?_
 refine r_nil ?_
 refine w_seq ?_
 refine ws 192 512 ?_
 refine qp (.ptr 0 0 0) rfl (qp (AS v0.1) rfl (qp (.ptr 64 0 0) rfl (qp (AS v1.1) rfl (qp (AB (decide (v0.1 ≠ v1.1))) rfl ?_))))
 refine r_nil ?_
 refine cF hF (fun hF => ?_) fun hF => ?_
 ·
  refine ws 512 576 ?_
  refine qp (AB false) rfl ?_
  refine r_nil ?_
  refine w_ret ?_
  refine thenQ_r ?_
  cases hF
  exact eR
 ·
  refine w_skip ?_
  refine thenQ_n ?_
  refine w_seq ?_
  refine ws 512 832 ?_
  refine qp (.ptr 0 0 1) rfl (qp (AI v0.2.1) rfl (qp (.ptr 64 0 1) rfl (qp (AI v1.2.1) rfl (qp (AB (decide (v0.2.1 ≠ v1.2.1))) rfl ?_))))
  refine r_nil ?_
  refine cF hF (fun hF => ?_) fun hF => ?_
  ·
   refine ws 832 896 ?_
   refine qp (AB false) rfl ?_
   refine r_nil ?_
   refine w_ret ?_
   refine thenQ_r ?_
   cases hF
   exact eR
  ·
   refine w_skip ?_
   refine thenQ_n ?_
   refine w_seq ?_
   refine ws 832 1216 ?_
   refine qp (.ptr 0 0 2) rfl (qp (AL 1 (v0.2.2.map V.str)) rfl (qp (.ptr 64 0 2) rfl (qp (AL 1 (v1.2.2.map V.str)) rfl ?_)))
   obtain ⟨v1000, e1000, hF⟩ := bind_get hF
   refine qc (AB v1000) (K14 v1 v0) false (con_laws_eqStringS e1000) c28_ok (by first | rfl | simp) rfl ?_
   refine qp (AB (!v1000)) rfl ?_
   refine r_nil ?_
   refine cF hF (fun hF => ?_) fun hF => ?_
   ·
    refine ws 1216 1280 ?_
    refine qp (AB false) rfl ?_
    refine r_nil ?_
    refine w_ret ?_
    refine thenQ_r ?_
    cases hF
    exact eR
   ·
    refine w_skip ?_
    refine thenQ_n ?_
    refine ws 1216 1280 ?_
    refine qp (AB true) rfl ?_
    exact rR hF

def c6 : MC := (.seq (.reg [pT 4 (.mv cf)]) (.seq (.seq (.reg [mvt 6 0, pT 7 (.len t6), mvt 8 1, pT 9 (.len t8), pT 10 (.bin .neq t7 t9)]) (.cond t10 (.seq (.reg [pT 4 (.mv cf)]) .ret) .skip)) (.seq (.seq (.reg [pT 5 (.mv (ci 0))]) (.block 0 (.loop (.seq (.seq (.reg [mvt 11 5, mvt 12 0, pT 13 (.len t12), pT 14 (.bin .lss t11 t13)]) (.cond t14 .skip (.exit 0))) (.seq (.block 1 (.seq (.reg [mP 17 t0, mP 18 t5, pF 19 (.iad t17 t18 3), pF 20 (.ld t19 3 true), mP 21 t1, mP 22 t5, pF 23 (.iad t21 t22 3), pF 24 (.ld t23 3 true), rg 25 (.call false 15 [t20, t24]), pF 26 (.not t25)]) (.cond t26 (.seq (.reg [pT 4 (.mv cf)]) .ret) .skip))) (.reg [mvt 15 5, pT 16 (.bin .add t15 (ci 1)), mvt 5 16])))))) (.seq (.reg [pT 4 (.mv ct)]) .ret))))
theorem c6_is : compFn Tryd.prog 6 = some (c6, [(.tmp 4)]) := by kernel_rfl
theorem c6_ok : okFn Tryd.prog 6 = true := by kernel_rfl

noncomputable def F_laws_eqPersonS_l0 (v0 : List TPerson) (v1 : List TPerson) (k0 : Int → Option (Bool)) : Int → Option (Bool)
 | v50001 => (bif (decide (v50001 < (v0.length : Int))) then ((ix v0 v50001).bind fun v1000 => ((ix v1 v50001).bind fun v1001 => ((F_laws_eqPerson v1000 v1001).bind fun v1002 => (bif (!v1002) then some false
 else k0 (w64 (v50001 + 1))))))
 else some true)
noncomputable def F_laws_eqPersonS (v0 : List TPerson) (v1 : List TPerson) : Option (Bool) :=
 (bif (decide ((v0.length : Int) ≠ (v1.length : Int))) then some false
 else loop (F_laws_eqPersonS_l0 v0 v1) 0)
@[simp] def res_laws_eqPersonS (r : Bool) : RV := .one (.one (.val (.bool r)))
theorem con_laws_eqPersonS {v0 : List TPerson} {v1 : List TPerson} {r : Bool} (hF : F_laws_eqPersonS v0 v1 = some r) : Con Tryd.prog 6 [.sl 3 (v0.map ePerson), .sl 3 (v1.map ePerson)] (res_laws_eqPersonS r) := by
 unfold F_laws_eqPersonS at hF
 refine con_of c6_is fun N => ?_
 refine ws 0 64 ?_
 refine qp (AB false) rfl ?_
 refine r_nil ?_
 refine w_seq ?_
 refine ws 64 384 ?_
 refine qp (AL 3 (v0.map ePerson)) rfl (qp (AI (v0.length : Int)) (ev_len_n rfl) (qp (AL 3 (v1.map ePerson)) rfl (qp (AI (v1.length : Int)) (ev_len_n rfl) (qp (AB (decide ((v0.length : Int) ≠ (v1.length : Int)))) rfl ?_))))
 refine r_nil ?_
 refine cF hF (fun hF => ?_) fun hF => ?_
 ·
  refine ws 384 448 ?_
  refine qp (AB false) rfl ?_
  refine r_nil ?_
  refine w_ret ?_
  refine thenQ_r ?_
  cases hF
  exact eR
 ·
  refine w_skip ?_
  refine thenQ_n ?_
  refine w_seq ?_
  refine ws 384 448 ?_
  refine qp (AI 0) rfl ?_
  refine r_nil ?_
  refine w_block ?_
  refine wr (l' := [(0, AL 3 (v0.map ePerson)), (1, AL 3 (v1.map ePerson)), (5, AI 0)]) (L := []) [0, 1, 5] [] 1 ?_
  refine w_loopF (F_laws_eqPersonS_l0 v0 v1) (fun s : Int => mkS [(0, AL 3 (v0.map ePerson)), (1, AL 3 (v1.map ePerson)), (5, AI s)] (fo []) 1) hF ?_
  rintro k0 v50001 hF
  rw [F_laws_eqPersonS_l0] at hF
  try dsimp only
  refine w_seq ?_
  refine ws 1 257 ?_
  refine qp (AI v50001) rfl (qp (AL 3 (v0.map ePerson)) rfl (qp (AI (v0.length : Int)) (ev_len_n rfl) (qp (AB (decide (v50001 < (v0.length : Int)))) rfl ?_)))
  refine r_nil ?_
  refine cF hF (fun hF => ?_) fun hF => ?_
  ·
   refine w_skip ?_
   refine thenQ_n ?_
   refine w_seq ?_
   refine w_block ?_
   refine ws 257 897 ?_
   refine qp (AL 3 (v0.map ePerson)) rfl (qp (AI v50001) rfl ?_)
   obtain ⟨v1000, e1000, hF⟩ := bind_get hF
   refine qp (.val none (.ptr [.str v1000.1, .int .i64 v1000.2.1, .sl 1 (v1000.2.2.map V.str)])) (ev_iad_n rfl rfl e1000 rfl) (qp (.val none (ePerson v1000)) rfl (qp (AL 3 (v1.map ePerson)) rfl (qp (AI v50001) rfl ?_)))
   obtain ⟨v1001, e1001, hF⟩ := bind_get hF
   refine qp (.val none (.ptr [.str v1001.1, .int .i64 v1001.2.1, .sl 1 (v1001.2.2.map V.str)])) (ev_iad_n rfl rfl e1001 rfl) (qp (.val none (ePerson v1001)) rfl ?_)
   obtain ⟨v1002, e1002, hF⟩ := bind_get hF
   refine qc (AB v1002) [] false (con_laws_eqPerson e1002) c15_ok (by first | rfl | simp) rfl ?_
   refine qp (AB (!v1002)) rfl ?_
   refine r_nil ?_
   refine cF hF (fun hF => ?_) fun hF => ?_
   ·
    refine ws 897 961 ?_
    refine qp (AB false) rfl ?_
    refine r_nil ?_
    refine w_ret ?_
    refine blockQ_r ?_
    refine thenQ_r ?_
    refine thenQ_r ?_
    refine blockQ_r ?_
    refine thenQ_r ?_
    cases hF
    exact eR
   ·
    refine w_skip ?_
    refine blockQ_n ?_
    refine thenQ_n ?_
    refine w_reg 897 1089 rfl rfl ?_
    refine qp (AI v50001) rfl (qp (AI (w64 (v50001 + 1))) rfl (qp (AI (w64 (v50001 + 1))) rfl ?_))
    refine r_nil ?_
    refine thenQ_n ?_
    refine ar (l' := [(0, AL 3 (v0.map ePerson)), (1, AL 3 (v1.map ePerson)), (5, AI (w64 (v50001 + 1)))]) (L := []) [0, 1, 5] [] 1 ⟨_, by rfl, hF⟩
  ·
   refine w_exit ?_
   refine thenQ_e ?_
   refine thenQ_e ?_
   refine blockQ_e ?_
   refine thenQ_n ?_
   refine ws 257 321 ?_
   refine qp (AB true) rfl ?_
   exact rR hF

def c16 : MC := (.seq (.reg [pT 2 (.mv (.c (.str [])))]) (.seq (.seq (.reg [mvt 4 0, pT 5 (.bin .leq t4 (ci 0))]) (.cond t5 (.seq (.reg [pT 2 (.mv (.c (.str [109, 48])))]) .ret) .skip)) (.seq (.reg [pT 3 (.mv (.c (.str [])))]) (.seq (.block 0 (.loop (.seq (.seq (.reg [mvt 6 0, pT 7 (.bin .gtr t6 (ci 0))]) (.cond t7 .skip (.exit 0))) (.block 1 (.seq (.reg [mvt 8 0, pT 9 (.bin .rem t8 (ci 10)), pT 10 (.bin .add (ci 48) t9), pT 11 (.conv .u8 t10), rg 12 (.f (.bsl 1 [t11])), pT 13 (.bts t12), mvt 14 3, pT 15 (.bin .add t13 t14), mvt 3 15]) (.reg [mvt 16 0, pT 17 (.bin .quo t16 (ci 10)), mvt 0 17])))))) (.seq (.reg [mvt 18 3, pT 19 (.bin .add (.c (.str [109])) t18), mvt 2 19]) .ret)))))
theorem c16_is : compFn Tryd.prog 16 = some (c16, [(.tmp 2)]) := by kernel_rfl
theorem c16_ok : okFn Tryd.prog 16 = true := by kernel_rfl

noncomputable def F_laws_markText_l0 (k0 : Int × (List UInt8) → Option (List UInt8)) : Int × (List UInt8) → Option (List UInt8)
 | (v50002, v50003) => (bif (decide ((0 : Int) < v50002)) then (need ((bytesI ([IntKind.wrap .u8 (w64 (48 + (Int.tmod v50002 10)))] : List Int)).length + v50003.length < 9223372036854775808) (k0 (w64 (Int.tdiv v50002 10), (bytesI ([IntKind.wrap .u8 (w64 (48 + (Int.tmod v50002 10)))] : List Int)) ++ v50003)))
 else (need ([109].length + v50003.length < 9223372036854775808) (some ([109] ++ v50003))))
noncomputable def F_laws_markText (v0 : Int) : Option (List UInt8) :=
 (bif (decide (v0 ≤ (0 : Int))) then some [109, 48]
 else loop (F_laws_markText_l0) (v0, []))
@[simp] def res_laws_markText (r : List UInt8) : RV := .one (.one (.val (.str r)))
theorem con_laws_markText {v0 : Int} {r : List UInt8} (hF : F_laws_markText v0 = some r) : Con Tryd.prog 16 [.int .i64 v0] (res_laws_markText r) := by
 unfold F_laws_markText at hF
 refine con_of c16_is fun N => ?_
 refine ws 0 64 ?_
 refine qp (AS []) rfl ?_
 refine r_nil ?_
 refine w_seq ?_
 refine ws 64 192 ?_
 refine qp (AI v0) rfl (qp (AB (decide (v0 ≤ (0 : Int)))) rfl ?_)
 refine r_nil ?_
 refine cF hF (fun hF => ?_) fun hF => ?_
 ·
  refine ws 192 256 ?_
  refine qp (AS [109, 48]) rfl ?_
  refine r_nil ?_
  refine w_ret ?_
  refine thenQ_r ?_
  cases hF
  exact eR
 ·
  refine w_skip ?_
  refine thenQ_n ?_
  refine ws 192 256 ?_
  refine qp (AS []) rfl ?_
  refine r_nil ?_
  refine w_seq ?_
  refine w_block ?_
  refine wr (l' := [(0, AI v0), (3, AS ([] : List UInt8))]) (L := []) [0, 3] [] 1 ?_
  refine w_loopF (F_laws_markText_l0) (fun s : Int × (List UInt8) => mkS [(0, AI s.1), (3, AS s.2)] (fo []) 1) hF ?_
  rintro k0 ⟨v50002, v50003⟩ hF
  rw [F_laws_markText_l0] at hF
  try dsimp only
  refine w_seq ?_
  refine ws 1 129 ?_
  refine qp (AI v50002) rfl (qp (AB (decide ((0 : Int) < v50002))) rfl ?_)
  refine r_nil ?_
  refine cF hF (fun hF => ?_) fun hF => ?_
  ·
   refine w_skip ?_
   refine thenQ_n ?_
   refine w_block ?_
   refine ws 129 705 ?_
   refine qp (AI v50002) rfl (qp (AI (Int.tmod v50002 10)) (ev_rem rfl rfl (by decide)) (qp (AI (w64 (48 + (Int.tmod v50002 10)))) rfl (qp (.val none (.int .u8 (IntKind.wrap .u8 (w64 (48 + (Int.tmod v50002 10)))))) rfl ?_)))
   refine qf (.sl 385 0 (([IntKind.wrap .u8 (w64 (48 + (Int.tmod v50002 10)))] : List Int).length)) [(385, .row true 1 (([IntKind.wrap .u8 (w64 (48 + (Int.tmod v50002 10)))] : List Int).map (V.int .u8)))] (by simp [List.take_of_length_le]) ?_
   refine qp (AS (bytesI ([IntKind.wrap .u8 (w64 (48 + (Int.tmod v50002 10)))] : List Int))) (ev_bts_r rfl (by simp) rfl) (qp (AS v50003) rfl ?_)
   obtain ⟨g1000, hF⟩ := need_some hF
   refine qp (AS ((bytesI ([IntKind.wrap .u8 (w64 (48 + (Int.tmod v50002 10)))] : List Int)) ++ v50003)) (ev_add_s rfl rfl g1000) (qp (AS ((bytesI ([IntKind.wrap .u8 (w64 (48 + (Int.tmod v50002 10)))] : List Int)) ++ v50003)) rfl ?_)
   refine r_nil ?_
   refine w_reg 705 897 rfl rfl ?_
   refine qp (AI v50002) rfl (qp (AI (w64 (Int.tdiv v50002 10))) (ev_quo rfl rfl (by decide)) (qp (AI (w64 (Int.tdiv v50002 10))) rfl ?_))
   refine r_nil ?_
   refine blockQ_n ?_
   refine thenQ_n ?_
   refine ar (l' := [(0, AI (w64 (Int.tdiv v50002 10))), (3, AS ((bytesI ([IntKind.wrap .u8 (w64 (48 + (Int.tmod v50002 10)))] : List Int)) ++ v50003))]) (L := []) [0, 3] [] 1 ⟨_, by rfl, hF⟩
  ·
   refine w_exit ?_
   refine thenQ_e ?_
   refine thenQ_e ?_
   refine blockQ_e ?_
   refine thenQ_n ?_
   refine ws 129 321 ?_
   refine qp (AS v50003) rfl ?_
   obtain ⟨g1001, hF⟩ := need_some hF
   refine qp (AS ([109] ++ v50003)) (ev_add_s rfl rfl g1001) (qp (AS ([109] ++ v50003)) rfl ?_)
   exact rR hF

def c17 : MC := (.seq (.reg [pT 4 (.mv (ci 0))]) (.seq (.seq (.reg [pT 5 (.mv (ci 0))]) (.block 0 (.loop (.seq (.seq (.reg [mvt 6 5, mvt 7 0, pT 8 (.len t7), pT 9 (.bin .lss t6 t8)]) (.cond t9 .skip (.exit 0))) (.seq (.block 1 (.seq (.reg [mvt 12 0, mvt 13 5, mvt 14 1, rg 15 (.call true 16 [t14]), pT 16 (.iad t12 t13 1), ⟨none, none, (.f (.st t16 t15 1))⟩]) (.reg [mvt 17 1, pT 18 (.bin .add t17 (ci 1)), mvt 1 18]))) (.reg [mvt 10 5, pT 11 (.bin .add t10 (ci 1)), mvt 5 11])))))) (.seq (.reg [mvt 19 1, mvt 4 19]) .ret)))
theorem c17_is : compFnM Tryd.prog 17 = some (c17, [(.tmp 4)]) := by kernel_rfl
theorem c17_ok : okFn Tryd.prog 17 = true := by kernel_rfl

noncomputable def F_laws_markStringS_l0 (k0 : Int × Int × (List (List UInt8)) → Option ((List (List UInt8)) × Int)) : Int × Int × (List (List UInt8)) → Option ((List (List UInt8)) × Int)
 | (v50003, v50004, v50005) => (bif (decide (v50004 < (v50005.length : Int))) then ((F_laws_markText v50003).bind fun v1000 => ((ix v50005 v50004).bind fun v1001 => k0 (w64 (v50003 + 1), w64 (v50004 + 1), List.set v50005 v50004.toNat v1000)))
 else some (v50005, v50003))
noncomputable def F_laws_markStringS (v0 : List (List UInt8)) (v1 : Int) : Option ((List (List UInt8)) × Int) :=
 loop (F_laws_markStringS_l0) (v1, 0, v0)
theorem con_laws_markStringS {v0 : List (List UInt8)} {v1 : Int} {r : (List (List UInt8)) × Int} (hF : F_laws_markStringS v0 v1 = some r) : ConM Tryd.prog 17 (.one (.row true 1 (v0.map V.str))) (.one (.row true 1 (r.1.map V.str))) [.int .i64 v1] (.int .i64 r.2) := by
 unfold F_laws_markStringS at hF
 refine conM_of (av := .sl 0 0 v0.length) (L := [(0, .row true 1 (v0.map V.str))]) c17_is rfl rfl rfl (by simp) fun N => ?_
 refine ws 64 128 ?_
 refine qp (AI 0) rfl ?_
 refine r_nil ?_
 refine w_seq ?_
 refine ws 128 192 ?_
 refine qp (AI 0) rfl ?_
 refine r_nil ?_
 refine w_block ?_
 refine wr (l' := [(0, .sl 0 0 v0.length), (1, AI v1), (5, AI 0)]) (L := [(0, .row true 1 (v0.map V.str))]) [0, 1, 5] [(0, 0)] 1 ?_
 refine w_loopF (F_laws_markStringS_l0) (fun s : Int × Int × (List (List UInt8)) => mkS [(0, .sl 0 0 s.2.2.length), (1, AI s.1), (5, AI s.2.1)] (fo [(0, .row true 1 (s.2.2.map V.str))]) 1) hF ?_
 rintro k0 ⟨v50003, v50004, v50005⟩ hF
 rw [F_laws_markStringS_l0] at hF
 try dsimp only
 refine w_seq ?_
 refine ws 1 257 ?_
 refine qp (AI v50004) rfl (qp (.sl 0 0 v50005.length) rfl (qp (AI (v50005.length : Int)) rfl (qp (AB (decide (v50004 < (v50005.length : Int)))) rfl ?_)))
 refine r_nil ?_
 refine cF hF (fun hF => ?_) fun hF => ?_
 ·
  refine w_skip ?_
  refine thenQ_n ?_
  refine w_seq ?_
  refine w_block ?_
  refine ws 257 641 ?_
  refine qp (.sl 0 0 v50005.length) rfl (qp (AI v50004) rfl (qp (AI v50003) rfl ?_))
  obtain ⟨v1000, e1000, hF⟩ := bind_get hF
  refine qc (AS v1000) [(0, .row true 1 (v50005.map V.str))] false (con_laws_markText e1000) c16_ok (by first | rfl | simp) rfl ?_
  obtain ⟨v1001, e1001, hF⟩ := bind_get hF
  refine qp (.ptr 0 v50004.toNat 0) (ev_iad_r rfl (by simp) rfl rfl e1001) ?_
  refine qf0 (.undef) [(0, .row true 1 ((List.set v50005 v50004.toNat v1000).map V.str)), (0, .row true 1 (v50005.map V.str))] (effT_st rfl rfl (ix_some e1001).2 rfl rfl (by rfl) (by first | rfl | simp [patch, reb, List.take_of_length_le]) (by rfl) rfl) ?_
  refine r_nil ?_
  refine w_reg 641 833 rfl rfl ?_
  refine qp (AI v50003) rfl (qp (AI (w64 (v50003 + 1))) rfl (qp (AI (w64 (v50003 + 1))) rfl ?_))
  refine r_nil ?_
  refine blockQ_n ?_
  refine thenQ_n ?_
  refine w_reg 833 1025 rfl rfl ?_
  refine qp (AI v50004) rfl (qp (AI (w64 (v50004 + 1))) rfl (qp (AI (w64 (v50004 + 1))) rfl ?_))
  refine r_nil ?_
  refine thenQ_n ?_
  refine ar (l' := [(0, .sl 0 0 (List.set v50005 v50004.toNat v1000).length), (1, AI (w64 (v50003 + 1))), (5, AI (w64 (v50004 + 1)))]) (L := [(0, .row true 1 ((List.set v50005 v50004.toNat v1000).map V.str))]) [0, 1, 5] [(0, 0)] 1 ⟨_, by rfl, hF⟩
 ·
  refine w_exit ?_
  refine thenQ_e ?_
  refine thenQ_e ?_
  refine blockQ_e ?_
  refine thenQ_n ?_
  refine ws 257 385 ?_
  refine qp (AI v50003) rfl (qp (AI v50003) rfl ?_)
  refine r_nil ?_
  refine w_ret ?_
  cases hF
  exact endM_r rfl rfl (by first | rfl | (simp [List.take_of_length_le]; first | exact ⟨rfl, rfl⟩ | rfl)) (by simp)

end Go.Ab
