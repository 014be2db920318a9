/- Walks (printed by auto.py, a program of this session's own). -/
import Derived.Test.YtpnmhfbiaajaeaaGreatDoorS0
import Derived.Test.YtpnmhfbiaajaeaaGreatDoorProg
import Derived.KernelRfl
import Derived.Test.YtpnmhfbiaajaeaaGreatDoorSQ
set_option linter.unusedVariables false
set_option linter.unusedSimpArgs false
set_option maxRecDepth 8000
set_option maxHeartbeats 8000000
namespace Go.Ab
open Go.RowKit Go.Proofs

abbrev TTurn := (List UInt8) × Int × Int
@[simp] def eTurn (p : TTurn) : V := .agg [.str p.1, .int .i64 p.2.1, .int .i64 p.2.2]
abbrev TL00Src := (List Int) × Int × Int
def c5 : MC := (.seq (.reg [rg 6 (.p true (.mv (.c (.int .i64 0))))]) (.seq (.seq (.reg [mvt 7 2, rg 8 (.p true (.bin .leq (.t 7) (.c (.int .i64 1)))), mvt 9 8, ⟨(some 10), (some (9, false)), (.p true (.mv (.t 1)))⟩, ⟨(some 11), (some (9, false)), (.p true (.mv (.t 0)))⟩, ⟨(some 12), (some (9, false)), (.p true (.len (.t 11)))⟩, ⟨(some 13), (some (9, false)), (.p true (.bin .geq (.t 10) (.t 12)))⟩, rg 14 (.p true (.pick (.t 9) (.c (.bool true)) (.t 13)))]) (.cond (.t 14) (.seq (.reg [rg 6 (.p true (.mv (.c (.int .i64 0))))]) .ret) .skip)) (.seq (.reg [mvt 15 0, mvt 16 1, rg 17 (.p true (.iad (.t 15) (.t 16) 1)), rg 18 (.p true (.ld (.t 17) 1 false)), rg 19 (.p true (.conv .i64 (.t 18))), mvt 20 2, rg 21 (.p true (.bin .rem (.t 19) (.t 20))), mvt 6 21]) .ret)))
theorem c5_is : compFn Tryz.prog 5 = some (c5, [(.tmp 6)]) := by kernel_rfl
theorem c5_ok : okFn Tryz.prog 5 = true := by kernel_rfl

noncomputable def F_laws_r8At (v0 : List Int) (v1 : Int) (v2 : Int) : Option (Int) :=
 (bif (decide (v2 ≤ (1 : Int))) then some 0
 else (bif (decide ((v0.length : Int) ≤ v1)) then some 0
 else ((ix v0 v1).bind fun v1000 => (need (v2 ≠ 0) (some (Int.tmod (w64 (v1000)) v2))))))
@[simp] def res_laws_r8At (r : Int) : RV := .one (.one (.val (.int .i64 r)))
theorem con_laws_r8At {v0 : List Int} {v1 : Int} {v2 : Int} {r : Int} (hF : F_laws_r8At v0 v1 v2 = some r) : Con Tryz.prog 5 [.sl 1 (v0.map (V.int .u8)), .int .i64 v1, .int .i64 v2] (res_laws_r8At r) := by
 unfold F_laws_r8At at hF
 refine con_of c5_is fun N => ?_
 refine ws 0 64 ?_
 refine qp (AI 0) rfl ?_
 refine r_nil ?_
 refine w_seq ?_
 refine ws 64 576 ?_
 refine qp (AI v2) rfl (qp (AB (decide (v2 ≤ (1 : Int)))) rfl (qp (AB (decide (v2 ≤ (1 : Int)))) rfl ?_))
 refine q_case 9 hF rfl (fun hF => ?_) (fun hF => ?_)
 ·
  refine qn rfl (qn rfl (qn rfl (qn rfl (qp (AB true) rfl ?_))))
  refine r_nil ?_
  refine w_true rfl ?_
  refine ws 576 640 ?_
  refine qp (AI 0) rfl ?_
  refine r_nil ?_
  refine w_ret ?_
  refine thenQ_r ?_
  cases hF
  exact eR
 ·
  refine qg (AI v1) rfl rfl (qg (AL 1 (v0.map (V.int .u8))) rfl rfl (qg (AI (v0.length : Int)) rfl (ev_len_n rfl) (qg (AB (decide ((v0.length : Int) ≤ v1))) rfl rfl (qp (AB (decide ((v0.length : Int) ≤ v1))) rfl ?_))))
  refine r_nil ?_
  refine cF hF (fun hF => ?_) fun hF => ?_
  ·
   refine ws 576 640 ?_
   refine qp (AI 0) rfl ?_
   refine r_nil ?_
   refine w_ret ?_
   refine thenQ_r ?_
   cases hF
   exact eR
  ·
   refine w_skip ?_
   refine thenQ_n ?_
   refine ws 576 1088 ?_
   refine qp (AL 1 (v0.map (V.int .u8))) rfl (qp (AI v1) rfl ?_)
   obtain ⟨v1000, e1000, hF⟩ := bind_get hF
   refine qp (.val none (.ptr [.int .u8 v1000])) (ev_iad_n rfl rfl e1000 rfl) (qp (.val none (.int .u8 v1000)) rfl (qp (AI (w64 (v1000))) rfl (qp (AI v2) rfl ?_)))
   obtain ⟨g1001, hF⟩ := need_some hF
   refine qp (AI (Int.tmod (w64 (v1000)) v2)) (ev_rem rfl rfl g1001) (qp (AI (Int.tmod (w64 (v1000)) v2)) rfl ?_)
   refine r_nil ?_
   refine w_ret ?_
   cases hF
   exact eR

def c4 : MC := (.seq (.reg [rg 6 (.p true (.mv (.c (.int .i64 0))))]) (.seq (.reg [mvt 7 0, mvt 8 1, rg 9 (.call true 5 [(.t 7), (.t 8), (.c (.int .i64 256))]), rg 10 (.p true (.bin .mul (.c (.int .i64 256)) (.t 9))), mvt 11 0, mvt 12 1, rg 13 (.p true (.bin .add (.t 12) (.c (.int .i64 1)))), rg 14 (.call true 5 [(.t 11), (.t 13), (.c (.int .i64 256))]), rg 15 (.p true (.bin .add (.t 10) (.t 14))), mvt 16 2, rg 17 (.p true (.bin .rem (.t 15) (.t 16))), mvt 6 17]) .ret))
theorem c4_is : compFn Tryz.prog 4 = some (c4, [(.tmp 6)]) := by kernel_rfl
theorem c4_ok : okFn Tryz.prog 4 = true := by kernel_rfl

noncomputable def F_laws_r8Wide (v0 : List Int) (v1 : Int) (v2 : Int) : Option (Int) :=
 ((F_laws_r8At v0 v1 256).bind fun v1000 => ((F_laws_r8At v0 (w64 (v1 + 1)) 256).bind fun v1001 => (need (v2 ≠ 0) (some (Int.tmod (w64 ((w64 (256 * v1000)) + v1001)) v2)))))
@[simp] def res_laws_r8Wide (r : Int) : RV := .one (.one (.val (.int .i64 r)))
theorem con_laws_r8Wide {v0 : List Int} {v1 : Int} {v2 : Int} {r : Int} (hF : F_laws_r8Wide v0 v1 v2 = some r) : Con Tryz.prog 4 [.sl 1 (v0.map (V.int .u8)), .int .i64 v1, .int .i64 v2] (res_laws_r8Wide r) := by
 unfold F_laws_r8Wide at hF
 refine con_of c4_is fun N => ?_
 refine ws 0 64 ?_
 refine qp (AI 0) rfl ?_
 refine r_nil ?_
 refine ws 64 832 ?_
 refine qp (AL 1 (v0.map (V.int .u8))) rfl (qp (AI v1) rfl ?_)
 obtain ⟨v1000, e1000, hF⟩ := bind_get hF
 refine qc (AI v1000) [] false (con_laws_r8At e1000) c5_ok (by first | rfl | simp) rfl ?_
 refine qp (AI (w64 (256 * v1000))) rfl (qp (AL 1 (v0.map (V.int .u8))) rfl (qp (AI v1) rfl (qp (AI (w64 (v1 + 1))) rfl ?_)))
 obtain ⟨v1001, e1001, hF⟩ := bind_get hF
 refine qc (AI v1001) [] false (con_laws_r8At e1001) c5_ok (by first | rfl | simp) rfl ?_
 refine qp (AI (w64 ((w64 (256 * v1000)) + v1001))) rfl (qp (AI v2) rfl ?_)
 obtain ⟨g1002, hF⟩ := need_some hF
 refine qp (AI (Int.tmod (w64 ((w64 (256 * v1000)) + v1001)) v2)) (ev_rem rfl rfl g1002) (qp (AI (Int.tmod (w64 ((w64 (256 * v1000)) + v1001)) v2)) rfl ?_)
 refine r_nil ?_
 refine w_ret ?_
 cases hF
 exact eR

def c26 : MC := (.seq (.reg [rg 2 (.p true (.mv (.c (.bool false))))]) (.seq (.seq (.reg [mvt 5 0, rg 6 (.p true (.lens (.t 5))), rg 7 (.p true (.mv (.c (.int .i64 0))))]) (.block 0 (.loop (.seq (.reg [rg 8 (.p true (.bin .lss (.t 7) (.t 6)))]) (.seq (.cond (.t 8) .skip (.exit 0)) (.seq (.block 1 (.seq (.reg [mvt 9 7, mvt 3 9]) (.seq (.reg [mvt 10 0, mvt 11 3, rg 12 (.p true (.ixs (.t 10) (.t 11))), mvt 4 12]) (.seq (.reg [mvt 13 4, rg 14 (.p true (.bin .lss (.t 13) (.c (.int .u8 97)))), mvt 15 14, ⟨(some 16), (some (15, false)), (.p true (.mv (.t 4)))⟩, ⟨(some 17), (some (15, false)), (.p true (.bin .gtr (.t 16) (.c (.int .u8 122))))⟩, rg 18 (.p true (.pick (.t 15) (.c (.bool true)) (.t 17))), mvt 19 18, ⟨(some 20), (some (19, true)), (.p true (.mv (.t 4)))⟩, ⟨(some 21), (some (19, true)), (.p true (.bin .lss (.t 20) (.c (.int .u8 48))))⟩, ⟨(some 22), (some (19, true)), (.p true (.mv (.t 21)))⟩, ⟨(some 23), (some (22, false)), (.p true (.mv (.t 4)))⟩, ⟨(some 24), (some (22, false)), (.p true (.bin .gtr (.t 23) (.c (.int .u8 57))))⟩, ⟨(some 25), (some (19, true)), (.p true (.pick (.t 22) (.c (.bool true)) (.t 24)))⟩, rg 26 (.p true (.pick (.t 19) (.t 25) (.c (.bool false))))]) (.cond (.t 26) (.seq (.reg [rg 2 (.p true (.mv (.c (.bool false))))]) .ret) .skip))))) (.reg [rg 27 (.p true (.bin .add (.t 7) (.c (.int .i64 1)))), mvt 7 27]))))))) (.seq (.reg [rg 2 (.p true (.mv (.c (.bool true))))]) .ret)))
theorem c26_is : compFn Tryz.prog 26 = some (c26, [(.tmp 2)]) := by kernel_rfl
theorem c26_ok : okFn Tryz.prog 26 = true := by kernel_rfl

noncomputable def F_impl_onlyNameBytes_l0 (v0 : List UInt8) (k0 : Int → Option (Bool)) : Int → Option (Bool)
 | v50001 => (bif (decide (v50001 < (v0.length : Int))) then ((ix v0 v50001).bind fun v1000 => (bif (decide ((v1000.toNat : Int) < (97 : Int))) then (bif (decide ((v1000.toNat : Int) < (48 : Int))) then some false
 else (bif (decide ((57 : Int) < (v1000.toNat : Int))) then some false
 else k0 (w64 (v50001 + 1))))
 else (bif (decide ((122 : Int) < (v1000.toNat : Int))) then (bif (decide ((v1000.toNat : Int) < (48 : Int))) then some false
 else (bif (decide ((57 : Int) < (v1000.toNat : Int))) then some false
 else k0 (w64 (v50001 + 1))))
 else k0 (w64 (v50001 + 1)))))
 else some true)
noncomputable def F_impl_onlyNameBytes (v0 : List UInt8) : Option (Bool) :=
 loop (F_impl_onlyNameBytes_l0 v0) 0
@[simp] def res_impl_onlyNameBytes (r : Bool) : RV := .one (.one (.val (.bool r)))
theorem con_impl_onlyNameBytes {v0 : List UInt8} {r : Bool} (hF : F_impl_onlyNameBytes v0 = some r) : Con Tryz.prog 26 [.str v0] (res_impl_onlyNameBytes r) := by
 unfold F_impl_onlyNameBytes at hF
 refine con_of c26_is fun N => ?_
 refine ws 0 64 ?_
 refine qp (AB false) rfl ?_
 refine r_nil ?_
 refine w_seq ?_
 refine ws 64 256 ?_
 refine qp (AS v0) rfl (qp (AI (v0.length : Int)) rfl (qp (AI 0) rfl ?_))
 refine r_nil ?_
 refine w_block ?_
 refine wr (l' := [(0, AS v0), (6, AI (v0.length : Int)), (7, AI 0)]) (L := []) [0, 6, 7] [] 1 ?_
 refine w_loopF (F_impl_onlyNameBytes_l0 v0) (fun s : Int => mkS [(0, AS v0), (6, AI (v0.length : Int)), (7, AI s)] (fo []) 1) hF ?_
 rintro k0 v50001 hF
 rw [F_impl_onlyNameBytes_l0] at hF
 try dsimp only
 refine ws 1 65 ?_
 refine qp (AB (decide (v50001 < (v0.length : Int)))) rfl ?_
 refine r_nil ?_
 refine w_seq ?_
 refine cF hF (fun hF => ?_) fun hF => ?_
 ·
  refine w_skip ?_
  refine thenQ_n ?_
  refine w_seq ?_
  refine w_block ?_
  refine ws 65 193 ?_
  refine qp (AI v50001) rfl (qp (AI v50001) rfl ?_)
  refine r_nil ?_
  refine ws 193 449 ?_
  refine qp (AS v0) rfl (qp (AI v50001) rfl ?_)
  obtain ⟨v1000, e1000, hF⟩ := bind_get hF
  refine qp (.val none (.int .u8 (v1000.toNat : Int))) (ev_ixs rfl rfl e1000) (qp (.val none (.int .u8 (v1000.toNat : Int))) rfl ?_)
  refine r_nil ?_
  refine ws 449 1345 ?_
  refine qp (.val none (.int .u8 (v1000.toNat : Int))) rfl (qp (AB (decide ((v1000.toNat : Int) < (97 : Int)))) rfl (qp (AB (decide ((v1000.toNat : Int) < (97 : Int)))) rfl ?_))
  refine q_case 15 hF rfl (fun hF => ?_) (fun hF => ?_)
  ·
   refine qn rfl (qn rfl (qp (AB true) rfl (qp (AB true) rfl (qg (.val none (.int .u8 (v1000.toNat : Int))) rfl rfl (qg (AB (decide ((v1000.toNat : Int) < (48 : Int)))) rfl rfl (qg (AB (decide ((v1000.toNat : Int) < (48 : Int)))) rfl rfl ?_))))))
   refine q_case 22 hF rfl (fun hF => ?_) (fun hF => ?_)
   ·
    refine qn rfl (qn rfl (qg (AB true) rfl rfl (qp (AB true) rfl ?_)))
    refine r_nil ?_
    refine w_true rfl ?_
    refine ws 1345 1409 ?_
    refine qp (AB false) rfl ?_
    refine r_nil ?_
    refine w_ret ?_
    refine blockQ_r ?_
    refine thenQ_r ?_
    refine thenQ_r ?_
    refine blockQ_r ?_
    refine thenQ_r ?_
    cases hF
    exact eR
   ·
    refine qg (.val none (.int .u8 (v1000.toNat : Int))) rfl rfl (qg (AB (decide ((57 : Int) < (v1000.toNat : Int)))) rfl rfl (qg (AB (decide ((57 : Int) < (v1000.toNat : Int)))) rfl rfl (qp (AB (decide ((57 : Int) < (v1000.toNat : Int)))) rfl ?_)))
    refine r_nil ?_
    refine cF hF (fun hF => ?_) fun hF => ?_
    ·
     refine ws 1345 1409 ?_
     refine qp (AB false) rfl ?_
     refine r_nil ?_
     refine w_ret ?_
     refine blockQ_r ?_
     refine thenQ_r ?_
     refine thenQ_r ?_
     refine blockQ_r ?_
     refine thenQ_r ?_
     cases hF
     exact eR
    ·
     refine w_skip ?_
     refine blockQ_n ?_
     refine thenQ_n ?_
     refine w_reg 1345 1473 rfl rfl ?_
     refine qp (AI (w64 (v50001 + 1))) rfl (qp (AI (w64 (v50001 + 1))) rfl ?_)
     refine r_nil ?_
     refine thenQ_n ?_
     refine ar (l' := [(0, AS v0), (6, AI (v0.length : Int)), (7, AI (w64 (v50001 + 1)))]) (L := []) [0, 6, 7] [] 1 ⟨_, by rfl, hF⟩
  ·
   refine qg (.val none (.int .u8 (v1000.toNat : Int))) rfl rfl (qg (AB (decide ((122 : Int) < (v1000.toNat : Int)))) rfl rfl (qp (AB (decide ((122 : Int) < (v1000.toNat : Int)))) rfl (qp (AB (decide ((122 : Int) < (v1000.toNat : Int)))) rfl ?_)))
   refine q_case 19 hF rfl (fun hF => ?_) (fun hF => ?_)
   ·
    refine qg (.val none (.int .u8 (v1000.toNat : Int))) rfl rfl (qg (AB (decide ((v1000.toNat : Int) < (48 : Int)))) rfl rfl (qg (AB (decide ((v1000.toNat : Int) < (48 : Int)))) rfl rfl ?_))
    refine q_case 22 hF rfl (fun hF => ?_) (fun hF => ?_)
    ·
     refine qn rfl (qn rfl (qg (AB true) rfl rfl (qp (AB true) rfl ?_)))
     refine r_nil ?_
     refine w_true rfl ?_
     refine ws 1345 1409 ?_
     refine qp (AB false) rfl ?_
     refine r_nil ?_
     refine w_ret ?_
     refine blockQ_r ?_
     refine thenQ_r ?_
     refine thenQ_r ?_
     refine blockQ_r ?_
     refine thenQ_r ?_
     cases hF
     exact eR
    ·
     refine qg (.val none (.int .u8 (v1000.toNat : Int))) rfl rfl (qg (AB (decide ((57 : Int) < (v1000.toNat : Int)))) rfl rfl (qg (AB (decide ((57 : Int) < (v1000.toNat : Int)))) rfl rfl (qp (AB (decide ((57 : Int) < (v1000.toNat : Int)))) rfl ?_)))
     refine r_nil ?_
     refine cF hF (fun hF => ?_) fun hF => ?_
     ·
      refine ws 1345 1409 ?_
      refine qp (AB false) rfl ?_
      refine r_nil ?_
      refine w_ret ?_
      refine blockQ_r ?_
      refine thenQ_r ?_
      refine thenQ_r ?_
      refine blockQ_r ?_
      refine thenQ_r ?_
      cases hF
      exact eR
     ·
      refine w_skip ?_
      refine blockQ_n ?_
      refine thenQ_n ?_
      refine w_reg 1345 1473 rfl rfl ?_
      refine qp (AI (w64 (v50001 + 1))) rfl (qp (AI (w64 (v50001 + 1))) rfl ?_)
      refine r_nil ?_
      refine thenQ_n ?_
      refine ar (l' := [(0, AS v0), (6, AI (v0.length : Int)), (7, AI (w64 (v50001 + 1)))]) (L := []) [0, 6, 7] [] 1 ⟨_, by rfl, hF⟩
   ·
    refine qn rfl (qn rfl (qn rfl (qu rfl (qu rfl (qn rfl (qp (AB false) rfl ?_))))))
    refine r_nil ?_
    refine w_false rfl ?_
    refine w_skip ?_
    refine blockQ_n ?_
    refine thenQ_n ?_
    refine w_reg 1345 1473 rfl rfl ?_
    refine qp (AI (w64 (v50001 + 1))) rfl (qp (AI (w64 (v50001 + 1))) rfl ?_)
    refine r_nil ?_
    refine thenQ_n ?_
    refine ar (l' := [(0, AS v0), (6, AI (v0.length : Int)), (7, AI (w64 (v50001 + 1)))]) (L := []) [0, 6, 7] [] 1 ⟨_, by rfl, hF⟩
 ·
  refine w_exit ?_
  refine thenQ_e ?_
  refine thenQ_e ?_
  refine blockQ_e ?_
  refine thenQ_n ?_
  refine ws 65 129 ?_
  refine qp (AB true) rfl ?_
  refine r_nil ?_
  refine w_ret ?_
  cases hF
  exact eR

def c13 : MC := (.seq (.reg [rg 2 (.p true (.mv (.c (.bool false))))]) (.seq (.seq (.reg [mvt 3 0, rg 4 (.p true (.lens (.t 3))), rg 5 (.p true (.bin .lss (.t 4) (.c (.int .i64 1)))), mvt 6 5, ⟨(some 7), (some (6, false)), (.p true (.mv (.t 0)))⟩, ⟨(some 8), (some (6, false)), (.p true (.lens (.t 7)))⟩, ⟨(some 9), (some (6, false)), (.p true (.bin .gtr (.t 8) (.c (.int .i64 10))))⟩, rg 10 (.p true (.pick (.t 6) (.c (.bool true)) (.t 9))), mvt 11 10, ⟨(some 12), (some (11, false)), (.p true (.mv (.t 0)))⟩, ⟨(some 13), (some (11, false)), (.p true (.ixs (.t 12) (.c (.int .i64 0))))⟩, ⟨(some 14), (some (11, false)), (.p true (.bin .lss (.t 13) (.c (.int .u8 97))))⟩, rg 15 (.p true (.pick (.t 11) (.c (.bool true)) (.t 14))), mvt 16 15, ⟨(some 17), (some (16, false)), (.p true (.mv (.t 0)))⟩, ⟨(some 18), (some (16, false)), (.p true (.ixs (.t 17) (.c (.int .i64 0))))⟩, ⟨(some 19), (some (16, false)), (.p true (.bin .gtr (.t 18) (.c (.int .u8 122))))⟩, rg 20 (.p true (.pick (.t 16) (.c (.bool true)) (.t 19)))]) (.cond (.t 20) (.seq (.reg [rg 2 (.p true (.mv (.c (.bool false))))]) .ret) .skip)) (.seq (.reg [mvt 21 0, rg 22 (.call true 26 [(.t 21)]), mvt 2 22]) .ret)))
theorem c13_is : compFn Tryz.prog 13 = some (c13, [(.tmp 2)]) := by kernel_rfl
theorem c13_ok : okFn Tryz.prog 13 = true := by kernel_rfl

noncomputable def F_impl_IsName (v0 : List UInt8) : Option (Bool) :=
 (bif (decide ((v0.length : Int) < (1 : Int))) then some false
 else (bif (decide ((10 : Int) < (v0.length : Int))) then some false
 else ((ix v0 0).bind fun v1000 => (bif (decide ((v1000.toNat : Int) < (97 : Int))) then some false
 else ((ix v0 0).bind fun v1001 => (bif (decide ((122 : Int) < (v1001.toNat : Int))) then some false
 else ((F_impl_onlyNameBytes v0).bind fun v1002 => some v1002)))))))
@[simp] def res_impl_IsName (r : Bool) : RV := .one (.one (.val (.bool r)))
theorem con_impl_IsName {v0 : List UInt8} {r : Bool} (hF : F_impl_IsName v0 = some r) : Con Tryz.prog 13 [.str v0] (res_impl_IsName r) := by
 unfold F_impl_IsName at hF
 refine con_of c13_is fun N => ?_
 refine ws 0 64 ?_
 refine qp (AB false) rfl ?_
 refine r_nil ?_
 refine w_seq ?_
 refine ws 64 1216 ?_
 refine qp (AS v0) rfl (qp (AI (v0.length : Int)) rfl (qp (AB (decide ((v0.length : Int) < (1 : Int)))) rfl (qp (AB (decide ((v0.length : Int) < (1 : Int)))) rfl ?_)))
 refine q_case 6 hF rfl (fun hF => ?_) (fun hF => ?_)
 ·
  refine qn rfl (qn rfl (qn rfl (qp (AB true) rfl (qp (AB true) rfl (qn rfl (qn rfl (qn rfl ?_)))))))
  refine qp (AB true) rfl (qp (AB true) rfl (qn rfl (qn rfl (qn rfl (qp (AB true) rfl ?_)))))
  refine r_nil ?_
  refine w_true rfl ?_
  refine ws 1216 1280 ?_
  refine qp (AB false) rfl ?_
  refine r_nil ?_
  refine w_ret ?_
  refine thenQ_r ?_
  cases hF
  exact eR
 ·
  refine qg (AS v0) rfl rfl (qg (AI (v0.length : Int)) rfl rfl (qg (AB (decide ((10 : Int) < (v0.length : Int)))) rfl rfl (qp (AB (decide ((10 : Int) < (v0.length : Int)))) rfl (qp (AB (decide ((10 : Int) < (v0.length : Int)))) rfl ?_))))
  refine q_case 11 hF rfl (fun hF => ?_) (fun hF => ?_)
  ·
   refine qn rfl (qn rfl (qn rfl (qp (AB true) rfl (qp (AB true) rfl (qn rfl (qn rfl (qn rfl ?_)))))))
   refine qp (AB true) rfl ?_
   refine r_nil ?_
   refine w_true rfl ?_
   refine ws 1216 1280 ?_
   refine qp (AB false) rfl ?_
   refine r_nil ?_
   refine w_ret ?_
   refine thenQ_r ?_
   cases hF
   exact eR
  ·
   refine qg (AS v0) rfl rfl ?_
   obtain ⟨v1000, e1000, hF⟩ := bind_get hF
   refine qg (.val none (.int .u8 (v1000.toNat : Int))) rfl (ev_ixs rfl rfl e1000) (qg (AB (decide ((v1000.toNat : Int) < (97 : Int)))) rfl rfl (qp (AB (decide ((v1000.toNat : Int) < (97 : Int)))) rfl (qp (AB (decide ((v1000.toNat : Int) < (97 : Int)))) rfl ?_)))
   refine q_case 16 hF rfl (fun hF => ?_) (fun hF => ?_)
   ·
    refine qn rfl (qn rfl (qn rfl (qp (AB true) rfl ?_)))
    refine r_nil ?_
    refine w_true rfl ?_
    refine ws 1216 1280 ?_
    refine qp (AB false) rfl ?_
    refine r_nil ?_
    refine w_ret ?_
    refine thenQ_r ?_
    cases hF
    exact eR
   ·
    refine qg (AS v0) rfl rfl ?_
    obtain ⟨v1001, e1001, hF⟩ := bind_get hF
    refine qg (.val none (.int .u8 (v1001.toNat : Int))) rfl (ev_ixs rfl rfl e1001) (qg (AB (decide ((122 : Int) < (v1001.toNat : Int)))) rfl rfl (qp (AB (decide ((122 : Int) < (v1001.toNat : Int)))) rfl ?_))
    refine r_nil ?_
    refine cF hF (fun hF => ?_) fun hF => ?_
    ·
     refine ws 1216 1280 ?_
     refine qp (AB false) rfl ?_
     refine r_nil ?_
     refine w_ret ?_
     refine thenQ_r ?_
     cases hF
     exact eR
    ·
     refine w_skip ?_
     refine thenQ_n ?_
     refine ws 1216 1408 ?_
     refine qp (AS v0) rfl ?_
     obtain ⟨v1002, e1002, hF⟩ := bind_get hF
     refine qc (AB v1002) [] false (con_impl_onlyNameBytes e1002) c26_ok (by first | rfl | simp) rfl ?_
     refine qp (AB v1002) rfl ?_
     refine r_nil ?_
     refine w_ret ?_
     cases hF
     exact eR

def c14 : MC := (.seq (.reg [rg 6 (.p true (.mv (.c (.bool false))))]) (.seq (.reg [mvt 7 0, mvt 8 1, rg 9 (.p true (.bin .geq (.t 7) (.t 8))), mvt 10 9, ⟨(some 11), (some (10, true)), (.p true (.mv (.t 0)))⟩, ⟨(some 12), (some (10, true)), (.p true (.mv (.t 2)))⟩, ⟨(some 13), (some (10, true)), (.p true (.bin .leq (.t 11) (.t 12)))⟩, rg 14 (.p true (.pick (.t 10) (.t 13) (.c (.bool false)))), mvt 6 14]) .ret))
theorem c14_is : compFn Tryz.prog 14 = some (c14, [(.tmp 6)]) := by kernel_rfl
theorem c14_ok : okFn Tryz.prog 14 = true := by kernel_rfl

noncomputable def F_impl_within (v0 : Int) (v1 : Int) (v2 : Int) : Option (Bool) :=
 (bif (decide (v1 ≤ v0)) then some (decide (v0 ≤ v2))
 else some false)
@[simp] def res_impl_within (r : Bool) : RV := .one (.one (.val (.bool r)))
theorem con_impl_within {v0 : Int} {v1 : Int} {v2 : Int} {r : Bool} (hF : F_impl_within v0 v1 v2 = some r) : Con Tryz.prog 14 [.int .i64 v0, .int .i64 v1, .int .i64 v2] (res_impl_within r) := by
 unfold F_impl_within at hF
 refine con_of c14_is fun N => ?_
 refine ws 0 64 ?_
 refine qp (AB false) rfl ?_
 refine r_nil ?_
 refine ws 64 640 ?_
 refine qp (AI v0) rfl (qp (AI v1) rfl (qp (AB (decide (v1 ≤ v0))) rfl (qp (AB (decide (v1 ≤ v0))) rfl ?_)))
 refine q_case 10 hF rfl (fun hF => ?_) (fun hF => ?_)
 ·
  refine qg (AI v0) rfl rfl (qg (AI v2) rfl rfl (qg (AB (decide (v0 ≤ v2))) rfl rfl (qp (AB (decide (v0 ≤ v2))) rfl (qp (AB (decide (v0 ≤ v2))) rfl ?_))))
  refine r_nil ?_
  refine w_ret ?_
  cases hF
  exact eR
 ·
  refine qn rfl (qn rfl (qn rfl (qp (AB false) rfl (qp (AB false) rfl ?_))))
  refine r_nil ?_
  refine w_ret ?_
  cases hF
  exact eR

def c15 : MC := (.seq (.reg [rg 4 (.p true (.mv (.c (.int .i64 0))))]) (.seq (.reg [mvt 5 0, mvt 6 1, rg 7 (.p true (.bin .add (.t 5) (.t 6))), rg 8 (.p true (.bin .sub (.t 7) (.c (.int .i64 1)))), mvt 9 1, rg 10 (.p true (.bin .quo (.t 8) (.t 9))), mvt 4 10]) .ret))
theorem c15_is : compFn Tryz.prog 15 = some (c15, [(.tmp 4)]) := by kernel_rfl
theorem c15_ok : okFn Tryz.prog 15 = true := by kernel_rfl

noncomputable def F_impl_divUp (v0 : Int) (v1 : Int) : Option (Int) :=
 (need (v1 ≠ 0) (some (w64 (Int.tdiv (w64 ((w64 (v0 + v1)) - 1)) v1))))
@[simp] def res_impl_divUp (r : Int) : RV := .one (.one (.val (.int .i64 r)))
theorem con_impl_divUp {v0 : Int} {v1 : Int} {r : Int} (hF : F_impl_divUp v0 v1 = some r) : Con Tryz.prog 15 [.int .i64 v0, .int .i64 v1] (res_impl_divUp r) := by
 unfold F_impl_divUp at hF
 refine con_of c15_is fun N => ?_
 refine ws 0 64 ?_
 refine qp (AI 0) rfl ?_
 refine r_nil ?_
 refine ws 64 512 ?_
 refine qp (AI v0) rfl (qp (AI v1) rfl (qp (AI (w64 (v0 + v1))) rfl (qp (AI (w64 ((w64 (v0 + v1)) - 1))) rfl (qp (AI v1) rfl ?_))))
 obtain ⟨g1000, hF⟩ := need_some hF
 refine qp (AI (w64 (Int.tdiv (w64 ((w64 (v0 + v1)) - 1)) v1))) (ev_quo rfl rfl g1000) (qp (AI (w64 (Int.tdiv (w64 ((w64 (v0 + v1)) - 1)) v1))) rfl ?_)
 refine r_nil ?_
 refine w_ret ?_
 cases hF
 exact eR

def c21 : MC := (.seq (.reg [rg 1 (.f (.box (.t 0))), rg 2 (.p true (.mv (.c (.bool false))))]) (.seq (.reg [rg 3 (.p true (.fad (.t 1) 0)), rg 4 (.p true (.ld (.t 3) 1 false)), rg 5 (.call true 13 [(.t 4)]), mvt 6 5, ⟨(some 7), (some (6, true)), (.p true (.fad (.t 1) 1))⟩, ⟨(some 8), (some (6, true)), (.p true (.ld (.t 7) 1 false))⟩, ⟨(some 9), (some (6, true)), (.call true 14 [(.t 8), (.c (.int .i64 0)), (.c (.int .i64 10000))])⟩, rg 10 (.p true (.pick (.t 6) (.t 9) (.c (.bool false)))), mvt 11 10, ⟨(some 12), (some (11, true)), (.p true (.fad (.t 1) 2))⟩, ⟨(some 13), (some (11, true)), (.p true (.ld (.t 12) 1 false))⟩, ⟨(some 14), (some (11, true)), (.call true 14 [(.t 13), (.c (.int .i64 1)), (.c (.int .i64 10000))])⟩, rg 15 (.p true (.pick (.t 11) (.t 14) (.c (.bool false)))), mvt 2 15]) .ret))
theorem c21_is : compFn Tryz.prog 21 = some (c21, [(.tmp 2)]) := by kernel_rfl
theorem c21_ok : okFn Tryz.prog 21 = true := by kernel_rfl

noncomputable def F_impl_Turn_valid (v0 : TTurn) : Option (Bool) :=
 ((F_impl_IsName v0.1).bind fun v1000 => (bif v1000 then ((F_impl_within v0.2.1 0 10000).bind fun v1001 => (bif v1001 then ((F_impl_within v0.2.2 1 10000).bind fun v1002 => some v1002)
 else some false))
 else some false))
@[simp] def res_impl_Turn_valid (r : Bool) : RV := .one (.one (.val (.bool r)))
theorem con_impl_Turn_valid {v0 : TTurn} {r : Bool} (hF : F_impl_Turn_valid v0 = some r) : Con Tryz.prog 21 [eTurn v0] (res_impl_Turn_valid r) := by
 unfold F_impl_Turn_valid at hF
 refine con_of c21_is fun N => ?_
 refine ws 0 128 ?_
 refine qf (.ptr 0 0 0) [(0, .box [AS v0.1, AI v0.2.1, AI v0.2.2])] (by simp) ?_
 refine qp (AB false) rfl ?_
 refine r_nil ?_
 refine ws 128 1024 ?_
 refine qp (.ptr 0 0 0) rfl (qp (AS v0.1) rfl ?_)
 obtain ⟨v1000, e1000, hF⟩ := bind_get hF
 refine qc (AB v1000) [(0, .box [AS v0.1, AI v0.2.1, AI v0.2.2])] false (con_impl_IsName e1000) c13_ok (by first | rfl | simp) rfl ?_
 refine qp (AB v1000) rfl ?_
 refine q_case 6 hF rfl (fun hF => ?_) (fun hF => ?_)
 ·
  refine qg (.ptr 0 0 1) rfl rfl (qg (AI v0.2.1) rfl rfl ?_)
  obtain ⟨v1001, e1001, hF⟩ := bind_get hF
  refine qcg (AB v1001) [(0, .box [AS v0.1, AI v0.2.1, AI v0.2.2])] false rfl (con_impl_within e1001) c14_ok (by first | rfl | simp) rfl ?_
  refine qp (AB v1001) rfl (qp (AB v1001) rfl ?_)
  refine q_case 11 hF rfl (fun hF => ?_) (fun hF => ?_)
  ·
   refine qg (.ptr 0 0 2) rfl rfl (qg (AI v0.2.2) rfl rfl ?_)
   obtain ⟨v1002, e1002, hF⟩ := bind_get hF
   refine qcg (AB v1002) [(0, .box [AS v0.1, AI v0.2.1, AI v0.2.2])] false rfl (con_impl_within e1002) c14_ok (by first | rfl | simp) rfl ?_
   refine qp (AB v1002) rfl (qp (AB v1002) rfl ?_)
   refine r_nil ?_
   refine w_ret ?_
   cases hF
   exact eR
  ·
   refine qn rfl (qn rfl (qn rfl (qp (AB false) rfl (qp (AB false) rfl ?_))))
   refine r_nil ?_
   refine w_ret ?_
   cases hF
   exact eR
 ·
  refine qn rfl (qn rfl (qn rfl (qp (AB false) rfl (qp (AB false) rfl (qn rfl (qn rfl (qn rfl ?_)))))))
  refine qp (AB false) rfl (qp (AB false) rfl ?_)
  refine r_nil ?_
  refine w_ret ?_
  cases hF
  exact eR

def c53 : MC := (.seq (.reg [rg 2 (.p true (.mv (.c (.bool false))))]) (.seq (.reg [mvt 3 0, mvt 4 0, rg 5 (.p true (.bin .neq (.t 3) (.t 4))), mvt 2 5]) .ret))
theorem c53_is : compFn Tryz.prog 53 = some (c53, [(.tmp 2)]) := by kernel_rfl
theorem c53_ok : okFn Tryz.prog 53 = true := by kernel_rfl

noncomputable def F_cmp_isNaN_int64 (v0 : Int) : Option (Bool) :=
 some (decide (v0 ≠ v0))
@[simp] def res_cmp_isNaN_int64 (r : Bool) : RV := .one (.one (.val (.bool r)))
theorem con_cmp_isNaN_int64 {v0 : Int} {r : Bool} (hF : F_cmp_isNaN_int64 v0 = some r) : Con Tryz.prog 53 [.int .i64 v0] (res_cmp_isNaN_int64 r) := by
 unfold F_cmp_isNaN_int64 at hF
 refine con_of c53_is fun N => ?_
 refine ws 0 64 ?_
 refine qp (AB false) rfl ?_
 refine r_nil ?_
 refine ws 64 320 ?_
 refine qp (AI v0) rfl (qp (AI v0) rfl (qp (AB (decide (v0 ≠ v0))) rfl (qp (AB (decide (v0 ≠ v0))) rfl ?_)))
 refine r_nil ?_
 refine w_ret ?_
 cases hF
 exact eR

def c40 : MC := (.seq (.reg [rg 4 (.p true (.mv (.c (.int .i64 0))))]) (.seq (.reg [mvt 7 0, rg 8 (.call true 53 [(.t 7)]), mvt 5 8]) (.seq (.reg [mvt 9 1, rg 10 (.call true 53 [(.t 9)]), mvt 6 10]) (.seq (.seq (.reg [mvt 11 5]) (.cond (.t 11) (.seq (.seq (.reg [mvt 12 6]) (.cond (.t 12) (.seq (.reg [rg 4 (.p true (.mv (.c (.int .i64 0))))]) .ret) .skip)) (.seq (.reg [rg 4 (.p true (.mv (.c (.int .i64 (-1)))))]) .ret)) .skip)) (.seq (.seq (.reg [mvt 13 6]) (.cond (.t 13) (.seq (.reg [rg 4 (.p true (.mv (.c (.int .i64 1))))]) .ret) .skip)) (.seq (.seq (.reg [mvt 14 0, mvt 15 1, rg 16 (.p true (.bin .lss (.t 14) (.t 15)))]) (.cond (.t 16) (.seq (.reg [rg 4 (.p true (.mv (.c (.int .i64 (-1)))))]) .ret) .skip)) (.seq (.seq (.reg [mvt 17 0, mvt 18 1, rg 19 (.p true (.bin .gtr (.t 17) (.t 18)))]) (.cond (.t 19) (.seq (.reg [rg 4 (.p true (.mv (.c (.int .i64 1))))]) .ret) .skip)) (.seq (.reg [rg 4 (.p true (.mv (.c (.int .i64 0))))]) .ret))))))))
theorem c40_is : compFn Tryz.prog 40 = some (c40, [(.tmp 4)]) := by kernel_rfl
theorem c40_ok : okFn Tryz.prog 40 = true := by kernel_rfl

noncomputable def F_cmp_Compare_int64 (v0 : Int) (v1 : Int) : Option (Int) :=
 ((F_cmp_isNaN_int64 v0).bind fun v1000 => ((F_cmp_isNaN_int64 v1).bind fun v1001 => (bif v1000 then (bif v1001 then some 0
 else some (-1))
 else (bif v1001 then some 1
 else (bif (decide (v0 < v1)) then some (-1)
 else (bif (decide (v1 < v0)) then some 1
 else some 0))))))
@[simp] def res_cmp_Compare_int64 (r : Int) : RV := .one (.one (.val (.int .i64 r)))
theorem con_cmp_Compare_int64 {v0 : Int} {v1 : Int} {r : Int} (hF : F_cmp_Compare_int64 v0 v1 = some r) : Con Tryz.prog 40 [.int .i64 v0, .int .i64 v1] (res_cmp_Compare_int64 r) := by
 unfold F_cmp_Compare_int64 at hF
 refine con_of c40_is fun N => ?_
 refine ws 0 64 ?_
 refine qp (AI 0) rfl ?_
 refine r_nil ?_
 refine ws 64 256 ?_
 refine qp (AI v0) rfl ?_
 obtain ⟨v1000, e1000, hF⟩ := bind_get hF
 refine qc (AB v1000) [] false (con_cmp_isNaN_int64 e1000) c53_ok (by first | rfl | simp) rfl ?_
 refine qp (AB v1000) rfl ?_
 refine r_nil ?_
 refine ws 256 448 ?_
 refine qp (AI v1) rfl ?_
 obtain ⟨v1001, e1001, hF⟩ := bind_get hF
 refine qc (AB v1001) [] false (con_cmp_isNaN_int64 e1001) c53_ok (by first | rfl | simp) rfl ?_
 refine qp (AB v1001) rfl ?_
 refine r_nil ?_
 refine w_seq ?_
 refine ws 448 512 ?_
 refine qp (AB v1000) rfl ?_
 refine r_nil ?_
 refine cF hF (fun hF => ?_) fun hF => ?_
 ·
  refine w_seq ?_
  refine ws 512 576 ?_
  refine qp (AB v1001) rfl ?_
  refine r_nil ?_
  refine cF hF (fun hF => ?_) fun hF => ?_
  ·
   refine ws 576 640 ?_
   refine qp (AI 0) rfl ?_
   refine r_nil ?_
   refine w_ret ?_
   refine thenQ_r ?_
   refine thenQ_r ?_
   cases hF
   exact eR
  ·
   refine w_skip ?_
   refine thenQ_n ?_
   refine ws 576 640 ?_
   refine qp (AI (-1)) rfl ?_
   refine r_nil ?_
   refine w_ret ?_
   refine thenQ_r ?_
   cases hF
   exact eR
 ·
  refine w_skip ?_
  refine thenQ_n ?_
  refine w_seq ?_
  refine ws 512 576 ?_
  refine qp (AB v1001) rfl ?_
  refine r_nil ?_
  refine cF hF (fun hF => ?_) fun hF => ?_
  ·
   refine ws 576 640 ?_
   refine qp (AI 1) rfl ?_
   refine r_nil ?_
   refine w_ret ?_
   refine thenQ_r ?_
   cases hF
   exact eR
  ·
   refine w_skip ?_
   refine thenQ_n ?_
   refine w_seq ?_
   refine ws 576 768 ?_
   refine qp (AI v0) rfl (qp (AI v1) rfl (qp (AB (decide (v0 < v1))) rfl ?_))
   refine r_nil ?_
   refine cF hF (fun hF => ?_) fun hF => ?_
   ·
    refine ws 768 832 ?_
    refine qp (AI (-1)) rfl ?_
    refine r_nil ?_
    refine w_ret ?_
    refine thenQ_r ?_
    cases hF
    exact eR
   ·
    refine w_skip ?_
    refine thenQ_n ?_
    refine w_seq ?_
    refine ws 768 960 ?_
    refine qp (AI v0) rfl (qp (AI v1) rfl (qp (AB (decide (v1 < v0))) rfl ?_))
    refine r_nil ?_
    refine cF hF (fun hF => ?_) fun hF => ?_
    ·
     refine ws 960 1024 ?_
     refine qp (AI 1) rfl ?_
     refine r_nil ?_
     refine w_ret ?_
     refine thenQ_r ?_
     cases hF
     exact eR
    ·
     refine w_skip ?_
     refine thenQ_n ?_
     refine ws 960 1024 ?_
     refine qp (AI 0) rfl ?_
     refine r_nil ?_
     refine w_ret ?_
     cases hF
     exact eR

def c54 : MC := (.seq (.reg [rg 2 (.p true (.mv (.c (.bool false))))]) (.seq (.reg [mvt 3 0, mvt 4 0, rg 5 (.p true (.bin .neq (.t 3) (.t 4))), mvt 2 5]) .ret))
theorem c54_is : compFn Tryz.prog 54 = some (c54, [(.tmp 2)]) := by kernel_rfl
theorem c54_ok : okFn Tryz.prog 54 = true := by kernel_rfl

noncomputable def F_cmp_isNaN_string (v0 : List UInt8) : Option (Bool) :=
 some (decide (v0 ≠ v0))
@[simp] def res_cmp_isNaN_string (r : Bool) : RV := .one (.one (.val (.bool r)))
theorem con_cmp_isNaN_string {v0 : List UInt8} {r : Bool} (hF : F_cmp_isNaN_string v0 = some r) : Con Tryz.prog 54 [.str v0] (res_cmp_isNaN_string r) := by
 unfold F_cmp_isNaN_string at hF
 refine con_of c54_is fun N => ?_
 refine ws 0 64 ?_
 refine qp (AB false) rfl ?_
 refine r_nil ?_
 refine ws 64 320 ?_
 refine qp (AS v0) rfl (qp (AS v0) rfl (qp (AB (decide (v0 ≠ v0))) rfl (qp (AB (decide (v0 ≠ v0))) rfl ?_)))
 refine r_nil ?_
 refine w_ret ?_
 cases hF
 exact eR

def c41 : MC := (.seq (.reg [rg 4 (.p true (.mv (.c (.int .i64 0))))]) (.seq (.reg [mvt 7 0, rg 8 (.call true 54 [(.t 7)]), mvt 5 8]) (.seq (.reg [mvt 9 1, rg 10 (.call true 54 [(.t 9)]), mvt 6 10]) (.seq (.seq (.reg [mvt 11 5]) (.cond (.t 11) (.seq (.seq (.reg [mvt 12 6]) (.cond (.t 12) (.seq (.reg [rg 4 (.p true (.mv (.c (.int .i64 0))))]) .ret) .skip)) (.seq (.reg [rg 4 (.p true (.mv (.c (.int .i64 (-1)))))]) .ret)) .skip)) (.seq (.seq (.reg [mvt 13 6]) (.cond (.t 13) (.seq (.reg [rg 4 (.p true (.mv (.c (.int .i64 1))))]) .ret) .skip)) (.seq (.seq (.reg [mvt 14 0, mvt 15 1, rg 16 (.p true (.bin .lss (.t 14) (.t 15)))]) (.cond (.t 16) (.seq (.reg [rg 4 (.p true (.mv (.c (.int .i64 (-1)))))]) .ret) .skip)) (.seq (.seq (.reg [mvt 17 0, mvt 18 1, rg 19 (.p true (.bin .gtr (.t 17) (.t 18)))]) (.cond (.t 19) (.seq (.reg [rg 4 (.p true (.mv (.c (.int .i64 1))))]) .ret) .skip)) (.seq (.reg [rg 4 (.p true (.mv (.c (.int .i64 0))))]) .ret))))))))
theorem c41_is : compFn Tryz.prog 41 = some (c41, [(.tmp 4)]) := by kernel_rfl
theorem c41_ok : okFn Tryz.prog 41 = true := by kernel_rfl

noncomputable def F_cmp_Compare_string (v0 : List UInt8) (v1 : List UInt8) : Option (Int) :=
 ((F_cmp_isNaN_string v0).bind fun v1000 => ((F_cmp_isNaN_string v1).bind fun v1001 => (bif v1000 then (bif v1001 then some 0
 else some (-1))
 else (bif v1001 then some 1
 else (bif (Op.bytesLess v0 v1) then some (-1)
 else (bif (!(Op.bytesLess v0 v1 || decide (v0 = v1))) then some 1
 else some 0))))))
@[simp] def res_cmp_Compare_string (r : Int) : RV := .one (.one (.val (.int .i64 r)))
theorem con_cmp_Compare_string {v0 : List UInt8} {v1 : List UInt8} {r : Int} (hF : F_cmp_Compare_string v0 v1 = some r) : Con Tryz.prog 41 [.str v0, .str v1] (res_cmp_Compare_string r) := by
 unfold F_cmp_Compare_string at hF
 refine con_of c41_is fun N => ?_
 refine ws 0 64 ?_
 refine qp (AI 0) rfl ?_
 refine r_nil ?_
 refine ws 64 256 ?_
 refine qp (AS v0) rfl ?_
 obtain ⟨v1000, e1000, hF⟩ := bind_get hF
 refine qc (AB v1000) [] false (con_cmp_isNaN_string e1000) c54_ok (by first | rfl | simp) rfl ?_
 refine qp (AB v1000) rfl ?_
 refine r_nil ?_
 refine ws 256 448 ?_
 refine qp (AS v1) rfl ?_
 obtain ⟨v1001, e1001, hF⟩ := bind_get hF
 refine qc (AB v1001) [] false (con_cmp_isNaN_string e1001) c54_ok (by first | rfl | simp) rfl ?_
 refine qp (AB v1001) rfl ?_
 refine r_nil ?_
 refine w_seq ?_
 refine ws 448 512 ?_
 refine qp (AB v1000) rfl ?_
 refine r_nil ?_
 refine cF hF (fun hF => ?_) fun hF => ?_
 ·
  refine w_seq ?_
  refine ws 512 576 ?_
  refine qp (AB v1001) rfl ?_
  refine r_nil ?_
  refine cF hF (fun hF => ?_) fun hF => ?_
  ·
   refine ws 576 640 ?_
   refine qp (AI 0) rfl ?_
   refine r_nil ?_
   refine w_ret ?_
   refine thenQ_r ?_
   refine thenQ_r ?_
   cases hF
   exact eR
  ·
   refine w_skip ?_
   refine thenQ_n ?_
   refine ws 576 640 ?_
   refine qp (AI (-1)) rfl ?_
   refine r_nil ?_
   refine w_ret ?_
   refine thenQ_r ?_
   cases hF
   exact eR
 ·
  refine w_skip ?_
  refine thenQ_n ?_
  refine w_seq ?_
  refine ws 512 576 ?_
  refine qp (AB v1001) rfl ?_
  refine r_nil ?_
  refine cF hF (fun hF => ?_) fun hF => ?_
  ·
   refine ws 576 640 ?_
   refine qp (AI 1) rfl ?_
   refine r_nil ?_
   refine w_ret ?_
   refine thenQ_r ?_
   cases hF
   exact eR
  ·
   refine w_skip ?_
   refine thenQ_n ?_
   refine w_seq ?_
   refine ws 576 768 ?_
   refine qp (AS v0) rfl (qp (AS v1) rfl (qp (AB (Op.bytesLess v0 v1)) rfl ?_))
   refine r_nil ?_
   refine cF hF (fun hF => ?_) fun hF => ?_
   ·
    refine ws 768 832 ?_
    refine qp (AI (-1)) rfl ?_
    refine r_nil ?_
    refine w_ret ?_
    refine thenQ_r ?_
    cases hF
    exact eR
   ·
    refine w_skip ?_
    refine thenQ_n ?_
    refine w_seq ?_
    refine ws 768 960 ?_
    refine qp (AS v0) rfl (qp (AS v1) rfl (qp (AB (!(Op.bytesLess v0 v1 || decide (v0 = v1)))) rfl ?_))
    refine r_nil ?_
    refine cF hF (fun hF => ?_) fun hF => ?_
    ·
     refine ws 960 1024 ?_
     refine qp (AI 1) rfl ?_
     refine r_nil ?_
     refine w_ret ?_
     refine thenQ_r ?_
     cases hF
     exact eR
    ·
     refine w_skip ?_
     refine thenQ_n ?_
     refine ws 960 1024 ?_
     refine qp (AI 0) rfl ?_
     refine r_nil ?_
     refine w_ret ?_
     cases hF
     exact eR

def c39 : MC := (.seq (.reg [rg 2 (.p true (.mv (.c (.int .i64 0))))]) (.seq (.reg [rg 3 (.p true (.mv (.c (.int .i64 0))))]) (.seq (.seq (.reg [mvt 6 0, rg 7 (.p true (.len (.t 6))), rg 8 (.p true (.mv (.c (.int .i64 0))))]) (.block 0 (.loop (.seq (.reg [rg 9 (.p true (.bin .lss (.t 8) (.t 7)))]) (.seq (.cond (.t 9) .skip (.exit 0)) (.seq (.block 1 (.seq (.reg [rg 10 (.p true (.iad (.t 6) (.t 8) 1)), rg 11 (.p true (.ld (.t 10) 1 false)), mvt 5 11]) (.seq (.reg [mvt 12 5, mvt 13 3, rg 14 (.p true (.bin .neq (.t 12) (.t 13)))]) (.cond (.t 14) (.seq (.reg [mvt 15 5, mvt 2 15]) .ret) .skip)))) (.reg [rg 16 (.p true (.bin .add (.t 8) (.c (.int .i64 1)))), mvt 8 16]))))))) (.seq (.reg [mvt 17 3, mvt 2 17]) .ret))))
theorem c39_is : compFn Tryz.prog 39 = some (c39, [(.tmp 2)]) := by kernel_rfl
theorem c39_ok : okFn Tryz.prog 39 = true := by kernel_rfl

noncomputable def F_cmp_Or_int_l0 (v0 : List Int) (k0 : Int → Option (Int)) : Int → Option (Int)
 | v50001 => (bif (decide (v50001 < (v0.length : Int))) then ((ix v0 v50001).bind fun v1000 => (bif (decide (v1000 ≠ (0 : Int))) then some v1000
 else k0 (w64 (v50001 + 1))))
 else some 0)
noncomputable def F_cmp_Or_int (v0 : List Int) : Option (Int) :=
 loop (F_cmp_Or_int_l0 v0) 0
@[simp] def res_cmp_Or_int (r : Int) : RV := .one (.one (.val (.int .i64 r)))
theorem con_cmp_Or_int {v0 : List Int} {r : Int} (hF : F_cmp_Or_int v0 = some r) : Con Tryz.prog 39 [.sl 1 (v0.map vI)] (res_cmp_Or_int r) := by
 unfold F_cmp_Or_int at hF
 refine con_of c39_is fun N => ?_
 refine ws 0 64 ?_
 refine qp (AI 0) rfl ?_
 refine r_nil ?_
 refine ws 64 128 ?_
 refine qp (AI 0) rfl ?_
 refine r_nil ?_
 refine w_seq ?_
 refine ws 128 320 ?_
 refine qp (AL 1 (v0.map vI)) rfl (qp (AI (v0.length : Int)) (ev_len_n rfl) (qp (AI 0) rfl ?_))
 refine r_nil ?_
 refine w_block ?_
 refine wr (l' := [(3, AI 0), (6, AL 1 (v0.map vI)), (7, AI (v0.length : Int)), (8, AI 0)]) (L := []) [3, 6, 7, 8] [] 1 ?_
 refine w_loopF (F_cmp_Or_int_l0 v0) (fun s : Int => mkS [(3, AI 0), (6, AL 1 (v0.map vI)), (7, AI (v0.length : Int)), (8, AI s)] (fo []) 1) hF ?_
 rintro k0 v50001 hF
 rw [F_cmp_Or_int_l0] at hF
 try dsimp only
 refine ws 1 65 ?_
 refine qp (AB (decide (v50001 < (v0.length : Int)))) rfl ?_
 refine r_nil ?_
 refine w_seq ?_
 refine cF hF (fun hF => ?_) fun hF => ?_
 ·
  refine w_skip ?_
  refine thenQ_n ?_
  refine w_seq ?_
  refine w_block ?_
  refine ws 65 257 ?_
  obtain ⟨v1000, e1000, hF⟩ := bind_get hF
  refine qp (.val none (.ptr [.int .i64 v1000])) (ev_iad_n rfl rfl e1000 rfl) (qp (AI v1000) rfl (qp (AI v1000) rfl ?_))
  refine r_nil ?_
  refine ws 257 449 ?_
  refine qp (AI v1000) rfl (qp (AI 0) rfl (qp (AB (decide (v1000 ≠ (0 : Int)))) rfl ?_))
  refine r_nil ?_
  refine cF hF (fun hF => ?_) fun hF => ?_
  ·
   refine ws 449 577 ?_
   refine qp (AI v1000) rfl (qp (AI v1000) rfl ?_)
   refine r_nil ?_
   refine w_ret ?_
   refine blockQ_r ?_
   refine thenQ_r ?_
   refine thenQ_r ?_
   refine blockQ_r ?_
   refine thenQ_r ?_
   cases hF
   exact eR
  ·
   refine w_skip ?_
   refine blockQ_n ?_
   refine thenQ_n ?_
   refine w_reg 449 577 rfl rfl ?_
   refine qp (AI (w64 (v50001 + 1))) rfl (qp (AI (w64 (v50001 + 1))) rfl ?_)
   refine r_nil ?_
   refine thenQ_n ?_
   refine ar (l' := [(3, AI 0), (6, AL 1 (v0.map vI)), (7, AI (v0.length : Int)), (8, AI (w64 (v50001 + 1)))]) (L := []) [3, 6, 7, 8] [] 1 ⟨_, by rfl, hF⟩
 ·
  refine w_exit ?_
  refine thenQ_e ?_
  refine thenQ_e ?_
  refine blockQ_e ?_
  refine thenQ_n ?_
  refine ws 65 193 ?_
  refine qp (AI 0) rfl (qp (AI 0) rfl ?_)
  refine r_nil ?_
  refine w_ret ?_
  cases hF
  exact eR

def c27 : MC := (.seq (.reg [rg 2 (.f (.box (.t 0))), rg 3 (.f (.box (.t 1))), rg 4 (.p true (.mv (.c (.int .i64 0))))]) (.seq (.reg [rg 5 (.p false (.fad (.t 2) 1)), rg 6 (.p false (.ld (.t 5) 1 false)), rg 7 (.p false (.fad (.t 3) 1)), rg 8 (.p false (.ld (.t 7) 1 false)), rg 9 (.call false 40 [(.t 6), (.t 8)]), rg 10 (.p false (.fad (.t 2) 0)), rg 11 (.p false (.ld (.t 10) 1 false)), rg 12 (.p false (.fad (.t 3) 0)), rg 13 (.p false (.ld (.t 12) 1 false)), rg 14 (.call false 41 [(.t 11), (.t 13)]), rg 15 (.p false (.fad (.t 2) 2)), rg 16 (.p false (.ld (.t 15) 1 false)), rg 17 (.p false (.fad (.t 3) 2)), rg 18 (.p false (.ld (.t 17) 1 false)), rg 19 (.call false 40 [(.t 16), (.t 18)]), rg 20 (.f (.bsl 1 [(.t 9), (.t 14), (.t 19)])), rg 21 (.call false 39 [(.t 20)]), rg 4 (.p false (.mv (.t 21)))]) .ret))
theorem c27_is : compFn Tryz.prog 27 = some (c27, [(.tmp 4)]) := by kernel_rfl
theorem c27_ok : okFn Tryz.prog 27 = true := by kernel_rfl

noncomputable def F_impl_compareTurns (v0 : TTurn) (v1 : TTurn) : Option (Int) :=
 ((F_cmp_Compare_int64 v0.2.1 v1.2.1).bind fun v1000 => ((F_cmp_Compare_string v0.1 v1.1).bind fun v1001 => ((F_cmp_Compare_int64 v0.2.2 v1.2.2).bind fun v1002 => ((F_cmp_Or_int [v1000, v1001, v1002]).bind fun v1003 => some v1003))))
@[simp] def res_impl_compareTurns (r : Int) : RV := .one (.one (.val (.int .i64 r)))
theorem con_impl_compareTurns {v0 : TTurn} {v1 : TTurn} {r : Int} (hF : F_impl_compareTurns v0 v1 = some r) : Con Tryz.prog 27 [eTurn v0, eTurn v1] (res_impl_compareTurns r) := by
 unfold F_impl_compareTurns at hF
 refine con_of c27_is fun N => ?_
 refine ws 0 192 ?_
 refine qf (.ptr 0 0 0) [(0, .box [AS v0.1, AI v0.2.1, AI v0.2.2])] (by simp) ?_
 refine qf (.ptr 64 0 0) [(64, .box [AS v1.1, AI v1.2.1, AI v1.2.2]), (0, .box [AS v0.1, AI v0.2.1, AI v0.2.2])] (by simp) ?_
 refine qp (AI 0) rfl ?_
 refine r_nil ?_
 refine ws 192 1344 ?_
 refine qp (.ptr 0 0 1) rfl (qp (AI v0.2.1) rfl (qp (.ptr 64 0 1) rfl (qp (AI v1.2.1) rfl ?_)))
 obtain ⟨v1000, e1000, hF⟩ := bind_get hF
 refine qc (AI v1000) [(64, .box [AS v1.1, AI v1.2.1, AI v1.2.2]), (0, .box [AS v0.1, AI v0.2.1, AI v0.2.2])] false (con_cmp_Compare_int64 e1000) c40_ok (by first | rfl | simp) rfl ?_
 refine qp (.ptr 0 0 0) rfl (qp (AS v0.1) rfl (qp (.ptr 64 0 0) rfl (qp (AS v1.1) rfl ?_)))
 obtain ⟨v1001, e1001, hF⟩ := bind_get hF
 refine qc (AI v1001) [(64, .box [AS v1.1, AI v1.2.1, AI v1.2.2]), (0, .box [AS v0.1, AI v0.2.1, AI v0.2.2])] false (con_cmp_Compare_string e1001) c41_ok (by first | rfl | simp) rfl ?_
 refine qp (.ptr 0 0 2) rfl (qp (AI v0.2.2) rfl (qp (.ptr 64 0 2) rfl (qp (AI v1.2.2) rfl ?_)))
 obtain ⟨v1002, e1002, hF⟩ := bind_get hF
 refine qc (AI v1002) [(64, .box [AS v1.1, AI v1.2.1, AI v1.2.2]), (0, .box [AS v0.1, AI v0.2.1, AI v0.2.2])] false (con_cmp_Compare_int64 e1002) c40_ok (by first | rfl | simp) rfl ?_
 refine qf (.sl 1152 0 ([v1000, v1001, v1002].length)) [(1152, .row true 1 ([v1000, v1001, v1002].map vI)), (64, .box [AS v1.1, AI v1.2.1, AI v1.2.2]), (0, .box [AS v0.1, AI v0.2.1, AI v0.2.2])] (by simp [List.take_of_length_le]) ?_
 obtain ⟨v1003, e1003, hF⟩ := bind_get hF
 refine qc (AI v1003) [(1152, .row true 1 ([v1000, v1001, v1002].map vI)), (64, .box [AS v1.1, AI v1.2.1, AI v1.2.2]), (0, .box [AS v0.1, AI v0.2.1, AI v0.2.2])] true (con_cmp_Or_int e1003) c39_ok (by simp [List.take_of_length_le]) rfl ?_
 refine qp (AI v1003) rfl ?_
 refine r_nil ?_
 refine w_ret ?_
 cases hF
 exact eR

def c16 : MC := (.seq (.reg [rg 2 (.p true (.mv (.c (.bool false))))]) (.seq (.seq (.reg [mvt 5 0, rg 6 (.p true (.len (.t 5))), rg 7 (.p true (.bin .gtr (.t 6) (.c (.int .i64 24))))]) (.cond (.t 7) (.seq (.reg [rg 2 (.p true (.mv (.c (.bool false))))]) .ret) .skip)) (.seq (.seq (.reg [mvt 8 0, rg 9 (.p true (.len (.t 8))), rg 10 (.p true (.mv (.c (.int .i64 0))))]) (.block 0 (.loop (.seq (.reg [rg 11 (.p true (.bin .lss (.t 10) (.t 9)))]) (.seq (.cond (.t 11) .skip (.exit 0)) (.seq (.block 1 (.seq (.reg [mvt 12 10, rg 13 (.p true (.iad (.t 8) (.t 10) 3)), rg 14 (.p true (.ld (.t 13) 3 true)), rg 4 (.f (.alloc [((.str []), (0, false)), ((.int .i64 0), (0, false)), ((.int .i64 0), (0, false))])), mvt 3 12, ⟨none, none, (.f (.st (.t 4) (.t 14) 3))⟩]) (.seq (.reg [rg 15 (.p false (.ld (.t 4) 3 true)), rg 16 (.call false 21 [(.t 15)]), rg 17 (.p false (.not (.t 16))), rg 18 (.p false (.mv (.t 17))), ⟨(some 19), (some (18, false)), (.p false (.mv (.t 3)))⟩, ⟨(some 20), (some (18, false)), (.p false (.bin .gtr (.t 19) (.c (.int .i64 0))))⟩, ⟨(some 21), (some (18, false)), (.p false (.mv (.t 20)))⟩, ⟨(some 22), (some (21, true)), (.p false (.mv (.t 0)))⟩, ⟨(some 23), (some (21, true)), (.p false (.mv (.t 3)))⟩, ⟨(some 24), (some (21, true)), (.p false (.bin .sub (.t 23) (.c (.int .i64 1))))⟩, ⟨(some 25), (some (21, true)), (.p false (.iad (.t 22) (.t 24) 3))⟩, ⟨(some 26), (some (21, true)), (.p false (.ld (.t 25) 3 true))⟩, ⟨(some 27), (some (21, true)), (.p false (.ld (.t 4) 3 true))⟩, ⟨(some 28), (some (21, true)), (.call false 27 [(.t 26), (.t 27)])⟩, ⟨(some 29), (some (21, true)), (.p false (.bin .geq (.t 28) (.c (.int .i64 0))))⟩, ⟨(some 30), (some (18, false)), (.p false (.pick (.t 21) (.t 29) (.c (.bool false))))⟩, rg 31 (.p false (.pick (.t 18) (.c (.bool true)) (.t 30)))]) (.cond (.t 31) (.seq (.reg [rg 2 (.p true (.mv (.c (.bool false))))]) .ret) .skip)))) (.reg [rg 32 (.p true (.bin .add (.t 10) (.c (.int .i64 1)))), mvt 10 32]))))))) (.seq (.reg [rg 2 (.p true (.mv (.c (.bool true))))]) .ret))))
theorem c16_is : compFn Tryz.prog 16 = some (c16, [(.tmp 2)]) := by kernel_rfl
theorem c16_ok : okFn Tryz.prog 16 = true := by kernel_rfl

noncomputable def F_impl_ValidTurns_l0 (v0 : List TTurn) (k0 : Int → Option (Bool)) : Int → Option (Bool)
 | v50001 => (bif (decide (v50001 < (v0.length : Int))) then ((ix v0 v50001).bind fun v1000 => ((F_impl_Turn_valid v1000).bind fun v1001 => (bif (!v1001) then some false
 else (bif (decide ((0 : Int) < v50001)) then ((ix v0 (w64 (v50001 - 1))).bind fun v1002 => ((F_impl_compareTurns v1002 v1000).bind fun v1003 => (bif (decide ((0 : Int) ≤ v1003)) then some false
 else k0 (w64 (v50001 + 1)))))
 else k0 (w64 (v50001 + 1))))))
 else some true)
noncomputable def F_impl_ValidTurns (v0 : List TTurn) : Option (Bool) :=
 (bif (decide ((24 : Int) < (v0.length : Int))) then some false
 else loop (F_impl_ValidTurns_l0 v0) 0)
@[simp] def res_impl_ValidTurns (r : Bool) : RV := .one (.one (.val (.bool r)))
theorem con_impl_ValidTurns {v0 : List TTurn} {r : Bool} (hF : F_impl_ValidTurns v0 = some r) : Con Tryz.prog 16 [.sl 3 (v0.map eTurn)] (res_impl_ValidTurns r) := by
 unfold F_impl_ValidTurns at hF
 refine con_of c16_is fun N => ?_
 refine ws 0 64 ?_
 refine qp (AB false) rfl ?_
 refine r_nil ?_
 refine w_seq ?_
 refine ws 64 256 ?_
 refine qp (AL 3 (v0.map eTurn)) rfl (qp (AI (v0.length : Int)) (ev_len_n rfl) (qp (AB (decide ((24 : Int) < (v0.length : Int)))) rfl ?_))
 refine r_nil ?_
 refine cF hF (fun hF => ?_) fun hF => ?_
 ·
  refine ws 256 320 ?_
  refine qp (AB false) rfl ?_
  refine r_nil ?_
  refine w_ret ?_
  refine thenQ_r ?_
  cases hF
  exact eR
 ·
  refine w_skip ?_
  refine thenQ_n ?_
  refine w_seq ?_
  refine ws 256 448 ?_
  refine qp (AL 3 (v0.map eTurn)) rfl (qp (AI (v0.length : Int)) (ev_len_n rfl) (qp (AI 0) rfl ?_))
  refine r_nil ?_
  refine w_block ?_
  refine wr (l' := [(0, AL 3 (v0.map eTurn)), (8, AL 3 (v0.map eTurn)), (9, AI (v0.length : Int)), (10, AI 0)]) (L := []) [0, 8, 9, 10] [] 1 ?_
  refine w_loopF (F_impl_ValidTurns_l0 v0) (fun s : Int => mkS [(0, AL 3 (v0.map eTurn)), (8, AL 3 (v0.map eTurn)), (9, AI (v0.length : Int)), (10, AI s)] (fo []) 1) hF ?_
  rintro k0 v50001 hF
  rw [F_impl_ValidTurns_l0] at hF
  try dsimp only
  refine ws 1 65 ?_
  refine qp (AB (decide (v50001 < (v0.length : Int)))) rfl ?_
  refine r_nil ?_
  refine w_seq ?_
  refine cF hF (fun hF => ?_) fun hF => ?_
  ·
   refine w_skip ?_
   refine thenQ_n ?_
   refine w_seq ?_
   refine w_block ?_
   refine ws 65 449 ?_
   refine qp (AI v50001) rfl ?_
   obtain ⟨v1000, e1000, hF⟩ := bind_get hF
   refine qp (.val none (.ptr [.str v1000.1, .int .i64 v1000.2.1, .int .i64 v1000.2.2])) (ev_iad_n rfl rfl e1000 rfl) (qp (.val none (eTurn v1000)) rfl ?_)
   refine qf (.ptr 257 0 0) [(257, .box [AS [], AI 0, AI 0])] (by simp) ?_
   refine qp (AI v50001) rfl ?_
   refine qf0 (.undef) [(257, .box [AS v1000.1, AI v1000.2.1, AI v1000.2.2]), (257, .box [AS [], AI 0, AI 0])] (by simp) ?_
   refine r_nil ?_
   refine ws 449 1537 ?_
   refine qp (.agg [AS v1000.1, AI v1000.2.1, AI v1000.2.2]) rfl ?_
   obtain ⟨v1001, e1001, hF⟩ := bind_get hF
   refine qc (AB v1001) [(257, .box [AS v1000.1, AI v1000.2.1, AI v1000.2.2]), (257, .box [AS [], AI 0, AI 0])] false (con_impl_Turn_valid e1001) c21_ok (by first | rfl | simp) rfl ?_
   refine qp (AB (!v1001)) rfl (qp (AB (!v1001)) rfl ?_)
   refine q_case 18 hF rfl (fun hF => ?_) (fun hF => ?_)
   ·
    refine qn rfl (qn rfl (qn rfl (qu rfl (qu rfl (qu rfl (qu rfl (qu rfl ?_)))))))
    refine qu rfl (qu rfl (qu rfl (qn rfl (qp (AB true) rfl ?_))))
    refine r_nil ?_
    refine w_true rfl ?_
    refine ws 1537 1601 ?_
    refine qp (AB false) rfl ?_
    refine r_nil ?_
    refine w_ret ?_
    refine blockQ_r ?_
    refine thenQ_r ?_
    refine thenQ_r ?_
    refine blockQ_r ?_
    refine thenQ_r ?_
    cases hF
    exact eR
   ·
    refine qg (AI v50001) rfl rfl (qg (AB (decide ((0 : Int) < v50001))) rfl rfl (qg (AB (decide ((0 : Int) < v50001))) rfl rfl ?_))
    refine q_case 21 hF rfl (fun hF => ?_) (fun hF => ?_)
    ·
     refine qg (AL 3 (v0.map eTurn)) rfl rfl (qg (AI v50001) rfl rfl (qg (AI (w64 (v50001 - 1))) rfl rfl ?_))
     obtain ⟨v1002, e1002, hF⟩ := bind_get hF
     refine qg (.val none (.ptr [.str v1002.1, .int .i64 v1002.2.1, .int .i64 v1002.2.2])) rfl (ev_iad_n rfl rfl e1002 rfl) (qg (.val none (eTurn v1002)) rfl rfl (qg (.agg [AS v1000.1, AI v1000.2.1, AI v1000.2.2]) rfl rfl ?_))
     obtain ⟨v1003, e1003, hF⟩ := bind_get hF
     refine qcg (AI v1003) [(257, .box [AS v1000.1, AI v1000.2.1, AI v1000.2.2]), (257, .box [AS [], AI 0, AI 0])] false rfl (con_impl_compareTurns e1003) c27_ok (by first | rfl | simp) rfl ?_
     refine qg (AB (decide ((0 : Int) ≤ v1003))) rfl rfl (qg (AB (decide ((0 : Int) ≤ v1003))) rfl rfl (qp (AB (decide ((0 : Int) ≤ v1003))) rfl ?_))
     refine r_nil ?_
     refine cF hF (fun hF => ?_) fun hF => ?_
     ·
      refine ws 1537 1601 ?_
      refine qp (AB false) rfl ?_
      refine r_nil ?_
      refine w_ret ?_
      refine blockQ_r ?_
      refine thenQ_r ?_
      refine thenQ_r ?_
      refine blockQ_r ?_
      refine thenQ_r ?_
      cases hF
      exact eR
     ·
      refine w_skip ?_
      refine blockQ_n ?_
      refine thenQ_n ?_
      refine w_reg 1537 1665 rfl rfl ?_
      refine qp (AI (w64 (v50001 + 1))) rfl (qp (AI (w64 (v50001 + 1))) rfl ?_)
      refine r_nil ?_
      refine thenQ_n ?_
      refine ar (l' := [(0, AL 3 (v0.map eTurn)), (8, AL 3 (v0.map eTurn)), (9, AI (v0.length : Int)), (10, AI (w64 (v50001 + 1)))]) (L := []) [0, 8, 9, 10] [] 1 ⟨_, by rfl, hF⟩
    ·
     refine qn rfl (qn rfl (qn rfl (qn rfl (qn rfl (qn rfl (qn rfl (qn rfl ?_)))))))
     refine qg (AB false) rfl rfl (qp (AB false) rfl ?_)
     refine r_nil ?_
     refine w_false rfl ?_
     refine w_skip ?_
     refine blockQ_n ?_
     refine thenQ_n ?_
     refine w_reg 1537 1665 rfl rfl ?_
     refine qp (AI (w64 (v50001 + 1))) rfl (qp (AI (w64 (v50001 + 1))) rfl ?_)
     refine r_nil ?_
     refine thenQ_n ?_
     refine ar (l' := [(0, AL 3 (v0.map eTurn)), (8, AL 3 (v0.map eTurn)), (9, AI (v0.length : Int)), (10, AI (w64 (v50001 + 1)))]) (L := []) [0, 8, 9, 10] [] 1 ⟨_, by rfl, hF⟩
  ·
   refine w_exit ?_
   refine thenQ_e ?_
   refine thenQ_e ?_
   refine blockQ_e ?_
   refine thenQ_n ?_
   refine ws 65 129 ?_
   refine qp (AB true) rfl ?_
   refine r_nil ?_
   refine w_ret ?_
   cases hF
   exact eR

def c6 : MC := (.seq (.reg [rg 10 (.f (.nilrow 3)), rg 11 (.p true (.mv (.c (.int .i64 0))))]) (.seq (.block 0 (.seq (.reg [mvt 14 0, rg 15 (.call true 13 [(.t 14)]), rg 16 (.p true (.not (.t 15))), mvt 17 16, ⟨(some 18), (some (17, false)), (.p true (.mv (.t 1)))⟩, ⟨(some 19), (some (17, false)), (.call true 13 [(.t 18)])⟩, ⟨(some 20), (some (17, false)), (.p true (.not (.t 19)))⟩, rg 21 (.p true (.pick (.t 17) (.c (.bool true)) (.t 20))), mvt 22 21, ⟨(some 23), (some (22, false)), (.p true (.mv (.t 0)))⟩, ⟨(some 24), (some (22, false)), (.p true (.mv (.t 1)))⟩, ⟨(some 25), (some (22, false)), (.p true (.bin .eql (.t 23) (.t 24)))⟩, rg 26 (.p true (.pick (.t 22) (.c (.bool true)) (.t 25))), mvt 13 26]) (.cond (.t 13) (.seq (.reg [rg 10 (.f (.nilrow 3)), rg 11 (.p true (.mv (.c (.int .i64 1))))]) .ret) (.seq (.reg [mvt 28 2, rg 29 (.call true 14 [(.t 28), (.c (.int .i64 0)), (.c (.int .i64 10000))]), rg 30 (.p true (.not (.t 29))), mvt 31 30, ⟨(some 32), (some (31, false)), (.p true (.mv (.t 3)))⟩, ⟨(some 33), (some (31, false)), (.call true 14 [(.t 32), (.c (.int .i64 1)), (.c (.int .i64 10000))])⟩, ⟨(some 34), (some (31, false)), (.p true (.not (.t 33)))⟩, rg 35 (.p true (.pick (.t 31) (.c (.bool true)) (.t 34))), mvt 36 35, ⟨(some 37), (some (36, false)), (.p true (.mv (.t 4)))⟩, ⟨(some 38), (some (36, false)), (.call true 14 [(.t 37), (.c (.int .i64 1)), (.c (.int .i64 12))])⟩, ⟨(some 39), (some (36, false)), (.p true (.not (.t 38)))⟩, rg 40 (.p true (.pick (.t 36) (.c (.bool true)) (.t 39))), mvt 27 40]) (.cond (.t 27) (.seq (.reg [rg 10 (.f (.nilrow 3)), rg 11 (.p true (.mv (.c (.int .i64 2))))]) .ret) .skip))))) (.seq (.reg [rg 12 (.f (.nilrow 3))]) (.seq (.seq (.reg [mvt 41 4, rg 42 (.p true (.mv (.c (.int .i64 0))))]) (.block 1 (.loop (.seq (.reg [rg 43 (.p true (.bin .lss (.t 42) (.t 41)))]) (.seq (.cond (.t 43) .skip (.exit 1)) (.seq (.block 2 (.seq (.reg [mvt 44 12, mvt 45 0, mvt 46 2, mvt 47 3, rg 48 (.f (.bld [((.str []), (0, true)), ((.int .i64 0), (0, true)), ((.int .i64 0), (0, true))] [(0, (1, (.t 45))), (1, (1, (.t 46))), (2, (1, (.t 47)))])), mvt 49 1, mvt 50 2, mvt 51 3, rg 52 (.p true (.bin .add (.t 50) (.t 51))), mvt 53 3, rg 54 (.f (.bld [((.str []), (0, true)), ((.int .i64 0), (0, true)), ((.int .i64 0), (0, true))] [(0, (1, (.t 49))), (1, (1, (.t 52))), (2, (1, (.t 53)))])), rg 55 (.f (.bsl 3 [(.t 48), (.t 54)])), rg 56 (.f (.app (.t 44) (.t 55) 3 32 true)), mvt 12 56]) (.seq (.reg [mvt 57 2, mvt 58 3, rg 59 (.p true (.bin .mul (.c (.int .i64 2)) (.t 58))), rg 60 (.p true (.bin .add (.t 57) (.t 59))), mvt 2 60]) (.reg [mvt 61 3, rg 62 (.call true 15 [(.t 61), (.c (.int .i64 2))]), mvt 3 62])))) (.reg [rg 63 (.p true (.bin .add (.t 42) (.c (.int .i64 1)))), mvt 42 63]))))))) (.seq (.seq (.reg [mvt 64 12, rg 65 (.call true 16 [(.t 64)]), rg 66 (.p true (.not (.t 65)))]) (.cond (.t 66) (.seq (.reg [rg 10 (.f (.nilrow 3)), rg 11 (.p true (.mv (.c (.int .i64 6))))]) .ret) .skip)) (.seq (.reg [mvt 67 12, mvt 10 67, rg 11 (.p true (.mv (.c (.int .i64 0))))]) .ret))))))
theorem c6_is : compFn Tryz.prog 6 = some (c6, [(.tmp 10), (.tmp 11)]) := by kernel_rfl
theorem c6_ok : okFn Tryz.prog 6 = true := by kernel_rfl

noncomputable def F_impl_ShareTurns_l2 (v0 : List UInt8) (v1 : List UInt8) (v4 : Int) (k0 : Int × Int × Int × (List TTurn) → Option ((List TTurn) × Int)) : Int × Int × Int × (List TTurn) → Option ((List TTurn) × Int)
 | (v50005, v50006, v50007, v50008) => (bif (decide (v50007 < v4)) then (need (room (v50008.length + [(v0, v50005, v50006), (v1, w64 (v50005 + v50006), v50006)].length) 32) (((F_impl_divUp v50006 2).bind fun v1006 => k0 (w64 (v50005 + (w64 (2 * v50006))), v1006, w64 (v50007 + 1), v50008 ++ [(v0, v50005, v50006), (v1, w64 (v50005 + v50006), v50006)]))))
 else ((F_impl_ValidTurns v50008).bind fun v1007 => (bif (!v1007) then some ([], 6)
 else some (v50008, 0))))
noncomputable def F_impl_ShareTurns_j0 (v0 : List UInt8) (v1 : List UInt8) (v2 : Int) (v3 : Int) (v4 : Int) : Option ((List TTurn) × Int) :=
 loop (F_impl_ShareTurns_l2 v0 v1 v4) (v2, v3, 0, [])
noncomputable def F_impl_ShareTurns_j1 (v0 : List UInt8) (v1 : List UInt8) (v2 : Int) (v3 : Int) (v4 : Int) (v50000 : Bool) : Option ((List TTurn) × Int) :=
 (bif v50000 then some ([], 1)
 else ((F_impl_within v2 0 10000).bind fun v1002 => (bif (!v1002) then some ([], 2)
 else ((F_impl_within v3 1 10000).bind fun v1003 => (bif (!v1003) then some ([], 2)
 else ((F_impl_within v4 1 12).bind fun v1004 => (bif (!v1004) then some ([], 2)
 else F_impl_ShareTurns_j0 v0 v1 v2 v3 v4)))))))
noncomputable def F_impl_ShareTurns (v0 : List UInt8) (v1 : List UInt8) (v2 : Int) (v3 : Int) (v4 : Int) : Option ((List TTurn) × Int) :=
 ((F_impl_IsName v0).bind fun v1000 => (bif (!v1000) then F_impl_ShareTurns_j1 v0 v1 v2 v3 v4 true
 else ((F_impl_IsName v1).bind fun v1001 => (bif (!v1001) then F_impl_ShareTurns_j1 v0 v1 v2 v3 v4 true
 else F_impl_ShareTurns_j1 v0 v1 v2 v3 v4 (decide (v0 = v1))))))
@[simp] def res_impl_ShareTurns (r : (List TTurn) × Int) : RV := .tup [.one (.row true 3 (r.1.map eTurn)), .one (.val (.int .i64 r.2))]
theorem con_impl_ShareTurns {v0 : List UInt8} {v1 : List UInt8} {v2 : Int} {v3 : Int} {v4 : Int} {r : (List TTurn) × Int} (hF : F_impl_ShareTurns v0 v1 v2 v3 v4 = some r) : Con Tryz.prog 6 [.str v0, .str v1, .int .i64 v2, .int .i64 v3, .int .i64 v4] (res_impl_ShareTurns r) := by
 unfold F_impl_ShareTurns at hF
 refine con_of c6_is fun N => ?_
 refine ws 0 128 ?_
 refine qf (.sl 0 0 0) [(0, .row true 3 (([] : List Int).map vI))] (by simp) ?_
 refine qp (AI 0) rfl ?_
 refine r_nil ?_
 refine w_meet (fun s' => s' = mkS [(0, AS v0), (1, AS v1), (2, AI v2), (3, AI v3), (4, AI v4)] (fo []) 1 ∧ F_impl_ShareTurns_j0 v0 v1 v2 v3 v4 = some r) ?_ ?_
 ·
  refine w_block ?_
  refine w_meet (fun s' => ∃ (v50000 : Bool), s' = mkS [(0, AS v0), (1, AS v1), (2, AI v2), (3, AI v3), (4, AI v4), (13, AB v50000)] (fo []) 1 ∧ F_impl_ShareTurns_j1 v0 v1 v2 v3 v4 v50000 = some r) ?_ ?_
  ·
   refine w_reg 128 1024 rfl rfl ?_
   refine qp (AS v0) rfl ?_
   obtain ⟨v1000, e1000, hF⟩ := bind_get hF
   refine qc (AB v1000) [(0, .row true 3 (([] : List Int).map vI))] false (con_impl_IsName e1000) c13_ok (by first | rfl | simp) rfl ?_
   refine qp (AB (!v1000)) rfl (qp (AB (!v1000)) rfl ?_)
   refine q_case 17 hF rfl (fun hF => ?_) (fun hF => ?_)
   ·
    refine qn rfl (qn rfl (qn rfl (qp (AB true) rfl (qp (AB true) rfl (qn rfl (qn rfl (qn rfl ?_)))))))
    refine qp (AB true) rfl (qp (AB true) rfl ?_)
    refine r_nil ?_
    refine thenQ_n ?_
    refine ar (l' := [(0, AS v0), (1, AS v1), (2, AI v2), (3, AI v3), (4, AI v4), (13, AB true)]) (L := []) [0, 1, 2, 3, 4, 13] [] 1 ⟨_, rfl, hF⟩
   ·
    refine qg (AS v1) rfl rfl ?_
    obtain ⟨v1001, e1001, hF⟩ := bind_get hF
    refine qcg (AB v1001) [(0, .row true 3 (([] : List Int).map vI))] false rfl (con_impl_IsName e1001) c13_ok (by first | rfl | simp) rfl ?_
    refine qg (AB (!v1001)) rfl rfl (qp (AB (!v1001)) rfl (qp (AB (!v1001)) rfl ?_))
    refine q_case 22 hF rfl (fun hF => ?_) (fun hF => ?_)
    ·
     refine qn rfl (qn rfl (qn rfl (qp (AB true) rfl (qp (AB true) rfl ?_))))
     refine r_nil ?_
     refine thenQ_n ?_
     refine ar (l' := [(0, AS v0), (1, AS v1), (2, AI v2), (3, AI v3), (4, AI v4), (13, AB true)]) (L := []) [0, 1, 2, 3, 4, 13] [] 1 ⟨_, rfl, hF⟩
    ·
     refine qg (AS v0) rfl rfl (qg (AS v1) rfl rfl (qg (AB (decide (v0 = v1))) rfl rfl (qp (AB (decide (v0 = v1))) rfl (qp (AB (decide (v0 = v1))) rfl ?_))))
     refine r_nil ?_
     refine thenQ_n ?_
     refine ar (l' := [(0, AS v0), (1, AS v1), (2, AI v2), (3, AI v3), (4, AI v4), (13, AB (decide (v0 = v1)))]) (L := []) [0, 1, 2, 3, 4, 13] [] 1 ⟨_, rfl, hF⟩
  ·
   rintro s' ⟨v50000, rfl, hF⟩
   unfold F_impl_ShareTurns_j1 at hF
   refine cF hF (fun hF => ?_) fun hF => ?_
   ·
    refine ws 1 129 ?_
    refine qf (.sl 1 0 0) [(1, .row true 3 (([] : List TTurn).map eTurn))] (by simp) ?_
    refine qp (AI 1) rfl ?_
    refine r_nil ?_
    refine w_ret ?_
    refine blockQ_r ?_
    refine thenQ_r ?_
    cases hF
    exact eR
   ·
    refine ws 1 897 ?_
    refine qp (AI v2) rfl ?_
    obtain ⟨v1002, e1002, hF⟩ := bind_get hF
    refine qc (AB v1002) [] false (con_impl_within e1002) c14_ok (by first | rfl | simp) rfl ?_
    refine qp (AB (!v1002)) rfl (qp (AB (!v1002)) rfl ?_)
    refine q_case 31 hF rfl (fun hF => ?_) (fun hF => ?_)
    ·
     refine qn rfl (qn rfl (qn rfl (qp (AB true) rfl (qp (AB true) rfl (qn rfl (qn rfl (qn rfl ?_)))))))
     refine qp (AB true) rfl (qp (AB true) rfl ?_)
     refine r_nil ?_
     refine w_true rfl ?_
     refine ws 897 1025 ?_
     refine qf (.sl 897 0 0) [(897, .row true 3 (([] : List TTurn).map eTurn))] (by simp) ?_
     refine qp (AI 2) rfl ?_
     refine r_nil ?_
     refine w_ret ?_
     refine blockQ_r ?_
     refine thenQ_r ?_
     cases hF
     exact eR
    ·
     refine qg (AI v3) rfl rfl ?_
     obtain ⟨v1003, e1003, hF⟩ := bind_get hF
     refine qcg (AB v1003) [] false rfl (con_impl_within e1003) c14_ok (by first | rfl | simp) rfl ?_
     refine qg (AB (!v1003)) rfl rfl (qp (AB (!v1003)) rfl (qp (AB (!v1003)) rfl ?_))
     refine q_case 36 hF rfl (fun hF => ?_) (fun hF => ?_)
     ·
      refine qn rfl (qn rfl (qn rfl (qp (AB true) rfl (qp (AB true) rfl ?_))))
      refine r_nil ?_
      refine w_true rfl ?_
      refine ws 897 1025 ?_
      refine qf (.sl 897 0 0) [(897, .row true 3 (([] : List TTurn).map eTurn))] (by simp) ?_
      refine qp (AI 2) rfl ?_
      refine r_nil ?_
      refine w_ret ?_
      refine blockQ_r ?_
      refine thenQ_r ?_
      cases hF
      exact eR
     ·
      refine qg (AI v4) rfl rfl ?_
      obtain ⟨v1004, e1004, hF⟩ := bind_get hF
      refine qcg (AB v1004) [] false rfl (con_impl_within e1004) c14_ok (by first | rfl | simp) rfl ?_
      refine qg (AB (!v1004)) rfl rfl (qp (AB (!v1004)) rfl (qp (AB (!v1004)) rfl ?_))
      refine r_nil ?_
      refine cF hF (fun hF => ?_) fun hF => ?_
      ·
       refine ws 897 1025 ?_
       refine qf (.sl 897 0 0) [(897, .row true 3 (([] : List TTurn).map eTurn))] (by simp) ?_
       refine qp (AI 2) rfl ?_
       refine r_nil ?_
       refine w_ret ?_
       refine blockQ_r ?_
       refine thenQ_r ?_
       cases hF
       exact eR
      ·
       refine w_skip ?_
       refine blockQ_n ?_
       refine thenQ_n ?_
       refine ar (l' := [(0, AS v0), (1, AS v1), (2, AI v2), (3, AI v3), (4, AI v4)]) (L := []) [0, 1, 2, 3, 4] [] 1 ⟨rfl, hF⟩
 ·
  rintro s' ⟨rfl, hF⟩
  unfold F_impl_ShareTurns_j0 at hF
  refine ws 1 65 ?_
  refine qf (.sl 1 0 0) [(1, .row true 3 (([] : List TTurn).map eTurn))] (by simp) ?_
  refine r_nil ?_
  refine w_seq ?_
  refine ws 65 193 ?_
  refine qp (AI v4) rfl (qp (AI 0) rfl ?_)
  refine r_nil ?_
  refine w_block ?_
  refine wr (l' := [(0, AS v0), (1, AS v1), (2, AI v2), (3, AI v3), (12, .sl 0 0 0), (41, AI v4), (42, AI 0)]) (L := [(0, .row true 3 (([] : List TTurn).map eTurn))]) [0, 1, 2, 3, 12, 41, 42] [(1, 0)] 1 ?_
  refine w_loopF (F_impl_ShareTurns_l2 v0 v1 v4) (fun s : Int × Int × Int × (List TTurn) => mkS [(0, AS v0), (1, AS v1), (2, AI s.1), (3, AI s.2.1), (12, .sl 0 0 s.2.2.2.length), (41, AI v4), (42, AI s.2.2.1)] (fo [(0, .row true 3 (s.2.2.2.map eTurn))]) 1) hF ?_
  rintro k0 ⟨v50005, v50006, v50007, v50008⟩ hF
  rw [F_impl_ShareTurns_l2] at hF
  try dsimp only
  refine ws 1 65 ?_
  refine qp (AB (decide (v50007 < v4))) rfl ?_
  refine r_nil ?_
  refine w_seq ?_
  refine cF hF (fun hF => ?_) fun hF => ?_
  ·
   refine w_skip ?_
   refine thenQ_n ?_
   refine w_seq ?_
   refine w_block ?_
   refine ws 65 961 ?_
   refine qp (.sl 0 0 v50008.length) rfl (qp (AS v0) rfl (qp (AI v50005) rfl (qp (AI v50006) rfl ?_)))
   refine qf (.agg [AS v0, AI v50005, AI v50006]) [(0, .row true 3 (v50008.map eTurn))] (by simp) ?_
   refine qp (AS v1) rfl (qp (AI v50005) rfl (qp (AI v50006) rfl (qp (AI (w64 (v50005 + v50006))) rfl (qp (AI v50006) rfl ?_))))
   refine qf (.agg [AS v1, AI (w64 (v50005 + v50006)), AI v50006]) [(0, .row true 3 (v50008.map eTurn))] (by simp) ?_
   refine qf (.sl 769 0 ([(v0, v50005, v50006), (v1, w64 (v50005 + v50006), v50006)].length)) [(769, .row true 3 ([(v0, v50005, v50006), (v1, w64 (v50005 + v50006), v50006)].map eTurn)), (0, .row true 3 (v50008.map eTurn))] (by simp [List.take_of_length_le]) ?_
   obtain ⟨g1005, hF⟩ := need_some hF
   refine qf (.sl 833 0 ((v50008 ++ [(v0, v50005, v50006), (v1, w64 (v50005 + v50006), v50006)]).length)) [(833, .row true 3 ((v50008 ++ [(v0, v50005, v50006), (v1, w64 (v50005 + v50006), v50006)]).map eTurn)), (0, .dead), (769, .dead), (769, .row true 3 ([(v0, v50005, v50006), (v1, w64 (v50005 + v50006), v50006)].map eTurn)), (0, .row true 3 (v50008.map eTurn))] (effT_app_l rfl (by simp) rfl rfl (by simp) rfl (by decide) g1005 rfl) ?_
   refine qp (.sl 833 0 ((v50008 ++ [(v0, v50005, v50006), (v1, w64 (v50005 + v50006), v50006)]).length)) rfl ?_
   refine r_nil ?_
   refine ws 961 1281 ?_
   refine qp (AI v50005) rfl (qp (AI v50006) rfl (qp (AI (w64 (2 * v50006))) rfl (qp (AI (w64 (v50005 + (w64 (2 * v50006))))) rfl (qp (AI (w64 (v50005 + (w64 (2 * v50006))))) rfl ?_))))
   refine r_nil ?_
   refine w_reg 1281 1473 rfl rfl ?_
   refine qp (AI v50006) rfl ?_
   obtain ⟨v1006, e1006, hF⟩ := bind_get hF
   refine qc (AI v1006) [(833, .row true 3 ((v50008 ++ [(v0, v50005, v50006), (v1, w64 (v50005 + v50006), v50006)]).map eTurn)), (0, .dead), (769, .dead), (769, .row true 3 ([(v0, v50005, v50006), (v1, w64 (v50005 + v50006), v50006)].map eTurn)), (0, .row true 3 (v50008.map eTurn))] false (con_impl_divUp e1006) c15_ok (by first | rfl | simp) rfl ?_
   refine qp (AI v1006) rfl ?_
   refine r_nil ?_
   refine blockQ_n ?_
   refine thenQ_n ?_
   refine w_reg 1473 1601 rfl rfl ?_
   refine qp (AI (w64 (v50007 + 1))) rfl (qp (AI (w64 (v50007 + 1))) rfl ?_)
   refine r_nil ?_
   refine thenQ_n ?_
   refine ar (l' := [(0, AS v0), (1, AS v1), (2, AI (w64 (v50005 + (w64 (2 * v50006))))), (3, AI v1006), (12, .sl 0 0 (v50008 ++ [(v0, v50005, v50006), (v1, w64 (v50005 + v50006), v50006)]).length), (41, AI v4), (42, AI (w64 (v50007 + 1)))]) (L := [(0, .row true 3 ((v50008 ++ [(v0, v50005, v50006), (v1, w64 (v50005 + v50006), v50006)]).map eTurn))]) [0, 1, 2, 3, 12, 41, 42] [(833, 0)] 1 ⟨_, by rfl, hF⟩
  ·
   refine w_exit ?_
   refine thenQ_e ?_
   refine thenQ_e ?_
   refine blockQ_e ?_
   refine thenQ_n ?_
   refine w_seq ?_
   refine ws 65 257 ?_
   refine qp (.sl 0 0 v50008.length) rfl ?_
   obtain ⟨v1007, e1007, hF⟩ := bind_get hF
   refine qc (AB v1007) [(0, .row true 3 (v50008.map eTurn))] true (con_impl_ValidTurns e1007) c16_ok (by simp [List.take_of_length_le]) rfl ?_
   refine qp (AB (!v1007)) rfl ?_
   refine r_nil ?_
   refine cF hF (fun hF => ?_) fun hF => ?_
   ·
    refine ws 257 385 ?_
    refine qf (.sl 257 0 0) [(257, .row true 3 (([] : List TTurn).map eTurn)), (0, .row true 3 (v50008.map eTurn))] (by simp) ?_
    refine qp (AI 6) rfl ?_
    refine r_nil ?_
    refine w_ret ?_
    refine thenQ_r ?_
    cases hF
    exact eR
   ·
    refine w_skip ?_
    refine thenQ_n ?_
    refine ws 257 449 ?_
    refine qp (.sl 0 0 v50008.length) rfl (qp (.sl 0 0 v50008.length) rfl (qp (AI 0) rfl ?_))
    refine r_nil ?_
    refine w_ret ?_
    cases hF
    exact eR

def c17 : MC := (.seq (.reg [rg 1 (.f (.box (.t 0))), rg 2 (.p true (.mv (.c (.int .i64 0))))]) (.seq (.reg [rg 3 (.p true (.fad (.t 1) 1)), rg 4 (.p true (.ld (.t 3) 1 false)), rg 5 (.p true (.fad (.t 1) 2)), rg 6 (.p true (.ld (.t 5) 1 false)), rg 7 (.p true (.bin .add (.t 4) (.t 6))), mvt 2 7]) .ret))
theorem c17_is : compFn Tryz.prog 17 = some (c17, [(.tmp 2)]) := by kernel_rfl
theorem c17_ok : okFn Tryz.prog 17 = true := by kernel_rfl

noncomputable def F_impl_Turn_end (v0 : TTurn) : Option (Int) :=
 some (w64 (v0.2.1 + v0.2.2))
@[simp] def res_impl_Turn_end (r : Int) : RV := .one (.one (.val (.int .i64 r)))
theorem con_impl_Turn_end {v0 : TTurn} {r : Int} (hF : F_impl_Turn_end v0 = some r) : Con Tryz.prog 17 [eTurn v0] (res_impl_Turn_end r) := by
 unfold F_impl_Turn_end at hF
 refine con_of c17_is fun N => ?_
 refine ws 0 128 ?_
 refine qf (.ptr 0 0 0) [(0, .box [AS v0.1, AI v0.2.1, AI v0.2.2])] (by simp) ?_
 refine qp (AI 0) rfl ?_
 refine r_nil ?_
 refine ws 128 512 ?_
 refine qp (.ptr 0 0 1) rfl (qp (AI v0.2.1) rfl (qp (.ptr 0 0 2) rfl (qp (AI v0.2.2) rfl (qp (AI (w64 (v0.2.1 + v0.2.2))) rfl (qp (AI (w64 (v0.2.1 + v0.2.2))) rfl ?_)))))
 refine r_nil ?_
 refine w_ret ?_
 cases hF
 exact eR

def c7 : MC := (.seq (.reg [rg 2 (.f (.nilrow 1)), rg 3 (.p true (.mv (.c (.int .i64 0))))]) (.seq (.seq (.reg [mvt 9 0, rg 10 (.call true 16 [(.t 9)]), rg 11 (.p true (.not (.t 10)))]) (.cond (.t 11) (.seq (.reg [rg 2 (.f (.nilrow 1)), rg 3 (.p true (.mv (.c (.int .i64 1))))]) .ret) .skip)) (.seq (.reg [rg 4 (.f (.nilrow 1))]) (.seq (.seq (.reg [mvt 12 0, rg 13 (.p true (.len (.t 12))), rg 14 (.p true (.mv (.c (.int .i64 0))))]) (.block 0 (.loop (.seq (.reg [rg 15 (.p true (.bin .lss (.t 14) (.t 13)))]) (.seq (.cond (.t 15) .skip (.exit 0)) (.seq (.block 1 (.seq (.reg [mvt 16 14, rg 17 (.p true (.iad (.t 12) (.t 14) 3)), rg 18 (.p true (.ld (.t 17) 3 true)), rg 6 (.f (.alloc [((.str []), (0, false)), ((.int .i64 0), (0, false)), ((.int .i64 0), (0, false))])), mvt 5 16, ⟨none, none, (.f (.st (.t 6) (.t 18) 3))⟩]) (.seq (.reg [mvt 19 5, rg 20 (.p true (.bin .add (.t 19) (.c (.int .i64 1)))), mvt 7 20]) (.block 2 (.loop (.seq (.seq (.reg [mvt 21 7, mvt 22 0, rg 23 (.p true (.len (.t 22))), rg 24 (.p true (.bin .lss (.t 21) (.t 23)))]) (.cond (.t 24) .skip (.exit 2))) (.seq (.block 3 (.seq (.reg [mvt 27 0, mvt 28 7, rg 29 (.p true (.iad (.t 27) (.t 28) 3)), rg 30 (.p true (.ld (.t 29) 3 true)), rg 8 (.f (.alloc [((.str []), (0, false)), ((.int .i64 0), (0, false)), ((.int .i64 0), (0, false))])), ⟨none, none, (.f (.st (.t 8) (.t 30) 3))⟩]) (.seq (.reg [rg 31 (.p false (.fad (.t 6) 0)), rg 32 (.p false (.ld (.t 31) 1 false)), rg 33 (.p false (.fad (.t 8) 0)), rg 34 (.p false (.ld (.t 33) 1 false)), rg 35 (.p false (.bin .eql (.t 32) (.t 34))), rg 36 (.p false (.mv (.t 35))), ⟨(some 37), (some (36, true)), (.p false (.fad (.t 8) 1))⟩, ⟨(some 38), (some (36, true)), (.p false (.ld (.t 37) 1 false))⟩, ⟨(some 39), (some (36, true)), (.p false (.ld (.t 6) 3 true))⟩, ⟨(some 40), (some (36, true)), (.call false 17 [(.t 39)])⟩, ⟨(some 41), (some (36, true)), (.p false (.bin .lss (.t 38) (.t 40)))⟩, rg 42 (.p false (.pick (.t 36) (.t 41) (.c (.bool false))))]) (.cond (.t 42) (.reg [mvt 43 4, mvt 44 5, mvt 45 7, rg 46 (.f (.bsl 1 [(.t 44), (.t 45)])), rg 47 (.f (.bsl 1 [(.t 46)])), rg 48 (.f (.app (.t 43) (.t 47) 1 24 true)), mvt 4 48]) .skip)))) (.reg [mvt 25 7, rg 26 (.p true (.bin .add (.t 25) (.c (.int .i64 1)))), mvt 7 26])))))))) (.reg [rg 49 (.p true (.bin .add (.t 14) (.c (.int .i64 1)))), mvt 14 49]))))))) (.seq (.reg [mvt 50 4, mvt 2 50, rg 3 (.p true (.mv (.c (.int .i64 0))))]) .ret)))))
theorem c7_is : compFn Tryz.prog 7 = some (c7, [(.tmp 2), (.tmp 3)]) := by kernel_rfl
theorem c7_ok : okFn Tryz.prog 7 = true := by kernel_rfl

noncomputable def F_impl_ClashesOf_l3 (v0 : List TTurn) (v1021 : TTurn) (v50026 : Int) (k6 : Int × (List (List Int)) → Option ((List (List Int)) × Int)) (k7 : Int × (List (List Int)) → Option ((List (List Int)) × Int)) : Int × (List (List Int)) → Option ((List (List Int)) × Int)
 | (v50030, v50031) => (bif (decide (v50030 < (v0.length : Int))) then ((ix v0 v50030).bind fun v1028 => (bif (decide (v1021.1 = v1028.1)) then ((F_impl_Turn_end v1021).bind fun v1029 => (bif (decide (v1028.2.1 < v1029)) then (need (room (v50031.length + [[v50026, v50030]].length) 24) (k7 (w64 (v50030 + 1), v50031 ++ [[v50026, v50030]])))
 else k7 (w64 (v50030 + 1), v50031)))
 else k7 (w64 (v50030 + 1), v50031)))
 else k6 (w64 (v50026 + 1), v50031))
noncomputable def F_impl_ClashesOf_l2 (v0 : List TTurn) (k6 : Int × (List (List Int)) → Option ((List (List Int)) × Int)) : Int × (List (List Int)) → Option ((List (List Int)) × Int)
 | (v50026, v50027) => (bif (decide (v50026 < (v0.length : Int))) then ((ix v0 v50026).bind fun v1021 => loop (F_impl_ClashesOf_l3 v0 v1021 v50026 k6) (w64 (v50026 + 1), v50027))
 else some (v50027, 0))
noncomputable def F_impl_ClashesOf (v0 : List TTurn) : Option ((List (List Int)) × Int) :=
 ((F_impl_ValidTurns v0).bind fun v1000 => (bif (!v1000) then some ([], 1)
 else loop (F_impl_ClashesOf_l2 v0) (0, [])))
@[simp] def res_impl_ClashesOf (r : (List (List Int)) × Int) : RV := .tup [.one (.row true 1 (r.1.map (eL 1 vI))), .one (.val (.int .i64 r.2))]
theorem con_impl_ClashesOf {v0 : List TTurn} {r : (List (List Int)) × Int} (hF : F_impl_ClashesOf v0 = some r) : Con Tryz.prog 7 [.sl 3 (v0.map eTurn)] (res_impl_ClashesOf r) := by
 unfold F_impl_ClashesOf at hF
 refine con_of c7_is fun N => ?_
 refine ws 0 128 ?_
 refine qf (.sl 0 0 0) [(0, .row true 1 (([] : List Int).map vI))] (by simp) ?_
 refine qp (AI 0) rfl ?_
 refine r_nil ?_
 refine w_seq ?_
 refine ws 128 320 ?_
 refine qp (AL 3 (v0.map eTurn)) rfl ?_
 obtain ⟨v1000, e1000, hF⟩ := bind_get hF
 refine qc (AB v1000) [(0, .row true 1 (([] : List Int).map vI))] false (con_impl_ValidTurns e1000) c16_ok (by first | rfl | simp) rfl ?_
 refine qp (AB (!v1000)) rfl ?_
 refine r_nil ?_
 refine cF hF (fun hF => ?_) fun hF => ?_
 ·
  refine ws 320 448 ?_
  refine qf (.sl 320 0 0) [(320, .row true 1 (([] : List (List Int)).map (eL 1 vI))), (0, .row true 1 (([] : List Int).map vI))] (by simp) ?_
  refine qp (AI 1) rfl ?_
  refine r_nil ?_
  refine w_ret ?_
  refine thenQ_r ?_
  cases hF
  exact eR
 ·
  refine w_skip ?_
  refine thenQ_n ?_
  refine ws 320 384 ?_
  refine qf (.sl 320 0 0) [(320, .row true 1 (([] : List (List Int)).map (eL 1 vI))), (0, .row true 1 (([] : List Int).map vI))] (by simp) ?_
  refine r_nil ?_
  refine w_seq ?_
  refine ws 384 576 ?_
  refine qp (AL 3 (v0.map eTurn)) rfl (qp (AI (v0.length : Int)) (ev_len_n rfl) (qp (AI 0) rfl ?_))
  refine r_nil ?_
  refine w_block ?_
  refine wr (l' := [(0, AL 3 (v0.map eTurn)), (4, .sl 0 0 0), (12, AL 3 (v0.map eTurn)), (13, AI (v0.length : Int)), (14, AI 0)]) (L := [(0, .row true 1 (([] : List (List Int)).map (eL 1 vI)))]) [0, 4, 12, 13, 14] [(320, 0)] 1 ?_
  refine w_loopF (F_impl_ClashesOf_l2 v0) (fun s : Int × (List (List Int)) => mkS [(0, AL 3 (v0.map eTurn)), (4, .sl 0 0 s.2.length), (12, AL 3 (v0.map eTurn)), (13, AI (v0.length : Int)), (14, AI s.1)] (fo [(0, .row true 1 (s.2.map (eL 1 vI)))]) 1) hF ?_
  rintro k6 ⟨v50026, v50027⟩ hF
  rw [F_impl_ClashesOf_l2] at hF
  try dsimp only
  refine ws 1 65 ?_
  refine qp (AB (decide (v50026 < (v0.length : Int)))) rfl ?_
  refine r_nil ?_
  refine w_seq ?_
  refine cF hF (fun hF => ?_) fun hF => ?_
  ·
   refine w_skip ?_
   refine thenQ_n ?_
   refine w_seq ?_
   refine w_block ?_
   refine ws 65 449 ?_
   refine qp (AI v50026) rfl ?_
   obtain ⟨v1021, e1021, hF⟩ := bind_get hF
   refine qp (.val none (.ptr [.str v1021.1, .int .i64 v1021.2.1, .int .i64 v1021.2.2])) (ev_iad_n rfl rfl e1021 rfl) (qp (.val none (eTurn v1021)) rfl ?_)
   refine qf (.ptr 257 0 0) [(257, .box [AS [], AI 0, AI 0]), (0, .row true 1 (v50027.map (eL 1 vI)))] (by simp) ?_
   refine qp (AI v50026) rfl ?_
   refine qf0 (.undef) [(257, .box [AS v1021.1, AI v1021.2.1, AI v1021.2.2]), (257, .box [AS [], AI 0, AI 0]), (0, .row true 1 (v50027.map (eL 1 vI)))] (by simp) ?_
   refine r_nil ?_
   refine ws 449 641 ?_
   refine qp (AI v50026) rfl (qp (AI (w64 (v50026 + 1))) rfl (qp (AI (w64 (v50026 + 1))) rfl ?_))
   refine r_nil ?_
   refine w_block ?_
   refine wr (l' := [(0, AL 3 (v0.map eTurn)), (4, .sl 0 0 v50027.length), (5, AI v50026), (6, .ptr 1 0 0), (7, AI (w64 (v50026 + 1))), (12, AL 3 (v0.map eTurn)), (13, AI (v0.length : Int)), (14, AI v50026)]) (L := [(1, .box [AS v1021.1, AI v1021.2.1, AI v1021.2.2]), (0, .row true 1 (v50027.map (eL 1 vI)))]) [0, 4, 5, 6, 7, 12, 13, 14] [(257, 1), (0, 0)] 2 ?_
   refine w_loopF (F_impl_ClashesOf_l3 v0 v1021 v50026 k6) (fun s : Int × (List (List Int)) => mkS [(0, AL 3 (v0.map eTurn)), (4, .sl 0 0 s.2.length), (5, AI v50026), (6, .ptr 1 0 0), (7, AI s.1), (12, AL 3 (v0.map eTurn)), (13, AI (v0.length : Int)), (14, AI v50026)] (fo [(1, .box [AS v1021.1, AI v1021.2.1, AI v1021.2.2]), (0, .row true 1 (s.2.map (eL 1 vI)))]) 2) hF ?_
   rintro k7 ⟨v50030, v50031⟩ hF
   rw [F_impl_ClashesOf_l3] at hF
   try dsimp only
   refine w_seq ?_
   refine ws 2 258 ?_
   refine qp (AI v50030) rfl (qp (AL 3 (v0.map eTurn)) rfl (qp (AI (v0.length : Int)) (ev_len_n rfl) (qp (AB (decide (v50030 < (v0.length : Int)))) rfl ?_)))
   refine r_nil ?_
   refine cF hF (fun hF => ?_) fun hF => ?_
   ·
    refine w_skip ?_
    refine thenQ_n ?_
    refine w_seq ?_
    refine w_block ?_
    refine ws 258 642 ?_
    refine qp (AL 3 (v0.map eTurn)) rfl (qp (AI v50030) rfl ?_)
    obtain ⟨v1028, e1028, hF⟩ := bind_get hF
    refine qp (.val none (.ptr [.str v1028.1, .int .i64 v1028.2.1, .int .i64 v1028.2.2])) (ev_iad_n rfl rfl e1028 rfl) (qp (.val none (eTurn v1028)) rfl ?_)
    refine qf (.ptr 514 0 0) [(514, .box [AS [], AI 0, AI 0]), (1, .box [AS v1021.1, AI v1021.2.1, AI v1021.2.2]), (0, .row true 1 (v50031.map (eL 1 vI)))] (by simp) ?_
    refine qf0 (.undef) [(514, .box [AS v1028.1, AI v1028.2.1, AI v1028.2.2]), (514, .box [AS [], AI 0, AI 0]), (1, .box [AS v1021.1, AI v1021.2.1, AI v1021.2.2]), (0, .row true 1 (v50031.map (eL 1 vI)))] (by simp) ?_
    refine r_nil ?_
    refine ws 642 1410 ?_
    refine qp (.ptr 1 0 0) rfl (qp (AS v1021.1) rfl (qp (.ptr 514 0 0) rfl (qp (AS v1028.1) rfl (qp (AB (decide (v1021.1 = v1028.1))) rfl (qp (AB (decide (v1021.1 = v1028.1))) rfl ?_)))))
    refine q_case 36 hF rfl (fun hF => ?_) (fun hF => ?_)
    ·
     refine qg (.ptr 514 0 1) rfl rfl (qg (AI v1028.2.1) rfl rfl (qg (.agg [AS v1021.1, AI v1021.2.1, AI v1021.2.2]) rfl rfl ?_))
     obtain ⟨v1029, e1029, hF⟩ := bind_get hF
     refine qcg (AI v1029) [(514, .box [AS v1028.1, AI v1028.2.1, AI v1028.2.2]), (514, .box [AS [], AI 0, AI 0]), (1, .box [AS v1021.1, AI v1021.2.1, AI v1021.2.2]), (0, .row true 1 (v50031.map (eL 1 vI)))] false rfl (con_impl_Turn_end e1029) c17_ok (by first | rfl | simp) rfl ?_
     refine qg (AB (decide (v1028.2.1 < v1029))) rfl rfl (qp (AB (decide (v1028.2.1 < v1029))) rfl ?_)
     refine r_nil ?_
     refine cF hF (fun hF => ?_) fun hF => ?_
     ·
      refine w_reg 1410 1858 rfl rfl ?_
      refine qp (.sl 0 0 v50031.length) rfl (qp (AI v50026) rfl (qp (AI v50030) rfl ?_))
      refine qf (.sl 1602 0 ([v50026, v50030].length)) [(1602, .row true 1 ([v50026, v50030].map vI)), (514, .box [AS v1028.1, AI v1028.2.1, AI v1028.2.2]), (514, .box [AS [], AI 0, AI 0]), (1, .box [AS v1021.1, AI v1021.2.1, AI v1021.2.2]), (0, .row true 1 (v50031.map (eL 1 vI)))] (by simp [List.take_of_length_le]) ?_
      refine qf (.sl 1666 0 ([[v50026, v50030]].length)) [(1666, .row true 1 ([[v50026, v50030]].map (eL 1 vI))), (1602, .dead), (1602, .row true 1 ([v50026, v50030].map vI)), (514, .box [AS v1028.1, AI v1028.2.1, AI v1028.2.2]), (514, .box [AS [], AI 0, AI 0]), (1, .box [AS v1021.1, AI v1021.2.1, AI v1021.2.2]), (0, .row true 1 (v50031.map (eL 1 vI)))] (by simp [List.take_of_length_le]) ?_
      obtain ⟨g1030, hF⟩ := need_some hF
      refine qf (.sl 1730 0 ((v50031 ++ [[v50026, v50030]]).length)) [(1730, .row true 1 ((v50031 ++ [[v50026, v50030]]).map (eL 1 vI))), (0, .dead), (1666, .dead), (1666, .row true 1 ([[v50026, v50030]].map (eL 1 vI))), (1602, .dead), (1602, .row true 1 ([v50026, v50030].map vI)), (514, .box [AS v1028.1, AI v1028.2.1, AI v1028.2.2]), (514, .box [AS [], AI 0, AI 0]), (1, .box [AS v1021.1, AI v1021.2.1, AI v1021.2.2]), (0, .row true 1 (v50031.map (eL 1 vI)))] (effT_app_l rfl (by simp) rfl rfl (by simp) rfl (by decide) g1030 rfl) ?_
      refine qp (.sl 1730 0 ((v50031 ++ [[v50026, v50030]]).length)) rfl ?_
      refine r_nil ?_
      refine blockQ_n ?_
      refine thenQ_n ?_
      refine w_reg 1858 2050 rfl rfl ?_
      refine qp (AI v50030) rfl (qp (AI (w64 (v50030 + 1))) rfl (qp (AI (w64 (v50030 + 1))) rfl ?_))
      refine r_nil ?_
      refine thenQ_n ?_
      refine ar (l' := [(0, AL 3 (v0.map eTurn)), (4, .sl 0 0 (v50031 ++ [[v50026, v50030]]).length), (5, AI v50026), (6, .ptr 1 0 0), (7, AI (w64 (v50030 + 1))), (12, AL 3 (v0.map eTurn)), (13, AI (v0.length : Int)), (14, AI v50026)]) (L := [(1, .box [AS v1021.1, AI v1021.2.1, AI v1021.2.2]), (0, .row true 1 ((v50031 ++ [[v50026, v50030]]).map (eL 1 vI)))]) [0, 4, 5, 6, 7, 12, 13, 14] [(1, 1), (1730, 0)] 2 ⟨_, by rfl, hF⟩
     ·
      refine w_skip ?_
      refine blockQ_n ?_
      refine thenQ_n ?_
      refine w_reg 1410 1602 rfl rfl ?_
      refine qp (AI v50030) rfl (qp (AI (w64 (v50030 + 1))) rfl (qp (AI (w64 (v50030 + 1))) rfl ?_))
      refine r_nil ?_
      refine thenQ_n ?_
      refine ar (l' := [(0, AL 3 (v0.map eTurn)), (4, .sl 0 0 v50031.length), (5, AI v50026), (6, .ptr 1 0 0), (7, AI (w64 (v50030 + 1))), (12, AL 3 (v0.map eTurn)), (13, AI (v0.length : Int)), (14, AI v50026)]) (L := [(1, .box [AS v1021.1, AI v1021.2.1, AI v1021.2.2]), (0, .row true 1 (v50031.map (eL 1 vI)))]) [0, 4, 5, 6, 7, 12, 13, 14] [(1, 1), (0, 0)] 2 ⟨_, by rfl, hF⟩
    ·
     refine qn rfl (qn rfl (qn rfl (qn rfl (qn rfl (qp (AB false) rfl ?_)))))
     refine r_nil ?_
     refine w_false rfl ?_
     refine w_skip ?_
     refine blockQ_n ?_
     refine thenQ_n ?_
     refine w_reg 1410 1602 rfl rfl ?_
     refine qp (AI v50030) rfl (qp (AI (w64 (v50030 + 1))) rfl (qp (AI (w64 (v50030 + 1))) rfl ?_))
     refine r_nil ?_
     refine thenQ_n ?_
     refine ar (l' := [(0, AL 3 (v0.map eTurn)), (4, .sl 0 0 v50031.length), (5, AI v50026), (6, .ptr 1 0 0), (7, AI (w64 (v50030 + 1))), (12, AL 3 (v0.map eTurn)), (13, AI (v0.length : Int)), (14, AI v50026)]) (L := [(1, .box [AS v1021.1, AI v1021.2.1, AI v1021.2.2]), (0, .row true 1 (v50031.map (eL 1 vI)))]) [0, 4, 5, 6, 7, 12, 13, 14] [(1, 1), (0, 0)] 2 ⟨_, by rfl, hF⟩
   ·
    refine w_exit ?_
    refine thenQ_e ?_
    refine thenQ_e ?_
    refine blockQ_e ?_
    refine blockQ_n ?_
    refine thenQ_n ?_
    refine w_reg 258 386 rfl rfl ?_
    refine qp (AI (w64 (v50026 + 1))) rfl (qp (AI (w64 (v50026 + 1))) rfl ?_)
    refine r_nil ?_
    refine thenQ_n ?_
    refine ar (l' := [(0, AL 3 (v0.map eTurn)), (4, .sl 0 0 v50031.length), (12, AL 3 (v0.map eTurn)), (13, AI (v0.length : Int)), (14, AI (w64 (v50026 + 1)))]) (L := [(0, .row true 1 (v50031.map (eL 1 vI)))]) [0, 4, 12, 13, 14] [(0, 0)] 1 ⟨_, by rfl, hF⟩
  ·
   refine w_exit ?_
   refine thenQ_e ?_
   refine thenQ_e ?_
   refine blockQ_e ?_
   refine thenQ_n ?_
   refine ws 65 257 ?_
   refine qp (.sl 0 0 v50027.length) rfl (qp (.sl 0 0 v50027.length) rfl (qp (AI 0) rfl ?_))
   refine r_nil ?_
   refine w_ret ?_
   cases hF
   exact eR

def c55 : MC := (.seq (.reg [rg 2 (.p true (.mv (.c (.bool false))))]) (.seq (.reg [mvt 3 0, rg 4 (.p true (.bin .geq (.t 3) (.c (.int .u8 97)))), mvt 5 4, ⟨(some 6), (some (5, true)), (.p true (.mv (.t 0)))⟩, ⟨(some 7), (some (5, true)), (.p true (.bin .leq (.t 6) (.c (.int .u8 122))))⟩, rg 8 (.p true (.pick (.t 5) (.t 7) (.c (.bool false)))), mvt 2 8]) .ret))
theorem c55_is : compFn Tryz.prog 55 = some (c55, [(.tmp 2)]) := by kernel_rfl
theorem c55_ok : okFn Tryz.prog 55 = true := by kernel_rfl

noncomputable def F_spec_l01Small (v0 : Int) : Option (Bool) :=
 (bif (decide ((97 : Int) ≤ v0)) then some (decide (v0 ≤ (122 : Int)))
 else some false)
@[simp] def res_spec_l01Small (r : Bool) : RV := .one (.one (.val (.bool r)))
theorem con_spec_l01Small {v0 : Int} {r : Bool} (hF : F_spec_l01Small v0 = some r) : Con Tryz.prog 55 [.int .u8 v0] (res_spec_l01Small r) := by
 unfold F_spec_l01Small at hF
 refine con_of c55_is fun N => ?_
 refine ws 0 64 ?_
 refine qp (AB false) rfl ?_
 refine r_nil ?_
 refine ws 64 512 ?_
 refine qp (.val none (.int .u8 v0)) rfl (qp (AB (decide ((97 : Int) ≤ v0))) rfl (qp (AB (decide ((97 : Int) ≤ v0))) rfl ?_))
 refine q_case 5 hF rfl (fun hF => ?_) (fun hF => ?_)
 ·
  refine qg (.val none (.int .u8 v0)) rfl rfl (qg (AB (decide (v0 ≤ (122 : Int)))) rfl rfl (qp (AB (decide (v0 ≤ (122 : Int)))) rfl (qp (AB (decide (v0 ≤ (122 : Int)))) rfl ?_)))
  refine r_nil ?_
  refine w_ret ?_
  cases hF
  exact eR
 ·
  refine qn rfl (qn rfl (qp (AB false) rfl (qp (AB false) rfl ?_)))
  refine r_nil ?_
  refine w_ret ?_
  cases hF
  exact eR

def c56 : MC := (.seq (.reg [rg 2 (.p true (.mv (.c (.bool false))))]) (.seq (.reg [mvt 3 0, rg 4 (.p true (.bin .geq (.t 3) (.c (.int .u8 48)))), mvt 5 4, ⟨(some 6), (some (5, true)), (.p true (.mv (.t 0)))⟩, ⟨(some 7), (some (5, true)), (.p true (.bin .leq (.t 6) (.c (.int .u8 57))))⟩, rg 8 (.p true (.pick (.t 5) (.t 7) (.c (.bool false)))), mvt 2 8]) .ret))
theorem c56_is : compFn Tryz.prog 56 = some (c56, [(.tmp 2)]) := by kernel_rfl
theorem c56_ok : okFn Tryz.prog 56 = true := by kernel_rfl

noncomputable def F_spec_l01Digit (v0 : Int) : Option (Bool) :=
 (bif (decide ((48 : Int) ≤ v0)) then some (decide (v0 ≤ (57 : Int)))
 else some false)
@[simp] def res_spec_l01Digit (r : Bool) : RV := .one (.one (.val (.bool r)))
theorem con_spec_l01Digit {v0 : Int} {r : Bool} (hF : F_spec_l01Digit v0 = some r) : Con Tryz.prog 56 [.int .u8 v0] (res_spec_l01Digit r) := by
 unfold F_spec_l01Digit at hF
 refine con_of c56_is fun N => ?_
 refine ws 0 64 ?_
 refine qp (AB false) rfl ?_
 refine r_nil ?_
 refine ws 64 512 ?_
 refine qp (.val none (.int .u8 v0)) rfl (qp (AB (decide ((48 : Int) ≤ v0))) rfl (qp (AB (decide ((48 : Int) ≤ v0))) rfl ?_))
 refine q_case 5 hF rfl (fun hF => ?_) (fun hF => ?_)
 ·
  refine qg (.val none (.int .u8 v0)) rfl rfl (qg (AB (decide (v0 ≤ (57 : Int)))) rfl rfl (qp (AB (decide (v0 ≤ (57 : Int)))) rfl (qp (AB (decide (v0 ≤ (57 : Int)))) rfl ?_)))
  refine r_nil ?_
  refine w_ret ?_
  cases hF
  exact eR
 ·
  refine qn rfl (qn rfl (qp (AB false) rfl (qp (AB false) rfl ?_)))
  refine r_nil ?_
  refine w_ret ?_
  cases hF
  exact eR

def c42 : MC := (.seq (.reg [rg 2 (.p true (.mv (.c (.bool false))))]) (.seq (.seq (.reg [mvt 4 0, rg 5 (.p true (.bin .eql (.t 4) (.c (.str [])))), mvt 6 5, ⟨(some 7), (some (6, false)), (.p true (.mv (.t 0)))⟩, ⟨(some 8), (some (6, false)), (.p true (.lens (.t 7)))⟩, ⟨(some 9), (some (6, false)), (.p true (.bin .gtr (.t 8) (.c (.int .i64 10))))⟩, rg 10 (.p true (.pick (.t 6) (.c (.bool true)) (.t 9))), mvt 11 10, ⟨(some 12), (some (11, false)), (.p true (.mv (.t 0)))⟩, ⟨(some 13), (some (11, false)), (.p true (.ixs (.t 12) (.c (.int .i64 0))))⟩, ⟨(some 14), (some (11, false)), (.call true 55 [(.t 13)])⟩, ⟨(some 15), (some (11, false)), (.p true (.not (.t 14)))⟩, rg 16 (.p true (.pick (.t 11) (.c (.bool true)) (.t 15)))]) (.cond (.t 16) (.seq (.reg [rg 2 (.p true (.mv (.c (.bool false))))]) .ret) .skip)) (.seq (.seq (.reg [rg 3 (.p true (.mv (.c (.int .i64 0))))]) (.block 0 (.loop (.seq (.seq (.reg [mvt 17 3, mvt 18 0, rg 19 (.p true (.lens (.t 18))), rg 20 (.p true (.bin .lss (.t 17) (.t 19)))]) (.cond (.t 20) .skip (.exit 0))) (.seq (.block 1 (.seq (.reg [mvt 23 0, mvt 24 3, rg 25 (.p true (.ixs (.t 23) (.t 24))), rg 26 (.call true 55 [(.t 25)]), rg 27 (.p true (.not (.t 26))), mvt 28 27, ⟨(some 29), (some (28, true)), (.p true (.mv (.t 0)))⟩, ⟨(some 30), (some (28, true)), (.p true (.mv (.t 3)))⟩, ⟨(some 31), (some (28, true)), (.p true (.ixs (.t 29) (.t 30)))⟩, ⟨(some 32), (some (28, true)), (.call true 56 [(.t 31)])⟩, ⟨(some 33), (some (28, true)), (.p true (.not (.t 32)))⟩, rg 34 (.p true (.pick (.t 28) (.t 33) (.c (.bool false))))]) (.cond (.t 34) (.seq (.reg [rg 2 (.p true (.mv (.c (.bool false))))]) .ret) .skip))) (.reg [mvt 21 3, rg 22 (.p true (.bin .add (.t 21) (.c (.int .i64 1)))), mvt 3 22])))))) (.seq (.reg [rg 2 (.p true (.mv (.c (.bool true))))]) .ret))))
theorem c42_is : compFn Tryz.prog 42 = some (c42, [(.tmp 2)]) := by kernel_rfl
theorem c42_ok : okFn Tryz.prog 42 = true := by kernel_rfl

noncomputable def F_spec_l01Name_l0 (v0 : List UInt8) (k1 : Int → Option (Bool)) : Int → Option (Bool)
 | v50003 => (bif (decide (v50003 < (v0.length : Int))) then ((ix v0 v50003).bind fun v1010 => ((F_spec_l01Small (v1010.toNat : Int)).bind fun v1011 => (bif (!v1011) then ((ix v0 v50003).bind fun v1012 => ((F_spec_l01Digit (v1012.toNat : Int)).bind fun v1013 => (bif (!v1013) then some false
 else k1 (w64 (v50003 + 1)))))
 else k1 (w64 (v50003 + 1)))))
 else some true)
noncomputable def F_spec_l01Name (v0 : List UInt8) : Option (Bool) :=
 (bif (decide (v0 = [])) then some false
 else (bif (decide ((10 : Int) < (v0.length : Int))) then some false
 else ((ix v0 0).bind fun v1000 => ((F_spec_l01Small (v1000.toNat : Int)).bind fun v1001 => (bif (!v1001) then some false
 else loop (F_spec_l01Name_l0 v0) 0)))))
@[simp] def res_spec_l01Name (r : Bool) : RV := .one (.one (.val (.bool r)))
theorem con_spec_l01Name {v0 : List UInt8} {r : Bool} (hF : F_spec_l01Name v0 = some r) : Con Tryz.prog 42 [.str v0] (res_spec_l01Name r) := by
 unfold F_spec_l01Name at hF
 refine con_of c42_is fun N => ?_
 refine ws 0 64 ?_
 refine qp (AB false) rfl ?_
 refine r_nil ?_
 refine w_seq ?_
 refine ws 64 896 ?_
 refine qp (AS v0) rfl (qp (AB (decide (v0 = []))) rfl (qp (AB (decide (v0 = []))) rfl ?_))
 refine q_case 6 hF rfl (fun hF => ?_) (fun hF => ?_)
 ·
  refine qn rfl (qn rfl (qn rfl (qp (AB true) rfl (qp (AB true) rfl (qn rfl (qn rfl (qn rfl ?_)))))))
  refine qn rfl (qp (AB true) rfl ?_)
  refine r_nil ?_
  refine w_true rfl ?_
  refine ws 896 960 ?_
  refine qp (AB false) rfl ?_
  refine r_nil ?_
  refine w_ret ?_
  refine thenQ_r ?_
  cases hF
  exact eR
 ·
  refine qg (AS v0) rfl rfl (qg (AI (v0.length : Int)) rfl rfl (qg (AB (decide ((10 : Int) < (v0.length : Int)))) rfl rfl (qp (AB (decide ((10 : Int) < (v0.length : Int)))) rfl (qp (AB (decide ((10 : Int) < (v0.length : Int)))) rfl ?_))))
  refine q_case 11 hF rfl (fun hF => ?_) (fun hF => ?_)
  ·
   refine qn rfl (qn rfl (qn rfl (qn rfl (qp (AB true) rfl ?_))))
   refine r_nil ?_
   refine w_true rfl ?_
   refine ws 896 960 ?_
   refine qp (AB false) rfl ?_
   refine r_nil ?_
   refine w_ret ?_
   refine thenQ_r ?_
   cases hF
   exact eR
  ·
   refine qg (AS v0) rfl rfl ?_
   obtain ⟨v1000, e1000, hF⟩ := bind_get hF
   refine qg (.val none (.int .u8 (v1000.toNat : Int))) rfl (ev_ixs rfl rfl e1000) ?_
   obtain ⟨v1001, e1001, hF⟩ := bind_get hF
   refine qcg (AB v1001) [] false rfl (con_spec_l01Small e1001) c55_ok (by first | rfl | simp) rfl ?_
   refine qg (AB (!v1001)) rfl rfl (qp (AB (!v1001)) rfl ?_)
   refine r_nil ?_
   refine cF hF (fun hF => ?_) fun hF => ?_
   ·
    refine ws 896 960 ?_
    refine qp (AB false) rfl ?_
    refine r_nil ?_
    refine w_ret ?_
    refine thenQ_r ?_
    cases hF
    exact eR
   ·
    refine w_skip ?_
    refine thenQ_n ?_
    refine w_seq ?_
    refine ws 896 960 ?_
    refine qp (AI 0) rfl ?_
    refine r_nil ?_
    refine w_block ?_
    refine wr (l' := [(0, AS v0), (3, AI 0)]) (L := []) [0, 3] [] 1 ?_
    refine w_loopF (F_spec_l01Name_l0 v0) (fun s : Int => mkS [(0, AS v0), (3, AI s)] (fo []) 1) hF ?_
    rintro k1 v50003 hF
    rw [F_spec_l01Name_l0] at hF
    try dsimp only
    refine w_seq ?_
    refine ws 1 257 ?_
    refine qp (AI v50003) rfl (qp (AS v0) rfl (qp (AI (v0.length : Int)) rfl (qp (AB (decide (v50003 < (v0.length : Int)))) rfl ?_)))
    refine r_nil ?_
    refine cF hF (fun hF => ?_) fun hF => ?_
    ·
     refine w_skip ?_
     refine thenQ_n ?_
     refine w_seq ?_
     refine w_block ?_
     refine ws 257 1025 ?_
     refine qp (AS v0) rfl (qp (AI v50003) rfl ?_)
     obtain ⟨v1010, e1010, hF⟩ := bind_get hF
     refine qp (.val none (.int .u8 (v1010.toNat : Int))) (ev_ixs rfl rfl e1010) ?_
     obtain ⟨v1011, e1011, hF⟩ := bind_get hF
     refine qc (AB v1011) [] false (con_spec_l01Small e1011) c55_ok (by first | rfl | simp) rfl ?_
     refine qp (AB (!v1011)) rfl (qp (AB (!v1011)) rfl ?_)
     refine q_case 28 hF rfl (fun hF => ?_) (fun hF => ?_)
     ·
      refine qg (AS v0) rfl rfl (qg (AI v50003) rfl rfl ?_)
      obtain ⟨v1012, e1012, hF⟩ := bind_get hF
      refine qg (.val none (.int .u8 (v1012.toNat : Int))) rfl (ev_ixs rfl rfl e1012) ?_
      obtain ⟨v1013, e1013, hF⟩ := bind_get hF
      refine qcg (AB v1013) [] false rfl (con_spec_l01Digit e1013) c56_ok (by first | rfl | simp) rfl ?_
      refine qg (AB (!v1013)) rfl rfl (qp (AB (!v1013)) rfl ?_)
      refine r_nil ?_
      refine cF hF (fun hF => ?_) fun hF => ?_
      ·
       refine ws 1025 1089 ?_
       refine qp (AB false) rfl ?_
       refine r_nil ?_
       refine w_ret ?_
       refine blockQ_r ?_
       refine thenQ_r ?_
       refine thenQ_r ?_
       refine blockQ_r ?_
       refine thenQ_r ?_
       cases hF
       exact eR
      ·
       refine w_skip ?_
       refine blockQ_n ?_
       refine thenQ_n ?_
       refine w_reg 1025 1217 rfl rfl ?_
       refine qp (AI v50003) rfl (qp (AI (w64 (v50003 + 1))) rfl (qp (AI (w64 (v50003 + 1))) rfl ?_))
       refine r_nil ?_
       refine thenQ_n ?_
       refine ar (l' := [(0, AS v0), (3, AI (w64 (v50003 + 1)))]) (L := []) [0, 3] [] 1 ⟨_, by rfl, hF⟩
     ·
      refine qn rfl (qn rfl (qn rfl (qn rfl (qn rfl (qp (AB false) rfl ?_)))))
      refine r_nil ?_
      refine w_false rfl ?_
      refine w_skip ?_
      refine blockQ_n ?_
      refine thenQ_n ?_
      refine w_reg 1025 1217 rfl rfl ?_
      refine qp (AI v50003) rfl (qp (AI (w64 (v50003 + 1))) rfl (qp (AI (w64 (v50003 + 1))) rfl ?_))
      refine r_nil ?_
      refine thenQ_n ?_
      refine ar (l' := [(0, AS v0), (3, AI (w64 (v50003 + 1)))]) (L := []) [0, 3] [] 1 ⟨_, by rfl, hF⟩
    ·
     refine w_exit ?_
     refine thenQ_e ?_
     refine thenQ_e ?_
     refine blockQ_e ?_
     refine thenQ_n ?_
     refine ws 257 321 ?_
     refine qp (AB true) rfl ?_
     refine r_nil ?_
     refine w_ret ?_
     cases hF
     exact eR

def c43 : MC := (.seq (.reg [rg 6 (.p true (.mv (.c (.bool false))))]) (.seq (.reg [mvt 7 0, mvt 8 1, rg 9 (.p true (.bin .geq (.t 7) (.t 8))), mvt 10 9, ⟨(some 11), (some (10, true)), (.p true (.mv (.t 0)))⟩, ⟨(some 12), (some (10, true)), (.p true (.mv (.t 2)))⟩, ⟨(some 13), (some (10, true)), (.p true (.bin .leq (.t 11) (.t 12)))⟩, rg 14 (.p true (.pick (.t 10) (.t 13) (.c (.bool false)))), mvt 6 14]) .ret))
theorem c43_is : compFn Tryz.prog 43 = some (c43, [(.tmp 6)]) := by kernel_rfl
theorem c43_ok : okFn Tryz.prog 43 = true := by kernel_rfl

noncomputable def F_spec_l00In (v0 : Int) (v1 : Int) (v2 : Int) : Option (Bool) :=
 (bif (decide (v1 ≤ v0)) then some (decide (v0 ≤ v2))
 else some false)
@[simp] def res_spec_l00In (r : Bool) : RV := .one (.one (.val (.bool r)))
theorem con_spec_l00In {v0 : Int} {v1 : Int} {v2 : Int} {r : Bool} (hF : F_spec_l00In v0 v1 v2 = some r) : Con Tryz.prog 43 [.int .i64 v0, .int .i64 v1, .int .i64 v2] (res_spec_l00In r) := by
 unfold F_spec_l00In at hF
 refine con_of c43_is fun N => ?_
 refine ws 0 64 ?_
 refine qp (AB false) rfl ?_
 refine r_nil ?_
 refine ws 64 640 ?_
 refine qp (AI v0) rfl (qp (AI v1) rfl (qp (AB (decide (v1 ≤ v0))) rfl (qp (AB (decide (v1 ≤ v0))) rfl ?_)))
 refine q_case 10 hF rfl (fun hF => ?_) (fun hF => ?_)
 ·
  refine qg (AI v0) rfl rfl (qg (AI v2) rfl rfl (qg (AB (decide (v0 ≤ v2))) rfl rfl (qp (AB (decide (v0 ≤ v2))) rfl (qp (AB (decide (v0 ≤ v2))) rfl ?_))))
  refine r_nil ?_
  refine w_ret ?_
  cases hF
  exact eR
 ·
  refine qn rfl (qn rfl (qn rfl (qp (AB false) rfl (qp (AB false) rfl ?_))))
  refine r_nil ?_
  refine w_ret ?_
  cases hF
  exact eR

def c28 : MC := (.seq (.reg [rg 2 (.p true (.mv (.c (.bool false))))]) (.seq (.reg [mvt 3 0, rg 4 (.p true (.nck (.t 3))), rg 5 (.p true (.fad (.t 4) 0)), rg 6 (.p true (.ld (.t 5) 1 false)), rg 7 (.call true 42 [(.t 6)]), mvt 8 7, ⟨(some 9), (some (8, true)), (.p true (.mv (.t 0)))⟩, ⟨(some 10), (some (8, true)), (.p true (.nck (.t 9)))⟩, ⟨(some 11), (some (8, true)), (.p true (.fad (.t 10) 1))⟩, ⟨(some 12), (some (8, true)), (.p true (.ld (.t 11) 1 false))⟩, ⟨(some 13), (some (8, true)), (.call true 43 [(.t 12), (.c (.int .i64 0)), (.c (.int .i64 10000))])⟩, rg 14 (.p true (.pick (.t 8) (.t 13) (.c (.bool false)))), mvt 15 14, ⟨(some 16), (some (15, true)), (.p true (.mv (.t 0)))⟩, ⟨(some 17), (some (15, true)), (.p true (.nck (.t 16)))⟩, ⟨(some 18), (some (15, true)), (.p true (.fad (.t 17) 2))⟩, ⟨(some 19), (some (15, true)), (.p true (.ld (.t 18) 1 false))⟩, ⟨(some 20), (some (15, true)), (.call true 43 [(.t 19), (.c (.int .i64 1)), (.c (.int .i64 10000))])⟩, rg 21 (.p true (.pick (.t 15) (.t 20) (.c (.bool false)))), mvt 2 21]) .ret))
theorem c28_is : compFn Tryz.prog 28 = some (c28, [(.tmp 2)]) := by kernel_rfl
theorem c28_ok : okFn Tryz.prog 28 = true := by kernel_rfl

noncomputable def F_spec_l23One (v0 : TTurn) : Option (Bool) :=
 ((F_spec_l01Name v0.1).bind fun v1000 => (bif v1000 then ((F_spec_l00In v0.2.1 0 10000).bind fun v1001 => (bif v1001 then ((F_spec_l00In v0.2.2 1 10000).bind fun v1002 => some v1002)
 else some false))
 else some false))
@[simp] def res_spec_l23One (r : Bool) : RV := .one (.one (.val (.bool r)))
theorem con_spec_l23One {v0 : TTurn} {r : Bool} (hF : F_spec_l23One v0 = some r) : Con Tryz.prog 28 [.ptr [.str v0.1, .int .i64 v0.2.1, .int .i64 v0.2.2]] (res_spec_l23One r) := by
 unfold F_spec_l23One at hF
 refine con_of c28_is fun N => ?_
 refine ws 0 64 ?_
 refine qp (AB false) rfl ?_
 refine r_nil ?_
 refine ws 64 1344 ?_
 refine qp (.val none (.ptr [.str v0.1, .int .i64 v0.2.1, .int .i64 v0.2.2])) rfl (qp (.val none (.ptr [.str v0.1, .int .i64 v0.2.1, .int .i64 v0.2.2])) rfl (qp (.val none (.ptr [.str v0.1, .int .i64 v0.2.1, .int .i64 v0.2.2])) rfl (qp (AS v0.1) rfl ?_)))
 obtain ⟨v1000, e1000, hF⟩ := bind_get hF
 refine qc (AB v1000) [] false (con_spec_l01Name e1000) c42_ok (by first | rfl | simp) rfl ?_
 refine qp (AB v1000) rfl ?_
 refine q_case 8 hF rfl (fun hF => ?_) (fun hF => ?_)
 ·
  refine qg (.val none (.ptr [.str v0.1, .int .i64 v0.2.1, .int .i64 v0.2.2])) rfl rfl (qg (.val none (.ptr [.str v0.1, .int .i64 v0.2.1, .int .i64 v0.2.2])) rfl rfl (qg (.val none (.ptr [.int .i64 v0.2.1, .int .i64 v0.2.2])) rfl rfl (qg (AI v0.2.1) rfl rfl ?_)))
  obtain ⟨v1001, e1001, hF⟩ := bind_get hF
  refine qcg (AB v1001) [] false rfl (con_spec_l00In e1001) c43_ok (by first | rfl | simp) rfl ?_
  refine qp (AB v1001) rfl (qp (AB v1001) rfl ?_)
  refine q_case 15 hF rfl (fun hF => ?_) (fun hF => ?_)
  ·
   refine qg (.val none (.ptr [.str v0.1, .int .i64 v0.2.1, .int .i64 v0.2.2])) rfl rfl (qg (.val none (.ptr [.str v0.1, .int .i64 v0.2.1, .int .i64 v0.2.2])) rfl rfl (qg (.val none (.ptr [.int .i64 v0.2.2])) rfl rfl (qg (AI v0.2.2) rfl rfl ?_)))
   obtain ⟨v1002, e1002, hF⟩ := bind_get hF
   refine qcg (AB v1002) [] false rfl (con_spec_l00In e1002) c43_ok (by first | rfl | simp) rfl ?_
   refine qp (AB v1002) rfl (qp (AB v1002) rfl ?_)
   refine r_nil ?_
   refine w_ret ?_
   cases hF
   exact eR
  ·
   refine qn rfl (qn rfl (qn rfl (qn rfl (qn rfl (qp (AB false) rfl (qp (AB false) rfl ?_))))))
   refine r_nil ?_
   refine w_ret ?_
   cases hF
   exact eR
 ·
  refine qn rfl (qn rfl (qn rfl (qn rfl (qn rfl (qp (AB false) rfl (qp (AB false) rfl (qn rfl ?_)))))))
  refine qn rfl (qn rfl (qn rfl (qn rfl (qp (AB false) rfl (qp (AB false) rfl ?_)))))
  refine r_nil ?_
  refine w_ret ?_
  cases hF
  exact eR

def c29 : MC := (.seq (.reg [rg 4 (.p true (.mv (.c (.bool false))))]) (.seq (.seq (.reg [rg 5 (.p false (.mv (.t 0))), rg 6 (.p false (.nck (.t 5))), rg 7 (.p false (.fad (.t 6) 1)), rg 8 (.p false (.ld (.t 7) 1 false)), rg 9 (.p false (.mv (.t 1))), rg 10 (.p false (.nck (.t 9))), rg 11 (.p false (.fad (.t 10) 1)), rg 12 (.p false (.ld (.t 11) 1 false)), rg 13 (.p false (.bin .neq (.t 8) (.t 12)))]) (.cond (.t 13) (.seq (.reg [rg 14 (.p false (.mv (.t 0))), rg 15 (.p false (.nck (.t 14))), rg 16 (.p false (.fad (.t 15) 1)), rg 17 (.p false (.ld (.t 16) 1 false)), rg 18 (.p false (.mv (.t 1))), rg 19 (.p false (.nck (.t 18))), rg 20 (.p false (.fad (.t 19) 1)), rg 21 (.p false (.ld (.t 20) 1 false)), rg 22 (.p false (.bin .lss (.t 17) (.t 21))), rg 4 (.p false (.mv (.t 22)))]) .ret) .skip)) (.seq (.seq (.reg [rg 23 (.p false (.mv (.t 0))), rg 24 (.p false (.nck (.t 23))), rg 25 (.p false (.fad (.t 24) 0)), rg 26 (.p false (.ld (.t 25) 1 false)), rg 27 (.p false (.mv (.t 1))), rg 28 (.p false (.nck (.t 27))), rg 29 (.p false (.fad (.t 28) 0)), rg 30 (.p false (.ld (.t 29) 1 false)), rg 31 (.p false (.bin .neq (.t 26) (.t 30)))]) (.cond (.t 31) (.seq (.reg [rg 32 (.p false (.mv (.t 0))), rg 33 (.p false (.nck (.t 32))), rg 34 (.p false (.fad (.t 33) 0)), rg 35 (.p false (.ld (.t 34) 1 false)), rg 36 (.p false (.mv (.t 1))), rg 37 (.p false (.nck (.t 36))), rg 38 (.p false (.fad (.t 37) 0)), rg 39 (.p false (.ld (.t 38) 1 false)), rg 40 (.p false (.bin .lss (.t 35) (.t 39))), rg 4 (.p false (.mv (.t 40)))]) .ret) .skip)) (.seq (.reg [rg 41 (.p false (.mv (.t 0))), rg 42 (.p false (.nck (.t 41))), rg 43 (.p false (.fad (.t 42) 2)), rg 44 (.p false (.ld (.t 43) 1 false)), rg 45 (.p false (.mv (.t 1))), rg 46 (.p false (.nck (.t 45))), rg 47 (.p false (.fad (.t 46) 2)), rg 48 (.p false (.ld (.t 47) 1 false)), rg 49 (.p false (.bin .lss (.t 44) (.t 48))), rg 4 (.p false (.mv (.t 49)))]) .ret))))
theorem c29_is : compFn Tryz.prog 29 = some (c29, [(.tmp 4)]) := by kernel_rfl
theorem c29_ok : okFn Tryz.prog 29 = true := by kernel_rfl

noncomputable def F_spec_l23Before (v0 : TTurn) (v1 : TTurn) : Option (Bool) :=
 (bif (decide (v0.2.1 ≠ v1.2.1)) then some (decide (v0.2.1 < v1.2.1))
 else (bif (decide (v0.1 ≠ v1.1)) then some (Op.bytesLess v0.1 v1.1)
 else some (decide (v0.2.2 < v1.2.2))))
@[simp] def res_spec_l23Before (r : Bool) : RV := .one (.one (.val (.bool r)))
theorem con_spec_l23Before {v0 : TTurn} {v1 : TTurn} {r : Bool} (hF : F_spec_l23Before v0 v1 = some r) : Con Tryz.prog 29 [.ptr [.str v0.1, .int .i64 v0.2.1, .int .i64 v0.2.2], .ptr [.str v1.1, .int .i64 v1.2.1, .int .i64 v1.2.2]] (res_spec_l23Before r) := by
 unfold F_spec_l23Before at hF
 refine con_of c29_is fun N => ?_
 refine ws 0 64 ?_
 refine qp (AB false) rfl ?_
 refine r_nil ?_
 refine w_seq ?_
 refine ws 64 640 ?_
 refine qp (.val none (.ptr [.str v0.1, .int .i64 v0.2.1, .int .i64 v0.2.2])) rfl (qp (.val none (.ptr [.str v0.1, .int .i64 v0.2.1, .int .i64 v0.2.2])) rfl (qp (.val none (.ptr [.int .i64 v0.2.1, .int .i64 v0.2.2])) rfl (qp (AI v0.2.1) rfl (qp (.val none (.ptr [.str v1.1, .int .i64 v1.2.1, .int .i64 v1.2.2])) rfl (qp (.val none (.ptr [.str v1.1, .int .i64 v1.2.1, .int .i64 v1.2.2])) rfl (qp (.val none (.ptr [.int .i64 v1.2.1, .int .i64 v1.2.2])) rfl (qp (AI v1.2.1) rfl ?_)))))))
 refine qp (AB (decide (v0.2.1 ≠ v1.2.1))) rfl ?_
 refine r_nil ?_
 refine cF hF (fun hF => ?_) fun hF => ?_
 ·
  refine ws 640 1280 ?_
  refine qp (.val none (.ptr [.str v0.1, .int .i64 v0.2.1, .int .i64 v0.2.2])) rfl (qp (.val none (.ptr [.str v0.1, .int .i64 v0.2.1, .int .i64 v0.2.2])) rfl (qp (.val none (.ptr [.int .i64 v0.2.1, .int .i64 v0.2.2])) rfl (qp (AI v0.2.1) rfl (qp (.val none (.ptr [.str v1.1, .int .i64 v1.2.1, .int .i64 v1.2.2])) rfl (qp (.val none (.ptr [.str v1.1, .int .i64 v1.2.1, .int .i64 v1.2.2])) rfl (qp (.val none (.ptr [.int .i64 v1.2.1, .int .i64 v1.2.2])) rfl (qp (AI v1.2.1) rfl ?_)))))))
  refine qp (AB (decide (v0.2.1 < v1.2.1))) rfl (qp (AB (decide (v0.2.1 < v1.2.1))) rfl ?_)
  refine r_nil ?_
  refine w_ret ?_
  refine thenQ_r ?_
  cases hF
  exact eR
 ·
  refine w_skip ?_
  refine thenQ_n ?_
  refine w_seq ?_
  refine ws 640 1216 ?_
  refine qp (.val none (.ptr [.str v0.1, .int .i64 v0.2.1, .int .i64 v0.2.2])) rfl (qp (.val none (.ptr [.str v0.1, .int .i64 v0.2.1, .int .i64 v0.2.2])) rfl (qp (.val none (.ptr [.str v0.1, .int .i64 v0.2.1, .int .i64 v0.2.2])) rfl (qp (AS v0.1) rfl (qp (.val none (.ptr [.str v1.1, .int .i64 v1.2.1, .int .i64 v1.2.2])) rfl (qp (.val none (.ptr [.str v1.1, .int .i64 v1.2.1, .int .i64 v1.2.2])) rfl (qp (.val none (.ptr [.str v1.1, .int .i64 v1.2.1, .int .i64 v1.2.2])) rfl (qp (AS v1.1) rfl ?_)))))))
  refine qp (AB (decide (v0.1 ≠ v1.1))) rfl ?_
  refine r_nil ?_
  refine cF hF (fun hF => ?_) fun hF => ?_
  ·
   refine ws 1216 1856 ?_
   refine qp (.val none (.ptr [.str v0.1, .int .i64 v0.2.1, .int .i64 v0.2.2])) rfl (qp (.val none (.ptr [.str v0.1, .int .i64 v0.2.1, .int .i64 v0.2.2])) rfl (qp (.val none (.ptr [.str v0.1, .int .i64 v0.2.1, .int .i64 v0.2.2])) rfl (qp (AS v0.1) rfl (qp (.val none (.ptr [.str v1.1, .int .i64 v1.2.1, .int .i64 v1.2.2])) rfl (qp (.val none (.ptr [.str v1.1, .int .i64 v1.2.1, .int .i64 v1.2.2])) rfl (qp (.val none (.ptr [.str v1.1, .int .i64 v1.2.1, .int .i64 v1.2.2])) rfl (qp (AS v1.1) rfl ?_)))))))
   refine qp (AB (Op.bytesLess v0.1 v1.1)) rfl (qp (AB (Op.bytesLess v0.1 v1.1)) rfl ?_)
   refine r_nil ?_
   refine w_ret ?_
   refine thenQ_r ?_
   cases hF
   exact eR
  ·
   refine w_skip ?_
   refine thenQ_n ?_
   refine ws 1216 1856 ?_
   refine qp (.val none (.ptr [.str v0.1, .int .i64 v0.2.1, .int .i64 v0.2.2])) rfl (qp (.val none (.ptr [.str v0.1, .int .i64 v0.2.1, .int .i64 v0.2.2])) rfl (qp (.val none (.ptr [.int .i64 v0.2.2])) rfl (qp (AI v0.2.2) rfl (qp (.val none (.ptr [.str v1.1, .int .i64 v1.2.1, .int .i64 v1.2.2])) rfl (qp (.val none (.ptr [.str v1.1, .int .i64 v1.2.1, .int .i64 v1.2.2])) rfl (qp (.val none (.ptr [.int .i64 v1.2.2])) rfl (qp (AI v1.2.2) rfl ?_)))))))
   refine qp (AB (decide (v0.2.2 < v1.2.2))) rfl (qp (AB (decide (v0.2.2 < v1.2.2))) rfl ?_)
   refine r_nil ?_
   refine w_ret ?_
   cases hF
   exact eR

def c18 : MC := (.seq (.reg [rg 2 (.p true (.mv (.c (.bool false))))]) (.seq (.seq (.reg [rg 3 (.p true (.mv (.c (.int .i64 0))))]) (.block 0 (.loop (.seq (.seq (.reg [mvt 4 3, mvt 5 0, rg 6 (.p true (.len (.t 5))), rg 7 (.p true (.bin .lss (.t 4) (.t 6)))]) (.cond (.t 7) .skip (.exit 0))) (.seq (.block 1 (.seq (.reg [rg 10 (.p false (.mv (.t 0))), rg 11 (.p false (.mv (.t 3))), rg 12 (.p false (.iad (.t 10) (.t 11) 3)), rg 13 (.call false 28 [(.t 12)]), rg 14 (.p false (.not (.t 13))), rg 15 (.p false (.mv (.t 14))), ⟨(some 16), (some (15, false)), (.p false (.mv (.t 3)))⟩, ⟨(some 17), (some (15, false)), (.p false (.bin .gtr (.t 16) (.c (.int .i64 0))))⟩, ⟨(some 18), (some (15, false)), (.p false (.mv (.t 17)))⟩, ⟨(some 19), (some (18, true)), (.p false (.mv (.t 0)))⟩, ⟨(some 20), (some (18, true)), (.p false (.mv (.t 3)))⟩, ⟨(some 21), (some (18, true)), (.p false (.bin .sub (.t 20) (.c (.int .i64 1))))⟩, ⟨(some 22), (some (18, true)), (.p false (.iad (.t 19) (.t 21) 3))⟩, ⟨(some 23), (some (18, true)), (.p false (.mv (.t 0)))⟩, ⟨(some 24), (some (18, true)), (.p false (.mv (.t 3)))⟩, ⟨(some 25), (some (18, true)), (.p false (.iad (.t 23) (.t 24) 3))⟩, ⟨(some 26), (some (18, true)), (.call false 29 [(.t 22), (.t 25)])⟩, ⟨(some 27), (some (18, true)), (.p false (.not (.t 26)))⟩, ⟨(some 28), (some (15, false)), (.p false (.pick (.t 18) (.t 27) (.c (.bool false))))⟩, rg 29 (.p false (.pick (.t 15) (.c (.bool true)) (.t 28)))]) (.cond (.t 29) (.seq (.reg [rg 2 (.p true (.mv (.c (.bool false))))]) .ret) .skip))) (.reg [mvt 8 3, rg 9 (.p true (.bin .add (.t 8) (.c (.int .i64 1)))), mvt 3 9])))))) (.seq (.reg [mvt 30 0, rg 31 (.p true (.len (.t 30))), rg 32 (.p true (.bin .leq (.t 31) (.c (.int .i64 24)))), mvt 2 32]) .ret)))
theorem c18_is : compFn Tryz.prog 18 = some (c18, [(.tmp 2)]) := by kernel_rfl
theorem c18_ok : okFn Tryz.prog 18 = true := by kernel_rfl

noncomputable def F_spec_l23Ok_l0 (v0 : List TTurn) (k0 : Int → Option (Bool)) : Int → Option (Bool)
 | v50001 => (bif (decide (v50001 < (v0.length : Int))) then ((ix v0 v50001).bind fun v1000 => ((F_spec_l23One v1000).bind fun v1001 => (bif (!v1001) then some false
 else (bif (decide ((0 : Int) < v50001)) then ((ix v0 (w64 (v50001 - 1))).bind fun v1002 => ((ix v0 v50001).bind fun v1003 => ((F_spec_l23Before v1002 v1003).bind fun v1004 => (bif (!v1004) then some false
 else k0 (w64 (v50001 + 1))))))
 else k0 (w64 (v50001 + 1))))))
 else some (decide ((v0.length : Int) ≤ (24 : Int))))
noncomputable def F_spec_l23Ok (v0 : List TTurn) : Option (Bool) :=
 loop (F_spec_l23Ok_l0 v0) 0
@[simp] def res_spec_l23Ok (r : Bool) : RV := .one (.one (.val (.bool r)))
theorem con_spec_l23Ok {v0 : List TTurn} {r : Bool} (hF : F_spec_l23Ok v0 = some r) : Con Tryz.prog 18 [.sl 3 (v0.map eTurn)] (res_spec_l23Ok r) := by
 unfold F_spec_l23Ok at hF
 refine con_of c18_is fun N => ?_
 refine ws 0 64 ?_
 refine qp (AB false) rfl ?_
 refine r_nil ?_
 refine w_seq ?_
 refine ws 64 128 ?_
 refine qp (AI 0) rfl ?_
 refine r_nil ?_
 refine w_block ?_
 refine wr (l' := [(0, AL 3 (v0.map eTurn)), (3, AI 0)]) (L := []) [0, 3] [] 1 ?_
 refine w_loopF (F_spec_l23Ok_l0 v0) (fun s : Int => mkS [(0, AL 3 (v0.map eTurn)), (3, AI s)] (fo []) 1) hF ?_
 rintro k0 v50001 hF
 rw [F_spec_l23Ok_l0] at hF
 try dsimp only
 refine w_seq ?_
 refine ws 1 257 ?_
 refine qp (AI v50001) rfl (qp (AL 3 (v0.map eTurn)) rfl (qp (AI (v0.length : Int)) (ev_len_n rfl) (qp (AB (decide (v50001 < (v0.length : Int)))) rfl ?_)))
 refine r_nil ?_
 refine cF hF (fun hF => ?_) fun hF => ?_
 ·
  refine w_skip ?_
  refine thenQ_n ?_
  refine w_seq ?_
  refine w_block ?_
  refine ws 257 1537 ?_
  refine qp (AL 3 (v0.map eTurn)) rfl (qp (AI v50001) rfl ?_)
  obtain ⟨v1000, e1000, hF⟩ := bind_get hF
  refine qp (.val none (.ptr [.str v1000.1, .int .i64 v1000.2.1, .int .i64 v1000.2.2])) (ev_iad_n rfl rfl e1000 rfl) ?_
  obtain ⟨v1001, e1001, hF⟩ := bind_get hF
  refine qc (AB v1001) [] false (con_spec_l23One e1001) c28_ok (by first | rfl | simp) rfl ?_
  refine qp (AB (!v1001)) rfl (qp (AB (!v1001)) rfl ?_)
  refine q_case 15 hF rfl (fun hF => ?_) (fun hF => ?_)
  ·
   refine qn rfl (qn rfl (qn rfl (qu rfl (qu rfl (qu rfl (qu rfl (qu rfl ?_)))))))
   refine qu rfl (qu rfl (qu rfl (qu rfl (qn rfl (qp (AB true) rfl ?_)))))
   refine r_nil ?_
   refine w_true rfl ?_
   refine ws 1537 1601 ?_
   refine qp (AB false) rfl ?_
   refine r_nil ?_
   refine w_ret ?_
   refine blockQ_r ?_
   refine thenQ_r ?_
   refine thenQ_r ?_
   refine blockQ_r ?_
   refine thenQ_r ?_
   cases hF
   exact eR
  ·
   refine qg (AI v50001) rfl rfl (qg (AB (decide ((0 : Int) < v50001))) rfl rfl (qg (AB (decide ((0 : Int) < v50001))) rfl rfl ?_))
   refine q_case 18 hF rfl (fun hF => ?_) (fun hF => ?_)
   ·
    refine qg (AL 3 (v0.map eTurn)) rfl rfl (qg (AI v50001) rfl rfl (qg (AI (w64 (v50001 - 1))) rfl rfl ?_))
    obtain ⟨v1002, e1002, hF⟩ := bind_get hF
    refine qg (.val none (.ptr [.str v1002.1, .int .i64 v1002.2.1, .int .i64 v1002.2.2])) rfl (ev_iad_n rfl rfl e1002 rfl) (qg (AL 3 (v0.map eTurn)) rfl rfl (qg (AI v50001) rfl rfl ?_))
    obtain ⟨v1003, e1003, hF⟩ := bind_get hF
    refine qg (.val none (.ptr [.str v1003.1, .int .i64 v1003.2.1, .int .i64 v1003.2.2])) rfl (ev_iad_n rfl rfl e1003 rfl) ?_
    obtain ⟨v1004, e1004, hF⟩ := bind_get hF
    refine qcg (AB v1004) [] false rfl (con_spec_l23Before e1004) c29_ok (by first | rfl | simp) rfl ?_
    refine qg (AB (!v1004)) rfl rfl (qg (AB (!v1004)) rfl rfl (qp (AB (!v1004)) rfl ?_))
    refine r_nil ?_
    refine cF hF (fun hF => ?_) fun hF => ?_
    ·
     refine ws 1537 1601 ?_
     refine qp (AB false) rfl ?_
     refine r_nil ?_
     refine w_ret ?_
     refine blockQ_r ?_
     refine thenQ_r ?_
     refine thenQ_r ?_
     refine blockQ_r ?_
     refine thenQ_r ?_
     cases hF
     exact eR
    ·
     refine w_skip ?_
     refine blockQ_n ?_
     refine thenQ_n ?_
     refine w_reg 1537 1729 rfl rfl ?_
     refine qp (AI v50001) rfl (qp (AI (w64 (v50001 + 1))) rfl (qp (AI (w64 (v50001 + 1))) rfl ?_))
     refine r_nil ?_
     refine thenQ_n ?_
     refine ar (l' := [(0, AL 3 (v0.map eTurn)), (3, AI (w64 (v50001 + 1)))]) (L := []) [0, 3] [] 1 ⟨_, by rfl, hF⟩
   ·
    refine qn rfl (qn rfl (qn rfl (qn rfl (qn rfl (qn rfl (qn rfl (qn rfl ?_)))))))
    refine qn rfl (qg (AB false) rfl rfl (qp (AB false) rfl ?_))
    refine r_nil ?_
    refine w_false rfl ?_
    refine w_skip ?_
    refine blockQ_n ?_
    refine thenQ_n ?_
    refine w_reg 1537 1729 rfl rfl ?_
    refine qp (AI v50001) rfl (qp (AI (w64 (v50001 + 1))) rfl (qp (AI (w64 (v50001 + 1))) rfl ?_))
    refine r_nil ?_
    refine thenQ_n ?_
    refine ar (l' := [(0, AL 3 (v0.map eTurn)), (3, AI (w64 (v50001 + 1)))]) (L := []) [0, 3] [] 1 ⟨_, by rfl, hF⟩
 ·
  refine w_exit ?_
  refine thenQ_e ?_
  refine thenQ_e ?_
  refine blockQ_e ?_
  refine thenQ_n ?_
  refine ws 257 513 ?_
  refine qp (AL 3 (v0.map eTurn)) rfl (qp (AI (v0.length : Int)) (ev_len_n rfl) (qp (AB (decide ((v0.length : Int) ≤ (24 : Int)))) rfl (qp (AB (decide ((v0.length : Int) ≤ (24 : Int)))) rfl ?_)))
  refine r_nil ?_
  refine w_ret ?_
  cases hF
  exact eR

def c8 : MC := (.seq (.reg [rg 2 (.p true (.mv (.c (.bool false))))]) (.seq (.reg [mvt 3 0, rg 4 (.call true 18 [(.t 3)]), mvt 2 4]) .ret))
theorem c8_is : compFn Tryz.prog 8 = some (c8, [(.tmp 2)]) := by kernel_rfl
theorem c8_ok : okFn Tryz.prog 8 = true := by kernel_rfl

noncomputable def F_spec_ValidTurns (v0 : List TTurn) : Option (Bool) :=
 ((F_spec_l23Ok v0).bind fun v1000 => some v1000)
@[simp] def res_spec_ValidTurns (r : Bool) : RV := .one (.one (.val (.bool r)))
theorem con_spec_ValidTurns {v0 : List TTurn} {r : Bool} (hF : F_spec_ValidTurns v0 = some r) : Con Tryz.prog 8 [.sl 3 (v0.map eTurn)] (res_spec_ValidTurns r) := by
 unfold F_spec_ValidTurns at hF
 refine con_of c8_is fun N => ?_
 refine ws 0 64 ?_
 refine qp (AB false) rfl ?_
 refine r_nil ?_
 refine ws 64 256 ?_
 refine qp (AL 3 (v0.map eTurn)) rfl ?_
 obtain ⟨v1000, e1000, hF⟩ := bind_get hF
 refine qc (AB v1000) [] false (con_spec_l23Ok e1000) c18_ok (by first | rfl | simp) rfl ?_
 refine qp (AB v1000) rfl ?_
 refine r_nil ?_
 refine w_ret ?_
 cases hF
 exact eR

theorem c33_ok : okFn Tryz.prog 33 = true := by kernel_rfl




def c22 : MC := (.seq (.reg [rg 2 (.p true (.mv (.c (.str []))))]) (.seq (.reg [mvt 3 0, rg 4 (.call true 33 [(.t 3), (.c (.int .i64 10))]), mvt 2 4]) .ret))
theorem c22_is : compFn Tryz.prog 22 = some (c22, [(.tmp 2)]) := by kernel_rfl
theorem c22_ok : okFn Tryz.prog 22 = true := by kernel_rfl

noncomputable def F_impl_Decimal (v0 : Int) : Option (List UInt8) :=
 ((F_formatInt v0 10).bind fun v1000 => some v1000)
@[simp] def res_impl_Decimal (r : List UInt8) : RV := .one (.one (.val (.str r)))
theorem con_impl_Decimal {v0 : Int} {r : List UInt8} (hF : F_impl_Decimal v0 = some r) : Con Tryz.prog 22 [.int .i64 v0] (res_impl_Decimal r) := by
 unfold F_impl_Decimal at hF
 refine con_of c22_is fun N => ?_
 refine ws 0 64 ?_
 refine qp (AS []) rfl ?_
 refine r_nil ?_
 refine ws 64 256 ?_
 refine qp (AI v0) rfl ?_
 obtain ⟨v1000, e1000, hF⟩ := bind_get hF
 refine qc (AS v1000) [] false (con_formatInt e1000) c33_ok (by first | rfl | simp) rfl ?_
 refine qp (AS v1000) rfl ?_
 refine r_nil ?_
 refine w_ret ?_
 cases hF
 exact eR

def c10 : MC := (.seq (.reg [rg 1 (.f (.box (.t 0))), rg 2 (.p true (.mv (.c (.str []))))]) (.seq (.seq (.reg [rg 3 (.p true (.ld (.t 1) 3 true)), rg 4 (.call true 21 [(.t 3)]), rg 5 (.p true (.not (.t 4)))]) (.cond (.t 5) (.seq (.reg [rg 2 (.p true (.mv (.c (.str []))))]) .ret) .skip)) (.seq (.reg [rg 6 (.p false (.fad (.t 1) 0)), rg 7 (.p false (.ld (.t 6) 1 false)), rg 8 (.p false (.bin .add (.t 7) (.c (.str [32])))), rg 9 (.p false (.fad (.t 1) 1)), rg 10 (.p false (.ld (.t 9) 1 false)), rg 11 (.call false 22 [(.t 10)]), rg 12 (.p false (.bin .add (.t 8) (.t 11))), rg 13 (.p false (.bin .add (.t 12) (.c (.str [43])))), rg 14 (.p false (.fad (.t 1) 2)), rg 15 (.p false (.ld (.t 14) 1 false)), rg 16 (.call false 22 [(.t 15)]), rg 17 (.p false (.bin .add (.t 13) (.t 16))), rg 2 (.p false (.mv (.t 17)))]) .ret)))
theorem c10_is : compFn Tryz.prog 10 = some (c10, [(.tmp 2)]) := by kernel_rfl
theorem c10_ok : okFn Tryz.prog 10 = true := by kernel_rfl

noncomputable def F_impl_TurnText (v0 : TTurn) : Option (List UInt8) :=
 ((F_impl_Turn_valid v0).bind fun v1000 => (bif (!v1000) then some []
 else (need (v0.1.length + ([32] : List UInt8).length < 9223372036854775808) (((F_impl_Decimal v0.2.1).bind fun v1002 => (need ((v0.1 ++ ([32] : List UInt8)).length + v1002.length < 9223372036854775808) ((need (((v0.1 ++ ([32] : List UInt8)) ++ v1002).length + ([43] : List UInt8).length < 9223372036854775808) (((F_impl_Decimal v0.2.2).bind fun v1005 => (need ((((v0.1 ++ ([32] : List UInt8)) ++ v1002) ++ ([43] : List UInt8)).length + v1005.length < 9223372036854775808) (some ((((v0.1 ++ ([32] : List UInt8)) ++ v1002) ++ ([43] : List UInt8)) ++ v1005)))))))))))))
@[simp] def res_impl_TurnText (r : List UInt8) : RV := .one (.one (.val (.str r)))
theorem con_impl_TurnText {v0 : TTurn} {r : List UInt8} (hF : F_impl_TurnText v0 = some r) : Con Tryz.prog 10 [eTurn v0] (res_impl_TurnText r) := by
 unfold F_impl_TurnText at hF
 refine con_of c10_is fun N => ?_
 refine ws 0 128 ?_
 refine qf (.ptr 0 0 0) [(0, .box [AS v0.1, AI v0.2.1, AI v0.2.2])] (by simp) ?_
 refine qp (AS []) rfl ?_
 refine r_nil ?_
 refine w_seq ?_
 refine ws 128 320 ?_
 refine qp (.agg [AS v0.1, AI v0.2.1, AI v0.2.2]) rfl ?_
 obtain ⟨v1000, e1000, hF⟩ := bind_get hF
 refine qc (AB v1000) [(0, .box [AS v0.1, AI v0.2.1, AI v0.2.2])] false (con_impl_Turn_valid e1000) c21_ok (by first | rfl | simp) rfl ?_
 refine qp (AB (!v1000)) rfl ?_
 refine r_nil ?_
 refine cF hF (fun hF => ?_) fun hF => ?_
 ·
  refine ws 320 384 ?_
  refine qp (AS []) rfl ?_
  refine r_nil ?_
  refine w_ret ?_
  refine thenQ_r ?_
  cases hF
  exact eR
 ·
  refine w_skip ?_
  refine thenQ_n ?_
  refine ws 320 1152 ?_
  refine qp (.ptr 0 0 0) rfl (qp (AS v0.1) rfl ?_)
  obtain ⟨g1001, hF⟩ := need_some hF
  refine qp (AS (v0.1 ++ ([32] : List UInt8))) (ev_add_s rfl rfl g1001) (qp (.ptr 0 0 1) rfl (qp (AI v0.2.1) rfl ?_))
  obtain ⟨v1002, e1002, hF⟩ := bind_get hF
  refine qc (AS v1002) [(0, .box [AS v0.1, AI v0.2.1, AI v0.2.2])] false (con_impl_Decimal e1002) c22_ok (by first | rfl | simp) rfl ?_
  obtain ⟨g1003, hF⟩ := need_some hF
  refine qp (AS ((v0.1 ++ ([32] : List UInt8)) ++ v1002)) (ev_add_s rfl rfl g1003) ?_
  obtain ⟨g1004, hF⟩ := need_some hF
  refine qp (AS (((v0.1 ++ ([32] : List UInt8)) ++ v1002) ++ ([43] : List UInt8))) (ev_add_s rfl rfl g1004) (qp (.ptr 0 0 2) rfl (qp (AI v0.2.2) rfl ?_))
  obtain ⟨v1005, e1005, hF⟩ := bind_get hF
  refine qc (AS v1005) [(0, .box [AS v0.1, AI v0.2.1, AI v0.2.2])] false (con_impl_Decimal e1005) c22_ok (by first | rfl | simp) rfl ?_
  obtain ⟨g1006, hF⟩ := need_some hF
  refine qp (AS ((((v0.1 ++ ([32] : List UInt8)) ++ v1002) ++ ([43] : List UInt8)) ++ v1005)) (ev_add_s rfl rfl g1006) (qp (AS ((((v0.1 ++ ([32] : List UInt8)) ++ v1002) ++ ([43] : List UInt8)) ++ v1005)) rfl ?_)
  refine r_nil ?_
  refine w_ret ?_
  cases hF
  exact eR

theorem c19_ok : okFn Tryz.prog 19 = true := by kernel_rfl




theorem c20_ok : okFn Tryz.prog 20 = true := by kernel_rfl




def c9 : MC := (.seq (.reg [rg 2 (.f (.alloc [((.str []), (0, false)), ((.int .i64 0), (0, false)), ((.int .i64 0), (0, false))])), rg 3 (.p true (.mv (.c (.bool false))))]) (.seq (.reg [mvt 16 0, rg 17 (.call true 19 [(.t 16), (.c (.str [32]))]), mvt 15 17, rg 18 (.p true (.ext (.t 15) 0)), rg 19 (.p true (.ext (.t 15) 1)), rg 20 (.p true (.ext (.t 15) 2)), mvt 4 18, mvt 5 19, mvt 6 20]) (.seq (.reg [mvt 22 5, rg 23 (.call true 19 [(.t 22), (.c (.str [43]))]), mvt 21 23, rg 24 (.p true (.ext (.t 21) 0)), rg 25 (.p true (.ext (.t 21) 1)), rg 26 (.p true (.ext (.t 21) 2)), mvt 7 24, mvt 8 25, mvt 9 26]) (.seq (.reg [mvt 28 7, rg 29 (.call true 20 [(.t 28)]), mvt 27 29, rg 30 (.p true (.ext (.t 27) 0)), rg 31 (.p true (.ext (.t 27) 1)), mvt 10 30, mvt 11 31]) (.seq (.reg [mvt 33 8, rg 34 (.call true 20 [(.t 33)]), mvt 32 34, rg 35 (.p true (.ext (.t 32) 0)), rg 36 (.p true (.ext (.t 32) 1)), mvt 12 35, mvt 13 36]) (.seq (.reg [mvt 37 4, mvt 38 10, mvt 39 12, rg 40 (.f (.bld [((.str []), (0, true)), ((.int .i64 0), (0, true)), ((.int .i64 0), (0, true))] [(0, (1, (.t 37))), (1, (1, (.t 38))), (2, (1, (.t 39)))])), rg 14 (.f (.alloc [((.str []), (0, false)), ((.int .i64 0), (0, false)), ((.int .i64 0), (0, false))])), ⟨none, none, (.f (.st (.t 14) (.t 40) 3))⟩]) (.seq (.seq (.reg [mvt 41 11, rg 42 (.p true (.not (.t 41))), mvt 43 42, ⟨(some 44), (some (43, false)), (.p true (.mv (.t 13)))⟩, ⟨(some 45), (some (43, false)), (.p true (.not (.t 44)))⟩, rg 46 (.p true (.pick (.t 43) (.c (.bool true)) (.t 45))), mvt 47 46, ⟨(some 48), (some (47, false)), (.p true (.ld (.t 14) 3 true))⟩, ⟨(some 49), (some (47, false)), (.call true 10 [(.t 48)])⟩, ⟨(some 50), (some (47, false)), (.p true (.mv (.t 0)))⟩, ⟨(some 51), (some (47, false)), (.p true (.bin .neq (.t 49) (.t 50)))⟩, rg 52 (.p true (.pick (.t 47) (.c (.bool true)) (.t 51)))]) (.cond (.t 52) (.seq (.reg [rg 53 (.f (.bld [((.str []), (0, false)), ((.int .i64 0), (0, false)), ((.int .i64 0), (0, false))] [])), ⟨none, none, (.f (.st (.t 2) (.t 53) 3))⟩, rg 3 (.p true (.mv (.c (.bool false))))]) .ret) .skip)) (.seq (.reg [rg 54 (.p true (.ld (.t 14) 3 true)), ⟨none, none, (.f (.st (.t 2) (.t 54) 3))⟩, rg 3 (.p true (.mv (.c (.bool true))))]) .ret))))))))
theorem c9_is : compFn Tryz.prog 9 = some (c9, [(.cell (.ld (.t 2) 3 true)), (.tmp 3)]) := by kernel_rfl
theorem c9_ok : okFn Tryz.prog 9 = true := by kernel_rfl

noncomputable def F_impl_ReadTurn (v0 : List UInt8) : Option (TTurn × Bool) :=
 ((F_cut v0 [32]).bind fun v1000 => ((F_cut v1000.2.1 [43]).bind fun v1001 => ((F_readDec v1001.1).bind fun v1002 => ((F_readDec v1001.2.1).bind fun v1003 => (bif (!v1002.2) then some (([], 0, 0), false)
 else (bif (!v1003.2) then some (([], 0, 0), false)
 else ((F_impl_TurnText (v1000.1, v1002.1, v1003.1)).bind fun v1004 => (bif (decide (v1004 ≠ v0)) then some (([], 0, 0), false)
 else some ((v1000.1, v1002.1, v1003.1), true)))))))))
@[simp] def res_impl_ReadTurn (r : TTurn × Bool) : RV := .tup [.one (.val (eTurn r.1)), .one (.val (.bool r.2))]
theorem con_impl_ReadTurn {v0 : List UInt8} {r : TTurn × Bool} (hF : F_impl_ReadTurn v0 = some r) : Con Tryz.prog 9 [.str v0] (res_impl_ReadTurn r) := by
 unfold F_impl_ReadTurn at hF
 refine con_of c9_is fun N => ?_
 refine ws 0 128 ?_
 refine qf (.ptr 0 0 0) [(0, .box [AS [], AI 0, AI 0])] (by simp) ?_
 refine qp (AB false) rfl ?_
 refine r_nil ?_
 refine ws 128 704 ?_
 refine qp (AS v0) rfl ?_
 obtain ⟨v1000, e1000, hF⟩ := bind_get hF
 refine qc (.tup [AS v1000.1, AS v1000.2.1, AB v1000.2.2]) [(0, .box [AS [], AI 0, AI 0])] false (con_cut e1000) c19_ok (by first | rfl | simp) rfl ?_
 refine qp (.tup [AS v1000.1, AS v1000.2.1, AB v1000.2.2]) rfl (qp (AS v1000.1) rfl (qp (AS v1000.2.1) rfl (qp (AB v1000.2.2) rfl (qp (AS v1000.1) rfl (qp (AS v1000.2.1) rfl (qp (AB v1000.2.2) rfl ?_))))))
 refine r_nil ?_
 refine ws 704 1280 ?_
 refine qp (AS v1000.2.1) rfl ?_
 obtain ⟨v1001, e1001, hF⟩ := bind_get hF
 refine qc (.tup [AS v1001.1, AS v1001.2.1, AB v1001.2.2]) [(0, .box [AS [], AI 0, AI 0])] false (con_cut e1001) c19_ok (by first | rfl | simp) rfl ?_
 refine qp (.tup [AS v1001.1, AS v1001.2.1, AB v1001.2.2]) rfl (qp (AS v1001.1) rfl (qp (AS v1001.2.1) rfl (qp (AB v1001.2.2) rfl (qp (AS v1001.1) rfl (qp (AS v1001.2.1) rfl (qp (AB v1001.2.2) rfl ?_))))))
 refine r_nil ?_
 refine ws 1280 1728 ?_
 refine qp (AS v1001.1) rfl ?_
 obtain ⟨v1002, e1002, hF⟩ := bind_get hF
 refine qc (.tup [AI v1002.1, AB v1002.2]) [(0, .box [AS [], AI 0, AI 0])] false (con_readDec e1002) c20_ok (by first | rfl | simp) rfl ?_
 refine qp (.tup [AI v1002.1, AB v1002.2]) rfl (qp (AI v1002.1) rfl (qp (AB v1002.2) rfl (qp (AI v1002.1) rfl (qp (AB v1002.2) rfl ?_))))
 refine r_nil ?_
 refine ws 1728 2176 ?_
 refine qp (AS v1001.2.1) rfl ?_
 obtain ⟨v1003, e1003, hF⟩ := bind_get hF
 refine qc (.tup [AI v1003.1, AB v1003.2]) [(0, .box [AS [], AI 0, AI 0])] false (con_readDec e1003) c20_ok (by first | rfl | simp) rfl ?_
 refine qp (.tup [AI v1003.1, AB v1003.2]) rfl (qp (AI v1003.1) rfl (qp (AB v1003.2) rfl (qp (AI v1003.1) rfl (qp (AB v1003.2) rfl ?_))))
 refine r_nil ?_
 refine ws 2176 2560 ?_
 refine qp (AS v1000.1) rfl (qp (AI v1002.1) rfl (qp (AI v1003.1) rfl ?_))
 refine qf (.agg [AS v1000.1, AI v1002.1, AI v1003.1]) [(0, .box [AS [], AI 0, AI 0])] (by simp) ?_
 refine qf (.ptr 2432 0 0) [(2432, .box [AS [], AI 0, AI 0]), (0, .box [AS [], AI 0, AI 0])] (by simp) ?_
 refine qf0 (.undef) [(2432, .box [AS v1000.1, AI v1002.1, AI v1003.1]), (2432, .box [AS [], AI 0, AI 0]), (0, .box [AS [], AI 0, AI 0])] (by simp) ?_
 refine r_nil ?_
 refine w_seq ?_
 refine ws 2560 3328 ?_
 refine qp (AB v1002.2) rfl (qp (AB (!v1002.2)) rfl (qp (AB (!v1002.2)) rfl ?_))
 refine q_case 43 hF rfl (fun hF => ?_) (fun hF => ?_)
 ·
  refine qn rfl (qn rfl (qp (AB true) rfl (qp (AB true) rfl (qn rfl (qn rfl (qn rfl (qn rfl ?_)))))))
  refine qp (AB true) rfl ?_
  refine r_nil ?_
  refine w_true rfl ?_
  refine ws 3328 3520 ?_
  refine qf (.agg [AS [], AI 0, AI 0]) [(2432, .box [AS v1000.1, AI v1002.1, AI v1003.1]), (2432, .box [AS [], AI 0, AI 0]), (0, .box [AS [], AI 0, AI 0])] (by simp) ?_
  refine qf0 (.undef) [(0, .box [AS [], AI 0, AI 0]), (2432, .box [AS v1000.1, AI v1002.1, AI v1003.1]), (2432, .box [AS [], AI 0, AI 0]), (0, .box [AS [], AI 0, AI 0])] (by simp) ?_
  refine qp (AB false) rfl ?_
  refine r_nil ?_
  refine w_ret ?_
  refine thenQ_r ?_
  cases hF
  exact eR
 ·
  refine qg (AB v1003.2) rfl rfl (qg (AB (!v1003.2)) rfl rfl (qp (AB (!v1003.2)) rfl (qp (AB (!v1003.2)) rfl ?_)))
  refine q_case 47 hF rfl (fun hF => ?_) (fun hF => ?_)
  ·
   refine qn rfl (qn rfl (qn rfl (qn rfl (qp (AB true) rfl ?_))))
   refine r_nil ?_
   refine w_true rfl ?_
   refine ws 3328 3520 ?_
   refine qf (.agg [AS [], AI 0, AI 0]) [(2432, .box [AS v1000.1, AI v1002.1, AI v1003.1]), (2432, .box [AS [], AI 0, AI 0]), (0, .box [AS [], AI 0, AI 0])] (by simp) ?_
   refine qf0 (.undef) [(0, .box [AS [], AI 0, AI 0]), (2432, .box [AS v1000.1, AI v1002.1, AI v1003.1]), (2432, .box [AS [], AI 0, AI 0]), (0, .box [AS [], AI 0, AI 0])] (by simp) ?_
   refine qp (AB false) rfl ?_
   refine r_nil ?_
   refine w_ret ?_
   refine thenQ_r ?_
   cases hF
   exact eR
  ·
   refine qg (.agg [AS v1000.1, AI v1002.1, AI v1003.1]) rfl rfl ?_
   obtain ⟨v1004, e1004, hF⟩ := bind_get hF
   refine qcg (AS v1004) [(2432, .box [AS v1000.1, AI v1002.1, AI v1003.1]), (2432, .box [AS [], AI 0, AI 0]), (0, .box [AS [], AI 0, AI 0])] false rfl (con_impl_TurnText e1004) c10_ok (by first | rfl | simp) rfl ?_
   refine qg (AS v0) rfl rfl (qg (AB (decide (v1004 ≠ v0))) rfl rfl (qp (AB (decide (v1004 ≠ v0))) rfl ?_))
   refine r_nil ?_
   refine cF hF (fun hF => ?_) fun hF => ?_
   ·
    refine ws 3328 3520 ?_
    refine qf (.agg [AS [], AI 0, AI 0]) [(2432, .box [AS v1000.1, AI v1002.1, AI v1003.1]), (2432, .box [AS [], AI 0, AI 0]), (0, .box [AS [], AI 0, AI 0])] (by simp) ?_
    refine qf0 (.undef) [(0, .box [AS [], AI 0, AI 0]), (2432, .box [AS v1000.1, AI v1002.1, AI v1003.1]), (2432, .box [AS [], AI 0, AI 0]), (0, .box [AS [], AI 0, AI 0])] (by simp) ?_
    refine qp (AB false) rfl ?_
    refine r_nil ?_
    refine w_ret ?_
    refine thenQ_r ?_
    cases hF
    exact eR
   ·
    refine w_skip ?_
    refine thenQ_n ?_
    refine ws 3328 3520 ?_
    refine qp (.agg [AS v1000.1, AI v1002.1, AI v1003.1]) rfl ?_
    refine qf0 (.undef) [(0, .box [AS v1000.1, AI v1002.1, AI v1003.1]), (2432, .box [AS v1000.1, AI v1002.1, AI v1003.1]), (2432, .box [AS [], AI 0, AI 0]), (0, .box [AS [], AI 0, AI 0])] (by simp) ?_
    refine qp (AB true) rfl ?_
    refine r_nil ?_
    refine w_ret ?_
    cases hF
    exact eR

theorem c34_ok : okFn Tryz.prog 34 = true := by kernel_rfl




theorem c35_ok : okFn Tryz.prog 35 = true := by kernel_rfl




def c23 : MC := (.seq (.reg [rg 4 (.f (.nilrow 1))]) (.seq (.reg [rg 5 (.f (.nilrow 1))]) (.seq (.seq (.reg [mvt 8 0, rg 9 (.p true (.len (.t 8))), rg 10 (.p true (.mv (.c (.int .i64 0))))]) (.block 0 (.loop (.seq (.reg [rg 11 (.p true (.bin .lss (.t 10) (.t 9)))]) (.seq (.cond (.t 11) .skip (.exit 0)) (.seq (.block 1 (.seq (.reg [rg 12 (.p true (.iad (.t 8) (.t 10) 3)), rg 13 (.p true (.ld (.t 12) 3 true)), rg 7 (.f (.alloc [((.str []), (0, false)), ((.int .i64 0), (0, false)), ((.int .i64 0), (0, false))])), ⟨none, none, (.f (.st (.t 7) (.t 13) 3))⟩]) (.seq (.reg [rg 14 (.p false (.mv (.t 1))), rg 15 (.p false (.fad (.t 7) 1)), rg 16 (.p false (.ld (.t 15) 1 false)), rg 17 (.p false (.ld (.t 7) 3 true)), rg 18 (.call false 17 [(.t 17)]), rg 19 (.p false (.bin .sub (.t 18) (.c (.int .i64 1)))), rg 20 (.call false 14 [(.t 14), (.t 16), (.t 19)])]) (.cond (.t 20) (.reg [mvt 21 5, rg 22 (.p true (.fad (.t 7) 0)), rg 23 (.p true (.ld (.t 22) 1 false)), rg 24 (.f (.bsl 1 [(.t 23)])), rg 25 (.f (.app (.t 21) (.t 24) 1 16 true)), mvt 5 25]) .skip)))) (.reg [rg 26 (.p true (.bin .add (.t 10) (.c (.int .i64 1)))), mvt 10 26]))))))) (.seq (.reg [mvt 27 5, rg 28 (.call true 34 [(.t 27)])]) (.seq (.reg [mvt 29 5, rg 30 (.call true 35 [(.t 29)]), mvt 4 30]) .ret)))))
theorem c23_is : compFn Tryz.prog 23 = some (c23, [(.tmp 4)]) := by kernel_rfl
theorem c23_ok : okFn Tryz.prog 23 = true := by kernel_rfl

noncomputable def F_impl_playersAt_l0 (v0 : List TTurn) (v1 : Int) (k0 : Int × (List (List UInt8)) → Option (List (List UInt8))) : Int × (List (List UInt8)) → Option (List (List UInt8))
 | (v50002, v50003) => (bif (decide (v50002 < (v0.length : Int))) then ((ix v0 v50002).bind fun v1000 => ((F_impl_Turn_end v1000).bind fun v1001 => ((F_impl_within v1 v1000.2.1 (w64 (v1001 - 1))).bind fun v1002 => (bif v1002 then (need (room (v50003.length + [v1000.1].length) 16) (k0 (w64 (v50002 + 1), v50003 ++ [v1000.1])))
 else k0 (w64 (v50002 + 1), v50003)))))
 else ((F_sortS v50003).bind fun v1004 => need (v1004.length = v50003.length) (((F_compactS v1004).bind fun v1005 => some v1005))))
noncomputable def F_impl_playersAt (v0 : List TTurn) (v1 : Int) : Option (List (List UInt8)) :=
 loop (F_impl_playersAt_l0 v0 v1) (0, [])
@[simp] def res_impl_playersAt (r : List (List UInt8)) : RV := .one (.one (.row true 1 (r.map V.str)))
theorem con_impl_playersAt {v0 : List TTurn} {v1 : Int} {r : List (List UInt8)} (hF : F_impl_playersAt v0 v1 = some r) : Con Tryz.prog 23 [.sl 3 (v0.map eTurn), .int .i64 v1] (res_impl_playersAt r) := by
 unfold F_impl_playersAt at hF
 refine con_of c23_is fun N => ?_
 refine ws 0 64 ?_
 refine qf (.sl 0 0 0) [(0, .row true 1 (([] : List Int).map vI))] (by simp) ?_
 refine r_nil ?_
 refine ws 64 128 ?_
 refine qf (.sl 64 0 0) [(64, .row true 1 (([] : List (List UInt8)).map V.str)), (0, .row true 1 (([] : List Int).map vI))] (by simp) ?_
 refine r_nil ?_
 refine w_seq ?_
 refine ws 128 320 ?_
 refine qp (AL 3 (v0.map eTurn)) rfl (qp (AI (v0.length : Int)) (ev_len_n rfl) (qp (AI 0) rfl ?_))
 refine r_nil ?_
 refine w_block ?_
 refine wr (l' := [(1, AI v1), (5, .sl 0 0 0), (8, AL 3 (v0.map eTurn)), (9, AI (v0.length : Int)), (10, AI 0)]) (L := [(0, .row true 1 (([] : List (List UInt8)).map V.str))]) [1, 5, 8, 9, 10] [(64, 0)] 1 ?_
 refine w_loopF (F_impl_playersAt_l0 v0 v1) (fun s : Int × (List (List UInt8)) => mkS [(1, AI v1), (5, .sl 0 0 s.2.length), (8, AL 3 (v0.map eTurn)), (9, AI (v0.length : Int)), (10, AI s.1)] (fo [(0, .row true 1 (s.2.map V.str))]) 1) hF ?_
 rintro k0 ⟨v50002, v50003⟩ hF
 rw [F_impl_playersAt_l0] at hF
 try dsimp only
 refine ws 1 65 ?_
 refine qp (AB (decide (v50002 < (v0.length : Int)))) rfl ?_
 refine r_nil ?_
 refine w_seq ?_
 refine cF hF (fun hF => ?_) fun hF => ?_
 ·
  refine w_skip ?_
  refine thenQ_n ?_
  refine w_seq ?_
  refine w_block ?_
  refine ws 65 321 ?_
  obtain ⟨v1000, e1000, hF⟩ := bind_get hF
  refine qp (.val none (.ptr [.str v1000.1, .int .i64 v1000.2.1, .int .i64 v1000.2.2])) (ev_iad_n rfl rfl e1000 rfl) (qp (.val none (eTurn v1000)) rfl ?_)
  refine qf (.ptr 193 0 0) [(193, .box [AS [], AI 0, AI 0]), (0, .row true 1 (v50003.map V.str))] (by simp) ?_
  refine qf0 (.undef) [(193, .box [AS v1000.1, AI v1000.2.1, AI v1000.2.2]), (193, .box [AS [], AI 0, AI 0]), (0, .row true 1 (v50003.map V.str))] (by simp) ?_
  refine r_nil ?_
  refine ws 321 769 ?_
  refine qp (AI v1) rfl (qp (.ptr 193 0 1) rfl (qp (AI v1000.2.1) rfl (qp (.agg [AS v1000.1, AI v1000.2.1, AI v1000.2.2]) rfl ?_)))
  obtain ⟨v1001, e1001, hF⟩ := bind_get hF
  refine qc (AI v1001) [(193, .box [AS v1000.1, AI v1000.2.1, AI v1000.2.2]), (193, .box [AS [], AI 0, AI 0]), (0, .row true 1 (v50003.map V.str))] false (con_impl_Turn_end e1001) c17_ok (by first | rfl | simp) rfl ?_
  refine qp (AI (w64 (v1001 - 1))) rfl ?_
  obtain ⟨v1002, e1002, hF⟩ := bind_get hF
  refine qc (AB v1002) [(193, .box [AS v1000.1, AI v1000.2.1, AI v1000.2.2]), (193, .box [AS [], AI 0, AI 0]), (0, .row true 1 (v50003.map V.str))] false (con_impl_within e1002) c14_ok (by first | rfl | simp) rfl ?_
  refine r_nil ?_
  refine cF hF (fun hF => ?_) fun hF => ?_
  ·
   refine w_reg 769 1153 rfl rfl ?_
   refine qp (.sl 0 0 v50003.length) rfl (qp (.ptr 193 0 0) rfl (qp (AS v1000.1) rfl ?_))
   refine qf (.sl 961 0 ([v1000.1].length)) [(961, .row true 1 ([v1000.1].map V.str)), (193, .box [AS v1000.1, AI v1000.2.1, AI v1000.2.2]), (193, .box [AS [], AI 0, AI 0]), (0, .row true 1 (v50003.map V.str))] (by simp [List.take_of_length_le]) ?_
   obtain ⟨g1003, hF⟩ := need_some hF
   refine qf (.sl 1025 0 ((v50003 ++ [v1000.1]).length)) [(1025, .row true 1 ((v50003 ++ [v1000.1]).map V.str)), (0, .dead), (961, .dead), (961, .row true 1 ([v1000.1].map V.str)), (193, .box [AS v1000.1, AI v1000.2.1, AI v1000.2.2]), (193, .box [AS [], AI 0, AI 0]), (0, .row true 1 (v50003.map V.str))] (effT_app_l rfl (by simp) rfl rfl (by simp) rfl (by decide) g1003 rfl) ?_
   refine qp (.sl 1025 0 ((v50003 ++ [v1000.1]).length)) rfl ?_
   refine r_nil ?_
   refine blockQ_n ?_
   refine thenQ_n ?_
   refine w_reg 1153 1281 rfl rfl ?_
   refine qp (AI (w64 (v50002 + 1))) rfl (qp (AI (w64 (v50002 + 1))) rfl ?_)
   refine r_nil ?_
   refine thenQ_n ?_
   refine ar (l' := [(1, AI v1), (5, .sl 0 0 (v50003 ++ [v1000.1]).length), (8, AL 3 (v0.map eTurn)), (9, AI (v0.length : Int)), (10, AI (w64 (v50002 + 1)))]) (L := [(0, .row true 1 ((v50003 ++ [v1000.1]).map V.str))]) [1, 5, 8, 9, 10] [(1025, 0)] 1 ⟨_, by rfl, hF⟩
  ·
   refine w_skip ?_
   refine blockQ_n ?_
   refine thenQ_n ?_
   refine w_reg 769 897 rfl rfl ?_
   refine qp (AI (w64 (v50002 + 1))) rfl (qp (AI (w64 (v50002 + 1))) rfl ?_)
   refine r_nil ?_
   refine thenQ_n ?_
   refine ar (l' := [(1, AI v1), (5, .sl 0 0 v50003.length), (8, AL 3 (v0.map eTurn)), (9, AI (v0.length : Int)), (10, AI (w64 (v50002 + 1)))]) (L := [(0, .row true 1 (v50003.map V.str))]) [1, 5, 8, 9, 10] [(0, 0)] 1 ⟨_, by rfl, hF⟩
 ·
  refine w_exit ?_
  refine thenQ_e ?_
  refine thenQ_e ?_
  refine blockQ_e ?_
  refine thenQ_n ?_
  refine ws 65 193 ?_
  refine qp (.sl 0 0 v50003.length) rfl ?_
  obtain ⟨v1004, e1004, hF⟩ := bind_get hF
  obtain ⟨g1004, hF⟩ := need_some hF
  refine qm1 (ls := [0]) [(0, .row true 1 (v1004.map V.str)), (0, .row true 1 (v50003.map V.str))] (con_sortS_34 e1004) c34_ok (by first | rfl | simp [takeM, takeML, takeM1, g1004]) (by decide) (by simp [like2, likeL, like1, g1004]) rfl rfl (by simp [scrO_fo, newO2, newO, scrR, scrA, scrAs]) ?_
  refine r_nil ?_
  refine ws 193 385 ?_
  refine qp (.sl 0 0 v50003.length) rfl ?_
  obtain ⟨v1005, e1005, hF⟩ := bind_get hF
  refine qX (.sl 257 0 v1005.length) [(257, .row true 1 (v1005.map V.str)), (0, .dead), (0, .row true 1 (v1004.map V.str)), (0, .row true 1 (v50003.map V.str))] false rfl rfl (whole_row (by simp [g1004])) (con_compactS_35 e1005) c35_ok (by first | rfl | simp) (by simp [RV.r]) ?_
  refine qp (.sl 257 0 v1005.length) rfl ?_
  refine r_nil ?_
  refine w_ret ?_
  cases hF
  exact endQ_r rfl (.inl ⟨_, _, by first | rfl | (simp [List.take_of_length_le]; first | exact ⟨rfl, rfl⟩ | rfl), by simp, by first | rfl | simp [res_impl_playersAt, List.take_of_length_le, g1004]⟩)

def c11 : MC := (.seq (.reg [rg 4 (.f (.nilrow 1)), rg 5 (.p true (.mv (.c (.int .i64 0))))]) (.seq (.block 0 (.seq (.reg [mvt 7 0, rg 8 (.call true 16 [(.t 7)]), rg 9 (.p true (.not (.t 8))), mvt 6 9]) (.cond (.t 6) (.seq (.reg [rg 4 (.f (.nilrow 1)), rg 5 (.p true (.mv (.c (.int .i64 1))))]) .ret) (.seq (.reg [mvt 11 1, rg 12 (.call true 14 [(.t 11), (.c (.int .i64 0)), (.c (.int .i64 20000))]), rg 13 (.p true (.not (.t 12))), mvt 10 13]) (.cond (.t 10) (.seq (.reg [rg 4 (.f (.nilrow 1)), rg 5 (.p true (.mv (.c (.int .i64 2))))]) .ret) .skip))))) (.seq (.reg [mvt 14 0, mvt 15 1, rg 16 (.call true 23 [(.t 14), (.t 15)]), mvt 4 16, rg 5 (.p true (.mv (.c (.int .i64 0))))]) .ret)))
theorem c11_is : compFn Tryz.prog 11 = some (c11, [(.tmp 4), (.tmp 5)]) := by kernel_rfl
theorem c11_ok : okFn Tryz.prog 11 = true := by kernel_rfl

noncomputable def F_impl_PlayersAt (v0 : List TTurn) (v1 : Int) : Option ((List (List UInt8)) × Int) :=
 ((F_impl_ValidTurns v0).bind fun v1000 => (bif (!v1000) then some ([], 1)
 else ((F_impl_within v1 0 20000).bind fun v1001 => (bif (!v1001) then some ([], 2)
 else ((F_impl_playersAt v0 v1).bind fun v1002 => some (v1002, 0))))))
@[simp] def res_impl_PlayersAt (r : (List (List UInt8)) × Int) : RV := .tup [.one (.row true 1 (r.1.map V.str)), .one (.val (.int .i64 r.2))]
theorem con_impl_PlayersAt {v0 : List TTurn} {v1 : Int} {r : (List (List UInt8)) × Int} (hF : F_impl_PlayersAt v0 v1 = some r) : Con Tryz.prog 11 [.sl 3 (v0.map eTurn), .int .i64 v1] (res_impl_PlayersAt r) := by
 unfold F_impl_PlayersAt at hF
 refine con_of c11_is fun N => ?_
 refine ws 0 128 ?_
 refine qf (.sl 0 0 0) [(0, .row true 1 (([] : List Int).map vI))] (by simp) ?_
 refine qp (AI 0) rfl ?_
 refine r_nil ?_
 refine w_seq ?_
 refine w_block ?_
 refine ws 128 384 ?_
 refine qp (AL 3 (v0.map eTurn)) rfl ?_
 obtain ⟨v1000, e1000, hF⟩ := bind_get hF
 refine qc (AB v1000) [(0, .row true 1 (([] : List Int).map vI))] false (con_impl_ValidTurns e1000) c16_ok (by first | rfl | simp) rfl ?_
 refine qp (AB (!v1000)) rfl (qp (AB (!v1000)) rfl ?_)
 refine r_nil ?_
 refine cF hF (fun hF => ?_) fun hF => ?_
 ·
  refine ws 384 512 ?_
  refine qf (.sl 384 0 0) [(384, .row true 1 (([] : List (List UInt8)).map V.str)), (0, .row true 1 (([] : List Int).map vI))] (by simp) ?_
  refine qp (AI 1) rfl ?_
  refine r_nil ?_
  refine w_ret ?_
  refine blockQ_r ?_
  refine thenQ_r ?_
  cases hF
  exact eR
 ·
  refine ws 384 640 ?_
  refine qp (AI v1) rfl ?_
  obtain ⟨v1001, e1001, hF⟩ := bind_get hF
  refine qc (AB v1001) [(0, .row true 1 (([] : List Int).map vI))] false (con_impl_within e1001) c14_ok (by first | rfl | simp) rfl ?_
  refine qp (AB (!v1001)) rfl (qp (AB (!v1001)) rfl ?_)
  refine r_nil ?_
  refine cF hF (fun hF => ?_) fun hF => ?_
  ·
   refine ws 640 768 ?_
   refine qf (.sl 640 0 0) [(640, .row true 1 (([] : List (List UInt8)).map V.str)), (0, .row true 1 (([] : List Int).map vI))] (by simp) ?_
   refine qp (AI 2) rfl ?_
   refine r_nil ?_
   refine w_ret ?_
   refine blockQ_r ?_
   refine thenQ_r ?_
   cases hF
   exact eR
  ·
   refine w_skip ?_
   refine blockQ_n ?_
   refine thenQ_n ?_
   refine ws 640 960 ?_
   refine qp (AL 3 (v0.map eTurn)) rfl (qp (AI v1) rfl ?_)
   obtain ⟨v1002, e1002, hF⟩ := bind_get hF
   refine qc (.sl 768 0 v1002.length) [(768, .row true 1 (v1002.map V.str)), (0, .row true 1 (([] : List Int).map vI))] false (con_impl_playersAt e1002) c23_ok (by first | rfl | simp) (by simp [res_impl_playersAt]) ?_
   refine qp (.sl 768 0 v1002.length) rfl (qp (AI 0) rfl ?_)
   refine r_nil ?_
   refine w_ret ?_
   cases hF
   exact eR

theorem c24_ok : okFn Tryz.prog 24 = true := by kernel_rfl




def c51 : MC := (.seq (.reg [rg 2 (.p true (.mv (.c (.int .i64 0))))]) (.seq (.reg [rg 3 (.p true (.mv (.c (.int .i64 0))))]) (.seq (.seq (.reg [rg 4 (.p false (.mv (.t 0))), rg 5 (.p false (.nck (.t 4))), rg 6 (.p false (.fad (.t 5) 1)), rg 7 (.p false (.ld (.t 6) 1 false)), rg 8 (.p false (.mv (.t 0))), rg 9 (.p false (.nck (.t 8))), rg 10 (.p false (.fad (.t 9) 0)), rg 11 (.p false (.ld (.t 10) 1 false)), rg 12 (.p false (.len (.t 11))), rg 13 (.p false (.bin .lss (.t 7) (.t 12)))]) (.cond (.t 13) (.reg [rg 14 (.p false (.mv (.t 0))), rg 15 (.p false (.nck (.t 14))), rg 16 (.p false (.fad (.t 15) 0)), rg 17 (.p false (.ld (.t 16) 1 false)), rg 18 (.p false (.mv (.t 0))), rg 19 (.p false (.nck (.t 18))), rg 20 (.p false (.fad (.t 19) 1)), rg 21 (.p false (.ld (.t 20) 1 false)), rg 22 (.p false (.iad (.t 17) (.t 21) 1)), rg 23 (.p false (.ld (.t 22) 1 false)), rg 24 (.p false (.conv .i64 (.t 23))), rg 3 (.p false (.mv (.t 24)))]) .skip)) (.seq (.reg [mvt 25 0, rg 26 (.p true (.nck (.t 25))), rg 27 (.p true (.fad (.t 26) 1)), rg 28 (.p true (.ld (.t 27) 1 false)), rg 29 (.p true (.bin .add (.t 28) (.c (.int .i64 1)))), rg 30 (.p true (.nck (.t 25))), rg 31 (.p true (.fad (.t 30) 1)), ⟨none, none, (.f (.st (.t 31) (.t 29) 1))⟩]) (.seq (.reg [mvt 32 0, mvt 33 0, rg 34 (.p true (.nck (.t 33))), rg 35 (.p true (.fad (.t 34) 2)), rg 36 (.p true (.ld (.t 35) 1 false)), rg 37 (.p true (.bin .mul (.t 36) (.c (.int .u64 6364136223846793005)))), mvt 38 3, rg 39 (.p true (.conv .u64 (.t 38))), rg 40 (.p true (.bin .add (.t 37) (.t 39))), rg 41 (.p true (.bin .add (.t 40) (.c (.int .u64 1442695040888963407)))), rg 42 (.p true (.nck (.t 32))), rg 43 (.p true (.fad (.t 42) 2)), ⟨none, none, (.f (.st (.t 43) (.t 41) 1))⟩]) (.seq (.seq (.reg [rg 44 (.p false (.mv (.t 0))), rg 45 (.p false (.nck (.t 44))), rg 46 (.p false (.fad (.t 45) 1)), rg 47 (.p false (.ld (.t 46) 1 false)), rg 48 (.p false (.mv (.t 0))), rg 49 (.p false (.nck (.t 48))), rg 50 (.p false (.fad (.t 49) 0)), rg 51 (.p false (.ld (.t 50) 1 false)), rg 52 (.p false (.len (.t 51))), rg 53 (.p false (.bin .leq (.t 47) (.t 52)))]) (.cond (.t 53) (.seq (.reg [mvt 54 3, mvt 2 54]) .ret) .skip)) (.seq (.reg [mvt 55 0, rg 56 (.p true (.nck (.t 55))), rg 57 (.p true (.fad (.t 56) 2)), rg 58 (.p true (.ld (.t 57) 1 false)), rg 59 (.p true (.bin .shr (.t 58) (.c (.int .u64 40)))), rg 60 (.p true (.bin .and (.t 59) (.c (.int .u64 255)))), rg 61 (.p true (.conv .i64 (.t 60))), mvt 2 61]) .ret)))))))
theorem c51_is : compFnM Tryz.prog 51 = some (c51, [(.tmp 2)]) := by kernel_rfl
theorem c51_ok : okFn Tryz.prog 51 = true := by kernel_rfl

noncomputable def F_spec_l00Src_next_j0 (v0 : TL00Src) (v50000 : Int) : Option (TL00Src × Int) :=
 (bif (decide (w64 (v0.2.1 + 1) ≤ (v0.1.length : Int))) then some ((v0.1, w64 (v0.2.1 + 1), IntKind.wrap .u64 ((IntKind.wrap .u64 ((IntKind.wrap .u64 (v0.2.2 * 6364136223846793005)) + (IntKind.wrap .u64 (v50000)))) + 1442695040888963407)), v50000)
 else (need (0 ≤ (40 : Int)) (some ((v0.1, w64 (v0.2.1 + 1), IntKind.wrap .u64 ((IntKind.wrap .u64 ((IntKind.wrap .u64 (v0.2.2 * 6364136223846793005)) + (IntKind.wrap .u64 (v50000)))) + 1442695040888963407)), w64 (bitAnd .u64 (Int.fdiv (IntKind.wrap .u64 ((IntKind.wrap .u64 ((IntKind.wrap .u64 (v0.2.2 * 6364136223846793005)) + (IntKind.wrap .u64 (v50000)))) + 1442695040888963407)) (2 ^ (min ((40 : Int)).toNat (IntKind.bits .u64)))) 255)))))
noncomputable def F_spec_l00Src_next (v0 : TL00Src) : Option (TL00Src × Int) :=
 (bif (decide (v0.2.1 < (v0.1.length : Int))) then ((ix v0.1 v0.2.1).bind fun v1000 => F_spec_l00Src_next_j0 v0 (w64 (v1000)))
 else F_spec_l00Src_next_j0 v0 0)
@[simp] def res_spec_l00Src_next (r : TL00Src × Int) : RV := .one (.one (.val (.int .i64 r.2)))
theorem con_spec_l00Src_next {v0 : TL00Src} {r : TL00Src × Int} (hF : F_spec_l00Src_next v0 = some r) : ConP Tryz.prog 51 [.sl 1 (v0.1.map (V.int .u8)), .int .i64 v0.2.1, .int .u64 v0.2.2] [.sl 1 (r.1.1.map (V.int .u8)), .int .i64 r.1.2.1, .int .u64 r.1.2.2] [] (res_spec_l00Src_next r) := by
 unfold F_spec_l00Src_next at hF
 refine conP_of (L := [(0, .box [.val none (.sl 1 (v0.1.map (V.int .u8))), AI v0.2.1, .val none (.int .u64 v0.2.2)])]) c51_is rfl fun N => ?_
 refine ws 64 128 ?_
 refine qp (AI 0) rfl ?_
 refine r_nil ?_
 refine ws 128 192 ?_
 refine qp (AI 0) rfl ?_
 refine r_nil ?_
 refine w_meet (fun s' => ∃ (v50000 : Int), s' = mkS [(0, .ptr 0 0 0), (3, AI v50000)] (fo [(0, .box [.val none (.sl 1 (v0.1.map (V.int .u8))), AI v0.2.1, .val none (.int .u64 v0.2.2)])]) 1 ∧ F_spec_l00Src_next_j0 v0 v50000 = some r) ?_ ?_
 ·
  refine ws 192 832 ?_
  refine qp (.ptr 0 0 0) rfl (qp (.ptr 0 0 0) rfl (qp (.ptr 0 0 1) rfl (qp (AI v0.2.1) rfl (qp (.ptr 0 0 0) rfl (qp (.ptr 0 0 0) rfl (qp (.ptr 0 0 0) rfl (qp (AL 1 (v0.1.map (V.int .u8))) rfl ?_)))))))
  refine qp (AI (v0.1.length : Int)) (ev_len_n rfl) (qp (AB (decide (v0.2.1 < (v0.1.length : Int)))) rfl ?_)
  refine r_nil ?_
  refine cF hF (fun hF => ?_) fun hF => ?_
  ·
   refine w_reg 832 1600 rfl rfl ?_
   refine qp (.ptr 0 0 0) rfl (qp (.ptr 0 0 0) rfl (qp (.ptr 0 0 0) rfl (qp (AL 1 (v0.1.map (V.int .u8))) rfl (qp (.ptr 0 0 0) rfl (qp (.ptr 0 0 0) rfl (qp (.ptr 0 0 1) rfl (qp (AI v0.2.1) rfl ?_)))))))
   obtain ⟨v1000, e1000, hF⟩ := bind_get hF
   refine qp (.val none (.ptr [.int .u8 v1000])) (ev_iad_n rfl rfl e1000 rfl) (qp (.val none (.int .u8 v1000)) rfl (qp (AI (w64 (v1000))) rfl (qp (AI (w64 (v1000))) rfl ?_)))
   refine r_nil ?_
   refine thenQ_n ?_
   refine ar (l' := [(0, .ptr 0 0 0), (3, AI (w64 (v1000)))]) (L := [(0, .box [.val none (.sl 1 (v0.1.map (V.int .u8))), AI v0.2.1, .val none (.int .u64 v0.2.2)])]) [0, 3] [(0, 0)] 1 ⟨_, rfl, hF⟩
  ·
   refine w_skip ?_
   refine thenQ_n ?_
   refine ar (l' := [(0, .ptr 0 0 0), (3, AI 0)]) (L := [(0, .box [.val none (.sl 1 (v0.1.map (V.int .u8))), AI v0.2.1, .val none (.int .u64 v0.2.2)])]) [0, 3] [(0, 0)] 1 ⟨_, rfl, hF⟩
 ·
  rintro s' ⟨v50000, rfl, hF⟩
  unfold F_spec_l00Src_next_j0 at hF
  refine ws 1 513 ?_
  refine qp (.ptr 0 0 0) rfl (qp (.ptr 0 0 0) rfl (qp (.ptr 0 0 1) rfl (qp (AI v0.2.1) rfl (qp (AI (w64 (v0.2.1 + 1))) rfl (qp (.ptr 0 0 0) rfl (qp (.ptr 0 0 1) rfl ?_))))))
  refine qf0 (.undef) [(0, .box [.val none (.sl 1 (v0.1.map (V.int .u8))), AI (w64 (v0.2.1 + 1)), .val none (.int .u64 v0.2.2)]), (0, .box [.val none (.sl 1 (v0.1.map (V.int .u8))), AI v0.2.1, .val none (.int .u64 v0.2.2)])] (by simp) ?_
  refine r_nil ?_
  refine ws 513 1345 ?_
  refine qp (.ptr 0 0 0) rfl (qp (.ptr 0 0 0) rfl (qp (.ptr 0 0 0) rfl (qp (.ptr 0 0 2) rfl (qp (.val none (.int .u64 v0.2.2)) rfl (qp (.val none (.int .u64 (IntKind.wrap .u64 (v0.2.2 * 6364136223846793005)))) rfl (qp (AI v50000) rfl (qp (.val none (.int .u64 (IntKind.wrap .u64 (v50000)))) rfl ?_)))))))
  refine qp (.val none (.int .u64 (IntKind.wrap .u64 ((IntKind.wrap .u64 (v0.2.2 * 6364136223846793005)) + (IntKind.wrap .u64 (v50000)))))) rfl (qp (.val none (.int .u64 (IntKind.wrap .u64 ((IntKind.wrap .u64 ((IntKind.wrap .u64 (v0.2.2 * 6364136223846793005)) + (IntKind.wrap .u64 (v50000)))) + 1442695040888963407)))) rfl (qp (.ptr 0 0 0) rfl (qp (.ptr 0 0 2) rfl ?_)))
  refine qf0 (.undef) [(0, .box [.val none (.sl 1 (v0.1.map (V.int .u8))), AI (w64 (v0.2.1 + 1)), .val none (.int .u64 (IntKind.wrap .u64 ((IntKind.wrap .u64 ((IntKind.wrap .u64 (v0.2.2 * 6364136223846793005)) + (IntKind.wrap .u64 (v50000)))) + 1442695040888963407)))]), (0, .box [.val none (.sl 1 (v0.1.map (V.int .u8))), AI (w64 (v0.2.1 + 1)), .val none (.int .u64 v0.2.2)]), (0, .box [.val none (.sl 1 (v0.1.map (V.int .u8))), AI v0.2.1, .val none (.int .u64 v0.2.2)])] (by simp) ?_
  refine r_nil ?_
  refine w_seq ?_
  refine ws 1345 1985 ?_
  refine qp (.ptr 0 0 0) rfl (qp (.ptr 0 0 0) rfl (qp (.ptr 0 0 1) rfl (qp (AI (w64 (v0.2.1 + 1))) rfl (qp (.ptr 0 0 0) rfl (qp (.ptr 0 0 0) rfl (qp (.ptr 0 0 0) rfl (qp (AL 1 (v0.1.map (V.int .u8))) rfl ?_)))))))
  refine qp (AI (v0.1.length : Int)) (ev_len_n rfl) (qp (AB (decide (w64 (v0.2.1 + 1) ≤ (v0.1.length : Int)))) rfl ?_)
  refine r_nil ?_
  refine cF hF (fun hF => ?_) fun hF => ?_
  ·
   refine ws 1985 2113 ?_
   refine qp (AI v50000) rfl (qp (AI v50000) rfl ?_)
   refine r_nil ?_
   refine w_ret ?_
   refine thenQ_r ?_
   cases hF
   exact endP_r rfl (by first | rfl | (simp [List.take_of_length_le]; first | exact ⟨rfl, rfl⟩ | rfl)) (by simp) (by first | rfl | simp) (by first | rfl | simp [res_spec_l00Src_next, List.take_of_length_le]) rfl (by first | rfl | simp)
  ·
   refine w_skip ?_
   refine thenQ_n ?_
   refine ws 1985 2497 ?_
   refine qp (.ptr 0 0 0) rfl (qp (.ptr 0 0 0) rfl (qp (.ptr 0 0 2) rfl (qp (.val none (.int .u64 (IntKind.wrap .u64 ((IntKind.wrap .u64 ((IntKind.wrap .u64 (v0.2.2 * 6364136223846793005)) + (IntKind.wrap .u64 (v50000)))) + 1442695040888963407)))) rfl ?_)))
   obtain ⟨g1001, hF⟩ := need_some hF
   refine qp (.val none (.int .u64 (Int.fdiv (IntKind.wrap .u64 ((IntKind.wrap .u64 ((IntKind.wrap .u64 (v0.2.2 * 6364136223846793005)) + (IntKind.wrap .u64 (v50000)))) + 1442695040888963407)) (2 ^ (min ((40 : Int)).toNat (IntKind.bits .u64)))))) (ev_shr rfl rfl g1001) (qp (.val none (.int .u64 (bitAnd .u64 (Int.fdiv (IntKind.wrap .u64 ((IntKind.wrap .u64 ((IntKind.wrap .u64 (v0.2.2 * 6364136223846793005)) + (IntKind.wrap .u64 (v50000)))) + 1442695040888963407)) (2 ^ (min ((40 : Int)).toNat (IntKind.bits .u64)))) 255))) rfl (qp (AI (w64 (bitAnd .u64 (Int.fdiv (IntKind.wrap .u64 ((IntKind.wrap .u64 ((IntKind.wrap .u64 (v0.2.2 * 6364136223846793005)) + (IntKind.wrap .u64 (v50000)))) + 1442695040888963407)) (2 ^ (min ((40 : Int)).toNat (IntKind.bits .u64)))) 255))) rfl (qp (AI (w64 (bitAnd .u64 (Int.fdiv (IntKind.wrap .u64 ((IntKind.wrap .u64 ((IntKind.wrap .u64 (v0.2.2 * 6364136223846793005)) + (IntKind.wrap .u64 (v50000)))) + 1442695040888963407)) (2 ^ (min ((40 : Int)).toNat (IntKind.bits .u64)))) 255))) rfl ?_)))
   refine r_nil ?_
   refine w_ret ?_
   cases hF
   exact endP_r rfl (by first | rfl | (simp [List.take_of_length_le]; first | exact ⟨rfl, rfl⟩ | rfl)) (by simp) (by first | rfl | simp) (by first | rfl | simp [res_spec_l00Src_next, List.take_of_length_le]) rfl (by first | rfl | simp)

def c36 : MC := (.seq (.reg [rg 4 (.p true (.mv (.c (.int .i64 0))))]) (.seq (.seq (.reg [mvt 6 1, rg 7 (.p true (.bin .leq (.t 6) (.c (.int .i64 1))))]) (.cond (.t 7) (.seq (.reg [rg 4 (.p true (.mv (.c (.int .i64 0))))]) .ret) .skip)) (.seq (.reg [mvt 8 0, rg 9 (.call true 51 [(.t 8)]), mvt 5 9]) (.seq (.seq (.reg [mvt 10 1, rg 11 (.p true (.bin .gtr (.t 10) (.c (.int .i64 200))))]) (.cond (.t 11) (.reg [mvt 12 5, rg 13 (.p true (.bin .mul (.t 12) (.c (.int .i64 256)))), mvt 14 0, rg 15 (.call true 51 [(.t 14)]), rg 16 (.p true (.bin .add (.t 13) (.t 15))), mvt 5 16]) .skip)) (.seq (.reg [mvt 17 5, mvt 18 1, rg 19 (.p true (.bin .rem (.t 17) (.t 18))), mvt 4 19]) .ret)))))
theorem c36_is : compFnM Tryz.prog 36 = some (c36, [(.tmp 4)]) := by kernel_rfl
theorem c36_ok : okFn Tryz.prog 36 = true := by kernel_rfl

noncomputable def F_spec_l00Src_pick_j0 (v1 : Int) (v50004 : Int) (v50005 : List Int) (v50006 : Int) (v50007 : Int) : Option (TL00Src × Int) :=
 (need (v1 ≠ 0) (some ((v50005, v50006, v50007), Int.tmod v50004 v1)))
noncomputable def F_spec_l00Src_pick (v0 : TL00Src) (v1 : Int) : Option (TL00Src × Int) :=
 (bif (decide (v1 ≤ (1 : Int))) then some (v0, 0)
 else ((F_spec_l00Src_next v0).bind fun v1000 => (bif (decide ((200 : Int) < v1)) then ((F_spec_l00Src_next v1000.1).bind fun v1002 => F_spec_l00Src_pick_j0 v1 (w64 ((w64 (v1000.2 * 256)) + v1002.2)) v1002.1.1 v1002.1.2.1 v1002.1.2.2)
 else F_spec_l00Src_pick_j0 v1 v1000.2 v1000.1.1 v1000.1.2.1 v1000.1.2.2)))
@[simp] def res_spec_l00Src_pick (r : TL00Src × Int) : RV := .one (.one (.val (.int .i64 r.2)))
theorem con_spec_l00Src_pick {v0 : TL00Src} {v1 : Int} {r : TL00Src × Int} (hF : F_spec_l00Src_pick v0 v1 = some r) : ConP Tryz.prog 36 [.sl 1 (v0.1.map (V.int .u8)), .int .i64 v0.2.1, .int .u64 v0.2.2] [.sl 1 (r.1.1.map (V.int .u8)), .int .i64 r.1.2.1, .int .u64 r.1.2.2] [.int .i64 v1] (res_spec_l00Src_pick r) := by
 unfold F_spec_l00Src_pick at hF
 refine conP_of (L := [(0, .box [.val none (.sl 1 (v0.1.map (V.int .u8))), AI v0.2.1, .val none (.int .u64 v0.2.2)])]) c36_is rfl fun N => ?_
 refine ws 64 128 ?_
 refine qp (AI 0) rfl ?_
 refine r_nil ?_
 refine w_seq ?_
 refine ws 128 256 ?_
 refine qp (AI v1) rfl (qp (AB (decide (v1 ≤ (1 : Int)))) rfl ?_)
 refine r_nil ?_
 refine cF hF (fun hF => ?_) fun hF => ?_
 ·
  refine ws 256 320 ?_
  refine qp (AI 0) rfl ?_
  refine r_nil ?_
  refine w_ret ?_
  refine thenQ_r ?_
  cases hF
  exact endP_r rfl (by first | rfl | (simp [List.take_of_length_le]; first | exact ⟨rfl, rfl⟩ | rfl)) (by simp) (by first | rfl | simp) (by first | rfl | simp [res_spec_l00Src_pick, List.take_of_length_le]) rfl (by first | rfl | simp)
 ·
  refine w_skip ?_
  refine thenQ_n ?_
  refine ws 256 448 ?_
  refine qp (.ptr 0 0 0) rfl ?_
  obtain ⟨v1000, e1000, hF⟩ := bind_get hF
  refine qP [] (AI v1000.2) [(0, .box [.val none (.sl 1 (v1000.1.1.map (V.int .u8))), AI v1000.1.2.1, .val none (.int .u64 v1000.1.2.2)]), (0, .box [.val none (.sl 1 (v0.1.map (V.int .u8))), AI v0.2.1, .val none (.int .u64 v0.2.2)])] rfl rfl rfl (by decide) (con_spec_l00Src_next e1000) c51_ok (by first | rfl | simp) killO_nil rfl rfl ?_
  refine qp (AI v1000.2) rfl ?_
  refine r_nil ?_
  refine w_meet (fun s' => ∃ (v50004 : Int) (v50005 : List Int) (v50006 : Int) (v50007 : Int), s' = mkS [(0, .ptr 0 0 0), (1, AI v1), (5, AI v50004)] (fo [(0, .box [.val none (.sl 1 (v50005.map (V.int .u8))), AI v50006, .val none (.int .u64 v50007)])]) 1 ∧ F_spec_l00Src_pick_j0 v1 v50004 v50005 v50006 v50007 = some r) ?_ ?_
  ·
   refine ws 448 576 ?_
   refine qp (AI v1) rfl (qp (AB (decide ((200 : Int) < v1))) rfl ?_)
   refine r_nil ?_
   refine cF hF (fun hF => ?_) fun hF => ?_
   ·
    refine w_reg 576 960 rfl rfl ?_
    refine qp (AI v1000.2) rfl (qp (AI (w64 (v1000.2 * 256))) rfl (qp (.ptr 0 0 0) rfl ?_))
    obtain ⟨v1002, e1002, hF⟩ := bind_get hF
    refine qP [] (AI v1002.2) [(0, .box [.val none (.sl 1 (v1002.1.1.map (V.int .u8))), AI v1002.1.2.1, .val none (.int .u64 v1002.1.2.2)]), (0, .box [.val none (.sl 1 (v1000.1.1.map (V.int .u8))), AI v1000.1.2.1, .val none (.int .u64 v1000.1.2.2)]), (0, .box [.val none (.sl 1 (v0.1.map (V.int .u8))), AI v0.2.1, .val none (.int .u64 v0.2.2)])] rfl rfl rfl (by decide) (con_spec_l00Src_next e1002) c51_ok (by first | rfl | simp) killO_nil rfl rfl ?_
    refine qp (AI (w64 ((w64 (v1000.2 * 256)) + v1002.2))) rfl (qp (AI (w64 ((w64 (v1000.2 * 256)) + v1002.2))) rfl ?_)
    refine r_nil ?_
    refine thenQ_n ?_
    refine ar (l' := [(0, .ptr 0 0 0), (1, AI v1), (5, AI (w64 ((w64 (v1000.2 * 256)) + v1002.2)))]) (L := [(0, .box [.val none (.sl 1 (v1002.1.1.map (V.int .u8))), AI v1002.1.2.1, .val none (.int .u64 v1002.1.2.2)])]) [0, 1, 5] [(0, 0)] 1 ⟨_, _, _, _, rfl, hF⟩
   ·
    refine w_skip ?_
    refine thenQ_n ?_
    refine ar (l' := [(0, .ptr 0 0 0), (1, AI v1), (5, AI v1000.2)]) (L := [(0, .box [.val none (.sl 1 (v1000.1.1.map (V.int .u8))), AI v1000.1.2.1, .val none (.int .u64 v1000.1.2.2)])]) [0, 1, 5] [(0, 0)] 1 ⟨_, _, _, _, rfl, hF⟩
  ·
   rintro s' ⟨v50004, v50005, v50006, v50007, rfl, hF⟩
   unfold F_spec_l00Src_pick_j0 at hF
   refine ws 1 257 ?_
   refine qp (AI v50004) rfl (qp (AI v1) rfl ?_)
   obtain ⟨g1003, hF⟩ := need_some hF
   refine qp (AI (Int.tmod v50004 v1)) (ev_rem rfl rfl g1003) (qp (AI (Int.tmod v50004 v1)) rfl ?_)
   refine r_nil ?_
   refine w_ret ?_
   cases hF
   exact endP_r rfl (by first | rfl | (simp [List.take_of_length_le]; first | exact ⟨rfl, rfl⟩ | rfl)) (by simp) (by first | rfl | simp) (by first | rfl | simp [res_spec_l00Src_pick, List.take_of_length_le]) rfl (by first | rfl | simp)

def c52 : MC := (.seq (.reg [rg 4 (.p true (.mv (.c (.str []))))]) (.seq (.reg [mvt 5 1, mvt 6 0, mvt 7 1, rg 8 (.p true (.len (.t 7))), rg 9 (.call true 36 [(.t 6), (.t 8)]), rg 10 (.p true (.iad (.t 5) (.t 9) 1)), rg 11 (.p true (.ld (.t 10) 1 false)), mvt 4 11]) .ret))
theorem c52_is : compFnM Tryz.prog 52 = some (c52, [(.tmp 4)]) := by kernel_rfl
theorem c52_ok : okFn Tryz.prog 52 = true := by kernel_rfl

noncomputable def F_spec_l00Src_text (v0 : TL00Src) (v1 : List (List UInt8)) : Option (TL00Src × (List UInt8)) :=
 ((F_spec_l00Src_pick v0 (v1.length : Int)).bind fun v1000 => ((ix v1 v1000.2).bind fun v1001 => some (v1000.1, v1001)))
@[simp] def res_spec_l00Src_text (r : TL00Src × (List UInt8)) : RV := .one (.one (.val (.str r.2)))
theorem con_spec_l00Src_text {v0 : TL00Src} {v1 : List (List UInt8)} {r : TL00Src × (List UInt8)} (hF : F_spec_l00Src_text v0 v1 = some r) : ConP Tryz.prog 52 [.sl 1 (v0.1.map (V.int .u8)), .int .i64 v0.2.1, .int .u64 v0.2.2] [.sl 1 (r.1.1.map (V.int .u8)), .int .i64 r.1.2.1, .int .u64 r.1.2.2] [.sl 1 (v1.map V.str)] (res_spec_l00Src_text r) := by
 unfold F_spec_l00Src_text at hF
 refine conP_of (L := [(0, .box [.val none (.sl 1 (v0.1.map (V.int .u8))), AI v0.2.1, .val none (.int .u64 v0.2.2)])]) c52_is rfl fun N => ?_
 refine ws 64 128 ?_
 refine qp (AS []) rfl ?_
 refine r_nil ?_
 refine ws 128 640 ?_
 refine qp (AL 1 (v1.map V.str)) rfl (qp (.ptr 0 0 0) rfl (qp (AL 1 (v1.map V.str)) rfl (qp (AI (v1.length : Int)) (ev_len_n rfl) ?_)))
 obtain ⟨v1000, e1000, hF⟩ := bind_get hF
 refine qP [] (AI v1000.2) [(0, .box [.val none (.sl 1 (v1000.1.1.map (V.int .u8))), AI v1000.1.2.1, .val none (.int .u64 v1000.1.2.2)]), (0, .box [.val none (.sl 1 (v0.1.map (V.int .u8))), AI v0.2.1, .val none (.int .u64 v0.2.2)])] rfl rfl rfl (by decide) (con_spec_l00Src_pick e1000) c36_ok (by first | rfl | simp) killO_nil rfl rfl ?_
 obtain ⟨v1001, e1001, hF⟩ := bind_get hF
 refine qp (.val none (.ptr [.str v1001])) (ev_iad_n rfl rfl e1001 rfl) (qp (AS v1001) rfl (qp (AS v1001) rfl ?_))
 refine r_nil ?_
 refine w_ret ?_
 cases hF
 exact endP_r rfl (by first | rfl | (simp [List.take_of_length_le]; first | exact ⟨rfl, rfl⟩ | rfl)) (by simp) (by first | rfl | simp) (by first | rfl | simp [res_spec_l00Src_text, List.take_of_length_le]) rfl (by first | rfl | simp)

def c37 : MC := (.seq (.reg [rg 2 (.p true (.mv (.c (.str []))))]) (.seq (.reg [mvt 3 0, rg 4 (.f (.bsl 1 [(.c (.str [100, 114, 111, 110, 101])), (.c (.str [100, 114, 117, 109])), (.c (.str [102, 108, 117, 116, 101]))])), rg 5 (.call true 52 [(.t 3), (.t 4)]), mvt 2 5]) .ret))
theorem c37_is : compFnM Tryz.prog 37 = some (c37, [(.tmp 2)]) := by kernel_rfl
theorem c37_ok : okFn Tryz.prog 37 = true := by kernel_rfl

noncomputable def F_spec_l23Player (v0 : TL00Src) : Option (TL00Src × (List UInt8)) :=
 ((F_spec_l00Src_text v0 ([[100, 114, 111, 110, 101], [100, 114, 117, 109], [102, 108, 117, 116, 101]] : List (List UInt8))).bind fun v1000 => some (v1000.1, v1000.2))
@[simp] def res_spec_l23Player (r : TL00Src × (List UInt8)) : RV := .one (.one (.val (.str r.2)))
theorem con_spec_l23Player {v0 : TL00Src} {r : TL00Src × (List UInt8)} (hF : F_spec_l23Player v0 = some r) : ConP Tryz.prog 37 [.sl 1 (v0.1.map (V.int .u8)), .int .i64 v0.2.1, .int .u64 v0.2.2] [.sl 1 (r.1.1.map (V.int .u8)), .int .i64 r.1.2.1, .int .u64 r.1.2.2] [] (res_spec_l23Player r) := by
 unfold F_spec_l23Player at hF
 refine conP_of (L := [(0, .box [.val none (.sl 1 (v0.1.map (V.int .u8))), AI v0.2.1, .val none (.int .u64 v0.2.2)])]) c37_is rfl fun N => ?_
 refine ws 64 128 ?_
 refine qp (AS []) rfl ?_
 refine r_nil ?_
 refine ws 128 384 ?_
 refine qp (.ptr 0 0 0) rfl ?_
 refine qf (.sl 192 0 (([[100, 114, 111, 110, 101], [100, 114, 117, 109], [102, 108, 117, 116, 101]] : List (List UInt8)).length)) [(192, .row true 1 (([[100, 114, 111, 110, 101], [100, 114, 117, 109], [102, 108, 117, 116, 101]] : List (List UInt8)).map V.str)), (0, .box [.val none (.sl 1 (v0.1.map (V.int .u8))), AI v0.2.1, .val none (.int .u64 v0.2.2)])] (by simp [List.take_of_length_le]) ?_
 obtain ⟨v1000, e1000, hF⟩ := bind_get hF
 refine qP [192] (AS v1000.2) [(0, .box [.val none (.sl 1 (v1000.1.1.map (V.int .u8))), AI v1000.1.2.1, .val none (.int .u64 v1000.1.2.2)]), (192, .dead), (192, .row true 1 (([[100, 114, 111, 110, 101], [100, 114, 117, 109], [102, 108, 117, 116, 101]] : List (List UInt8)).map V.str)), (0, .box [.val none (.sl 1 (v0.1.map (V.int .u8))), AI v0.2.1, .val none (.int .u64 v0.2.2)])] rfl rfl rfl (by decide) (con_spec_l00Src_text e1000) c52_ok (by first | rfl | simp [onlyS, List.take_of_length_le]) (killO_one rfl) rfl rfl ?_
 refine qp (AS v1000.2) rfl ?_
 refine r_nil ?_
 refine w_ret ?_
 cases hF
 exact endP_r rfl (by first | rfl | (simp [List.take_of_length_le]; first | exact ⟨rfl, rfl⟩ | rfl)) (by simp) (by first | rfl | simp) (by first | rfl | simp [res_spec_l23Player, List.take_of_length_le]) rfl (by first | rfl | simp)

def c38 : MC := (.seq (.reg [rg 3 (.f (.box (.t 1))), rg 4 (.f (.nilrow 3))]) (.seq (.reg [mvt 7 0, rg 8 (.p true (.len (.t 7))), mvt 5 8]) (.seq (.block 0 (.loop (.seq (.seq (.reg [mvt 9 5, rg 10 (.p true (.bin .gtr (.t 9) (.c (.int .i64 0)))), mvt 11 10, ⟨(some 12), (some (11, true)), (.p true (.mv (.t 0)))⟩, ⟨(some 13), (some (11, true)), (.p true (.mv (.t 5)))⟩, ⟨(some 14), (some (11, true)), (.p true (.bin .sub (.t 13) (.c (.int .i64 1))))⟩, ⟨(some 15), (some (11, true)), (.p true (.iad (.t 12) (.t 14) 3))⟩, ⟨(some 16), (some (11, true)), (.call true 29 [(.t 3), (.t 15)])⟩, rg 17 (.p true (.pick (.t 11) (.t 16) (.c (.bool false))))]) (.cond (.t 17) .skip (.exit 0))) (.block 1 (.reg [mvt 18 5, rg 19 (.p true (.bin .sub (.t 18) (.c (.int .i64 1)))), mvt 5 19]))))) (.seq (.reg [rg 20 (.f (.bsl 3 [])), mvt 21 0, mvt 22 5, rg 23 (.p true (.slc (.t 21) none (some (.t 22)) 3)), rg 24 (.f (.app (.t 20) (.t 23) 3 32 false)), mvt 6 24]) (.seq (.reg [mvt 25 6, rg 26 (.p true (.ld (.t 3) 3 true)), rg 27 (.f (.bsl 3 [(.t 26)])), rg 28 (.f (.app (.t 25) (.t 27) 3 32 true)), mvt 6 28]) (.seq (.reg [mvt 29 6, mvt 30 0, mvt 31 5, rg 32 (.p true (.slc (.t 30) (some (.t 31)) none 3)), rg 33 (.f (.app (.t 29) (.t 32) 3 32 false)), mvt 4 33]) .ret))))))
theorem c38_is : compFn Tryz.prog 38 = some (c38, [(.tmp 4)]) := by kernel_rfl
theorem c38_ok : okFn Tryz.prog 38 = true := by kernel_rfl

noncomputable def F_spec_l23Put_j0 (v0 : List TTurn) (v1 : TTurn) (v50002 : Int) : Option (List TTurn) :=
 (need (0 ≤ (0 : Int) ∧ (0 : Int) ≤ v50002 ∧ v50002 ≤ (v0.length : Int)) ((need (room ((sub v0 0 v50002).length) 32) ((need (room ((sub v0 0 v50002).length + [v1].length) 32) ((need (0 ≤ v50002 ∧ v50002 ≤ (v0.length : Int) ∧ (v0.length : Int) ≤ (v0.length : Int)) ((need (room (((sub v0 0 v50002) ++ [v1]).length + (sub v0 v50002 (v0.length : Int)).length) 32) (some (((sub v0 0 v50002) ++ [v1]) ++ (sub v0 v50002 (v0.length : Int)))))))))))))
noncomputable def F_spec_l23Put_l1 (v0 : List TTurn) (v1 : TTurn) (k0 : Int → Option (List TTurn)) : Int → Option (List TTurn)
 | v50001 => (bif (decide ((0 : Int) < v50001)) then ((ix v0 (w64 (v50001 - 1))).bind fun v1000 => ((F_spec_l23Before v1 v1000).bind fun v1001 => (bif v1001 then k0 (w64 (v50001 - 1))
 else F_spec_l23Put_j0 v0 v1 v50001)))
 else F_spec_l23Put_j0 v0 v1 v50001)
noncomputable def F_spec_l23Put (v0 : List TTurn) (v1 : TTurn) : Option (List TTurn) :=
 loop (F_spec_l23Put_l1 v0 v1) (v0.length : Int)
@[simp] def res_spec_l23Put (r : List TTurn) : RV := .one (.one (.row true 3 (r.map eTurn)))
theorem con_spec_l23Put {v0 : List TTurn} {v1 : TTurn} {r : List TTurn} (hF : F_spec_l23Put v0 v1 = some r) : Con Tryz.prog 38 [.sl 3 (v0.map eTurn), eTurn v1] (res_spec_l23Put r) := by
 unfold F_spec_l23Put at hF
 refine con_of c38_is fun N => ?_
 refine ws 0 128 ?_
 refine qf (.ptr 0 0 0) [(0, .box [AS v1.1, AI v1.2.1, AI v1.2.2])] (by simp) ?_
 refine qf (.sl 64 0 0) [(64, .row true 3 (([] : List Int).map vI)), (0, .box [AS v1.1, AI v1.2.1, AI v1.2.2])] (by simp) ?_
 refine r_nil ?_
 refine ws 128 320 ?_
 refine qp (AL 3 (v0.map eTurn)) rfl (qp (AI (v0.length : Int)) (ev_len_n rfl) (qp (AI (v0.length : Int)) rfl ?_))
 refine r_nil ?_
 refine w_meet (fun s' => ∃ (v50002 : Int), s' = mkS [(0, AL 3 (v0.map eTurn)), (3, .ptr 0 0 0), (5, AI v50002)] (fo [(0, .box [AS v1.1, AI v1.2.1, AI v1.2.2])]) 1 ∧ F_spec_l23Put_j0 v0 v1 v50002 = some r) ?_ ?_
 ·
  refine w_block ?_
  refine wr (l' := [(0, AL 3 (v0.map eTurn)), (3, .ptr 0 0 0), (5, AI (v0.length : Int))]) (L := [(0, .box [AS v1.1, AI v1.2.1, AI v1.2.2])]) [0, 3, 5] [(0, 0)] 1 ?_
  refine w_loopF (F_spec_l23Put_l1 v0 v1) (fun s : Int => mkS [(0, AL 3 (v0.map eTurn)), (3, .ptr 0 0 0), (5, AI s)] (fo [(0, .box [AS v1.1, AI v1.2.1, AI v1.2.2])]) 1) hF ?_
  rintro k0 v50001 hF
  rw [F_spec_l23Put_l1] at hF
  try dsimp only
  refine w_seq ?_
  refine ws 1 577 ?_
  refine qp (AI v50001) rfl (qp (AB (decide ((0 : Int) < v50001))) rfl (qp (AB (decide ((0 : Int) < v50001))) rfl ?_))
  refine q_case 11 hF rfl (fun hF => ?_) (fun hF => ?_)
  ·
   refine qg (AL 3 (v0.map eTurn)) rfl rfl (qg (AI v50001) rfl rfl (qg (AI (w64 (v50001 - 1))) rfl rfl ?_))
   obtain ⟨v1000, e1000, hF⟩ := bind_get hF
   refine qg (.val none (.ptr [.str v1000.1, .int .i64 v1000.2.1, .int .i64 v1000.2.2])) rfl (ev_iad_n rfl rfl e1000 rfl) ?_
   obtain ⟨v1001, e1001, hF⟩ := bind_get hF
   refine qcg (AB v1001) [(0, .box [AS v1.1, AI v1.2.1, AI v1.2.2])] true rfl (con_spec_l23Before e1001) c29_ok (by simp [List.take_of_length_le]) rfl ?_
   refine qp (AB v1001) rfl ?_
   refine r_nil ?_
   refine cF hF (fun hF => ?_) fun hF => ?_
   ·
    refine w_skip ?_
    refine thenQ_n ?_
    refine w_block ?_
    refine w_reg 577 769 rfl rfl ?_
    refine qp (AI v50001) rfl (qp (AI (w64 (v50001 - 1))) rfl (qp (AI (w64 (v50001 - 1))) rfl ?_))
    refine r_nil ?_
    refine blockQ_n ?_
    refine thenQ_n ?_
    refine ar (l' := [(0, AL 3 (v0.map eTurn)), (3, .ptr 0 0 0), (5, AI (w64 (v50001 - 1)))]) (L := [(0, .box [AS v1.1, AI v1.2.1, AI v1.2.2])]) [0, 3, 5] [(0, 0)] 1 ⟨_, by rfl, hF⟩
   ·
    refine w_exit ?_
    refine thenQ_e ?_
    refine thenQ_e ?_
    refine blockQ_e ?_
    refine thenQ_n ?_
    refine ar (l' := [(0, AL 3 (v0.map eTurn)), (3, .ptr 0 0 0), (5, AI v50001)]) (L := [(0, .box [AS v1.1, AI v1.2.1, AI v1.2.2])]) [0, 3, 5] [(0, 0)] 1 ⟨_, rfl, hF⟩
  ·
   refine qn rfl (qn rfl (qn rfl (qn rfl (qn rfl (qp (AB false) rfl ?_)))))
   refine r_nil ?_
   refine w_false rfl ?_
   refine w_exit ?_
   refine thenQ_e ?_
   refine thenQ_e ?_
   refine blockQ_e ?_
   refine thenQ_n ?_
   refine ar (l' := [(0, AL 3 (v0.map eTurn)), (3, .ptr 0 0 0), (5, AI v50001)]) (L := [(0, .box [AS v1.1, AI v1.2.1, AI v1.2.2])]) [0, 3, 5] [(0, 0)] 1 ⟨_, rfl, hF⟩
 ·
  rintro s' ⟨v50002, rfl, hF⟩
  unfold F_spec_l23Put_j0 at hF
  refine ws 1 385 ?_
  refine qf (.sl 1 0 0) [(1, .row true 3 (([] : List TTurn).map eTurn)), (0, .box [AS v1.1, AI v1.2.1, AI v1.2.2])] (by simp [List.take_of_length_le]) ?_
  refine qp (AL 3 (v0.map eTurn)) rfl (qp (AI v50002) rfl ?_)
  obtain ⟨g1002, hF⟩ := need_some hF
  refine qp (AL 3 ((sub v0 0 v50002).map eTurn)) (ev_slc_n rfl rfl (bnd_some rfl (Int.le_trans g1002.1 g1002.2.1)) g1002) ?_
  obtain ⟨g1003, hF⟩ := need_some hF
  refine qf (.sl 257 0 ((sub v0 0 v50002).length)) [(257, .row true 3 ((sub v0 0 v50002).map eTurn)), (1, .dead), (1, .row true 3 (([] : List TTurn).map eTurn)), (0, .box [AS v1.1, AI v1.2.1, AI v1.2.2])] (effT_app_v0 rfl (by simp) rfl rfl (fun _ => rfl) g1003) ?_
  refine qp (.sl 257 0 ((sub v0 0 v50002).length)) rfl ?_
  refine r_nil ?_
  refine ws 385 705 ?_
  refine qp (.sl 257 0 ((sub v0 0 v50002).length)) rfl (qp (.agg [AS v1.1, AI v1.2.1, AI v1.2.2]) rfl ?_)
  refine qf (.sl 513 0 ([v1].length)) [(513, .row true 3 ([v1].map eTurn)), (257, .row true 3 ((sub v0 0 v50002).map eTurn)), (1, .dead), (1, .row true 3 (([] : List TTurn).map eTurn)), (0, .box [AS v1.1, AI v1.2.1, AI v1.2.2])] (by simp [List.take_of_length_le]) ?_
  obtain ⟨g1004, hF⟩ := need_some hF
  refine qf (.sl 577 0 (((sub v0 0 v50002) ++ [v1]).length)) [(577, .row true 3 (((sub v0 0 v50002) ++ [v1]).map eTurn)), (257, .dead), (513, .dead), (513, .row true 3 ([v1].map eTurn)), (257, .row true 3 ((sub v0 0 v50002).map eTurn)), (1, .dead), (1, .row true 3 (([] : List TTurn).map eTurn)), (0, .box [AS v1.1, AI v1.2.1, AI v1.2.2])] (effT_app_l rfl (by simp) rfl rfl (by simp) rfl (by decide) g1004 rfl) ?_
  refine qp (.sl 577 0 (((sub v0 0 v50002) ++ [v1]).length)) rfl ?_
  refine r_nil ?_
  refine ws 705 1089 ?_
  refine qp (.sl 577 0 (((sub v0 0 v50002) ++ [v1]).length)) rfl (qp (AL 3 (v0.map eTurn)) rfl (qp (AI v50002) rfl ?_))
  obtain ⟨g1005, hF⟩ := need_some hF
  refine qp (AL 3 ((sub v0 v50002 (v0.length : Int)).map eTurn)) (ev_slc_n rfl (bnd_some rfl g1005.1) rfl g1005) ?_
  obtain ⟨g1006, hF⟩ := need_some hF
  refine qf (.sl 961 0 ((((sub v0 0 v50002) ++ [v1]) ++ (sub v0 v50002 (v0.length : Int))).length)) [(961, .row true 3 ((((sub v0 0 v50002) ++ [v1]) ++ (sub v0 v50002 (v0.length : Int))).map eTurn)), (577, .dead), (577, .row true 3 (((sub v0 0 v50002) ++ [v1]).map eTurn)), (257, .dead), (513, .dead), (513, .row true 3 ([v1].map eTurn)), (257, .row true 3 ((sub v0 0 v50002).map eTurn)), (1, .dead), (1, .row true 3 (([] : List TTurn).map eTurn)), (0, .box [AS v1.1, AI v1.2.1, AI v1.2.2])] (effT_app_v rfl (by simp) rfl rfl (fun _ => rfl) g1006) ?_
  refine qp (.sl 961 0 ((((sub v0 0 v50002) ++ [v1]) ++ (sub v0 v50002 (v0.length : Int))).length)) rfl ?_
  refine r_nil ?_
  refine w_ret ?_
  cases hF
  exact eR

end Go.Ab
