/- Walks (printed by auto.py, a program of this session's own). -/
import Derived.Test.YtphjibapchafkaaDoorU0
import Derived.Test.YtphjibapchafkaaDoorProg
import Derived.KernelRfl
import Derived.Test.YtphjibapchafkaaDoorSQ
set_option linter.unusedVariables false
set_option linter.unusedSimpArgs false
set_option maxRecDepth 8000
set_option maxHeartbeats 8000000
namespace Go.Ab
open Go.RowKit Go.Proofs

def c7 : MC := (.seq (.reg [pT 4 (.mv (ci 0))]) (.seq (.seq (.reg [pT 5 (.mv (ci 0))]) (.block 0 (.loop (.seq (.seq (.reg [mvt 6 5, mvt 7 0, pT 8 (.len t7), pT 9 (.bin .lss t6 t8)]) (.cond t9 .skip (.exit 0))) (.seq (.block 1 (.seq (.reg [mvt 12 0, mvt 13 5, mvt 14 1, rg 15 (.call true 16 [t14]), pT 16 (.iad t12 t13 3), pT 17 (.fad t16 0), ⟨none, none, (.f (.st t17 t15 1))⟩]) (.seq (.reg [mvt 18 1, pT 19 (.bin .add t18 (ci 1)), mvt 1 19]) (.seq (.reg [mvt 20 0, mvt 21 5, mvt 22 1, pT 23 (.iad t20 t21 3), pT 24 (.fad t23 1), ⟨none, none, (.f (.st t24 t22 1))⟩]) (.seq (.reg [mvt 25 1, pT 26 (.bin .add t25 (ci 1)), mvt 1 26]) (.reg [mvt 27 0, mvt 28 5, pT 29 (.iad t27 t28 3), pT 30 (.fad t29 2), pT 31 (.ld t30 1 false), mvt 32 1, rg 33 (.call true 17 [t31, t32]), mvt 1 33])))))) (.reg [mvt 10 5, pT 11 (.bin .add t10 (ci 1)), mvt 5 11])))))) (.seq (.reg [mvt 34 1, mvt 4 34]) .ret)))
theorem c7_is : compFnM Tryd.prog 7 = some (c7, [(.tmp 4)]) := by kernel_rfl
theorem c7_ok : okFn Tryd.prog 7 = true := by kernel_rfl

noncomputable def F_laws_markPersonS_l0 (k0 : Int × Int × (List TPerson) → Option ((List TPerson) × Int)) : Int × Int × (List TPerson) → Option ((List TPerson) × Int)
 | (v50003, v50004, v50005) => (bif (decide (v50004 < (v50005.length : Int))) then ((F_laws_markText v50003).bind fun v1000 => ((ix v50005 v50004).bind fun v1001 => ((ix (List.set v50005 v50004.toNat (v1000, v1001.2.1, v1001.2.2)) v50004).bind fun v1002 => ((ix (List.set (List.set v50005 v50004.toNat (v1000, v1001.2.1, v1001.2.2)) v50004.toNat (v1002.1, w64 (v50003 + 1), v1002.2.2)) v50004).bind fun v1003 => ((F_laws_markStringS v1003.2.2 (w64 ((w64 (v50003 + 1)) + 1))).bind fun v1004 => need (v1004.1.length = v1003.2.2.length) (k0 (v1004.2, w64 (v50004 + 1), List.set (List.set (List.set v50005 v50004.toNat (v1000, v1001.2.1, v1001.2.2)) v50004.toNat (v1002.1, w64 (v50003 + 1), v1002.2.2)) v50004.toNat (v1003.1, v1003.2.1, v1004.1))))))))
 else some (v50005, v50003))
noncomputable def F_laws_markPersonS (v0 : List TPerson) (v1 : Int) : Option ((List TPerson) × Int) :=
 loop (F_laws_markPersonS_l0) (v1, 0, v0)
@[simp] abbrev K15 (v50005 : List TPerson) (v50004 : Int) (v1000 : List UInt8) (v1001 : TPerson) : List (Nat × Root) := [(0, .row true 3 ((List.set v50005 v50004.toNat (v1000, v1001.2.1, v1001.2.2)).map ePerson)), (0, .row true 3 (v50005.map ePerson))]
@[simp] abbrev K16 (v50005 : List TPerson) (v50004 : Int) (v1000 : List UInt8) (v1001 : TPerson) (v1002 : TPerson) (v50003 : Int) : List (Nat × Root) := ((0, .row true 3 ((List.set (List.set v50005 v50004.toNat (v1000, v1001.2.1, v1001.2.2)) v50004.toNat (v1002.1, w64 (v50003 + 1), v1002.2.2)).map ePerson)) :: (K15 v50005 v50004 v1000 v1001))
theorem con_laws_markPersonS {v0 : List TPerson} {v1 : Int} {r : (List TPerson) × Int} (hF : F_laws_markPersonS v0 v1 = some r) : ConM Tryd.prog 7 (.one (.row true 3 (v0.map ePerson))) (.one (.row true 3 (r.1.map ePerson))) [.int .i64 v1] (.int .i64 r.2) := by
 unfold F_laws_markPersonS at hF
 refine conM_of (av := .sl 0 0 v0.length) (L := [(0, .row true 3 (v0.map ePerson))]) c7_is rfl rfl rfl (by simp) fun N => ?_
 refine ws 64 128 ?_
 refine qp (AI 0) rfl ?_
 refine r_nil ?_
 refine w_seq ?_
 refine ws 128 192 ?_
 refine qp (AI 0) rfl ?_
 refine r_nil ?_
 refine w_block ?_
 refine wr (l' := [(0, .sl 0 0 v0.length), (1, AI v1), (5, AI 0)]) (L := [(0, .row true 3 (v0.map ePerson))]) [0, 1, 5] [(0, 0)] 1 ?_
 refine w_loopF (F_laws_markPersonS_l0) (fun s : Int × Int × (List TPerson) => mkS [(0, .sl 0 0 s.2.2.length), (1, AI s.1), (5, AI s.2.1)] (fo [(0, .row true 3 (s.2.2.map ePerson))]) 1) hF ?_
 rintro k0 ⟨v50003, v50004, v50005⟩ hF
 rw [F_laws_markPersonS_l0] at hF
 try dsimp only
 refine w_seq ?_
 refine ws 1 257 ?_
 refine qp (AI v50004) rfl (qp (.sl 0 0 v50005.length) rfl (qp (AI (v50005.length : Int)) rfl (qp (AB (decide (v50004 < (v50005.length : Int)))) rfl ?_)))
 refine r_nil ?_
 refine cF hF (fun hF => ?_) fun hF => ?_
 ·
  refine w_skip ?_
  refine thenQ_n ?_
  refine w_seq ?_
  refine w_block ?_
  refine ws 257 705 ?_
  refine qp (.sl 0 0 v50005.length) rfl (qp (AI v50004) rfl (qp (AI v50003) rfl ?_))
  obtain ⟨v1000, e1000, hF⟩ := bind_get hF
  refine qc (AS v1000) [(0, .row true 3 (v50005.map ePerson))] false (con_laws_markText e1000) c16_ok (by first | rfl | simp) rfl ?_
  obtain ⟨v1001, e1001, hF⟩ := bind_get hF
  refine qp (.ptr 0 v50004.toNat 0) (ev_iad_r rfl (by simp) rfl rfl e1001) (qp (.ptr 0 v50004.toNat 0) rfl ?_)
  refine qf0 (.undef) (K15 v50005 v50004 v1000 v1001) (effT_st rfl rfl (ix_some e1001).2 rfl rfl (by rfl) (by first | rfl | simp [patch, reb, List.take_of_length_le]) (by rfl) rfl) ?_
  refine r_nil ?_
  refine ws 705 897 ?_
  refine qp (AI v50003) rfl (qp (AI (w64 (v50003 + 1))) rfl (qp (AI (w64 (v50003 + 1))) rfl ?_))
  refine r_nil ?_
  refine ws 897 1281 ?_
  refine qp (.sl 0 0 v50005.length) rfl (qp (AI v50004) rfl (qp (AI (w64 (v50003 + 1))) rfl ?_))
  obtain ⟨v1002, e1002, hF⟩ := bind_get hF
  refine qp (.ptr 0 v50004.toNat 0) (ev_iad_r rfl (by simp) rfl rfl e1002) (qp (.ptr 0 v50004.toNat 1) rfl ?_)
  refine qf0 (.undef) (K16 v50005 v50004 v1000 v1001 v1002 v50003) (effT_st rfl rfl (ix_some e1002).2 rfl rfl (by rfl) (by first | rfl | simp [patch, reb, List.take_of_length_le]) (by rfl) rfl) ?_
  refine r_nil ?_
  refine ws 1281 1473 ?_
  refine qp (AI (w64 (v50003 + 1))) rfl (qp (AI (w64 ((w64 (v50003 + 1)) + 1))) rfl (qp (AI (w64 ((w64 (v50003 + 1)) + 1))) rfl ?_))
  refine r_nil ?_
  refine w_reg 1473 1985 rfl rfl ?_
  refine qp (.sl 0 0 v50005.length) rfl (qp (AI v50004) rfl ?_)
  obtain ⟨v1003, e1003, hF⟩ := bind_get hF
  refine qp (.ptr 0 v50004.toNat 0) (ev_iad_r rfl (by simp) rfl rfl e1003) (qp (.ptr 0 v50004.toNat 2) rfl ?_)
  obtain ⟨v1004, e1004, hF⟩ := bind_get hF
  obtain ⟨g1005, hF⟩ := need_some hF
  refine qm_l ((0, .row true 3 ((List.set (List.set (List.set v50005 v50004.toNat (v1000, v1001.2.1, v1001.2.2)) v50004.toNat (v1002.1, w64 (v50003 + 1), v1002.2.2)) v50004.toNat (v1003.1, v1003.2.1, v1004.1)).map ePerson)) :: (K16 v50005 v50004 v1000 v1001 v1002 v50003)) rfl rfl (map_get (ix_some e1003).2) rfl rfl rfl (con_laws_markStringS e1004) c17_ok (by simp [g1005]) rfl rfl rfl (by simp [scrO_fo, scrR, scrA, scrAs, patch, reb, List.map_set]) ?_
  refine qp (AI v1004.2) rfl ?_
  refine r_nil ?_
  refine blockQ_n ?_
  refine thenQ_n ?_
  refine w_reg 1985 2177 rfl rfl ?_
  refine qp (AI v50004) rfl (qp (AI (w64 (v50004 + 1))) rfl (qp (AI (w64 (v50004 + 1))) rfl ?_))
  refine r_nil ?_
  refine thenQ_n ?_
  refine ar (l' := [(0, .sl 0 0 (List.set (List.set (List.set v50005 v50004.toNat (v1000, v1001.2.1, v1001.2.2)) v50004.toNat (v1002.1, w64 (v50003 + 1), v1002.2.2)) v50004.toNat (v1003.1, v1003.2.1, v1004.1)).length), (1, AI v1004.2), (5, AI (w64 (v50004 + 1)))]) (L := [(0, .row true 3 ((List.set (List.set (List.set v50005 v50004.toNat (v1000, v1001.2.1, v1001.2.2)) v50004.toNat (v1002.1, w64 (v50003 + 1), v1002.2.2)) v50004.toNat (v1003.1, v1003.2.1, v1004.1)).map ePerson))]) [0, 1, 5] [(0, 0)] 1 ⟨_, by rfl, hF⟩
 ·
  refine w_exit ?_
  refine thenQ_e ?_
  refine thenQ_e ?_
  refine blockQ_e ?_
  refine thenQ_n ?_
  refine ws 257 385 ?_
  refine qp (AI v50003) rfl (qp (AI v50003) rfl ?_)
  refine r_nil ?_
  refine w_ret ?_
  cases hF
  exact endM_r rfl rfl (by first | rfl | (simp [List.take_of_length_le]; first | exact ⟨rfl, rfl⟩ | rfl)) (by simp)

def c18 : MC := (.seq (.reg [pT 4 (.mv (ci 0))]) (.seq (.seq (.reg [pT 5 (.mv (ci 0))]) (.block 0 (.loop (.seq (.seq (.reg [mvt 6 5, mvt 7 0, pT 8 (.len t7), pT 9 (.bin .lss t6 t8)]) (.cond t9 .skip (.exit 0))) (.seq (.block 1 (.seq (.seq (.reg [mP 12 t0, mP 13 t5, pF 14 (.iad t12 t13 1), pF 15 (.ld t14 1 false), mP 16 t1, rg 17 (.call false 16 [t16]), pF 18 (.bin .neq t15 t17)]) (.cond t18 (.seq (.reg [pT 4 (.mv (ci (-1)))]) .ret) .skip)) (.reg [mvt 19 1, pT 20 (.bin .add t19 (ci 1)), mvt 1 20]))) (.reg [mvt 10 5, pT 11 (.bin .add t10 (ci 1)), mvt 5 11])))))) (.seq (.reg [mvt 21 1, mvt 4 21]) .ret)))
theorem c18_is : compFn Tryd.prog 18 = some (c18, [(.tmp 4)]) := by kernel_rfl
theorem c18_ok : okFn Tryd.prog 18 = true := by kernel_rfl

noncomputable def F_laws_heldStringS_l0 (v0 : List (List UInt8)) (k0 : Int × Int → Option (Int)) : Int × Int → Option (Int)
 | (v50002, v50003) => (bif (decide (v50003 < (v0.length : Int))) then ((ix v0 v50003).bind fun v1000 => ((F_laws_markText v50002).bind fun v1001 => (bif (decide (v1000 ≠ v1001)) then some (-1)
 else k0 (w64 (v50002 + 1), w64 (v50003 + 1)))))
 else some v50002)
noncomputable def F_laws_heldStringS (v0 : List (List UInt8)) (v1 : Int) : Option (Int) :=
 loop (F_laws_heldStringS_l0 v0) (v1, 0)
@[simp] def res_laws_heldStringS (r : Int) : RV := .one (.one (.val (.int .i64 r)))
theorem con_laws_heldStringS {v0 : List (List UInt8)} {v1 : Int} {r : Int} (hF : F_laws_heldStringS v0 v1 = some r) : Con Tryd.prog 18 [.sl 1 (v0.map V.str), .int .i64 v1] (res_laws_heldStringS r) := by
 unfold F_laws_heldStringS at hF
 refine con_of c18_is fun N => ?_
 refine ws 0 64 ?_
 refine qp (AI 0) rfl ?_
 refine r_nil ?_
 refine w_seq ?_
 refine ws 64 128 ?_
 refine qp (AI 0) rfl ?_
 refine r_nil ?_
 refine w_block ?_
 refine wr (l' := [(0, AL 1 (v0.map V.str)), (1, AI v1), (5, AI 0)]) (L := []) [0, 1, 5] [] 1 ?_
 refine w_loopF (F_laws_heldStringS_l0 v0) (fun s : Int × Int => mkS [(0, AL 1 (v0.map V.str)), (1, AI s.1), (5, AI s.2)] (fo []) 1) hF ?_
 rintro k0 ⟨v50002, v50003⟩ hF
 rw [F_laws_heldStringS_l0] at hF
 try dsimp only
 refine w_seq ?_
 refine ws 1 257 ?_
 refine qp (AI v50003) rfl (qp (AL 1 (v0.map V.str)) rfl (qp (AI (v0.length : Int)) (ev_len_n rfl) (qp (AB (decide (v50003 < (v0.length : Int)))) rfl ?_)))
 refine r_nil ?_
 refine cF hF (fun hF => ?_) fun hF => ?_
 ·
  refine w_skip ?_
  refine thenQ_n ?_
  refine w_seq ?_
  refine w_block ?_
  refine w_seq ?_
  refine ws 257 705 ?_
  refine qp (AL 1 (v0.map V.str)) rfl (qp (AI v50003) rfl ?_)
  obtain ⟨v1000, e1000, hF⟩ := bind_get hF
  refine qp (.val none (.ptr [.str v1000])) (ev_iad_n rfl rfl e1000 rfl) (qp (AS v1000) rfl (qp (AI v50002) rfl ?_))
  obtain ⟨v1001, e1001, hF⟩ := bind_get hF
  refine qc (AS v1001) [] false (con_laws_markText e1001) c16_ok (by first | rfl | simp) rfl ?_
  refine qp (AB (decide (v1000 ≠ v1001))) rfl ?_
  refine r_nil ?_
  refine cF hF (fun hF => ?_) fun hF => ?_
  ·
   refine ws 705 769 ?_
   refine qp (AI (-1)) rfl ?_
   refine r_nil ?_
   refine w_ret ?_
   refine thenQ_r ?_
   refine blockQ_r ?_
   refine thenQ_r ?_
   refine thenQ_r ?_
   refine blockQ_r ?_
   refine thenQ_r ?_
   cases hF
   exact eR
  ·
   refine w_skip ?_
   refine thenQ_n ?_
   refine w_reg 705 897 rfl rfl ?_
   refine qp (AI v50002) rfl (qp (AI (w64 (v50002 + 1))) rfl (qp (AI (w64 (v50002 + 1))) rfl ?_))
   refine r_nil ?_
   refine blockQ_n ?_
   refine thenQ_n ?_
   refine w_reg 897 1089 rfl rfl ?_
   refine qp (AI v50003) rfl (qp (AI (w64 (v50003 + 1))) rfl (qp (AI (w64 (v50003 + 1))) rfl ?_))
   refine r_nil ?_
   refine thenQ_n ?_
   refine ar (l' := [(0, AL 1 (v0.map V.str)), (1, AI (w64 (v50002 + 1))), (5, AI (w64 (v50003 + 1)))]) (L := []) [0, 1, 5] [] 1 ⟨_, by rfl, hF⟩
 ·
  refine w_exit ?_
  refine thenQ_e ?_
  refine thenQ_e ?_
  refine blockQ_e ?_
  refine thenQ_n ?_
  refine ws 257 385 ?_
  refine qp (AI v50002) rfl (qp (AI v50002) rfl ?_)
  exact rR hF

def c8 : MC := (.seq (.reg [pT 4 (.mv (ci 0))]) (.seq (.seq (.reg [pT 5 (.mv (ci 0))]) (.block 0 (.loop (.seq (.seq (.reg [mvt 6 5, mvt 7 0, pT 8 (.len t7), pT 9 (.bin .lss t6 t8)]) (.cond t9 .skip (.exit 0))) (.seq (.block 1 (.seq (.seq (.reg [mP 12 t0, mP 13 t5, pF 14 (.iad t12 t13 3), pF 15 (.fad t14 0), pF 16 (.ld t15 1 false), mP 17 t1, rg 18 (.call false 16 [t17]), pF 19 (.bin .neq t16 t18)]) (.cond t19 (.seq (.reg [pT 4 (.mv (ci (-1)))]) .ret) .skip)) (.seq (.reg [mvt 20 1, pT 21 (.bin .add t20 (ci 1)), mvt 1 21]) (.seq (.seq (.reg [mvt 22 0, mvt 23 5, pT 24 (.iad t22 t23 3), pT 25 (.fad t24 1), pT 26 (.ld t25 1 false), mvt 27 1, pT 28 (.bin .neq t26 t27)]) (.cond t28 (.seq (.reg [pT 4 (.mv (ci (-1)))]) .ret) .skip)) (.seq (.reg [mvt 29 1, pT 30 (.bin .add t29 (ci 1)), mvt 1 30]) (.seq (.reg [mvt 31 0, mvt 32 5, pT 33 (.iad t31 t32 3), pT 34 (.fad t33 2), pT 35 (.ld t34 1 false), mvt 36 1, rg 37 (.call true 18 [t35, t36]), mvt 1 37]) (.seq (.reg [mvt 38 1, pT 39 (.bin .lss t38 (ci 0))]) (.cond t39 (.seq (.reg [pT 4 (.mv (ci (-1)))]) .ret) .skip)))))))) (.reg [mvt 10 5, pT 11 (.bin .add t10 (ci 1)), mvt 5 11])))))) (.seq (.reg [mvt 40 1, mvt 4 40]) .ret)))
theorem c8_is : compFn Tryd.prog 8 = some (c8, [(.tmp 4)]) := by kernel_rfl
theorem c8_ok : okFn Tryd.prog 8 = true := by kernel_rfl

noncomputable def F_laws_heldPersonS_l0 (v0 : List TPerson) (k0 : Int × Int → Option (Int)) : Int × Int → Option (Int)
 | (v50002, v50003) => (bif (decide (v50003 < (v0.length : Int))) then ((ix v0 v50003).bind fun v1000 => ((F_laws_markText v50002).bind fun v1001 => (bif (decide (v1000.1 ≠ v1001)) then some (-1)
 else ((ix v0 v50003).bind fun v1002 => (bif (decide (v1002.2.1 ≠ w64 (v50002 + 1))) then some (-1)
 else ((ix v0 v50003).bind fun v1003 => ((F_laws_heldStringS v1003.2.2 (w64 ((w64 (v50002 + 1)) + 1))).bind fun v1004 => (bif (decide (v1004 < (0 : Int))) then some (-1)
 else k0 (v1004, w64 (v50003 + 1))))))))))
 else some v50002)
noncomputable def F_laws_heldPersonS (v0 : List TPerson) (v1 : Int) : Option (Int) :=
 loop (F_laws_heldPersonS_l0 v0) (v1, 0)
@[simp] def res_laws_heldPersonS (r : Int) : RV := .one (.one (.val (.int .i64 r)))
theorem con_laws_heldPersonS {v0 : List TPerson} {v1 : Int} {r : Int} (hF : F_laws_heldPersonS v0 v1 = some r) : Con Tryd.prog 8 [.sl 3 (v0.map ePerson), .int .i64 v1] (res_laws_heldPersonS r) := by
 unfold F_laws_heldPersonS at hF
 refine con_of c8_is fun N => ?_
 refine ws 0 64 ?_
 refine qp (AI 0) rfl ?_
 refine r_nil ?_
 refine w_seq ?_
 refine ws 64 128 ?_
 refine qp (AI 0) rfl ?_
 refine r_nil ?_
 refine w_block ?_
 refine wr (l' := [(0, AL 3 (v0.map ePerson)), (1, AI v1), (5, AI 0)]) (L := []) [0, 1, 5] [] 1 ?_
 refine w_loopF (F_laws_heldPersonS_l0 v0) (fun s : Int × Int => mkS [(0, AL 3 (v0.map ePerson)), (1, AI s.1), (5, AI s.2)] (fo []) 1) hF ?_
 rintro k0 ⟨v50002, v50003⟩ hF
 rw [F_laws_heldPersonS_l0] at hF
 try dsimp only
 refine w_seq ?_
 refine ws 1 257 ?_
 refine qp (AI v50003) rfl (qp (AL 3 (v0.map ePerson)) rfl (qp (AI (v0.length : Int)) (ev_len_n rfl) (qp (AB (decide (v50003 < (v0.length : Int)))) rfl ?_)))
 refine r_nil ?_
 refine cF hF (fun hF => ?_) fun hF => ?_
 ·
  refine w_skip ?_
  refine thenQ_n ?_
  refine w_seq ?_
  refine w_block ?_
  refine w_seq ?_
  refine ws 257 769 ?_
  refine qp (AL 3 (v0.map ePerson)) rfl (qp (AI v50003) rfl ?_)
  obtain ⟨v1000, e1000, hF⟩ := bind_get hF
  refine qp (.val none (.ptr [.str v1000.1, .int .i64 v1000.2.1, .sl 1 (v1000.2.2.map V.str)])) (ev_iad_n rfl rfl e1000 rfl) (qp (.val none (.ptr [.str v1000.1, .int .i64 v1000.2.1, .sl 1 (v1000.2.2.map V.str)])) rfl (qp (AS v1000.1) rfl (qp (AI v50002) rfl ?_)))
  obtain ⟨v1001, e1001, hF⟩ := bind_get hF
  refine qc (AS v1001) [] false (con_laws_markText e1001) c16_ok (by first | rfl | simp) rfl ?_
  refine qp (AB (decide (v1000.1 ≠ v1001))) rfl ?_
  refine r_nil ?_
  refine cF hF (fun hF => ?_) fun hF => ?_
  ·
   refine ws 769 833 ?_
   refine qp (AI (-1)) rfl ?_
   refine r_nil ?_
   refine w_ret ?_
   refine thenQ_r ?_
   refine blockQ_r ?_
   refine thenQ_r ?_
   refine thenQ_r ?_
   refine blockQ_r ?_
   refine thenQ_r ?_
   cases hF
   exact eR
  ·
   refine w_skip ?_
   refine thenQ_n ?_
   refine ws 769 961 ?_
   refine qp (AI v50002) rfl (qp (AI (w64 (v50002 + 1))) rfl (qp (AI (w64 (v50002 + 1))) rfl ?_))
   refine r_nil ?_
   refine w_seq ?_
   refine ws 961 1409 ?_
   refine qp (AL 3 (v0.map ePerson)) rfl (qp (AI v50003) rfl ?_)
   obtain ⟨v1002, e1002, hF⟩ := bind_get hF
   refine qp (.val none (.ptr [.str v1002.1, .int .i64 v1002.2.1, .sl 1 (v1002.2.2.map V.str)])) (ev_iad_n rfl rfl e1002 rfl) (qp (.val none (.ptr [.int .i64 v1002.2.1, .sl 1 (v1002.2.2.map V.str)])) rfl (qp (AI v1002.2.1) rfl (qp (AI (w64 (v50002 + 1))) rfl (qp (AB (decide (v1002.2.1 ≠ w64 (v50002 + 1)))) rfl ?_))))
   refine r_nil ?_
   refine cF hF (fun hF => ?_) fun hF => ?_
   ·
    refine ws 1409 1473 ?_
    refine qp (AI (-1)) rfl ?_
    refine r_nil ?_
    refine w_ret ?_
    refine thenQ_r ?_
    refine blockQ_r ?_
    refine thenQ_r ?_
    refine thenQ_r ?_
    refine blockQ_r ?_
    refine thenQ_r ?_
    cases hF
    exact eR
   ·
    refine w_skip ?_
    refine thenQ_n ?_
    refine ws 1409 1601 ?_
    refine qp (AI (w64 (v50002 + 1))) rfl (qp (AI (w64 ((w64 (v50002 + 1)) + 1))) rfl (qp (AI (w64 ((w64 (v50002 + 1)) + 1))) rfl ?_))
    refine r_nil ?_
    refine ws 1601 2113 ?_
    refine qp (AL 3 (v0.map ePerson)) rfl (qp (AI v50003) rfl ?_)
    obtain ⟨v1003, e1003, hF⟩ := bind_get hF
    refine qp (.val none (.ptr [.str v1003.1, .int .i64 v1003.2.1, .sl 1 (v1003.2.2.map V.str)])) (ev_iad_n rfl rfl e1003 rfl) (qp (.val none (.ptr [.sl 1 (v1003.2.2.map V.str)])) rfl (qp (AL 1 (v1003.2.2.map V.str)) rfl (qp (AI (w64 ((w64 (v50002 + 1)) + 1))) rfl ?_)))
    obtain ⟨v1004, e1004, hF⟩ := bind_get hF
    refine qc (AI v1004) [] false (con_laws_heldStringS e1004) c18_ok (by first | rfl | simp) rfl ?_
    refine qp (AI v1004) rfl ?_
    refine r_nil ?_
    refine ws 2113 2241 ?_
    refine qp (AI v1004) rfl (qp (AB (decide (v1004 < (0 : Int)))) rfl ?_)
    refine r_nil ?_
    refine cF hF (fun hF => ?_) fun hF => ?_
    ·
     refine ws 2241 2305 ?_
     refine qp (AI (-1)) rfl ?_
     refine r_nil ?_
     refine w_ret ?_
     refine blockQ_r ?_
     refine thenQ_r ?_
     refine thenQ_r ?_
     refine blockQ_r ?_
     refine thenQ_r ?_
     cases hF
     exact eR
    ·
     refine w_skip ?_
     refine blockQ_n ?_
     refine thenQ_n ?_
     refine w_reg 2241 2433 rfl rfl ?_
     refine qp (AI v50003) rfl (qp (AI (w64 (v50003 + 1))) rfl (qp (AI (w64 (v50003 + 1))) rfl ?_))
     refine r_nil ?_
     refine thenQ_n ?_
     refine ar (l' := [(0, AL 3 (v0.map ePerson)), (1, AI v1004), (5, AI (w64 (v50003 + 1)))]) (L := []) [0, 1, 5] [] 1 ⟨_, by rfl, hF⟩
 ·
  refine w_exit ?_
  refine thenQ_e ?_
  refine thenQ_e ?_
  refine blockQ_e ?_
  refine thenQ_n ?_
  refine ws 257 385 ?_
  refine qp (AI v50002) rfl (qp (AI v50002) rfl ?_)
  exact rR hF

def c3 : MC := (.seq (.reg [pT 2 (.mv cf)]) (.seq (.seq (.reg [mvt 11 0, pT 12 (.lens t11), pT 13 (.bin .gtr t12 (ci 1048576))]) (.cond t13 (.seq (.reg [pT 2 (.mv ct)]) .ret) .skip)) (.seq (.reg [mvt 15 0, rg 16 (.call true 4 [t15]), mvt 14 16, pT 17 (.ext t14 0), pT 18 (.ext t14 1), mvt 3 17, mvt 4 18]) (.seq (.reg [mvt 20 0, rg 21 (.call true 5 [t20]), mvt 19 21, pT 22 (.ext t19 0), pT 23 (.ext t19 1), mvt 5 22, mvt 6 23]) (.seq (.seq (.reg [mvt 24 5, mvt 25 3, rg 26 (.call true 6 [t24, t25]), pT 27 (.not t26), mvt 28 27, nF 29 28 t6, nF 30 28 t4, kF 31 28 (.bnb true t29 t30), pT 32 (.pick t28 ct t31)]) (.cond t32 (.seq (.reg [pT 2 (.mv cf)]) .ret) .skip)) (.seq (.reg [pT 7 (.mv (ci 1))]) (.seq (.reg [mvt 33 5, mvt 34 7, rg 35 (.call true 7 [t33, t34]), mvt 7 35]) (.seq (.reg [pT 8 (.mv (ci 1))]) (.seq (.reg [mvt 36 5, mvt 37 8, rg 38 (.call true 8 [t36, t37]), mvt 8 38]) (.seq (.seq (.reg [mvt 39 8, pT 40 (.bin .lss t39 (ci 0))]) (.cond t40 (.seq (.reg [pT 2 (.mv cf)]) .ret) .skip)) (.seq (.seq (.reg [mvt 41 8, mvt 42 7, pT 43 (.bin .neq t41 t42)]) (.cond t43 (.seq (.reg [pT 2 (.mv cf)]) .ret) .skip)) (.seq (.reg [mvt 45 0, rg 46 (.call true 5 [t45]), mvt 44 46, pT 47 (.ext t44 0), pT 48 (.ext t44 1), mvt 9 47, mvt 10 48]) (.seq (.seq (.reg [mvt 49 9, mvt 50 3, rg 51 (.call true 6 [t49, t50]), pT 52 (.not t51), mvt 53 52, nF 54 53 t10, nF 55 53 t4, kF 56 53 (.bnb true t54 t55), pT 57 (.pick t53 ct t56)]) (.cond t57 (.seq (.reg [pT 2 (.mv cf)]) .ret) .skip)) (.seq (.reg [pT 8 (.mv (ci 1))]) (.seq (.reg [mvt 58 5, mvt 59 8, rg 60 (.call true 8 [t58, t59]), mvt 8 60]) (.seq (.seq (.reg [mvt 61 8, pT 62 (.bin .lss t61 (ci 0))]) (.cond t62 (.seq (.reg [pT 2 (.mv cf)]) .ret) .skip)) (.seq (.seq (.reg [mvt 63 8, mvt 64 7, pT 65 (.bin .neq t63 t64)]) (.cond t65 (.seq (.reg [pT 2 (.mv cf)]) .ret) .skip)) (.seq (.reg [pT 2 (.mv ct)]) .ret))))))))))))))))))
theorem c3_is : compFn Tryd.prog 3 = some (c3, [(.tmp 2)]) := by kernel_rfl
theorem c3_ok : okFn Tryd.prog 3 = true := by kernel_rfl

noncomputable def F_laws_FnExactReadPersons (v0 : List UInt8) : Option (Bool) :=
 (bif (decide ((1048576 : Int) < (v0.length : Int))) then some true
 else ((F_spec_ReadPersons v0).bind fun v1000 => ((F_impl_ReadPersons v0).bind fun v1001 => ((F_laws_eqPersonS v1001.1 v1000.1).bind fun v1003 => (bif (!v1003) then some false
 else (bif (v1001.2 != v1000.2) then some false
 else ((F_laws_markPersonS v1001.1 1).bind fun v1004 => need (v1004.1.length = v1001.1.length) (((F_laws_heldPersonS v1004.1 1).bind fun v1006 => (bif (decide (v1006 < (0 : Int))) then some false
 else (bif (decide (v1006 ≠ v1004.2)) then some false
 else ((F_impl_ReadPersons v0).bind fun v1007 => ((F_laws_eqPersonS v1007.1 v1000.1).bind fun v1009 => (bif (!v1009) then some false
 else (bif (v1007.2 != v1000.2) then some false
 else ((F_laws_heldPersonS v1004.1 1).bind fun v1010 => (bif (decide (v1010 < (0 : Int))) then some false
 else (bif (decide (v1010 ≠ v1004.2)) then some false
 else some true))))))))))))))))))
@[simp] abbrev K17 (v1001 : (List TPerson) × Bool) (v1000 : (List TPerson) × Bool) : List (Nat × Root) := [(768, .row true 3 (v1001.1.map ePerson)), (320, .row true 3 (v1000.1.map ePerson))]
@[simp] abbrev K18 (v1004 : (List TPerson) × Int) (v1001 : (List TPerson) × Bool) (v1000 : (List TPerson) × Bool) : List (Nat × Root) := ((768, .row true 3 (v1004.1.map ePerson)) :: (K17 v1001 v1000))
@[simp] abbrev K19 (v1007 : (List TPerson) × Bool) (v1004 : (List TPerson) × Int) (v1001 : (List TPerson) × Bool) (v1000 : (List TPerson) × Bool) : List (Nat × Root) := ((2752, .row true 3 (v1007.1.map ePerson)) :: (K18 v1004 v1001 v1000))
@[simp] def res_laws_FnExactReadPersons (r : Bool) : RV := .one (.one (.val (.bool r)))
theorem con_laws_FnExactReadPersons {v0 : List UInt8} {r : Bool} (hF : F_laws_FnExactReadPersons v0 = some r) : Con Tryd.prog 3 [.str v0] (res_laws_FnExactReadPersons r) := by
 unfold F_laws_FnExactReadPersons at hF
 refine con_of c3_is fun N => ?_
 refine ws 0 64 ?_
 refine qp (AB false) rfl ?_
 refine r_nil ?_
 refine w_seq ?_
 refine ws 64 256 ?_
 refine qp (AS v0) rfl (qp (AI (v0.length : Int)) rfl (qp (AB (decide ((1048576 : Int) < (v0.length : Int)))) rfl ?_))
 refine r_nil ?_
 refine cF hF (fun hF => ?_) fun hF => ?_
 ·
  refine ws 256 320 ?_
  refine qp (AB true) rfl ?_
  refine r_nil ?_
  refine w_ret ?_
  refine thenQ_r ?_
  cases hF
  exact eR
 ·
  refine w_skip ?_
  refine thenQ_n ?_
  refine ws 256 704 ?_
  refine qp (AS v0) rfl ?_
  obtain ⟨v1000, e1000, hF⟩ := bind_get hF
  refine qc (.tup [.sl 320 0 v1000.1.length, AB v1000.2]) [(320, .row true 3 (v1000.1.map ePerson))] false (con_spec_ReadPersons e1000) c4_ok (by first | rfl | simp) (by simp [res_spec_ReadPersons]) ?_
  refine qp (.tup [.sl 320 0 v1000.1.length, AB v1000.2]) rfl (qp (.sl 320 0 v1000.1.length) rfl (qp (AB v1000.2) rfl (qp (.sl 320 0 v1000.1.length) rfl (qp (AB v1000.2) rfl ?_))))
  refine r_nil ?_
  refine ws 704 1152 ?_
  refine qp (AS v0) rfl ?_
  obtain ⟨v1001, e1001, hF⟩ := bind_get hF
  refine qc (.tup [.sl 768 0 v1001.1.length, AB v1001.2]) (K17 v1001 v1000) false (con_impl_ReadPersons e1001) c5_ok (by first | rfl | simp) (by simp [res_impl_ReadPersons]) ?_
  refine qp (.tup [.sl 768 0 v1001.1.length, AB v1001.2]) rfl (qp (.sl 768 0 v1001.1.length) rfl (qp (AB v1001.2) rfl (qp (.sl 768 0 v1001.1.length) rfl (qp (AB v1001.2) rfl ?_))))
  refine r_nil ?_
  refine w_seq ?_
  refine ws 1152 1728 ?_
  refine qp (.sl 768 0 v1001.1.length) rfl (qp (.sl 320 0 v1000.1.length) rfl ?_)
  obtain ⟨v1003, e1003, hF⟩ := bind_get hF
  refine qc (AB v1003) (K17 v1001 v1000) true (con_laws_eqPersonS e1003) c6_ok (by simp [List.take_of_length_le]) rfl ?_
  refine qp (AB (!v1003)) rfl (qp (AB (!v1003)) rfl ?_)
  refine q_case 28 hF rfl (fun hF => ?_) (fun hF => ?_)
  ·
   refine qn3 (qp (AB true) rfl ?_)
   refine r_nil ?_
   refine w_true rfl ?_
   refine ws 1728 1792 ?_
   refine qp (AB false) rfl ?_
   refine r_nil ?_
   refine w_ret ?_
   refine thenQ_r ?_
   cases hF
   exact eR
  ·
   refine qg (AB v1001.2) rfl rfl (qg (AB v1000.2) rfl rfl (qg (AB (v1001.2 != v1000.2)) rfl rfl (qp (AB (v1001.2 != v1000.2)) rfl ?_)))
   refine r_nil ?_
   refine cF hF (fun hF => ?_) fun hF => ?_
   ·
    refine ws 1728 1792 ?_
    refine qp (AB false) rfl ?_
    refine r_nil ?_
    refine w_ret ?_
    refine thenQ_r ?_
    cases hF
    exact eR
   ·
    refine w_skip ?_
    refine thenQ_n ?_
    refine ws 1728 1792 ?_
    refine qp (AI 1) rfl ?_
    refine r_nil ?_
    refine ws 1792 2048 ?_
    refine qp (.sl 768 0 v1001.1.length) rfl (qp (AI 1) rfl ?_)
    obtain ⟨v1004, e1004, hF⟩ := bind_get hF
    obtain ⟨g1005, hF⟩ := need_some hF
    refine qm (ls := [768]) (K18 v1004 v1001 v1000) (con_laws_markPersonS e1004) c7_ok (by first | rfl | simp [takeM, takeML, takeM1, g1005]) (by decide) (by simp [like2, likeL, like1, g1005]) rfl rfl rfl (by simp [scrO_fo, newO2, newO, scrR, scrA, scrAs]) ?_
    refine qp (AI v1004.2) rfl ?_
    refine r_nil ?_
    refine ws 2048 2112 ?_
    refine qp (AI 1) rfl ?_
    refine r_nil ?_
    refine ws 2112 2368 ?_
    refine qp (.sl 768 0 v1001.1.length) rfl (qp (AI 1) rfl ?_)
    obtain ⟨v1006, e1006, hF⟩ := bind_get hF
    refine qc (AI v1006) (K18 v1004 v1001 v1000) true (con_laws_heldPersonS e1006) c8_ok (by simp [g1005, List.take_of_length_le]) rfl ?_
    refine qp (AI v1006) rfl ?_
    refine r_nil ?_
    refine w_seq ?_
    refine ws 2368 2496 ?_
    refine qp (AI v1006) rfl (qp (AB (decide (v1006 < (0 : Int)))) rfl ?_)
    refine r_nil ?_
    refine cF hF (fun hF => ?_) fun hF => ?_
    ·
     refine ws 2496 2560 ?_
     refine qp (AB false) rfl ?_
     refine r_nil ?_
     refine w_ret ?_
     refine thenQ_r ?_
     cases hF
     exact endQ_r rfl (.inl ⟨_, _, by first | rfl | (simp [List.take_of_length_le]; first | exact ⟨rfl, rfl⟩ | rfl), by simp, by first | rfl | simp [res_laws_FnExactReadPersons, List.take_of_length_le, g1005]⟩)
    ·
     refine w_skip ?_
     refine thenQ_n ?_
     refine w_seq ?_
     refine ws 2496 2688 ?_
     refine qp (AI v1006) rfl (qp (AI v1004.2) rfl (qp (AB (decide (v1006 ≠ v1004.2))) rfl ?_))
     refine r_nil ?_
     refine cF hF (fun hF => ?_) fun hF => ?_
     ·
      refine ws 2688 2752 ?_
      refine qp (AB false) rfl ?_
      refine r_nil ?_
      refine w_ret ?_
      refine thenQ_r ?_
      cases hF
      exact endQ_r rfl (.inl ⟨_, _, by first | rfl | (simp [List.take_of_length_le]; first | exact ⟨rfl, rfl⟩ | rfl), by simp, by first | rfl | simp [res_laws_FnExactReadPersons, List.take_of_length_le, g1005]⟩)
     ·
      refine w_skip ?_
      refine thenQ_n ?_
      refine ws 2688 3136 ?_
      refine qp (AS v0) rfl ?_
      obtain ⟨v1007, e1007, hF⟩ := bind_get hF
      refine qc (.tup [.sl 2752 0 v1007.1.length, AB v1007.2]) (K19 v1007 v1004 v1001 v1000) false (con_impl_ReadPersons e1007) c5_ok (by first | rfl | simp) (by simp [res_impl_ReadPersons]) ?_
      refine qp (.tup [.sl 2752 0 v1007.1.length, AB v1007.2]) rfl (qp (.sl 2752 0 v1007.1.length) rfl (qp (AB v1007.2) rfl (qp (.sl 2752 0 v1007.1.length) rfl (qp (AB v1007.2) rfl ?_))))
      refine r_nil ?_
      refine w_seq ?_
      refine ws 3136 3712 ?_
      refine qp (.sl 2752 0 v1007.1.length) rfl (qp (.sl 320 0 v1000.1.length) rfl ?_)
      obtain ⟨v1009, e1009, hF⟩ := bind_get hF
      refine qc (AB v1009) (K19 v1007 v1004 v1001 v1000) true (con_laws_eqPersonS e1009) c6_ok (by simp [g1005, List.take_of_length_le]) rfl ?_
      refine qp (AB (!v1009)) rfl (qp (AB (!v1009)) rfl ?_)
      refine q_case 53 hF rfl (fun hF => ?_) (fun hF => ?_)
      ·
       refine qn3 (qp (AB true) rfl ?_)
       refine r_nil ?_
       refine w_true rfl ?_
       refine ws 3712 3776 ?_
       refine qp (AB false) rfl ?_
       refine r_nil ?_
       refine w_ret ?_
       refine thenQ_r ?_
       cases hF
       exact endQ_r rfl (.inl ⟨_, _, by first | rfl | (simp [List.take_of_length_le]; first | exact ⟨rfl, rfl⟩ | rfl), by simp, by first | rfl | simp [res_laws_FnExactReadPersons, List.take_of_length_le, g1005]⟩)
      ·
       refine qg (AB v1007.2) rfl rfl (qg (AB v1000.2) rfl rfl (qg (AB (v1007.2 != v1000.2)) rfl rfl (qp (AB (v1007.2 != v1000.2)) rfl ?_)))
       refine r_nil ?_
       refine cF hF (fun hF => ?_) fun hF => ?_
       ·
        refine ws 3712 3776 ?_
        refine qp (AB false) rfl ?_
        refine r_nil ?_
        refine w_ret ?_
        refine thenQ_r ?_
        cases hF
        exact endQ_r rfl (.inl ⟨_, _, by first | rfl | (simp [List.take_of_length_le]; first | exact ⟨rfl, rfl⟩ | rfl), by simp, by first | rfl | simp [res_laws_FnExactReadPersons, List.take_of_length_le, g1005]⟩)
       ·
        refine w_skip ?_
        refine thenQ_n ?_
        refine ws 3712 3776 ?_
        refine qp (AI 1) rfl ?_
        refine r_nil ?_
        refine ws 3776 4032 ?_
        refine qp (.sl 768 0 v1001.1.length) rfl (qp (AI 1) rfl ?_)
        obtain ⟨v1010, e1010, hF⟩ := bind_get hF
        refine qc (AI v1010) (K19 v1007 v1004 v1001 v1000) true (con_laws_heldPersonS e1010) c8_ok (by simp [g1005, List.take_of_length_le]) rfl ?_
        refine qp (AI v1010) rfl ?_
        refine r_nil ?_
        refine w_seq ?_
        refine ws 4032 4160 ?_
        refine qp (AI v1010) rfl (qp (AB (decide (v1010 < (0 : Int)))) rfl ?_)
        refine r_nil ?_
        refine cF hF (fun hF => ?_) fun hF => ?_
        ·
         refine ws 4160 4224 ?_
         refine qp (AB false) rfl ?_
         refine r_nil ?_
         refine w_ret ?_
         refine thenQ_r ?_
         cases hF
         exact endQ_r rfl (.inl ⟨_, _, by first | rfl | (simp [List.take_of_length_le]; first | exact ⟨rfl, rfl⟩ | rfl), by simp, by first | rfl | simp [res_laws_FnExactReadPersons, List.take_of_length_le, g1005]⟩)
        ·
         refine w_skip ?_
         refine thenQ_n ?_
         refine w_seq ?_
         refine ws 4160 4352 ?_
         refine qp (AI v1010) rfl (qp (AI v1004.2) rfl (qp (AB (decide (v1010 ≠ v1004.2))) rfl ?_))
         refine r_nil ?_
         refine cF hF (fun hF => ?_) fun hF => ?_
         ·
          refine ws 4352 4416 ?_
          refine qp (AB false) rfl ?_
          refine r_nil ?_
          refine w_ret ?_
          refine thenQ_r ?_
          cases hF
          exact endQ_r rfl (.inl ⟨_, _, by first | rfl | (simp [List.take_of_length_le]; first | exact ⟨rfl, rfl⟩ | rfl), by simp, by first | rfl | simp [res_laws_FnExactReadPersons, List.take_of_length_le, g1005]⟩)
         ·
          refine w_skip ?_
          refine thenQ_n ?_
          refine ws 4352 4416 ?_
          refine qp (AB true) rfl ?_
          refine r_nil ?_
          refine w_ret ?_
          cases hF
          exact endQ_r rfl (.inl ⟨_, _, by first | rfl | (simp [List.take_of_length_le]; first | exact ⟨rfl, rfl⟩ | rfl), by simp, by first | rfl | simp [res_laws_FnExactReadPersons, List.take_of_length_le, g1005]⟩)

end Go.Ab
