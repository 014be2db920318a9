/- Walks (printed by auto.py, a program of this session's own). -/
import Derived.Test.YtnideigmfhhedaaGreatDoorU0
import Derived.Test.YtnideigmfhhedaaGreatDoorProg
import Derived.KernelRfl
import Derived.Test.YtnideigmfhhedaaGreatDoorSQ
set_option linter.unusedVariables false
set_option linter.unusedSimpArgs false
set_option maxRecDepth 8000
set_option maxHeartbeats 8000000
noncomputable section
namespace Go.Ab
open Go.RowKit Go.Proofs

def c42 : MC := (sr [rg 2 (.f (.nilrow 1)), pT 3 (.mv cf)] (sr [rg 4 (.f (.nilrow 1))] (.seq (sr [mvt 8 0, pT 9 (.lens t8), pT 10 (.mv (ci 0))] (.block 0 (.loop (sr [bT 11 .lss t10 t9] (.seq (cx t11 0) (.seq (.block 1 (sr [mvt 12 10, mvt 5 12] (sr [mvt 14 0, mvt 15 5, mvt 16 5, bT 17 .add t16 (ci 1), pT 18 (.slcs t14 (some t15) (some t17)), dT 19 43 [t18], mvt 13 19, pT 20 (.ext t13 0), pT 21 (.ext t13 1), mvt 6 20, mvt 7 21] (.seq (sr [mvt 22 7, pT 23 (.not t22)] (.cond t23 (sr [rg 2 (.f (.nilrow 1)), pT 3 (.mv cf)] .ret) .skip)) (.reg [mvt 24 4, mvt 25 6, rg 26 (.f (.bsl 1 [t25])), rg 27 (.f (.app t24 t26 1 8 true)), mvt 4 27]))))) (.reg [bT 28 .add t10 (ci 1), mvt 10 28]))))))) (.seq (sr [mvt 29 4, dT 30 66 [t29], pT 31 (.not t30)] (.cond t31 (sr [rg 2 (.f (.nilrow 1)), pT 3 (.mv cf)] .ret) .skip)) (sr [mvt 32 4, mvt 2 32, pT 3 (.mv ct)] .ret)))))
theorem c42_ : IsF Tryz.prog 42 c42 [(.tmp 2), (.tmp 3)] := ⟨by kernel_rfl, by kernel_rfl⟩

def F_impl_ReadScale_l0 (v0 : List UInt8) (k0 : Int × (List Int) → Option ((List Int) × Bool)) : Int × (List Int) → Option ((List Int) × Bool)
 | (x2, x3) => (bif (decide (x2 < (v0.length : Int))) then (need (0 ≤ x2 ∧ x2 ≤ w64 (x2 + 1) ∧ w64 (x2 + 1) ≤ (v0.length : Int)) (((F_impl_ToneNamed (sub v0 x2 (w64 (x2 + 1)))).bind fun u1 => (bif (!u1.2) then some ([], false)
 else (need (room (x3.length + [u1.1].length) 8) (k0 (w64 (x2 + 1), x3 ++ [u1.1])))))))
 else ((F_impl_ValidScale x3).bind fun u3 => (bif (!u3) then some ([], false)
 else some (x3, true))))
def F_impl_ReadScale (v0 : List UInt8) : Option ((List Int) × Bool) :=
 loop (F_impl_ReadScale_l0 v0) (0, [])
@[simp] abbrev K1u : List (Nat × Root) := [(0, .row true 1 (([] : List Int).map vI))]
@[simp] abbrev K1w (x3 : List Int) : Nat × Root := (0, .row true 1 (x3.map vI))
@[simp] abbrev K1v (u1 : Int × Bool) (x3 : List Int) : List (Nat × Root) := [(1153, .row true 1 ([u1.1].map vI)), (K1w x3)]
@[simp] def res_impl_ReadScale (r : (List Int) × Bool) : RV := .tup [.one (.row true 1 (r.1.map vI)), .one (.val (.bool r.2))]
theorem con_impl_ReadScale {v0 : List UInt8} {r : (List Int) × Bool} (hF : F_impl_ReadScale v0 = some r) : Con Tryz.prog 42 [.str v0] (res_impl_ReadScale r) := by
 unfold F_impl_ReadScale at hF
 refine con_of c42_.1 fun N => ?_
 refine ws 0 128 (qf (.sl 0 0 0) K1u (by simp) (qb (r_nil (ws 128 192 (qf (.sl 128 0 0) ((128, .row true 1 (([] : List Int).map vI)) :: K1u) (by simp) (r_nil (w_seq (ws 192 384 (qr (AS v0) (qr (AI (v0.length : Int)) (qr (AI 0) (r_nil (w_block ?_)))))))))))))
 refine w_ren (l' := [(0, AS v0), (4, .sl 0 0 0), (9, AI (v0.length : Int)), (10, AI 0)]) (L := K1u) [0, 4, 9, 10] [(128, 0)] 1 (by first | rfl | simp) (by first | rfl | simp) (by decide) (by decide) (by decide) ?_
 refine w_loopF (F_impl_ReadScale_l0 v0) (fun s : Int × (List Int) => mkS [(0, AS v0), (4, .sl 0 0 s.2.length), (9, AI (v0.length : Int)), (10, AI s.1)] (fo [(0, .row true 1 (s.2.map vI))]) 1) hF ?_
 rintro k0 ⟨x2, x3⟩ hF
 rw [F_impl_ReadScale_l0] at hF
 try dsimp only
 refine ws 1 65 (qr (AB (decide (x2 < (v0.length : Int)))) (r_nil (w_seq ?_)))
 refine cF hF (fun hF => ?_) fun hF => ?_
 ·
  refine w_skip (thenQ_n (w_seq (w_block (ws 65 193 (qr (AI x2) (qr (AI x2) (r_nil (ws 193 897 (qr (AS v0) (qr (AI x2) (qr (AI x2) (qr (AI (w64 (x2 + 1))) (nk hF fun g0 hF => ?_)))))))))))))
  refine qp (AS (sub v0 x2 (w64 (x2 + 1)))) (ev_slcs rfl (bnd_some rfl g0.1) (bnd_some rfl (Int.le_trans g0.1 g0.2.1)) g0) (bk hF fun u1 e1 hF => qC (.tup [AI u1.1, AB u1.2]) [(K1w x3)] (con_impl_ToneNamed e1) c43_ (qr (.tup [AI u1.1, AB u1.2]) (qr (AI u1.1) (qr (AB u1.2) (qr (AI u1.1) (qr (AB u1.2) (r_nil (w_seq (ws 897 1025 (qr (AB u1.2) (qr (AB (!u1.2)) (r_nil ?_))))))))))))
  refine cF hF (fun hF => ?_) fun hF => ?_
  ·
   exact ws 1025 1153 (qf (.sl 1025 0 0) [(1025, .row true 1 (([] : List Int).map vI)), (K1w x3)] (by simp) (qb (r_nil (w_ret (thenQ_r (blockQ_r (thenQ_r (thenQ_r (blockQ_r (thenQ_r (eQ hF)))))))))))
  refine w_skip (thenQ_n (w_reg 1025 1345 rfl rfl (qr (.sl 0 0 x3.length) (qr (AI u1.1) (qf (.sl 1153 0 ([u1.1].length)) (K1v u1 x3) (by simp [List.take_of_length_le]) (nk hF fun g2 hF => qf (.sl 1217 0 ((x3 ++ [u1.1]).length)) ((1217, .row true 1 ((x3 ++ [u1.1]).map vI)) :: (0, .dead) :: (1153, .dead) :: (K1v u1 x3)) (effT_app_l rfl (by simp) rfl rfl (by simp) rfl (by decide) g2 rfl) (qr (.sl 1217 0 ((x3 ++ [u1.1]).length)) (r_nil (blockQ_n (thenQ_n (w_reg 1345 1473 rfl rfl ?_)))))))))))
  refine qr (AI (w64 (x2 + 1))) (qr (AI (w64 (x2 + 1))) (r_nil (thenQ_n ?_)))
  refine ar (l' := [(0, AS v0), (4, .sl 0 0 (x3 ++ [u1.1]).length), (9, AI (v0.length : Int)), (10, AI (w64 (x2 + 1)))]) (L := [(0, .row true 1 ((x3 ++ [u1.1]).map vI))]) [0, 4, 9, 10] [(1217, 0)] 1 ⟨_, by rfl, hF⟩
 refine w_exit (thenQ_e (thenQ_e (blockQ_e (thenQ_n (w_seq (ws 65 257 (qr (.sl 0 0 x3.length) (bk hF fun u3 e3 hF => qc (AB u3) [(K1w x3)] true (con_impl_ValidScale e3) c66_.2 (by simp [List.take_of_length_le]) rfl (qr (AB (!u3)) (r_nil ?_))))))))))
 refine cF hF (fun hF => ?_) fun hF => ?_
 ·
  exact ws 257 385 (qf (.sl 257 0 0) [(257, .row true 1 (([] : List Int).map vI)), (K1w x3)] (by simp) (qb (r_nil (w_ret (thenQ_r (eQ hF))))))
 exact w_skip (thenQ_n (ws 257 449 (qr (.sl 0 0 x3.length) (qr (.sl 0 0 x3.length) (qt (rR hF))))))

theorem c44_ok : okFn Tryz.prog 44 = true := by kernel_rfl




def c99 : MC := (sr [pT 2 (.mv cf)] (.seq (sr [mvt 5 0, pT 6 (.lens t5), pT 7 (.mv (ci 0))] (.block 0 (.loop (sr [bT 8 .lss t7 t6] (.seq (cx t8 0) (.seq (.block 1 (sr [mvt 9 7, mvt 3 9] (sr [mvt 10 0, mvt 11 3, pT 12 (.ixs t10 t11), mvt 4 12] (sr [mvt 13 4, pT 14 (.bin .lss t13 (.c (.int .u8 97))), mvt 15 14, nF 16 15 t4, kF 17 15 (.bin .gtr t16 (.c (.int .u8 122))), pT 18 (.pick t15 ct t17), mvt 19 18, nT 20 19 t4, kT 21 19 (.bin .lss t20 (.c (.int .u8 48))), nT 22 19 t21, nF 23 22 t4, kF 24 22 (.bin .gtr t23 (.c (.int .u8 57))), kT 25 19 (.pick t22 ct t24), pT 26 (.pick t19 t25 cf)] (.cond t26 (sr [pT 2 (.mv cf)] .ret) .skip))))) (.reg [bT 27 .add t7 (ci 1), mvt 7 27]))))))) (sr [pT 2 (.mv ct)] .ret)))
theorem c99_ : IsF Tryz.prog 99 c99 [(.tmp 2)] := ⟨by kernel_rfl, by kernel_rfl⟩

def F_impl_onlyNameBytes_l0 (v0 : List UInt8) (k0 : Int → Option (Bool)) : Int → Option (Bool)
 | x1 => (bif (decide (x1 < (v0.length : Int))) then ((ix v0 x1).bind fun u0 => (bif (decide ((u0.toNat : Int) < (97 : Int))) then (bif (decide ((u0.toNat : Int) < (48 : Int))) then some false
 else (bif (decide ((57 : Int) < (u0.toNat : Int))) then some false
 else k0 (w64 (x1 + 1))))
 else (bif (decide ((122 : Int) < (u0.toNat : Int))) then (bif (decide ((u0.toNat : Int) < (48 : Int))) then some false
 else (bif (decide ((57 : Int) < (u0.toNat : Int))) then some false
 else k0 (w64 (x1 + 1))))
 else k0 (w64 (x1 + 1)))))
 else some true)
def F_impl_onlyNameBytes (v0 : List UInt8) : Option (Bool) :=
 loop (F_impl_onlyNameBytes_l0 v0) 0
@[simp] def res_impl_onlyNameBytes (r : Bool) : RV := .one (.one (.val (.bool r)))
theorem con_impl_onlyNameBytes {v0 : List UInt8} {r : Bool} (hF : F_impl_onlyNameBytes v0 = some r) : Con Tryz.prog 99 [.str v0] (res_impl_onlyNameBytes r) := by
 unfold F_impl_onlyNameBytes at hF
 refine con_of c99_.1 fun N => ?_
 refine ws 0 64 (qb (r_nil (w_seq (ws 64 256 (qr (AS v0) (qr (AI (v0.length : Int)) (qr (AI 0) (r_nil (w_block ?_)))))))))
 refine wr (l' := [(0, AS v0), (6, AI (v0.length : Int)), (7, AI 0)]) (L := []) [0, 6, 7] [] 1 ?_
 refine w_loopF (F_impl_onlyNameBytes_l0 v0) (fun s : Int => mkS [(0, AS v0), (6, AI (v0.length : Int)), (7, AI s)] (fo []) 1) hF ?_
 rintro k0 x1 hF
 rw [F_impl_onlyNameBytes_l0] at hF
 try dsimp only
 refine ws 1 65 (qr (AB (decide (x1 < (v0.length : Int)))) (r_nil (w_seq ?_)))
 refine cF hF (fun hF => ?_) fun hF => ?_
 ·
  refine w_skip (thenQ_n (w_seq (w_block (ws 65 193 (qr (AI x1) (qr (AI x1) (r_nil (ws 193 449 (qr (AS v0) (qr (AI x1) (bk hF fun u0 e0 hF => qp (.val none (.int .u8 (u0.toNat : Int))) (ev_ixs rfl rfl e0) (qr (.val none (.int .u8 (u0.toNat : Int))) (r_nil (ws 449 1345 ?_))))))))))))))
  refine qr (.val none (.int .u8 (u0.toNat : Int))) (qr (AB (decide ((u0.toNat : Int) < (97 : Int)))) (qr (AB (decide ((u0.toNat : Int) < (97 : Int)))) ?_))
  refine q_case 15 hF rfl (fun hF => ?_) (fun hF => ?_)
  ·
   refine qn2 (qt (qt (qg (.val none (.int .u8 (u0.toNat : Int))) rfl rfl (qg (AB (decide ((u0.toNat : Int) < (48 : Int)))) rfl rfl (qg (AB (decide ((u0.toNat : Int) < (48 : Int)))) rfl rfl ?_)))))
   refine q_case 22 hF rfl (fun hF => qn2 (qg (AB true) rfl rfl (qt (r_nil (w_true rfl (ws 1345 1409 (qb (r_nil (w_ret (blockQ_r (thenQ_r (thenQ_r (blockQ_r (thenQ_r (eQ hF))))))))))))))) fun hF => ?_
   refine qg (.val none (.int .u8 (u0.toNat : Int))) rfl rfl (qg (AB (decide ((57 : Int) < (u0.toNat : Int)))) rfl rfl (qg (AB (decide ((57 : Int) < (u0.toNat : Int)))) rfl rfl (qr (AB (decide ((57 : Int) < (u0.toNat : Int)))) (r_nil (cF hF (fun hF => ws 1345 1409 (qb (r_nil (w_ret (blockQ_r (thenQ_r (thenQ_r (blockQ_r (thenQ_r (eQ hF)))))))))) fun hF => ?_)))))
   refine w_skip (blockQ_n (thenQ_n (w_reg 1345 1473 rfl rfl (qr (AI (w64 (x1 + 1))) (qr (AI (w64 (x1 + 1))) (r_nil (thenQ_n ?_)))))))
   refine ar (l' := [(0, AS v0), (6, AI (v0.length : Int)), (7, AI (w64 (x1 + 1)))]) (L := []) [0, 6, 7] [] 1 ⟨_, by rfl, hF⟩
  refine qg (.val none (.int .u8 (u0.toNat : Int))) rfl rfl (qg (AB (decide ((122 : Int) < (u0.toNat : Int)))) rfl rfl (qr (AB (decide ((122 : Int) < (u0.toNat : Int)))) (qr (AB (decide ((122 : Int) < (u0.toNat : Int)))) ?_)))
  refine q_case 19 hF rfl (fun hF => ?_) (fun hF => ?_)
  ·
   refine qg (.val none (.int .u8 (u0.toNat : Int))) rfl rfl (qg (AB (decide ((u0.toNat : Int) < (48 : Int)))) rfl rfl (qg (AB (decide ((u0.toNat : Int) < (48 : Int)))) rfl rfl ?_))
   refine q_case 22 hF rfl (fun hF => qn2 (qg (AB true) rfl rfl (qt (r_nil (w_true rfl (ws 1345 1409 (qb (r_nil (w_ret (blockQ_r (thenQ_r (thenQ_r (blockQ_r (thenQ_r (eQ hF))))))))))))))) fun hF => ?_
   refine qg (.val none (.int .u8 (u0.toNat : Int))) rfl rfl (qg (AB (decide ((57 : Int) < (u0.toNat : Int)))) rfl rfl (qg (AB (decide ((57 : Int) < (u0.toNat : Int)))) rfl rfl (qr (AB (decide ((57 : Int) < (u0.toNat : Int)))) (r_nil (cF hF (fun hF => ws 1345 1409 (qb (r_nil (w_ret (blockQ_r (thenQ_r (thenQ_r (blockQ_r (thenQ_r (eQ hF)))))))))) fun hF => ?_)))))
   refine w_skip (blockQ_n (thenQ_n (w_reg 1345 1473 rfl rfl (qr (AI (w64 (x1 + 1))) (qr (AI (w64 (x1 + 1))) (r_nil (thenQ_n ?_)))))))
   refine ar (l' := [(0, AS v0), (6, AI (v0.length : Int)), (7, AI (w64 (x1 + 1)))]) (L := []) [0, 6, 7] [] 1 ⟨_, by rfl, hF⟩
  refine qn3 (qu rfl (qu rfl (qn rfl (qb (r_nil (w_false rfl (w_skip (blockQ_n (thenQ_n (w_reg 1345 1473 rfl rfl ?_))))))))))
  refine qr (AI (w64 (x1 + 1))) (qr (AI (w64 (x1 + 1))) (r_nil (thenQ_n ?_)))
  refine ar (l' := [(0, AS v0), (6, AI (v0.length : Int)), (7, AI (w64 (x1 + 1)))]) (L := []) [0, 6, 7] [] 1 ⟨_, by rfl, hF⟩
 exact w_exit (thenQ_e (thenQ_e (blockQ_e (thenQ_n (ws 65 129 (qt (rR hF)))))))

def c82 : MC := (sr [pT 2 (.mv cf)] (.seq (sr [mvt 3 0, pT 4 (.lens t3), bT 5 .lss t4 (ci 1), mvt 6 5, nF 7 6 t0, kF 8 6 (.lens t7), kF 9 6 (.bin .gtr t8 (ci 10)), pT 10 (.pick t6 ct t9), mvt 11 10, nF 12 11 t0, kF 13 11 (.ixs t12 (ci 0)), kF 14 11 (.bin .lss t13 (.c (.int .u8 97))), pT 15 (.pick t11 ct t14), mvt 16 15, nF 17 16 t0, kF 18 16 (.ixs t17 (ci 0)), kF 19 16 (.bin .gtr t18 (.c (.int .u8 122))), pT 20 (.pick t16 ct t19)] (.cond t20 (sr [pT 2 (.mv cf)] .ret) .skip)) (sr [mvt 21 0, dT 22 99 [t21], mvt 2 22] .ret)))
theorem c82_ : IsF Tryz.prog 82 c82 [(.tmp 2)] := ⟨by kernel_rfl, by kernel_rfl⟩

def F_impl_IsName (v0 : List UInt8) : Option (Bool) :=
 (bif (decide ((v0.length : Int) < (1 : Int))) then some false
 else (bif (decide ((10 : Int) < (v0.length : Int))) then some false
 else ((ix v0 0).bind fun u0 => (bif (decide ((u0.toNat : Int) < (97 : Int))) then some false
 else ((ix v0 0).bind fun u1 => (bif (decide ((122 : Int) < (u1.toNat : Int))) then some false
 else ((F_impl_onlyNameBytes v0).bind fun u2 => some u2)))))))
@[simp] def res_impl_IsName (r : Bool) : RV := .one (.one (.val (.bool r)))
theorem con_impl_IsName {v0 : List UInt8} {r : Bool} (hF : F_impl_IsName v0 = some r) : Con Tryz.prog 82 [.str v0] (res_impl_IsName r) := by
 unfold F_impl_IsName at hF
 refine con_of c82_.1 fun N => ?_
 refine ws 0 64 (qb (r_nil (w_seq (ws 64 1216 (qr (AS v0) (qr (AI (v0.length : Int)) (qr (AB (decide ((v0.length : Int) < (1 : Int)))) (qr (AB (decide ((v0.length : Int) < (1 : Int)))) ?_))))))))
 refine q_case 6 hF rfl (fun hF => ?_) (fun hF => ?_)
 ·
  refine qn3 (qt (qt (qn3 (qt (qt (qn3 (qt (r_nil (w_true rfl (ws 1216 1280 (qb (r_nil (w_ret ?_)))))))))))))
  exact thenQ_r (eQ hF)
 refine qg (AS v0) rfl rfl (qg (AI (v0.length : Int)) rfl rfl (qg (AB (decide ((10 : Int) < (v0.length : Int)))) rfl rfl (qr (AB (decide ((10 : Int) < (v0.length : Int)))) (qr (AB (decide ((10 : Int) < (v0.length : Int)))) ?_))))
 refine q_case 11 hF rfl (fun hF => qn3 (qt (qt (qn3 (qt (r_nil (w_true rfl (ws 1216 1280 (qb (r_nil (w_ret (thenQ_r (eQ hF))))))))))))) fun hF => ?_
 refine qg (AS v0) rfl rfl (bk hF fun u0 e0 hF => qg (.val none (.int .u8 (u0.toNat : Int))) rfl (ev_ixs rfl rfl e0) (qg (AB (decide ((u0.toNat : Int) < (97 : Int)))) rfl rfl (qr (AB (decide ((u0.toNat : Int) < (97 : Int)))) (qr (AB (decide ((u0.toNat : Int) < (97 : Int)))) (q_case 16 hF rfl (fun hF => qn3 (qt (r_nil (w_true rfl (ws 1216 1280 (qb (r_nil (w_ret (thenQ_r (eQ hF)))))))))) fun hF => ?_)))))
 refine qg (AS v0) rfl rfl (bk hF fun u1 e1 hF => qg (.val none (.int .u8 (u1.toNat : Int))) rfl (ev_ixs rfl rfl e1) (qg (AB (decide ((122 : Int) < (u1.toNat : Int)))) rfl rfl (qr (AB (decide ((122 : Int) < (u1.toNat : Int)))) (r_nil (cF hF (fun hF => ws 1216 1280 (qb (r_nil (w_ret (thenQ_r (eQ hF)))))) fun hF => ?_)))))
 exact w_skip (thenQ_n (ws 1216 1408 (qr (AS v0) (bk hF fun u2 e2 hF => qC (AB u2) [] (con_impl_onlyNameBytes e2) c99_ (qr (AB u2) (rR hF))))))

def c107 : MC := (sr [pT 4 (.mv (ci 0))] (.seq (sr [mvt 6 0, zT 7 6, pT 8 (.mv (ci 0))] (.block 0 (.loop (sr [bT 9 .lss t8 t7] (.seq (cx t9 0) (.seq (.block 1 (sr [mvt 10 8, mvt 5 10] (sr [mvt 11 1, mvt 12 0, mvt 13 5, iT 14 12 13 1, lT 15 14, bT 16 .eql t11 t15] (.cond t16 (sr [mvt 17 5, mvt 4 17] .ret) .skip)))) (.reg [bT 18 .add t8 (ci 1), mvt 8 18]))))))) (sr [pT 4 (.mv (ci (-1)))] .ret)))
theorem c107_ : IsF Tryz.prog 107 c107 [(.tmp 4)] := ⟨by kernel_rfl, by kernel_rfl⟩

def F_slices_Index_Sint64_int64_l0 (v0 : List Int) (v1 : Int) (k0 : Int → Option (Int)) : Int → Option (Int)
 | x1 => (bif (decide (x1 < (v0.length : Int))) then ((ix v0 x1).bind fun u0 => (bif (decide (v1 = u0)) then some x1
 else k0 (w64 (x1 + 1))))
 else some (-1))
def F_slices_Index_Sint64_int64 (v0 : List Int) (v1 : Int) : Option (Int) :=
 loop (F_slices_Index_Sint64_int64_l0 v0 v1) 0
@[simp] def res_slices_Index_Sint64_int64 (r : Int) : RV := .one (.one (.val (.int .i64 r)))
theorem con_slices_Index_Sint64_int64 {v0 : List Int} {v1 : Int} {r : Int} (hF : F_slices_Index_Sint64_int64 v0 v1 = some r) : Con Tryz.prog 107 [.sl 1 (v0.map vI), .int .i64 v1] (res_slices_Index_Sint64_int64 r) := by
 unfold F_slices_Index_Sint64_int64 at hF
 refine con_of c107_.1 fun N => ?_
 refine ws 0 64 (qr (AI 0) (r_nil (w_seq (ws 64 256 (qr (AL 1 (v0.map vI)) (qp (AI (v0.length : Int)) (ev_len_n rfl) (qr (AI 0) (r_nil (w_block ?_)))))))))
 refine wr (l' := [(0, AL 1 (v0.map vI)), (1, AI v1), (7, AI (v0.length : Int)), (8, AI 0)]) (L := []) [0, 1, 7, 8] [] 1 ?_
 refine w_loopF (F_slices_Index_Sint64_int64_l0 v0 v1) (fun s : Int => mkS [(0, AL 1 (v0.map vI)), (1, AI v1), (7, AI (v0.length : Int)), (8, AI s)] (fo []) 1) hF ?_
 rintro k0 x1 hF
 rw [F_slices_Index_Sint64_int64_l0] at hF
 try dsimp only
 refine ws 1 65 (qr (AB (decide (x1 < (v0.length : Int)))) (r_nil (w_seq ?_)))
 refine cF hF (fun hF => ?_) fun hF => ?_
 ·
  refine w_skip (thenQ_n (w_seq (w_block (ws 65 193 (qr (AI x1) (qr (AI x1) (r_nil (ws 193 577 (qr (AI v1) (qr (AL 1 (v0.map vI)) (qr (AI x1) (bk hF fun u0 e0 hF => ?_))))))))))))
  refine qp (.val none (.ptr [.int .i64 u0])) (ev_iad_n rfl rfl e0 rfl) (qr (AI u0) (qr (AB (decide (v1 = u0))) (r_nil (cF hF (fun hF => ws 577 705 (qr (AI x1) (qr (AI x1) (r_nil (w_ret (blockQ_r (thenQ_r (thenQ_r (blockQ_r (thenQ_r (eQ hF))))))))))) fun hF => ?_))))
  refine w_skip (blockQ_n (thenQ_n (w_reg 577 705 rfl rfl (qr (AI (w64 (x1 + 1))) (qr (AI (w64 (x1 + 1))) (r_nil (thenQ_n ?_)))))))
  refine ar (l' := [(0, AL 1 (v0.map vI)), (1, AI v1), (7, AI (v0.length : Int)), (8, AI (w64 (x1 + 1)))]) (L := []) [0, 1, 7, 8] [] 1 ⟨_, by rfl, hF⟩
 exact w_exit (thenQ_e (thenQ_e (blockQ_e (thenQ_n (ws 65 129 (qr (AI (-1)) (rR hF)))))))

def c100 : MC := (sr [pT 4 (.mv cf)] (sr [mvt 5 0, mvt 6 1, dT 7 107 [t5, t6], bT 8 .geq t7 (ci 0), mvt 4 8] .ret))
theorem c100_ : IsF Tryz.prog 100 c100 [(.tmp 4)] := ⟨by kernel_rfl, by kernel_rfl⟩

def F_slices_Contains_Sint64_int64 (v0 : List Int) (v1 : Int) : Option (Bool) :=
 ((F_slices_Index_Sint64_int64 v0 v1).bind fun u0 => some (decide ((0 : Int) ≤ u0)))
@[simp] def res_slices_Contains_Sint64_int64 (r : Bool) : RV := .one (.one (.val (.bool r)))
theorem con_slices_Contains_Sint64_int64 {v0 : List Int} {v1 : Int} {r : Bool} (hF : F_slices_Contains_Sint64_int64 v0 v1 = some r) : Con Tryz.prog 100 [.sl 1 (v0.map vI), .int .i64 v1] (res_slices_Contains_Sint64_int64 r) := by
 unfold F_slices_Contains_Sint64_int64 at hF
 refine con_of c100_.1 fun N => ?_
 exact ws 0 64 (qb (r_nil (ws 64 384 (qr (AL 1 (v0.map vI)) (qr (AI v1) (bk hF fun u0 e0 hF => qC (AI u0) [] (con_slices_Index_Sint64_int64 e0) c107_ (qr (AB (decide ((0 : Int) ≤ u0))) (qr (AB (decide ((0 : Int) ≤ u0))) (rR hF)))))))))

def c83 : MC := (sr [rg 2 (.f (.box t0)), pT 4 (.mv cf)] (sr [pT 5 (.fad t2 1), lT 6 5, mvt 7 1, dT 8 100 [t6, t7], mvt 9 8, kF 10 9 (.fad t2 2), kF 11 9 (.ld t10 1 false), nF 12 9 t1, ⟨(some 13), (some (9, false)), (.call true 100 [t11, t12])⟩, pT 14 (.pick t9 ct t13), mvt 4 14] .ret))
theorem c83_ : IsF Tryz.prog 83 c83 [(.tmp 4)] := ⟨by kernel_rfl, by kernel_rfl⟩

def F_impl_Raga_hasTone (v0 : TRaga) (v1 : Int) : Option (Bool) :=
 ((F_slices_Contains_Sint64_int64 v0.2.1 v1).bind fun u0 => (bif u0 then some true
 else ((F_slices_Contains_Sint64_int64 v0.2.2.1 v1).bind fun u1 => some u1)))
@[simp] abbrev K1x (v0 : TRaga) : List (Nat × Root) := [(0, .box [AS v0.1, AL 1 (v0.2.1.map vI), AL 1 (v0.2.2.1.map vI), AI v0.2.2.2.1, AI v0.2.2.2.2.1, AL 1 (v0.2.2.2.2.2.map (eL 1 vI))])]
@[simp] def res_impl_Raga_hasTone (r : Bool) : RV := .one (.one (.val (.bool r)))
theorem con_impl_Raga_hasTone {v0 : TRaga} {v1 : Int} {r : Bool} (hF : F_impl_Raga_hasTone v0 v1 = some r) : Con Tryz.prog 83 [eRaga v0, .int .i64 v1] (res_impl_Raga_hasTone r) := by
 unfold F_impl_Raga_hasTone at hF
 refine con_of c83_.1 fun N => ?_
 refine ws 0 128 (qf (.ptr 0 0 0) (K1x v0) (by simp) (qb (r_nil (ws 128 832 (qr (.ptr 0 0 1) (qr (AL 1 (v0.2.1.map vI)) (qr (AI v1) (bk hF fun u0 e0 hF => qC (AB u0) (K1x v0) (con_slices_Contains_Sint64_int64 e0) c100_ (qr (AB u0) (q_case 9 hF rfl (fun hF => qn4 (qt (qt (rR hF)))) fun hF => ?_))))))))))
 exact qg (.ptr 0 0 2) rfl rfl (qg (AL 1 (v0.2.2.1.map vI)) rfl rfl (qg (AI v1) rfl rfl (bk hF fun u1 e1 hF => qG (AB u1) (K1x v0) (con_slices_Contains_Sint64_int64 e1) c100_ (qr (AB u1) (qr (AB u1) (rR hF))))))

def c101 : MC := (sr [pT 6 (.mv cf)] (sr [mvt 7 0, mvt 8 1, bT 9 .geq t7 t8, mvt 10 9, nT 11 10 t0, nT 12 10 t2, kT 13 10 (.bin .leq t11 t12), pT 14 (.pick t10 t13 cf), mvt 6 14] .ret))
theorem c101_ : IsF Tryz.prog 101 c101 [(.tmp 6)] := ⟨by kernel_rfl, by kernel_rfl⟩

def F_impl_within (v0 : Int) (v1 : Int) (v2 : Int) : Option (Bool) :=
 (bif (decide (v1 ≤ v0)) then some (decide (v0 ≤ v2))
 else some false)
@[simp] def res_impl_within (r : Bool) : RV := .one (.one (.val (.bool r)))
theorem con_impl_within {v0 : Int} {v1 : Int} {v2 : Int} {r : Bool} (hF : F_impl_within v0 v1 v2 = some r) : Con Tryz.prog 101 [.int .i64 v0, .int .i64 v1, .int .i64 v2] (res_impl_within r) := by
 unfold F_impl_within at hF
 refine con_of c101_.1 fun N => ?_
 refine ws 0 64 (qb (r_nil (ws 64 640 (qr (AI v0) (qr (AI v1) (qr (AB (decide (v1 ≤ v0))) (qr (AB (decide (v1 ≤ v0))) (q_case 10 hF rfl (fun hF => qg (AI v0) rfl rfl (qg (AI v2) rfl rfl (qg (AB (decide (v0 ≤ v2))) rfl rfl (qr (AB (decide (v0 ≤ v2))) (qr (AB (decide (v0 ≤ v2))) (rR hF)))))) fun hF => ?_))))))))
 exact qn3 (qb (qb (rR hF)))

def c84 : MC := (sr [pT 2 (.mv cf)] (sr [mvt 3 0, dT 4 101 [t3, (ci 0), (ci 11)], mvt 2 4] .ret))
theorem c84_ : IsF Tryz.prog 84 c84 [(.tmp 2)] := ⟨by kernel_rfl, by kernel_rfl⟩

def F_impl_toneOk (v0 : Int) : Option (Bool) :=
 ((F_impl_within v0 0 11).bind fun u0 => some u0)
@[simp] def res_impl_toneOk (r : Bool) : RV := .one (.one (.val (.bool r)))
theorem con_impl_toneOk {v0 : Int} {r : Bool} (hF : F_impl_toneOk v0 = some r) : Con Tryz.prog 84 [.int .i64 v0] (res_impl_toneOk r) := by
 unfold F_impl_toneOk at hF
 refine con_of c84_.1 fun N => ?_
 exact ws 0 64 (qb (r_nil (ws 64 256 (qr (AI v0) (bk hF fun u0 e0 hF => qC (AB u0) [] (con_impl_within e0) c101_ (qr (AB u0) (rR hF)))))))

def c108 : MC := (sr [pT 2 (.mv cf)] (sr [mvt 3 0, mvt 4 0, bT 5 .neq t3 t4, mvt 2 5] .ret))
theorem c108_ : IsF Tryz.prog 108 c108 [(.tmp 2)] := ⟨by kernel_rfl, by kernel_rfl⟩

def F_cmp_isNaN_int64 (v0 : Int) : Option (Bool) :=
 some (decide (v0 ≠ v0))
@[simp] def res_cmp_isNaN_int64 (r : Bool) : RV := .one (.one (.val (.bool r)))
theorem con_cmp_isNaN_int64 {v0 : Int} {r : Bool} (hF : F_cmp_isNaN_int64 v0 = some r) : Con Tryz.prog 108 [.int .i64 v0] (res_cmp_isNaN_int64 r) := by
 unfold F_cmp_isNaN_int64 at hF
 refine con_of c108_.1 fun N => ?_
 exact ws 0 64 (qb (r_nil (ws 64 320 (qr (AI v0) (qr (AI v0) (qr (AB (decide (v0 ≠ v0))) (qr (AB (decide (v0 ≠ v0))) (rR hF))))))))

def c102 : MC := (sr [pT 4 (.mv (ci 0))] (sr [mvt 7 0, dT 8 108 [t7], mvt 5 8] (sr [mvt 9 1, dT 10 108 [t9], mvt 6 10] (.seq (sr [mvt 11 5] (.cond t11 (.seq (sr [mvt 12 6] (.cond t12 (sr [pT 4 (.mv (ci 0))] .ret) .skip)) (sr [pT 4 (.mv (ci (-1)))] .ret)) .skip)) (.seq (sr [mvt 13 6] (.cond t13 (sr [pT 4 (.mv (ci 1))] .ret) .skip)) (.seq (sr [mvt 14 0, mvt 15 1, bT 16 .lss t14 t15] (.cond t16 (sr [pT 4 (.mv (ci (-1)))] .ret) .skip)) (.seq (sr [mvt 17 0, mvt 18 1, bT 19 .gtr t17 t18] (.cond t19 (sr [pT 4 (.mv (ci 1))] .ret) .skip)) (sr [pT 4 (.mv (ci 0))] .ret))))))))
theorem c102_ : IsF Tryz.prog 102 c102 [(.tmp 4)] := ⟨by kernel_rfl, by kernel_rfl⟩

def F_cmp_Compare_int64 (v0 : Int) (v1 : Int) : Option (Int) :=
 ((F_cmp_isNaN_int64 v0).bind fun u0 => ((F_cmp_isNaN_int64 v1).bind fun u1 => (bif u0 then (bif u1 then some 0
 else some (-1))
 else (bif u1 then some 1
 else (bif (decide (v0 < v1)) then some (-1)
 else (bif (decide (v1 < v0)) then some 1
 else some 0))))))
@[simp] def res_cmp_Compare_int64 (r : Int) : RV := .one (.one (.val (.int .i64 r)))
theorem con_cmp_Compare_int64 {v0 : Int} {v1 : Int} {r : Int} (hF : F_cmp_Compare_int64 v0 v1 = some r) : Con Tryz.prog 102 [.int .i64 v0, .int .i64 v1] (res_cmp_Compare_int64 r) := by
 unfold F_cmp_Compare_int64 at hF
 refine con_of c102_.1 fun N => ?_
 refine ws 0 64 (qr (AI 0) (r_nil (ws 64 256 (qr (AI v0) (bk hF fun u0 e0 hF => qC (AB u0) [] (con_cmp_isNaN_int64 e0) c108_ (qr (AB u0) (r_nil (ws 256 448 (qr (AI v1) (bk hF fun u1 e1 hF => qC (AB u1) [] (con_cmp_isNaN_int64 e1) c108_ (qr (AB u1) (r_nil (w_seq (ws 448 512 (qr (AB u0) ?_)))))))))))))))
 refine r_nil ?_
 refine cF hF (fun hF => ?_) fun hF => ?_
 ·
  refine w_seq (ws 512 576 (qr (AB u1) (r_nil (cF hF (fun hF => ws 576 640 (qr (AI 0) (r_nil (w_ret (thenQ_r (thenQ_r (eQ hF))))))) fun hF => ?_))))
  exact w_skip (thenQ_n (ws 576 640 (qr (AI (-1)) (r_nil (w_ret (thenQ_r (eQ hF)))))))
 refine w_skip (thenQ_n (w_seq (ws 512 576 (qr (AB u1) (r_nil (cF hF (fun hF => ws 576 640 (qr (AI 1) (r_nil (w_ret (thenQ_r (eQ hF)))))) fun hF => ?_))))))
 refine w_skip (thenQ_n (w_seq (ws 576 768 (qr (AI v0) (qr (AI v1) (qr (AB (decide (v0 < v1))) (r_nil (cF hF (fun hF => ws 768 832 (qr (AI (-1)) (r_nil (w_ret (thenQ_r (eQ hF)))))) fun hF => ?_))))))))
 refine w_skip (thenQ_n (w_seq (ws 768 960 (qr (AI v0) (qr (AI v1) (qr (AB (decide (v1 < v0))) (r_nil (cF hF (fun hF => ws 960 1024 (qr (AI 1) (r_nil (w_ret (thenQ_r (eQ hF)))))) fun hF => ?_))))))))
 exact w_skip (thenQ_n (ws 960 1024 (qr (AI 0) (rR hF))))

def c85 : MC := (sr [pT 4 (.mv (ci 0))] (.seq (sr [mvt 9 0, zT 10 9, pT 11 (.mv (ci 0))] (.block 0 (.loop (sr [bT 12 .lss t11 t10] (.seq (cx t12 0) (.seq (.block 1 (sr [mvt 13 11, iT 14 9 11 1, lT 15 14, mvt 5 13, mvt 6 15] (.seq (sr [mvt 16 5, mvt 17 1, zT 18 17, bT 19 .geq t16 t18] (.cond t19 (sr [pT 4 (.mv (ci 1))] .ret) .skip)) (sr [mvt 20 1, mvt 21 5, iT 22 20 21 1, lT 23 22, mvt 7 23] (sr [mvt 24 6, mvt 25 7, dT 26 102 [t24, t25], mvt 8 26] (sr [mvt 27 8, bT 28 .neq t27 (ci 0)] (.cond t28 (sr [mvt 29 8, mvt 4 29] .ret) .skip))))))) (.reg [bT 30 .add t11 (ci 1), mvt 11 30]))))))) (.seq (sr [mvt 31 0, zT 32 31, mvt 33 1, zT 34 33, bT 35 .lss t32 t34] (.cond t35 (sr [pT 4 (.mv (ci (-1)))] .ret) .skip)) (sr [pT 4 (.mv (ci 0))] .ret))))
theorem c85_ : IsF Tryz.prog 85 c85 [(.tmp 4)] := ⟨by kernel_rfl, by kernel_rfl⟩

def F_slices_Compare_Sint64_int64_l0 (v0 : List Int) (v1 : List Int) (k0 : Int → Option (Int)) : Int → Option (Int)
 | x1 => (bif (decide (x1 < (v0.length : Int))) then ((ix v0 x1).bind fun u0 => (bif (decide ((v1.length : Int) ≤ x1)) then some 1
 else ((ix v1 x1).bind fun u1 => ((F_cmp_Compare_int64 u0 u1).bind fun u2 => (bif (decide (u2 ≠ (0 : Int))) then some u2
 else k0 (w64 (x1 + 1)))))))
 else (bif (decide ((v0.length : Int) < (v1.length : Int))) then some (-1)
 else some 0))
def F_slices_Compare_Sint64_int64 (v0 : List Int) (v1 : List Int) : Option (Int) :=
 loop (F_slices_Compare_Sint64_int64_l0 v0 v1) 0
@[simp] abbrev K1y (v0 : List Int) : V := .sl 1 (v0.map vI)
@[simp] abbrev K1z (v1 : List Int) : V := .sl 1 (v1.map vI)
@[simp] def res_slices_Compare_Sint64_int64 (r : Int) : RV := .one (.one (.val (.int .i64 r)))
theorem con_slices_Compare_Sint64_int64 {v0 : List Int} {v1 : List Int} {r : Int} (hF : F_slices_Compare_Sint64_int64 v0 v1 = some r) : Con Tryz.prog 85 [.sl 1 (v0.map vI), .sl 1 (v1.map vI)] (res_slices_Compare_Sint64_int64 r) := by
 unfold F_slices_Compare_Sint64_int64 at hF
 refine con_of c85_.1 fun N => ?_
 refine ws 0 64 (qr (AI 0) (r_nil (w_seq (ws 64 256 (qr (.val none (K1y v0)) (qp (AI (v0.length : Int)) (ev_len_n rfl) (qr (AI 0) (r_nil (w_block ?_)))))))))
 refine wr (l' := [(0, .val none (K1y v0)), (1, .val none (K1z v1)), (9, .val none (K1y v0)), (10, AI (v0.length : Int)), (11, AI 0)]) (L := []) [0, 1, 9, 10, 11] [] 1 ?_
 refine w_loopF (F_slices_Compare_Sint64_int64_l0 v0 v1) (fun s : Int => mkS [(0, .val none (K1y v0)), (1, .val none (K1z v1)), (9, .val none (K1y v0)), (10, AI (v0.length : Int)), (11, AI s)] (fo []) 1) hF ?_
 rintro k0 x1 hF
 rw [F_slices_Compare_Sint64_int64_l0] at hF
 try dsimp only
 refine ws 1 65 (qr (AB (decide (x1 < (v0.length : Int)))) (r_nil (w_seq ?_)))
 refine cF hF (fun hF => ?_) fun hF => ?_
 ·
  refine w_skip (thenQ_n (w_seq (w_block (ws 65 385 (qr (AI x1) (bk hF fun u0 e0 hF => qp (.val none (.ptr [.int .i64 u0])) (ev_iad_n rfl rfl e0 rfl) (qr (AI u0) (qr (AI x1) (qr (AI u0) (r_nil (w_seq (ws 385 641 ?_))))))))))))
  refine qr (AI x1) (qr (.val none (K1z v1)) (qp (AI (v1.length : Int)) (ev_len_n rfl) (qr (AB (decide ((v1.length : Int) ≤ x1))) (r_nil (cF hF (fun hF => ws 641 705 (qr (AI 1) (r_nil (w_ret (thenQ_r (blockQ_r (thenQ_r (thenQ_r (blockQ_r (thenQ_r (eQ hF))))))))))) fun hF => ?_)))))
  refine w_skip (thenQ_n (ws 641 961 (qr (.val none (K1z v1)) (qr (AI x1) (bk hF fun u1 e1 hF => qp (.val none (.ptr [.int .i64 u1])) (ev_iad_n rfl rfl e1 rfl) (qr (AI u1) (qr (AI u1) (r_nil (ws 961 1217 (qr (AI u0) (qr (AI u1) (bk hF fun u2 e2 hF => qC (AI u2) [] (con_cmp_Compare_int64 e2) c102_ (qr (AI u2) (r_nil (ws 1217 1345 ?_)))))))))))))))
  refine qr (AI u2) (qr (AB (decide (u2 ≠ (0 : Int)))) (r_nil (cF hF (fun hF => ws 1345 1473 (qr (AI u2) (qr (AI u2) (r_nil (w_ret (blockQ_r (thenQ_r (thenQ_r (blockQ_r (thenQ_r (eQ hF))))))))))) fun hF => ?_)))
  refine w_skip (blockQ_n (thenQ_n (w_reg 1345 1473 rfl rfl (qr (AI (w64 (x1 + 1))) (qr (AI (w64 (x1 + 1))) (r_nil (thenQ_n ?_)))))))
  refine ar (l' := [(0, .val none (K1y v0)), (1, .val none (K1z v1)), (9, .val none (K1y v0)), (10, AI (v0.length : Int)), (11, AI (w64 (x1 + 1)))]) (L := []) [0, 1, 9, 10, 11] [] 1 ⟨_, by rfl, hF⟩
 refine w_exit (thenQ_e (thenQ_e (blockQ_e (thenQ_n (w_seq (ws 65 385 (qr (.val none (K1y v0)) (qp (AI (v0.length : Int)) (ev_len_n rfl) (qr (.val none (K1z v1)) (qp (AI (v1.length : Int)) (ev_len_n rfl) (qr (AB (decide ((v0.length : Int) < (v1.length : Int)))) (r_nil ?_))))))))))))
 refine cF hF (fun hF => ws 385 449 (qr (AI (-1)) (r_nil (w_ret (thenQ_r (eQ hF)))))) fun hF => ?_
 exact w_skip (thenQ_n (ws 385 449 (qr (AI 0) (rR hF))))

def c68 : MC := (sr [rg 1 (.f (.box t0)), pT 2 (.mv cf)] (.seq (sr [pT 5 (.fad t1 0), lT 6 5, dT 7 82 [t6], pT 8 (.not t7), mvt 9 8, kF 10 9 (.fad t1 1), kF 11 9 (.ld t10 1 false), ⟨(some 12), (some (9, false)), (.call true 66 [t11])⟩, kF 13 9 (.not t12), pT 14 (.pick t9 ct t13), mvt 15 14, kF 16 15 (.fad t1 2), kF 17 15 (.ld t16 1 false), ⟨(some 18), (some (15, false)), (.call true 66 [t17])⟩, kF 19 15 (.not t18), pT 20 (.pick t15 ct t19), mvt 21 20, kF 22 21 (.fad t1 3), kF 23 21 (.ld t22 1 false), kF 24 21 (.fad t1 4), kF 25 21 (.ld t24 1 false), kF 26 21 (.bin .eql t23 t25), pT 27 (.pick t21 ct t26), mvt 28 27, kF 29 28 (.ld t1 6 true), kF 30 28 (.fad t1 3), kF 31 28 (.ld t30 1 false), ⟨(some 32), (some (28, false)), (.call true 83 [t29, t31])⟩, kF 33 28 (.not t32), pT 34 (.pick t28 ct t33), mvt 35 34, kF 36 35 (.ld t1 6 true), kF 37 35 (.fad t1 4), kF 38 35 (.ld t37 1 false), ⟨(some 39), (some (35, false)), (.call true 83 [t36, t38])⟩, kF 40 35 (.not t39), pT 41 (.pick t35 ct t40), mvt 42 41, kF 43 42 (.fad t1 5), kF 44 42 (.ld t43 1 false), kF 45 42 (.len t44), kF 46 42 (.bin .gtr t45 (ci 8)), pT 47 (.pick t42 ct t46)] (.cond t47 (sr [pT 2 (.mv cf)] .ret) .skip)) (.seq (sr [pT 48 (.fad t1 5), lT 49 48, zT 50 49, pT 51 (.mv (ci 0))] (.block 0 (.loop (sr [bT 52 .lss t51 t50] (.seq (cx t52 0) (.seq (.block 1 (sr [mvt 53 51, iT 54 49 51 1, lT 55 54, mvt 3 53, mvt 4 55] (sr [mP 56 t4, zF 57 56, bF 58 .neq t57 (ci 2), mP 59 t58, mF 60 59 t4, jH 61 59 60 0 1, lH 62 59 61, ⟨(some 63), (some (59, false)), (.call false 84 [t62])⟩, gF 64 59 (.not t63), pF 65 (.pick t59 ct t64), mP 66 t65, mF 67 66 t4, jH 68 66 67 1 1, lH 69 66 68, ⟨(some 70), (some (66, false)), (.call false 84 [t69])⟩, gF 71 66 (.not t70), pF 72 (.pick t66 ct t71), mP 73 t72, mF 74 73 t4, jH 75 73 74 0 1, lH 76 73 75, mF 77 73 t4, jH 78 73 77 1 1, lH 79 73 78, bH 80 73 .eql t76 t79, pF 81 (.pick t73 ct t80), mP 82 t81, mF 83 82 t3, bH 84 82 .gtr t83 (ci 0), mF 85 82 t84, gT 86 85 (.fad t1 5), lG 87 85 86, mT 88 85 t3, bG 89 85 .sub t88 (ci 1), iG 90 85 87 89 1, lG 91 85 90, mT 92 85 t4, ⟨(some 93), (some (85, true)), (.call false 85 [t91, t92])⟩, bG 94 85 .geq t93 (ci 0), gF 95 82 (.pick t85 t94 cf), pF 96 (.pick t82 ct t95)] (.cond t96 (sr [pT 2 (.mv cf)] .ret) .skip)))) (.reg [bT 97 .add t51 (ci 1), mvt 51 97]))))))) (sr [pT 2 (.mv ct)] .ret))))
theorem c68_ : IsF Tryz.prog 68 c68 [(.tmp 2)] := ⟨by kernel_rfl, by kernel_rfl⟩

def F_impl_ValidRaga_l0 (v0 : TRaga) (k1 : Int → Option (Bool)) : Int → Option (Bool)
 | x3 => (bif (decide (x3 < (v0.2.2.2.2.2.length : Int))) then ((ix v0.2.2.2.2.2 x3).bind fun u23 => (bif (decide ((u23.length : Int) ≠ (2 : Int))) then some false
 else ((ix u23 0).bind fun u24 => ((F_impl_toneOk u24).bind fun u25 => (bif (!u25) then some false
 else ((ix u23 1).bind fun u26 => ((F_impl_toneOk u26).bind fun u27 => (bif (!u27) then some false
 else ((ix u23 0).bind fun u28 => ((ix u23 1).bind fun u29 => (bif (decide (u28 = u29)) then some false
 else (bif (decide ((0 : Int) < x3)) then ((ix v0.2.2.2.2.2 (w64 (x3 - 1))).bind fun u30 => ((F_slices_Compare_Sint64_int64 u30 u23).bind fun u31 => (bif (decide ((0 : Int) ≤ u31)) then some false
 else k1 (w64 (x3 + 1)))))
 else k1 (w64 (x3 + 1))))))))))))))
 else some true)
def F_impl_ValidRaga (v0 : TRaga) : Option (Bool) :=
 ((F_impl_IsName v0.1).bind fun u0 => (bif (!u0) then some false
 else ((F_impl_ValidScale v0.2.1).bind fun u1 => (bif (!u1) then some false
 else ((F_impl_ValidScale v0.2.2.1).bind fun u2 => (bif (!u2) then some false
 else (bif (decide (v0.2.2.2.1 = v0.2.2.2.2.1)) then some false
 else ((F_impl_Raga_hasTone v0 v0.2.2.2.1).bind fun u3 => (bif (!u3) then some false
 else ((F_impl_Raga_hasTone v0 v0.2.2.2.2.1).bind fun u4 => (bif (!u4) then some false
 else (bif (decide ((8 : Int) < (v0.2.2.2.2.2.length : Int))) then some false
 else loop (F_impl_ValidRaga_l0 v0) 0))))))))))))
@[simp] abbrev K22 (v0 : TRaga) : V := .sl 1 (v0.2.2.2.2.2.map (eL 1 vI))
@[simp] abbrev K21 (v0 : TRaga) : List AV := [AS v0.1, AL 1 (v0.2.1.map vI), AL 1 (v0.2.2.1.map vI), AI v0.2.2.2.1, AI v0.2.2.2.2.1, .val none (K22 v0)]
@[simp] abbrev K20 (v0 : TRaga) : List (Nat × Root) := [(0, .box (K21 v0))]
@[simp] abbrev K23 (u23 : List Int) : AV := AL 1 (u23.map vI)
@[simp] def res_impl_ValidRaga (r : Bool) : RV := .one (.one (.val (.bool r)))
theorem con_impl_ValidRaga {v0 : TRaga} {r : Bool} (hF : F_impl_ValidRaga v0 = some r) : Con Tryz.prog 68 [eRaga v0] (res_impl_ValidRaga r) := by
 unfold F_impl_ValidRaga at hF
 refine con_of c68_.1 fun N => ?_
 refine ws 0 128 (qf (.ptr 0 0 0) (K20 v0) (by simp) (qb (r_nil (w_seq (ws 128 2880 (qr (.ptr 0 0 0) (qr (AS v0.1) (bk hF fun u0 e0 hF => qC (AB u0) (K20 v0) (con_impl_IsName e0) c82_ (qr (AB (!u0)) (qr (AB (!u0)) ?_))))))))))
 refine q_case 9 hF rfl (fun hF => ?_) (fun hF => ?_)
 ·
  refine qn4 (qt (qt (qn2 (qn2 (qt (qt (qn4 ?_)))))))
  refine qn rfl (qt (qt (qn rfl (qn rfl (qn rfl (qn rfl (qn rfl (qt (qt (qn5 (qt ?_)))))))))))
  exact qt (qn4 (qt (r_nil (w_true rfl (ws 2880 2944 (qb (r_nil (w_ret (thenQ_r (eQ hF))))))))))
 refine qg (.ptr 0 0 1) rfl rfl (qg (AL 1 (v0.2.1.map vI)) rfl rfl (bk hF fun u1 e1 hF => qG (AB u1) (K20 v0) (con_impl_ValidScale e1) c66_ (qg (AB (!u1)) rfl rfl (qr (AB (!u1)) (qr (AB (!u1)) ?_)))))
 refine q_case 15 hF rfl (fun hF => ?_) (fun hF => ?_)
 ·
  refine qn4 (qt (qt (qn2 (qn3 (qt (qt (qn3 (qn2 (qt (qt (qn4 ?_)))))))))))
  refine qn rfl (qt (qt (qn rfl (qn rfl (qn rfl (qn rfl (qt (r_nil (w_true rfl (ws 2880 2944 (qb (r_nil (w_ret ?_)))))))))))))
  exact thenQ_r (eQ hF)
 refine qg (.ptr 0 0 2) rfl rfl (qg (AL 1 (v0.2.2.1.map vI)) rfl rfl (bk hF fun u2 e2 hF => qG (AB u2) (K20 v0) (con_impl_ValidScale e2) c66_ (qg (AB (!u2)) rfl rfl (qr (AB (!u2)) (qr (AB (!u2)) ?_)))))
 refine q_case 21 hF rfl (fun hF => ?_) (fun hF => ?_)
 ·
  refine qn5 (qt (qt (qn rfl (qn4 (qt (qt (qn2 (qn3 (qt (qt (qn3 (qn rfl (qt ?_)))))))))))))
  exact r_nil (w_true rfl (ws 2880 2944 (qb (r_nil (w_ret (thenQ_r (eQ hF)))))))
 refine qg (.ptr 0 0 3) rfl rfl (qg (AI v0.2.2.2.1) rfl rfl (qg (.ptr 0 0 4) rfl rfl (qg (AI v0.2.2.2.2.1) rfl rfl (qg (AB (decide (v0.2.2.2.1 = v0.2.2.2.2.1))) rfl rfl (qr (AB (decide (v0.2.2.2.1 = v0.2.2.2.2.1))) (qr (AB (decide (v0.2.2.2.1 = v0.2.2.2.2.1))) ?_))))))
 refine q_case 28 hF rfl (fun hF => ?_) (fun hF => ?_)
 ·
  refine qn5 (qt (qt (qn rfl (qn4 (qt (qt (qn2 (qn2 (qt (r_nil (w_true rfl (ws 2880 2944 (qb ?_)))))))))))))
  exact r_nil (w_ret (thenQ_r (eQ hF)))
 refine qg (.agg (K21 v0)) rfl rfl (qg (.ptr 0 0 3) rfl rfl (qg (AI v0.2.2.2.1) rfl rfl (bk hF fun u3 e3 hF => qG (AB u3) (K20 v0) (con_impl_Raga_hasTone e3) c83_ (qg (AB (!u3)) rfl rfl (qr (AB (!u3)) (qr (AB (!u3)) ?_))))))
 refine q_case 35 hF rfl (fun hF => qn5 (qt (qt (qn rfl (qn3 (qt (r_nil (w_true rfl (ws 2880 2944 (qb (r_nil (w_ret (thenQ_r (eQ hF)))))))))))))) fun hF => ?_
 refine qg (.agg (K21 v0)) rfl rfl (qg (.ptr 0 0 4) rfl rfl (qg (AI v0.2.2.2.2.1) rfl rfl (bk hF fun u4 e4 hF => qG (AB u4) (K20 v0) (con_impl_Raga_hasTone e4) c83_ (qg (AB (!u4)) rfl rfl (qr (AB (!u4)) (qr (AB (!u4)) ?_))))))
 refine q_case 42 hF rfl (fun hF => qn4 (qt (r_nil (w_true rfl (ws 2880 2944 (qb (r_nil (w_ret (thenQ_r (eQ hF)))))))))) fun hF => ?_
 refine qg (.ptr 0 0 5) rfl rfl (qg (.val none (K22 v0)) rfl rfl (qg (AI (v0.2.2.2.2.2.length : Int)) rfl (ev_len_n rfl) (qg (AB (decide ((8 : Int) < (v0.2.2.2.2.2.length : Int)))) rfl rfl (qr (AB (decide ((8 : Int) < (v0.2.2.2.2.2.length : Int)))) (r_nil (cF hF (fun hF => ws 2880 2944 (qb (r_nil (w_ret (thenQ_r (eQ hF)))))) fun hF => ?_))))))
 refine w_skip (thenQ_n (w_seq (ws 2880 3136 (qr (.ptr 0 0 5) (qr (.val none (K22 v0)) (qp (AI (v0.2.2.2.2.2.length : Int)) (ev_len_n rfl) (qr (AI 0) (r_nil (w_block ?_)))))))))
 refine w_ren (l' := [(1, .ptr 0 0 0), (49, .val none (K22 v0)), (50, AI (v0.2.2.2.2.2.length : Int)), (51, AI 0)]) (L := (K20 v0)) [1, 49, 50, 51] [(0, 0)] 1 (by first | rfl | simp) (by first | rfl | simp) (by decide) (by decide) (by decide) ?_
 refine w_loopF (F_impl_ValidRaga_l0 v0) (fun s : Int => mkS [(1, .ptr 0 0 0), (49, .val none (K22 v0)), (50, AI (v0.2.2.2.2.2.length : Int)), (51, AI s)] (fo (K20 v0)) 1) hF ?_
 rintro k1 x3 hF
 rw [F_impl_ValidRaga_l0] at hF
 try dsimp only
 refine ws 1 65 (qr (AB (decide (x3 < (v0.2.2.2.2.2.length : Int)))) (r_nil (w_seq ?_)))
 refine cF hF (fun hF => ?_) fun hF => ?_
 ·
  refine w_skip (thenQ_n (w_seq (w_block (ws 65 385 (qr (AI x3) (bk hF fun u23 e23 hF => qp (.val none (.ptr [.sl 1 (u23.map vI)])) (ev_iad_n rfl rfl e23 rfl) (qr (K23 u23) (qr (AI x3) (qr (K23 u23) (r_nil (ws 385 3009 ?_)))))))))))
  refine qr (K23 u23) (qp (AI (u23.length : Int)) (ev_len_n rfl) (qr (AB (decide ((u23.length : Int) ≠ (2 : Int)))) (qr (AB (decide ((u23.length : Int) ≠ (2 : Int)))) ?_)))
  refine q_case 59 hF rfl (fun hF => ?_) (fun hF => ?_)
  ·
   refine qn5 (qt (qt (qn rfl (qn4 (qt (qt (qn2 (qn5 (qt (qt (qn rfl ?_)))))))))))
   refine qn2 (qu rfl (qu rfl (qu rfl (qu rfl (qu rfl (qu rfl (qu rfl (qu rfl (qu rfl (qn rfl (qt (r_nil (w_true rfl ?_)))))))))))))
   exact ws 3009 3073 (qb (r_nil (w_ret (blockQ_r (thenQ_r (thenQ_r (blockQ_r (thenQ_r (eQ hF)))))))))
  refine qg (K23 u23) rfl rfl (bk hF fun u24 e24 hF => qg (.val none (.ptr [.int .i64 u24])) rfl (ev_iad_n rfl rfl e24 rfl) (qg (AI u24) rfl rfl (bk hF fun u25 e25 hF => qG (AB u25) (K20 v0) (con_impl_toneOk e25) c84_ (qg (AB (!u25)) rfl rfl (qr (AB (!u25)) (qr (AB (!u25)) ?_))))))
  refine q_case 66 hF rfl (fun hF => ?_) (fun hF => ?_)
  ·
   refine qn5 (qt (qt (qn rfl (qn6 (qt (qt (qn3 (qu rfl (qu rfl (qu rfl (qu rfl (qu rfl ?_))))))))))))
   refine qu rfl (qu rfl (qu rfl (qu rfl (qn rfl (qt (r_nil (w_true rfl (ws 3009 3073 (qb (r_nil (w_ret (blockQ_r (thenQ_r ?_)))))))))))))
   exact thenQ_r (blockQ_r (thenQ_r (eQ hF)))
  refine qg (K23 u23) rfl rfl (bk hF fun u26 e26 hF => qg (.val none (.ptr [.int .i64 u26])) rfl (ev_iad_n rfl rfl e26 rfl) (qg (AI u26) rfl rfl (bk hF fun u27 e27 hF => qG (AB u27) (K20 v0) (con_impl_toneOk e27) c84_ (qg (AB (!u27)) rfl rfl (qr (AB (!u27)) (qr (AB (!u27)) ?_))))))
  refine q_case 73 hF rfl (fun hF => ?_) (fun hF => ?_)
  ·
   refine qn7 (qt (qt (qn3 (qu rfl (qu rfl (qu rfl (qu rfl ?_)))))))
   refine qu rfl (qu rfl (qu rfl (qu rfl (qu rfl (qn rfl (qt (r_nil (w_true rfl (ws 3009 3073 (qb (r_nil (w_ret (blockQ_r ?_)))))))))))))
   exact thenQ_r (thenQ_r (blockQ_r (thenQ_r (eQ hF))))
  refine qg (K23 u23) rfl rfl (bk hF fun u28 e28 hF => qg (.val none (.ptr [.int .i64 u28])) rfl (ev_iad_n rfl rfl e28 rfl) (qg (AI u28) rfl rfl (qg (K23 u23) rfl rfl (bk hF fun u29 e29 hF => qg (.val none (.ptr [.int .i64 u29])) rfl (ev_iad_n rfl rfl e29 rfl) (qg (AI u29) rfl rfl (qg (AB (decide (u28 = u29))) rfl rfl (qr (AB (decide (u28 = u29))) (qr (AB (decide (u28 = u29))) ?_))))))))
  refine q_case 82 hF rfl (fun hF => ?_) (fun hF => ?_)
  ·
   refine qn3 (qu rfl (qu rfl (qu rfl (qu rfl (qu rfl (qu rfl (qu rfl (qu rfl (qu rfl (qn rfl (qt (r_nil (w_true rfl ?_)))))))))))))
   exact ws 3009 3073 (qb (r_nil (w_ret (blockQ_r (thenQ_r (thenQ_r (blockQ_r (thenQ_r (eQ hF)))))))))
  refine qg (AI x3) rfl rfl (qg (AB (decide ((0 : Int) < x3))) rfl rfl (qg (AB (decide ((0 : Int) < x3))) rfl rfl ?_))
  refine q_case 85 hF rfl (fun hF => ?_) (fun hF => ?_)
  ·
   refine qg (.ptr 0 0 5) rfl rfl (qg (.val none (K22 v0)) rfl rfl (qg (AI x3) rfl rfl (qg (AI (w64 (x3 - 1))) rfl rfl (bk hF fun u30 e30 hF => qg (.val none (.ptr [.sl 1 (u30.map vI)])) rfl (ev_iad_n rfl rfl e30 rfl) (qg (AL 1 (u30.map vI)) rfl rfl (qg (K23 u23) rfl rfl (bk hF fun u31 e31 hF => qG (AI u31) (K20 v0) (con_slices_Compare_Sint64_int64 e31) c85_ (qg (AB (decide ((0 : Int) ≤ u31))) rfl rfl (qg (AB (decide ((0 : Int) ≤ u31))) rfl rfl (qr (AB (decide ((0 : Int) ≤ u31))) (r_nil ?_)))))))))))
   refine cF hF (fun hF => ws 3009 3073 (qb (r_nil (w_ret (blockQ_r (thenQ_r (thenQ_r (blockQ_r (thenQ_r (eQ hF)))))))))) fun hF => ?_
   refine w_skip (blockQ_n (thenQ_n (w_reg 3009 3137 rfl rfl (qr (AI (w64 (x3 + 1))) (qr (AI (w64 (x3 + 1))) (r_nil (thenQ_n ?_)))))))
   refine ar (l' := [(1, .ptr 0 0 0), (49, .val none (K22 v0)), (50, AI (v0.2.2.2.2.2.length : Int)), (51, AI (w64 (x3 + 1)))]) (L := (K20 v0)) [1, 49, 50, 51] [(0, 0)] 1 ⟨_, by rfl, hF⟩
  refine qn8 (qn rfl (qg (AB false) rfl rfl (qb (r_nil (w_false rfl (w_skip (blockQ_n (thenQ_n (w_reg 3009 3137 rfl rfl (qr (AI (w64 (x3 + 1))) (qr (AI (w64 (x3 + 1))) ?_)))))))))))
  refine r_nil (thenQ_n ?_)
  refine ar (l' := [(1, .ptr 0 0 0), (49, .val none (K22 v0)), (50, AI (v0.2.2.2.2.2.length : Int)), (51, AI (w64 (x3 + 1)))]) (L := (K20 v0)) [1, 49, 50, 51] [(0, 0)] 1 ⟨_, by rfl, hF⟩
 exact w_exit (thenQ_e (thenQ_e (blockQ_e (thenQ_n (ws 65 129 (qt (rR hF)))))))

def c70 : MC := (sr [pT 2 (.mv (.c (.str [])))] (.seq (sr [mvt 3 0, dT 4 84 [t3], pT 5 (.not t4)] (.cond t5 (sr [pT 2 (.mv (.c (.str [])))] .ret) .skip)) (sr [mvt 6 0, mvt 7 0, bT 8 .add t7 (ci 1), pT 9 (.slcs (.c (.str [83, 114, 82, 103, 71, 109, 77, 80, 100, 68, 110, 78])) (some t6) (some t8)), mvt 2 9] .ret)))
theorem c70_ : IsF Tryz.prog 70 c70 [(.tmp 2)] := ⟨by kernel_rfl, by kernel_rfl⟩

def F_impl_ToneName (v0 : Int) : Option (List UInt8) :=
 ((F_impl_toneOk v0).bind fun u0 => (bif (!u0) then some []
 else (need (0 ≤ v0 ∧ v0 ≤ w64 (v0 + 1) ∧ w64 (v0 + 1) ≤ ([83, 114, 82, 103, 71, 109, 77, 80, 100, 68, 110, 78].length : Int)) (some (sub [83, 114, 82, 103, 71, 109, 77, 80, 100, 68, 110, 78] v0 (w64 (v0 + 1)))))))
@[simp] def res_impl_ToneName (r : List UInt8) : RV := .one (.one (.val (.str r)))
theorem con_impl_ToneName {v0 : Int} {r : List UInt8} (hF : F_impl_ToneName v0 = some r) : Con Tryz.prog 70 [.int .i64 v0] (res_impl_ToneName r) := by
 unfold F_impl_ToneName at hF
 refine con_of c70_.1 fun N => ?_
 refine ws 0 64 (qr (AS []) (r_nil (w_seq (ws 64 256 (qr (AI v0) (bk hF fun u0 e0 hF => qC (AB u0) [] (con_impl_toneOk e0) c84_ (qr (AB (!u0)) (r_nil (cF hF (fun hF => ws 256 320 (qr (AS []) (r_nil (w_ret (thenQ_r (eQ hF)))))) fun hF => ?_)))))))))
 exact w_skip (thenQ_n (ws 256 576 (qr (AI v0) (qr (AI v0) (qr (AI (w64 (v0 + 1))) (nk hF fun g1 hF => qp (AS (sub [83, 114, 82, 103, 71, 109, 77, 80, 100, 68, 110, 78] v0 (w64 (v0 + 1)))) (ev_slcs rfl (bnd_some rfl g1.1) (bnd_some rfl (Int.le_trans g1.1 g1.2.1)) g1) (qr (AS (sub [83, 114, 82, 103, 71, 109, 77, 80, 100, 68, 110, 78] v0 (w64 (v0 + 1)))) (rR hF))))))))

def c69 : MC := (sr [pT 2 (.mv (.c (.str [])))] (.seq (sr [mvt 6 0, dT 7 66 [t6], pT 8 (.not t7)] (.cond t8 (sr [pT 2 (.mv (.c (.str [])))] .ret) .skip)) (sr [pT 3 (.mv (.c (.str [])))] (.seq (sr [mvt 9 0, zT 10 9, pT 11 (.mv (ci 0))] (.block 0 (.loop (sr [bT 12 .lss t11 t10] (.seq (cx t12 0) (.seq (.block 1 (sr [iT 13 9 11 1, lT 14 13, mvt 5 14] (.reg [mvt 15 3, mvt 16 5, dT 17 70 [t16], bT 18 .add t15 t17, mvt 3 18]))) (.reg [bT 19 .add t11 (ci 1), mvt 11 19]))))))) (sr [mvt 20 3, mvt 2 20] .ret)))))
theorem c69_ : IsF Tryz.prog 69 c69 [(.tmp 2)] := ⟨by kernel_rfl, by kernel_rfl⟩

def F_impl_ScaleText_l0 (v0 : List Int) (k1 : (List UInt8) × Int → Option (List UInt8)) : (List UInt8) × Int → Option (List UInt8)
 | (x6, x7) => (bif (decide (x7 < (v0.length : Int))) then ((ix v0 x7).bind fun u7 => ((F_impl_ToneName u7).bind fun u8 => (need (x6.length + u8.length < 9223372036854775808) (k1 (x6 ++ u8, w64 (x7 + 1))))))
 else some x6)
def F_impl_ScaleText (v0 : List Int) : Option (List UInt8) :=
 ((F_impl_ValidScale v0).bind fun u0 => (bif (!u0) then some []
 else loop (F_impl_ScaleText_l0 v0) ([], 0)))
@[simp] def res_impl_ScaleText (r : List UInt8) : RV := .one (.one (.val (.str r)))
theorem con_impl_ScaleText {v0 : List Int} {r : List UInt8} (hF : F_impl_ScaleText v0 = some r) : Con Tryz.prog 69 [.sl 1 (v0.map vI)] (res_impl_ScaleText r) := by
 unfold F_impl_ScaleText at hF
 refine con_of c69_.1 fun N => ?_
 refine ws 0 64 (qr (AS []) (r_nil (w_seq (ws 64 256 (qr (AL 1 (v0.map vI)) (bk hF fun u0 e0 hF => qC (AB u0) [] (con_impl_ValidScale e0) c66_ (qr (AB (!u0)) (r_nil (cF hF (fun hF => ws 256 320 (qr (AS []) (r_nil (w_ret (thenQ_r (eQ hF)))))) fun hF => ?_)))))))))
 refine w_skip (thenQ_n (ws 256 320 (qr (AS []) (r_nil (w_seq (ws 320 512 (qr (AL 1 (v0.map vI)) (qp (AI (v0.length : Int)) (ev_len_n rfl) (qr (AI 0) (r_nil (w_block ?_)))))))))))
 refine wr (l' := [(3, AS ([] : List UInt8)), (9, AL 1 (v0.map vI)), (10, AI (v0.length : Int)), (11, AI 0)]) (L := []) [3, 9, 10, 11] [] 1 ?_
 refine w_loopF (F_impl_ScaleText_l0 v0) (fun s : (List UInt8) × Int => mkS [(3, AS s.1), (9, AL 1 (v0.map vI)), (10, AI (v0.length : Int)), (11, AI s.2)] (fo []) 1) hF ?_
 rintro k1 ⟨x6, x7⟩ hF
 rw [F_impl_ScaleText_l0] at hF
 try dsimp only
 refine ws 1 65 (qr (AB (decide (x7 < (v0.length : Int)))) (r_nil (w_seq ?_)))
 refine cF hF (fun hF => ?_) fun hF => ?_
 ·
  refine w_skip (thenQ_n (w_seq (w_block (ws 65 257 (bk hF fun u7 e7 hF => qp (.val none (.ptr [.int .i64 u7])) (ev_iad_n rfl rfl e7 rfl) (qr (AI u7) (qr (AI u7) (r_nil (w_reg 257 577 rfl rfl (qr (AS x6) (qr (AI u7) (bk hF fun u8 e8 hF => qC (AS u8) [] (con_impl_ToneName e8) c70_ (nk hF fun g9 hF => qp (AS (x6 ++ u8)) (ev_add_s rfl rfl g9) (qr (AS (x6 ++ u8)) (r_nil (blockQ_n ?_))))))))))))))))
  refine thenQ_n (w_reg 577 705 rfl rfl (qr (AI (w64 (x7 + 1))) (qr (AI (w64 (x7 + 1))) (r_nil (thenQ_n ?_)))))
  refine ar (l' := [(3, AS (x6 ++ u8)), (9, AL 1 (v0.map vI)), (10, AI (v0.length : Int)), (11, AI (w64 (x7 + 1)))]) (L := []) [3, 9, 10, 11] [] 1 ⟨_, by rfl, hF⟩
 exact w_exit (thenQ_e (thenQ_e (blockQ_e (thenQ_n (ws 65 193 (qr (AS x6) (qr (AS x6) (rR hF))))))))

def c45 : MC := (sr [rg 1 (.f (.box t0)), pT 2 (.mv (.c (.str [])))] (.seq (sr [pT 6 (.ld t1 6 true), dT 7 68 [t6], pT 8 (.not t7)] (.cond t8 (sr [pT 2 (.mv (.c (.str [])))] .ret) .skip)) (sr [pF 9 (.fad t1 0), lF 10 9, pF 11 (.bin .add t10 (.c (.str [32]))), pF 12 (.fad t1 1), lF 13 12, dF 14 69 [t13], bF 15 .add t11 t14, pF 16 (.bin .add t15 (.c (.str [32]))), pF 17 (.fad t1 2), lF 18 17, dF 19 69 [t18], bF 20 .add t16 t19, pF 21 (.bin .add t20 (.c (.str [32]))), pF 22 (.fad t1 3), lF 23 22, dF 24 70 [t23], bF 25 .add t21 t24, pF 26 (.fad t1 4), lF 27 26, dF 28 70 [t27], bF 29 .add t25 t28, mP 3 t29] (.seq (sr [pT 30 (.fad t1 5), lT 31 30, zT 32 31, pT 33 (.mv (ci 0))] (.block 0 (.loop (sr [bT 34 .lss t33 t32] (.seq (cx t34 0) (.seq (.block 1 (sr [iT 35 31 33 1, lT 36 35, mvt 5 36] (.reg [mP 37 t3, mP 38 t5, jF 39 38 0 1, lF 40 39, dF 41 70 [t40], pF 42 (.bin .add (.c (.str [32])) t41), mP 43 t5, jF 44 43 1 1, lF 45 44, dF 46 70 [t45], bF 47 .add t42 t46, bF 48 .add t37 t47, mP 3 t48]))) (.reg [bT 49 .add t33 (ci 1), mvt 33 49]))))))) (sr [mvt 50 3, mvt 2 50] .ret)))))
theorem c45_ : IsF Tryz.prog 45 c45 [(.tmp 2)] := ⟨by kernel_rfl, by kernel_rfl⟩

def F_impl_RagaText_l0 (v0 : TRaga) (k1 : (List UInt8) × Int → Option (List UInt8)) : (List UInt8) × Int → Option (List UInt8)
 | (x6, x7) => (bif (decide (x7 < (v0.2.2.2.2.2.length : Int))) then ((ix v0.2.2.2.2.2 x7).bind fun u28 => ((ix u28 0).bind fun u29 => ((F_impl_ToneName u29).bind fun u30 => (need (([32] : List UInt8).length + u30.length < 9223372036854775808) (((ix u28 1).bind fun u32 => ((F_impl_ToneName u32).bind fun u33 => (need ((([32] : List UInt8) ++ u30).length + u33.length < 9223372036854775808) ((need (x6.length + ((([32] : List UInt8) ++ u30) ++ u33).length < 9223372036854775808) (k1 (x6 ++ ((([32] : List UInt8) ++ u30) ++ u33), w64 (x7 + 1)))))))))))))
 else some x6)
def F_impl_RagaText (v0 : TRaga) : Option (List UInt8) :=
 ((F_impl_ValidRaga v0).bind fun u0 => (bif (!u0) then some []
 else (need (v0.1.length + ([32] : List UInt8).length < 9223372036854775808) (((F_impl_ScaleText v0.2.1).bind fun u2 => (need ((v0.1 ++ ([32] : List UInt8)).length + u2.length < 9223372036854775808) ((need (((v0.1 ++ ([32] : List UInt8)) ++ u2).length + ([32] : List UInt8).length < 9223372036854775808) (((F_impl_ScaleText v0.2.2.1).bind fun u5 => (need ((((v0.1 ++ ([32] : List UInt8)) ++ u2) ++ ([32] : List UInt8)).length + u5.length < 9223372036854775808) ((need (((((v0.1 ++ ([32] : List UInt8)) ++ u2) ++ ([32] : List UInt8)) ++ u5).length + ([32] : List UInt8).length < 9223372036854775808) (((F_impl_ToneName v0.2.2.2.1).bind fun u8 => (need ((((((v0.1 ++ ([32] : List UInt8)) ++ u2) ++ ([32] : List UInt8)) ++ u5) ++ ([32] : List UInt8)).length + u8.length < 9223372036854775808) (((F_impl_ToneName v0.2.2.2.2.1).bind fun u10 => (need (((((((v0.1 ++ ([32] : List UInt8)) ++ u2) ++ ([32] : List UInt8)) ++ u5) ++ ([32] : List UInt8)) ++ u8).length + u10.length < 9223372036854775808) (loop (F_impl_RagaText_l0 v0) (((((((v0.1 ++ ([32] : List UInt8)) ++ u2) ++ ([32] : List UInt8)) ++ u5) ++ ([32] : List UInt8)) ++ u8) ++ u10, 0)))))))))))))))))))))
@[simp] abbrev K25 (v0 : TRaga) : V := .sl 1 (v0.2.2.2.2.2.map (eL 1 vI))
@[simp] abbrev K26 (v0 : TRaga) : List AV := [AS v0.1, AL 1 (v0.2.1.map vI), AL 1 (v0.2.2.1.map vI), AI v0.2.2.2.1, AI v0.2.2.2.2.1, .val none (K25 v0)]
@[simp] abbrev K24 (v0 : TRaga) : List (Nat × Root) := [(0, .box (K26 v0))]
@[simp] abbrev K27 (u28 : List Int) : AV := AL 1 (u28.map vI)
@[simp] def res_impl_RagaText (r : List UInt8) : RV := .one (.one (.val (.str r)))
theorem con_impl_RagaText {v0 : TRaga} {r : List UInt8} (hF : F_impl_RagaText v0 = some r) : Con Tryz.prog 45 [eRaga v0] (res_impl_RagaText r) := by
 unfold F_impl_RagaText at hF
 refine con_of c45_.1 fun N => ?_
 refine ws 0 128 (qf (.ptr 0 0 0) (K24 v0) (by simp) (qr (AS []) (r_nil (w_seq (ws 128 320 (qr (.agg (K26 v0)) (bk hF fun u0 e0 hF => qC (AB u0) (K24 v0) (con_impl_ValidRaga e0) c68_ (qr (AB (!u0)) (r_nil (cF hF (fun hF => ws 320 384 (qr (AS []) (r_nil (w_ret (thenQ_r (eQ hF)))))) fun hF => ?_))))))))))
 refine w_skip (thenQ_n (ws 320 1728 (qr (.ptr 0 0 0) (qr (AS v0.1) (nk hF fun g1 hF => qp (AS (v0.1 ++ ([32] : List UInt8))) (ev_add_s rfl rfl g1) (qr (.ptr 0 0 1) (qr (AL 1 (v0.2.1.map vI)) (bk hF fun u2 e2 hF => qC (AS u2) (K24 v0) (con_impl_ScaleText e2) c69_ (nk hF fun g3 hF => qp (AS ((v0.1 ++ ([32] : List UInt8)) ++ u2)) (ev_add_s rfl rfl g3) (nk hF fun g4 hF => qp (AS (((v0.1 ++ ([32] : List UInt8)) ++ u2) ++ ([32] : List UInt8))) (ev_add_s rfl rfl g4) (qr (.ptr 0 0 2) (qr (AL 1 (v0.2.2.1.map vI)) (bk hF fun u5 e5 hF => qC (AS u5) (K24 v0) (con_impl_ScaleText e5) c69_ (nk hF fun g6 hF => qp (AS ((((v0.1 ++ ([32] : List UInt8)) ++ u2) ++ ([32] : List UInt8)) ++ u5)) (ev_add_s rfl rfl g6) (nk hF fun g7 hF => qp (AS (((((v0.1 ++ ([32] : List UInt8)) ++ u2) ++ ([32] : List UInt8)) ++ u5) ++ ([32] : List UInt8))) (ev_add_s rfl rfl g7) (qr (.ptr 0 0 3) (qr (AI v0.2.2.2.1) (bk hF fun u8 e8 hF => qC (AS u8) (K24 v0) (con_impl_ToneName e8) c70_ (nk hF fun g9 hF => qp (AS ((((((v0.1 ++ ([32] : List UInt8)) ++ u2) ++ ([32] : List UInt8)) ++ u5) ++ ([32] : List UInt8)) ++ u8)) (ev_add_s rfl rfl g9) (qr (.ptr 0 0 4) (qr (AI v0.2.2.2.2.1) (bk hF fun u10 e10 hF => qC (AS u10) (K24 v0) (con_impl_ToneName e10) c70_ (nk hF fun g11 hF => ?_)))))))))))))))))))))))
 refine qp (AS (((((((v0.1 ++ ([32] : List UInt8)) ++ u2) ++ ([32] : List UInt8)) ++ u5) ++ ([32] : List UInt8)) ++ u8) ++ u10)) (ev_add_s rfl rfl g11) (qr (AS (((((((v0.1 ++ ([32] : List UInt8)) ++ u2) ++ ([32] : List UInt8)) ++ u5) ++ ([32] : List UInt8)) ++ u8) ++ u10)) (r_nil (w_seq (ws 1728 1984 (qr (.ptr 0 0 5) (qr (.val none (K25 v0)) (qp (AI (v0.2.2.2.2.2.length : Int)) (ev_len_n rfl) (qr (AI 0) (r_nil (w_block ?_))))))))))
 refine wr (l' := [(3, AS (((((((v0.1 ++ ([32] : List UInt8)) ++ u2) ++ ([32] : List UInt8)) ++ u5) ++ ([32] : List UInt8)) ++ u8) ++ u10)), (31, .val none (K25 v0)), (32, AI (v0.2.2.2.2.2.length : Int)), (33, AI 0)]) (L := []) [3, 31, 32, 33] [] 1 ?_
 refine w_loopF (F_impl_RagaText_l0 v0) (fun s : (List UInt8) × Int => mkS [(3, AS s.1), (31, .val none (K25 v0)), (32, AI (v0.2.2.2.2.2.length : Int)), (33, AI s.2)] (fo []) 1) hF ?_
 rintro k1 ⟨x6, x7⟩ hF
 rw [F_impl_RagaText_l0] at hF
 try dsimp only
 refine ws 1 65 (qr (AB (decide (x7 < (v0.2.2.2.2.2.length : Int)))) (r_nil (w_seq ?_)))
 refine cF hF (fun hF => ?_) fun hF => ?_
 ·
  refine w_skip (thenQ_n (w_seq (w_block (ws 65 257 (bk hF fun u28 e28 hF => qp (.val none (.ptr [.sl 1 (u28.map vI)])) (ev_iad_n rfl rfl e28 rfl) (qr (K27 u28) (qr (K27 u28) (r_nil (w_reg 257 1089 rfl rfl (qr (AS x6) (qr (K27 u28) (bk hF fun u29 e29 hF => qp (.val none (.ptr [.int .i64 u29])) (ev_iad_n rfl rfl e29 rfl) (qr (AI u29) (bk hF fun u30 e30 hF => qC (AS u30) [] (con_impl_ToneName e30) c70_ (nk hF fun g31 hF => qp (AS (([32] : List UInt8) ++ u30)) (ev_add_s rfl rfl g31) (qr (K27 u28) (bk hF fun u32 e32 hF => ?_)))))))))))))))))
  refine qp (.val none (.ptr [.int .i64 u32])) (ev_iad_n rfl rfl e32 rfl) (qr (AI u32) (bk hF fun u33 e33 hF => qC (AS u33) [] (con_impl_ToneName e33) c70_ (nk hF fun g34 hF => qp (AS ((([32] : List UInt8) ++ u30) ++ u33)) (ev_add_s rfl rfl g34) (nk hF fun g35 hF => qp (AS (x6 ++ ((([32] : List UInt8) ++ u30) ++ u33))) (ev_add_s rfl rfl g35) (qr (AS (x6 ++ ((([32] : List UInt8) ++ u30) ++ u33))) (r_nil (blockQ_n (thenQ_n (w_reg 1089 1217 rfl rfl (qr (AI (w64 (x7 + 1))) (qr (AI (w64 (x7 + 1))) (r_nil (thenQ_n ?_)))))))))))))
  refine ar (l' := [(3, AS (x6 ++ ((([32] : List UInt8) ++ u30) ++ u33))), (31, .val none (K25 v0)), (32, AI (v0.2.2.2.2.2.length : Int)), (33, AI (w64 (x7 + 1)))]) (L := []) [3, 31, 32, 33] [] 1 ⟨_, by rfl, hF⟩
 exact w_exit (thenQ_e (thenQ_e (blockQ_e (thenQ_n (ws 65 193 (qr (AS x6) (qr (AS x6) (rR hF))))))))

def c10 : MC := (sr [rg 2 (.f (.alloc [((.str []), (0, false)), ((.sl 0 []), (1, false)), ((.sl 0 []), (1, false)), ((.int .i64 0), (0, false)), ((.int .i64 0), (0, false)), ((.sl 0 []), (1, false))])), pT 3 (.mv cf)] (sr [mvt 13 0, rg 14 (.call true 41 [t13, (.c (.str [32]))]), mvt 4 14] (.seq (sr [mvt 15 4, zT 16 15, bT 17 .lss t16 (ci 4)] (.cond t17 (sr [rg 18 (.f (.bld [((.str []), (0, false)), ((.sl 0 []), (1, false)), ((.sl 0 []), (1, false)), ((.int .i64 0), (0, false)), ((.int .i64 0), (0, false)), ((.sl 0 []), (1, false))] [])), ⟨none, none, (.f (.st t2 t18 6))⟩, pT 3 (.mv cf)] .ret) .skip)) (sr [mvt 19 4, jT 20 19 0 1, lT 21 20, rg 22 (.f (.bld [((.str []), (0, true)), ((.sl 0 []), (1, false)), ((.sl 0 []), (1, false)), ((.int .i64 0), (0, false)), ((.int .i64 0), (0, false)), ((.sl 0 []), (1, false))] [(0, (1, t21))])), rg 5 (.f (.alloc [((.str []), (0, false)), ((.sl 0 []), (1, false)), ((.sl 0 []), (1, false)), ((.int .i64 0), (0, false)), ((.int .i64 0), (0, false)), ((.sl 0 []), (1, false))])), ⟨none, none, (.f (.st t5 t22 6))⟩] (sr [mvt 24 4, jT 25 24 1 1, lT 26 25, dT 27 42 [t26], mvt 23 27, pT 28 (.ext t23 0), pT 29 (.ext t23 1), pT 30 (.fad t5 1), ⟨none, none, (.f (.st t30 t28 1))⟩] (sr [mvt 32 4, jT 33 32 2 1, lT 34 33, dT 35 42 [t34], mvt 31 35, pT 36 (.ext t31 0), pT 37 (.ext t31 1), pT 38 (.fad t5 2), ⟨none, none, (.f (.st t38 t36 1))⟩] (sr [rg 6 (.f (.nilrow 1))] (.seq (sr [mvt 39 4, pT 40 (.slc t39 (some (ci 3)) none 1), zT 41 40, pT 42 (.mv (ci 0))] (.block 0 (.loop (sr [bT 43 .lss t42 t41] (.seq (cx t43 0) (.seq (.block 1 (sr [iT 44 40 42 1, lT 45 44, mvt 8 45] (.seq (sr [mvt 46 8, pT 47 (.lens t46), bT 48 .neq t47 (ci 2)] (.cond t48 (sr [rg 49 (.f (.bld [((.str []), (0, false)), ((.sl 0 []), (1, false)), ((.sl 0 []), (1, false)), ((.int .i64 0), (0, false)), ((.int .i64 0), (0, false)), ((.sl 0 []), (1, false))] [])), ⟨none, none, (.f (.st t2 t49 6))⟩, pT 3 (.mv cf)] .ret) .skip)) (sr [mvt 51 8, pT 52 (.slcs t51 none (some (ci 1))), dT 53 43 [t52], mvt 50 53, pT 54 (.ext t50 0), pT 55 (.ext t50 1), mvt 9 54, mvt 10 55] (sr [mvt 57 8, pT 58 (.slcs t57 (some (ci 1)) none), dT 59 43 [t58], mvt 56 59, pT 60 (.ext t56 0), pT 61 (.ext t56 1), mvt 11 60, mvt 12 61] (.reg [mvt 62 6, mvt 63 9, mvt 64 11, rg 65 (.f (.bsl 1 [t63, t64])), rg 66 (.f (.bsl 1 [t65])), rg 67 (.f (.app t62 t66 1 24 true)), mvt 6 67])))))) (.reg [bT 68 .add t42 (ci 1), mvt 42 68]))))))) (.seq (.alt [mP 69 t6, jF 70 69 0 1, lF 71 70, jF 72 71 0 1, lF 73 72, mP 74 t6, jF 75 74 0 1, lF 76 75, jF 77 76 1 1, lF 78 77, mP 79 t6, pF 80 (.slc t79 (some (ci 1)) none 1), dF 81 44 [t80], pF 82 (.fad t5 3), ⟨none, none, (.f (.st t82 t73 1))⟩, pF 83 (.fad t5 4), ⟨none, none, (.f (.st t83 t78 1))⟩, pF 84 (.fad t5 5), ⟨none, none, (.f (.st t84 t81 1))⟩] [[0, 1, 2, 3, 4, 5, 6, 7, 8, 9, 10, 11, 12, 13, 14, 15, 16, 17, 18], [0, 1, 2, 3, 4, 5, 6, 7, 8, 10, 11, 12, 13, 14, 9, 15, 16, 17, 18], [0, 1, 2, 3, 4, 5, 6, 7, 10, 11, 12, 13, 14, 8, 9, 15, 16, 17, 18], [0, 1, 2, 3, 4, 5, 6, 10, 11, 12, 13, 14, 7, 8, 9, 15, 16, 17, 18], [0, 1, 2, 3, 4, 5, 10, 11, 12, 13, 14, 6, 7, 8, 9, 15, 16, 17, 18], [0, 1, 2, 3, 4, 10, 11, 12, 13, 14, 5, 6, 7, 8, 9, 15, 16, 17, 18]]) (.seq (sr [pT 85 (.ld t5 6 true), dT 86 45 [t85], mvt 87 0, bT 88 .neq t86 t87] (.cond t88 (sr [rg 89 (.f (.bld [((.str []), (0, false)), ((.sl 0 []), (1, false)), ((.sl 0 []), (1, false)), ((.int .i64 0), (0, false)), ((.int .i64 0), (0, false)), ((.sl 0 []), (1, false))] [])), ⟨none, none, (.f (.st t2 t89 6))⟩, pT 3 (.mv cf)] .ret) .skip)) (sr [pT 90 (.ld t5 6 true), ⟨none, none, (.f (.st t2 t90 6))⟩, pT 3 (.mv ct)] .ret)))))))))))
theorem c10_ : IsF Tryz.prog 10 c10 [(.cell (.ld (.t 2) 6 true)), (.tmp 3)] := ⟨by kernel_rfl, by kernel_rfl⟩

def F_impl_ReadRaga_l0 (v0 : List UInt8) (u0 : List (List UInt8)) (u1 : List UInt8) (u3 : (List Int) × Bool) (u5 : (List Int) × Bool) (k1 : Int × (List (List Int)) → Option (TRaga × Bool)) : Int × (List (List Int)) → Option (TRaga × Bool)
 | (x6, x7) => (bif (decide (x6 < ((u0.length : Int) - (3 : Int)))) then ((ix (sub u0 (3 : Int) (u0.length : Int)) x6).bind fun u20 => (bif (decide ((u20.length : Int) ≠ (2 : Int))) then some (([], [], [], 0, 0, []), false)
 else (need (0 ≤ (0 : Int) ∧ (0 : Int) ≤ (1 : Int) ∧ (1 : Int) ≤ (u20.length : Int)) (((F_impl_ToneNamed (sub u20 0 1)).bind fun u22 => (need (0 ≤ (1 : Int) ∧ (1 : Int) ≤ (u20.length : Int) ∧ (u20.length : Int) ≤ (u20.length : Int)) (((F_impl_ToneNamed (sub u20 1 (u20.length : Int))).bind fun u24 => (need (room (x7.length + [[u22.1, u24.1]].length) 24) (k1 (w64 (x6 + 1), x7 ++ [[u22.1, u24.1]])))))))))))
 else ((ix x7 0).bind fun u26 => ((ix u26 0).bind fun u27 => ((ix x7 0).bind fun u28 => ((ix u28 1).bind fun u29 => (need (0 ≤ (1 : Int) ∧ (1 : Int) ≤ (x7.length : Int) ∧ (x7.length : Int) ≤ (x7.length : Int)) ((need ((sub x7 (1 : Int) (x7.length : Int)).length = 0) (((F_impl_RagaText (u1, u3.1, u5.1, u27, u29, [])).bind fun u32 => (bif (decide (u32 ≠ v0)) then some (([], [], [], 0, 0, []), false)
 else some ((u1, u3.1, u5.1, u27, u29, []), true))))))))))))
def F_impl_ReadRaga (v0 : List UInt8) : Option (TRaga × Bool) :=
 ((F_split v0 [32]).bind fun u0 => (bif (decide ((u0.length : Int) < (4 : Int))) then some (([], [], [], 0, 0, []), false)
 else ((ix u0 0).bind fun u1 => ((ix u0 1).bind fun u2 => ((F_impl_ReadScale u2).bind fun u3 => ((ix u0 2).bind fun u4 => ((F_impl_ReadScale u4).bind fun u5 => (need (0 ≤ (3 : Int) ∧ (3 : Int) ≤ (u0.length : Int) ∧ (u0.length : Int) ≤ (u0.length : Int)) (loop (F_impl_ReadRaga_l0 v0 u0 u1 u3 u5) (0, []))))))))))
@[simp] abbrev K28 : List (Nat × Root) := [(0, .box [AS [], .sl 1 0 0, .sl 2 0 0, AI 0, AI 0, .sl 3 0 0]), (3, .row true 1 (([] : List Int).map vI)), (2, .row true 1 (([] : List Int).map vI)), (1, .row true 1 (([] : List Int).map vI))]
@[simp] abbrev K29 (u0 : List (List UInt8)) : List (Nat × Root) := ((192, .row true 1 (u0.map V.str)) :: K28)
@[simp] abbrev K2a (u0 : List (List UInt8)) : List (Nat × Root) := ((514, .row true 1 (([] : List (List Int)).map (eL 1 vI))) :: (513, .row true 1 (([] : List Int).map vI)) :: (512, .row true 1 (([] : List Int).map vI)) :: (K29 u0))
@[simp] abbrev K2b (u0 : List (List UInt8)) : List (Nat × Root) := ((706, .row true 1 (([] : List Int).map vI)) :: (705, .row true 1 (([] : List Int).map vI)) :: (704, .row true 1 (([] : List Int).map vI)) :: (K29 u0))
@[simp] abbrev K32 : Nat × Root := (9, .row true 1 (([] : List Int).map vI))
@[simp] abbrev K33 : Nat × Root := (6, .row true 1 (([] : List Int).map vI))
@[simp] abbrev K34 : Nat × Root := (5, .row true 1 (([] : List Int).map vI))
@[simp] abbrev K35 : Nat × Root := (4, .row true 1 (([] : List Int).map vI))
@[simp] abbrev K31 (u0 : List (List UInt8)) : Nat × Root := (3, .row true 1 ((sub u0 (3 : Int) (u0.length : Int)).map V.str))
@[simp] abbrev K38 (u1 : List UInt8) (u3 : (List Int) × Bool) (u5 : (List Int) × Bool) : Nat × Root := (1, .box [AS u1, .sl 7 0 u3.1.length, .sl 8 0 u5.1.length, AI 0, AI 0, .sl 9 0 0])
@[simp] abbrev K2x : Nat × Root := (0, .box [AS [], .sl 4 0 0, .sl 5 0 0, AI 0, AI 0, .sl 6 0 0])
@[simp] abbrev K2c (u5 : (List Int) × Bool) (u3 : (List Int) × Bool) (u0 : List (List UInt8)) (x7 : List (List Int)) (u1 : List UInt8) : List (Nat × Root) := [K32, (8, .row true 1 (u5.1.map vI)), (7, .row true 1 (u3.1.map vI)), K33, K34, K35, (K31 u0), (2, .row true 1 (x7.map (eL 1 vI))), (K38 u1 u3 u5), K2x]
@[simp] abbrev K2e (u5 : (List Int) × Bool) (u3 : (List Int) × Bool) (u0 : List (List UInt8)) (x7 : List (List Int)) (u1 : List UInt8) : List (Nat × Root) := ((842, .row true 1 (([] : List (List Int)).map (eL 1 vI))) :: (K2c u5 u3 u0 x7 u1))
@[simp] abbrev K2f (u0 : List (List UInt8)) : List (Nat × Root) := ((768, .box [AS [], .sl 769 0 0, .sl 770 0 0, AI 0, AI 0, .sl 771 0 0]) :: (771, .row true 1 (([] : List Int).map vI)) :: (770, .row true 1 (([] : List Int).map vI)) :: (769, .row true 1 (([] : List Int).map vI)) :: (K2b u0))
@[simp] abbrev K2g (u1 : List UInt8) (u3 : (List Int) × Bool) (u5 : (List Int) × Bool) (u27 : Int) (u0 : List (List UInt8)) (x7 : List (List Int)) : List (Nat × Root) := ((1, .box [AS u1, .sl 7 0 u3.1.length, .sl 8 0 u5.1.length, AI u27, AI 0, .sl 9 0 0]) :: (K2e u5 u3 u0 x7 u1))
@[simp] abbrev K2h (u1 : List UInt8) (u0 : List (List UInt8)) : List (Nat × Root) := ((768, .box [AS u1, .sl 704 0 0, .sl 705 0 0, AI 0, AI 0, .sl 706 0 0]) :: (K2f u0))
@[simp] abbrev K2i (u5 : (List Int) × Bool) (u3 : (List Int) × Bool) (u0 : List (List UInt8)) (x7 : List (List Int)) (u1 : List UInt8) : List (Nat × Root) := ((460, .row true 1 (([] : List (List Int)).map (eL 1 vI))) :: (459, .row true 1 (([] : List Int).map vI)) :: (458, .row true 1 (([] : List Int).map vI)) :: (K2c u5 u3 u0 x7 u1))
@[simp] abbrev K2j (u22 : Int × Bool) (u24 : Int × Bool) (u5 : (List Int) × Bool) (u3 : (List Int) × Bool) (u0 : List (List UInt8)) (x7 : List (List Int)) (u1 : List UInt8) : List (Nat × Root) := ((1738, .row true 1 ([[u22.1, u24.1]].map (eL 1 vI))) :: (1674, .dead) :: (1674, .row true 1 ([u22.1, u24.1].map vI)) :: (K2c u5 u3 u0 x7 u1))
@[simp] abbrev K2k (u1 : List UInt8) (u3 : (List Int) × Bool) (u5 : (List Int) × Bool) (u27 : Int) (u29 : Int) (u0 : List (List UInt8)) (x7 : List (List Int)) : List (Nat × Root) := ((1, .box [AS u1, .sl 7 0 u3.1.length, .sl 8 0 u5.1.length, AI u27, AI u29, .sl 9 0 0]) :: (K2g u1 u3 u5 u27 u0 x7))
@[simp] abbrev K2l (u3 : (List Int) × Bool) (u1 : List UInt8) (u0 : List (List UInt8)) : List (Nat × Root) := ((1088, .row true 1 (u3.1.map vI)) :: (K2h u1 u0))
@[simp] abbrev K2t (u1 : List UInt8) (u3 : (List Int) × Bool) (u5 : (List Int) × Bool) (u27 : Int) (u29 : Int) : List AV := [AS u1, .sl 7 0 u3.1.length, .sl 8 0 u5.1.length, AI u27, AI u29, .sl 842 0 0]
@[simp] abbrev K2m (u1 : List UInt8) (u3 : (List Int) × Bool) (u5 : (List Int) × Bool) (u27 : Int) (u29 : Int) (u0 : List (List UInt8)) (x7 : List (List Int)) : List (Nat × Root) := ((1, .box (K2t u1 u3 u5 u27 u29)) :: (K2k u1 u3 u5 u27 u29 u0 x7))
@[simp] abbrev K2n (u1 : List UInt8) (u3 : (List Int) × Bool) (u0 : List (List UInt8)) : List (Nat × Root) := ((768, .box [AS u1, .sl 1088 0 u3.1.length, .sl 705 0 0, AI 0, AI 0, .sl 706 0 0]) :: (K2l u3 u1 u0))
@[simp] abbrev K2o (u1 : List UInt8) (u3 : (List Int) × Bool) (u5 : (List Int) × Bool) (u27 : Int) (u29 : Int) (u0 : List (List UInt8)) (x7 : List (List Int)) : List (Nat × Root) := ((0, .box (K2t u1 u3 u5 u27 u29)) :: (K2m u1 u3 u5 u27 u29 u0 x7))
@[simp] abbrev K2p (u5 : (List Int) × Bool) (u1 : List UInt8) (u3 : (List Int) × Bool) (u0 : List (List UInt8)) : List (Nat × Root) := ((1664, .row true 1 (u5.1.map vI)) :: (K2n u1 u3 u0))
@[simp] abbrev K2q (u1 : List UInt8) (u3 : (List Int) × Bool) (u5 : (List Int) × Bool) (u0 : List (List UInt8)) : List (Nat × Root) := ((768, .box [AS u1, .sl 1088 0 u3.1.length, .sl 1664 0 u5.1.length, AI 0, AI 0, .sl 706 0 0]) :: (K2p u5 u1 u3 u0))
@[simp] abbrev K2r (u1 : List UInt8) (u3 : (List Int) × Bool) (u5 : (List Int) × Bool) (u27 : Int) (u29 : Int) (u0 : List (List UInt8)) (x7 : List (List Int)) : List (Nat × Root) := ((1548, .row true 1 (([] : List (List Int)).map (eL 1 vI))) :: (1547, .row true 1 (([] : List Int).map vI)) :: (1546, .row true 1 (([] : List Int).map vI)) :: (K2m u1 u3 u5 u27 u29 u0 x7))
@[simp] abbrev K2u : List AV := [AS [], .sl 1546 0 0, .sl 1547 0 0, AI 0, AI 0, .sl 1548 0 0]
@[simp] abbrev K2s (u1 : List UInt8) (u3 : (List Int) × Bool) (u5 : (List Int) × Bool) (u27 : Int) (u29 : Int) (u0 : List (List UInt8)) (x7 : List (List Int)) : List (Nat × Root) := ((0, .box K2u) :: (K2r u1 u3 u5 u27 u29 u0 x7))
@[simp] abbrev K2v : AV := .ptr 2 ((0 : Int).toNat) 0
@[simp] abbrev K2w (x7 : List (List Int)) : AV := .sl 2 (1 : Int).toNat ((x7.length : Int).toNat - (1 : Int).toNat)
@[simp] abbrev K2y (u26 : List Int) : AV := .val (some 2) (.sl 1 (u26.map vI))
@[simp] abbrev K2z (u28 : List Int) : AV := .val (some 2) (.sl 1 (u28.map vI))
@[simp] abbrev K30 (x7 : List (List Int)) : AV := .sl 2 0 x7.length
@[simp] abbrev K36 (u27 : Int) : AV := .val (some 2) (.ptr [.int .i64 u27])
@[simp] abbrev K37 (u29 : Int) : AV := .val (some 2) (.ptr [.int .i64 u29])
@[simp] abbrev K39 (u0 : List (List UInt8)) : Nat × AV := (41, AI ((u0.length : Int) - (3 : Int)))
@[simp] abbrev K3a (u0 : List (List UInt8)) : Nat × AV := (40, .sl 3 0 ((sub u0 (3 : Int) (u0.length : Int)).length))
@[simp] def res_impl_ReadRaga (r : TRaga × Bool) : RV := .tup [.agg [.val (.str r.1.1), .row true 1 (r.1.2.1.map vI), .row true 1 (r.1.2.2.1.map vI), .val (.int .i64 r.1.2.2.2.1), .val (.int .i64 r.1.2.2.2.2.1), .row true 1 (r.1.2.2.2.2.2.map (eL 1 vI))], .one (.val (.bool r.2))]
theorem con_impl_ReadRaga {v0 : List UInt8} {r : TRaga × Bool} (hF : F_impl_ReadRaga v0 = some r) : Con Tryz.prog 10 [.str v0] (res_impl_ReadRaga r) := by
 unfold F_impl_ReadRaga at hF
 refine con_of c10_.1 fun N => ?_
 refine ws 0 128 (qf (.ptr 0 0 0) K28 (by simp) (qb (r_nil (ws 128 320 (qr (AS v0) (bk hF fun u0 e0 hF => qc (.sl 192 0 u0.length) (K29 u0) false (con_split e0) c41_ok (by first | rfl | simp) (by simp [res_split]) (qr (.sl 192 0 u0.length) (r_nil (w_seq (ws 320 512 (qr (.sl 192 0 u0.length) (qr (AI (u0.length : Int)) (qr (AB (decide ((u0.length : Int) < (4 : Int)))) (r_nil ?_))))))))))))))
 refine cF hF (fun hF => ?_) fun hF => ?_
 ·
  exact ws 512 704 (qf (.agg [AS [], .sl 512 0 0, .sl 513 0 0, AI 0, AI 0, .sl 514 0 0]) (K2a u0) (by simp) (qf0 (.undef) ((0, .box [AS [], .sl 512 0 0, .sl 513 0 0, AI 0, AI 0, .sl 514 0 0]) :: (K2a u0)) (by simp) (qb (r_nil (w_ret (thenQ_r (eQ hF)))))))
 refine w_skip (thenQ_n (ws 512 896 (qr (.sl 192 0 u0.length) (bk hF fun u1 e1 hF => qp (.ptr 192 ((0 : Int).toNat) 0) (ev_iad_r rfl (by simp) rfl rfl e1) (qp (AS u1) (ev_ld_r rfl rfl (ix_some e1).2 rfl rfl) (qf (.agg [AS u1, .sl 704 0 0, .sl 705 0 0, AI 0, AI 0, .sl 706 0 0]) (K2b u0) (by simp) (qf (.ptr 768 0 0) (K2f u0) (by simp) (qf0 (.undef) (K2h u1 u0) (by simp) (r_nil (ws 896 1472 (qr (.sl 192 0 u0.length) (bk hF fun u2 e2 hF => qp (.ptr 192 ((1 : Int).toNat) 0) (ev_iad_r rfl (by simp) rfl rfl e2) (qp (AS u2) (ev_ld_r rfl rfl (ix_some e2).2 rfl rfl) (bk hF fun u3 e3 hF => qc (.tup [.sl 1088 0 u3.1.length, AB u3.2]) (K2l u3 u1 u0) false (con_impl_ReadScale e3) c42_.2 (by first | rfl | simp) (by simp [res_impl_ReadScale]) ?_))))))))))))))
 refine qr (.tup [.sl 1088 0 u3.1.length, AB u3.2]) (qr (.sl 1088 0 u3.1.length) (qr (AB u3.2) (qr (.ptr 768 0 1) (qf0 (.undef) (K2n u1 u3 u0) (by simp) (r_nil (ws 1472 2048 (qr (.sl 192 0 u0.length) (bk hF fun u4 e4 hF => qp (.ptr 192 ((2 : Int).toNat) 0) (ev_iad_r rfl (by simp) rfl rfl e4) (qp (AS u4) (ev_ld_r rfl rfl (ix_some e4).2 rfl rfl) (bk hF fun u5 e5 hF => qc (.tup [.sl 1664 0 u5.1.length, AB u5.2]) (K2p u5 u1 u3 u0) false (con_impl_ReadScale e5) c42_.2 (by first | rfl | simp) (by simp [res_impl_ReadScale]) (qr (.tup [.sl 1664 0 u5.1.length, AB u5.2]) (qr (.sl 1664 0 u5.1.length) (qr (AB u5.2) (qr (.ptr 768 0 2) (qf0 (.undef) (K2q u1 u3 u5 u0) (by simp) ?_)))))))))))))))
 refine r_nil (ws 2048 2112 (qf (.sl 2048 0 0) ((2048, .row true 1 (([] : List (List Int)).map (eL 1 vI))) :: (K2q u1 u3 u5 u0)) (by simp) (r_nil (w_seq (ws 2112 2368 (qr (.sl 192 0 u0.length) (nk hF fun g6 hF => qp (.sl 192 (3 : Int).toNat ((u0.length : Int).toNat - (3 : Int).toNat)) (ev_slc_r rfl (by simp) rfl rfl rfl g6) (qp (AI ((u0.length : Int) - (3 : Int))) (ev_len_p rfl rfl g6) (qr (AI 0) (r_nil ?_))))))))))
 have g7 : 0 ≤ (3 : Int) ∧ (3 : Int) ≤ (u0.length : Int) ∧ (u0.length : Int) ≤ (u0.length : Int) := by first | exact g6 | (have h := g6; simp only [] at h ⊢; exact h)
 refine w_drop (l' := [(0, AS v0), (2, .ptr 0 0 0), (5, .ptr 768 0 0), (6, .sl 2048 0 0), (40, .sl 192 (3 : Int).toNat ((u0.length : Int).toNat - (3 : Int).toNat)), (K39 u0), (42, AI 0)]) [0, 2, 5, 6, 40, 41, 42] (by first | rfl | simp) (w_rebF (l' := [(0, AS v0), (2, .ptr 0 0 0), (5, .ptr 768 0 0), (6, .sl 2048 0 0), (40, .sl 192 0 ((sub u0 (3 : Int) (u0.length : Int)).length)), (K39 u0), (42, AI 0)]) (r := 192) (lo := (3 : Int)) (hi := (u0.length : Int)) rfl g7 (RebL.keep rfl (RebL.keep rfl (RebL.keep rfl (RebL.keep rfl (RebL.part (sub_len g7) (RebL.keep rfl (RebL.keep rfl RebL.nil))))))) rfl (w_block ?_))
 refine wr (l' := [(0, AS v0), (2, .ptr 0 0 0), (5, .ptr 1 0 0), (6, .sl 2 0 0), (K3a u0), (K39 u0), (42, AI 0)]) (L := [K32, (8, .row true 1 (u5.1.map vI)), (7, .row true 1 (u3.1.map vI)), K33, K34, K35, (K31 u0), (2, .row true 1 (([] : List (List Int)).map (eL 1 vI))), (K38 u1 u3 u5), K2x]) [0, 2, 5, 6, 40, 41, 42] [(706, 9), (1664, 8), (1088, 7), (3, 6), (2, 5), (1, 4), (192, 3), (2048, 2), (768, 1), (0, 0)] 10 ?_
 refine w_loopF (F_impl_ReadRaga_l0 v0 u0 u1 u3 u5) (fun s : Int × (List (List Int)) => mkS [(0, AS v0), (2, .ptr 0 0 0), (5, .ptr 1 0 0), (6, .sl 2 0 s.2.length), (K3a u0), (K39 u0), (42, AI s.1)] (fo [K32, (8, .row true 1 (u5.1.map vI)), (7, .row true 1 (u3.1.map vI)), K33, K34, K35, (K31 u0), (2, .row true 1 (s.2.map (eL 1 vI))), (K38 u1 u3 u5), K2x]) 10) hF ?_
 rintro k1 ⟨x6, x7⟩ hF
 rw [F_impl_ReadRaga_l0] at hF
 try dsimp only
 refine ws 10 74 (qr (AB (decide (x6 < ((u0.length : Int) - (3 : Int))))) (r_nil (w_seq ?_)))
 refine cF hF (fun hF => ?_) fun hF => ?_
 ·
  refine w_skip (thenQ_n (w_seq (w_block (ws 74 266 (bk hF fun u20 e20 hF => qp (.ptr 3 x6.toNat 0) (ev_iad_r rfl (by simp) rfl rfl e20) (qp (AS u20) (ev_ld_r rfl rfl (ix_some e20).2 rfl rfl) (qr (AS u20) (r_nil (w_seq (ws 266 458 (qr (AS u20) (qr (AI (u20.length : Int)) (qr (AB (decide ((u20.length : Int) ≠ (2 : Int)))) (r_nil ?_))))))))))))))
  refine cF hF (fun hF => ?_) fun hF => ?_
  ·
   exact ws 458 650 (qf (.agg [AS [], .sl 458 0 0, .sl 459 0 0, AI 0, AI 0, .sl 460 0 0]) (K2i u5 u3 u0 x7 u1) (by simp) (qf0 (.undef) ((0, .box [AS [], .sl 458 0 0, .sl 459 0 0, AI 0, AI 0, .sl 460 0 0]) :: (K2i u5 u3 u0 x7 u1)) (by simp) (qb (r_nil (w_ret (thenQ_r (blockQ_r (thenQ_r (thenQ_r (blockQ_r (thenQ_r (eQ hF))))))))))))
  refine w_skip (thenQ_n (ws 458 970 (qr (AS u20) (nk hF fun g21 hF => qp (AS (sub u20 0 1)) (ev_slcs rfl rfl rfl g21) (bk hF fun u22 e22 hF => qC (.tup [AI u22.1, AB u22.2]) (K2c u5 u3 u0 x7 u1) (con_impl_ToneNamed e22) c43_ (qr (.tup [AI u22.1, AB u22.2]) (qr (AI u22.1) (qr (AB u22.2) (qr (AI u22.1) (qr (AB u22.2) (r_nil (ws 970 1482 (qr (AS u20) (nk hF fun g23 hF => qp (AS (sub u20 1 (u20.length : Int))) (ev_slcs rfl rfl rfl g23) (bk hF fun u24 e24 hF => qC (.tup [AI u24.1, AB u24.2]) (K2c u5 u3 u0 x7 u1) (con_impl_ToneNamed e24) c43_ ?_)))))))))))))))
  refine qr (.tup [AI u24.1, AB u24.2]) (qr (AI u24.1) (qr (AB u24.2) (qr (AI u24.1) (qr (AB u24.2) (r_nil (w_reg 1482 1930 rfl rfl (qr (K30 x7) (qr (AI u22.1) (qr (AI u24.1) (qf (.sl 1674 0 ([u22.1, u24.1].length)) ((1674, .row true 1 ([u22.1, u24.1].map vI)) :: (K2c u5 u3 u0 x7 u1)) (by simp [List.take_of_length_le]) (qf (.sl 1738 0 ([[u22.1, u24.1]].length)) (K2j u22 u24 u5 u3 u0 x7 u1) (by simp [List.take_of_length_le]) (nk hF fun g25 hF => qf (.sl 1802 0 ((x7 ++ [[u22.1, u24.1]]).length)) ((1802, .row true 1 ((x7 ++ [[u22.1, u24.1]]).map (eL 1 vI))) :: (2, .dead) :: (1738, .dead) :: (K2j u22 u24 u5 u3 u0 x7 u1)) (effT_app_l rfl (by simp) rfl rfl (by simp) rfl (by decide) g25 rfl) (qr (.sl 1802 0 ((x7 ++ [[u22.1, u24.1]]).length)) (r_nil ?_))))))))))))))
  refine blockQ_n (thenQ_n (w_reg 1930 2058 rfl rfl (qr (AI (w64 (x6 + 1))) (qr (AI (w64 (x6 + 1))) (r_nil (thenQ_n ?_))))))
  refine ar (l' := [(0, AS v0), (2, .ptr 0 0 0), (5, .ptr 1 0 0), (6, .sl 2 0 (x7 ++ [[u22.1, u24.1]]).length), (K3a u0), (K39 u0), (42, AI (w64 (x6 + 1)))]) (L := [K32, (8, .row true 1 (u5.1.map vI)), (7, .row true 1 (u3.1.map vI)), K33, K34, K35, (K31 u0), (2, .row true 1 ((x7 ++ [[u22.1, u24.1]]).map (eL 1 vI))), (K38 u1 u3 u5), K2x]) [0, 2, 5, 6, 40, 41, 42] [(9, 9), (8, 8), (7, 7), (6, 6), (5, 5), (4, 4), (3, 3), (1802, 2), (1, 1), (0, 0)] 10 ⟨_, by rfl, hF⟩
 refine w_exit (thenQ_e (thenQ_e (blockQ_e (thenQ_n (bk hF fun u26 e26 hF => bk hF fun u27 e27 hF => bk hF fun u28 e28 hF => bk hF fun u29 e29 hF => nk hF fun g30 hF => nk hF fun g31 hF => ?_)))))
 refine w_alt_seq 74 1290 rfl rfl ⟨?_, ?_, ?_, ?_, ?_, ?_, trivial⟩
 ·
  refine qr (K30 x7) (qp K2v (ev_iad_r rfl (by simp) rfl rfl e26) (qp (K2y u26) (ev_ld_r rfl rfl (ix_some e26).2 rfl rfl) (qp (K36 u27) (ev_iad_s rfl rfl rfl e27 rfl) (qr (AI u27) (qr (K30 x7) (qp K2v (ev_iad_r rfl (by simp) rfl rfl e28) (qp (K2z u28) (ev_ld_r rfl rfl (ix_some e28).2 rfl rfl) (qp (K37 u29) (ev_iad_s rfl rfl rfl e29 rfl) (qr (AI u29) (qr (K30 x7) (qp (K2w x7) (ev_slc_r rfl (by simp) rfl rfl rfl g30) (qc (.sl 842 0 0) (K2e u5 u3 u0 x7 u1) true (con_cloneE_44 g31) c44_ok (trav_pp rfl) (by simp) (qr (.ptr 1 0 3) ?_)))))))))))))
  refine qf0 (.undef) (K2g u1 u3 u5 u27 u0 x7) (by simp) (qr (.ptr 1 0 4) (qf0 (.undef) (K2k u1 u3 u5 u27 u29 u0 x7) (by simp) (qr (.ptr 1 0 5) (qf0 (.undef) (K2m u1 u3 u5 u27 u29 u0 x7) (by simp) (r_nil (w_seq (ws 1290 1546 (qr (.agg (K2t u1 u3 u5 u27 u29)) (bk hF fun u32 e32 hF => qc (AS u32) (K2m u1 u3 u5 u27 u29 u0 x7) true (con_impl_RagaText e32) c45_.2 (by simp [List.take_of_length_le]) rfl (qr (AS v0) (qr (AB (decide (u32 ≠ v0))) (r_nil ?_))))))))))))
  refine cF hF (fun hF => ?_) fun hF => ?_
  ·
   exact ws 1546 1738 (qf (.agg K2u) (K2r u1 u3 u5 u27 u29 u0 x7) (by simp) (qf0 (.undef) (K2s u1 u3 u5 u27 u29 u0 x7) (by simp) (qb (r_nil (w_ret (thenQ_r (eQ hF)))))))
  exact w_skip (thenQ_n (ws 1546 1738 (qr (.agg (K2t u1 u3 u5 u27 u29)) (qf0 (.undef) (K2o u1 u3 u5 u27 u29 u0 x7) (by simp) (qt (rR hF))))))
 ·
  refine qr (K30 x7) (qp K2v (ev_iad_r rfl (by simp) rfl rfl e26) (qp (K2y u26) (ev_ld_r rfl rfl (ix_some e26).2 rfl rfl) (qp (K36 u27) (ev_iad_s rfl rfl rfl e27 rfl) (qr (AI u27) (qr (K30 x7) (qp K2v (ev_iad_r rfl (by simp) rfl rfl e28) (qp (K2z u28) (ev_ld_r rfl rfl (ix_some e28).2 rfl rfl) (qp (K37 u29) (ev_iad_s rfl rfl rfl e29 rfl) (qr (K30 x7) (qp (K2w x7) (ev_slc_r rfl (by simp) rfl rfl rfl g30) (qc (.sl 842 0 0) (K2e u5 u3 u0 x7 u1) true (con_cloneE_44 g31) c44_ok (trav_pp rfl) (by simp) (qr (.ptr 1 0 3) (qf0 (.undef) (K2g u1 u3 u5 u27 u0 x7) (by simp) ?_)))))))))))))
  refine qr (AI u29) (qr (.ptr 1 0 4) (qf0 (.undef) (K2k u1 u3 u5 u27 u29 u0 x7) (by simp) (qr (.ptr 1 0 5) (qf0 (.undef) (K2m u1 u3 u5 u27 u29 u0 x7) (by simp) (r_nil (w_seq (ws 1290 1546 (qr (.agg (K2t u1 u3 u5 u27 u29)) (bk hF fun u33 e33 hF => qc (AS u33) (K2m u1 u3 u5 u27 u29 u0 x7) true (con_impl_RagaText e33) c45_.2 (by simp [List.take_of_length_le]) rfl (qr (AS v0) (qr (AB (decide (u33 ≠ v0))) (r_nil ?_))))))))))))
  refine cF hF (fun hF => ?_) fun hF => ?_
  ·
   exact ws 1546 1738 (qf (.agg K2u) (K2r u1 u3 u5 u27 u29 u0 x7) (by simp) (qf0 (.undef) (K2s u1 u3 u5 u27 u29 u0 x7) (by simp) (qb (r_nil (w_ret (thenQ_r (eQ hF)))))))
  exact w_skip (thenQ_n (ws 1546 1738 (qr (.agg (K2t u1 u3 u5 u27 u29)) (qf0 (.undef) (K2o u1 u3 u5 u27 u29 u0 x7) (by simp) (qt (rR hF))))))
 ·
  refine qr (K30 x7) (qp K2v (ev_iad_r rfl (by simp) rfl rfl e26) (qp (K2y u26) (ev_ld_r rfl rfl (ix_some e26).2 rfl rfl) (qp (K36 u27) (ev_iad_s rfl rfl rfl e27 rfl) (qr (AI u27) (qr (K30 x7) (qp K2v (ev_iad_r rfl (by simp) rfl rfl e28) (qp (K2z u28) (ev_ld_r rfl rfl (ix_some e28).2 rfl rfl) (qr (K30 x7) (qp (K2w x7) (ev_slc_r rfl (by simp) rfl rfl rfl g30) (qc (.sl 842 0 0) (K2e u5 u3 u0 x7 u1) true (con_cloneE_44 g31) c44_ok (trav_pp rfl) (by simp) (qr (.ptr 1 0 3) (qf0 (.undef) (K2g u1 u3 u5 u27 u0 x7) (by simp) ?_))))))))))))
  refine qp (K37 u29) (ev_iad_s rfl rfl rfl e29 rfl) (qr (AI u29) (qr (.ptr 1 0 4) (qf0 (.undef) (K2k u1 u3 u5 u27 u29 u0 x7) (by simp) (qr (.ptr 1 0 5) (qf0 (.undef) (K2m u1 u3 u5 u27 u29 u0 x7) (by simp) (r_nil (w_seq (ws 1290 1546 (qr (.agg (K2t u1 u3 u5 u27 u29)) (bk hF fun u33 e33 hF => qc (AS u33) (K2m u1 u3 u5 u27 u29 u0 x7) true (con_impl_RagaText e33) c45_.2 (by simp [List.take_of_length_le]) rfl (qr (AS v0) (qr (AB (decide (u33 ≠ v0))) (r_nil ?_)))))))))))))
  refine cF hF (fun hF => ?_) fun hF => ?_
  ·
   exact ws 1546 1738 (qf (.agg K2u) (K2r u1 u3 u5 u27 u29 u0 x7) (by simp) (qf0 (.undef) (K2s u1 u3 u5 u27 u29 u0 x7) (by simp) (qb (r_nil (w_ret (thenQ_r (eQ hF)))))))
  exact w_skip (thenQ_n (ws 1546 1738 (qr (.agg (K2t u1 u3 u5 u27 u29)) (qf0 (.undef) (K2o u1 u3 u5 u27 u29 u0 x7) (by simp) (qt (rR hF))))))
 ·
  refine qr (K30 x7) (qp K2v (ev_iad_r rfl (by simp) rfl rfl e26) (qp (K2y u26) (ev_ld_r rfl rfl (ix_some e26).2 rfl rfl) (qp (K36 u27) (ev_iad_s rfl rfl rfl e27 rfl) (qr (AI u27) (qr (K30 x7) (qp K2v (ev_iad_r rfl (by simp) rfl rfl e28) (qr (K30 x7) (qp (K2w x7) (ev_slc_r rfl (by simp) rfl rfl rfl g30) (qc (.sl 842 0 0) (K2e u5 u3 u0 x7 u1) true (con_cloneE_44 g31) c44_ok (trav_pp rfl) (by simp) (qr (.ptr 1 0 3) (qf0 (.undef) (K2g u1 u3 u5 u27 u0 x7) (by simp) (qp (K2z u28) (ev_ld_r rfl rfl (ix_some e28).2 rfl rfl) ?_))))))))))))
  refine qp (K37 u29) (ev_iad_s rfl rfl rfl e29 rfl) (qr (AI u29) (qr (.ptr 1 0 4) (qf0 (.undef) (K2k u1 u3 u5 u27 u29 u0 x7) (by simp) (qr (.ptr 1 0 5) (qf0 (.undef) (K2m u1 u3 u5 u27 u29 u0 x7) (by simp) (r_nil (w_seq (ws 1290 1546 (qr (.agg (K2t u1 u3 u5 u27 u29)) (bk hF fun u33 e33 hF => qc (AS u33) (K2m u1 u3 u5 u27 u29 u0 x7) true (con_impl_RagaText e33) c45_.2 (by simp [List.take_of_length_le]) rfl (qr (AS v0) (qr (AB (decide (u33 ≠ v0))) (r_nil ?_)))))))))))))
  refine cF hF (fun hF => ?_) fun hF => ?_
  ·
   exact ws 1546 1738 (qf (.agg K2u) (K2r u1 u3 u5 u27 u29 u0 x7) (by simp) (qf0 (.undef) (K2s u1 u3 u5 u27 u29 u0 x7) (by simp) (qb (r_nil (w_ret (thenQ_r (eQ hF)))))))
  exact w_skip (thenQ_n (ws 1546 1738 (qr (.agg (K2t u1 u3 u5 u27 u29)) (qf0 (.undef) (K2o u1 u3 u5 u27 u29 u0 x7) (by simp) (qt (rR hF))))))
 ·
  refine qr (K30 x7) (qp K2v (ev_iad_r rfl (by simp) rfl rfl e26) (qp (K2y u26) (ev_ld_r rfl rfl (ix_some e26).2 rfl rfl) (qp (K36 u27) (ev_iad_s rfl rfl rfl e27 rfl) (qr (AI u27) (qr (K30 x7) (qr (K30 x7) (qp (K2w x7) (ev_slc_r rfl (by simp) rfl rfl rfl g30) (qc (.sl 842 0 0) (K2e u5 u3 u0 x7 u1) true (con_cloneE_44 g31) c44_ok (trav_pp rfl) (by simp) (qr (.ptr 1 0 3) (qf0 (.undef) (K2g u1 u3 u5 u27 u0 x7) (by simp) (qp K2v (ev_iad_r rfl (by simp) rfl rfl e28) (qp (K2z u28) (ev_ld_r rfl rfl (ix_some e28).2 rfl rfl) ?_))))))))))))
  refine qp (K37 u29) (ev_iad_s rfl rfl rfl e29 rfl) (qr (AI u29) (qr (.ptr 1 0 4) (qf0 (.undef) (K2k u1 u3 u5 u27 u29 u0 x7) (by simp) (qr (.ptr 1 0 5) (qf0 (.undef) (K2m u1 u3 u5 u27 u29 u0 x7) (by simp) (r_nil (w_seq (ws 1290 1546 (qr (.agg (K2t u1 u3 u5 u27 u29)) (bk hF fun u33 e33 hF => qc (AS u33) (K2m u1 u3 u5 u27 u29 u0 x7) true (con_impl_RagaText e33) c45_.2 (by simp [List.take_of_length_le]) rfl (qr (AS v0) (qr (AB (decide (u33 ≠ v0))) (r_nil ?_)))))))))))))
  refine cF hF (fun hF => ?_) fun hF => ?_
  ·
   exact ws 1546 1738 (qf (.agg K2u) (K2r u1 u3 u5 u27 u29 u0 x7) (by simp) (qf0 (.undef) (K2s u1 u3 u5 u27 u29 u0 x7) (by simp) (qb (r_nil (w_ret (thenQ_r (eQ hF)))))))
  exact w_skip (thenQ_n (ws 1546 1738 (qr (.agg (K2t u1 u3 u5 u27 u29)) (qf0 (.undef) (K2o u1 u3 u5 u27 u29 u0 x7) (by simp) (qt (rR hF))))))
 refine qr (K30 x7) (qp K2v (ev_iad_r rfl (by simp) rfl rfl e26) (qp (K2y u26) (ev_ld_r rfl rfl (ix_some e26).2 rfl rfl) (qp (K36 u27) (ev_iad_s rfl rfl rfl e27 rfl) (qr (AI u27) (qr (K30 x7) (qp (K2w x7) (ev_slc_r rfl (by simp) rfl rfl rfl g30) (qc (.sl 842 0 0) (K2e u5 u3 u0 x7 u1) true (con_cloneE_44 g31) c44_ok (trav_pp rfl) (by simp) (qr (.ptr 1 0 3) (qf0 (.undef) (K2g u1 u3 u5 u27 u0 x7) (by simp) (qr (K30 x7) (qp K2v (ev_iad_r rfl (by simp) rfl rfl e28) (qp (K2z u28) (ev_ld_r rfl rfl (ix_some e28).2 rfl rfl) ?_))))))))))))
 refine qp (K37 u29) (ev_iad_s rfl rfl rfl e29 rfl) (qr (AI u29) (qr (.ptr 1 0 4) (qf0 (.undef) (K2k u1 u3 u5 u27 u29 u0 x7) (by simp) (qr (.ptr 1 0 5) (qf0 (.undef) (K2m u1 u3 u5 u27 u29 u0 x7) (by simp) (r_nil (w_seq (ws 1290 1546 (qr (.agg (K2t u1 u3 u5 u27 u29)) (bk hF fun u33 e33 hF => qc (AS u33) (K2m u1 u3 u5 u27 u29 u0 x7) true (con_impl_RagaText e33) c45_.2 (by simp [List.take_of_length_le]) rfl (qr (AS v0) (qr (AB (decide (u33 ≠ v0))) (r_nil ?_)))))))))))))
 refine cF hF (fun hF => ?_) fun hF => ?_
 ·
  exact ws 1546 1738 (qf (.agg K2u) (K2r u1 u3 u5 u27 u29 u0 x7) (by simp) (qf0 (.undef) (K2s u1 u3 u5 u27 u29 u0 x7) (by simp) (qb (r_nil (w_ret (thenQ_r (eQ hF)))))))
 exact w_skip (thenQ_n (ws 1546 1738 (qr (.agg (K2t u1 u3 u5 u27 u29)) (qf0 (.undef) (K2o u1 u3 u5 u27 u29 u0 x7) (by simp) (qt (rR hF))))))

def c11 : MC := (sr [rg 0 (.f (.alloc [((.str []), (0, false)), ((.sl 0 []), (2, false))]))] (sr [rg 1 (.f (.bld [((.int .i64 0), (0, true)), ((.int .i64 0), (0, true))] [(0, (1, (ci 1))), (1, (1, (ci 1)))])), rg 2 (.f (.bld [((.int .i64 0), (0, true)), ((.int .i64 0), (0, true))] [(0, (1, (ci 16))), (1, (1, (ci 15)))])), rg 3 (.f (.bld [((.int .i64 0), (0, true)), ((.int .i64 0), (0, true))] [(0, (1, (ci 9))), (1, (1, (ci 8)))])), rg 4 (.f (.bld [((.int .i64 0), (0, true)), ((.int .i64 0), (0, true))] [(0, (1, (ci 6))), (1, (1, (ci 5)))])), rg 5 (.f (.bld [((.int .i64 0), (0, true)), ((.int .i64 0), (0, true))] [(0, (1, (ci 5))), (1, (1, (ci 4)))])), rg 6 (.f (.bld [((.int .i64 0), (0, true)), ((.int .i64 0), (0, true))] [(0, (1, (ci 4))), (1, (1, (ci 3)))])), rg 7 (.f (.bld [((.int .i64 0), (0, true)), ((.int .i64 0), (0, true))] [(0, (1, (ci 45))), (1, (1, (ci 32)))])), rg 8 (.f (.bld [((.int .i64 0), (0, true)), ((.int .i64 0), (0, true))] [(0, (1, (ci 3))), (1, (1, (ci 2)))])), rg 9 (.f (.bld [((.int .i64 0), (0, true)), ((.int .i64 0), (0, true))] [(0, (1, (ci 8))), (1, (1, (ci 5)))])), rg 10 (.f (.bld [((.int .i64 0), (0, true)), ((.int .i64 0), (0, true))] [(0, (1, (ci 5))), (1, (1, (ci 3)))])), rg 11 (.f (.bld [((.int .i64 0), (0, true)), ((.int .i64 0), (0, true))] [(0, (1, (ci 9))), (1, (1, (ci 5)))])), rg 12 (.f (.bld [((.int .i64 0), (0, true)), ((.int .i64 0), (0, true))] [(0, (1, (ci 15))), (1, (1, (ci 8)))])), rg 13 (.f (.bsl 2 [t1, t2, t3, t4, t5, t6, t7, t8, t9, t10, t11, t12])), rg 14 (.f (.bld [((.str []), (0, true)), ((.sl 0 []), (2, true))] [(0, (1, (.c (.str [106, 117, 115, 116])))), (1, (1, t13))])), ⟨none, none, (.f (.st t0 t14 2))⟩] .ret))
theorem c11_ : IsF Tryz.prog 11 c11 [(.cell (.ld (.t 0) 2 true))] := ⟨by kernel_rfl, by kernel_rfl⟩

def F_impl_JustTuning : Option (TTuning) :=
 some ([106, 117, 115, 116], ([(1, 1), (16, 15), (9, 8), (6, 5), (5, 4), (4, 3), (45, 32), (3, 2), (8, 5), (5, 3), (9, 5), (15, 8)] : List TNote))
@[simp] abbrev K3b : List (Nat × Root) := [(0, .box [AS [], .sl 1 0 0]), (1, .row true 2 (([] : List Int).map vI))]
@[simp] abbrev K3c : List (Nat × Root) := ((832, .row true 2 (([(1, 1), (16, 15), (9, 8), (6, 5), (5, 4), (4, 3), (45, 32), (3, 2), (8, 5), (5, 3), (9, 5), (15, 8)] : List TNote).map eNote)) :: K3b)
@[simp] abbrev K3d : List AV := [AS [106, 117, 115, 116], .sl 832 0 (([(1, 1), (16, 15), (9, 8), (6, 5), (5, 4), (4, 3), (45, 32), (3, 2), (8, 5), (5, 3), (9, 5), (15, 8)] : List TNote).length)]
@[simp] def res_impl_JustTuning (r : TTuning) : RV := .one (.agg [.val (.str r.1), .row true 2 (r.2.map eNote)])
theorem con_impl_JustTuning {r : TTuning} (hF : F_impl_JustTuning = some r) : Con Tryz.prog 11 [] (res_impl_JustTuning r) := by
 unfold F_impl_JustTuning at hF
 refine con_of c11_.1 fun N => ?_
 refine ws 0 64 (qf (.ptr 0 0 0) K3b (by simp) (r_nil (ws 64 1024 (qf (.agg [AI 1, AI 1]) K3b (by simp) (qf (.agg [AI 16, AI 15]) K3b (by simp) (qf (.agg [AI 9, AI 8]) K3b (by simp) (qf (.agg [AI 6, AI 5]) K3b (by simp) (qf (.agg [AI 5, AI 4]) K3b (by simp) (qf (.agg [AI 4, AI 3]) K3b (by simp) (qf (.agg [AI 45, AI 32]) K3b (by simp) (qf (.agg [AI 3, AI 2]) K3b (by simp) (qf (.agg [AI 8, AI 5]) K3b (by simp) (qf (.agg [AI 5, AI 3]) K3b (by simp) ?_)))))))))))))
 exact qf (.agg [AI 9, AI 5]) K3b (by simp) (qf (.agg [AI 15, AI 8]) K3b (by simp) (qf (.sl 832 0 (([(1, 1), (16, 15), (9, 8), (6, 5), (5, 4), (4, 3), (45, 32), (3, 2), (8, 5), (5, 3), (9, 5), (15, 8)] : List TNote).length)) K3c (by simp [List.take_of_length_le]) (qf (.agg K3d) K3c (by simp) (qf0 (.undef) ((0, .box K3d) :: K3c) (by simp) (rR hF)))))

end Go.Ab
