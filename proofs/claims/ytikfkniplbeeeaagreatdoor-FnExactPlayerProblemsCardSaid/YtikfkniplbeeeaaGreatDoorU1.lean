/- Walks (printed by auto.py, a program of this session's own). -/
import Derived.Test.YtikfkniplbeeeaaGreatDoorU0
import Derived.Test.YtikfkniplbeeeaaGreatDoorProg
import Derived.KernelRfl
import Derived.Test.YtikfkniplbeeeaaGreatDoorSQ
set_option linter.unusedVariables false
set_option linter.unusedSimpArgs false
set_option maxRecDepth 8000
set_option maxHeartbeats 8000000
noncomputable section
namespace Go.Ab
open Go.RowKit Go.Proofs

def c118 : MC := (sr [pT 2 (.mv cf)] (sr [mP 3 t0, zF 4 3, bF 5 .eql t4 (ci 2), mP 6 t5, mT 7 6 t0, jG 8 6 7 0 1, lG 9 6 8, ⟨(some 10), (some (6, true)), (.call false 56 [t9, (ci 0), (ci 11)])⟩, pF 11 (.pick t6 t10 cf), mP 12 t11, mT 13 12 t0, jG 14 12 13 1 1, lG 15 12 14, ⟨(some 16), (some (12, true)), (.call false 56 [t15, (ci 0), (ci 11)])⟩, pF 17 (.pick t12 t16 cf), mP 18 t17, mT 19 18 t0, jG 20 18 19 0 1, lG 21 18 20, mT 22 18 t0, jG 23 18 22 1 1, lG 24 18 23, bG 25 18 .neq t21 t24, pF 26 (.pick t18 t25 cf), mP 2 t26] .ret))
theorem c118_ : IsF Tryz.prog 118 c118 [(.tmp 2)] := ⟨by kernel_rfl, by kernel_rfl⟩

def F_spec_l05Pair (v0 : List Int) : Option (Bool) :=
 (bif (decide ((v0.length : Int) = (2 : Int))) then ((ix v0 0).bind fun u0 => ((F_spec_l00In u0 0 11).bind fun u1 => (bif u1 then ((ix v0 1).bind fun u2 => ((F_spec_l00In u2 0 11).bind fun u3 => (bif u3 then ((ix v0 0).bind fun u4 => ((ix v0 1).bind fun u5 => some (decide (u4 ≠ u5))))
 else some false)))
 else some false)))
 else some false)
@[simp] abbrev K1u (v0 : List Int) : AV := AL 1 (v0.map vI)
@[simp] def res_spec_l05Pair (r : Bool) : RV := .one (.one (.val (.bool r)))
theorem con_spec_l05Pair {v0 : List Int} {r : Bool} (hF : F_spec_l05Pair v0 = some r) : Con Tryz.prog 118 [.sl 1 (v0.map vI)] (res_spec_l05Pair r) := by
 unfold F_spec_l05Pair at hF
 refine con_of c118_.1 fun N => ?_
 refine ws 0 64 (qp (AB false) rfl (r_nil (ws 64 1664 (qp (K1u v0) rfl (qp (AI (v0.length : Int)) (ev_len_n rfl) (qp (AB (decide ((v0.length : Int) = (2 : Int)))) rfl (qp (AB (decide ((v0.length : Int) = (2 : Int)))) rfl ?_)))))))
 refine q_case 6 hF rfl (fun hF => ?_) (fun hF => ?_)
 ·
  refine qg (K1u v0) rfl rfl (bk hF fun u0 e0 hF => qg (.val none (.ptr [.int .i64 u0])) rfl (ev_iad_n rfl rfl e0 rfl) (qg (AI u0) rfl rfl (bk hF fun u1 e1 hF => qG (AB u1) [] (con_spec_l00In e1) c56_ (qp (AB u1) rfl (qp (AB u1) rfl ?_)))))
  refine q_case 12 hF rfl (fun hF => ?_) (fun hF => ?_)
  ·
   refine qg (K1u v0) rfl rfl (bk hF fun u2 e2 hF => qg (.val none (.ptr [.int .i64 u2])) rfl (ev_iad_n rfl rfl e2 rfl) (qg (AI u2) rfl rfl (bk hF fun u3 e3 hF => qG (AB u3) [] (con_spec_l00In e3) c56_ (qp (AB u3) rfl (qp (AB u3) rfl (q_case 18 hF rfl (fun hF => qg (K1u v0) rfl rfl (bk hF fun u4 e4 hF => qg (.val none (.ptr [.int .i64 u4])) rfl (ev_iad_n rfl rfl e4 rfl) (qg (AI u4) rfl rfl (qg (K1u v0) rfl rfl (bk hF fun u5 e5 hF => qg (.val none (.ptr [.int .i64 u5])) rfl (ev_iad_n rfl rfl e5 rfl) (qg (AI u5) rfl rfl (qg (AB (decide (u4 ≠ u5))) rfl rfl (qp (AB (decide (u4 ≠ u5))) rfl (qp (AB (decide (u4 ≠ u5))) rfl (rR hF)))))))))) fun hF => ?_))))))
   exact qn7 (qp (AB false) rfl (qp (AB false) rfl (rR hF)))
  exact qn4 (qp (AB false) rfl (qp (AB false) rfl (qn2 (qn5 (qp (AB false) rfl (qp (AB false) rfl (rR hF)))))))
 exact qn4 (qp (AB false) rfl (qp (AB false) rfl (qn2 (qn2 (qp (AB false) rfl (qp (AB false) rfl (qn4 (qn3 (qp (AB false) rfl (qp (AB false) rfl (rR hF)))))))))))

def c87 : MC := (sr [pT 2 (.mv cf)] (.seq (sr [pT 3 (.mv (ci 0))] (.block 0 (.loop (.seq (sr [mvt 4 3, mvt 5 0, zT 6 5, bT 7 .lss t4 t6] (cx t7 0)) (.seq (.block 1 (.seq (sr [mvt 10 0, mvt 11 3, iT 12 10 11 1, lT 13 12, dT 14 118 [t13], pT 15 (.not t14)] (.cond t15 (sr [pT 2 (.mv cf)] .ret) .skip)) (sr [mP 16 t3, bF 17 .gtr t16 (ci 0), mP 18 t17, mT 19 18 t0, mT 20 18 t3, bG 21 18 .sub t20 (ci 1), iG 22 18 19 21 1, lG 23 18 22, jG 24 18 23 0 1, lG 25 18 24, mT 26 18 t0, mT 27 18 t3, iG 28 18 26 27 1, lG 29 18 28, jG 30 18 29 0 1, lG 31 18 30, bG 32 18 .gtr t25 t31, mT 33 18 t32, mF 34 33 t0, mF 35 33 t3, bH 36 33 .sub t35 (ci 1), iH 37 33 34 36 1, lH 38 33 37, jH 39 33 38 0 1, lH 40 33 39, mF 41 33 t0, mF 42 33 t3, iH 43 33 41 42 1, lH 44 33 43, jH 45 33 44 0 1, lH 46 33 45, bH 47 33 .eql t40 t46, mF 48 33 t47, mT 49 48 t0, mT 50 48 t3, bG 51 48 .sub t50 (ci 1), iG 52 48 49 51 1, lG 53 48 52, jG 54 48 53 1 1, lG 55 48 54, mT 56 48 t0, mT 57 48 t3, iG 58 48 56 57 1, lG 59 48 58, jG 60 48 59 1 1, lG 61 48 60, bG 62 48 .geq t55 t61, gF 63 33 (.pick t48 t62 cf), gT 64 18 (.pick t33 ct t63), pF 65 (.pick t18 t64 cf)] (.cond t65 (sr [pT 2 (.mv cf)] .ret) .skip)))) (.reg [mvt 8 3, bT 9 .add t8 (ci 1), mvt 3 9])))))) (sr [mvt 66 0, zT 67 66, bT 68 .leq t67 (ci 8), mvt 2 68] .ret)))
theorem c87_ : IsF Tryz.prog 87 c87 [(.tmp 2)] := ⟨by kernel_rfl, by kernel_rfl⟩

def F_spec_l05Pairs_l0 (v0 : List (List Int)) (k0 : Int → Option (Bool)) : Int → Option (Bool)
 | x1 => (bif (decide (x1 < (v0.length : Int))) then ((ix v0 x1).bind fun u0 => ((F_spec_l05Pair u0).bind fun u1 => (bif (!u1) then some false
 else (bif (decide ((0 : Int) < x1)) then ((ix v0 (w64 (x1 - 1))).bind fun u2 => ((ix u2 0).bind fun u3 => ((ix v0 x1).bind fun u4 => ((ix u4 0).bind fun u5 => (bif (decide (u5 < u3)) then some false
 else ((ix v0 (w64 (x1 - 1))).bind fun u6 => ((ix u6 0).bind fun u7 => ((ix v0 x1).bind fun u8 => ((ix u8 0).bind fun u9 => (bif (decide (u7 = u9)) then ((ix v0 (w64 (x1 - 1))).bind fun u10 => ((ix u10 1).bind fun u11 => ((ix v0 x1).bind fun u12 => ((ix u12 1).bind fun u13 => (bif (decide (u13 ≤ u11)) then some false
 else k0 (w64 (x1 + 1)))))))
 else k0 (w64 (x1 + 1))))))))))))
 else k0 (w64 (x1 + 1))))))
 else some (decide ((v0.length : Int) ≤ (8 : Int))))
def F_spec_l05Pairs (v0 : List (List Int)) : Option (Bool) :=
 loop (F_spec_l05Pairs_l0 v0) 0
@[simp] abbrev K1v (v0 : List (List Int)) : V := .sl 1 (v0.map (eL 1 vI))
@[simp] def res_spec_l05Pairs (r : Bool) : RV := .one (.one (.val (.bool r)))
theorem con_spec_l05Pairs {v0 : List (List Int)} {r : Bool} (hF : F_spec_l05Pairs v0 = some r) : Con Tryz.prog 87 [.sl 1 (v0.map (eL 1 vI))] (res_spec_l05Pairs r) := by
 unfold F_spec_l05Pairs at hF
 refine con_of c87_.1 fun N => ?_
 refine ws 0 64 (qp (AB false) rfl (r_nil (w_seq (ws 64 128 (qp (AI 0) rfl (r_nil (w_block ?_)))))))
 refine wr (l' := [(0, .val none (K1v v0)), (3, AI 0)]) (L := []) [0, 3] [] 1 ?_
 refine w_loopF (F_spec_l05Pairs_l0 v0) (fun s : Int => mkS [(0, .val none (K1v v0)), (3, AI s)] (fo []) 1) hF ?_
 rintro k0 x1 hF
 rw [F_spec_l05Pairs_l0] at hF
 try dsimp only
 refine w_seq (ws 1 257 (qp (AI x1) rfl (qp (.val none (K1v v0)) rfl (qp (AI (v0.length : Int)) (ev_len_n rfl) (qp (AB (decide (x1 < (v0.length : Int)))) rfl (r_nil ?_))))))
 refine cF hF (fun hF => ?_) fun hF => ?_
 ·
  refine w_skip (thenQ_n (w_seq (w_block (w_seq (ws 257 641 (qp (.val none (K1v v0)) rfl (qp (AI x1) rfl (bk hF fun u0 e0 hF => qp (.val none (.ptr [.sl 1 (u0.map vI)])) (ev_iad_n rfl rfl e0 rfl) (qp (AL 1 (u0.map vI)) rfl (bk hF fun u1 e1 hF => qC (AB u1) [] (con_spec_l05Pair e1) c118_ (qp (AB (!u1)) rfl (r_nil ?_))))))))))))
  refine cF hF (fun hF => ws 641 705 (qp (AB false) rfl (r_nil (w_ret (thenQ_r (blockQ_r (thenQ_r (thenQ_r (blockQ_r (thenQ_r (eQ hF))))))))))) fun hF => ?_
  refine w_skip (thenQ_n (ws 641 3841 (qp (AI x1) rfl (qp (AB (decide ((0 : Int) < x1))) rfl (qp (AB (decide ((0 : Int) < x1))) rfl ?_)))))
  refine q_case 18 hF rfl (fun hF => ?_) (fun hF => ?_)
  ·
   refine qg (.val none (K1v v0)) rfl rfl (qg (AI x1) rfl rfl (qg (AI (w64 (x1 - 1))) rfl rfl (bk hF fun u2 e2 hF => qg (.val none (.ptr [.sl 1 (u2.map vI)])) rfl (ev_iad_n rfl rfl e2 rfl) (qg (AL 1 (u2.map vI)) rfl rfl (bk hF fun u3 e3 hF => qg (.val none (.ptr [.int .i64 u3])) rfl (ev_iad_n rfl rfl e3 rfl) (qg (AI u3) rfl rfl (qg (.val none (K1v v0)) rfl rfl (qg (AI x1) rfl rfl (bk hF fun u4 e4 hF => qg (.val none (.ptr [.sl 1 (u4.map vI)])) rfl (ev_iad_n rfl rfl e4 rfl) (qg (AL 1 (u4.map vI)) rfl rfl (bk hF fun u5 e5 hF => qg (.val none (.ptr [.int .i64 u5])) rfl (ev_iad_n rfl rfl e5 rfl) (qg (AI u5) rfl rfl (qg (AB (decide (u5 < u3))) rfl rfl (qg (AB (decide (u5 < u3))) rfl rfl ?_))))))))))))))
   refine q_case 33 hF rfl (fun hF => ?_) (fun hF => ?_)
   ·
    refine qn8 (qn7 (qu rfl (qu rfl (qu rfl (qu rfl (qu rfl (qu rfl (qu rfl (qu rfl (qu rfl ?_))))))))))
    refine qu rfl (qu rfl (qu rfl (qu rfl (qu rfl (qn rfl (qg (AB true) rfl rfl (qp (AB true) rfl (r_nil (w_true rfl (ws 3841 3905 (qp (AB false) rfl (r_nil (w_ret ?_)))))))))))))
    exact blockQ_r (thenQ_r (thenQ_r (blockQ_r (thenQ_r (eQ hF)))))
   refine qg (.val none (K1v v0)) rfl rfl (qg (AI x1) rfl rfl (qg (AI (w64 (x1 - 1))) rfl rfl (bk hF fun u6 e6 hF => qg (.val none (.ptr [.sl 1 (u6.map vI)])) rfl (ev_iad_n rfl rfl e6 rfl) (qg (AL 1 (u6.map vI)) rfl rfl (bk hF fun u7 e7 hF => qg (.val none (.ptr [.int .i64 u7])) rfl (ev_iad_n rfl rfl e7 rfl) (qg (AI u7) rfl rfl (qg (.val none (K1v v0)) rfl rfl (qg (AI x1) rfl rfl (bk hF fun u8 e8 hF => qg (.val none (.ptr [.sl 1 (u8.map vI)])) rfl (ev_iad_n rfl rfl e8 rfl) (qg (AL 1 (u8.map vI)) rfl rfl (bk hF fun u9 e9 hF => qg (.val none (.ptr [.int .i64 u9])) rfl (ev_iad_n rfl rfl e9 rfl) (qg (AI u9) rfl rfl (qg (AB (decide (u7 = u9))) rfl rfl (qg (AB (decide (u7 = u9))) rfl rfl ?_))))))))))))))
   refine q_case 48 hF rfl (fun hF => ?_) (fun hF => ?_)
   ·
    refine qg (.val none (K1v v0)) rfl rfl (qg (AI x1) rfl rfl (qg (AI (w64 (x1 - 1))) rfl rfl (bk hF fun u10 e10 hF => qg (.val none (.ptr [.sl 1 (u10.map vI)])) rfl (ev_iad_n rfl rfl e10 rfl) (qg (AL 1 (u10.map vI)) rfl rfl (bk hF fun u11 e11 hF => qg (.val none (.ptr [.int .i64 u11])) rfl (ev_iad_n rfl rfl e11 rfl) (qg (AI u11) rfl rfl (qg (.val none (K1v v0)) rfl rfl (qg (AI x1) rfl rfl (bk hF fun u12 e12 hF => qg (.val none (.ptr [.sl 1 (u12.map vI)])) rfl (ev_iad_n rfl rfl e12 rfl) (qg (AL 1 (u12.map vI)) rfl rfl (bk hF fun u13 e13 hF => ?_)))))))))))
    refine qg (.val none (.ptr [.int .i64 u13])) rfl (ev_iad_n rfl rfl e13 rfl) (qg (AI u13) rfl rfl (qg (AB (decide (u13 ≤ u11))) rfl rfl (qg (AB (decide (u13 ≤ u11))) rfl rfl (qg (AB (decide (u13 ≤ u11))) rfl rfl (qp (AB (decide (u13 ≤ u11))) rfl (r_nil ?_))))))
    refine cF hF (fun hF => ws 3841 3905 (qp (AB false) rfl (r_nil (w_ret (blockQ_r (thenQ_r (thenQ_r (blockQ_r (thenQ_r (eQ hF)))))))))) fun hF => ?_
    refine w_skip (blockQ_n (thenQ_n (w_reg 3841 4033 rfl rfl (qp (AI x1) rfl (qp (AI (w64 (x1 + 1))) rfl (qp (AI (w64 (x1 + 1))) rfl (r_nil (thenQ_n ?_))))))))
    refine ar (l' := [(0, .val none (K1v v0)), (3, AI (w64 (x1 + 1)))]) (L := []) [0, 3] [] 1 ⟨_, by rfl, hF⟩
   refine qn8 (qn6 (qg (AB false) rfl rfl (qg (AB false) rfl rfl (qp (AB false) rfl (r_nil (w_false rfl (w_skip (blockQ_n (thenQ_n (w_reg 3841 4033 rfl rfl ?_))))))))))
   refine qp (AI x1) rfl (qp (AI (w64 (x1 + 1))) rfl (qp (AI (w64 (x1 + 1))) rfl (r_nil (thenQ_n ?_))))
   refine ar (l' := [(0, .val none (K1v v0)), (3, AI (w64 (x1 + 1)))]) (L := []) [0, 3] [] 1 ⟨_, by rfl, hF⟩
  refine qn8 (qn7 (qu rfl (qu rfl (qu rfl (qu rfl (qu rfl (qu rfl (qu rfl (qu rfl (qu rfl ?_))))))))))
  refine qu rfl (qu rfl (qu rfl (qu rfl (qu rfl (qu rfl (qu rfl (qu rfl ?_)))))))
  refine qu rfl (qu rfl (qu rfl (qu rfl (qu rfl (qu rfl (qu rfl (qu rfl ?_)))))))
  refine qu rfl (qu rfl (qu rfl (qu rfl (qu rfl (qn rfl (qp (AB false) rfl (r_nil (w_false rfl (w_skip (blockQ_n (thenQ_n (w_reg 3841 4033 rfl rfl ?_))))))))))))
  refine qp (AI x1) rfl (qp (AI (w64 (x1 + 1))) rfl (qp (AI (w64 (x1 + 1))) rfl (r_nil (thenQ_n ?_))))
  refine ar (l' := [(0, .val none (K1v v0)), (3, AI (w64 (x1 + 1)))]) (L := []) [0, 3] [] 1 ⟨_, by rfl, hF⟩
 exact w_exit (thenQ_e (thenQ_e (blockQ_e (thenQ_n (ws 257 513 (qp (.val none (K1v v0)) rfl (qp (AI (v0.length : Int)) (ev_len_n rfl) (qp (AB (decide ((v0.length : Int) ≤ (8 : Int)))) rfl (qp (AB (decide ((v0.length : Int) ≤ (8 : Int)))) rfl (rR hF))))))))))

def c54 : MC := (sr [pT 2 (.mv cf)] (sr [mP 3 t0, pF 4 (.nck t3), pF 5 (.fad t4 0), lF 6 5, dF 7 84 [t6], mP 8 t7, mT 9 8 t0, gT 10 8 (.nck t9), gT 11 8 (.fad t10 1), lG 12 8 11, ⟨(some 13), (some (8, true)), (.call false 85 [t12])⟩, pF 14 (.pick t8 t13 cf), mP 15 t14, mT 16 15 t0, gT 17 15 (.nck t16), gT 18 15 (.fad t17 2), lG 19 15 18, ⟨(some 20), (some (15, true)), (.call false 85 [t19])⟩, pF 21 (.pick t15 t20 cf), mP 22 t21, mT 23 22 t0, mT 24 22 t0, gT 25 22 (.nck t24), gT 26 22 (.fad t25 3), lG 27 22 26, ⟨(some 28), (some (22, true)), (.call false 86 [t23, t27])⟩, pF 29 (.pick t22 t28 cf), mP 30 t29, mT 31 30 t0, mT 32 30 t0, gT 33 30 (.nck t32), gT 34 30 (.fad t33 4), lG 35 30 34, ⟨(some 36), (some (30, true)), (.call false 86 [t31, t35])⟩, pF 37 (.pick t30 t36 cf), mP 38 t37, mT 39 38 t0, gT 40 38 (.nck t39), gT 41 38 (.fad t40 3), lG 42 38 41, mT 43 38 t0, gT 44 38 (.nck t43), gT 45 38 (.fad t44 4), lG 46 38 45, bG 47 38 .neq t42 t46, pF 48 (.pick t38 t47 cf), mP 49 t48, mT 50 49 t0, gT 51 49 (.nck t50), gT 52 49 (.fad t51 5), lG 53 49 52, ⟨(some 54), (some (49, true)), (.call false 87 [t53])⟩, pF 55 (.pick t49 t54 cf), mP 2 t55] .ret))
theorem c54_ : IsF Tryz.prog 54 c54 [(.tmp 2)] := ⟨by kernel_rfl, by kernel_rfl⟩

def F_spec_l05Ok (v0 : TRaga) : Option (Bool) :=
 ((F_spec_l01Name v0.1).bind fun u0 => (bif u0 then ((F_spec_l03Scale v0.2.1).bind fun u1 => (bif u1 then ((F_spec_l03Scale v0.2.2.1).bind fun u2 => (bif u2 then ((F_spec_l05Tone v0 v0.2.2.2.1).bind fun u3 => (bif u3 then ((F_spec_l05Tone v0 v0.2.2.2.2.1).bind fun u4 => (bif u4 then (bif (decide (v0.2.2.2.1 ≠ v0.2.2.2.2.1)) then ((F_spec_l05Pairs v0.2.2.2.2.2).bind fun u5 => some u5)
 else some false)
 else some false))
 else some false))
 else some false))
 else some false))
 else some false))
@[simp] abbrev K1w (v0 : TRaga) : AV := .val none (.ptr [.str v0.1, .sl 1 (v0.2.1.map vI), .sl 1 (v0.2.2.1.map vI), .int .i64 v0.2.2.2.1, .int .i64 v0.2.2.2.2.1, .sl 1 (v0.2.2.2.2.2.map (eL 1 vI))])
@[simp] abbrev K1x (v0 : TRaga) : AV := .val none (.ptr [.int .i64 v0.2.2.2.1, .int .i64 v0.2.2.2.2.1, .sl 1 (v0.2.2.2.2.2.map (eL 1 vI))])
@[simp] def res_spec_l05Ok (r : Bool) : RV := .one (.one (.val (.bool r)))
theorem con_spec_l05Ok {v0 : TRaga} {r : Bool} (hF : F_spec_l05Ok v0 = some r) : Con Tryz.prog 54 [.ptr [.str v0.1, .sl 1 (v0.2.1.map vI), .sl 1 (v0.2.2.1.map vI), .int .i64 v0.2.2.2.1, .int .i64 v0.2.2.2.2.1, .sl 1 (v0.2.2.2.2.2.map (eL 1 vI))]] (res_spec_l05Ok r) := by
 unfold F_spec_l05Ok at hF
 refine con_of c54_.1 fun N => ?_
 refine ws 0 64 (qp (AB false) rfl (r_nil (ws 64 3520 (qp (K1w v0) rfl (qp (K1w v0) rfl (qp (K1w v0) rfl (qp (AS v0.1) rfl (bk hF fun u0 e0 hF => qC (AB u0) [] (con_spec_l01Name e0) c84_ (qp (AB u0) rfl ?_)))))))))
 refine q_case 8 hF rfl (fun hF => ?_) (fun hF => ?_)
 ·
  refine qg (K1w v0) rfl rfl (qg (K1w v0) rfl rfl (qg (.val none (.ptr [.sl 1 (v0.2.1.map vI), .sl 1 (v0.2.2.1.map vI), .int .i64 v0.2.2.2.1, .int .i64 v0.2.2.2.2.1, .sl 1 (v0.2.2.2.2.2.map (eL 1 vI))])) rfl rfl (qg (AL 1 (v0.2.1.map vI)) rfl rfl (bk hF fun u1 e1 hF => qG (AB u1) [] (con_spec_l03Scale e1) c85_ (qp (AB u1) rfl (qp (AB u1) rfl ?_))))))
  refine q_case 15 hF rfl (fun hF => ?_) (fun hF => ?_)
  ·
   refine qg (K1w v0) rfl rfl (qg (K1w v0) rfl rfl (qg (.val none (.ptr [.sl 1 (v0.2.2.1.map vI), .int .i64 v0.2.2.2.1, .int .i64 v0.2.2.2.2.1, .sl 1 (v0.2.2.2.2.2.map (eL 1 vI))])) rfl rfl (qg (AL 1 (v0.2.2.1.map vI)) rfl rfl (bk hF fun u2 e2 hF => qG (AB u2) [] (con_spec_l03Scale e2) c85_ (qp (AB u2) rfl (qp (AB u2) rfl ?_))))))
   refine q_case 22 hF rfl (fun hF => ?_) (fun hF => ?_)
   ·
    refine qg (K1w v0) rfl rfl (qg (K1w v0) rfl rfl (qg (K1w v0) rfl rfl (qg (K1x v0) rfl rfl (qg (AI v0.2.2.2.1) rfl rfl (bk hF fun u3 e3 hF => qG (AB u3) [] (con_spec_l05Tone e3) c86_ (qp (AB u3) rfl (qp (AB u3) rfl ?_)))))))
    refine q_case 30 hF rfl (fun hF => ?_) (fun hF => ?_)
    ·
     refine qg (K1w v0) rfl rfl (qg (K1w v0) rfl rfl (qg (K1w v0) rfl rfl (qg (.val none (.ptr [.int .i64 v0.2.2.2.2.1, .sl 1 (v0.2.2.2.2.2.map (eL 1 vI))])) rfl rfl (qg (AI v0.2.2.2.2.1) rfl rfl (bk hF fun u4 e4 hF => qG (AB u4) [] (con_spec_l05Tone e4) c86_ (qp (AB u4) rfl (qp (AB u4) rfl ?_)))))))
     refine q_case 38 hF rfl (fun hF => ?_) (fun hF => ?_)
     ·
      refine qg (K1w v0) rfl rfl (qg (K1w v0) rfl rfl (qg (K1x v0) rfl rfl (qg (AI v0.2.2.2.1) rfl rfl (qg (K1w v0) rfl rfl (qg (K1w v0) rfl rfl (qg (.val none (.ptr [.int .i64 v0.2.2.2.2.1, .sl 1 (v0.2.2.2.2.2.map (eL 1 vI))])) rfl rfl (qg (AI v0.2.2.2.2.1) rfl rfl (qg (AB (decide (v0.2.2.2.1 ≠ v0.2.2.2.2.1))) rfl rfl (qp (AB (decide (v0.2.2.2.1 ≠ v0.2.2.2.2.1))) rfl (qp (AB (decide (v0.2.2.2.1 ≠ v0.2.2.2.2.1))) rfl ?_))))))))))
      refine q_case 49 hF rfl (fun hF => qg (K1w v0) rfl rfl (qg (K1w v0) rfl rfl (qg (.val none (.ptr [.sl 1 (v0.2.2.2.2.2.map (eL 1 vI))])) rfl rfl (qg (AL 1 (v0.2.2.2.2.2.map (eL 1 vI))) rfl rfl (bk hF fun u5 e5 hF => qG (AB u5) [] (con_spec_l05Pairs e5) c87_ (qp (AB u5) rfl (qp (AB u5) rfl (rR hF)))))))) fun hF => ?_
      exact qn5 (qp (AB false) rfl (qp (AB false) rfl (rR hF)))
     exact qn8 (qn rfl (qp (AB false) rfl (qp (AB false) rfl (qn rfl (qn rfl (qn rfl (qn rfl (qn rfl (qp (AB false) rfl (qp (AB false) rfl (rR hF)))))))))))
    exact qn6 (qp (AB false) rfl (qp (AB false) rfl (qn8 (qn rfl (qp (AB false) rfl (qp (AB false) rfl (qn rfl (qn rfl (qn rfl (qn rfl (qn rfl (qp (AB false) rfl (qp (AB false) rfl (rR hF))))))))))))))
   refine qn6 (qp (AB false) rfl (qp (AB false) rfl (qn6 (qp (AB false) rfl (qp (AB false) rfl (qn8 ?_))))))
   exact qn rfl (qp (AB false) rfl (qp (AB false) rfl (qn rfl (qn rfl (qn rfl (qn rfl (qn rfl (qp (AB false) rfl (qp (AB false) rfl (rR hF))))))))))
  refine qn5 (qp (AB false) rfl (qp (AB false) rfl (qn rfl (qn5 (qp (AB false) rfl (qp (AB false) rfl (qn rfl (qn5 (qp (AB false) rfl (qp (AB false) rfl (qn rfl (qn8 ?_))))))))))))
  exact qp (AB false) rfl (qp (AB false) rfl (qn5 (qp (AB false) rfl (qp (AB false) rfl (rR hF)))))
 refine qn5 (qp (AB false) rfl (qp (AB false) rfl (qn rfl (qn4 (qp (AB false) rfl (qp (AB false) rfl (qn2 (qn4 (qp (AB false) rfl (qp (AB false) rfl (qn2 ?_)))))))))))
 exact qn4 (qp (AB false) rfl (qp (AB false) rfl (qn2 (qn7 (qp (AB false) rfl (qp (AB false) rfl (qn5 (qp (AB false) rfl (qp (AB false) rfl (rR hF))))))))))

def c55 : MC := (sr [pT 2 (.mv cf)] (sr [mvt 3 0, dT 4 56 [t3, (ci (-12)), (ci 23)], mvt 2 4] .ret))
theorem c55_ : IsF Tryz.prog 55 c55 [(.tmp 2)] := ⟨by kernel_rfl, by kernel_rfl⟩

def F_spec_l03Pitch (v0 : Int) : Option (Bool) :=
 ((F_spec_l00In v0 (-12) 23).bind fun u0 => some u0)
@[simp] def res_spec_l03Pitch (r : Bool) : RV := .one (.one (.val (.bool r)))
theorem con_spec_l03Pitch {v0 : Int} {r : Bool} (hF : F_spec_l03Pitch v0 = some r) : Con Tryz.prog 55 [.int .i64 v0] (res_spec_l03Pitch r) := by
 unfold F_spec_l03Pitch at hF
 refine con_of c55_.1 fun N => ?_
 exact ws 0 64 (qp (AB false) rfl (r_nil (ws 64 256 (qp (AI v0) rfl (bk hF fun u0 e0 hF => qC (AB u0) [] (con_spec_l00In e0) c56_ (qp (AB u0) rfl (rR hF)))))))

def c88 : MC := (sr [pT 2 (.mv cf)] (sr [mvt 3 0, dT 4 56 [t3, (ci 1), (ci 64)], mvt 2 4] .ret))
theorem c88_ : IsF Tryz.prog 88 c88 [(.tmp 2)] := ⟨by kernel_rfl, by kernel_rfl⟩

def F_spec_l09Length (v0 : Int) : Option (Bool) :=
 ((F_spec_l00In v0 1 64).bind fun u0 => some u0)
@[simp] def res_spec_l09Length (r : Bool) : RV := .one (.one (.val (.bool r)))
theorem con_spec_l09Length {v0 : Int} {r : Bool} (hF : F_spec_l09Length v0 = some r) : Con Tryz.prog 88 [.int .i64 v0] (res_spec_l09Length r) := by
 unfold F_spec_l09Length at hF
 refine con_of c88_.1 fun N => ?_
 exact ws 0 64 (qp (AB false) rfl (r_nil (ws 64 256 (qp (AI v0) rfl (bk hF fun u0 e0 hF => qC (AB u0) [] (con_spec_l00In e0) c56_ (qp (AB u0) rfl (rR hF)))))))

def c57 : MC := (sr [pT 2 (.mv cf)] (.seq (sr [pT 3 (.mv (ci 0))] (.block 0 (.loop (.seq (sr [mvt 4 3, mvt 5 0, zT 6 5, bT 7 .lss t4 t6] (cx t7 0)) (.seq (.block 1 (sr [mvt 10 0, mvt 11 3, iT 12 10 11 2, pT 13 (.fad t12 0), lT 14 13, dT 15 55 [t14], pT 16 (.not t15), mvt 17 16, nF 18 17 t0, nF 19 17 t3, kF 20 17 (.iad t18 t19 2), kF 21 17 (.fad t20 1), kF 22 17 (.ld t21 1 false), ⟨(some 23), (some (17, false)), (.call true 88 [t22])⟩, kF 24 17 (.not t23), pT 25 (.pick t17 ct t24)] (.cond t25 (sr [pT 2 (.mv cf)] .ret) .skip))) (.reg [mvt 8 3, bT 9 .add t8 (ci 1), mvt 3 9])))))) (sr [mvt 26 0, zT 27 26, bT 28 .leq t27 (ci 48), mvt 2 28] .ret)))
theorem c57_ : IsF Tryz.prog 57 c57 [(.tmp 2)] := ⟨by kernel_rfl, by kernel_rfl⟩

def F_spec_l09Ok_l0 (v0 : List TNote) (k0 : Int → Option (Bool)) : Int → Option (Bool)
 | x1 => (bif (decide (x1 < (v0.length : Int))) then ((ix v0 x1).bind fun u0 => ((F_spec_l03Pitch u0.1).bind fun u1 => (bif (!u1) then some false
 else ((ix v0 x1).bind fun u2 => ((F_spec_l09Length u2.2).bind fun u3 => (bif (!u3) then some false
 else k0 (w64 (x1 + 1))))))))
 else some (decide ((v0.length : Int) ≤ (48 : Int))))
def F_spec_l09Ok (v0 : List TNote) : Option (Bool) :=
 loop (F_spec_l09Ok_l0 v0) 0
@[simp] def res_spec_l09Ok (r : Bool) : RV := .one (.one (.val (.bool r)))
theorem con_spec_l09Ok {v0 : List TNote} {r : Bool} (hF : F_spec_l09Ok v0 = some r) : Con Tryz.prog 57 [.sl 2 (v0.map eNote)] (res_spec_l09Ok r) := by
 unfold F_spec_l09Ok at hF
 refine con_of c57_.1 fun N => ?_
 refine ws 0 64 (qp (AB false) rfl (r_nil (w_seq (ws 64 128 (qp (AI 0) rfl (r_nil (w_block ?_)))))))
 refine wr (l' := [(0, AL 2 (v0.map eNote)), (3, AI 0)]) (L := []) [0, 3] [] 1 ?_
 refine w_loopF (F_spec_l09Ok_l0 v0) (fun s : Int => mkS [(0, AL 2 (v0.map eNote)), (3, AI s)] (fo []) 1) hF ?_
 rintro k0 x1 hF
 rw [F_spec_l09Ok_l0] at hF
 try dsimp only
 refine w_seq (ws 1 257 (qp (AI x1) rfl (qp (AL 2 (v0.map eNote)) rfl (qp (AI (v0.length : Int)) (ev_len_n rfl) (qp (AB (decide (x1 < (v0.length : Int)))) rfl (r_nil ?_))))))
 refine cF hF (fun hF => ?_) fun hF => ?_
 ·
  refine w_skip (thenQ_n (w_seq (w_block (ws 257 1281 (qp (AL 2 (v0.map eNote)) rfl (qp (AI x1) rfl (bk hF fun u0 e0 hF => qp (.val none (.ptr [.int .i64 u0.1, .int .i64 u0.2])) (ev_iad_n rfl rfl e0 rfl) (qp (.val none (.ptr [.int .i64 u0.1, .int .i64 u0.2])) rfl (qp (AI u0.1) rfl (bk hF fun u1 e1 hF => qC (AB u1) [] (con_spec_l03Pitch e1) c55_ (qp (AB (!u1)) rfl (qp (AB (!u1)) rfl ?_))))))))))))
  refine q_case 17 hF rfl (fun hF => qn7 (qp (AB true) rfl (r_nil (w_true rfl (ws 1281 1345 (qp (AB false) rfl (r_nil (w_ret (blockQ_r (thenQ_r (thenQ_r (blockQ_r (thenQ_r (eQ hF)))))))))))))) fun hF => ?_
  refine qg (AL 2 (v0.map eNote)) rfl rfl (qg (AI x1) rfl rfl (bk hF fun u2 e2 hF => qg (.val none (.ptr [.int .i64 u2.1, .int .i64 u2.2])) rfl (ev_iad_n rfl rfl e2 rfl) (qg (.val none (.ptr [.int .i64 u2.2])) rfl rfl (qg (AI u2.2) rfl rfl (bk hF fun u3 e3 hF => qG (AB u3) [] (con_spec_l09Length e3) c88_ (qg (AB (!u3)) rfl rfl (qp (AB (!u3)) rfl (r_nil ?_))))))))
  refine cF hF (fun hF => ws 1281 1345 (qp (AB false) rfl (r_nil (w_ret (blockQ_r (thenQ_r (thenQ_r (blockQ_r (thenQ_r (eQ hF)))))))))) fun hF => ?_
  refine w_skip (blockQ_n (thenQ_n (w_reg 1281 1473 rfl rfl (qp (AI x1) rfl (qp (AI (w64 (x1 + 1))) rfl (qp (AI (w64 (x1 + 1))) rfl (r_nil (thenQ_n ?_))))))))
  refine ar (l' := [(0, AL 2 (v0.map eNote)), (3, AI (w64 (x1 + 1)))]) (L := []) [0, 3] [] 1 ⟨_, by rfl, hF⟩
 exact w_exit (thenQ_e (thenQ_e (blockQ_e (thenQ_n (ws 257 513 (qp (AL 2 (v0.map eNote)) rfl (qp (AI (v0.length : Int)) (ev_len_n rfl) (qp (AB (decide ((v0.length : Int) ≤ (48 : Int)))) rfl (qp (AB (decide ((v0.length : Int) ≤ (48 : Int)))) rfl (rR hF))))))))))

def c89 : MC := (sr [pT 2 (.mv cf)] (sr [mvt 3 0, pT 4 (.nck t3), pT 5 (.fad t4 0), lT 6 5, dT 7 84 [t6], mvt 8 7, nT 9 8 t0, kT 10 8 (.nck t9), kT 11 8 (.fad t10 1), kT 12 8 (.ld t11 1 false), ⟨(some 13), (some (8, true)), (.call true 56 [t12, (ci 0), (ci 10000)])⟩, pT 14 (.pick t8 t13 cf), mvt 15 14, nT 16 15 t0, kT 17 15 (.nck t16), kT 18 15 (.fad t17 2), kT 19 15 (.ld t18 1 false), ⟨(some 20), (some (15, true)), (.call true 56 [t19, (ci 1), (ci 10000)])⟩, pT 21 (.pick t15 t20 cf), mvt 2 21] .ret))
theorem c89_ : IsF Tryz.prog 89 c89 [(.tmp 2)] := ⟨by kernel_rfl, by kernel_rfl⟩

def F_spec_l23One (v0 : TTurn) : Option (Bool) :=
 ((F_spec_l01Name v0.1).bind fun u0 => (bif u0 then ((F_spec_l00In v0.2.1 0 10000).bind fun u1 => (bif u1 then ((F_spec_l00In v0.2.2 1 10000).bind fun u2 => some u2)
 else some false))
 else some false))
@[simp] abbrev K1y (v0 : TTurn) : AV := .val none (.ptr [.str v0.1, .int .i64 v0.2.1, .int .i64 v0.2.2])
@[simp] def res_spec_l23One (r : Bool) : RV := .one (.one (.val (.bool r)))
theorem con_spec_l23One {v0 : TTurn} {r : Bool} (hF : F_spec_l23One v0 = some r) : Con Tryz.prog 89 [.ptr [.str v0.1, .int .i64 v0.2.1, .int .i64 v0.2.2]] (res_spec_l23One r) := by
 unfold F_spec_l23One at hF
 refine con_of c89_.1 fun N => ?_
 refine ws 0 64 (qp (AB false) rfl (r_nil (ws 64 1344 (qp (K1y v0) rfl (qp (K1y v0) rfl (qp (K1y v0) rfl (qp (AS v0.1) rfl (bk hF fun u0 e0 hF => qC (AB u0) [] (con_spec_l01Name e0) c84_ (qp (AB u0) rfl ?_)))))))))
 refine q_case 8 hF rfl (fun hF => ?_) (fun hF => ?_)
 ·
  refine qg (K1y v0) rfl rfl (qg (K1y v0) rfl rfl (qg (.val none (.ptr [.int .i64 v0.2.1, .int .i64 v0.2.2])) rfl rfl (qg (AI v0.2.1) rfl rfl (bk hF fun u1 e1 hF => qG (AB u1) [] (con_spec_l00In e1) c56_ (qp (AB u1) rfl (qp (AB u1) rfl (q_case 15 hF rfl (fun hF => qg (K1y v0) rfl rfl (qg (K1y v0) rfl rfl (qg (.val none (.ptr [.int .i64 v0.2.2])) rfl rfl (qg (AI v0.2.2) rfl rfl (bk hF fun u2 e2 hF => qG (AB u2) [] (con_spec_l00In e2) c56_ (qp (AB u2) rfl (qp (AB u2) rfl (rR hF)))))))) fun hF => ?_)))))))
  exact qn5 (qp (AB false) rfl (qp (AB false) rfl (rR hF)))
 exact qn5 (qp (AB false) rfl (qp (AB false) rfl (qn rfl (qn4 (qp (AB false) rfl (qp (AB false) rfl (rR hF)))))))

def c90 : MC := (sr [pT 4 (.mv cf)] (.seq (sr [mP 5 t0, pF 6 (.nck t5), pF 7 (.fad t6 1), lF 8 7, mP 9 t1, pF 10 (.nck t9), pF 11 (.fad t10 1), lF 12 11, bF 13 .neq t8 t12] (.cond t13 (sr [mP 14 t0, pF 15 (.nck t14), pF 16 (.fad t15 1), lF 17 16, mP 18 t1, pF 19 (.nck t18), pF 20 (.fad t19 1), lF 21 20, bF 22 .lss t17 t21, mP 4 t22] .ret) .skip)) (.seq (sr [mP 23 t0, pF 24 (.nck t23), pF 25 (.fad t24 0), lF 26 25, mP 27 t1, pF 28 (.nck t27), pF 29 (.fad t28 0), lF 30 29, bF 31 .neq t26 t30] (.cond t31 (sr [mP 32 t0, pF 33 (.nck t32), pF 34 (.fad t33 0), lF 35 34, mP 36 t1, pF 37 (.nck t36), pF 38 (.fad t37 0), lF 39 38, bF 40 .lss t35 t39, mP 4 t40] .ret) .skip)) (sr [mP 41 t0, pF 42 (.nck t41), pF 43 (.fad t42 2), lF 44 43, mP 45 t1, pF 46 (.nck t45), pF 47 (.fad t46 2), lF 48 47, bF 49 .lss t44 t48, mP 4 t49] .ret))))
theorem c90_ : IsF Tryz.prog 90 c90 [(.tmp 4)] := ⟨by kernel_rfl, by kernel_rfl⟩

def F_spec_l23Before (v0 : TTurn) (v1 : TTurn) : Option (Bool) :=
 (bif (decide (v0.2.1 ≠ v1.2.1)) then some (decide (v0.2.1 < v1.2.1))
 else (bif (decide (v0.1 ≠ v1.1)) then some (Op.bytesLess v0.1 v1.1)
 else some (decide (v0.2.2 < v1.2.2))))
@[simp] abbrev K1z (v0 : TTurn) : AV := .val none (.ptr [.str v0.1, .int .i64 v0.2.1, .int .i64 v0.2.2])
@[simp] abbrev K20 (v1 : TTurn) : AV := .val none (.ptr [.str v1.1, .int .i64 v1.2.1, .int .i64 v1.2.2])
@[simp] def res_spec_l23Before (r : Bool) : RV := .one (.one (.val (.bool r)))
theorem con_spec_l23Before {v0 : TTurn} {v1 : TTurn} {r : Bool} (hF : F_spec_l23Before v0 v1 = some r) : Con Tryz.prog 90 [.ptr [.str v0.1, .int .i64 v0.2.1, .int .i64 v0.2.2], .ptr [.str v1.1, .int .i64 v1.2.1, .int .i64 v1.2.2]] (res_spec_l23Before r) := by
 unfold F_spec_l23Before at hF
 refine con_of c90_.1 fun N => ?_
 refine ws 0 64 (qp (AB false) rfl (r_nil (w_seq (ws 64 640 (qp (K1z v0) rfl (qp (K1z v0) rfl (qp (.val none (.ptr [.int .i64 v0.2.1, .int .i64 v0.2.2])) rfl (qp (AI v0.2.1) rfl (qp (K20 v1) rfl (qp (K20 v1) rfl (qp (.val none (.ptr [.int .i64 v1.2.1, .int .i64 v1.2.2])) rfl (qp (AI v1.2.1) rfl (qp (AB (decide (v0.2.1 ≠ v1.2.1))) rfl ?_)))))))))))))
 refine r_nil (cF hF (fun hF => ws 640 1280 (qp (K1z v0) rfl (qp (K1z v0) rfl (qp (.val none (.ptr [.int .i64 v0.2.1, .int .i64 v0.2.2])) rfl (qp (AI v0.2.1) rfl (qp (K20 v1) rfl (qp (K20 v1) rfl (qp (.val none (.ptr [.int .i64 v1.2.1, .int .i64 v1.2.2])) rfl (qp (AI v1.2.1) rfl (qp (AB (decide (v0.2.1 < v1.2.1))) rfl (qp (AB (decide (v0.2.1 < v1.2.1))) rfl (r_nil (w_ret (thenQ_r (eQ hF))))))))))))))) fun hF => ?_)
 refine w_skip (thenQ_n (w_seq (ws 640 1216 (qp (K1z v0) rfl (qp (K1z v0) rfl (qp (K1z v0) rfl (qp (AS v0.1) rfl (qp (K20 v1) rfl (qp (K20 v1) rfl (qp (K20 v1) rfl (qp (AS v1.1) rfl (qp (AB (decide (v0.1 ≠ v1.1))) rfl (r_nil ?_)))))))))))))
 refine cF hF (fun hF => ?_) fun hF => ?_
 ·
  exact ws 1216 1856 (qp (K1z v0) rfl (qp (K1z v0) rfl (qp (K1z v0) rfl (qp (AS v0.1) rfl (qp (K20 v1) rfl (qp (K20 v1) rfl (qp (K20 v1) rfl (qp (AS v1.1) rfl (qp (AB (Op.bytesLess v0.1 v1.1)) rfl (qp (AB (Op.bytesLess v0.1 v1.1)) rfl (r_nil (w_ret (thenQ_r (eQ hF))))))))))))))
 exact w_skip (thenQ_n (ws 1216 1856 (qp (K1z v0) rfl (qp (K1z v0) rfl (qp (.val none (.ptr [.int .i64 v0.2.2])) rfl (qp (AI v0.2.2) rfl (qp (K20 v1) rfl (qp (K20 v1) rfl (qp (.val none (.ptr [.int .i64 v1.2.2])) rfl (qp (AI v1.2.2) rfl (qp (AB (decide (v0.2.2 < v1.2.2))) rfl (qp (AB (decide (v0.2.2 < v1.2.2))) rfl (rR hF)))))))))))))

def c58 : MC := (sr [pT 2 (.mv cf)] (.seq (sr [pT 3 (.mv (ci 0))] (.block 0 (.loop (.seq (sr [mvt 4 3, mvt 5 0, zT 6 5, bT 7 .lss t4 t6] (cx t7 0)) (.seq (.block 1 (sr [mP 10 t0, mP 11 t3, iF 12 10 11 3, dF 13 89 [t12], pF 14 (.not t13), mP 15 t14, mF 16 15 t3, bH 17 15 .gtr t16 (ci 0), mF 18 15 t17, mT 19 18 t0, mT 20 18 t3, bG 21 18 .sub t20 (ci 1), iG 22 18 19 21 3, mT 23 18 t0, mT 24 18 t3, iG 25 18 23 24 3, ⟨(some 26), (some (18, true)), (.call false 90 [t22, t25])⟩, gT 27 18 (.not t26), gF 28 15 (.pick t18 t27 cf), pF 29 (.pick t15 ct t28)] (.cond t29 (sr [pT 2 (.mv cf)] .ret) .skip))) (.reg [mvt 8 3, bT 9 .add t8 (ci 1), mvt 3 9])))))) (sr [mvt 30 0, zT 31 30, bT 32 .leq t31 (ci 24), mvt 2 32] .ret)))
theorem c58_ : IsF Tryz.prog 58 c58 [(.tmp 2)] := ⟨by kernel_rfl, by kernel_rfl⟩

def F_spec_l23Ok_l0 (v0 : List TTurn) (k0 : Int → Option (Bool)) : Int → Option (Bool)
 | x1 => (bif (decide (x1 < (v0.length : Int))) then ((ix v0 x1).bind fun u0 => ((F_spec_l23One u0).bind fun u1 => (bif (!u1) then some false
 else (bif (decide ((0 : Int) < x1)) then ((ix v0 (w64 (x1 - 1))).bind fun u2 => ((ix v0 x1).bind fun u3 => ((F_spec_l23Before u2 u3).bind fun u4 => (bif (!u4) then some false
 else k0 (w64 (x1 + 1))))))
 else k0 (w64 (x1 + 1))))))
 else some (decide ((v0.length : Int) ≤ (24 : Int))))
def F_spec_l23Ok (v0 : List TTurn) : Option (Bool) :=
 loop (F_spec_l23Ok_l0 v0) 0
@[simp] abbrev K21 (v0 : List TTurn) : V := .sl 3 (v0.map eTurn)
@[simp] def res_spec_l23Ok (r : Bool) : RV := .one (.one (.val (.bool r)))
theorem con_spec_l23Ok {v0 : List TTurn} {r : Bool} (hF : F_spec_l23Ok v0 = some r) : Con Tryz.prog 58 [.sl 3 (v0.map eTurn)] (res_spec_l23Ok r) := by
 unfold F_spec_l23Ok at hF
 refine con_of c58_.1 fun N => ?_
 refine ws 0 64 (qp (AB false) rfl (r_nil (w_seq (ws 64 128 (qp (AI 0) rfl (r_nil (w_block ?_)))))))
 refine wr (l' := [(0, .val none (K21 v0)), (3, AI 0)]) (L := []) [0, 3] [] 1 ?_
 refine w_loopF (F_spec_l23Ok_l0 v0) (fun s : Int => mkS [(0, .val none (K21 v0)), (3, AI s)] (fo []) 1) hF ?_
 rintro k0 x1 hF
 rw [F_spec_l23Ok_l0] at hF
 try dsimp only
 refine w_seq (ws 1 257 (qp (AI x1) rfl (qp (.val none (K21 v0)) rfl (qp (AI (v0.length : Int)) (ev_len_n rfl) (qp (AB (decide (x1 < (v0.length : Int)))) rfl (r_nil ?_))))))
 refine cF hF (fun hF => ?_) fun hF => ?_
 ·
  refine w_skip (thenQ_n (w_seq (w_block (ws 257 1537 (qp (.val none (K21 v0)) rfl (qp (AI x1) rfl (bk hF fun u0 e0 hF => qp (.val none (.ptr [.str u0.1, .int .i64 u0.2.1, .int .i64 u0.2.2])) (ev_iad_n rfl rfl e0 rfl) (bk hF fun u1 e1 hF => qC (AB u1) [] (con_spec_l23One e1) c89_ (qp (AB (!u1)) rfl (qp (AB (!u1)) rfl ?_))))))))))
  refine q_case 15 hF rfl (fun hF => ?_) (fun hF => ?_)
  ·
   refine qn3 (qu rfl (qu rfl (qu rfl (qu rfl (qu rfl (qu rfl (qu rfl (qu rfl (qu rfl (qn rfl (qp (AB true) rfl (r_nil (w_true rfl ?_)))))))))))))
   exact ws 1537 1601 (qp (AB false) rfl (r_nil (w_ret (blockQ_r (thenQ_r (thenQ_r (blockQ_r (thenQ_r (eQ hF)))))))))
  refine qg (AI x1) rfl rfl (qg (AB (decide ((0 : Int) < x1))) rfl rfl (qg (AB (decide ((0 : Int) < x1))) rfl rfl ?_))
  refine q_case 18 hF rfl (fun hF => ?_) (fun hF => ?_)
  ·
   refine qg (.val none (K21 v0)) rfl rfl (qg (AI x1) rfl rfl (qg (AI (w64 (x1 - 1))) rfl rfl (bk hF fun u2 e2 hF => qg (.val none (.ptr [.str u2.1, .int .i64 u2.2.1, .int .i64 u2.2.2])) rfl (ev_iad_n rfl rfl e2 rfl) (qg (.val none (K21 v0)) rfl rfl (qg (AI x1) rfl rfl (bk hF fun u3 e3 hF => qg (.val none (.ptr [.str u3.1, .int .i64 u3.2.1, .int .i64 u3.2.2])) rfl (ev_iad_n rfl rfl e3 rfl) (bk hF fun u4 e4 hF => qG (AB u4) [] (con_spec_l23Before e4) c90_ (qg (AB (!u4)) rfl rfl (qg (AB (!u4)) rfl rfl (qp (AB (!u4)) rfl (r_nil ?_)))))))))))
   refine cF hF (fun hF => ws 1537 1601 (qp (AB false) rfl (r_nil (w_ret (blockQ_r (thenQ_r (thenQ_r (blockQ_r (thenQ_r (eQ hF)))))))))) fun hF => ?_
   refine w_skip (blockQ_n (thenQ_n (w_reg 1537 1729 rfl rfl (qp (AI x1) rfl (qp (AI (w64 (x1 + 1))) rfl (qp (AI (w64 (x1 + 1))) rfl (r_nil (thenQ_n ?_))))))))
   refine ar (l' := [(0, .val none (K21 v0)), (3, AI (w64 (x1 + 1)))]) (L := []) [0, 3] [] 1 ⟨_, by rfl, hF⟩
  refine qn8 (qn rfl (qg (AB false) rfl rfl (qp (AB false) rfl (r_nil (w_false rfl (w_skip (blockQ_n (thenQ_n (w_reg 1537 1729 rfl rfl ?_)))))))))
  refine qp (AI x1) rfl (qp (AI (w64 (x1 + 1))) rfl (qp (AI (w64 (x1 + 1))) rfl (r_nil (thenQ_n ?_))))
  refine ar (l' := [(0, .val none (K21 v0)), (3, AI (w64 (x1 + 1)))]) (L := []) [0, 3] [] 1 ⟨_, by rfl, hF⟩
 exact w_exit (thenQ_e (thenQ_e (blockQ_e (thenQ_n (ws 257 513 (qp (.val none (K21 v0)) rfl (qp (AI (v0.length : Int)) (ev_len_n rfl) (qp (AB (decide ((v0.length : Int) ≤ (24 : Int)))) rfl (qp (AB (decide ((v0.length : Int) ≤ (24 : Int)))) rfl (rR hF))))))))))

def c91 : MC := (sr [pT 2 (.mv (ci 0))] (sr [mvt 3 0, bT 4 .rem t3 (ci 12), bT 5 .add t4 (ci 12), bT 6 .rem t5 (ci 12), mvt 2 6] .ret))
theorem c91_ : IsF Tryz.prog 91 c91 [(.tmp 2)] := ⟨by kernel_rfl, by kernel_rfl⟩

def F_spec_l03Tone (v0 : Int) : Option (Int) :=
 some (Int.tmod (w64 ((Int.tmod v0 12) + 12)) 12)
@[simp] def res_spec_l03Tone (r : Int) : RV := .one (.one (.val (.int .i64 r)))
theorem con_spec_l03Tone {v0 : Int} {r : Int} (hF : F_spec_l03Tone v0 = some r) : Con Tryz.prog 91 [.int .i64 v0] (res_spec_l03Tone r) := by
 unfold F_spec_l03Tone at hF
 refine con_of c91_.1 fun N => ?_
 exact ws 0 64 (qp (AI 0) rfl (r_nil (ws 64 384 (qp (AI v0) rfl (qp (AI (Int.tmod v0 12)) (ev_rem rfl rfl (by decide)) (qp (AI (w64 ((Int.tmod v0 12) + 12))) rfl (qp (AI (Int.tmod (w64 ((Int.tmod v0 12) + 12)) 12)) (ev_rem rfl rfl (by decide)) (qp (AI (Int.tmod (w64 ((Int.tmod v0 12) + 12)) 12)) rfl (rR hF)))))))))

def c119 : MC := (sr [pT 4 (.mv (ci 0))] (.seq (sr [mvt 5 0, mvt 6 1, bT 7 .gtr t5 t6] (.cond t7 (sr [mvt 8 0, mvt 4 8] .ret) .skip)) (sr [mvt 9 1, mvt 4 9] .ret)))
theorem c119_ : IsF Tryz.prog 119 c119 [(.tmp 4)] := ⟨by kernel_rfl, by kernel_rfl⟩

def F_spec_l00Max (v0 : Int) (v1 : Int) : Option (Int) :=
 (bif (decide (v1 < v0)) then some v0
 else some v1)
@[simp] def res_spec_l00Max (r : Int) : RV := .one (.one (.val (.int .i64 r)))
theorem con_spec_l00Max {v0 : Int} {v1 : Int} {r : Int} (hF : F_spec_l00Max v0 v1 = some r) : Con Tryz.prog 119 [.int .i64 v0, .int .i64 v1] (res_spec_l00Max r) := by
 unfold F_spec_l00Max at hF
 refine con_of c119_.1 fun N => ?_
 refine ws 0 64 (qp (AI 0) rfl (r_nil (w_seq (ws 64 256 (qp (AI v0) rfl (qp (AI v1) rfl (qp (AB (decide (v1 < v0))) rfl (r_nil (cF hF (fun hF => ws 256 384 (qp (AI v0) rfl (qp (AI v0) rfl (r_nil (w_ret (thenQ_r (eQ hF))))))) fun hF => ?_)))))))))
 exact w_skip (thenQ_n (ws 256 384 (qp (AI v1) rfl (qp (AI v1) rfl (rR hF)))))

def c92 : MC := (sr [pT 6 (.mv (ci 0))] (sr [mvt 10 1, dT 11 91 [t10], mvt 7 11] (sr [mvt 12 2, dT 13 91 [t12], mvt 8 13] (.seq (sr [mvt 14 0, mvt 15 7, dT 16 86 [t14, t15], pT 17 (.not t16), mvt 18 17, nF 19 18 t0, nF 20 18 t8, ⟨(some 21), (some (18, false)), (.call true 86 [t19, t20])⟩, kF 22 18 (.not t21), pT 23 (.pick t18 ct t22)] (.cond t23 (sr [pT 6 (.mv (ci 1))] .ret) .skip)) (.seq (sr [mvt 24 1, mvt 25 2, bT 26 .sub t24 t25, mvt 27 2, mvt 28 1, bT 29 .sub t27 t28, dT 30 119 [t26, t29], bT 31 .gtr t30 (ci 12)] (.cond t31 (sr [pT 6 (.mv (ci 2))] .ret) .skip)) (.seq (sr [mvt 32 2, mvt 33 1, bT 34 .gtr t32 t33, mvt 35 34, nT 36 35 t0, kT 37 35 (.nck t36), kT 38 35 (.fad t37 1), kT 39 35 (.ld t38 1 false), nT 40 35 t8, ⟨(some 41), (some (35, true)), (.call true 95 [t39, t40])⟩, kT 42 35 (.not t41), pT 43 (.pick t35 t42 cf)] (.cond t43 (sr [pT 6 (.mv (ci 3))] .ret) .skip)) (.seq (sr [mvt 44 2, mvt 45 1, bT 46 .lss t44 t45, mvt 47 46, nT 48 47 t0, kT 49 47 (.nck t48), kT 50 47 (.fad t49 2), kT 51 47 (.ld t50 1 false), nT 52 47 t8, ⟨(some 53), (some (47, true)), (.call true 95 [t51, t52])⟩, kT 54 47 (.not t53), pT 55 (.pick t47 t54 cf)] (.cond t55 (sr [pT 6 (.mv (ci 4))] .ret) .skip)) (.seq (sr [pT 9 (.mv (ci 0))] (.block 0 (.loop (.seq (sr [mvt 56 9, mvt 57 0, pT 58 (.nck t57), pT 59 (.fad t58 5), lT 60 59, zT 61 60, bT 62 .lss t56 t61] (cx t62 0)) (.seq (.block 1 (sr [mvt 65 0, pT 66 (.nck t65), pT 67 (.fad t66 5), lT 68 67, mvt 69 9, iT 70 68 69 1, lT 71 70, jT 72 71 0 1, lT 73 72, mvt 74 7, bT 75 .eql t73 t74, mvt 76 75, nT 77 76 t0, kT 78 76 (.nck t77), kT 79 76 (.fad t78 5), kT 80 76 (.ld t79 1 false), nT 81 76 t9, kT 82 76 (.iad t80 t81 1), kT 83 76 (.ld t82 1 false), kT 84 76 (.iad t83 (ci 1) 1), kT 85 76 (.ld t84 1 false), nT 86 76 t8, kT 87 76 (.bin .eql t85 t86), pT 88 (.pick t76 t87 cf)] (.cond t88 (sr [pT 6 (.mv (ci 5))] .ret) .skip))) (.reg [mvt 63 9, bT 64 .add t63 (ci 1), mvt 9 64])))))) (sr [pT 6 (.mv (ci 0))] .ret)))))))))
theorem c92_ : IsF Tryz.prog 92 c92 [(.tmp 6)] := ⟨by kernel_rfl, by kernel_rfl⟩

def F_spec_l05Reason_l2 (v0 : TRaga) (u0 : Int) (u1 : Int) (k1 : Int → Option (Int)) : Int → Option (Int)
 | x3 => (bif (decide (x3 < (v0.2.2.2.2.2.length : Int))) then ((ix v0.2.2.2.2.2 x3).bind fun u10 => ((ix u10 0).bind fun u11 => (bif (decide (u11 = u0)) then ((ix v0.2.2.2.2.2 x3).bind fun u12 => ((ix u12 1).bind fun u13 => (bif (decide (u13 = u1)) then some 5
 else k1 (w64 (x3 + 1)))))
 else k1 (w64 (x3 + 1)))))
 else some 0)
def F_spec_l05Reason_j1 (v0 : TRaga) (u0 : Int) (u1 : Int) : Option (Int) :=
 loop (F_spec_l05Reason_l2 v0 u0 u1) 0
def F_spec_l05Reason_j0 (v0 : TRaga) (v1 : Int) (v2 : Int) (u0 : Int) (u1 : Int) : Option (Int) :=
 (bif (decide (v2 < v1)) then ((F_spec_l00Has v0.2.2.1 u1).bind fun u9 => (bif (!u9) then some 4
 else F_spec_l05Reason_j1 v0 u0 u1))
 else F_spec_l05Reason_j1 v0 u0 u1)
def F_spec_l05Reason (v0 : TRaga) (v1 : Int) (v2 : Int) : Option (Int) :=
 ((F_spec_l03Tone v1).bind fun u0 => ((F_spec_l03Tone v2).bind fun u1 => ((F_spec_l05Tone v0 u0).bind fun u4 => (bif (!u4) then some 1
 else ((F_spec_l05Tone v0 u1).bind fun u5 => (bif (!u5) then some 1
 else ((F_spec_l00Max (w64 (v1 - v2)) (w64 (v2 - v1))).bind fun u6 => (bif (decide ((12 : Int) < u6)) then some 2
 else (bif (decide (v1 < v2)) then ((F_spec_l00Has v0.2.1 u1).bind fun u8 => (bif (!u8) then some 3
 else F_spec_l05Reason_j0 v0 v1 v2 u0 u1))
 else F_spec_l05Reason_j0 v0 v1 v2 u0 u1)))))))))
@[simp] abbrev K22 (v0 : TRaga) : V := .ptr [.str v0.1, .sl 1 (v0.2.1.map vI), .sl 1 (v0.2.2.1.map vI), .int .i64 v0.2.2.2.1, .int .i64 v0.2.2.2.2.1, .sl 1 (v0.2.2.2.2.2.map (eL 1 vI))]
@[simp] abbrev K23 (v0 : TRaga) : Nat × AV := (0, .val none (K22 v0))
@[simp] abbrev K24 (v0 : TRaga) : AV := .val none (.ptr [.sl 1 (v0.2.2.2.2.2.map (eL 1 vI))])
@[simp] abbrev K25 (v0 : TRaga) : AV := AL 1 (v0.2.2.2.2.2.map (eL 1 vI))
@[simp] def res_spec_l05Reason (r : Int) : RV := .one (.one (.val (.int .i64 r)))
theorem con_spec_l05Reason {v0 : TRaga} {v1 : Int} {v2 : Int} {r : Int} (hF : F_spec_l05Reason v0 v1 v2 = some r) : Con Tryz.prog 92 [.ptr [.str v0.1, .sl 1 (v0.2.1.map vI), .sl 1 (v0.2.2.1.map vI), .int .i64 v0.2.2.2.1, .int .i64 v0.2.2.2.2.1, .sl 1 (v0.2.2.2.2.2.map (eL 1 vI))], .int .i64 v1, .int .i64 v2] (res_spec_l05Reason r) := by
 unfold F_spec_l05Reason at hF
 refine con_of c92_.1 fun N => ?_
 refine ws 0 64 (qp (AI 0) rfl (r_nil (ws 64 256 (qp (AI v1) rfl (bk hF fun u0 e0 hF => qC (AI u0) [] (con_spec_l03Tone e0) c91_ (qp (AI u0) rfl (r_nil (ws 256 448 (qp (AI v2) rfl (bk hF fun u1 e1 hF => qC (AI u1) [] (con_spec_l03Tone e1) c91_ (qp (AI u1) rfl (r_nil (w_seq (ws 448 1088 ?_))))))))))))))
 refine qp (.val none (K22 v0)) rfl (qp (AI u0) rfl (bk hF fun u4 e4 hF => qC (AB u4) [] (con_spec_l05Tone e4) c86_ (qp (AB (!u4)) rfl (qp (AB (!u4)) rfl (q_case 18 hF rfl (fun hF => qn4 (qp (AB true) rfl (r_nil (w_true rfl (ws 1088 1152 (qp (AI 1) rfl (r_nil (w_ret (thenQ_r (eQ hF)))))))))) fun hF => ?_)))))
 refine qg (.val none (K22 v0)) rfl rfl (qg (AI u1) rfl rfl (bk hF fun u5 e5 hF => qG (AB u5) [] (con_spec_l05Tone e5) c86_ (qg (AB (!u5)) rfl rfl (qp (AB (!u5)) rfl (r_nil (cF hF (fun hF => ws 1088 1152 (qp (AI 1) rfl (r_nil (w_ret (thenQ_r (eQ hF)))))) fun hF => ?_))))))
 refine w_skip (thenQ_n (w_seq (ws 1088 1600 (qp (AI v1) rfl (qp (AI v2) rfl (qp (AI (w64 (v1 - v2))) rfl (qp (AI v2) rfl (qp (AI v1) rfl (qp (AI (w64 (v2 - v1))) rfl (bk hF fun u6 e6 hF => qC (AI u6) [] (con_spec_l00Max e6) c119_ (qp (AB (decide ((12 : Int) < u6))) rfl (r_nil ?_))))))))))))
 refine cF hF (fun hF => ws 1600 1664 (qp (AI 2) rfl (r_nil (w_ret (thenQ_r (eQ hF)))))) fun hF => w_skip (thenQ_n ?_)
 refine w_meet (fun s' => s' = mkS [(K23 v0), (1, AI v1), (2, AI v2), (7, AI u0), (8, AI u1)] (fo []) 1 ∧ F_spec_l05Reason_j0 v0 v1 v2 u0 u1 = some r) ?_ ?_
 ·
  refine ws 1600 2368 (qp (AI v2) rfl (qp (AI v1) rfl (qp (AB (decide (v1 < v2))) rfl (qp (AB (decide (v1 < v2))) rfl ?_))))
  refine q_case 35 hF rfl (fun hF => ?_) (fun hF => ?_)
  ·
   refine qg (.val none (K22 v0)) rfl rfl (qg (.val none (K22 v0)) rfl rfl (qg (.val none (.ptr [.sl 1 (v0.2.1.map vI), .sl 1 (v0.2.2.1.map vI), .int .i64 v0.2.2.2.1, .int .i64 v0.2.2.2.2.1, .sl 1 (v0.2.2.2.2.2.map (eL 1 vI))])) rfl rfl (qg (AL 1 (v0.2.1.map vI)) rfl rfl (qg (AI u1) rfl rfl (bk hF fun u8 e8 hF => qG (AB u8) [] (con_spec_l00Has e8) c95_ (qg (AB (!u8)) rfl rfl (qp (AB (!u8)) rfl (r_nil (cF hF (fun hF => ws 2368 2432 (qp (AI 3) rfl (r_nil (w_ret (thenQ_r (eQ hF)))))) fun hF => w_skip (thenQ_n ?_))))))))))
   refine ar (l' := [(K23 v0), (1, AI v1), (2, AI v2), (7, AI u0), (8, AI u1)]) (L := []) [0, 1, 2, 7, 8] [] 1 ⟨rfl, hF⟩
  refine qn7 (qp (AB false) rfl (r_nil (w_false rfl (w_skip (thenQ_n ?_)))))
  refine ar (l' := [(K23 v0), (1, AI v1), (2, AI v2), (7, AI u0), (8, AI u1)]) (L := []) [0, 1, 2, 7, 8] [] 1 ⟨rfl, hF⟩
 rintro s' ⟨rfl, hF⟩
 unfold F_spec_l05Reason_j0 at hF
 refine w_meet (fun s' => s' = mkS [(K23 v0), (7, AI u0), (8, AI u1)] (fo []) 1 ∧ F_spec_l05Reason_j1 v0 u0 u1 = some r) ?_ ?_
 ·
  refine ws 1 769 (qp (AI v2) rfl (qp (AI v1) rfl (qp (AB (decide (v2 < v1))) rfl (qp (AB (decide (v2 < v1))) rfl ?_))))
  refine q_case 47 hF rfl (fun hF => ?_) (fun hF => ?_)
  ·
   refine qg (.val none (K22 v0)) rfl rfl (qg (.val none (K22 v0)) rfl rfl (qg (.val none (.ptr [.sl 1 (v0.2.2.1.map vI), .int .i64 v0.2.2.2.1, .int .i64 v0.2.2.2.2.1, .sl 1 (v0.2.2.2.2.2.map (eL 1 vI))])) rfl rfl (qg (AL 1 (v0.2.2.1.map vI)) rfl rfl (qg (AI u1) rfl rfl (bk hF fun u9 e9 hF => qG (AB u9) [] (con_spec_l00Has e9) c95_ (qg (AB (!u9)) rfl rfl (qp (AB (!u9)) rfl (r_nil (cF hF (fun hF => ws 769 833 (qp (AI 4) rfl (r_nil (w_ret (thenQ_r (eQ hF)))))) fun hF => w_skip (thenQ_n ?_))))))))))
   refine ar (l' := [(K23 v0), (7, AI u0), (8, AI u1)]) (L := []) [0, 7, 8] [] 1 ⟨rfl, hF⟩
  refine qn7 (qp (AB false) rfl (r_nil (w_false rfl (w_skip (thenQ_n ?_)))))
  refine ar (l' := [(K23 v0), (7, AI u0), (8, AI u1)]) (L := []) [0, 7, 8] [] 1 ⟨rfl, hF⟩
 rintro s' ⟨rfl, hF⟩
 unfold F_spec_l05Reason_j1 at hF
 refine w_seq (ws 1 65 (qp (AI 0) rfl (r_nil (w_block ?_))))
 refine wr (l' := [(K23 v0), (7, AI u0), (8, AI u1), (9, AI 0)]) (L := []) [0, 7, 8, 9] [] 1 ?_
 refine w_loopF (F_spec_l05Reason_l2 v0 u0 u1) (fun s : Int => mkS [(K23 v0), (7, AI u0), (8, AI u1), (9, AI s)] (fo []) 1) hF ?_
 rintro k1 x3 hF
 rw [F_spec_l05Reason_l2] at hF
 try dsimp only
 refine w_seq (ws 1 449 (qp (AI x3) rfl (qp (.val none (K22 v0)) rfl (qp (.val none (K22 v0)) rfl (qp (K24 v0) rfl (qp (K25 v0) rfl (qp (AI (v0.2.2.2.2.2.length : Int)) (ev_len_n rfl) (qp (AB (decide (x3 < (v0.2.2.2.2.2.length : Int)))) rfl (r_nil ?_)))))))))
 refine cF hF (fun hF => ?_) fun hF => ?_
 ·
  refine w_skip (thenQ_n (w_seq (w_block (ws 449 1985 (qp (.val none (K22 v0)) rfl (qp (.val none (K22 v0)) rfl (qp (K24 v0) rfl (qp (K25 v0) rfl (qp (AI x3) rfl (bk hF fun u10 e10 hF => qp (.val none (.ptr [.sl 1 (u10.map vI)])) (ev_iad_n rfl rfl e10 rfl) (qp (AL 1 (u10.map vI)) rfl (bk hF fun u11 e11 hF => ?_))))))))))))
  refine qp (.val none (.ptr [.int .i64 u11])) (ev_iad_n rfl rfl e11 rfl) (qp (AI u11) rfl (qp (AI u0) rfl (qp (AB (decide (u11 = u0))) rfl (qp (AB (decide (u11 = u0))) rfl ?_))))
  refine q_case 76 hF rfl (fun hF => ?_) (fun hF => ?_)
  ·
   refine qg (.val none (K22 v0)) rfl rfl (qg (.val none (K22 v0)) rfl rfl (qg (K24 v0) rfl rfl (qg (K25 v0) rfl rfl (qg (AI x3) rfl rfl (bk hF fun u12 e12 hF => qg (.val none (.ptr [.sl 1 (u12.map vI)])) rfl (ev_iad_n rfl rfl e12 rfl) (qg (AL 1 (u12.map vI)) rfl rfl (bk hF fun u13 e13 hF => qg (.val none (.ptr [.int .i64 u13])) rfl (ev_iad_n rfl rfl e13 rfl) (qg (AI u13) rfl rfl (qg (AI u1) rfl rfl (qg (AB (decide (u13 = u1))) rfl rfl (qp (AB (decide (u13 = u1))) rfl (r_nil ?_))))))))))))
   refine cF hF (fun hF => ws 1985 2049 (qp (AI 5) rfl (r_nil (w_ret (blockQ_r (thenQ_r (thenQ_r (blockQ_r (thenQ_r (eQ hF)))))))))) fun hF => ?_
   refine w_skip (blockQ_n (thenQ_n (w_reg 1985 2177 rfl rfl (qp (AI x3) rfl (qp (AI (w64 (x3 + 1))) rfl (qp (AI (w64 (x3 + 1))) rfl (r_nil (thenQ_n ?_))))))))
   refine ar (l' := [(K23 v0), (7, AI u0), (8, AI u1), (9, AI (w64 (x3 + 1)))]) (L := []) [0, 7, 8, 9] [] 1 ⟨_, by rfl, hF⟩
  refine qn8 (qn3 (qp (AB false) rfl (r_nil (w_false rfl (w_skip (blockQ_n (thenQ_n (w_reg 1985 2177 rfl rfl (qp (AI x3) rfl (qp (AI (w64 (x3 + 1))) rfl (qp (AI (w64 (x3 + 1))) rfl ?_)))))))))))
  refine r_nil (thenQ_n ?_)
  refine ar (l' := [(K23 v0), (7, AI u0), (8, AI u1), (9, AI (w64 (x3 + 1)))]) (L := []) [0, 7, 8, 9] [] 1 ⟨_, by rfl, hF⟩
 exact w_exit (thenQ_e (thenQ_e (blockQ_e (thenQ_n (ws 449 513 (qp (AI 0) rfl (rR hF)))))))

def c59 : MC := (sr [rg 6 (.f (.alloc [((.int .i64 0), (0, false)), ((.int .i64 0), (0, false)), ((.sl 0 []), (1, false)), ((.sl 0 []), (3, false))]))] (sr [rg 13 (.f (.bsl 1 [])), mvt 7 13] (.seq (sr [mvt 14 1, mvt 8 14] (.block 0 (.loop (.seq (sr [mvt 15 8, mvt 16 2, bT 17 .leq t15 t16] (cx t17 0)) (.seq (.block 1 (sr [mvt 20 0, mvt 21 8, dT 22 91 [t21], dT 23 86 [t20, t22]] (.cond t23 (.reg [mvt 24 7, mvt 25 8, rg 26 (.f (.bsl 1 [t25])), rg 27 (.f (.app t24 t26 1 8 true)), mvt 7 27]) .skip))) (.reg [mvt 18 8, bT 19 .add t18 (ci 1), mvt 8 19])))))) (sr [mvt 28 7, zT 29 28, bT 30 .add t29 (ci 1), rg 31 (.f (.bsl 1 [])), rg 32 (.f (.bsl 3 [])), rg 33 (.f (.bld [((.int .i64 0), (0, true)), ((.int .i64 0), (0, false)), ((.sl 0 []), (1, true)), ((.sl 0 []), (3, true))] [(0, (1, t30)), (2, (1, t31)), (3, (1, t32))])), rg 9 (.f (.alloc [((.int .i64 0), (0, false)), ((.int .i64 0), (0, false)), ((.sl 0 []), (1, false)), ((.sl 0 []), (3, false))])), ⟨none, none, (.f (.st t9 t33 4))⟩] (.seq (sr [pT 10 (.mv (ci 0))] (.block 2 (.loop (.seq (sr [mvt 34 10, mvt 35 7, zT 36 35, bT 37 .lss t34 t36] (cx t37 2)) (.seq (.block 3 (sr [pF 40 (.fad t9 3), lF 41 40, mP 42 t7, mP 43 t10, iF 44 42 43 1, lF 45 44, mP 46 t10, bF 47 .add t46 (ci 1), rg 48 (.f (.bld [((.int .i64 0), (0, false)), ((.int .i64 0), (0, true)), ((.int .i64 0), (0, true))] [(1, (1, t45)), (2, (1, t47))])), rg 49 (.f (.bslp 3 [t48])), rg 50 (.f (.app t41 t49 3 24 true)), pF 51 (.fad t9 3), ⟨none, none, (.f (.st t51 t50 1))⟩] (sr [mvt 52 7, mvt 53 10, iT 54 52 53 1, lT 55 54, dT 56 91 [t55], bT 57 .eql t56 (ci 0)] (.cond t57 (.reg [pT 58 (.fad t9 2), lT 59 58, mvt 60 10, bT 61 .add t60 (ci 1), rg 62 (.f (.bsl 1 [t61])), rg 63 (.f (.app t59 t62 1 8 true)), pT 64 (.fad t9 2), ⟨none, none, (.f (.st t64 t63 1))⟩]) .skip)))) (.reg [mvt 38 10, bT 39 .add t38 (ci 1), mvt 10 39])))))) (.seq (sr [pT 11 (.mv (ci 0))] (.block 4 (.loop (.seq (sr [mvt 65 11, mvt 66 7, zT 67 66, bT 68 .lss t65 t67] (cx t68 4)) (.seq (.block 5 (sr [pT 12 (.mv (ci 0))] (.block 6 (.loop (.seq (sr [mvt 71 12, mvt 72 7, zT 73 72, bT 74 .lss t71 t73] (cx t74 6)) (.seq (.block 7 (sr [mP 77 t0, mP 78 t7, mP 79 t11, iF 80 78 79 1, lF 81 80, mP 82 t7, mP 83 t12, iF 84 82 83 1, lF 85 84, dF 86 92 [t77, t81, t85], bF 87 .eql t86 (ci 0)] (.cond t87 (.reg [pF 88 (.fad t9 3), lF 89 88, mP 90 t11, bF 91 .add t90 (ci 1), mP 92 t7, mP 93 t12, iF 94 92 93 1, lF 95 94, mP 96 t12, bF 97 .add t96 (ci 1), rg 98 (.f (.bld [((.int .i64 0), (0, true)), ((.int .i64 0), (0, true)), ((.int .i64 0), (0, true))] [(0, (1, t91)), (1, (1, t95)), (2, (1, t97))])), rg 99 (.f (.bslp 3 [t98])), rg 100 (.f (.app t89 t99 3 24 true)), pF 101 (.fad t9 3), ⟨none, none, (.f (.st t101 t100 1))⟩]) .skip))) (.reg [mvt 75 12, bT 76 .add t75 (ci 1), mvt 12 76]))))))) (.reg [mvt 69 11, bT 70 .add t69 (ci 1), mvt 11 70])))))) (sr [pT 102 (.ld t9 4 true), ⟨none, none, (.f (.st t6 t102 4))⟩] .ret)))))))
theorem c59_ : IsF Tryz.prog 59 c59 [(.cell (.ld (.t 6) 4 true))] := ⟨by kernel_rfl, by kernel_rfl⟩

def F_spec_l07Of_l3 (v0 : TRaga) (x3 : List Int) (x20 : Int) (k4 : Int × (List TArc) → Option (TGrammar)) (k5 : Int × (List TArc) → Option (TGrammar)) : Int × (List TArc) → Option (TGrammar)
 | (x24, x25) => (bif (decide (x24 < (x3.length : Int))) then ((ix x3 x20).bind fun u8 => ((ix x3 x24).bind fun u9 => ((F_spec_l05Reason v0 u8 u9).bind fun u10 => (bif (decide (u10 = (0 : Int))) then ((ix x3 x24).bind fun u11 => (need (room (x25.length + ([(w64 (x20 + 1), u11, w64 (x24 + 1))] : List TArc).length) 24) (k5 (w64 (x24 + 1), x25 ++ ([(w64 (x20 + 1), u11, w64 (x24 + 1))] : List TArc)))))
 else k5 (w64 (x24 + 1), x25)))))
 else k4 (w64 (x20 + 1), x25))
def F_spec_l07Of_l2 (v0 : TRaga) (x3 : List Int) (x8 : List Int) (k4 : Int × (List TArc) → Option (TGrammar)) : Int × (List TArc) → Option (TGrammar)
 | (x20, x21) => (bif (decide (x20 < (x3.length : Int))) then loop (F_spec_l07Of_l3 v0 x3 x20 k4) (0, x21)
 else some (w64 ((x3.length : Int) + 1), 0, x8, x21))
def F_spec_l07Of_l1 (v0 : TRaga) (x3 : List Int) (k1 : Int × (List Int) × (List TArc) → Option (TGrammar)) : Int × (List Int) × (List TArc) → Option (TGrammar)
 | (x7, x8, x9) => (bif (decide (x7 < (x3.length : Int))) then ((ix x3 x7).bind fun u3 => (need (room (x9.length + ([(0, u3, w64 (x7 + 1))] : List TArc).length) 24) (((ix x3 x7).bind fun u5 => ((F_spec_l03Tone u5).bind fun u6 => (bif (decide (u6 = (0 : Int))) then (need (room (x8.length + ([w64 (x7 + 1)] : List Int).length) 8) (k1 (w64 (x7 + 1), x8 ++ ([w64 (x7 + 1)] : List Int), x9 ++ ([(0, u3, w64 (x7 + 1))] : List TArc))))
 else k1 (w64 (x7 + 1), x8, x9 ++ ([(0, u3, w64 (x7 + 1))] : List TArc))))))))
 else loop (F_spec_l07Of_l2 v0 x3 x8) (0, x9))
def F_spec_l07Of_l0 (v0 : TRaga) (v2 : Int) (k0 : Int × (List Int) → Option (TGrammar)) : Int × (List Int) → Option (TGrammar)
 | (x2, x3) => (bif (decide (x2 ≤ v2)) then ((F_spec_l03Tone x2).bind fun u0 => ((F_spec_l05Tone v0 u0).bind fun u1 => (bif u1 then (need (room (x3.length + [x2].length) 8) (k0 (w64 (x2 + 1), x3 ++ [x2])))
 else k0 (w64 (x2 + 1), x3))))
 else loop (F_spec_l07Of_l1 v0 x3) (0, [], []))
def F_spec_l07Of (v0 : TRaga) (v1 : Int) (v2 : Int) : Option (TGrammar) :=
 loop (F_spec_l07Of_l0 v0 v2) (v1, [])
@[simp] abbrev K26 : List (Nat × Root) := [(0, .box [AI 0, AI 0, .sl 1 0 0, .sl 2 0 0]), (2, .row true 3 (([] : List Int).map vI)), (1, .row true 1 (([] : List Int).map vI))]
@[simp] abbrev K2t : Nat × Root := (3, .row true 3 (([] : List Int).map vI))
@[simp] abbrev K2u : Nat × Root := (2, .row true 1 (([] : List Int).map vI))
@[simp] abbrev K2q (x3 : List Int) : Nat × Root := (1, .row true 1 (x3.map vI))
@[simp] abbrev K2v : Nat × Root := (0, .box [AI 0, AI 0, .sl 2 0 0, .sl 3 0 0])
@[simp] abbrev K27 (x3 : List Int) : List (Nat × Root) := [K2t, K2u, (K2q x3), K2v]
@[simp] abbrev K28 (x2 : Int) (x3 : List Int) : List (Nat × Root) := ((580, .row true 1 ([x2].map vI)) :: (K27 x3))
@[simp] abbrev K29 (x3 : List Int) : List (Nat × Root) := ((388, .row true 1 (([] : List Int).map vI)) :: (K27 x3))
@[simp] abbrev K2a (x3 : List Int) : List (Nat × Root) := ((452, .row true 3 (([] : List TArc).map eArc)) :: (K29 x3))
@[simp] abbrev K2s (x8 : List Int) : Nat × Root := (5, .row true 1 (x8.map vI))
@[simp] abbrev K2n : Nat × Root := (4, .row true 3 (([] : List Int).map vI))
@[simp] abbrev K2o : Nat × Root := (3, .row true 1 (([] : List Int).map vI))
@[simp] abbrev K2p : Nat × Root := (0, .box [AI 0, AI 0, .sl 3 0 0, .sl 4 0 0])
@[simp] abbrev K2b (x9 : List TArc) (x8 : List Int) (x3 : List Int) : List (Nat × Root) := [(6, .row true 3 (x9.map eArc)), (K2s x8), K2n, K2o, (2, .box [AI (w64 ((x3.length : Int) + 1)), AI 0, .sl 5 0 x8.length, .sl 6 0 x9.length]), (K2q x3), K2p]
@[simp] abbrev K2c (x21 : List TArc) (x8 : List Int) (x3 : List Int) : List (Nat × Root) := [(6, .row true 3 (x21.map eArc)), (K2s x8), K2n, K2o, (2, .box [AI (w64 ((x3.length : Int) + 1)), AI 0, .sl 5 0 x8.length, .sl 6 0 x21.length]), (K2q x3), K2p]
@[simp] abbrev K2d (x25 : List TArc) (x8 : List Int) (x3 : List Int) : List (Nat × Root) := [(6, .row true 3 (x25.map eArc)), (K2s x8), K2n, K2o, (2, .box [AI (w64 ((x3.length : Int) + 1)), AI 0, .sl 5 0 x8.length, .sl 6 0 x25.length]), (K2q x3), K2p]
@[simp] abbrev K2e (u3 : Int) (x7 : Int) (x9 : List TArc) (x8 : List Int) (x3 : List Int) : List (Nat × Root) := ((839, .row true 3 (([(0, u3, w64 (x7 + 1))] : List TArc).map eArc)) :: (K2b x9 x8 x3))
@[simp] abbrev K2f (x20 : Int) (u11 : Int) (x24 : Int) (x25 : List TArc) (x8 : List Int) (x3 : List Int) : List (Nat × Root) := ((1671, .row true 3 (([(w64 (x20 + 1), u11, w64 (x24 + 1))] : List TArc).map eArc)) :: (K2d x25 x8 x3))
@[simp] abbrev K2g (x3 : List Int) : List (Nat × Root) := ((580, .box [AI 0, AI 0, .sl 581 0 0, .sl 582 0 0]) :: (582, .row true 3 (([] : List Int).map vI)) :: (581, .row true 1 (([] : List Int).map vI)) :: (K2a x3))
@[simp] abbrev K2h (x9 : List TArc) (u3 : Int) (x7 : Int) (x8 : List Int) (x3 : List Int) : List (Nat × Root) := ((903, .row true 3 ((x9 ++ ([(0, u3, w64 (x7 + 1))] : List TArc)).map eArc)) :: (6, .dead) :: (839, .dead) :: (K2e u3 x7 x9 x8 x3))
@[simp] abbrev K2i (x25 : List TArc) (x20 : Int) (u11 : Int) (x24 : Int) (x8 : List Int) (x3 : List Int) : List (Nat × Root) := ((1735, .row true 3 ((x25 ++ ([(w64 (x20 + 1), u11, w64 (x24 + 1))] : List TArc)).map eArc)) :: (6, .dead) :: (1671, .dead) :: (K2f x20 u11 x24 x25 x8 x3))
@[simp] abbrev K2j (x3 : List Int) (x8 : List Int) (x9 : List TArc) (u3 : Int) (x7 : Int) : List (Nat × Root) := ((2, .box [AI (w64 ((x3.length : Int) + 1)), AI 0, .sl 5 0 x8.length, .sl 903 0 ((x9 ++ ([(0, u3, w64 (x7 + 1))] : List TArc)).length)]) :: (K2h x9 u3 x7 x8 x3))
@[simp] abbrev K2k (x7 : Int) (x3 : List Int) (x8 : List Int) (x9 : List TArc) (u3 : Int) : List (Nat × Root) := ((1735, .row true 1 (([w64 (x7 + 1)] : List Int).map vI)) :: (K2j x3 x8 x9 u3 x7))
@[simp] abbrev K2l (x8 : List Int) (x7 : Int) (x3 : List Int) (x9 : List TArc) (u3 : Int) : List (Nat × Root) := ((1799, .row true 1 ((x8 ++ ([w64 (x7 + 1)] : List Int)).map vI)) :: (5, .dead) :: (1735, .dead) :: (K2k x7 x3 x8 x9 u3))
@[simp] abbrev K2m (v0 : TRaga) : V := .ptr [.str v0.1, .sl 1 (v0.2.1.map vI), .sl 1 (v0.2.2.1.map vI), .int .i64 v0.2.2.2.1, .int .i64 v0.2.2.2.2.1, .sl 1 (v0.2.2.2.2.2.map (eL 1 vI))]
@[simp] abbrev K2r (v0 : TRaga) : Nat × AV := (0, .val none (K2m v0))
@[simp] abbrev K2w (x3 : List Int) : Nat × AV := (7, .sl 1 0 x3.length)
@[simp] def res_spec_l07Of (r : TGrammar) : RV := .one (.agg [.val (.int .i64 r.1), .val (.int .i64 r.2.1), .row true 1 (r.2.2.1.map vI), .row true 3 (r.2.2.2.map eArc)])
theorem con_spec_l07Of {v0 : TRaga} {v1 : Int} {v2 : Int} {r : TGrammar} (hF : F_spec_l07Of v0 v1 v2 = some r) : Con Tryz.prog 59 [.ptr [.str v0.1, .sl 1 (v0.2.1.map vI), .sl 1 (v0.2.2.1.map vI), .int .i64 v0.2.2.2.1, .int .i64 v0.2.2.2.2.1, .sl 1 (v0.2.2.2.2.2.map (eL 1 vI))], .int .i64 v1, .int .i64 v2] (res_spec_l07Of r) := by
 unfold F_spec_l07Of at hF
 refine con_of c59_.1 fun N => ?_
 refine ws 0 64 (qf (.ptr 0 0 0) K26 (by simp) (r_nil (ws 64 192 (qf (.sl 64 0 0) ((64, .row true 1 (([] : List Int).map vI)) :: K26) (by simp [List.take_of_length_le]) (qp (.sl 64 0 0) rfl (r_nil (w_seq (ws 192 320 (qp (AI v1) rfl (qp (AI v1) rfl (r_nil (w_block ?_))))))))))))
 refine wr (l' := [(K2r v0), (2, AI v2), (6, .ptr 0 0 0), (7, .sl 1 0 0), (8, AI v1)]) (L := [K2t, K2u, (1, .row true 1 (([] : List Int).map vI)), K2v]) [0, 2, 6, 7, 8] [(2, 3), (1, 2), (64, 1), (0, 0)] 4 ?_
 refine w_loopF (F_spec_l07Of_l0 v0 v2) (fun s : Int × (List Int) => mkS [(K2r v0), (2, AI v2), (6, .ptr 0 0 0), (7, .sl 1 0 s.2.length), (8, AI s.1)] (fo [K2t, K2u, (1, .row true 1 (s.2.map vI)), K2v]) 4) hF ?_
 rintro k0 ⟨x2, x3⟩ hF
 rw [F_spec_l07Of_l0] at hF
 try dsimp only
 refine w_seq (ws 4 196 (qp (AI x2) rfl (qp (AI v2) rfl (qp (AB (decide (x2 ≤ v2))) rfl (r_nil ?_)))))
 refine cF hF (fun hF => ?_) fun hF => ?_
 ·
  refine w_skip (thenQ_n (w_seq (w_block (ws 196 452 (qp (.val none (K2m v0)) rfl (qp (AI x2) rfl (bk hF fun u0 e0 hF => qC (AI u0) (K27 x3) (con_spec_l03Tone e0) c91_ (bk hF fun u1 e1 hF => qC (AB u1) (K27 x3) (con_spec_l05Tone e1) c86_ (r_nil ?_)))))))))
  refine cF hF (fun hF => ?_) fun hF => ?_
  ·
   refine w_reg 452 772 rfl rfl (qp (.sl 1 0 x3.length) rfl (qp (AI x2) rfl (qf (.sl 580 0 ([x2].length)) (K28 x2 x3) (by simp [List.take_of_length_le]) (nk hF fun g2 hF => qf (.sl 644 0 ((x3 ++ [x2]).length)) ((644, .row true 1 ((x3 ++ [x2]).map vI)) :: (1, .dead) :: (580, .dead) :: (K28 x2 x3)) (effT_app_l rfl (by simp) rfl rfl (by simp) rfl (by decide) g2 rfl) (qp (.sl 644 0 ((x3 ++ [x2]).length)) rfl (r_nil (blockQ_n (thenQ_n (w_reg 772 964 rfl rfl (qp (AI x2) rfl (qp (AI (w64 (x2 + 1))) rfl (qp (AI (w64 (x2 + 1))) rfl ?_))))))))))))
   refine r_nil (thenQ_n ?_)
   refine ar (l' := [(K2r v0), (2, AI v2), (6, .ptr 0 0 0), (7, .sl 1 0 (x3 ++ [x2]).length), (8, AI (w64 (x2 + 1)))]) (L := [K2t, K2u, (1, .row true 1 ((x3 ++ [x2]).map vI)), K2v]) [0, 2, 6, 7, 8] [(3, 3), (2, 2), (644, 1), (0, 0)] 4 ⟨_, by rfl, hF⟩
  refine w_skip (blockQ_n (thenQ_n (w_reg 452 644 rfl rfl (qp (AI x2) rfl (qp (AI (w64 (x2 + 1))) rfl (qp (AI (w64 (x2 + 1))) rfl (r_nil (thenQ_n ?_))))))))
  refine ar (l' := [(K2r v0), (2, AI v2), (6, .ptr 0 0 0), (K2w x3), (8, AI (w64 (x2 + 1)))]) (L := (K27 x3)) [0, 2, 6, 7, 8] [(3, 3), (2, 2), (1, 1), (0, 0)] 4 ⟨_, by rfl, hF⟩
 refine w_exit (thenQ_e (thenQ_e (blockQ_e (thenQ_n (ws 196 708 (qp (.sl 1 0 x3.length) rfl (qp (AI (x3.length : Int)) rfl (qp (AI (w64 ((x3.length : Int) + 1))) rfl (qf (.sl 388 0 0) (K29 x3) (by simp [List.take_of_length_le]) (qf (.sl 452 0 0) (K2a x3) (by simp [List.take_of_length_le]) (qf (.agg [AI (w64 ((x3.length : Int) + 1)), AI 0, .sl 388 0 0, .sl 452 0 0]) (K2a x3) (by simp) ?_)))))))))))
 refine qf (.ptr 580 0 0) (K2g x3) (by simp) (qf0 (.undef) ((580, .box [AI (w64 ((x3.length : Int) + 1)), AI 0, .sl 388 0 0, .sl 452 0 0]) :: (K2g x3)) (by simp) (r_nil (w_seq (ws 708 772 (qp (AI 0) rfl (r_nil (w_block ?_)))))))
 refine wr (l' := [(K2r v0), (6, .ptr 0 0 0), (K2w x3), (9, .ptr 2 0 0), (10, AI 0)]) (L := [(6, .row true 3 (([] : List TArc).map eArc)), (5, .row true 1 (([] : List Int).map vI)), K2n, K2o, (2, .box [AI (w64 ((x3.length : Int) + 1)), AI 0, .sl 5 0 0, .sl 6 0 0]), (K2q x3), K2p]) [0, 6, 7, 9, 10] [(452, 6), (388, 5), (3, 4), (2, 3), (580, 2), (1, 1), (0, 0)] 7 ?_
 refine w_loopF (F_spec_l07Of_l1 v0 x3) (fun s : Int × (List Int) × (List TArc) => mkS [(K2r v0), (6, .ptr 0 0 0), (K2w x3), (9, .ptr 2 0 0), (10, AI s.1)] (fo [(6, .row true 3 (s.2.2.map eArc)), (5, .row true 1 (s.2.1.map vI)), K2n, K2o, (2, .box [AI (w64 ((x3.length : Int) + 1)), AI 0, .sl 5 0 s.2.1.length, .sl 6 0 s.2.2.length]), (K2q x3), K2p]) 7) hF ?_
 rintro k1 ⟨x7, x8, x9⟩ hF
 rw [F_spec_l07Of_l1] at hF
 try dsimp only
 refine w_seq (ws 7 263 (qp (AI x7) rfl (qp (.sl 1 0 x3.length) rfl (qp (AI (x3.length : Int)) rfl (qp (AB (decide (x7 < (x3.length : Int)))) rfl (r_nil ?_))))))
 refine cF hF (fun hF => ?_) fun hF => ?_
 ·
  refine w_skip (thenQ_n (w_seq (w_block (ws 263 1095 (qp (.ptr 2 0 3) rfl (qp (.sl 6 0 x9.length) rfl (qp (.sl 1 0 x3.length) rfl (qp (AI x7) rfl (bk hF fun u3 e3 hF => qp (.ptr 1 x7.toNat 0) (ev_iad_r rfl (by simp) rfl rfl e3) (qp (AI u3) (ev_ld_r rfl rfl (ix_some e3).2 rfl rfl) (qp (AI x7) rfl (qp (AI (w64 (x7 + 1))) rfl ?_))))))))))))
  refine qf (.agg [AI 0, AI u3, AI (w64 (x7 + 1))]) (K2b x9 x8 x3) (by simp) (qf (.sl 839 0 (([(0, u3, w64 (x7 + 1))] : List TArc).length)) (K2e u3 x7 x9 x8 x3) (by simp [List.take_of_length_le]) (nk hF fun g4 hF => qf (.sl 903 0 ((x9 ++ ([(0, u3, w64 (x7 + 1))] : List TArc)).length)) (K2h x9 u3 x7 x8 x3) (effT_app_l rfl (by simp) rfl rfl (by simp) rfl (by decide) g4 rfl) (qp (.ptr 2 0 3) rfl (qf0 (.undef) (K2j x3 x8 x9 u3 x7) (by simp) (r_nil (ws 1095 1479 (qp (.sl 1 0 x3.length) rfl (qp (AI x7) rfl (bk hF fun u5 e5 hF => qp (.ptr 1 x7.toNat 0) (ev_iad_r rfl (by simp) rfl rfl e5) (qp (AI u5) (ev_ld_r rfl rfl (ix_some e5).2 rfl rfl) (bk hF fun u6 e6 hF => qC (AI u6) (K2j x3 x8 x9 u3 x7) (con_spec_l03Tone e6) c91_ (qp (AB (decide (u6 = (0 : Int)))) rfl (r_nil ?_)))))))))))))
  refine cF hF (fun hF => ?_) fun hF => ?_
  ·
   refine w_reg 1479 1991 rfl rfl (qp (.ptr 2 0 2) rfl (qp (.sl 5 0 x8.length) rfl (qp (AI x7) rfl (qp (AI (w64 (x7 + 1))) rfl (qf (.sl 1735 0 (([w64 (x7 + 1)] : List Int).length)) (K2k x7 x3 x8 x9 u3) (by simp [List.take_of_length_le]) (nk hF fun g7 hF => qf (.sl 1799 0 ((x8 ++ ([w64 (x7 + 1)] : List Int)).length)) (K2l x8 x7 x3 x9 u3) (effT_app_l rfl (by simp) rfl rfl (by simp) rfl (by decide) g7 rfl) (qp (.ptr 2 0 2) rfl (qf0 (.undef) ((2, .box [AI (w64 ((x3.length : Int) + 1)), AI 0, .sl 1799 0 ((x8 ++ ([w64 (x7 + 1)] : List Int)).length), .sl 903 0 ((x9 ++ ([(0, u3, w64 (x7 + 1))] : List TArc)).length)]) :: (K2l x8 x7 x3 x9 u3)) (by simp) (r_nil (blockQ_n (thenQ_n (w_reg 1991 2183 rfl rfl ?_))))))))))))
   refine qp (AI x7) rfl (qp (AI (w64 (x7 + 1))) rfl (qp (AI (w64 (x7 + 1))) rfl (r_nil (thenQ_n ?_))))
   refine ar (l' := [(K2r v0), (6, .ptr 0 0 0), (K2w x3), (9, .ptr 2 0 0), (10, AI (w64 (x7 + 1)))]) (L := [(6, .row true 3 ((x9 ++ ([(0, u3, w64 (x7 + 1))] : List TArc)).map eArc)), (5, .row true 1 ((x8 ++ ([w64 (x7 + 1)] : List Int)).map vI)), K2n, K2o, (2, .box [AI (w64 ((x3.length : Int) + 1)), AI 0, .sl 5 0 (x8 ++ ([w64 (x7 + 1)] : List Int)).length, .sl 6 0 (x9 ++ ([(0, u3, w64 (x7 + 1))] : List TArc)).length]), (K2q x3), K2p]) [0, 6, 7, 9, 10] [(903, 6), (1799, 5), (4, 4), (3, 3), (2, 2), (1, 1), (0, 0)] 7 ⟨_, by rfl, hF⟩
  refine w_skip (blockQ_n (thenQ_n (w_reg 1479 1671 rfl rfl (qp (AI x7) rfl (qp (AI (w64 (x7 + 1))) rfl (qp (AI (w64 (x7 + 1))) rfl (r_nil (thenQ_n ?_))))))))
  refine ar (l' := [(K2r v0), (6, .ptr 0 0 0), (K2w x3), (9, .ptr 2 0 0), (10, AI (w64 (x7 + 1)))]) (L := [(6, .row true 3 ((x9 ++ ([(0, u3, w64 (x7 + 1))] : List TArc)).map eArc)), (K2s x8), K2n, K2o, (2, .box [AI (w64 ((x3.length : Int) + 1)), AI 0, .sl 5 0 x8.length, .sl 6 0 (x9 ++ ([(0, u3, w64 (x7 + 1))] : List TArc)).length]), (K2q x3), K2p]) [0, 6, 7, 9, 10] [(903, 6), (5, 5), (4, 4), (3, 3), (2, 2), (1, 1), (0, 0)] 7 ⟨_, by rfl, hF⟩
 refine w_exit (thenQ_e (thenQ_e (blockQ_e (thenQ_n (w_seq (ws 263 327 (qp (AI 0) rfl (r_nil (w_block ?_)))))))))
 refine w_ren (l' := [(K2r v0), (6, .ptr 0 0 0), (K2w x3), (9, .ptr 2 0 0), (11, AI 0)]) (L := (K2b x9 x8 x3)) [0, 6, 7, 9, 11] [(6, 6), (5, 5), (4, 4), (3, 3), (2, 2), (1, 1), (0, 0)] 7 (by first | rfl | simp) (by first | rfl | simp) (by decide) (by decide) (by decide) ?_
 refine w_loopF (F_spec_l07Of_l2 v0 x3 x8) (fun s : Int × (List TArc) => mkS [(K2r v0), (6, .ptr 0 0 0), (K2w x3), (9, .ptr 2 0 0), (11, AI s.1)] (fo [(6, .row true 3 (s.2.map eArc)), (K2s x8), K2n, K2o, (2, .box [AI (w64 ((x3.length : Int) + 1)), AI 0, .sl 5 0 x8.length, .sl 6 0 s.2.length]), (K2q x3), K2p]) 7) hF ?_
 rintro k4 ⟨x20, x21⟩ hF
 rw [F_spec_l07Of_l2] at hF
 try dsimp only
 refine w_seq (ws 7 263 (qp (AI x20) rfl (qp (.sl 1 0 x3.length) rfl (qp (AI (x3.length : Int)) rfl (qp (AB (decide (x20 < (x3.length : Int)))) rfl (r_nil ?_))))))
 refine cF hF (fun hF => ?_) fun hF => ?_
 ·
  refine w_skip (thenQ_n (w_seq (w_block (ws 263 327 (qp (AI 0) rfl (r_nil (w_block ?_)))))))
  refine w_ren (l' := [(K2r v0), (6, .ptr 0 0 0), (K2w x3), (9, .ptr 2 0 0), (11, AI x20), (12, AI 0)]) (L := (K2c x21 x8 x3)) [0, 6, 7, 9, 11, 12] [(6, 6), (5, 5), (4, 4), (3, 3), (2, 2), (1, 1), (0, 0)] 7 (by first | rfl | simp) (by first | rfl | simp) (by decide) (by decide) (by decide) ?_
  refine w_loopF (F_spec_l07Of_l3 v0 x3 x20 k4) (fun s : Int × (List TArc) => mkS [(K2r v0), (6, .ptr 0 0 0), (K2w x3), (9, .ptr 2 0 0), (11, AI x20), (12, AI s.1)] (fo [(6, .row true 3 (s.2.map eArc)), (K2s x8), K2n, K2o, (2, .box [AI (w64 ((x3.length : Int) + 1)), AI 0, .sl 5 0 x8.length, .sl 6 0 s.2.length]), (K2q x3), K2p]) 7) hF ?_
  rintro k5 ⟨x24, x25⟩ hF
  rw [F_spec_l07Of_l3] at hF
  try dsimp only
  refine w_seq (ws 7 263 (qp (AI x24) rfl (qp (.sl 1 0 x3.length) rfl (qp (AI (x3.length : Int)) rfl (qp (AB (decide (x24 < (x3.length : Int)))) rfl (r_nil ?_))))))
  refine cF hF (fun hF => ?_) fun hF => ?_
  ·
   refine w_skip (thenQ_n (w_seq (w_block (ws 263 967 (qp (.val none (K2m v0)) rfl (qp (.sl 1 0 x3.length) rfl (qp (AI x20) rfl (bk hF fun u8 e8 hF => qp (.ptr 1 x20.toNat 0) (ev_iad_r rfl (by simp) rfl rfl e8) (qp (AI u8) (ev_ld_r rfl rfl (ix_some e8).2 rfl rfl) (qp (.sl 1 0 x3.length) rfl (qp (AI x24) rfl (bk hF fun u9 e9 hF => qp (.ptr 1 x24.toNat 0) (ev_iad_r rfl (by simp) rfl rfl e9) (qp (AI u9) (ev_ld_r rfl rfl (ix_some e9).2 rfl rfl) (bk hF fun u10 e10 hF => qC (AI u10) (K2d x25 x8 x3) (con_spec_l05Reason e10) c92_ (qp (AB (decide (u10 = (0 : Int)))) rfl (r_nil ?_))))))))))))))))
   refine cF hF (fun hF => ?_) fun hF => ?_
   ·
    refine w_reg 967 1927 rfl rfl (qp (.ptr 2 0 3) rfl (qp (.sl 6 0 x25.length) rfl (qp (AI x20) rfl (qp (AI (w64 (x20 + 1))) rfl (qp (.sl 1 0 x3.length) rfl (qp (AI x24) rfl (bk hF fun u11 e11 hF => qp (.ptr 1 x24.toNat 0) (ev_iad_r rfl (by simp) rfl rfl e11) (qp (AI u11) (ev_ld_r rfl rfl (ix_some e11).2 rfl rfl) (qp (AI x24) rfl (qp (AI (w64 (x24 + 1))) rfl ?_))))))))))
    refine qf (.agg [AI (w64 (x20 + 1)), AI u11, AI (w64 (x24 + 1))]) (K2d x25 x8 x3) (by simp) (qf (.sl 1671 0 (([(w64 (x20 + 1), u11, w64 (x24 + 1))] : List TArc).length)) (K2f x20 u11 x24 x25 x8 x3) (by simp [List.take_of_length_le]) (nk hF fun g12 hF => qf (.sl 1735 0 ((x25 ++ ([(w64 (x20 + 1), u11, w64 (x24 + 1))] : List TArc)).length)) (K2i x25 x20 u11 x24 x8 x3) (effT_app_l rfl (by simp) rfl rfl (by simp) rfl (by decide) g12 rfl) (qp (.ptr 2 0 3) rfl (qf0 (.undef) ((2, .box [AI (w64 ((x3.length : Int) + 1)), AI 0, .sl 5 0 x8.length, .sl 1735 0 ((x25 ++ ([(w64 (x20 + 1), u11, w64 (x24 + 1))] : List TArc)).length)]) :: (K2i x25 x20 u11 x24 x8 x3)) (by simp) (r_nil (blockQ_n (thenQ_n (w_reg 1927 2119 rfl rfl ?_))))))))
    refine qp (AI x24) rfl (qp (AI (w64 (x24 + 1))) rfl (qp (AI (w64 (x24 + 1))) rfl (r_nil (thenQ_n ?_))))
    refine ar (l' := [(K2r v0), (6, .ptr 0 0 0), (K2w x3), (9, .ptr 2 0 0), (11, AI x20), (12, AI (w64 (x24 + 1)))]) (L := [(6, .row true 3 ((x25 ++ ([(w64 (x20 + 1), u11, w64 (x24 + 1))] : List TArc)).map eArc)), (K2s x8), K2n, K2o, (2, .box [AI (w64 ((x3.length : Int) + 1)), AI 0, .sl 5 0 x8.length, .sl 6 0 (x25 ++ ([(w64 (x20 + 1), u11, w64 (x24 + 1))] : List TArc)).length]), (K2q x3), K2p]) [0, 6, 7, 9, 11, 12] [(1735, 6), (5, 5), (4, 4), (3, 3), (2, 2), (1, 1), (0, 0)] 7 ⟨_, by rfl, hF⟩
   refine w_skip (blockQ_n (thenQ_n (w_reg 967 1159 rfl rfl (qp (AI x24) rfl (qp (AI (w64 (x24 + 1))) rfl (qp (AI (w64 (x24 + 1))) rfl (r_nil (thenQ_n ?_))))))))
   refine ar (l' := [(K2r v0), (6, .ptr 0 0 0), (K2w x3), (9, .ptr 2 0 0), (11, AI x20), (12, AI (w64 (x24 + 1)))]) (L := (K2d x25 x8 x3)) [0, 6, 7, 9, 11, 12] [(6, 6), (5, 5), (4, 4), (3, 3), (2, 2), (1, 1), (0, 0)] 7 ⟨_, by rfl, hF⟩
  refine w_exit (thenQ_e (thenQ_e (blockQ_e (blockQ_n (thenQ_n (w_reg 263 455 rfl rfl (qp (AI x20) rfl (qp (AI (w64 (x20 + 1))) rfl (qp (AI (w64 (x20 + 1))) rfl (r_nil (thenQ_n ?_)))))))))))
  refine ar (l' := [(K2r v0), (6, .ptr 0 0 0), (K2w x3), (9, .ptr 2 0 0), (11, AI (w64 (x20 + 1)))]) (L := (K2d x25 x8 x3)) [0, 6, 7, 9, 11] [(6, 6), (5, 5), (4, 4), (3, 3), (2, 2), (1, 1), (0, 0)] 7 ⟨_, by rfl, hF⟩
 exact w_exit (thenQ_e (thenQ_e (blockQ_e (thenQ_n (ws 263 391 (qp (.agg [AI (w64 ((x3.length : Int) + 1)), AI 0, .sl 5 0 x8.length, .sl 6 0 x21.length]) rfl (qf0 (.undef) ((0, .box [AI (w64 ((x3.length : Int) + 1)), AI 0, .sl 5 0 x8.length, .sl 6 0 x21.length]) :: (K2c x21 x8 x3)) (by simp) (rR hF))))))))

def c60 : MC := (sr [pT 2 (.mv cf)] (.seq (sr [mP 5 t0, pF 6 (.nck t5), pF 7 (.fad t6 0), lF 8 7, dF 9 56 [t8, (ci 1), (ci 32)], pF 10 (.not t9), mP 11 t10, mF 12 11 t0, gF 13 11 (.nck t12), gF 14 11 (.fad t13 1), lH 15 11 14, mF 16 11 t0, gF 17 11 (.nck t16), gF 18 11 (.fad t17 0), lH 19 11 18, bH 20 11 .sub t19 (ci 1), ⟨(some 21), (some (11, false)), (.call false 56 [t15, (ci 0), t20])⟩, gF 22 11 (.not t21), pF 23 (.pick t11 ct t22), mP 24 t23, mF 25 24 t0, gF 26 24 (.nck t25), gF 27 24 (.fad t26 2), lH 28 24 27, mF 29 24 t0, gF 30 24 (.nck t29), gF 31 24 (.fad t30 0), lH 32 24 31, bH 33 24 .sub t32 (ci 1), ⟨(some 34), (some (24, false)), (.call false 93 [t28, (ci 0), t33])⟩, gF 35 24 (.not t34), pF 36 (.pick t24 ct t35), mP 37 t36, mF 38 37 t0, gF 39 37 (.nck t38), gF 40 37 (.fad t39 3), lH 41 37 40, zH 42 37 41, bH 43 37 .gtr t42 (ci 256), pF 44 (.pick t37 ct t43)] (.cond t44 (sr [pT 2 (.mv cf)] .ret) .skip)) (.seq (sr [pT 3 (.mv (ci 0))] (.block 0 (.loop (.seq (sr [mvt 45 3, mvt 46 0, pT 47 (.nck t46), pT 48 (.fad t47 3), lT 49 48, zT 50 49, bT 51 .lss t45 t50] (cx t51 0)) (.seq (.block 1 (sr [mvt 54 0, pT 55 (.nck t54), pT 56 (.fad t55 3), lT 57 56, mvt 58 3, iT 59 57 58 3, pT 60 (.ld t59 3 true), rg 4 (.f (.alloc [((.int .i64 0), (0, false)), ((.int .i64 0), (0, false)), ((.int .i64 0), (0, false))])), ⟨none, none, (.f (.st t4 t60 3))⟩] (.seq (sr [pF 61 (.fad t4 0), lF 62 61, mP 63 t0, pF 64 (.nck t63), pF 65 (.fad t64 0), lF 66 65, bF 67 .sub t66 (ci 1), dF 68 56 [t62, (ci 0), t67], pF 69 (.not t68), mP 70 t69, gF 71 70 (.fad t4 1), lH 72 70 71, ⟨(some 73), (some (70, false)), (.call false 55 [t72])⟩, gF 74 70 (.not t73), pF 75 (.pick t70 ct t74), mP 76 t75, gF 77 76 (.fad t4 2), lH 78 76 77, mF 79 76 t0, gF 80 76 (.nck t79), gF 81 76 (.fad t80 0), lH 82 76 81, bH 83 76 .sub t82 (ci 1), ⟨(some 84), (some (76, false)), (.call false 56 [t78, (ci 0), t83])⟩, gF 85 76 (.not t84), pF 86 (.pick t76 ct t85)] (.cond t86 (sr [pT 2 (.mv cf)] .ret) .skip)) (sr [mP 87 t3, bF 88 .gtr t87 (ci 0), mP 89 t88, mT 90 89 t0, gT 91 89 (.nck t90), gT 92 89 (.fad t91 3), lG 93 89 92, mT 94 89 t3, bG 95 89 .sub t94 (ci 1), iG 96 89 93 95 3, gT 97 89 (.fad t96 0), lG 98 89 97, gT 99 89 (.fad t4 0), lG 100 89 99, bG 101 89 .gtr t98 t100, mT 102 89 t101, mF 103 102 t0, gF 104 102 (.nck t103), gF 105 102 (.fad t104 3), lH 106 102 105, mF 107 102 t3, bH 108 102 .sub t107 (ci 1), iH 109 102 106 108 3, gF 110 102 (.fad t109 0), lH 111 102 110, gF 112 102 (.fad t4 0), lH 113 102 112, bH 114 102 .eql t111 t113, mF 115 102 t114, mT 116 115 t0, gT 117 115 (.nck t116), gT 118 115 (.fad t117 3), lG 119 115 118, mT 120 115 t3, bG 121 115 .sub t120 (ci 1), iG 122 115 119 121 3, gT 123 115 (.fad t122 1), lG 124 115 123, gT 125 115 (.fad t4 1), lG 126 115 125, bG 127 115 .geq t124 t126, gF 128 102 (.pick t115 t127 cf), gT 129 89 (.pick t102 ct t128), pF 130 (.pick t89 t129 cf)] (.cond t130 (sr [pT 2 (.mv cf)] .ret) .skip))))) (.reg [mvt 52 3, bT 53 .add t52 (ci 1), mvt 3 53])))))) (sr [pT 2 (.mv ct)] .ret))))
theorem c60_ : IsF Tryz.prog 60 c60 [(.tmp 2)] := ⟨by kernel_rfl, by kernel_rfl⟩

def F_spec_l07Ok_l0 (v0 : TGrammar) (k1 : Int → Option (Bool)) : Int → Option (Bool)
 | x3 => (bif (decide (x3 < (v0.2.2.2.length : Int))) then ((ix v0.2.2.2 x3).bind fun u23 => ((F_spec_l00In u23.1 0 (w64 (v0.1 - 1))).bind fun u27 => (bif (!u27) then some false
 else ((F_spec_l03Pitch u23.2.1).bind fun u28 => (bif (!u28) then some false
 else ((F_spec_l00In u23.2.2 0 (w64 (v0.1 - 1))).bind fun u29 => (bif (!u29) then some false
 else (bif (decide ((0 : Int) < x3)) then ((ix v0.2.2.2 (w64 (x3 - 1))).bind fun u30 => (bif (decide (u23.1 < u30.1)) then some false
 else ((ix v0.2.2.2 (w64 (x3 - 1))).bind fun u31 => (bif (decide (u31.1 = u23.1)) then ((ix v0.2.2.2 (w64 (x3 - 1))).bind fun u32 => (bif (decide (u23.2.1 ≤ u32.2.1)) then some false
 else k1 (w64 (x3 + 1))))
 else k1 (w64 (x3 + 1))))))
 else k1 (w64 (x3 + 1))))))))))
 else some true)
def F_spec_l07Ok (v0 : TGrammar) : Option (Bool) :=
 ((F_spec_l00In v0.1 1 32).bind fun u0 => (bif (!u0) then some false
 else ((F_spec_l00In v0.2.1 0 (w64 (v0.1 - 1))).bind fun u1 => (bif (!u1) then some false
 else ((F_spec_l00Rises v0.2.2.1 0 (w64 (v0.1 - 1))).bind fun u2 => (bif (!u2) then some false
 else (bif (decide ((256 : Int) < (v0.2.2.2.length : Int))) then some false
 else loop (F_spec_l07Ok_l0 v0) 0)))))))
@[simp] abbrev K2x (u23 : TArc) : List (Nat × Root) := [(897, .box [AI u23.1, AI u23.2.1, AI u23.2.2]), (897, .box [AI 0, AI 0, AI 0])]
@[simp] abbrev K2y (v0 : TGrammar) : V := .ptr [.int .i64 v0.1, .int .i64 v0.2.1, .sl 1 (v0.2.2.1.map vI), .sl 3 (v0.2.2.2.map eArc)]
@[simp] abbrev K2z (v0 : TGrammar) : AV := .val none (.ptr [.sl 3 (v0.2.2.2.map eArc)])
@[simp] abbrev K30 (v0 : TGrammar) : AV := AL 3 (v0.2.2.2.map eArc)
@[simp] def res_spec_l07Ok (r : Bool) : RV := .one (.one (.val (.bool r)))
theorem con_spec_l07Ok {v0 : TGrammar} {r : Bool} (hF : F_spec_l07Ok v0 = some r) : Con Tryz.prog 60 [.ptr [.int .i64 v0.1, .int .i64 v0.2.1, .sl 1 (v0.2.2.1.map vI), .sl 3 (v0.2.2.2.map eArc)]] (res_spec_l07Ok r) := by
 unfold F_spec_l07Ok at hF
 refine con_of c60_.1 fun N => ?_
 refine ws 0 64 (qp (AB false) rfl (r_nil (w_seq (ws 64 2624 (qp (.val none (K2y v0)) rfl (qp (.val none (K2y v0)) rfl (qp (.val none (K2y v0)) rfl (qp (AI v0.1) rfl (bk hF fun u0 e0 hF => qC (AB u0) [] (con_spec_l00In e0) c56_ (qp (AB (!u0)) rfl (qp (AB (!u0)) rfl ?_)))))))))))
 refine q_case 11 hF rfl (fun hF => ?_) (fun hF => ?_)
 ·
  refine qn8 (qn3 (qp (AB true) rfl (qp (AB true) rfl (qn3 (qn8 (qp (AB true) rfl (qp (AB true) rfl (qn6 (qp (AB true) rfl (r_nil (w_true rfl (ws 2624 2688 (qp (AB false) rfl ?_)))))))))))))
  exact r_nil (w_ret (thenQ_r (eQ hF)))
 refine qg (.val none (K2y v0)) rfl rfl (qg (.val none (K2y v0)) rfl rfl (qg (.val none (.ptr [.int .i64 v0.2.1, .sl 1 (v0.2.2.1.map vI), .sl 3 (v0.2.2.2.map eArc)])) rfl rfl (qg (AI v0.2.1) rfl rfl (qg (.val none (K2y v0)) rfl rfl (qg (.val none (K2y v0)) rfl rfl (qg (.val none (K2y v0)) rfl rfl (qg (AI v0.1) rfl rfl (qg (AI (w64 (v0.1 - 1))) rfl rfl (bk hF fun u1 e1 hF => qG (AB u1) [] (con_spec_l00In e1) c56_ (qg (AB (!u1)) rfl rfl (qp (AB (!u1)) rfl (qp (AB (!u1)) rfl ?_))))))))))))
 refine q_case 24 hF rfl (fun hF => qn8 (qn3 (qp (AB true) rfl (qp (AB true) rfl (qn3 (qn3 (qp (AB true) rfl (r_nil (w_true rfl (ws 2624 2688 (qp (AB false) rfl (r_nil (w_ret (thenQ_r (eQ hF))))))))))))))) fun hF => ?_
 refine qg (.val none (K2y v0)) rfl rfl (qg (.val none (K2y v0)) rfl rfl (qg (.val none (.ptr [.sl 1 (v0.2.2.1.map vI), .sl 3 (v0.2.2.2.map eArc)])) rfl rfl (qg (AL 1 (v0.2.2.1.map vI)) rfl rfl (qg (.val none (K2y v0)) rfl rfl (qg (.val none (K2y v0)) rfl rfl (qg (.val none (K2y v0)) rfl rfl (qg (AI v0.1) rfl rfl (qg (AI (w64 (v0.1 - 1))) rfl rfl (bk hF fun u2 e2 hF => qG (AB u2) [] (con_spec_l00Rises e2) c93_ (qg (AB (!u2)) rfl rfl (qp (AB (!u2)) rfl (qp (AB (!u2)) rfl ?_))))))))))))
 refine q_case 37 hF rfl (fun hF => qn6 (qp (AB true) rfl (r_nil (w_true rfl (ws 2624 2688 (qp (AB false) rfl (r_nil (w_ret (thenQ_r (eQ hF)))))))))) fun hF => ?_
 refine qg (.val none (K2y v0)) rfl rfl (qg (.val none (K2y v0)) rfl rfl (qg (K2z v0) rfl rfl (qg (K30 v0) rfl rfl (qg (AI (v0.2.2.2.length : Int)) rfl (ev_len_n rfl) (qg (AB (decide ((256 : Int) < (v0.2.2.2.length : Int)))) rfl rfl (qp (AB (decide ((256 : Int) < (v0.2.2.2.length : Int)))) rfl (r_nil (cF hF (fun hF => ws 2624 2688 (qp (AB false) rfl (r_nil (w_ret (thenQ_r (eQ hF)))))) fun hF => ?_))))))))
 refine w_skip (thenQ_n (w_seq (ws 2624 2688 (qp (AI 0) rfl (r_nil (w_block ?_))))))
 refine wr (l' := [(0, .val none (K2y v0)), (3, AI 0)]) (L := []) [0, 3] [] 1 ?_
 refine w_loopF (F_spec_l07Ok_l0 v0) (fun s : Int => mkS [(0, .val none (K2y v0)), (3, AI s)] (fo []) 1) hF ?_
 rintro k1 x3 hF
 rw [F_spec_l07Ok_l0] at hF
 try dsimp only
 refine w_seq (ws 1 449 (qp (AI x3) rfl (qp (.val none (K2y v0)) rfl (qp (.val none (K2y v0)) rfl (qp (K2z v0) rfl (qp (K30 v0) rfl (qp (AI (v0.2.2.2.length : Int)) (ev_len_n rfl) (qp (AB (decide (x3 < (v0.2.2.2.length : Int)))) rfl (r_nil ?_)))))))))
 refine cF hF (fun hF => ?_) fun hF => ?_
 ·
  refine w_skip (thenQ_n (w_seq (w_block (ws 449 1025 (qp (.val none (K2y v0)) rfl (qp (.val none (K2y v0)) rfl (qp (K2z v0) rfl (qp (K30 v0) rfl (qp (AI x3) rfl (bk hF fun u23 e23 hF => qp (.val none (.ptr [.int .i64 u23.1, .int .i64 u23.2.1, .int .i64 u23.2.2])) (ev_iad_n rfl rfl e23 rfl) (qp (.val none (eArc u23)) rfl (qf (.ptr 897 0 0) [(897, .box [AI 0, AI 0, AI 0])] (by simp) (qf0 (.undef) (K2x u23) (by simp) (r_nil ?_))))))))))))))
  refine w_seq (ws 1025 2689 (qp (.ptr 897 0 0) rfl (qp (AI u23.1) rfl (qp (.val none (K2y v0)) rfl (qp (.val none (K2y v0)) rfl (qp (.val none (K2y v0)) rfl (qp (AI v0.1) rfl (qp (AI (w64 (v0.1 - 1))) rfl (bk hF fun u27 e27 hF => qC (AB u27) (K2x u23) (con_spec_l00In e27) c56_ (qp (AB (!u27)) rfl (qp (AB (!u27)) rfl ?_)))))))))))
  refine q_case 70 hF rfl (fun hF => ?_) (fun hF => ?_)
  ·
   refine qn4 (qp (AB true) rfl (qp (AB true) rfl (qn2 (qn7 (qp (AB true) rfl (r_nil (w_true rfl (ws 2689 2753 (qp (AB false) rfl (r_nil (w_ret (thenQ_r (blockQ_r ?_)))))))))))))
   exact thenQ_r (thenQ_r (blockQ_r (thenQ_r (eQ hF))))
  refine qg (.ptr 897 0 1) rfl rfl (qg (AI u23.2.1) rfl rfl (bk hF fun u28 e28 hF => qG (AB u28) (K2x u23) (con_spec_l03Pitch e28) c55_ (qg (AB (!u28)) rfl rfl (qp (AB (!u28)) rfl (qp (AB (!u28)) rfl ?_)))))
  refine q_case 76 hF rfl (fun hF => ?_) (fun hF => ?_)
  ·
   refine qn8 (qn rfl (qp (AB true) rfl (r_nil (w_true rfl (ws 2689 2753 (qp (AB false) rfl (r_nil (w_ret (thenQ_r (blockQ_r (thenQ_r (thenQ_r (blockQ_r ?_)))))))))))))
   exact thenQ_r (eQ hF)
  refine qg (.ptr 897 0 2) rfl rfl (qg (AI u23.2.2) rfl rfl (qg (.val none (K2y v0)) rfl rfl (qg (.val none (K2y v0)) rfl rfl (qg (.val none (K2y v0)) rfl rfl (qg (AI v0.1) rfl rfl (qg (AI (w64 (v0.1 - 1))) rfl rfl (bk hF fun u29 e29 hF => qG (AB u29) (K2x u23) (con_spec_l00In e29) c56_ (qg (AB (!u29)) rfl rfl (qp (AB (!u29)) rfl (r_nil ?_))))))))))
  refine cF hF (fun hF => ws 2689 2753 (qp (AB false) rfl (r_nil (w_ret (thenQ_r (blockQ_r (thenQ_r (thenQ_r (blockQ_r (thenQ_r (eQ hF))))))))))) fun hF => ?_
  refine w_skip (thenQ_n (ws 2689 5505 (qp (AI x3) rfl (qp (AB (decide ((0 : Int) < x3))) rfl (qp (AB (decide ((0 : Int) < x3))) rfl ?_)))))
  refine q_case 89 hF rfl (fun hF => ?_) (fun hF => ?_)
  ·
   refine qg (.val none (K2y v0)) rfl rfl (qg (.val none (K2y v0)) rfl rfl (qg (K2z v0) rfl rfl (qg (K30 v0) rfl rfl (qg (AI x3) rfl rfl (qg (AI (w64 (x3 - 1))) rfl rfl (bk hF fun u30 e30 hF => qg (.val none (.ptr [.int .i64 u30.1, .int .i64 u30.2.1, .int .i64 u30.2.2])) rfl (ev_iad_n rfl rfl e30 rfl) (qg (.val none (.ptr [.int .i64 u30.1, .int .i64 u30.2.1, .int .i64 u30.2.2])) rfl rfl (qg (AI u30.1) rfl rfl (qg (.ptr 897 0 0) rfl rfl (qg (AI u23.1) rfl rfl (qg (AB (decide (u23.1 < u30.1))) rfl rfl (qg (AB (decide (u23.1 < u30.1))) rfl rfl ?_))))))))))))
   refine q_case 102 hF rfl (fun hF => ?_) (fun hF => ?_)
   ·
    refine qn8 (qn5 (qu rfl (qu rfl (qu rfl (qu rfl (qu rfl (qu rfl (qu rfl (qu rfl (qu rfl (qu rfl (qu rfl ?_))))))))))))
    refine qu rfl (qn rfl (qg (AB true) rfl rfl (qp (AB true) rfl (r_nil (w_true rfl (ws 5505 5569 (qp (AB false) rfl (r_nil (w_ret (blockQ_r (thenQ_r (thenQ_r (blockQ_r ?_)))))))))))))
    exact thenQ_r (eQ hF)
   refine qg (.val none (K2y v0)) rfl rfl (qg (.val none (K2y v0)) rfl rfl (qg (K2z v0) rfl rfl (qg (K30 v0) rfl rfl (qg (AI x3) rfl rfl (qg (AI (w64 (x3 - 1))) rfl rfl (bk hF fun u31 e31 hF => qg (.val none (.ptr [.int .i64 u31.1, .int .i64 u31.2.1, .int .i64 u31.2.2])) rfl (ev_iad_n rfl rfl e31 rfl) (qg (.val none (.ptr [.int .i64 u31.1, .int .i64 u31.2.1, .int .i64 u31.2.2])) rfl rfl (qg (AI u31.1) rfl rfl (qg (.ptr 897 0 0) rfl rfl (qg (AI u23.1) rfl rfl (qg (AB (decide (u31.1 = u23.1))) rfl rfl (qg (AB (decide (u31.1 = u23.1))) rfl rfl ?_))))))))))))
   refine q_case 115 hF rfl (fun hF => ?_) (fun hF => ?_)
   ·
    refine qg (.val none (K2y v0)) rfl rfl (qg (.val none (K2y v0)) rfl rfl (qg (K2z v0) rfl rfl (qg (K30 v0) rfl rfl (qg (AI x3) rfl rfl (qg (AI (w64 (x3 - 1))) rfl rfl (bk hF fun u32 e32 hF => ?_))))))
    refine qg (.val none (.ptr [.int .i64 u32.1, .int .i64 u32.2.1, .int .i64 u32.2.2])) rfl (ev_iad_n rfl rfl e32 rfl) (qg (.val none (.ptr [.int .i64 u32.2.1, .int .i64 u32.2.2])) rfl rfl (qg (AI u32.2.1) rfl rfl (qg (.ptr 897 0 1) rfl rfl (qg (AI u23.2.1) rfl rfl (qg (AB (decide (u23.2.1 ≤ u32.2.1))) rfl rfl (qg (AB (decide (u23.2.1 ≤ u32.2.1))) rfl rfl (qg (AB (decide (u23.2.1 ≤ u32.2.1))) rfl rfl (qp (AB (decide (u23.2.1 ≤ u32.2.1))) rfl (r_nil ?_)))))))))
    refine cF hF (fun hF => ws 5505 5569 (qp (AB false) rfl (r_nil (w_ret (blockQ_r (thenQ_r (thenQ_r (blockQ_r (thenQ_r (eQ hF)))))))))) fun hF => ?_
    refine w_skip (blockQ_n (thenQ_n (w_reg 5505 5697 rfl rfl (qp (AI x3) rfl (qp (AI (w64 (x3 + 1))) rfl (qp (AI (w64 (x3 + 1))) rfl (r_nil (thenQ_n ?_))))))))
    refine ar (l' := [(0, .val none (K2y v0)), (3, AI (w64 (x3 + 1)))]) (L := []) [0, 3] [] 1 ⟨_, by rfl, hF⟩
   refine qn8 (qn4 (qg (AB false) rfl rfl (qg (AB false) rfl rfl (qp (AB false) rfl (r_nil (w_false rfl (w_skip (blockQ_n (thenQ_n (w_reg 5505 5697 rfl rfl ?_))))))))))
   refine qp (AI x3) rfl (qp (AI (w64 (x3 + 1))) rfl (qp (AI (w64 (x3 + 1))) rfl (r_nil (thenQ_n ?_))))
   refine ar (l' := [(0, .val none (K2y v0)), (3, AI (w64 (x3 + 1)))]) (L := []) [0, 3] [] 1 ⟨_, by rfl, hF⟩
  refine qn8 (qn5 (qu rfl (qu rfl (qu rfl (qu rfl (qu rfl (qu rfl (qu rfl (qu rfl (qu rfl (qu rfl (qu rfl ?_))))))))))))
  refine qu rfl (qu rfl (qu rfl (qu rfl (qu rfl (qu rfl (qu rfl (qu rfl ?_)))))))
  refine qu rfl (qu rfl (qu rfl (qu rfl (qu rfl (qu rfl (qu rfl (qn rfl (qp (AB false) rfl (r_nil (w_false rfl (w_skip (blockQ_n (thenQ_n ?_)))))))))))))
  refine w_reg 5505 5697 rfl rfl (qp (AI x3) rfl (qp (AI (w64 (x3 + 1))) rfl (qp (AI (w64 (x3 + 1))) rfl (r_nil (thenQ_n ?_)))))
  refine ar (l' := [(0, .val none (K2y v0)), (3, AI (w64 (x3 + 1)))]) (L := []) [0, 3] [] 1 ⟨_, by rfl, hF⟩
 exact w_exit (thenQ_e (thenQ_e (blockQ_e (thenQ_n (ws 449 513 (qp (AB true) rfl (rR hF)))))))

def c121 : MC := (sr [pT 2 (.mv (ci 0))] (sr [pT 3 (.mv (ci 0))] (.seq (sr [pT 4 (.mv (ci 0))] (.block 0 (.loop (.seq (sr [mvt 5 4, mvt 6 0, zT 7 6, bT 8 .lss t5 t7] (cx t8 0)) (.seq (.block 1 (.reg [mvt 11 3, mvt 12 0, mvt 13 4, iT 14 12 13 1, lT 15 14, bT 16 .add t11 t15, mvt 3 16])) (.reg [mvt 9 4, bT 10 .add t9 (ci 1), mvt 4 10])))))) (sr [mvt 17 3, mvt 2 17] .ret))))
theorem c121_ : IsF Tryz.prog 121 c121 [(.tmp 2)] := ⟨by kernel_rfl, by kernel_rfl⟩

def F_spec_l17Sum_l0 (v0 : List Int) (k0 : Int × Int → Option (Int)) : Int × Int → Option (Int)
 | (x2, x3) => (bif (decide (x3 < (v0.length : Int))) then ((ix v0 x3).bind fun u0 => k0 (w64 (x2 + u0), w64 (x3 + 1)))
 else some x2)
def F_spec_l17Sum (v0 : List Int) : Option (Int) :=
 loop (F_spec_l17Sum_l0 v0) (0, 0)
@[simp] def res_spec_l17Sum (r : Int) : RV := .one (.one (.val (.int .i64 r)))
theorem con_spec_l17Sum {v0 : List Int} {r : Int} (hF : F_spec_l17Sum v0 = some r) : Con Tryz.prog 121 [.sl 1 (v0.map vI)] (res_spec_l17Sum r) := by
 unfold F_spec_l17Sum at hF
 refine con_of c121_.1 fun N => ?_
 refine ws 0 64 (qp (AI 0) rfl (r_nil (ws 64 128 (qp (AI 0) rfl (r_nil (w_seq (ws 128 192 (qp (AI 0) rfl (r_nil (w_block ?_))))))))))
 refine wr (l' := [(0, AL 1 (v0.map vI)), (3, AI 0), (4, AI 0)]) (L := []) [0, 3, 4] [] 1 ?_
 refine w_loopF (F_spec_l17Sum_l0 v0) (fun s : Int × Int => mkS [(0, AL 1 (v0.map vI)), (3, AI s.1), (4, AI s.2)] (fo []) 1) hF ?_
 rintro k0 ⟨x2, x3⟩ hF
 rw [F_spec_l17Sum_l0] at hF
 try dsimp only
 refine w_seq (ws 1 257 (qp (AI x3) rfl (qp (AL 1 (v0.map vI)) rfl (qp (AI (v0.length : Int)) (ev_len_n rfl) (qp (AB (decide (x3 < (v0.length : Int)))) rfl (r_nil ?_))))))
 refine cF hF (fun hF => ?_) fun hF => ?_
 ·
  refine w_skip (thenQ_n (w_seq (w_block (w_reg 257 705 rfl rfl (qp (AI x2) rfl (qp (AL 1 (v0.map vI)) rfl (qp (AI x3) rfl (bk hF fun u0 e0 hF => qp (.val none (.ptr [.int .i64 u0])) (ev_iad_n rfl rfl e0 rfl) (qp (AI u0) rfl (qp (AI (w64 (x2 + u0))) rfl (qp (AI (w64 (x2 + u0))) rfl (r_nil ?_))))))))))))
  refine blockQ_n (thenQ_n (w_reg 705 897 rfl rfl (qp (AI x3) rfl (qp (AI (w64 (x3 + 1))) rfl (qp (AI (w64 (x3 + 1))) rfl (r_nil (thenQ_n ?_)))))))
  refine ar (l' := [(0, AL 1 (v0.map vI)), (3, AI (w64 (x2 + u0))), (4, AI (w64 (x3 + 1)))]) (L := []) [0, 3, 4] [] 1 ⟨_, by rfl, hF⟩
 exact w_exit (thenQ_e (thenQ_e (blockQ_e (thenQ_n (ws 257 385 (qp (AI x2) rfl (qp (AI x2) rfl (rR hF))))))))

def c120 : MC := (sr [pT 2 (.mv cf)] (sr [mvt 5 0, pT 6 (.nck t5), pT 7 (.fad t6 1), lT 8 7, zT 9 8, mvt 3 9] (.seq (sr [mvt 10 0, pT 11 (.nck t10), pT 12 (.fad t11 0), lT 13 12, dT 14 84 [t13], pT 15 (.not t14), mvt 16 15, nF 17 16 t3, ⟨(some 18), (some (16, false)), (.call true 56 [t17, (ci 1), (ci 8)])⟩, kF 19 16 (.not t18), pT 20 (.pick t16 ct t19), mvt 21 20, nF 22 21 t0, kF 23 21 (.nck t22), kF 24 21 (.fad t23 2), kF 25 21 (.ld t24 1 false), kF 26 21 (.len t25), nF 27 21 t3, kF 28 21 (.bin .neq t26 t27), pT 29 (.pick t21 ct t28)] (.cond t29 (sr [pT 2 (.mv cf)] .ret) .skip)) (.seq (sr [pT 4 (.mv (ci 0))] (.block 0 (.loop (.seq (sr [mvt 30 4, mvt 31 3, bT 32 .lss t30 t31] (cx t32 0)) (.seq (.block 1 (.seq (sr [mvt 35 0, pT 36 (.nck t35), pT 37 (.fad t36 1), lT 38 37, mvt 39 4, iT 40 38 39 1, lT 41 40, dT 42 56 [t41, (ci 1), (ci 16)], pT 43 (.not t42)] (.cond t43 (sr [pT 2 (.mv cf)] .ret) .skip)) (sr [mvt 44 4, bT 45 .eql t44 (ci 0), mvt 46 45, nT 47 46 t0, kT 48 46 (.nck t47), kT 49 46 (.fad t48 2), kT 50 46 (.ld t49 1 false), nT 51 46 t4, kT 52 46 (.iad t50 t51 1), kT 53 46 (.ld t52 1 false), kT 54 46 (.bin .neq t53 (ci 1)), pT 55 (.pick t46 t54 cf), mvt 56 55, nF 57 56 t4, kF 58 56 (.bin .gtr t57 (ci 0)), nF 59 56 t58, nT 60 59 t0, kT 61 59 (.nck t60), kT 62 59 (.fad t61 2), kT 63 59 (.ld t62 1 false), nT 64 59 t4, kT 65 59 (.iad t63 t64 1), kT 66 59 (.ld t65 1 false), ⟨(some 67), (some (59, true)), (.call true 56 [t66, (ci 2), (ci 3)])⟩, kT 68 59 (.not t67), kF 69 56 (.pick t59 t68 cf), pT 70 (.pick t56 ct t69)] (.cond t70 (sr [pT 2 (.mv cf)] .ret) .skip)))) (.reg [mvt 33 4, bT 34 .add t33 (ci 1), mvt 4 34])))))) (sr [mvt 71 0, pT 72 (.nck t71), pT 73 (.fad t72 1), lT 74 73, dT 75 121 [t74], bT 76 .leq t75 (ci 32), mvt 2 76] .ret)))))
theorem c120_ : IsF Tryz.prog 120 c120 [(.tmp 2)] := ⟨by kernel_rfl, by kernel_rfl⟩

def F_spec_l17Ok_l0 (v0 : TTala) (k1 : Int → Option (Bool)) : Int → Option (Bool)
 | x3 => (bif (decide (x3 < (v0.2.1.length : Int))) then ((ix v0.2.1 x3).bind fun u16 => ((F_spec_l00In u16 1 16).bind fun u17 => (bif (!u17) then some false
 else (bif (decide (x3 = (0 : Int))) then ((ix v0.2.2 x3).bind fun u18 => (bif (decide (u18 ≠ (1 : Int))) then some false
 else (bif (decide ((0 : Int) < x3)) then ((ix v0.2.2 x3).bind fun u19 => ((F_spec_l00In u19 2 3).bind fun u20 => (bif (!u20) then some false
 else k1 (w64 (x3 + 1)))))
 else k1 (w64 (x3 + 1)))))
 else (bif (decide ((0 : Int) < x3)) then ((ix v0.2.2 x3).bind fun u21 => ((F_spec_l00In u21 2 3).bind fun u22 => (bif (!u22) then some false
 else k1 (w64 (x3 + 1)))))
 else k1 (w64 (x3 + 1)))))))
 else ((F_spec_l17Sum v0.2.1).bind fun u23 => some (decide (u23 ≤ (32 : Int)))))
def F_spec_l17Ok (v0 : TTala) : Option (Bool) :=
 ((F_spec_l01Name v0.1).bind fun u0 => (bif (!u0) then some false
 else ((F_spec_l00In (v0.2.1.length : Int) 1 8).bind fun u1 => (bif (!u1) then some false
 else (bif (decide ((v0.2.2.length : Int) ≠ (v0.2.1.length : Int))) then some false
 else loop (F_spec_l17Ok_l0 v0) 0)))))
@[simp] abbrev K31 (v0 : TTala) : V := .ptr [.str v0.1, .sl 1 (v0.2.1.map vI), .sl 1 (v0.2.2.map vI)]
@[simp] abbrev K32 (v0 : TTala) (x3 : Int) : List (Nat × AV) := [(0, .val none (K31 v0)), (3, AI (v0.2.1.length : Int)), (4, AI (w64 (x3 + 1)))]
@[simp] abbrev K33 (v0 : TTala) : AV := .val none (.ptr [.sl 1 (v0.2.1.map vI), .sl 1 (v0.2.2.map vI)])
@[simp] abbrev K34 (v0 : TTala) : AV := .val none (.ptr [.sl 1 (v0.2.2.map vI)])
@[simp] abbrev K35 (v0 : TTala) : AV := AL 1 (v0.2.2.map vI)
@[simp] def res_spec_l17Ok (r : Bool) : RV := .one (.one (.val (.bool r)))
theorem con_spec_l17Ok {v0 : TTala} {r : Bool} (hF : F_spec_l17Ok v0 = some r) : Con Tryz.prog 120 [.ptr [.str v0.1, .sl 1 (v0.2.1.map vI), .sl 1 (v0.2.2.map vI)]] (res_spec_l17Ok r) := by
 unfold F_spec_l17Ok at hF
 refine con_of c120_.1 fun N => ?_
 refine ws 0 64 (qp (AB false) rfl (r_nil (ws 64 448 (qp (.val none (K31 v0)) rfl (qp (.val none (K31 v0)) rfl (qp (K33 v0) rfl (qp (AL 1 (v0.2.1.map vI)) rfl (qp (AI (v0.2.1.length : Int)) (ev_len_n rfl) (qp (AI (v0.2.1.length : Int)) rfl (r_nil (w_seq (ws 448 1728 ?_))))))))))))
 refine qp (.val none (K31 v0)) rfl (qp (.val none (K31 v0)) rfl (qp (.val none (K31 v0)) rfl (qp (AS v0.1) rfl (bk hF fun u0 e0 hF => qC (AB u0) [] (con_spec_l01Name e0) c84_ (qp (AB (!u0)) rfl (qp (AB (!u0)) rfl ?_))))))
 refine q_case 16 hF rfl (fun hF => qn3 (qp (AB true) rfl (qp (AB true) rfl (qn3 (qn4 (qp (AB true) rfl (r_nil (w_true rfl (ws 1728 1792 (qp (AB false) rfl (r_nil (w_ret (thenQ_r (eQ hF)))))))))))))) fun hF => ?_
 refine qg (AI (v0.2.1.length : Int)) rfl rfl (bk hF fun u1 e1 hF => qG (AB u1) [] (con_spec_l00In e1) c56_ (qg (AB (!u1)) rfl rfl (qp (AB (!u1)) rfl (qp (AB (!u1)) rfl (q_case 21 hF rfl (fun hF => qn7 (qp (AB true) rfl (r_nil (w_true rfl (ws 1728 1792 (qp (AB false) rfl (r_nil (w_ret (thenQ_r (eQ hF)))))))))) fun hF => ?_)))))
 refine qg (.val none (K31 v0)) rfl rfl (qg (.val none (K31 v0)) rfl rfl (qg (K34 v0) rfl rfl (qg (K35 v0) rfl rfl (qg (AI (v0.2.2.length : Int)) rfl (ev_len_n rfl) (qg (AI (v0.2.1.length : Int)) rfl rfl (qg (AB (decide ((v0.2.2.length : Int) ≠ (v0.2.1.length : Int)))) rfl rfl (qp (AB (decide ((v0.2.2.length : Int) ≠ (v0.2.1.length : Int)))) rfl (r_nil (cF hF (fun hF => ws 1728 1792 (qp (AB false) rfl (r_nil (w_ret (thenQ_r (eQ hF)))))) fun hF => ?_)))))))))
 refine w_skip (thenQ_n (w_seq (ws 1728 1792 (qp (AI 0) rfl (r_nil (w_block ?_))))))
 refine wr (l' := [(0, .val none (K31 v0)), (3, AI (v0.2.1.length : Int)), (4, AI 0)]) (L := []) [0, 3, 4] [] 1 ?_
 refine w_loopF (F_spec_l17Ok_l0 v0) (fun s : Int => mkS [(0, .val none (K31 v0)), (3, AI (v0.2.1.length : Int)), (4, AI s)] (fo []) 1) hF ?_
 rintro k1 x3 hF
 rw [F_spec_l17Ok_l0] at hF
 try dsimp only
 refine w_seq (ws 1 193 (qp (AI x3) rfl (qp (AI (v0.2.1.length : Int)) rfl (qp (AB (decide (x3 < (v0.2.1.length : Int)))) rfl (r_nil ?_)))))
 refine cF hF (fun hF => ?_) fun hF => ?_
 ·
  refine w_skip (thenQ_n (w_seq (w_block (w_seq (ws 193 769 (qp (.val none (K31 v0)) rfl (qp (.val none (K31 v0)) rfl (qp (K33 v0) rfl (qp (AL 1 (v0.2.1.map vI)) rfl (qp (AI x3) rfl (bk hF fun u16 e16 hF => qp (.val none (.ptr [.int .i64 u16])) (ev_iad_n rfl rfl e16 rfl) (qp (AI u16) rfl (bk hF fun u17 e17 hF => qC (AB u17) [] (con_spec_l00In e17) c56_ (qp (AB (!u17)) rfl (r_nil ?_)))))))))))))))
  refine cF hF (fun hF => ws 769 833 (qp (AB false) rfl (r_nil (w_ret (thenQ_r (blockQ_r (thenQ_r (thenQ_r (blockQ_r (thenQ_r (eQ hF))))))))))) fun hF => ?_
  refine w_skip (thenQ_n (ws 769 2497 (qp (AI x3) rfl (qp (AB (decide (x3 = (0 : Int)))) rfl (qp (AB (decide (x3 = (0 : Int)))) rfl ?_)))))
  refine q_case 46 hF rfl (fun hF => ?_) (fun hF => ?_)
  ·
   refine qg (.val none (K31 v0)) rfl rfl (qg (.val none (K31 v0)) rfl rfl (qg (K34 v0) rfl rfl (qg (K35 v0) rfl rfl (qg (AI x3) rfl rfl (bk hF fun u18 e18 hF => qg (.val none (.ptr [.int .i64 u18])) rfl (ev_iad_n rfl rfl e18 rfl) (qg (AI u18) rfl rfl (qg (AB (decide (u18 ≠ (1 : Int)))) rfl rfl (qp (AB (decide (u18 ≠ (1 : Int)))) rfl (qp (AB (decide (u18 ≠ (1 : Int)))) rfl ?_)))))))))
   refine q_case 56 hF rfl (fun hF => ?_) (fun hF => ?_)
   ·
    refine qn3 (qu rfl (qu rfl (qu rfl (qu rfl (qu rfl (qu rfl (qu rfl (qu rfl (qu rfl (qn rfl (qp (AB true) rfl (r_nil (w_true rfl ?_)))))))))))))
    exact ws 2497 2561 (qp (AB false) rfl (r_nil (w_ret (blockQ_r (thenQ_r (thenQ_r (blockQ_r (thenQ_r (eQ hF)))))))))
   refine qg (AI x3) rfl rfl (qg (AB (decide ((0 : Int) < x3))) rfl rfl (qg (AB (decide ((0 : Int) < x3))) rfl rfl ?_))
   refine q_case 59 hF rfl (fun hF => ?_) (fun hF => ?_)
   ·
    refine qg (.val none (K31 v0)) rfl rfl (qg (.val none (K31 v0)) rfl rfl (qg (K34 v0) rfl rfl (qg (K35 v0) rfl rfl (qg (AI x3) rfl rfl (bk hF fun u19 e19 hF => qg (.val none (.ptr [.int .i64 u19])) rfl (ev_iad_n rfl rfl e19 rfl) (qg (AI u19) rfl rfl (bk hF fun u20 e20 hF => qG (AB u20) [] (con_spec_l00In e20) c56_ (qg (AB (!u20)) rfl rfl (qg (AB (!u20)) rfl rfl (qp (AB (!u20)) rfl (r_nil ?_)))))))))))
    refine cF hF (fun hF => ws 2497 2561 (qp (AB false) rfl (r_nil (w_ret (blockQ_r (thenQ_r (thenQ_r (blockQ_r (thenQ_r (eQ hF)))))))))) fun hF => ?_
    refine w_skip (blockQ_n (thenQ_n (w_reg 2497 2689 rfl rfl (qp (AI x3) rfl (qp (AI (w64 (x3 + 1))) rfl (qp (AI (w64 (x3 + 1))) rfl (r_nil (thenQ_n ?_))))))))
    refine ar (l' := (K32 v0 x3)) (L := []) [0, 3, 4] [] 1 ⟨_, by rfl, hF⟩
   refine qn8 (qn rfl (qg (AB false) rfl rfl (qp (AB false) rfl (r_nil (w_false rfl (w_skip (blockQ_n (thenQ_n (w_reg 2497 2689 rfl rfl ?_)))))))))
   refine qp (AI x3) rfl (qp (AI (w64 (x3 + 1))) rfl (qp (AI (w64 (x3 + 1))) rfl (r_nil (thenQ_n ?_))))
   refine ar (l' := (K32 v0 x3)) (L := []) [0, 3, 4] [] 1 ⟨_, by rfl, hF⟩
  refine qn8 (qp (AB false) rfl (qp (AB false) rfl (qg (AI x3) rfl rfl (qg (AB (decide ((0 : Int) < x3))) rfl rfl (qg (AB (decide ((0 : Int) < x3))) rfl rfl ?_)))))
  refine q_case 59 hF rfl (fun hF => ?_) (fun hF => ?_)
  ·
   refine qg (.val none (K31 v0)) rfl rfl (qg (.val none (K31 v0)) rfl rfl (qg (K34 v0) rfl rfl (qg (K35 v0) rfl rfl (qg (AI x3) rfl rfl (bk hF fun u21 e21 hF => qg (.val none (.ptr [.int .i64 u21])) rfl (ev_iad_n rfl rfl e21 rfl) (qg (AI u21) rfl rfl (bk hF fun u22 e22 hF => qG (AB u22) [] (con_spec_l00In e22) c56_ (qg (AB (!u22)) rfl rfl (qg (AB (!u22)) rfl rfl (qp (AB (!u22)) rfl (r_nil ?_)))))))))))
   refine cF hF (fun hF => ws 2497 2561 (qp (AB false) rfl (r_nil (w_ret (blockQ_r (thenQ_r (thenQ_r (blockQ_r (thenQ_r (eQ hF)))))))))) fun hF => ?_
   refine w_skip (blockQ_n (thenQ_n (w_reg 2497 2689 rfl rfl (qp (AI x3) rfl (qp (AI (w64 (x3 + 1))) rfl (qp (AI (w64 (x3 + 1))) rfl (r_nil (thenQ_n ?_))))))))
   refine ar (l' := (K32 v0 x3)) (L := []) [0, 3, 4] [] 1 ⟨_, by rfl, hF⟩
  refine qn8 (qn rfl (qg (AB false) rfl rfl (qp (AB false) rfl (r_nil (w_false rfl (w_skip (blockQ_n (thenQ_n (w_reg 2497 2689 rfl rfl ?_)))))))))
  refine qp (AI x3) rfl (qp (AI (w64 (x3 + 1))) rfl (qp (AI (w64 (x3 + 1))) rfl (r_nil (thenQ_n ?_))))
  refine ar (l' := (K32 v0 x3)) (L := []) [0, 3, 4] [] 1 ⟨_, by rfl, hF⟩
 exact w_exit (thenQ_e (thenQ_e (blockQ_e (thenQ_n (ws 193 641 (qp (.val none (K31 v0)) rfl (qp (.val none (K31 v0)) rfl (qp (K33 v0) rfl (qp (AL 1 (v0.2.1.map vI)) rfl (bk hF fun u23 e23 hF => qC (AI u23) [] (con_spec_l17Sum e23) c121_ (qp (AB (decide (u23 ≤ (32 : Int)))) rfl (qp (AB (decide (u23 ≤ (32 : Int)))) rfl (rR hF)))))))))))))

def c94 : MC := (sr [pT 4 (.mv (ci 0))] (.seq (sr [mvt 5 0, dT 6 120 [t5], pT 7 (.not t6)] (.cond t7 (sr [pT 4 (.mv (ci 1))] .ret) .skip)) (.seq (sr [mvt 8 1, dT 9 56 [t8, (ci 1), (ci 8)], pT 10 (.not t9)] (.cond t10 (sr [pT 4 (.mv (ci 2))] .ret) .skip)) (sr [pT 4 (.mv (ci 0))] .ret))))
theorem c94_ : IsF Tryz.prog 94 c94 [(.tmp 4)] := ⟨by kernel_rfl, by kernel_rfl⟩

def F_spec_l19Ask (v0 : TTala) (v1 : Int) : Option (Int) :=
 ((F_spec_l17Ok v0).bind fun u0 => (bif (!u0) then some 1
 else ((F_spec_l00In v1 1 8).bind fun u1 => (bif (!u1) then some 2
 else some 0))))
@[simp] def res_spec_l19Ask (r : Int) : RV := .one (.one (.val (.int .i64 r)))
theorem con_spec_l19Ask {v0 : TTala} {v1 : Int} {r : Int} (hF : F_spec_l19Ask v0 v1 = some r) : Con Tryz.prog 94 [.ptr [.str v0.1, .sl 1 (v0.2.1.map vI), .sl 1 (v0.2.2.map vI)], .int .i64 v1] (res_spec_l19Ask r) := by
 unfold F_spec_l19Ask at hF
 refine con_of c94_.1 fun N => ?_
 refine ws 0 64 (qp (AI 0) rfl (r_nil (w_seq (ws 64 256 (qp (.val none (.ptr [.str v0.1, .sl 1 (v0.2.1.map vI), .sl 1 (v0.2.2.map vI)])) rfl (bk hF fun u0 e0 hF => qC (AB u0) [] (con_spec_l17Ok e0) c120_ (qp (AB (!u0)) rfl (r_nil (cF hF (fun hF => ws 256 320 (qp (AI 1) rfl (r_nil (w_ret (thenQ_r (eQ hF)))))) fun hF => ?_)))))))))
 refine w_skip (thenQ_n (w_seq (ws 256 448 (qp (AI v1) rfl (bk hF fun u1 e1 hF => qC (AB u1) [] (con_spec_l00In e1) c56_ (qp (AB (!u1)) rfl (r_nil (cF hF (fun hF => ws 448 512 (qp (AI 2) rfl (r_nil (w_ret (thenQ_r (eQ hF)))))) fun hF => ?_))))))))
 exact w_skip (thenQ_n (ws 448 512 (qp (AI 0) rfl (rR hF))))

def c97 : MC := (sr [pT 2 (.mv (ci 0))] (sr [mvt 3 0, pT 4 (.nck t3), pT 5 (.fad t4 1), lT 6 5, dT 7 121 [t6], mvt 2 7] .ret))
theorem c97_ : IsF Tryz.prog 97 c97 [(.tmp 2)] := ⟨by kernel_rfl, by kernel_rfl⟩

def F_spec_l17Beats (v0 : TTala) : Option (Int) :=
 ((F_spec_l17Sum v0.2.1).bind fun u0 => some u0)
@[simp] abbrev K36 (v0 : TTala) : AV := .val none (.ptr [.str v0.1, .sl 1 (v0.2.1.map vI), .sl 1 (v0.2.2.map vI)])
@[simp] def res_spec_l17Beats (r : Int) : RV := .one (.one (.val (.int .i64 r)))
theorem con_spec_l17Beats {v0 : TTala} {r : Int} (hF : F_spec_l17Beats v0 = some r) : Con Tryz.prog 97 [.ptr [.str v0.1, .sl 1 (v0.2.1.map vI), .sl 1 (v0.2.2.map vI)]] (res_spec_l17Beats r) := by
 unfold F_spec_l17Beats at hF
 refine con_of c97_.1 fun N => ?_
 exact ws 0 64 (qp (AI 0) rfl (r_nil (ws 64 448 (qp (K36 v0) rfl (qp (K36 v0) rfl (qp (.val none (.ptr [.sl 1 (v0.2.1.map vI), .sl 1 (v0.2.2.map vI)])) rfl (qp (AL 1 (v0.2.1.map vI)) rfl (bk hF fun u0 e0 hF => qC (AI u0) [] (con_spec_l17Sum e0) c121_ (qp (AI u0) rfl (rR hF))))))))))

def c70 : MC := (sr [pT 4 (.mv (ci 0))] (sr [mvt 5 0, dT 6 97 [t5], mvt 7 1, bT 8 .mul t6 t7, mvt 4 8] .ret))
theorem c70_ : IsF Tryz.prog 70 c70 [(.tmp 4)] := ⟨by kernel_rfl, by kernel_rfl⟩

def F_spec_l19Units (v0 : TTala) (v1 : Int) : Option (Int) :=
 ((F_spec_l17Beats v0).bind fun u0 => some (w64 (u0 * v1)))
@[simp] def res_spec_l19Units (r : Int) : RV := .one (.one (.val (.int .i64 r)))
theorem con_spec_l19Units {v0 : TTala} {v1 : Int} {r : Int} (hF : F_spec_l19Units v0 v1 = some r) : Con Tryz.prog 70 [.ptr [.str v0.1, .sl 1 (v0.2.1.map vI), .sl 1 (v0.2.2.map vI)], .int .i64 v1] (res_spec_l19Units r) := by
 unfold F_spec_l19Units at hF
 refine con_of c70_.1 fun N => ?_
 exact ws 0 64 (qp (AI 0) rfl (r_nil (ws 64 384 (qp (.val none (.ptr [.str v0.1, .sl 1 (v0.2.1.map vI), .sl 1 (v0.2.2.map vI)])) rfl (bk hF fun u0 e0 hF => qC (AI u0) [] (con_spec_l17Beats e0) c97_ (qp (AI v1) rfl (qp (AI (w64 (u0 * v1))) rfl (qp (AI (w64 (u0 * v1))) rfl (rR hF)))))))))

def c61 : MC := (sr [pT 6 (.mv (ci 0))] (sr [mvt 8 0, mvt 9 1, dT 10 94 [t8, t9], mvt 7 10] (.seq (sr [mvt 11 7, bT 12 .eql t11 (ci 0), mvt 13 12, nT 14 13 t2, nT 15 13 t0, nT 16 13 t1, ⟨(some 17), (some (13, true)), (.call true 70 [t15, t16])⟩, kT 18 13 (.bin .sub t17 (ci 1)), ⟨(some 19), (some (13, true)), (.call true 56 [t14, (ci 0), t18])⟩, kT 20 13 (.not t19), pT 21 (.pick t13 t20 cf)] (.cond t21 (sr [pT 6 (.mv (ci 2))] .ret) .skip)) (sr [mvt 22 7, mvt 6 22] .ret))))
theorem c61_ : IsF Tryz.prog 61 c61 [(.tmp 6)] := ⟨by kernel_rfl, by kernel_rfl⟩

def F_spec_l19Start (v0 : TTala) (v1 : Int) (v2 : Int) : Option (Int) :=
 ((F_spec_l19Ask v0 v1).bind fun u0 => (bif (decide (u0 = (0 : Int))) then ((F_spec_l19Units v0 v1).bind fun u1 => ((F_spec_l00In v2 0 (w64 (u1 - 1))).bind fun u2 => (bif (!u2) then some 2
 else some u0)))
 else some u0))
@[simp] abbrev K37 (v0 : TTala) : AV := .val none (.ptr [.str v0.1, .sl 1 (v0.2.1.map vI), .sl 1 (v0.2.2.map vI)])
@[simp] def res_spec_l19Start (r : Int) : RV := .one (.one (.val (.int .i64 r)))
theorem con_spec_l19Start {v0 : TTala} {v1 : Int} {v2 : Int} {r : Int} (hF : F_spec_l19Start v0 v1 v2 = some r) : Con Tryz.prog 61 [.ptr [.str v0.1, .sl 1 (v0.2.1.map vI), .sl 1 (v0.2.2.map vI)], .int .i64 v1, .int .i64 v2] (res_spec_l19Start r) := by
 unfold F_spec_l19Start at hF
 refine con_of c61_.1 fun N => ?_
 refine ws 0 64 (qp (AI 0) rfl (r_nil (ws 64 320 (qp (K37 v0) rfl (qp (AI v1) rfl (bk hF fun u0 e0 hF => qC (AI u0) [] (con_spec_l19Ask e0) c94_ (qp (AI u0) rfl (r_nil (w_seq (ws 320 1024 (qp (AI u0) rfl (qp (AB (decide (u0 = (0 : Int)))) rfl (qp (AB (decide (u0 = (0 : Int)))) rfl ?_)))))))))))))
 refine q_case 13 hF rfl (fun hF => ?_) (fun hF => ?_)
 ·
  refine qg (AI v2) rfl rfl (qg (K37 v0) rfl rfl (qg (AI v1) rfl rfl (bk hF fun u1 e1 hF => qG (AI u1) [] (con_spec_l19Units e1) c70_ (qg (AI (w64 (u1 - 1))) rfl rfl (bk hF fun u2 e2 hF => qG (AB u2) [] (con_spec_l00In e2) c56_ (qg (AB (!u2)) rfl rfl (qp (AB (!u2)) rfl (r_nil (cF hF (fun hF => ws 1024 1088 (qp (AI 2) rfl (r_nil (w_ret (thenQ_r (eQ hF)))))) fun hF => ?_)))))))))
  exact w_skip (thenQ_n (ws 1024 1152 (qp (AI u0) rfl (qp (AI u0) rfl (rR hF)))))
 exact qn7 (qp (AB false) rfl (r_nil (w_false rfl (w_skip (thenQ_n (ws 1024 1152 (qp (AI u0) rfl (qp (AI u0) rfl (rR hF)))))))))

def c62 : MC := (sr [pT 2 (.mv cf)] (sr [mvt 3 0, dT 4 56 [t3, (ci 1), (ci 64)], mvt 2 4] .ret))
theorem c62_ : IsF Tryz.prog 62 c62 [(.tmp 2)] := ⟨by kernel_rfl, by kernel_rfl⟩

def F_spec_l19Phrase (v0 : Int) : Option (Bool) :=
 ((F_spec_l00In v0 1 64).bind fun u0 => some u0)
@[simp] def res_spec_l19Phrase (r : Bool) : RV := .one (.one (.val (.bool r)))
theorem con_spec_l19Phrase {v0 : Int} {r : Bool} (hF : F_spec_l19Phrase v0 = some r) : Con Tryz.prog 62 [.int .i64 v0] (res_spec_l19Phrase r) := by
 unfold F_spec_l19Phrase at hF
 refine con_of c62_.1 fun N => ?_
 exact ws 0 64 (qp (AB false) rfl (r_nil (ws 64 256 (qp (AI v0) rfl (bk hF fun u0 e0 hF => qC (AB u0) [] (con_spec_l00In e0) c56_ (qp (AB u0) rfl (rR hF)))))))

def c63 : MC := (sr [pT 2 (.mv cf)] (sr [mvt 3 0, dT 4 56 [t3, (ci 0), (ci 32)], mvt 2 4] .ret))
theorem c63_ : IsF Tryz.prog 63 c63 [(.tmp 2)] := ⟨by kernel_rfl, by kernel_rfl⟩

def F_spec_l19Gap (v0 : Int) : Option (Bool) :=
 ((F_spec_l00In v0 0 32).bind fun u0 => some u0)
@[simp] def res_spec_l19Gap (r : Bool) : RV := .one (.one (.val (.bool r)))
theorem con_spec_l19Gap {v0 : Int} {r : Bool} (hF : F_spec_l19Gap v0 = some r) : Con Tryz.prog 63 [.int .i64 v0] (res_spec_l19Gap r) := by
 unfold F_spec_l19Gap at hF
 refine con_of c63_.1 fun N => ?_
 exact ws 0 64 (qp (AB false) rfl (r_nil (ws 64 256 (qp (AI v0) rfl (bk hF fun u0 e0 hF => qC (AB u0) [] (con_spec_l00In e0) c56_ (qp (AB u0) rfl (rR hF)))))))

end Go.Ab
