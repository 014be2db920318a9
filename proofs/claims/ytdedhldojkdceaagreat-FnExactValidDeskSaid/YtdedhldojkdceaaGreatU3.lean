/- Walks (printed by auto.py, a program of this session's own). -/
import Derived.Test.YtdedhldojkdceaaGreatU2
import Derived.Test.YtdedhldojkdceaaGreatProg
import Derived.KernelRfl
import Derived.Test.YtdedhldojkdceaaGreatSQ
set_option linter.unusedVariables false
set_option linter.unusedSimpArgs false
set_option maxRecDepth 8000
set_option maxHeartbeats 8000000
noncomputable section
namespace Go.Ab
open Go.RowKit Go.Proofs

def c71 : MC := (sr [rg 2 (.f (.box t0)), pT 4 (.mv cf)] (sr [pT 5 (.fad t2 1), lT 6 5, mvt 7 1, dT 8 119 [t6, t7], mvt 9 8, kF 10 9 (.fad t2 2), kF 11 9 (.ld t10 1 false), nF 12 9 t1, ⟨(some 13), (some (9, false)), (.call true 119 [t11, t12])⟩, pT 14 (.pick t9 ct t13), mvt 4 14] .ret))
theorem c71_ : IsF Tryz.prog 71 c71 [(.tmp 4)] := ⟨by kernel_rfl, by kernel_rfl⟩

def F_impl_Raga_hasTone (v0 : TRaga) (v1 : Int) : Option (Bool) :=
 ((F_slices_Contains_Sint64_int64 v0.2.1 v1).bind fun u0 => (bif u0 then some true
 else ((F_slices_Contains_Sint64_int64 v0.2.2.1 v1).bind fun u1 => some u1)))
@[simp] abbrev K4b (v0 : TRaga) : List (Nat × Root) := [(0, .box [AS v0.1, AL 1 (v0.2.1.map vI), AL 1 (v0.2.2.1.map vI), AI v0.2.2.2.1, AI v0.2.2.2.2.1, AL 1 (v0.2.2.2.2.2.map (eL 1 vI))])]
@[simp] def res_impl_Raga_hasTone (r : Bool) : RV := .one (.one (.val (.bool r)))
theorem con_impl_Raga_hasTone {v0 : TRaga} {v1 : Int} {r : Bool} (hF : F_impl_Raga_hasTone v0 v1 = some r) : Con Tryz.prog 71 [eRaga v0, .int .i64 v1] (res_impl_Raga_hasTone r) := by
 unfold F_impl_Raga_hasTone at hF
 refine con_of c71_.1 fun N => ?_
 refine ws 0 128 (qf (.ptr 0 0 0) (K4b v0) (by simp) (qp (AB false) rfl (r_nil (ws 128 832 (qp (.ptr 0 0 1) rfl (qp (AL 1 (v0.2.1.map vI)) rfl (qp (AI v1) rfl (bk hF fun u0 e0 hF => qC (AB u0) (K4b v0) (con_slices_Contains_Sint64_int64 e0) c119_ (qp (AB u0) rfl (q_case 9 hF rfl (fun hF => qn4 (qp (AB true) rfl (qp (AB true) rfl (rR hF)))) fun hF => ?_))))))))))
 exact qg (.ptr 0 0 2) rfl rfl (qg (AL 1 (v0.2.2.1.map vI)) rfl rfl (qg (AI v1) rfl rfl (bk hF fun u1 e1 hF => qG (AB u1) (K4b v0) (con_slices_Contains_Sint64_int64 e1) c119_ (qp (AB u1) rfl (qp (AB u1) rfl (rR hF))))))

def c85 : MC := (sr [pT 6 (.mv cf)] (sr [mvt 7 0, mvt 8 1, bT 9 .geq t7 t8, mvt 10 9, nT 11 10 t0, nT 12 10 t2, kT 13 10 (.bin .leq t11 t12), pT 14 (.pick t10 t13 cf), mvt 6 14] .ret))
theorem c85_ : IsF Tryz.prog 85 c85 [(.tmp 6)] := ⟨by kernel_rfl, by kernel_rfl⟩

def F_impl_within (v0 : Int) (v1 : Int) (v2 : Int) : Option (Bool) :=
 (bif (decide (v1 ≤ v0)) then some (decide (v0 ≤ v2))
 else some false)
@[simp] def res_impl_within (r : Bool) : RV := .one (.one (.val (.bool r)))
theorem con_impl_within {v0 : Int} {v1 : Int} {v2 : Int} {r : Bool} (hF : F_impl_within v0 v1 v2 = some r) : Con Tryz.prog 85 [.int .i64 v0, .int .i64 v1, .int .i64 v2] (res_impl_within r) := by
 unfold F_impl_within at hF
 refine con_of c85_.1 fun N => ?_
 refine ws 0 64 (qp (AB false) rfl (r_nil (ws 64 640 (qp (AI v0) rfl (qp (AI v1) rfl (qp (AB (decide (v1 ≤ v0))) rfl (qp (AB (decide (v1 ≤ v0))) rfl (q_case 10 hF rfl (fun hF => qg (AI v0) rfl rfl (qg (AI v2) rfl rfl (qg (AB (decide (v0 ≤ v2))) rfl rfl (qp (AB (decide (v0 ≤ v2))) rfl (qp (AB (decide (v0 ≤ v2))) rfl (rR hF)))))) fun hF => ?_))))))))
 exact qn3 (qp (AB false) rfl (qp (AB false) rfl (rR hF)))

def c72 : MC := (sr [pT 2 (.mv cf)] (sr [mvt 3 0, dT 4 85 [t3, (ci 0), (ci 11)], mvt 2 4] .ret))
theorem c72_ : IsF Tryz.prog 72 c72 [(.tmp 2)] := ⟨by kernel_rfl, by kernel_rfl⟩

def F_impl_toneOk (v0 : Int) : Option (Bool) :=
 ((F_impl_within v0 0 11).bind fun u0 => some u0)
@[simp] def res_impl_toneOk (r : Bool) : RV := .one (.one (.val (.bool r)))
theorem con_impl_toneOk {v0 : Int} {r : Bool} (hF : F_impl_toneOk v0 = some r) : Con Tryz.prog 72 [.int .i64 v0] (res_impl_toneOk r) := by
 unfold F_impl_toneOk at hF
 refine con_of c72_.1 fun N => ?_
 exact ws 0 64 (qp (AB false) rfl (r_nil (ws 64 256 (qp (AI v0) rfl (bk hF fun u0 e0 hF => qC (AB u0) [] (con_impl_within e0) c85_ (qp (AB u0) rfl (rR hF)))))))

def c143 : MC := (sr [pT 2 (.mv cf)] (sr [mvt 3 0, mvt 4 0, bT 5 .neq t3 t4, mvt 2 5] .ret))
theorem c143_ : IsF Tryz.prog 143 c143 [(.tmp 2)] := ⟨by kernel_rfl, by kernel_rfl⟩

def F_cmp_isNaN_int64 (v0 : Int) : Option (Bool) :=
 some (decide (v0 ≠ v0))
@[simp] def res_cmp_isNaN_int64 (r : Bool) : RV := .one (.one (.val (.bool r)))
theorem con_cmp_isNaN_int64 {v0 : Int} {r : Bool} (hF : F_cmp_isNaN_int64 v0 = some r) : Con Tryz.prog 143 [.int .i64 v0] (res_cmp_isNaN_int64 r) := by
 unfold F_cmp_isNaN_int64 at hF
 refine con_of c143_.1 fun N => ?_
 exact ws 0 64 (qp (AB false) rfl (r_nil (ws 64 320 (qp (AI v0) rfl (qp (AI v0) rfl (qp (AB (decide (v0 ≠ v0))) rfl (qp (AB (decide (v0 ≠ v0))) rfl (rR hF))))))))

def c120 : MC := (sr [pT 4 (.mv (ci 0))] (sr [mvt 7 0, dT 8 143 [t7], mvt 5 8] (sr [mvt 9 1, dT 10 143 [t9], mvt 6 10] (.seq (sr [mvt 11 5] (.cond t11 (.seq (sr [mvt 12 6] (.cond t12 (sr [pT 4 (.mv (ci 0))] .ret) .skip)) (sr [pT 4 (.mv (ci (-1)))] .ret)) .skip)) (.seq (sr [mvt 13 6] (.cond t13 (sr [pT 4 (.mv (ci 1))] .ret) .skip)) (.seq (sr [mvt 14 0, mvt 15 1, bT 16 .lss t14 t15] (.cond t16 (sr [pT 4 (.mv (ci (-1)))] .ret) .skip)) (.seq (sr [mvt 17 0, mvt 18 1, bT 19 .gtr t17 t18] (.cond t19 (sr [pT 4 (.mv (ci 1))] .ret) .skip)) (sr [pT 4 (.mv (ci 0))] .ret))))))))
theorem c120_ : IsF Tryz.prog 120 c120 [(.tmp 4)] := ⟨by kernel_rfl, by kernel_rfl⟩

def F_cmp_Compare_int64 (v0 : Int) (v1 : Int) : Option (Int) :=
 ((F_cmp_isNaN_int64 v0).bind fun u0 => ((F_cmp_isNaN_int64 v1).bind fun u1 => (bif u0 then (bif u1 then some 0
 else some (-1))
 else (bif u1 then some 1
 else (bif (decide (v0 < v1)) then some (-1)
 else (bif (decide (v1 < v0)) then some 1
 else some 0))))))
@[simp] def res_cmp_Compare_int64 (r : Int) : RV := .one (.one (.val (.int .i64 r)))
theorem con_cmp_Compare_int64 {v0 : Int} {v1 : Int} {r : Int} (hF : F_cmp_Compare_int64 v0 v1 = some r) : Con Tryz.prog 120 [.int .i64 v0, .int .i64 v1] (res_cmp_Compare_int64 r) := by
 unfold F_cmp_Compare_int64 at hF
 refine con_of c120_.1 fun N => ?_
 refine ws 0 64 (qp (AI 0) rfl (r_nil (ws 64 256 (qp (AI v0) rfl (bk hF fun u0 e0 hF => qC (AB u0) [] (con_cmp_isNaN_int64 e0) c143_ (qp (AB u0) rfl (r_nil (ws 256 448 (qp (AI v1) rfl (bk hF fun u1 e1 hF => qC (AB u1) [] (con_cmp_isNaN_int64 e1) c143_ (qp (AB u1) rfl (r_nil (w_seq (ws 448 512 (qp (AB u0) rfl ?_)))))))))))))))
 refine r_nil ?_
 refine cF hF (fun hF => ?_) fun hF => ?_
 ·
  refine w_seq (ws 512 576 (qp (AB u1) rfl (r_nil (cF hF (fun hF => ws 576 640 (qp (AI 0) rfl (r_nil (w_ret (thenQ_r (thenQ_r (eQ hF))))))) fun hF => ?_))))
  exact w_skip (thenQ_n (ws 576 640 (qp (AI (-1)) rfl (r_nil (w_ret (thenQ_r (eQ hF)))))))
 refine w_skip (thenQ_n (w_seq (ws 512 576 (qp (AB u1) rfl (r_nil (cF hF (fun hF => ws 576 640 (qp (AI 1) rfl (r_nil (w_ret (thenQ_r (eQ hF)))))) fun hF => ?_))))))
 refine w_skip (thenQ_n (w_seq (ws 576 768 (qp (AI v0) rfl (qp (AI v1) rfl (qp (AB (decide (v0 < v1))) rfl (r_nil (cF hF (fun hF => ws 768 832 (qp (AI (-1)) rfl (r_nil (w_ret (thenQ_r (eQ hF)))))) fun hF => ?_))))))))
 refine w_skip (thenQ_n (w_seq (ws 768 960 (qp (AI v0) rfl (qp (AI v1) rfl (qp (AB (decide (v1 < v0))) rfl (r_nil (cF hF (fun hF => ws 960 1024 (qp (AI 1) rfl (r_nil (w_ret (thenQ_r (eQ hF)))))) fun hF => ?_))))))))
 exact w_skip (thenQ_n (ws 960 1024 (qp (AI 0) rfl (rR hF))))

def c73 : MC := (sr [pT 4 (.mv (ci 0))] (.seq (sr [mvt 9 0, zT 10 9, pT 11 (.mv (ci 0))] (.block 0 (.loop (sr [bT 12 .lss t11 t10] (.seq (cx t12 0) (.seq (.block 1 (sr [mvt 13 11, iT 14 9 11 1, lT 15 14, mvt 5 13, mvt 6 15] (.seq (sr [mvt 16 5, mvt 17 1, zT 18 17, bT 19 .geq t16 t18] (.cond t19 (sr [pT 4 (.mv (ci 1))] .ret) .skip)) (sr [mvt 20 1, mvt 21 5, iT 22 20 21 1, lT 23 22, mvt 7 23] (sr [mvt 24 6, mvt 25 7, dT 26 120 [t24, t25], mvt 8 26] (sr [mvt 27 8, bT 28 .neq t27 (ci 0)] (.cond t28 (sr [mvt 29 8, mvt 4 29] .ret) .skip))))))) (.reg [bT 30 .add t11 (ci 1), mvt 11 30]))))))) (.seq (sr [mvt 31 0, zT 32 31, mvt 33 1, zT 34 33, bT 35 .lss t32 t34] (.cond t35 (sr [pT 4 (.mv (ci (-1)))] .ret) .skip)) (sr [pT 4 (.mv (ci 0))] .ret))))
theorem c73_ : IsF Tryz.prog 73 c73 [(.tmp 4)] := ⟨by kernel_rfl, by kernel_rfl⟩

def F_slices_Compare_Sint64_int64_l0 (v0 : List Int) (v1 : List Int) (k0 : Int → Option (Int)) : Int → Option (Int)
 | x1 => (bif (decide (x1 < (v0.length : Int))) then ((ix v0 x1).bind fun u0 => (bif (decide ((v1.length : Int) ≤ x1)) then some 1
 else ((ix v1 x1).bind fun u1 => ((F_cmp_Compare_int64 u0 u1).bind fun u2 => (bif (decide (u2 ≠ (0 : Int))) then some u2
 else k0 (w64 (x1 + 1)))))))
 else (bif (decide ((v0.length : Int) < (v1.length : Int))) then some (-1)
 else some 0))
def F_slices_Compare_Sint64_int64 (v0 : List Int) (v1 : List Int) : Option (Int) :=
 loop (F_slices_Compare_Sint64_int64_l0 v0 v1) 0
@[simp] abbrev K4c (v0 : List Int) : V := .sl 1 (v0.map vI)
@[simp] abbrev K4d (v1 : List Int) : V := .sl 1 (v1.map vI)
@[simp] def res_slices_Compare_Sint64_int64 (r : Int) : RV := .one (.one (.val (.int .i64 r)))
theorem con_slices_Compare_Sint64_int64 {v0 : List Int} {v1 : List Int} {r : Int} (hF : F_slices_Compare_Sint64_int64 v0 v1 = some r) : Con Tryz.prog 73 [.sl 1 (v0.map vI), .sl 1 (v1.map vI)] (res_slices_Compare_Sint64_int64 r) := by
 unfold F_slices_Compare_Sint64_int64 at hF
 refine con_of c73_.1 fun N => ?_
 refine ws 0 64 (qp (AI 0) rfl (r_nil (w_seq (ws 64 256 (qp (.val none (K4c v0)) rfl (qp (AI (v0.length : Int)) (ev_len_n rfl) (qp (AI 0) rfl (r_nil (w_block ?_)))))))))
 refine wr (l' := [(0, .val none (K4c v0)), (1, .val none (K4d v1)), (9, .val none (K4c v0)), (10, AI (v0.length : Int)), (11, AI 0)]) (L := []) [0, 1, 9, 10, 11] [] 1 ?_
 refine w_loopF (F_slices_Compare_Sint64_int64_l0 v0 v1) (fun s : Int => mkS [(0, .val none (K4c v0)), (1, .val none (K4d v1)), (9, .val none (K4c v0)), (10, AI (v0.length : Int)), (11, AI s)] (fo []) 1) hF ?_
 rintro k0 x1 hF
 rw [F_slices_Compare_Sint64_int64_l0] at hF
 try dsimp only
 refine ws 1 65 (qp (AB (decide (x1 < (v0.length : Int)))) rfl (r_nil (w_seq ?_)))
 refine cF hF (fun hF => ?_) fun hF => ?_
 ·
  refine w_skip (thenQ_n (w_seq (w_block (ws 65 385 (qp (AI x1) rfl (bk hF fun u0 e0 hF => qp (.val none (.ptr [.int .i64 u0])) (ev_iad_n rfl rfl e0 rfl) (qp (AI u0) rfl (qp (AI x1) rfl (qp (AI u0) rfl (r_nil (w_seq (ws 385 641 ?_))))))))))))
  refine qp (AI x1) rfl (qp (.val none (K4d v1)) rfl (qp (AI (v1.length : Int)) (ev_len_n rfl) (qp (AB (decide ((v1.length : Int) ≤ x1))) rfl (r_nil (cF hF (fun hF => ws 641 705 (qp (AI 1) rfl (r_nil (w_ret (thenQ_r (blockQ_r (thenQ_r (thenQ_r (blockQ_r (thenQ_r (eQ hF))))))))))) fun hF => ?_)))))
  refine w_skip (thenQ_n (ws 641 961 (qp (.val none (K4d v1)) rfl (qp (AI x1) rfl (bk hF fun u1 e1 hF => qp (.val none (.ptr [.int .i64 u1])) (ev_iad_n rfl rfl e1 rfl) (qp (AI u1) rfl (qp (AI u1) rfl (r_nil (ws 961 1217 (qp (AI u0) rfl (qp (AI u1) rfl (bk hF fun u2 e2 hF => qC (AI u2) [] (con_cmp_Compare_int64 e2) c120_ (qp (AI u2) rfl (r_nil (ws 1217 1345 ?_)))))))))))))))
  refine qp (AI u2) rfl (qp (AB (decide (u2 ≠ (0 : Int)))) rfl (r_nil (cF hF (fun hF => ws 1345 1473 (qp (AI u2) rfl (qp (AI u2) rfl (r_nil (w_ret (blockQ_r (thenQ_r (thenQ_r (blockQ_r (thenQ_r (eQ hF))))))))))) fun hF => ?_)))
  refine w_skip (blockQ_n (thenQ_n (w_reg 1345 1473 rfl rfl (qp (AI (w64 (x1 + 1))) rfl (qp (AI (w64 (x1 + 1))) rfl (r_nil (thenQ_n ?_)))))))
  refine ar (l' := [(0, .val none (K4c v0)), (1, .val none (K4d v1)), (9, .val none (K4c v0)), (10, AI (v0.length : Int)), (11, AI (w64 (x1 + 1)))]) (L := []) [0, 1, 9, 10, 11] [] 1 ⟨_, by rfl, hF⟩
 refine w_exit (thenQ_e (thenQ_e (blockQ_e (thenQ_n (w_seq (ws 65 385 (qp (.val none (K4c v0)) rfl (qp (AI (v0.length : Int)) (ev_len_n rfl) (qp (.val none (K4d v1)) rfl (qp (AI (v1.length : Int)) (ev_len_n rfl) (qp (AB (decide ((v0.length : Int) < (v1.length : Int)))) rfl (r_nil ?_))))))))))))
 refine cF hF (fun hF => ws 385 449 (qp (AI (-1)) rfl (r_nil (w_ret (thenQ_r (eQ hF)))))) fun hF => ?_
 exact w_skip (thenQ_n (ws 385 449 (qp (AI 0) rfl (rR hF))))

def c28 : MC := (sr [rg 1 (.f (.box t0)), pT 2 (.mv cf)] (.seq (sr [pT 5 (.fad t1 0), lT 6 5, dT 7 69 [t6], pT 8 (.not t7), mvt 9 8, kF 10 9 (.fad t1 1), kF 11 9 (.ld t10 1 false), ⟨(some 12), (some (9, false)), (.call true 70 [t11])⟩, kF 13 9 (.not t12), pT 14 (.pick t9 ct t13), mvt 15 14, kF 16 15 (.fad t1 2), kF 17 15 (.ld t16 1 false), ⟨(some 18), (some (15, false)), (.call true 70 [t17])⟩, kF 19 15 (.not t18), pT 20 (.pick t15 ct t19), mvt 21 20, kF 22 21 (.fad t1 3), kF 23 21 (.ld t22 1 false), kF 24 21 (.fad t1 4), kF 25 21 (.ld t24 1 false), kF 26 21 (.bin .eql t23 t25), pT 27 (.pick t21 ct t26), mvt 28 27, kF 29 28 (.ld t1 6 true), kF 30 28 (.fad t1 3), kF 31 28 (.ld t30 1 false), ⟨(some 32), (some (28, false)), (.call true 71 [t29, t31])⟩, kF 33 28 (.not t32), pT 34 (.pick t28 ct t33), mvt 35 34, kF 36 35 (.ld t1 6 true), kF 37 35 (.fad t1 4), kF 38 35 (.ld t37 1 false), ⟨(some 39), (some (35, false)), (.call true 71 [t36, t38])⟩, kF 40 35 (.not t39), pT 41 (.pick t35 ct t40), mvt 42 41, kF 43 42 (.fad t1 5), kF 44 42 (.ld t43 1 false), kF 45 42 (.len t44), kF 46 42 (.bin .gtr t45 (ci 8)), pT 47 (.pick t42 ct t46)] (.cond t47 (sr [pT 2 (.mv cf)] .ret) .skip)) (.seq (sr [pT 48 (.fad t1 5), lT 49 48, zT 50 49, pT 51 (.mv (ci 0))] (.block 0 (.loop (sr [bT 52 .lss t51 t50] (.seq (cx t52 0) (.seq (.block 1 (sr [mvt 53 51, iT 54 49 51 1, lT 55 54, mvt 3 53, mvt 4 55] (sr [mP 56 t4, zF 57 56, bF 58 .neq t57 (ci 2), mP 59 t58, mF 60 59 t4, jH 61 59 60 0 1, lH 62 59 61, ⟨(some 63), (some (59, false)), (.call false 72 [t62])⟩, gF 64 59 (.not t63), pF 65 (.pick t59 ct t64), mP 66 t65, mF 67 66 t4, jH 68 66 67 1 1, lH 69 66 68, ⟨(some 70), (some (66, false)), (.call false 72 [t69])⟩, gF 71 66 (.not t70), pF 72 (.pick t66 ct t71), mP 73 t72, mF 74 73 t4, jH 75 73 74 0 1, lH 76 73 75, mF 77 73 t4, jH 78 73 77 1 1, lH 79 73 78, bH 80 73 .eql t76 t79, pF 81 (.pick t73 ct t80), mP 82 t81, mF 83 82 t3, bH 84 82 .gtr t83 (ci 0), mF 85 82 t84, gT 86 85 (.fad t1 5), lG 87 85 86, mT 88 85 t3, bG 89 85 .sub t88 (ci 1), iG 90 85 87 89 1, lG 91 85 90, mT 92 85 t4, ⟨(some 93), (some (85, true)), (.call false 73 [t91, t92])⟩, bG 94 85 .geq t93 (ci 0), gF 95 82 (.pick t85 t94 cf), pF 96 (.pick t82 ct t95)] (.cond t96 (sr [pT 2 (.mv cf)] .ret) .skip)))) (.reg [bT 97 .add t51 (ci 1), mvt 51 97]))))))) (sr [pT 2 (.mv ct)] .ret))))
theorem c28_ : IsF Tryz.prog 28 c28 [(.tmp 2)] := ⟨by kernel_rfl, by kernel_rfl⟩

def F_impl_ValidRaga_l0 (v0 : TRaga) (k1 : Int → Option (Bool)) : Int → Option (Bool)
 | x3 => (bif (decide (x3 < (v0.2.2.2.2.2.length : Int))) then ((ix v0.2.2.2.2.2 x3).bind fun u23 => (bif (decide ((u23.length : Int) ≠ (2 : Int))) then some false
 else ((ix u23 0).bind fun u24 => ((F_impl_toneOk u24).bind fun u25 => (bif (!u25) then some false
 else ((ix u23 1).bind fun u26 => ((F_impl_toneOk u26).bind fun u27 => (bif (!u27) then some false
 else ((ix u23 0).bind fun u28 => ((ix u23 1).bind fun u29 => (bif (decide (u28 = u29)) then some false
 else (bif (decide ((0 : Int) < x3)) then ((ix v0.2.2.2.2.2 (w64 (x3 - 1))).bind fun u30 => ((F_slices_Compare_Sint64_int64 u30 u23).bind fun u31 => (bif (decide ((0 : Int) ≤ u31)) then some false
 else k1 (w64 (x3 + 1)))))
 else k1 (w64 (x3 + 1))))))))))))))
 else some true)
def F_impl_ValidRaga (v0 : TRaga) : Option (Bool) :=
 ((F_impl_IsName v0.1).bind fun u0 => (bif (!u0) then some false
 else ((F_impl_ValidScale v0.2.1).bind fun u1 => (bif (!u1) then some false
 else ((F_impl_ValidScale v0.2.2.1).bind fun u2 => (bif (!u2) then some false
 else (bif (decide (v0.2.2.2.1 = v0.2.2.2.2.1)) then some false
 else ((F_impl_Raga_hasTone v0 v0.2.2.2.1).bind fun u3 => (bif (!u3) then some false
 else ((F_impl_Raga_hasTone v0 v0.2.2.2.2.1).bind fun u4 => (bif (!u4) then some false
 else (bif (decide ((8 : Int) < (v0.2.2.2.2.2.length : Int))) then some false
 else loop (F_impl_ValidRaga_l0 v0) 0))))))))))))
@[simp] abbrev K4g (v0 : TRaga) : V := .sl 1 (v0.2.2.2.2.2.map (eL 1 vI))
@[simp] abbrev K4f (v0 : TRaga) : List AV := [AS v0.1, AL 1 (v0.2.1.map vI), AL 1 (v0.2.2.1.map vI), AI v0.2.2.2.1, AI v0.2.2.2.2.1, .val none (K4g v0)]
@[simp] abbrev K4e (v0 : TRaga) : List (Nat × Root) := [(0, .box (K4f v0))]
@[simp] abbrev K4h (u23 : List Int) : AV := AL 1 (u23.map vI)
@[simp] def res_impl_ValidRaga (r : Bool) : RV := .one (.one (.val (.bool r)))
theorem con_impl_ValidRaga {v0 : TRaga} {r : Bool} (hF : F_impl_ValidRaga v0 = some r) : Con Tryz.prog 28 [eRaga v0] (res_impl_ValidRaga r) := by
 unfold F_impl_ValidRaga at hF
 refine con_of c28_.1 fun N => ?_
 refine ws 0 128 (qf (.ptr 0 0 0) (K4e v0) (by simp) (qp (AB false) rfl (r_nil (w_seq (ws 128 2880 (qp (.ptr 0 0 0) rfl (qp (AS v0.1) rfl (bk hF fun u0 e0 hF => qC (AB u0) (K4e v0) (con_impl_IsName e0) c69_ (qp (AB (!u0)) rfl (qp (AB (!u0)) rfl ?_))))))))))
 refine q_case 9 hF rfl (fun hF => ?_) (fun hF => ?_)
 ·
  refine qn4 (qp (AB true) rfl (qp (AB true) rfl (qn2 (qn2 (qp (AB true) rfl (qp (AB true) rfl (qn4 ?_)))))))
  refine qn rfl (qp (AB true) rfl (qp (AB true) rfl (qn rfl (qn rfl (qn rfl (qn rfl (qn rfl (qp (AB true) rfl (qp (AB true) rfl (qn5 (qp (AB true) rfl ?_)))))))))))
  exact qp (AB true) rfl (qn4 (qp (AB true) rfl (r_nil (w_true rfl (ws 2880 2944 (qp (AB false) rfl (r_nil (w_ret (thenQ_r (eQ hF))))))))))
 refine qg (.ptr 0 0 1) rfl rfl (qg (AL 1 (v0.2.1.map vI)) rfl rfl (bk hF fun u1 e1 hF => qG (AB u1) (K4e v0) (con_impl_ValidScale e1) c70_ (qg (AB (!u1)) rfl rfl (qp (AB (!u1)) rfl (qp (AB (!u1)) rfl ?_)))))
 refine q_case 15 hF rfl (fun hF => ?_) (fun hF => ?_)
 ·
  refine qn4 (qp (AB true) rfl (qp (AB true) rfl (qn2 (qn3 (qp (AB true) rfl (qp (AB true) rfl (qn3 (qn2 (qp (AB true) rfl (qp (AB true) rfl (qn4 ?_)))))))))))
  refine qn rfl (qp (AB true) rfl (qp (AB true) rfl (qn rfl (qn rfl (qn rfl (qn rfl (qp (AB true) rfl (r_nil (w_true rfl (ws 2880 2944 (qp (AB false) rfl (r_nil (w_ret ?_)))))))))))))
  exact thenQ_r (eQ hF)
 refine qg (.ptr 0 0 2) rfl rfl (qg (AL 1 (v0.2.2.1.map vI)) rfl rfl (bk hF fun u2 e2 hF => qG (AB u2) (K4e v0) (con_impl_ValidScale e2) c70_ (qg (AB (!u2)) rfl rfl (qp (AB (!u2)) rfl (qp (AB (!u2)) rfl ?_)))))
 refine q_case 21 hF rfl (fun hF => ?_) (fun hF => ?_)
 ·
  refine qn5 (qp (AB true) rfl (qp (AB true) rfl (qn rfl (qn4 (qp (AB true) rfl (qp (AB true) rfl (qn2 (qn3 (qp (AB true) rfl (qp (AB true) rfl (qn3 (qn rfl (qp (AB true) rfl ?_)))))))))))))
  exact r_nil (w_true rfl (ws 2880 2944 (qp (AB false) rfl (r_nil (w_ret (thenQ_r (eQ hF)))))))
 refine qg (.ptr 0 0 3) rfl rfl (qg (AI v0.2.2.2.1) rfl rfl (qg (.ptr 0 0 4) rfl rfl (qg (AI v0.2.2.2.2.1) rfl rfl (qg (AB (decide (v0.2.2.2.1 = v0.2.2.2.2.1))) rfl rfl (qp (AB (decide (v0.2.2.2.1 = v0.2.2.2.2.1))) rfl (qp (AB (decide (v0.2.2.2.1 = v0.2.2.2.2.1))) rfl ?_))))))
 refine q_case 28 hF rfl (fun hF => ?_) (fun hF => ?_)
 ·
  refine qn5 (qp (AB true) rfl (qp (AB true) rfl (qn rfl (qn4 (qp (AB true) rfl (qp (AB true) rfl (qn2 (qn2 (qp (AB true) rfl (r_nil (w_true rfl (ws 2880 2944 (qp (AB false) rfl ?_)))))))))))))
  exact r_nil (w_ret (thenQ_r (eQ hF)))
 refine qg (.agg (K4f v0)) rfl rfl (qg (.ptr 0 0 3) rfl rfl (qg (AI v0.2.2.2.1) rfl rfl (bk hF fun u3 e3 hF => qG (AB u3) (K4e v0) (con_impl_Raga_hasTone e3) c71_ (qg (AB (!u3)) rfl rfl (qp (AB (!u3)) rfl (qp (AB (!u3)) rfl ?_))))))
 refine q_case 35 hF rfl (fun hF => qn5 (qp (AB true) rfl (qp (AB true) rfl (qn rfl (qn3 (qp (AB true) rfl (r_nil (w_true rfl (ws 2880 2944 (qp (AB false) rfl (r_nil (w_ret (thenQ_r (eQ hF)))))))))))))) fun hF => ?_
 refine qg (.agg (K4f v0)) rfl rfl (qg (.ptr 0 0 4) rfl rfl (qg (AI v0.2.2.2.2.1) rfl rfl (bk hF fun u4 e4 hF => qG (AB u4) (K4e v0) (con_impl_Raga_hasTone e4) c71_ (qg (AB (!u4)) rfl rfl (qp (AB (!u4)) rfl (qp (AB (!u4)) rfl ?_))))))
 refine q_case 42 hF rfl (fun hF => qn4 (qp (AB true) rfl (r_nil (w_true rfl (ws 2880 2944 (qp (AB false) rfl (r_nil (w_ret (thenQ_r (eQ hF)))))))))) fun hF => ?_
 refine qg (.ptr 0 0 5) rfl rfl (qg (.val none (K4g v0)) rfl rfl (qg (AI (v0.2.2.2.2.2.length : Int)) rfl (ev_len_n rfl) (qg (AB (decide ((8 : Int) < (v0.2.2.2.2.2.length : Int)))) rfl rfl (qp (AB (decide ((8 : Int) < (v0.2.2.2.2.2.length : Int)))) rfl (r_nil (cF hF (fun hF => ws 2880 2944 (qp (AB false) rfl (r_nil (w_ret (thenQ_r (eQ hF)))))) fun hF => ?_))))))
 refine w_skip (thenQ_n (w_seq (ws 2880 3136 (qp (.ptr 0 0 5) rfl (qp (.val none (K4g v0)) rfl (qp (AI (v0.2.2.2.2.2.length : Int)) (ev_len_n rfl) (qp (AI 0) rfl (r_nil (w_block ?_)))))))))
 refine w_ren (l' := [(1, .ptr 0 0 0), (49, .val none (K4g v0)), (50, AI (v0.2.2.2.2.2.length : Int)), (51, AI 0)]) (L := (K4e v0)) [1, 49, 50, 51] [(0, 0)] 1 (by first | rfl | simp) (by first | rfl | simp) (by decide) (by decide) (by decide) ?_
 refine w_loopF (F_impl_ValidRaga_l0 v0) (fun s : Int => mkS [(1, .ptr 0 0 0), (49, .val none (K4g v0)), (50, AI (v0.2.2.2.2.2.length : Int)), (51, AI s)] (fo (K4e v0)) 1) hF ?_
 rintro k1 x3 hF
 rw [F_impl_ValidRaga_l0] at hF
 try dsimp only
 refine ws 1 65 (qp (AB (decide (x3 < (v0.2.2.2.2.2.length : Int)))) rfl (r_nil (w_seq ?_)))
 refine cF hF (fun hF => ?_) fun hF => ?_
 ·
  refine w_skip (thenQ_n (w_seq (w_block (ws 65 385 (qp (AI x3) rfl (bk hF fun u23 e23 hF => qp (.val none (.ptr [.sl 1 (u23.map vI)])) (ev_iad_n rfl rfl e23 rfl) (qp (K4h u23) rfl (qp (AI x3) rfl (qp (K4h u23) rfl (r_nil (ws 385 3009 ?_)))))))))))
  refine qp (K4h u23) rfl (qp (AI (u23.length : Int)) (ev_len_n rfl) (qp (AB (decide ((u23.length : Int) ≠ (2 : Int)))) rfl (qp (AB (decide ((u23.length : Int) ≠ (2 : Int)))) rfl ?_)))
  refine q_case 59 hF rfl (fun hF => ?_) (fun hF => ?_)
  ·
   refine qn5 (qp (AB true) rfl (qp (AB true) rfl (qn rfl (qn4 (qp (AB true) rfl (qp (AB true) rfl (qn2 (qn5 (qp (AB true) rfl (qp (AB true) rfl (qn rfl ?_)))))))))))
   refine qn2 (qu rfl (qu rfl (qu rfl (qu rfl (qu rfl (qu rfl (qu rfl (qu rfl (qu rfl (qn rfl (qp (AB true) rfl (r_nil (w_true rfl ?_)))))))))))))
   exact ws 3009 3073 (qp (AB false) rfl (r_nil (w_ret (blockQ_r (thenQ_r (thenQ_r (blockQ_r (thenQ_r (eQ hF)))))))))
  refine qg (K4h u23) rfl rfl (bk hF fun u24 e24 hF => qg (.val none (.ptr [.int .i64 u24])) rfl (ev_iad_n rfl rfl e24 rfl) (qg (AI u24) rfl rfl (bk hF fun u25 e25 hF => qG (AB u25) (K4e v0) (con_impl_toneOk e25) c72_ (qg (AB (!u25)) rfl rfl (qp (AB (!u25)) rfl (qp (AB (!u25)) rfl ?_))))))
  refine q_case 66 hF rfl (fun hF => ?_) (fun hF => ?_)
  ·
   refine qn5 (qp (AB true) rfl (qp (AB true) rfl (qn rfl (qn6 (qp (AB true) rfl (qp (AB true) rfl (qn3 (qu rfl (qu rfl (qu rfl (qu rfl (qu rfl ?_))))))))))))
   refine qu rfl (qu rfl (qu rfl (qu rfl (qn rfl (qp (AB true) rfl (r_nil (w_true rfl (ws 3009 3073 (qp (AB false) rfl (r_nil (w_ret (blockQ_r (thenQ_r ?_)))))))))))))
   exact thenQ_r (blockQ_r (thenQ_r (eQ hF)))
  refine qg (K4h u23) rfl rfl (bk hF fun u26 e26 hF => qg (.val none (.ptr [.int .i64 u26])) rfl (ev_iad_n rfl rfl e26 rfl) (qg (AI u26) rfl rfl (bk hF fun u27 e27 hF => qG (AB u27) (K4e v0) (con_impl_toneOk e27) c72_ (qg (AB (!u27)) rfl rfl (qp (AB (!u27)) rfl (qp (AB (!u27)) rfl ?_))))))
  refine q_case 73 hF rfl (fun hF => ?_) (fun hF => ?_)
  ·
   refine qn7 (qp (AB true) rfl (qp (AB true) rfl (qn3 (qu rfl (qu rfl (qu rfl (qu rfl ?_)))))))
   refine qu rfl (qu rfl (qu rfl (qu rfl (qu rfl (qn rfl (qp (AB true) rfl (r_nil (w_true rfl (ws 3009 3073 (qp (AB false) rfl (r_nil (w_ret (blockQ_r ?_)))))))))))))
   exact thenQ_r (thenQ_r (blockQ_r (thenQ_r (eQ hF))))
  refine qg (K4h u23) rfl rfl (bk hF fun u28 e28 hF => qg (.val none (.ptr [.int .i64 u28])) rfl (ev_iad_n rfl rfl e28 rfl) (qg (AI u28) rfl rfl (qg (K4h u23) rfl rfl (bk hF fun u29 e29 hF => qg (.val none (.ptr [.int .i64 u29])) rfl (ev_iad_n rfl rfl e29 rfl) (qg (AI u29) rfl rfl (qg (AB (decide (u28 = u29))) rfl rfl (qp (AB (decide (u28 = u29))) rfl (qp (AB (decide (u28 = u29))) rfl ?_))))))))
  refine q_case 82 hF rfl (fun hF => ?_) (fun hF => ?_)
  ·
   refine qn3 (qu rfl (qu rfl (qu rfl (qu rfl (qu rfl (qu rfl (qu rfl (qu rfl (qu rfl (qn rfl (qp (AB true) rfl (r_nil (w_true rfl ?_)))))))))))))
   exact ws 3009 3073 (qp (AB false) rfl (r_nil (w_ret (blockQ_r (thenQ_r (thenQ_r (blockQ_r (thenQ_r (eQ hF)))))))))
  refine qg (AI x3) rfl rfl (qg (AB (decide ((0 : Int) < x3))) rfl rfl (qg (AB (decide ((0 : Int) < x3))) rfl rfl ?_))
  refine q_case 85 hF rfl (fun hF => ?_) (fun hF => ?_)
  ·
   refine qg (.ptr 0 0 5) rfl rfl (qg (.val none (K4g v0)) rfl rfl (qg (AI x3) rfl rfl (qg (AI (w64 (x3 - 1))) rfl rfl (bk hF fun u30 e30 hF => qg (.val none (.ptr [.sl 1 (u30.map vI)])) rfl (ev_iad_n rfl rfl e30 rfl) (qg (AL 1 (u30.map vI)) rfl rfl (qg (K4h u23) rfl rfl (bk hF fun u31 e31 hF => qG (AI u31) (K4e v0) (con_slices_Compare_Sint64_int64 e31) c73_ (qg (AB (decide ((0 : Int) ≤ u31))) rfl rfl (qg (AB (decide ((0 : Int) ≤ u31))) rfl rfl (qp (AB (decide ((0 : Int) ≤ u31))) rfl (r_nil ?_)))))))))))
   refine cF hF (fun hF => ws 3009 3073 (qp (AB false) rfl (r_nil (w_ret (blockQ_r (thenQ_r (thenQ_r (blockQ_r (thenQ_r (eQ hF)))))))))) fun hF => ?_
   refine w_skip (blockQ_n (thenQ_n (w_reg 3009 3137 rfl rfl (qp (AI (w64 (x3 + 1))) rfl (qp (AI (w64 (x3 + 1))) rfl (r_nil (thenQ_n ?_)))))))
   refine ar (l' := [(1, .ptr 0 0 0), (49, .val none (K4g v0)), (50, AI (v0.2.2.2.2.2.length : Int)), (51, AI (w64 (x3 + 1)))]) (L := (K4e v0)) [1, 49, 50, 51] [(0, 0)] 1 ⟨_, by rfl, hF⟩
  refine qn8 (qn rfl (qg (AB false) rfl rfl (qp (AB false) rfl (r_nil (w_false rfl (w_skip (blockQ_n (thenQ_n (w_reg 3009 3137 rfl rfl (qp (AI (w64 (x3 + 1))) rfl (qp (AI (w64 (x3 + 1))) rfl ?_)))))))))))
  refine r_nil (thenQ_n ?_)
  refine ar (l' := [(1, .ptr 0 0 0), (49, .val none (K4g v0)), (50, AI (v0.2.2.2.2.2.length : Int)), (51, AI (w64 (x3 + 1)))]) (L := (K4e v0)) [1, 49, 50, 51] [(0, 0)] 1 ⟨_, by rfl, hF⟩
 exact w_exit (thenQ_e (thenQ_e (blockQ_e (thenQ_n (ws 65 129 (qp (AB true) rfl (rR hF)))))))

def c74 : MC := (sr [pT 2 (.mv cf)] (sr [mvt 3 0, dT 4 85 [t3, (ci (-12)), (ci 23)], mvt 2 4] .ret))
theorem c74_ : IsF Tryz.prog 74 c74 [(.tmp 2)] := ⟨by kernel_rfl, by kernel_rfl⟩

def F_impl_pitchOk (v0 : Int) : Option (Bool) :=
 ((F_impl_within v0 (-12) 23).bind fun u0 => some u0)
@[simp] def res_impl_pitchOk (r : Bool) : RV := .one (.one (.val (.bool r)))
theorem con_impl_pitchOk {v0 : Int} {r : Bool} (hF : F_impl_pitchOk v0 = some r) : Con Tryz.prog 74 [.int .i64 v0] (res_impl_pitchOk r) := by
 unfold F_impl_pitchOk at hF
 refine con_of c74_.1 fun N => ?_
 exact ws 0 64 (qp (AB false) rfl (r_nil (ws 64 256 (qp (AI v0) rfl (bk hF fun u0 e0 hF => qC (AB u0) [] (con_impl_within e0) c85_ (qp (AB u0) rfl (rR hF)))))))

def c75 : MC := (sr [pT 2 (.mv cf)] (sr [mvt 3 0, dT 4 85 [t3, (ci 1), (ci 64)], mvt 2 4] .ret))
theorem c75_ : IsF Tryz.prog 75 c75 [(.tmp 2)] := ⟨by kernel_rfl, by kernel_rfl⟩

def F_impl_lengthOk (v0 : Int) : Option (Bool) :=
 ((F_impl_within v0 1 64).bind fun u0 => some u0)
@[simp] def res_impl_lengthOk (r : Bool) : RV := .one (.one (.val (.bool r)))
theorem con_impl_lengthOk {v0 : Int} {r : Bool} (hF : F_impl_lengthOk v0 = some r) : Con Tryz.prog 75 [.int .i64 v0] (res_impl_lengthOk r) := by
 unfold F_impl_lengthOk at hF
 refine con_of c75_.1 fun N => ?_
 exact ws 0 64 (qp (AB false) rfl (r_nil (ws 64 256 (qp (AI v0) rfl (bk hF fun u0 e0 hF => qC (AB u0) [] (con_impl_within e0) c85_ (qp (AB u0) rfl (rR hF)))))))

def c29 : MC := (sr [pT 2 (.mv cf)] (.seq (sr [mvt 5 0, zT 6 5, bT 7 .gtr t6 (ci 48)] (.cond t7 (sr [pT 2 (.mv cf)] .ret) .skip)) (.seq (sr [mvt 8 0, zT 9 8, pT 10 (.mv (ci 0))] (.block 0 (.loop (sr [bT 11 .lss t10 t9] (.seq (cx t11 0) (.seq (.block 1 (sr [iT 12 8 10 2, pT 13 (.ld t12 2 true), rg 4 (.f (.alloc [((.int .i64 0), (0, false)), ((.int .i64 0), (0, false))])), ⟨none, none, (.f (.st t4 t13 2))⟩] (sr [pT 14 (.fad t4 0), lT 15 14, dT 16 74 [t15], pT 17 (.not t16), mvt 18 17, kF 19 18 (.fad t4 1), kF 20 18 (.ld t19 1 false), ⟨(some 21), (some (18, false)), (.call true 75 [t20])⟩, kF 22 18 (.not t21), pT 23 (.pick t18 ct t22)] (.cond t23 (sr [pT 2 (.mv cf)] .ret) .skip)))) (.reg [bT 24 .add t10 (ci 1), mvt 10 24]))))))) (sr [pT 2 (.mv ct)] .ret))))
theorem c29_ : IsF Tryz.prog 29 c29 [(.tmp 2)] := ⟨by kernel_rfl, by kernel_rfl⟩

def F_impl_ValidMelody_l0 (v0 : List TNote) (k0 : Int → Option (Bool)) : Int → Option (Bool)
 | x1 => (bif (decide (x1 < (v0.length : Int))) then ((ix v0 x1).bind fun u0 => ((F_impl_pitchOk u0.1).bind fun u1 => (bif (!u1) then some false
 else ((F_impl_lengthOk u0.2).bind fun u2 => (bif (!u2) then some false
 else k0 (w64 (x1 + 1)))))))
 else some true)
def F_impl_ValidMelody (v0 : List TNote) : Option (Bool) :=
 (bif (decide ((48 : Int) < (v0.length : Int))) then some false
 else loop (F_impl_ValidMelody_l0 v0) 0)
@[simp] abbrev K4i (u0 : TNote) : List (Nat × Root) := [(193, .box [AI u0.1, AI u0.2]), (193, .box [AI 0, AI 0])]
@[simp] def res_impl_ValidMelody (r : Bool) : RV := .one (.one (.val (.bool r)))
theorem con_impl_ValidMelody {v0 : List TNote} {r : Bool} (hF : F_impl_ValidMelody v0 = some r) : Con Tryz.prog 29 [.sl 2 (v0.map eNote)] (res_impl_ValidMelody r) := by
 unfold F_impl_ValidMelody at hF
 refine con_of c29_.1 fun N => ?_
 refine ws 0 64 (qp (AB false) rfl (r_nil (w_seq (ws 64 256 (qp (AL 2 (v0.map eNote)) rfl (qp (AI (v0.length : Int)) (ev_len_n rfl) (qp (AB (decide ((48 : Int) < (v0.length : Int)))) rfl (r_nil (cF hF (fun hF => ws 256 320 (qp (AB false) rfl (r_nil (w_ret (thenQ_r (eQ hF)))))) fun hF => ?_)))))))))
 refine w_skip (thenQ_n (w_seq (ws 256 448 (qp (AL 2 (v0.map eNote)) rfl (qp (AI (v0.length : Int)) (ev_len_n rfl) (qp (AI 0) rfl (r_nil (w_block ?_))))))))
 refine wr (l' := [(8, AL 2 (v0.map eNote)), (9, AI (v0.length : Int)), (10, AI 0)]) (L := []) [8, 9, 10] [] 1 ?_
 refine w_loopF (F_impl_ValidMelody_l0 v0) (fun s : Int => mkS [(8, AL 2 (v0.map eNote)), (9, AI (v0.length : Int)), (10, AI s)] (fo []) 1) hF ?_
 rintro k0 x1 hF
 rw [F_impl_ValidMelody_l0] at hF
 try dsimp only
 refine ws 1 65 (qp (AB (decide (x1 < (v0.length : Int)))) rfl (r_nil (w_seq ?_)))
 refine cF hF (fun hF => ?_) fun hF => ?_
 ·
  refine w_skip (thenQ_n (w_seq (w_block (ws 65 321 (bk hF fun u0 e0 hF => qp (.val none (.ptr [.int .i64 u0.1, .int .i64 u0.2])) (ev_iad_n rfl rfl e0 rfl) (qp (.val none (eNote u0)) rfl (qf (.ptr 193 0 0) [(193, .box [AI 0, AI 0])] (by simp) (qf0 (.undef) (K4i u0) (by simp) (r_nil (ws 321 961 (qp (.ptr 193 0 0) rfl (qp (AI u0.1) rfl (bk hF fun u1 e1 hF => qC (AB u1) (K4i u0) (con_impl_pitchOk e1) c74_ (qp (AB (!u1)) rfl (qp (AB (!u1)) rfl ?_)))))))))))))))
  refine q_case 18 hF rfl (fun hF => qn4 (qp (AB true) rfl (r_nil (w_true rfl (ws 961 1025 (qp (AB false) rfl (r_nil (w_ret (blockQ_r (thenQ_r (thenQ_r (blockQ_r (thenQ_r (eQ hF)))))))))))))) fun hF => ?_
  refine qg (.ptr 193 0 1) rfl rfl (qg (AI u0.2) rfl rfl (bk hF fun u2 e2 hF => qG (AB u2) (K4i u0) (con_impl_lengthOk e2) c75_ (qg (AB (!u2)) rfl rfl (qp (AB (!u2)) rfl (r_nil (cF hF (fun hF => ws 961 1025 (qp (AB false) rfl (r_nil (w_ret (blockQ_r (thenQ_r (thenQ_r (blockQ_r (thenQ_r (eQ hF)))))))))) fun hF => ?_))))))
  refine w_skip (blockQ_n (thenQ_n (w_reg 961 1089 rfl rfl (qp (AI (w64 (x1 + 1))) rfl (qp (AI (w64 (x1 + 1))) rfl (r_nil (thenQ_n ?_)))))))
  refine ar (l' := [(8, AL 2 (v0.map eNote)), (9, AI (v0.length : Int)), (10, AI (w64 (x1 + 1)))]) (L := []) [8, 9, 10] [] 1 ⟨_, by rfl, hF⟩
 exact w_exit (thenQ_e (thenQ_e (blockQ_e (thenQ_n (ws 65 129 (qp (AB true) rfl (rR hF)))))))

def c121 : MC := (sr [pT 4 (.mv (ci 0))] (.seq (.block 0 (.loop (.seq (sr [mvt 5 1, bT 6 .neq t5 (ci 0)] (cx t6 0)) (.block 1 (.reg [mP 7 t1, mP 8 t0, mP 9 t1, bF 10 .rem t8 t9, mP 0 t7, mP 1 t10]))))) (sr [mvt 11 0, mvt 4 11] .ret)))
theorem c121_ : IsF Tryz.prog 121 c121 [(.tmp 4)] := ⟨by kernel_rfl, by kernel_rfl⟩

def F_impl_commonDivisor_l0 (k0 : Int × Int → Option (Int)) : Int × Int → Option (Int)
 | (x2, x3) => (bif (decide (x3 ≠ (0 : Int))) then (need (x3 ≠ 0) (k0 (x3, Int.tmod x2 x3)))
 else some x2)
def F_impl_commonDivisor (v0 : Int) (v1 : Int) : Option (Int) :=
 loop (F_impl_commonDivisor_l0) (v0, v1)
@[simp] def res_impl_commonDivisor (r : Int) : RV := .one (.one (.val (.int .i64 r)))
theorem con_impl_commonDivisor {v0 : Int} {v1 : Int} {r : Int} (hF : F_impl_commonDivisor v0 v1 = some r) : Con Tryz.prog 121 [.int .i64 v0, .int .i64 v1] (res_impl_commonDivisor r) := by
 unfold F_impl_commonDivisor at hF
 refine con_of c121_.1 fun N => ?_
 refine ws 0 64 (qp (AI 0) rfl (r_nil (w_seq (w_block ?_))))
 refine wr (l' := [(0, AI v0), (1, AI v1)]) (L := []) [0, 1] [] 1 ?_
 refine w_loopF (F_impl_commonDivisor_l0) (fun s : Int × Int => mkS [(0, AI s.1), (1, AI s.2)] (fo []) 1) hF ?_
 rintro k0 ⟨x2, x3⟩ hF
 rw [F_impl_commonDivisor_l0] at hF
 try dsimp only
 refine w_seq (ws 1 129 (qp (AI x3) rfl (qp (AB (decide (x3 ≠ (0 : Int)))) rfl (r_nil ?_))))
 refine cF hF (fun hF => ?_) fun hF => ?_
 ·
  refine w_skip (thenQ_n (w_block (w_reg 129 513 rfl rfl (qp (AI x3) rfl (qp (AI x2) rfl (qp (AI x3) rfl (nk hF fun g0 hF => qp (AI (Int.tmod x2 x3)) (ev_rem rfl rfl g0) (qp (AI x3) rfl (qp (AI (Int.tmod x2 x3)) rfl (r_nil (blockQ_n (thenQ_n ?_))))))))))))
  refine ar (l' := [(0, AI x3), (1, AI (Int.tmod x2 x3))]) (L := []) [0, 1] [] 1 ⟨_, by rfl, hF⟩
 exact w_exit (thenQ_e (thenQ_e (blockQ_e (thenQ_n (ws 129 257 (qp (AI x2) rfl (qp (AI x2) rfl (rR hF))))))))

def c76 : MC := (sr [rg 1 (.f (.box t0)), pT 2 (.mv cf)] (sr [pT 3 (.fad t1 0), lT 4 3, dT 5 85 [t4, (ci 1), (ci 1000000)], mvt 6 5, kT 7 6 (.fad t1 1), kT 8 6 (.ld t7 1 false), ⟨(some 9), (some (6, true)), (.call true 85 [t8, (ci 1), (ci 1000000)])⟩, pT 10 (.pick t6 t9 cf), mvt 11 10, kT 12 11 (.fad t1 0), kT 13 11 (.ld t12 1 false), kT 14 11 (.fad t1 1), kT 15 11 (.ld t14 1 false), ⟨(some 16), (some (11, true)), (.call true 121 [t13, t15])⟩, kT 17 11 (.bin .eql t16 (ci 1)), pT 18 (.pick t11 t17 cf), mvt 2 18] .ret))
theorem c76_ : IsF Tryz.prog 76 c76 [(.tmp 2)] := ⟨by kernel_rfl, by kernel_rfl⟩

def F_impl_ValidRatio (v0 : TNote) : Option (Bool) :=
 ((F_impl_within v0.1 1 1000000).bind fun u0 => (bif u0 then ((F_impl_within v0.2 1 1000000).bind fun u1 => (bif u1 then ((F_impl_commonDivisor v0.1 v0.2).bind fun u2 => some (decide (u2 = (1 : Int))))
 else some false))
 else some false))
@[simp] def res_impl_ValidRatio (r : Bool) : RV := .one (.one (.val (.bool r)))
theorem con_impl_ValidRatio {v0 : TNote} {r : Bool} (hF : F_impl_ValidRatio v0 = some r) : Con Tryz.prog 76 [eNote v0] (res_impl_ValidRatio r) := by
 unfold F_impl_ValidRatio at hF
 refine con_of c76_.1 fun N => ?_
 refine ws 0 128 (qf (.ptr 0 0 0) [(0, .box [AI v0.1, AI v0.2])] (by simp) (qp (AB false) rfl (r_nil (ws 128 1216 (qp (.ptr 0 0 0) rfl (qp (AI v0.1) rfl (bk hF fun u0 e0 hF => qC (AB u0) [(0, .box [AI v0.1, AI v0.2])] (con_impl_within e0) c85_ (qp (AB u0) rfl ?_))))))))
 refine q_case 6 hF rfl (fun hF => ?_) (fun hF => ?_)
 ·
  refine qg (.ptr 0 0 1) rfl rfl (qg (AI v0.2) rfl rfl (bk hF fun u1 e1 hF => qG (AB u1) [(0, .box [AI v0.1, AI v0.2])] (con_impl_within e1) c85_ (qp (AB u1) rfl (qp (AB u1) rfl (q_case 11 hF rfl (fun hF => qg (.ptr 0 0 0) rfl rfl (qg (AI v0.1) rfl rfl (qg (.ptr 0 0 1) rfl rfl (qg (AI v0.2) rfl rfl (bk hF fun u2 e2 hF => qG (AI u2) [(0, .box [AI v0.1, AI v0.2])] (con_impl_commonDivisor e2) c121_ (qg (AB (decide (u2 = (1 : Int)))) rfl rfl (qp (AB (decide (u2 = (1 : Int)))) rfl (qp (AB (decide (u2 = (1 : Int)))) rfl (rR hF))))))))) fun hF => ?_)))))
  exact qn6 (qp (AB false) rfl (qp (AB false) rfl (rR hF)))
 exact qn3 (qp (AB false) rfl (qp (AB false) rfl (qn3 (qn3 (qp (AB false) rfl (qp (AB false) rfl (rR hF)))))))

def c77 : MC := (sr [rg 2 (.f (.box t0)), rg 3 (.f (.box t1)), pT 4 (.mv (ci 0))] (sr [pT 5 (.fad t2 0), lT 6 5, pT 7 (.fad t3 1), lT 8 7, bT 9 .mul t6 t8, pT 10 (.fad t3 0), lT 11 10, pT 12 (.fad t2 1), lT 13 12, bT 14 .mul t11 t13, dT 15 120 [t9, t14], mvt 4 15] .ret))
theorem c77_ : IsF Tryz.prog 77 c77 [(.tmp 4)] := ⟨by kernel_rfl, by kernel_rfl⟩

def F_impl_Ratio_compare (v0 : TNote) (v1 : TNote) : Option (Int) :=
 ((F_cmp_Compare_int64 (w64 (v0.1 * v1.2)) (w64 (v1.1 * v0.2))).bind fun u0 => some u0)
@[simp] abbrev K4j (v1 : TNote) (v0 : TNote) : List (Nat × Root) := [(64, .box [AI v1.1, AI v1.2]), (0, .box [AI v0.1, AI v0.2])]
@[simp] def res_impl_Ratio_compare (r : Int) : RV := .one (.one (.val (.int .i64 r)))
theorem con_impl_Ratio_compare {v0 : TNote} {v1 : TNote} {r : Int} (hF : F_impl_Ratio_compare v0 v1 = some r) : Con Tryz.prog 77 [eNote v0, eNote v1] (res_impl_Ratio_compare r) := by
 unfold F_impl_Ratio_compare at hF
 refine con_of c77_.1 fun N => ?_
 refine ws 0 192 (qf (.ptr 0 0 0) [(0, .box [AI v0.1, AI v0.2])] (by simp) (qf (.ptr 64 0 0) (K4j v1 v0) (by simp) (qp (AI 0) rfl (r_nil (ws 192 960 ?_)))))
 exact qp (.ptr 0 0 0) rfl (qp (AI v0.1) rfl (qp (.ptr 64 0 1) rfl (qp (AI v1.2) rfl (qp (AI (w64 (v0.1 * v1.2))) rfl (qp (.ptr 64 0 0) rfl (qp (AI v1.1) rfl (qp (.ptr 0 0 1) rfl (qp (AI v0.2) rfl (qp (AI (w64 (v1.1 * v0.2))) rfl (bk hF fun u0 e0 hF => qC (AI u0) (K4j v1 v0) (con_cmp_Compare_int64 e0) c120_ (qp (AI u0) rfl (rR hF))))))))))))

def c30 : MC := (sr [rg 1 (.f (.box t0)), pT 2 (.mv cf)] (.seq (sr [pT 5 (.fad t1 0), lT 6 5, dT 7 69 [t6], pT 8 (.not t7), mvt 9 8, kF 10 9 (.fad t1 1), kF 11 9 (.ld t10 1 false), kF 12 9 (.len t11), kF 13 9 (.bin .neq t12 (ci 12)), pT 14 (.pick t9 ct t13), mvt 15 14, kF 16 15 (.fad t1 1), kF 17 15 (.ld t16 1 false), kF 18 15 (.iad t17 (ci 0) 2), kF 19 15 (.ld t18 2 true), ⟨(some 20), (some (15, false)), (.f (.bld [((.int .i64 0), (0, true)), ((.int .i64 0), (0, true))] [(0, (1, (ci 1))), (1, (1, (ci 1)))]))⟩, kF 21 15 (.eqs true [0, 0] t19 t20), pT 22 (.pick t15 ct t21)] (.cond t22 (sr [pT 2 (.mv cf)] .ret) .skip)) (.seq (sr [pT 23 (.fad t1 1), lT 24 23, zT 25 24, pT 26 (.mv (ci 0))] (.block 0 (.loop (sr [bT 27 .lss t26 t25] (.seq (cx t27 0) (.seq (.block 1 (sr [mvt 28 26, iT 29 24 26 2, pT 30 (.ld t29 2 true), rg 4 (.f (.alloc [((.int .i64 0), (0, false)), ((.int .i64 0), (0, false))])), mvt 3 28, ⟨none, none, (.f (.st t4 t30 2))⟩] (sr [pF 31 (.ld t4 2 true), dF 32 76 [t31], pF 33 (.not t32), mP 34 t33, gF 35 34 (.fad t4 0), lH 36 34 35, gF 37 34 (.fad t4 1), lH 38 34 37, bH 39 34 .mul (ci 2) t38, bH 40 34 .geq t36 t39, pF 41 (.pick t34 ct t40), mP 42 t41, mF 43 42 t3, bH 44 42 .gtr t43 (ci 0), mF 45 42 t44, gT 46 45 (.ld t4 2 true), gT 47 45 (.fad t1 1), lG 48 45 47, mT 49 45 t3, bG 50 45 .sub t49 (ci 1), iG 51 45 48 50 2, gT 52 45 (.ld t51 2 true), ⟨(some 53), (some (45, true)), (.call false 77 [t46, t52])⟩, bG 54 45 .leq t53 (ci 0), gF 55 42 (.pick t45 t54 cf), pF 56 (.pick t42 ct t55)] (.cond t56 (sr [pT 2 (.mv cf)] .ret) .skip)))) (.reg [bT 57 .add t26 (ci 1), mvt 26 57]))))))) (sr [pT 2 (.mv ct)] .ret))))
theorem c30_ : IsF Tryz.prog 30 c30 [(.tmp 2)] := ⟨by kernel_rfl, by kernel_rfl⟩

def F_impl_ValidTuning_l0 (v0 : TTuning) (k1 : Int → Option (Bool)) : Int → Option (Bool)
 | x3 => (bif (decide (x3 < (v0.2.length : Int))) then ((ix v0.2 x3).bind fun u10 => ((F_impl_ValidRatio u10).bind fun u11 => (bif (!u11) then some false
 else (bif (decide (w64 (2 * u10.2) ≤ u10.1)) then some false
 else (bif (decide ((0 : Int) < x3)) then ((ix v0.2 (w64 (x3 - 1))).bind fun u12 => ((F_impl_Ratio_compare u10 u12).bind fun u13 => (bif (decide (u13 ≤ (0 : Int))) then some false
 else k1 (w64 (x3 + 1)))))
 else k1 (w64 (x3 + 1)))))))
 else some true)
def F_impl_ValidTuning (v0 : TTuning) : Option (Bool) :=
 ((F_impl_IsName v0.1).bind fun u0 => (bif (!u0) then some false
 else (bif (decide ((v0.2.length : Int) ≠ (12 : Int))) then some false
 else ((ix v0.2 0).bind fun u1 => (bif (!(decide (u1.1 = (1 : Int)) && (decide (u1.2 = (1 : Int)) && true))) then some false
 else loop (F_impl_ValidTuning_l0 v0) 0)))))
@[simp] abbrev K4n (v0 : TTuning) : V := .sl 2 (v0.2.map eNote)
@[simp] abbrev K4k (v0 : TTuning) : List (Nat × Root) := [(0, .box [AS v0.1, .val none (K4n v0)])]
@[simp] abbrev K4m (u10 : TNote) (v0 : TTuning) : List (Nat × Root) := ((257, .box [AI u10.1, AI u10.2]) :: (257, .box [AI 0, AI 0]) :: (K4k v0))
@[simp] def res_impl_ValidTuning (r : Bool) : RV := .one (.one (.val (.bool r)))
theorem con_impl_ValidTuning {v0 : TTuning} {r : Bool} (hF : F_impl_ValidTuning v0 = some r) : Con Tryz.prog 30 [eTuning v0] (res_impl_ValidTuning r) := by
 unfold F_impl_ValidTuning at hF
 refine con_of c30_.1 fun N => ?_
 refine ws 0 128 (qf (.ptr 0 0 0) (K4k v0) (by simp) (qp (AB false) rfl (r_nil (w_seq (ws 128 1280 (qp (.ptr 0 0 0) rfl (qp (AS v0.1) rfl (bk hF fun u0 e0 hF => qC (AB u0) (K4k v0) (con_impl_IsName e0) c69_ (qp (AB (!u0)) rfl (qp (AB (!u0)) rfl ?_))))))))))
 refine q_case 9 hF rfl (fun hF => qn4 (qp (AB true) rfl (qp (AB true) rfl (qn2 (qn4 (qp (AB true) rfl (r_nil (w_true rfl (ws 1280 1344 (qp (AB false) rfl (r_nil (w_ret (thenQ_r (eQ hF)))))))))))))) fun hF => ?_
 refine qg (.ptr 0 0 1) rfl rfl (qg (.val none (K4n v0)) rfl rfl (qg (AI (v0.2.length : Int)) rfl (ev_len_n rfl) (qg (AB (decide ((v0.2.length : Int) ≠ (12 : Int)))) rfl rfl (qp (AB (decide ((v0.2.length : Int) ≠ (12 : Int)))) rfl (qp (AB (decide ((v0.2.length : Int) ≠ (12 : Int)))) rfl ?_)))))
 refine q_case 15 hF rfl (fun hF => qn6 (qp (AB true) rfl (r_nil (w_true rfl (ws 1280 1344 (qp (AB false) rfl (r_nil (w_ret (thenQ_r (eQ hF)))))))))) fun hF => ?_
 refine qg (.ptr 0 0 1) rfl rfl (qg (.val none (K4n v0)) rfl rfl (bk hF fun u1 e1 hF => qg (.val none (.ptr [.int .i64 u1.1, .int .i64 u1.2])) rfl (ev_iad_n rfl rfl e1 rfl) (qg (.val none (eNote u1)) rfl rfl (qfg (.agg [AI 1, AI 1]) (K4k v0) rfl (by simp) (qg (AB (!(decide (u1.1 = (1 : Int)) && (decide (u1.2 = (1 : Int)) && true)))) rfl rfl (qp (AB (!(decide (u1.1 = (1 : Int)) && (decide (u1.2 = (1 : Int)) && true)))) rfl (r_nil (cF hF (fun hF => ws 1280 1344 (qp (AB false) rfl (r_nil (w_ret (thenQ_r (eQ hF)))))) fun hF => ?_))))))))
 refine w_skip (thenQ_n (w_seq (ws 1280 1536 (qp (.ptr 0 0 1) rfl (qp (.val none (K4n v0)) rfl (qp (AI (v0.2.length : Int)) (ev_len_n rfl) (qp (AI 0) rfl (r_nil (w_block ?_)))))))))
 refine w_ren (l' := [(1, .ptr 0 0 0), (24, .val none (K4n v0)), (25, AI (v0.2.length : Int)), (26, AI 0)]) (L := (K4k v0)) [1, 24, 25, 26] [(0, 0)] 1 (by first | rfl | simp) (by first | rfl | simp) (by decide) (by decide) (by decide) ?_
 refine w_loopF (F_impl_ValidTuning_l0 v0) (fun s : Int => mkS [(1, .ptr 0 0 0), (24, .val none (K4n v0)), (25, AI (v0.2.length : Int)), (26, AI s)] (fo (K4k v0)) 1) hF ?_
 rintro k1 x3 hF
 rw [F_impl_ValidTuning_l0] at hF
 try dsimp only
 refine ws 1 65 (qp (AB (decide (x3 < (v0.2.length : Int)))) rfl (r_nil (w_seq ?_)))
 refine cF hF (fun hF => ?_) fun hF => ?_
 ·
  refine w_skip (thenQ_n (w_seq (w_block (ws 65 449 (qp (AI x3) rfl (bk hF fun u10 e10 hF => qp (.val none (.ptr [.int .i64 u10.1, .int .i64 u10.2])) (ev_iad_n rfl rfl e10 rfl) (qp (.val none (eNote u10)) rfl (qf (.ptr 257 0 0) ((257, .box [AI 0, AI 0]) :: (K4k v0)) (by simp) (qp (AI x3) rfl (qf0 (.undef) (K4m u10 v0) (by simp) (r_nil (ws 449 2113 (qp (.agg [AI u10.1, AI u10.2]) rfl (bk hF fun u11 e11 hF => qC (AB u11) (K4m u10 v0) (con_impl_ValidRatio e11) c76_ ?_))))))))))))))
  refine qp (AB (!u11)) rfl (qp (AB (!u11)) rfl ?_)
  refine q_case 34 hF rfl (fun hF => ?_) (fun hF => ?_)
  ·
   refine qn6 (qp (AB true) rfl (qp (AB true) rfl (qn3 (qu rfl (qu rfl (qu rfl (qu rfl (qu rfl ?_))))))))
   refine qu rfl (qu rfl (qu rfl (qu rfl (qn rfl (qp (AB true) rfl (r_nil (w_true rfl (ws 2113 2177 (qp (AB false) rfl (r_nil (w_ret (blockQ_r (thenQ_r ?_)))))))))))))
   exact thenQ_r (blockQ_r (thenQ_r (eQ hF)))
  refine qg (.ptr 257 0 0) rfl rfl (qg (AI u10.1) rfl rfl (qg (.ptr 257 0 1) rfl rfl (qg (AI u10.2) rfl rfl (qg (AI (w64 (2 * u10.2))) rfl rfl (qg (AB (decide (w64 (2 * u10.2) ≤ u10.1))) rfl rfl (qp (AB (decide (w64 (2 * u10.2) ≤ u10.1))) rfl (qp (AB (decide (w64 (2 * u10.2) ≤ u10.1))) rfl ?_)))))))
  refine q_case 42 hF rfl (fun hF => ?_) (fun hF => ?_)
  ·
   refine qn3 (qu rfl (qu rfl (qu rfl (qu rfl (qu rfl (qu rfl (qu rfl (qu rfl (qu rfl (qn rfl (qp (AB true) rfl (r_nil (w_true rfl ?_)))))))))))))
   exact ws 2113 2177 (qp (AB false) rfl (r_nil (w_ret (blockQ_r (thenQ_r (thenQ_r (blockQ_r (thenQ_r (eQ hF)))))))))
  refine qg (AI x3) rfl rfl (qg (AB (decide ((0 : Int) < x3))) rfl rfl (qg (AB (decide ((0 : Int) < x3))) rfl rfl ?_))
  refine q_case 45 hF rfl (fun hF => ?_) (fun hF => ?_)
  ·
   refine qg (.agg [AI u10.1, AI u10.2]) rfl rfl (qg (.ptr 0 0 1) rfl rfl (qg (.val none (K4n v0)) rfl rfl (qg (AI x3) rfl rfl (qg (AI (w64 (x3 - 1))) rfl rfl (bk hF fun u12 e12 hF => qg (.val none (.ptr [.int .i64 u12.1, .int .i64 u12.2])) rfl (ev_iad_n rfl rfl e12 rfl) (qg (.val none (eNote u12)) rfl rfl (bk hF fun u13 e13 hF => qG (AI u13) (K4m u10 v0) (con_impl_Ratio_compare e13) c77_ (qg (AB (decide (u13 ≤ (0 : Int)))) rfl rfl (qg (AB (decide (u13 ≤ (0 : Int)))) rfl rfl (qp (AB (decide (u13 ≤ (0 : Int)))) rfl (r_nil ?_)))))))))))
   refine cF hF (fun hF => ws 2113 2177 (qp (AB false) rfl (r_nil (w_ret (blockQ_r (thenQ_r (thenQ_r (blockQ_r (thenQ_r (eQ hF)))))))))) fun hF => ?_
   refine w_skip (blockQ_n (thenQ_n (w_reg 2113 2241 rfl rfl (qp (AI (w64 (x3 + 1))) rfl (qp (AI (w64 (x3 + 1))) rfl (r_nil (thenQ_n ?_)))))))
   refine ar (l' := [(1, .ptr 0 0 0), (24, .val none (K4n v0)), (25, AI (v0.2.length : Int)), (26, AI (w64 (x3 + 1)))]) (L := (K4k v0)) [1, 24, 25, 26] [(0, 0)] 1 ⟨_, by rfl, hF⟩
  refine qn8 (qn rfl (qg (AB false) rfl rfl (qp (AB false) rfl (r_nil (w_false rfl (w_skip (blockQ_n (thenQ_n (w_reg 2113 2241 rfl rfl (qp (AI (w64 (x3 + 1))) rfl (qp (AI (w64 (x3 + 1))) rfl ?_)))))))))))
  refine r_nil (thenQ_n ?_)
  refine ar (l' := [(1, .ptr 0 0 0), (24, .val none (K4n v0)), (25, AI (v0.2.length : Int)), (26, AI (w64 (x3 + 1)))]) (L := (K4k v0)) [1, 24, 25, 26] [(0, 0)] 1 ⟨_, by rfl, hF⟩
 exact w_exit (thenQ_e (thenQ_e (blockQ_e (thenQ_n (ws 65 129 (qp (AB true) rfl (rR hF)))))))

def c145 : MC := (sr [pT 4 (.mv cf)] (sr [mvt 5 0, lT 6 1, lT 7 2, dT 8 85 [t5, t6, t7], pT 9 (.not t8), mvt 4 9] .ret))
theorem c145_ : IsF Tryz.prog 145 c145 [(.tmp 4)] := ⟨by kernel_rfl, by kernel_rfl⟩

def F_impl_allWithin_1 (v0 : Int) (v1 : Int) (v2 : Int) : Option (Bool) :=
 ((F_impl_within v0 v1 v2).bind fun u0 => some (!u0))
@[simp] def res_impl_allWithin_1 (r : Bool) : RV := .one (.one (.val (.bool r)))
theorem con_impl_allWithin_1 {v0 : Int} {v1 : Int} {v2 : Int} {r : Bool} (hF : F_impl_allWithin_1 v0 v1 v2 = some r) : Con Tryz.prog 145 [.int .i64 v0, .ptr [.int .i64 v1], .ptr [.int .i64 v2]] (res_impl_allWithin_1 r) := by
 unfold F_impl_allWithin_1 at hF
 refine con_of c145_.1 fun N => ?_
 exact ws 0 64 (qp (AB false) rfl (r_nil (ws 64 448 (qp (AI v0) rfl (qp (AI v1) rfl (qp (AI v2) rfl (bk hF fun u0 e0 hF => qC (AB u0) [] (con_impl_within e0) c85_ (qp (AB (!u0)) rfl (qp (AB (!u0)) rfl (rR hF))))))))))

def c149 : MC := (sr [pT 4 (.mv (ci 0))] (.seq (sr [mvt 6 0, zT 7 6, pT 8 (.mv (ci 0))] (.block 0 (.loop (sr [bT 9 .lss t8 t7] (.seq (cx t9 0) (.seq (.block 1 (sr [mvt 10 8, mvt 5 10] (sr [mvt 11 1, mvt 12 0, mvt 13 5, iT 14 12 13 1, lT 15 14, rg 16 (.callv t11 [t15])] (.cond t16 (sr [mvt 17 5, mvt 4 17] .ret) .skip)))) (.reg [bT 18 .add t8 (ci 1), mvt 8 18]))))))) (sr [pT 4 (.mv (ci (-1)))] .ret)))
theorem c149_ : IsF Tryz.prog 149 c149 [(.tmp 4)] := ⟨by kernel_rfl, by kernel_rfl⟩

def F_slices_IndexFunc_Sint64_int64_l0 (v0 : List Int) (v1 : Int) (v2 : Int) (k0 : Int → Option (Int)) : Int → Option (Int)
 | x1 => (bif (decide (x1 < (v0.length : Int))) then ((ix v0 x1).bind fun u0 => ((F_impl_allWithin_1 u0 v1 v2).bind fun u1 => (bif u1 then some x1
 else k0 (w64 (x1 + 1)))))
 else some (-1))
def F_slices_IndexFunc_Sint64_int64 (v0 : List Int) (v1 : Int) (v2 : Int) : Option (Int) :=
 loop (F_slices_IndexFunc_Sint64_int64_l0 v0 v1 v2) 0
@[simp] abbrev K4o (v1 : Int) (v2 : Int) : Nat × AV := (1, .val none (.fn 145 [.ptr [.int .i64 v1], .ptr [.int .i64 v2]]))
@[simp] def res_slices_IndexFunc_Sint64_int64 (r : Int) : RV := .one (.one (.val (.int .i64 r)))
theorem con_slices_IndexFunc_Sint64_int64 {v0 : List Int} {v1 : Int} {v2 : Int} {r : Int} (hF : F_slices_IndexFunc_Sint64_int64 v0 v1 v2 = some r) : Con Tryz.prog 149 [.sl 1 (v0.map vI), .fn 145 [.ptr [.int .i64 v1], .ptr [.int .i64 v2]]] (res_slices_IndexFunc_Sint64_int64 r) := by
 unfold F_slices_IndexFunc_Sint64_int64 at hF
 refine con_of c149_.1 fun N => ?_
 refine ws 0 64 (qp (AI 0) rfl (r_nil (w_seq (ws 64 256 (qp (AL 1 (v0.map vI)) rfl (qp (AI (v0.length : Int)) (ev_len_n rfl) (qp (AI 0) rfl (r_nil (w_block ?_)))))))))
 refine wr (l' := [(0, AL 1 (v0.map vI)), (K4o v1 v2), (7, AI (v0.length : Int)), (8, AI 0)]) (L := []) [0, 1, 7, 8] [] 1 ?_
 refine w_loopF (F_slices_IndexFunc_Sint64_int64_l0 v0 v1 v2) (fun s : Int => mkS [(0, AL 1 (v0.map vI)), (K4o v1 v2), (7, AI (v0.length : Int)), (8, AI s)] (fo []) 1) hF ?_
 rintro k0 x1 hF
 rw [F_slices_IndexFunc_Sint64_int64_l0] at hF
 try dsimp only
 refine ws 1 65 (qp (AB (decide (x1 < (v0.length : Int)))) rfl (r_nil (w_seq ?_)))
 refine cF hF (fun hF => ?_) fun hF => ?_
 ·
  refine w_skip (thenQ_n (w_seq (w_block (ws 65 193 (qp (AI x1) rfl (qp (AI x1) rfl (r_nil (ws 193 577 (qp (.val none (.fn 145 [.ptr [.int .i64 v1], .ptr [.int .i64 v2]])) rfl (qp (AL 1 (v0.map vI)) rfl (qp (AI x1) rfl (bk hF fun u0 e0 hF => qp (.val none (.ptr [.int .i64 u0])) (ev_iad_n rfl rfl e0 rfl) (qp (AI u0) rfl (bk hF fun u1 e1 hF => qcv (AB u1) [] false rfl (con_impl_allWithin_1 e1) c145_.2 (by first | rfl | simp) rfl (r_nil ?_)))))))))))))))
  refine cF hF (fun hF => ws 577 705 (qp (AI x1) rfl (qp (AI x1) rfl (r_nil (w_ret (blockQ_r (thenQ_r (thenQ_r (blockQ_r (thenQ_r (eQ hF))))))))))) fun hF => ?_
  refine w_skip (blockQ_n (thenQ_n (w_reg 577 705 rfl rfl (qp (AI (w64 (x1 + 1))) rfl (qp (AI (w64 (x1 + 1))) rfl (r_nil (thenQ_n ?_)))))))
  refine ar (l' := [(0, AL 1 (v0.map vI)), (K4o v1 v2), (7, AI (v0.length : Int)), (8, AI (w64 (x1 + 1)))]) (L := []) [0, 1, 7, 8] [] 1 ⟨_, by rfl, hF⟩
 exact w_exit (thenQ_e (thenQ_e (blockQ_e (thenQ_n (ws 65 129 (qp (AI (-1)) rfl (rR hF)))))))

def c144 : MC := (sr [pT 4 (.mv cf)] (sr [mvt 5 0, mvt 6 1, dT 7 149 [t5, t6], bT 8 .geq t7 (ci 0), mvt 4 8] .ret))
theorem c144_ : IsF Tryz.prog 144 c144 [(.tmp 4)] := ⟨by kernel_rfl, by kernel_rfl⟩

def F_slices_ContainsFunc_Sint64_int64 (v0 : List Int) (v1 : Int) (v2 : Int) : Option (Bool) :=
 ((F_slices_IndexFunc_Sint64_int64 v0 v1 v2).bind fun u0 => some (decide ((0 : Int) ≤ u0)))
@[simp] def res_slices_ContainsFunc_Sint64_int64 (r : Bool) : RV := .one (.one (.val (.bool r)))
theorem con_slices_ContainsFunc_Sint64_int64 {v0 : List Int} {v1 : Int} {v2 : Int} {r : Bool} (hF : F_slices_ContainsFunc_Sint64_int64 v0 v1 v2 = some r) : Con Tryz.prog 144 [.sl 1 (v0.map vI), .fn 145 [.ptr [.int .i64 v1], .ptr [.int .i64 v2]]] (res_slices_ContainsFunc_Sint64_int64 r) := by
 unfold F_slices_ContainsFunc_Sint64_int64 at hF
 refine con_of c144_.1 fun N => ?_
 exact ws 0 64 (qp (AB false) rfl (r_nil (ws 64 384 (qp (AL 1 (v0.map vI)) rfl (qp (.val none (.fn 145 [.ptr [.int .i64 v1], .ptr [.int .i64 v2]])) rfl (bk hF fun u0 e0 hF => qC (AI u0) [] (con_slices_IndexFunc_Sint64_int64 e0) c149_ (qp (AB (decide ((0 : Int) ≤ u0))) rfl (qp (AB (decide ((0 : Int) ≤ u0))) rfl (rR hF)))))))))

def c122 : MC := (sr [rg 4 (.f (.box t1)), rg 5 (.f (.box t2)), pT 6 (.mv cf)] (sr [mvt 7 0, pT 8 (.mkf 145 [t4, t5]), dT 9 144 [t7, t8], pT 10 (.not t9), mvt 6 10] .ret))
theorem c122_ : IsF Tryz.prog 122 c122 [(.tmp 6)] := ⟨by kernel_rfl, by kernel_rfl⟩

def F_impl_allWithin (v0 : List Int) (v1 : Int) (v2 : Int) : Option (Bool) :=
 ((F_slices_ContainsFunc_Sint64_int64 v0 v1 v2).bind fun u0 => some (!u0))
@[simp] def res_impl_allWithin (r : Bool) : RV := .one (.one (.val (.bool r)))
theorem con_impl_allWithin {v0 : List Int} {v1 : Int} {v2 : Int} {r : Bool} (hF : F_impl_allWithin v0 v1 v2 = some r) : Con Tryz.prog 122 [.sl 1 (v0.map vI), .int .i64 v1, .int .i64 v2] (res_impl_allWithin r) := by
 unfold F_impl_allWithin at hF
 refine con_of c122_.1 fun N => ?_
 exact ws 0 192 (qf (.ptr 0 0 0) [(0, .box [AI v1])] (by simp) (qf (.ptr 64 0 0) [(64, .box [AI v2]), (0, .box [AI v1])] (by simp) (qp (AB false) rfl (r_nil (ws 192 512 (qp (AL 1 (v0.map vI)) rfl (qp (.fn 145 [.ptr 0 0 0, .ptr 64 0 0]) rfl (bk hF fun u0 e0 hF => qc (AB u0) [(64, .box [AI v2]), (0, .box [AI v1])] true (con_slices_ContainsFunc_Sint64_int64 e0) c144_.2 (by simp [List.take_of_length_le]) rfl (qp (AB (!u0)) rfl (qp (AB (!u0)) rfl (rR hF)))))))))))

def c78 : MC := (sr [pT 2 (.mv cf)] (sr [mvt 3 0, zT 4 3, bT 5 .geq t4 (ci 2), mvt 6 5, nT 7 6 t0, kT 8 6 (.len t7), kT 9 6 (.bin .leq t8 (ci 8)), pT 10 (.pick t6 t9 cf), mvt 11 10, nT 12 11 t0, ⟨(some 13), (some (11, true)), (.call true 122 [t12, (ci (-12)), (ci 23)])⟩, pT 14 (.pick t11 t13 cf), mvt 2 14] .ret))
theorem c78_ : IsF Tryz.prog 78 c78 [(.tmp 2)] := ⟨by kernel_rfl, by kernel_rfl⟩

def F_impl_phraseOk (v0 : List Int) : Option (Bool) :=
 (bif (decide ((2 : Int) ≤ (v0.length : Int))) then (bif (decide ((v0.length : Int) ≤ (8 : Int))) then ((F_impl_allWithin v0 (-12) 23).bind fun u0 => some u0)
 else some false)
 else some false)
@[simp] def res_impl_phraseOk (r : Bool) : RV := .one (.one (.val (.bool r)))
theorem con_impl_phraseOk {v0 : List Int} {r : Bool} (hF : F_impl_phraseOk v0 = some r) : Con Tryz.prog 78 [.sl 1 (v0.map vI)] (res_impl_phraseOk r) := by
 unfold F_impl_phraseOk at hF
 refine con_of c78_.1 fun N => ?_
 refine ws 0 64 (qp (AB false) rfl (r_nil (ws 64 896 (qp (AL 1 (v0.map vI)) rfl (qp (AI (v0.length : Int)) (ev_len_n rfl) (qp (AB (decide ((2 : Int) ≤ (v0.length : Int)))) rfl (qp (AB (decide ((2 : Int) ≤ (v0.length : Int)))) rfl ?_)))))))
 refine q_case 6 hF rfl (fun hF => ?_) (fun hF => ?_)
 ·
  refine qg (AL 1 (v0.map vI)) rfl rfl (qg (AI (v0.length : Int)) rfl (ev_len_n rfl) (qg (AB (decide ((v0.length : Int) ≤ (8 : Int)))) rfl rfl (qp (AB (decide ((v0.length : Int) ≤ (8 : Int)))) rfl (qp (AB (decide ((v0.length : Int) ≤ (8 : Int)))) rfl (q_case 11 hF rfl (fun hF => qg (AL 1 (v0.map vI)) rfl rfl (bk hF fun u0 e0 hF => qG (AB u0) [] (con_impl_allWithin e0) c122_ (qp (AB u0) rfl (qp (AB u0) rfl (rR hF))))) fun hF => ?_)))))
  exact qn2 (qp (AB false) rfl (qp (AB false) rfl (rR hF)))
 exact qn3 (qp (AB false) rfl (qp (AB false) rfl (qn2 (qp (AB false) rfl (qp (AB false) rfl (rR hF))))))

def c31 : MC := (sr [pT 2 (.mv cf)] (.seq (sr [mvt 5 0, zT 6 5, bT 7 .gtr t6 (ci 12)] (.cond t7 (sr [pT 2 (.mv cf)] .ret) .skip)) (.seq (sr [mvt 8 0, zT 9 8, pT 10 (.mv (ci 0))] (.block 0 (.loop (sr [bT 11 .lss t10 t9] (.seq (cx t11 0) (.seq (.block 1 (sr [mvt 12 10, iT 13 8 10 1, lT 14 13, mvt 3 12, mvt 4 14] (sr [mvt 15 4, dT 16 78 [t15], pT 17 (.not t16), mvt 18 17, nF 19 18 t3, kF 20 18 (.bin .gtr t19 (ci 0)), nF 21 18 t20, nT 22 21 t0, nT 23 21 t3, kT 24 21 (.bin .sub t23 (ci 1)), kT 25 21 (.iad t22 t24 1), kT 26 21 (.ld t25 1 false), nT 27 21 t4, ⟨(some 28), (some (21, true)), (.call true 73 [t26, t27])⟩, kT 29 21 (.bin .geq t28 (ci 0)), kF 30 18 (.pick t21 t29 cf), pT 31 (.pick t18 ct t30)] (.cond t31 (sr [pT 2 (.mv cf)] .ret) .skip)))) (.reg [bT 32 .add t10 (ci 1), mvt 10 32]))))))) (sr [pT 2 (.mv ct)] .ret))))
theorem c31_ : IsF Tryz.prog 31 c31 [(.tmp 2)] := ⟨by kernel_rfl, by kernel_rfl⟩

def F_impl_ValidPhrases_l0 (v0 : List (List Int)) (k0 : Int → Option (Bool)) : Int → Option (Bool)
 | x1 => (bif (decide (x1 < (v0.length : Int))) then ((ix v0 x1).bind fun u0 => ((F_impl_phraseOk u0).bind fun u1 => (bif (!u1) then some false
 else (bif (decide ((0 : Int) < x1)) then ((ix v0 (w64 (x1 - 1))).bind fun u2 => ((F_slices_Compare_Sint64_int64 u2 u0).bind fun u3 => (bif (decide ((0 : Int) ≤ u3)) then some false
 else k0 (w64 (x1 + 1)))))
 else k0 (w64 (x1 + 1))))))
 else some true)
def F_impl_ValidPhrases (v0 : List (List Int)) : Option (Bool) :=
 (bif (decide ((12 : Int) < (v0.length : Int))) then some false
 else loop (F_impl_ValidPhrases_l0 v0) 0)
@[simp] abbrev K4p (v0 : List (List Int)) : V := .sl 1 (v0.map (eL 1 vI))
@[simp] abbrev K4q (u0 : List Int) : AV := AL 1 (u0.map vI)
@[simp] def res_impl_ValidPhrases (r : Bool) : RV := .one (.one (.val (.bool r)))
theorem con_impl_ValidPhrases {v0 : List (List Int)} {r : Bool} (hF : F_impl_ValidPhrases v0 = some r) : Con Tryz.prog 31 [.sl 1 (v0.map (eL 1 vI))] (res_impl_ValidPhrases r) := by
 unfold F_impl_ValidPhrases at hF
 refine con_of c31_.1 fun N => ?_
 refine ws 0 64 (qp (AB false) rfl (r_nil (w_seq (ws 64 256 (qp (.val none (K4p v0)) rfl (qp (AI (v0.length : Int)) (ev_len_n rfl) (qp (AB (decide ((12 : Int) < (v0.length : Int)))) rfl (r_nil (cF hF (fun hF => ws 256 320 (qp (AB false) rfl (r_nil (w_ret (thenQ_r (eQ hF)))))) fun hF => ?_)))))))))
 refine w_skip (thenQ_n (w_seq (ws 256 448 (qp (.val none (K4p v0)) rfl (qp (AI (v0.length : Int)) (ev_len_n rfl) (qp (AI 0) rfl (r_nil (w_block ?_))))))))
 refine wr (l' := [(0, .val none (K4p v0)), (8, .val none (K4p v0)), (9, AI (v0.length : Int)), (10, AI 0)]) (L := []) [0, 8, 9, 10] [] 1 ?_
 refine w_loopF (F_impl_ValidPhrases_l0 v0) (fun s : Int => mkS [(0, .val none (K4p v0)), (8, .val none (K4p v0)), (9, AI (v0.length : Int)), (10, AI s)] (fo []) 1) hF ?_
 rintro k0 x1 hF
 rw [F_impl_ValidPhrases_l0] at hF
 try dsimp only
 refine ws 1 65 (qp (AB (decide (x1 < (v0.length : Int)))) rfl (r_nil (w_seq ?_)))
 refine cF hF (fun hF => ?_) fun hF => ?_
 ·
  refine w_skip (thenQ_n (w_seq (w_block (ws 65 385 (qp (AI x1) rfl (bk hF fun u0 e0 hF => qp (.val none (.ptr [.sl 1 (u0.map vI)])) (ev_iad_n rfl rfl e0 rfl) (qp (K4q u0) rfl (qp (AI x1) rfl (qp (K4q u0) rfl (r_nil (ws 385 1473 (qp (K4q u0) rfl (bk hF fun u1 e1 hF => qC (AB u1) [] (con_impl_phraseOk e1) c78_ (qp (AB (!u1)) rfl (qp (AB (!u1)) rfl ?_)))))))))))))))
  refine q_case 18 hF rfl (fun hF => ?_) (fun hF => ?_)
  ·
   refine qn3 (qu rfl (qu rfl (qu rfl (qu rfl (qu rfl (qu rfl (qu rfl (qu rfl (qn rfl (qp (AB true) rfl (r_nil (w_true rfl (ws 1473 1537 ?_)))))))))))))
   exact qp (AB false) rfl (r_nil (w_ret (blockQ_r (thenQ_r (thenQ_r (blockQ_r (thenQ_r (eQ hF))))))))
  refine qg (AI x1) rfl rfl (qg (AB (decide ((0 : Int) < x1))) rfl rfl (qg (AB (decide ((0 : Int) < x1))) rfl rfl ?_))
  refine q_case 21 hF rfl (fun hF => ?_) (fun hF => ?_)
  ·
   refine qg (.val none (K4p v0)) rfl rfl (qg (AI x1) rfl rfl (qg (AI (w64 (x1 - 1))) rfl rfl (bk hF fun u2 e2 hF => qg (.val none (.ptr [.sl 1 (u2.map vI)])) rfl (ev_iad_n rfl rfl e2 rfl) (qg (AL 1 (u2.map vI)) rfl rfl (qg (K4q u0) rfl rfl (bk hF fun u3 e3 hF => qG (AI u3) [] (con_slices_Compare_Sint64_int64 e3) c73_ (qg (AB (decide ((0 : Int) ≤ u3))) rfl rfl (qg (AB (decide ((0 : Int) ≤ u3))) rfl rfl (qp (AB (decide ((0 : Int) ≤ u3))) rfl (r_nil ?_))))))))))
   refine cF hF (fun hF => ws 1473 1537 (qp (AB false) rfl (r_nil (w_ret (blockQ_r (thenQ_r (thenQ_r (blockQ_r (thenQ_r (eQ hF)))))))))) fun hF => ?_
   refine w_skip (blockQ_n (thenQ_n (w_reg 1473 1601 rfl rfl (qp (AI (w64 (x1 + 1))) rfl (qp (AI (w64 (x1 + 1))) rfl (r_nil (thenQ_n ?_)))))))
   refine ar (l' := [(0, .val none (K4p v0)), (8, .val none (K4p v0)), (9, AI (v0.length : Int)), (10, AI (w64 (x1 + 1)))]) (L := []) [0, 8, 9, 10] [] 1 ⟨_, by rfl, hF⟩
  refine qn8 (qg (AB false) rfl rfl (qp (AB false) rfl (r_nil (w_false rfl (w_skip (blockQ_n (thenQ_n (w_reg 1473 1601 rfl rfl (qp (AI (w64 (x1 + 1))) rfl (qp (AI (w64 (x1 + 1))) rfl (r_nil ?_)))))))))))
  refine thenQ_n ?_
  refine ar (l' := [(0, .val none (K4p v0)), (8, .val none (K4p v0)), (9, AI (v0.length : Int)), (10, AI (w64 (x1 + 1)))]) (L := []) [0, 8, 9, 10] [] 1 ⟨_, by rfl, hF⟩
 exact w_exit (thenQ_e (thenQ_e (blockQ_e (thenQ_n (ws 65 129 (qp (AB true) rfl (rR hF)))))))

def c79 : MC := (sr [rg 1 (.f (.box t0)), pT 2 (.mv cf)] (sr [pT 3 (.fad t1 0), lT 4 3, dT 5 69 [t4], mvt 6 5, kT 7 6 (.fad t1 0), kT 8 6 (.ld t7 1 false), kT 9 6 (.lens t8), kT 10 6 (.bin .leq t9 (ci 6)), pT 11 (.pick t6 t10 cf), mvt 12 11, kT 13 12 (.fad t1 1), kT 14 12 (.ld t13 1 false), ⟨(some 15), (some (12, true)), (.call true 85 [t14, (ci 1), (ci 3)])⟩, pT 16 (.pick t12 t15 cf), mvt 17 16, kT 18 17 (.fad t1 2), kT 19 17 (.ld t18 1 false), ⟨(some 20), (some (17, true)), (.call true 85 [t19, (ci 1), (ci 8)])⟩, pT 21 (.pick t17 t20 cf), mvt 2 21] .ret))
theorem c79_ : IsF Tryz.prog 79 c79 [(.tmp 2)] := ⟨by kernel_rfl, by kernel_rfl⟩

def F_impl_ValidSyllable (v0 : TSyllable) : Option (Bool) :=
 ((F_impl_IsName v0.1).bind fun u0 => (bif u0 then (bif (decide ((v0.1.length : Int) ≤ (6 : Int))) then ((F_impl_within v0.2.1 1 3).bind fun u1 => (bif u1 then ((F_impl_within v0.2.2 1 8).bind fun u2 => some u2)
 else some false))
 else some false)
 else some false))
@[simp] abbrev K4r (v0 : TSyllable) : List (Nat × Root) := [(0, .box [AS v0.1, AI v0.2.1, AI v0.2.2])]
@[simp] def res_impl_ValidSyllable (r : Bool) : RV := .one (.one (.val (.bool r)))
theorem con_impl_ValidSyllable {v0 : TSyllable} {r : Bool} (hF : F_impl_ValidSyllable v0 = some r) : Con Tryz.prog 79 [eSyllable v0] (res_impl_ValidSyllable r) := by
 unfold F_impl_ValidSyllable at hF
 refine con_of c79_.1 fun N => ?_
 refine ws 0 128 (qf (.ptr 0 0 0) (K4r v0) (by simp) (qp (AB false) rfl (r_nil (ws 128 1408 (qp (.ptr 0 0 0) rfl (qp (AS v0.1) rfl (bk hF fun u0 e0 hF => qC (AB u0) (K4r v0) (con_impl_IsName e0) c69_ (qp (AB u0) rfl ?_))))))))
 refine q_case 6 hF rfl (fun hF => ?_) (fun hF => ?_)
 ·
  refine qg (.ptr 0 0 0) rfl rfl (qg (AS v0.1) rfl rfl (qg (AI (v0.1.length : Int)) rfl rfl (qg (AB (decide ((v0.1.length : Int) ≤ (6 : Int)))) rfl rfl (qp (AB (decide ((v0.1.length : Int) ≤ (6 : Int)))) rfl (qp (AB (decide ((v0.1.length : Int) ≤ (6 : Int)))) rfl ?_)))))
  refine q_case 12 hF rfl (fun hF => ?_) (fun hF => ?_)
  ·
   refine qg (.ptr 0 0 1) rfl rfl (qg (AI v0.2.1) rfl rfl (bk hF fun u1 e1 hF => qG (AB u1) (K4r v0) (con_impl_within e1) c85_ (qp (AB u1) rfl (qp (AB u1) rfl (q_case 17 hF rfl (fun hF => qg (.ptr 0 0 2) rfl rfl (qg (AI v0.2.2) rfl rfl (bk hF fun u2 e2 hF => qG (AB u2) (K4r v0) (con_impl_within e2) c85_ (qp (AB u2) rfl (qp (AB u2) rfl (rR hF)))))) fun hF => ?_)))))
   exact qn3 (qp (AB false) rfl (qp (AB false) rfl (rR hF)))
  exact qn3 (qp (AB false) rfl (qp (AB false) rfl (qn3 (qp (AB false) rfl (qp (AB false) rfl (rR hF))))))
 exact qn4 (qp (AB false) rfl (qp (AB false) rfl (qn2 (qn rfl (qp (AB false) rfl (qp (AB false) rfl (qn rfl (qn rfl (qn rfl (qp (AB false) rfl (qp (AB false) rfl (rR hF))))))))))))

def c32 : MC := (sr [pT 2 (.mv cf)] (.seq (sr [mvt 5 0, zT 6 5, bT 7 .gtr t6 (ci 16)] (.cond t7 (sr [pT 2 (.mv cf)] .ret) .skip)) (.seq (sr [mvt 8 0, zT 9 8, pT 10 (.mv (ci 0))] (.block 0 (.loop (sr [bT 11 .lss t10 t9] (.seq (cx t11 0) (.seq (.block 1 (sr [mvt 12 10, iT 13 8 10 3, pT 14 (.ld t13 3 true), rg 4 (.f (.alloc [((.str []), (0, false)), ((.int .i64 0), (0, false)), ((.int .i64 0), (0, false))])), mvt 3 12, ⟨none, none, (.f (.st t4 t14 3))⟩] (sr [pF 15 (.ld t4 3 true), dF 16 79 [t15], pF 17 (.not t16), mP 18 t17, mF 19 18 t3, bH 20 18 .gtr t19 (ci 0), mF 21 18 t20, gT 22 21 (.fad t4 0), lG 23 21 22, mT 24 21 t0, mT 25 21 t3, bG 26 21 .sub t25 (ci 1), iG 27 21 24 26 3, gT 28 21 (.fad t27 0), lG 29 21 28, bG 30 21 .leq t23 t29, gF 31 18 (.pick t21 t30 cf), pF 32 (.pick t18 ct t31)] (.cond t32 (sr [pT 2 (.mv cf)] .ret) .skip)))) (.reg [bT 33 .add t10 (ci 1), mvt 10 33]))))))) (sr [pT 2 (.mv ct)] .ret))))
theorem c32_ : IsF Tryz.prog 32 c32 [(.tmp 2)] := ⟨by kernel_rfl, by kernel_rfl⟩

def F_impl_ValidSyllables_l0 (v0 : List TSyllable) (k0 : Int → Option (Bool)) : Int → Option (Bool)
 | x1 => (bif (decide (x1 < (v0.length : Int))) then ((ix v0 x1).bind fun u0 => ((F_impl_ValidSyllable u0).bind fun u1 => (bif (!u1) then some false
 else (bif (decide ((0 : Int) < x1)) then ((ix v0 (w64 (x1 - 1))).bind fun u2 => (bif (Op.bytesLess u0.1 u2.1 || decide (u0.1 = u2.1)) then some false
 else k0 (w64 (x1 + 1))))
 else k0 (w64 (x1 + 1))))))
 else some true)
def F_impl_ValidSyllables (v0 : List TSyllable) : Option (Bool) :=
 (bif (decide ((16 : Int) < (v0.length : Int))) then some false
 else loop (F_impl_ValidSyllables_l0 v0) 0)
@[simp] abbrev K4s (u0 : TSyllable) : List (Nat × Root) := [(257, .box [AS u0.1, AI u0.2.1, AI u0.2.2]), (257, .box [AS [], AI 0, AI 0])]
@[simp] abbrev K4t (v0 : List TSyllable) : V := .sl 3 (v0.map eSyllable)
@[simp] def res_impl_ValidSyllables (r : Bool) : RV := .one (.one (.val (.bool r)))
theorem con_impl_ValidSyllables {v0 : List TSyllable} {r : Bool} (hF : F_impl_ValidSyllables v0 = some r) : Con Tryz.prog 32 [.sl 3 (v0.map eSyllable)] (res_impl_ValidSyllables r) := by
 unfold F_impl_ValidSyllables at hF
 refine con_of c32_.1 fun N => ?_
 refine ws 0 64 (qp (AB false) rfl (r_nil (w_seq (ws 64 256 (qp (.val none (K4t v0)) rfl (qp (AI (v0.length : Int)) (ev_len_n rfl) (qp (AB (decide ((16 : Int) < (v0.length : Int)))) rfl (r_nil (cF hF (fun hF => ws 256 320 (qp (AB false) rfl (r_nil (w_ret (thenQ_r (eQ hF)))))) fun hF => ?_)))))))))
 refine w_skip (thenQ_n (w_seq (ws 256 448 (qp (.val none (K4t v0)) rfl (qp (AI (v0.length : Int)) (ev_len_n rfl) (qp (AI 0) rfl (r_nil (w_block ?_))))))))
 refine wr (l' := [(0, .val none (K4t v0)), (8, .val none (K4t v0)), (9, AI (v0.length : Int)), (10, AI 0)]) (L := []) [0, 8, 9, 10] [] 1 ?_
 refine w_loopF (F_impl_ValidSyllables_l0 v0) (fun s : Int => mkS [(0, .val none (K4t v0)), (8, .val none (K4t v0)), (9, AI (v0.length : Int)), (10, AI s)] (fo []) 1) hF ?_
 rintro k0 x1 hF
 rw [F_impl_ValidSyllables_l0] at hF
 try dsimp only
 refine ws 1 65 (qp (AB (decide (x1 < (v0.length : Int)))) rfl (r_nil (w_seq ?_)))
 refine cF hF (fun hF => ?_) fun hF => ?_
 ·
  refine w_skip (thenQ_n (w_seq (w_block (ws 65 449 (qp (AI x1) rfl (bk hF fun u0 e0 hF => qp (.val none (.ptr [.str u0.1, .int .i64 u0.2.1, .int .i64 u0.2.2])) (ev_iad_n rfl rfl e0 rfl) (qp (.val none (eSyllable u0)) rfl (qf (.ptr 257 0 0) [(257, .box [AS [], AI 0, AI 0])] (by simp) (qp (AI x1) rfl (qf0 (.undef) (K4s u0) (by simp) (r_nil (ws 449 1601 (qp (.agg [AS u0.1, AI u0.2.1, AI u0.2.2]) rfl (bk hF fun u1 e1 hF => qC (AB u1) (K4s u0) (con_impl_ValidSyllable e1) c79_ ?_))))))))))))))
  refine qp (AB (!u1)) rfl (qp (AB (!u1)) rfl ?_)
  refine q_case 18 hF rfl (fun hF => ?_) (fun hF => ?_)
  ·
   refine qn3 (qu rfl (qu rfl (qu rfl (qu rfl (qu rfl (qu rfl (qu rfl (qu rfl (qu rfl (qn rfl (qp (AB true) rfl (r_nil (w_true rfl ?_)))))))))))))
   exact ws 1601 1665 (qp (AB false) rfl (r_nil (w_ret (blockQ_r (thenQ_r (thenQ_r (blockQ_r (thenQ_r (eQ hF)))))))))
  refine qg (AI x1) rfl rfl (qg (AB (decide ((0 : Int) < x1))) rfl rfl (qg (AB (decide ((0 : Int) < x1))) rfl rfl ?_))
  refine q_case 21 hF rfl (fun hF => ?_) (fun hF => ?_)
  ·
   refine qg (.ptr 257 0 0) rfl rfl (qg (AS u0.1) rfl rfl (qg (.val none (K4t v0)) rfl rfl (qg (AI x1) rfl rfl (qg (AI (w64 (x1 - 1))) rfl rfl (bk hF fun u2 e2 hF => qg (.val none (.ptr [.str u2.1, .int .i64 u2.2.1, .int .i64 u2.2.2])) rfl (ev_iad_n rfl rfl e2 rfl) (qg (.val none (.ptr [.str u2.1, .int .i64 u2.2.1, .int .i64 u2.2.2])) rfl rfl (qg (AS u2.1) rfl rfl (qg (AB (Op.bytesLess u0.1 u2.1 || decide (u0.1 = u2.1))) rfl rfl (qg (AB (Op.bytesLess u0.1 u2.1 || decide (u0.1 = u2.1))) rfl rfl (qp (AB (Op.bytesLess u0.1 u2.1 || decide (u0.1 = u2.1))) rfl (r_nil ?_)))))))))))
   refine cF hF (fun hF => ws 1601 1665 (qp (AB false) rfl (r_nil (w_ret (blockQ_r (thenQ_r (thenQ_r (blockQ_r (thenQ_r (eQ hF)))))))))) fun hF => ?_
   refine w_skip (blockQ_n (thenQ_n (w_reg 1601 1729 rfl rfl (qp (AI (w64 (x1 + 1))) rfl (qp (AI (w64 (x1 + 1))) rfl (r_nil (thenQ_n ?_)))))))
   refine ar (l' := [(0, .val none (K4t v0)), (8, .val none (K4t v0)), (9, AI (v0.length : Int)), (10, AI (w64 (x1 + 1)))]) (L := []) [0, 8, 9, 10] [] 1 ⟨_, by rfl, hF⟩
  refine qn8 (qn rfl (qg (AB false) rfl rfl (qp (AB false) rfl (r_nil (w_false rfl (w_skip (blockQ_n (thenQ_n (w_reg 1601 1729 rfl rfl (qp (AI (w64 (x1 + 1))) rfl (qp (AI (w64 (x1 + 1))) rfl ?_)))))))))))
  refine r_nil (thenQ_n ?_)
  refine ar (l' := [(0, .val none (K4t v0)), (8, .val none (K4t v0)), (9, AI (v0.length : Int)), (10, AI (w64 (x1 + 1)))]) (L := []) [0, 8, 9, 10] [] 1 ⟨_, by rfl, hF⟩
 exact w_exit (thenQ_e (thenQ_e (blockQ_e (thenQ_n (ws 65 129 (qp (AB true) rfl (rR hF)))))))

def c80 : MC := (sr [pT 2 (.mv cf)] (sr [mvt 3 0, dT 4 85 [t3, (ci 10), (ci 600)], mvt 2 4] .ret))
theorem c80_ : IsF Tryz.prog 80 c80 [(.tmp 2)] := ⟨by kernel_rfl, by kernel_rfl⟩

def F_impl_tempoOk (v0 : Int) : Option (Bool) :=
 ((F_impl_within v0 10 600).bind fun u0 => some u0)
@[simp] def res_impl_tempoOk (r : Bool) : RV := .one (.one (.val (.bool r)))
theorem con_impl_tempoOk {v0 : Int} {r : Bool} (hF : F_impl_tempoOk v0 = some r) : Con Tryz.prog 80 [.int .i64 v0] (res_impl_tempoOk r) := by
 unfold F_impl_tempoOk at hF
 refine con_of c80_.1 fun N => ?_
 exact ws 0 64 (qp (AB false) rfl (r_nil (ws 64 256 (qp (AI v0) rfl (bk hF fun u0 e0 hF => qC (AB u0) [] (con_impl_within e0) c85_ (qp (AB u0) rfl (rR hF)))))))

def c33 : MC := (sr [pT 2 (.mv cf)] (.seq (sr [mvt 5 0, zT 6 5, bT 7 .lss t6 (ci 1), mvt 8 7, nF 9 8 t0, kF 10 8 (.len t9), kF 11 8 (.bin .gtr t10 (ci 16)), pT 12 (.pick t8 ct t11), mvt 13 12, nF 14 13 t0, kF 15 13 (.iad t14 (ci 0) 2), kF 16 13 (.fad t15 0), kF 17 13 (.ld t16 1 false), kF 18 13 (.bin .neq t17 (ci 0)), pT 19 (.pick t13 ct t18)] (.cond t19 (sr [pT 2 (.mv cf)] .ret) .skip)) (.seq (sr [mvt 20 0, zT 21 20, pT 22 (.mv (ci 0))] (.block 0 (.loop (sr [bT 23 .lss t22 t21] (.seq (cx t23 0) (.seq (.block 1 (sr [mvt 24 22, iT 25 20 22 2, pT 26 (.ld t25 2 true), rg 4 (.f (.alloc [((.int .i64 0), (0, false)), ((.int .i64 0), (0, false))])), mvt 3 24, ⟨none, none, (.f (.st t4 t26 2))⟩] (sr [pF 27 (.fad t4 1), lF 28 27, dF 29 80 [t28], pF 30 (.not t29), mP 31 t30, gF 32 31 (.fad t4 0), lH 33 31 32, bH 34 31 .gtr t33 (ci 2000), pF 35 (.pick t31 ct t34), mP 36 t35, mF 37 36 t3, bH 38 36 .gtr t37 (ci 0), mF 39 36 t38, gT 40 39 (.fad t4 0), lG 41 39 40, mT 42 39 t0, mT 43 39 t3, bG 44 39 .sub t43 (ci 1), iG 45 39 42 44 2, gT 46 39 (.fad t45 0), lG 47 39 46, bG 48 39 .leq t41 t47, gF 49 36 (.pick t39 t48 cf), pF 50 (.pick t36 ct t49)] (.cond t50 (sr [pT 2 (.mv cf)] .ret) .skip)))) (.reg [bT 51 .add t22 (ci 1), mvt 22 51]))))))) (sr [pT 2 (.mv ct)] .ret))))
theorem c33_ : IsF Tryz.prog 33 c33 [(.tmp 2)] := ⟨by kernel_rfl, by kernel_rfl⟩

def F_impl_ValidTempo_l0 (v0 : List TNote) (k1 : Int → Option (Bool)) : Int → Option (Bool)
 | x3 => (bif (decide (x3 < (v0.length : Int))) then ((ix v0 x3).bind fun u7 => ((F_impl_tempoOk u7.2).bind fun u8 => (bif (!u8) then some false
 else (bif (decide ((2000 : Int) < u7.1)) then some false
 else (bif (decide ((0 : Int) < x3)) then ((ix v0 (w64 (x3 - 1))).bind fun u9 => (bif (decide (u7.1 ≤ u9.1)) then some false
 else k1 (w64 (x3 + 1))))
 else k1 (w64 (x3 + 1)))))))
 else some true)
def F_impl_ValidTempo (v0 : List TNote) : Option (Bool) :=
 (bif (decide ((v0.length : Int) < (1 : Int))) then some false
 else (bif (decide ((16 : Int) < (v0.length : Int))) then some false
 else ((ix v0 0).bind fun u0 => (bif (decide (u0.1 ≠ (0 : Int))) then some false
 else loop (F_impl_ValidTempo_l0 v0) 0))))
@[simp] abbrev K4u (u7 : TNote) : List (Nat × Root) := [(257, .box [AI u7.1, AI u7.2]), (257, .box [AI 0, AI 0])]
@[simp] abbrev K4v (v0 : List TNote) : V := .sl 2 (v0.map eNote)
@[simp] def res_impl_ValidTempo (r : Bool) : RV := .one (.one (.val (.bool r)))
theorem con_impl_ValidTempo {v0 : List TNote} {r : Bool} (hF : F_impl_ValidTempo v0 = some r) : Con Tryz.prog 33 [.sl 2 (v0.map eNote)] (res_impl_ValidTempo r) := by
 unfold F_impl_ValidTempo at hF
 refine con_of c33_.1 fun N => ?_
 refine ws 0 64 (qp (AB false) rfl (r_nil (w_seq (ws 64 1024 (qp (.val none (K4v v0)) rfl (qp (AI (v0.length : Int)) (ev_len_n rfl) (qp (AB (decide ((v0.length : Int) < (1 : Int)))) rfl (qp (AB (decide ((v0.length : Int) < (1 : Int)))) rfl ?_))))))))
 refine q_case 8 hF rfl (fun hF => qn3 (qp (AB true) rfl (qp (AB true) rfl (qn3 (qn2 (qp (AB true) rfl (r_nil (w_true rfl (ws 1024 1088 (qp (AB false) rfl (r_nil (w_ret (thenQ_r (eQ hF)))))))))))))) fun hF => ?_
 refine qg (.val none (K4v v0)) rfl rfl (qg (AI (v0.length : Int)) rfl (ev_len_n rfl) (qg (AB (decide ((16 : Int) < (v0.length : Int)))) rfl rfl (qp (AB (decide ((16 : Int) < (v0.length : Int)))) rfl (qp (AB (decide ((16 : Int) < (v0.length : Int)))) rfl (q_case 13 hF rfl (fun hF => qn5 (qp (AB true) rfl (r_nil (w_true rfl (ws 1024 1088 (qp (AB false) rfl (r_nil (w_ret (thenQ_r (eQ hF)))))))))) fun hF => ?_)))))
 refine qg (.val none (K4v v0)) rfl rfl (bk hF fun u0 e0 hF => qg (.val none (.ptr [.int .i64 u0.1, .int .i64 u0.2])) rfl (ev_iad_n rfl rfl e0 rfl) (qg (.val none (.ptr [.int .i64 u0.1, .int .i64 u0.2])) rfl rfl (qg (AI u0.1) rfl rfl (qg (AB (decide (u0.1 ≠ (0 : Int)))) rfl rfl (qp (AB (decide (u0.1 ≠ (0 : Int)))) rfl (r_nil (cF hF (fun hF => ws 1024 1088 (qp (AB false) rfl (r_nil (w_ret (thenQ_r (eQ hF)))))) fun hF => ?_)))))))
 refine w_skip (thenQ_n (w_seq (ws 1024 1216 (qp (.val none (K4v v0)) rfl (qp (AI (v0.length : Int)) (ev_len_n rfl) (qp (AI 0) rfl (r_nil (w_block ?_))))))))
 refine wr (l' := [(0, .val none (K4v v0)), (20, .val none (K4v v0)), (21, AI (v0.length : Int)), (22, AI 0)]) (L := []) [0, 20, 21, 22] [] 1 ?_
 refine w_loopF (F_impl_ValidTempo_l0 v0) (fun s : Int => mkS [(0, .val none (K4v v0)), (20, .val none (K4v v0)), (21, AI (v0.length : Int)), (22, AI s)] (fo []) 1) hF ?_
 rintro k1 x3 hF
 rw [F_impl_ValidTempo_l0] at hF
 try dsimp only
 refine ws 1 65 (qp (AB (decide (x3 < (v0.length : Int)))) rfl (r_nil (w_seq ?_)))
 refine cF hF (fun hF => ?_) fun hF => ?_
 ·
  refine w_skip (thenQ_n (w_seq (w_block (ws 65 449 (qp (AI x3) rfl (bk hF fun u7 e7 hF => qp (.val none (.ptr [.int .i64 u7.1, .int .i64 u7.2])) (ev_iad_n rfl rfl e7 rfl) (qp (.val none (eNote u7)) rfl (qf (.ptr 257 0 0) [(257, .box [AI 0, AI 0])] (by simp) (qp (AI x3) rfl (qf0 (.undef) (K4u u7) (by simp) (r_nil (ws 449 1985 (qp (.ptr 257 0 1) rfl (qp (AI u7.2) rfl (bk hF fun u8 e8 hF => ?_)))))))))))))))
  refine qC (AB u8) (K4u u7) (con_impl_tempoOk e8) c80_ (qp (AB (!u8)) rfl (qp (AB (!u8)) rfl ?_))
  refine q_case 31 hF rfl (fun hF => ?_) (fun hF => ?_)
  ·
   refine qn3 (qp (AB true) rfl (qp (AB true) rfl (qn3 (qu rfl (qu rfl (qu rfl (qu rfl (qu rfl (qu rfl (qu rfl (qu rfl ?_)))))))))))
   exact qu rfl (qn rfl (qp (AB true) rfl (r_nil (w_true rfl (ws 1985 2049 (qp (AB false) rfl (r_nil (w_ret (blockQ_r (thenQ_r (thenQ_r (blockQ_r (thenQ_r (eQ hF))))))))))))))
  refine qg (.ptr 257 0 0) rfl rfl (qg (AI u7.1) rfl rfl (qg (AB (decide ((2000 : Int) < u7.1))) rfl rfl (qp (AB (decide ((2000 : Int) < u7.1))) rfl (qp (AB (decide ((2000 : Int) < u7.1))) rfl ?_))))
  refine q_case 36 hF rfl (fun hF => ?_) (fun hF => ?_)
  ·
   refine qn3 (qu rfl (qu rfl (qu rfl (qu rfl (qu rfl (qu rfl (qu rfl (qu rfl (qu rfl (qn rfl (qp (AB true) rfl (r_nil (w_true rfl ?_)))))))))))))
   exact ws 1985 2049 (qp (AB false) rfl (r_nil (w_ret (blockQ_r (thenQ_r (thenQ_r (blockQ_r (thenQ_r (eQ hF)))))))))
  refine qg (AI x3) rfl rfl (qg (AB (decide ((0 : Int) < x3))) rfl rfl (qg (AB (decide ((0 : Int) < x3))) rfl rfl ?_))
  refine q_case 39 hF rfl (fun hF => ?_) (fun hF => ?_)
  ·
   refine qg (.ptr 257 0 0) rfl rfl (qg (AI u7.1) rfl rfl (qg (.val none (K4v v0)) rfl rfl (qg (AI x3) rfl rfl (qg (AI (w64 (x3 - 1))) rfl rfl (bk hF fun u9 e9 hF => qg (.val none (.ptr [.int .i64 u9.1, .int .i64 u9.2])) rfl (ev_iad_n rfl rfl e9 rfl) (qg (.val none (.ptr [.int .i64 u9.1, .int .i64 u9.2])) rfl rfl (qg (AI u9.1) rfl rfl (qg (AB (decide (u7.1 ≤ u9.1))) rfl rfl (qg (AB (decide (u7.1 ≤ u9.1))) rfl rfl (qp (AB (decide (u7.1 ≤ u9.1))) rfl (r_nil ?_)))))))))))
   refine cF hF (fun hF => ws 1985 2049 (qp (AB false) rfl (r_nil (w_ret (blockQ_r (thenQ_r (thenQ_r (blockQ_r (thenQ_r (eQ hF)))))))))) fun hF => ?_
   refine w_skip (blockQ_n (thenQ_n (w_reg 1985 2113 rfl rfl (qp (AI (w64 (x3 + 1))) rfl (qp (AI (w64 (x3 + 1))) rfl (r_nil (thenQ_n ?_)))))))
   refine ar (l' := [(0, .val none (K4v v0)), (20, .val none (K4v v0)), (21, AI (v0.length : Int)), (22, AI (w64 (x3 + 1)))]) (L := []) [0, 20, 21, 22] [] 1 ⟨_, by rfl, hF⟩
  refine qn8 (qn rfl (qg (AB false) rfl rfl (qp (AB false) rfl (r_nil (w_false rfl (w_skip (blockQ_n (thenQ_n (w_reg 1985 2113 rfl rfl (qp (AI (w64 (x3 + 1))) rfl (qp (AI (w64 (x3 + 1))) rfl ?_)))))))))))
  refine r_nil (thenQ_n ?_)
  refine ar (l' := [(0, .val none (K4v v0)), (20, .val none (K4v v0)), (21, AI (v0.length : Int)), (22, AI (w64 (x3 + 1)))]) (L := []) [0, 20, 21, 22] [] 1 ⟨_, by rfl, hF⟩
 exact w_exit (thenQ_e (thenQ_e (blockQ_e (thenQ_n (ws 65 129 (qp (AB true) rfl (rR hF)))))))

def c123 : MC := (sr [pT 2 (.mv cf)] (sr [mvt 3 0, dT 4 85 [t3, (ci 0), (ci 1439)], mvt 2 4] .ret))
theorem c123_ : IsF Tryz.prog 123 c123 [(.tmp 2)] := ⟨by kernel_rfl, by kernel_rfl⟩

def F_impl_minuteOk (v0 : Int) : Option (Bool) :=
 ((F_impl_within v0 0 1439).bind fun u0 => some u0)
@[simp] def res_impl_minuteOk (r : Bool) : RV := .one (.one (.val (.bool r)))
theorem con_impl_minuteOk {v0 : Int} {r : Bool} (hF : F_impl_minuteOk v0 = some r) : Con Tryz.prog 123 [.int .i64 v0] (res_impl_minuteOk r) := by
 unfold F_impl_minuteOk at hF
 refine con_of c123_.1 fun N => ?_
 exact ws 0 64 (qp (AB false) rfl (r_nil (ws 64 256 (qp (AI v0) rfl (bk hF fun u0 e0 hF => qC (AB u0) [] (con_impl_within e0) c85_ (qp (AB u0) rfl (rR hF)))))))

def c81 : MC := (sr [rg 1 (.f (.box t0)), pT 2 (.mv cf)] (sr [pT 3 (.fad t1 0), lT 4 3, dT 5 69 [t4], mvt 6 5, kT 7 6 (.fad t1 1), kT 8 6 (.ld t7 1 false), ⟨(some 9), (some (6, true)), (.call true 123 [t8])⟩, pT 10 (.pick t6 t9 cf), mvt 11 10, kT 12 11 (.fad t1 2), kT 13 11 (.ld t12 1 false), ⟨(some 14), (some (11, true)), (.call true 123 [t13])⟩, pT 15 (.pick t11 t14 cf), mvt 16 15, kT 17 16 (.fad t1 1), kT 18 16 (.ld t17 1 false), kT 19 16 (.fad t1 2), kT 20 16 (.ld t19 1 false), kT 21 16 (.bin .neq t18 t20), pT 22 (.pick t16 t21 cf), mvt 23 22, kT 24 23 (.fad t1 3), kT 25 23 (.ld t24 1 false), ⟨(some 26), (some (23, true)), (.call true 85 [t25, (ci (-1)), (ci 5)])⟩, pT 27 (.pick t23 t26 cf), mvt 28 27, kT 29 28 (.fad t1 4), kT 30 28 (.ld t29 1 false), ⟨(some 31), (some (28, true)), (.call true 85 [t30, (ci 1), (ci 240)])⟩, pT 32 (.pick t28 t31 cf), mvt 33 32, kT 34 33 (.fad t1 5), kT 35 33 (.ld t34 1 false), ⟨(some 36), (some (33, true)), (.call true 85 [t35, (ci 0), (ci 1000)])⟩, pT 37 (.pick t33 t36 cf), mvt 2 37] .ret))
theorem c81_ : IsF Tryz.prog 81 c81 [(.tmp 2)] := ⟨by kernel_rfl, by kernel_rfl⟩

def F_impl_ValidItem (v0 : TItem) : Option (Bool) :=
 ((F_impl_IsName v0.1).bind fun u0 => (bif u0 then ((F_impl_minuteOk v0.2.1).bind fun u1 => (bif u1 then ((F_impl_minuteOk v0.2.2.1).bind fun u2 => (bif u2 then (bif (decide (v0.2.1 ≠ v0.2.2.1)) then ((F_impl_within v0.2.2.2.1 (-1) 5).bind fun u3 => (bif u3 then ((F_impl_within v0.2.2.2.2.1 1 240).bind fun u4 => (bif u4 then ((F_impl_within v0.2.2.2.2.2 0 1000).bind fun u5 => some u5)
 else some false))
 else some false))
 else some false)
 else some false))
 else some false))
 else some false))
@[simp] abbrev K4w (v0 : TItem) : List (Nat × Root) := [(0, .box [AS v0.1, AI v0.2.1, AI v0.2.2.1, AI v0.2.2.2.1, AI v0.2.2.2.2.1, AI v0.2.2.2.2.2])]
@[simp] def res_impl_ValidItem (r : Bool) : RV := .one (.one (.val (.bool r)))
theorem con_impl_ValidItem {v0 : TItem} {r : Bool} (hF : F_impl_ValidItem v0 = some r) : Con Tryz.prog 81 [eItem v0] (res_impl_ValidItem r) := by
 unfold F_impl_ValidItem at hF
 refine con_of c81_.1 fun N => ?_
 refine ws 0 128 (qf (.ptr 0 0 0) (K4w v0) (by simp) (qp (AB false) rfl (r_nil (ws 128 2432 (qp (.ptr 0 0 0) rfl (qp (AS v0.1) rfl (bk hF fun u0 e0 hF => qC (AB u0) (K4w v0) (con_impl_IsName e0) c69_ (qp (AB u0) rfl ?_))))))))
 refine q_case 6 hF rfl (fun hF => ?_) (fun hF => ?_)
 ·
  refine qg (.ptr 0 0 1) rfl rfl (qg (AI v0.2.1) rfl rfl (bk hF fun u1 e1 hF => qG (AB u1) (K4w v0) (con_impl_minuteOk e1) c123_ (qp (AB u1) rfl (qp (AB u1) rfl ?_))))
  refine q_case 11 hF rfl (fun hF => ?_) (fun hF => ?_)
  ·
   refine qg (.ptr 0 0 2) rfl rfl (qg (AI v0.2.2.1) rfl rfl (bk hF fun u2 e2 hF => qG (AB u2) (K4w v0) (con_impl_minuteOk e2) c123_ (qp (AB u2) rfl (qp (AB u2) rfl ?_))))
   refine q_case 16 hF rfl (fun hF => ?_) (fun hF => ?_)
   ·
    refine qg (.ptr 0 0 1) rfl rfl (qg (AI v0.2.1) rfl rfl (qg (.ptr 0 0 2) rfl rfl (qg (AI v0.2.2.1) rfl rfl (qg (AB (decide (v0.2.1 ≠ v0.2.2.1))) rfl rfl (qp (AB (decide (v0.2.1 ≠ v0.2.2.1))) rfl (qp (AB (decide (v0.2.1 ≠ v0.2.2.1))) rfl ?_))))))
    refine q_case 23 hF rfl (fun hF => ?_) (fun hF => ?_)
    ·
     refine qg (.ptr 0 0 3) rfl rfl (qg (AI v0.2.2.2.1) rfl rfl (bk hF fun u3 e3 hF => qG (AB u3) (K4w v0) (con_impl_within e3) c85_ (qp (AB u3) rfl (qp (AB u3) rfl ?_))))
     refine q_case 28 hF rfl (fun hF => ?_) (fun hF => ?_)
     ·
      refine qg (.ptr 0 0 4) rfl rfl (qg (AI v0.2.2.2.2.1) rfl rfl (bk hF fun u4 e4 hF => qG (AB u4) (K4w v0) (con_impl_within e4) c85_ (qp (AB u4) rfl (qp (AB u4) rfl (q_case 33 hF rfl (fun hF => qg (.ptr 0 0 5) rfl rfl (qg (AI v0.2.2.2.2.2) rfl rfl (bk hF fun u5 e5 hF => qG (AB u5) (K4w v0) (con_impl_within e5) c85_ (qp (AB u5) rfl (qp (AB u5) rfl (rR hF)))))) fun hF => ?_)))))
      exact qn3 (qp (AB false) rfl (qp (AB false) rfl (rR hF)))
     exact qn3 (qp (AB false) rfl (qp (AB false) rfl (qn3 (qp (AB false) rfl (qp (AB false) rfl (rR hF))))))
    exact qn3 (qp (AB false) rfl (qp (AB false) rfl (qn3 (qp (AB false) rfl (qp (AB false) rfl (qn3 (qp (AB false) rfl (qp (AB false) rfl (rR hF)))))))))
   exact qn5 (qp (AB false) rfl (qp (AB false) rfl (qn rfl (qn2 (qp (AB false) rfl (qp (AB false) rfl (qn3 (qp (AB false) rfl (qp (AB false) rfl (qn3 (qp (AB false) rfl (qp (AB false) rfl (rR hF)))))))))))))
  refine qn3 (qp (AB false) rfl (qp (AB false) rfl (qn3 (qn2 (qp (AB false) rfl (qp (AB false) rfl (qn3 (qp (AB false) rfl (qp (AB false) rfl (qn3 (qp (AB false) rfl (qp (AB false) rfl (qn2 ?_)))))))))))))
  exact qn rfl (qp (AB false) rfl (qp (AB false) rfl (rR hF)))
 refine qn3 (qp (AB false) rfl (qp (AB false) rfl (qn3 (qp (AB false) rfl (qp (AB false) rfl (qn5 (qp (AB false) rfl (qp (AB false) rfl (qn3 (qp (AB false) rfl (qp (AB false) rfl (qn2 ?_))))))))))))
 exact qn rfl (qp (AB false) rfl (qp (AB false) rfl (qn rfl (qn rfl (qn rfl (qp (AB false) rfl (qp (AB false) rfl (rR hF))))))))

def c34 : MC := (sr [pT 2 (.mv cf)] (.seq (sr [mvt 5 0, zT 6 5, bT 7 .gtr t6 (ci 12)] (.cond t7 (sr [pT 2 (.mv cf)] .ret) .skip)) (.seq (sr [mvt 8 0, zT 9 8, pT 10 (.mv (ci 0))] (.block 0 (.loop (sr [bT 11 .lss t10 t9] (.seq (cx t11 0) (.seq (.block 1 (sr [mvt 12 10, iT 13 8 10 6, pT 14 (.ld t13 6 true), rg 4 (.f (.alloc [((.str []), (0, false)), ((.int .i64 0), (0, false)), ((.int .i64 0), (0, false)), ((.int .i64 0), (0, false)), ((.int .i64 0), (0, false)), ((.int .i64 0), (0, false))])), mvt 3 12, ⟨none, none, (.f (.st t4 t14 6))⟩] (sr [pF 15 (.ld t4 6 true), dF 16 81 [t15], pF 17 (.not t16), mP 18 t17, mF 19 18 t3, bH 20 18 .gtr t19 (ci 0), mF 21 18 t20, gT 22 21 (.fad t4 0), lG 23 21 22, mT 24 21 t0, mT 25 21 t3, bG 26 21 .sub t25 (ci 1), iG 27 21 24 26 6, gT 28 21 (.fad t27 0), lG 29 21 28, bG 30 21 .leq t23 t29, gF 31 18 (.pick t21 t30 cf), pF 32 (.pick t18 ct t31)] (.cond t32 (sr [pT 2 (.mv cf)] .ret) .skip)))) (.reg [bT 33 .add t10 (ci 1), mvt 10 33]))))))) (sr [pT 2 (.mv ct)] .ret))))
theorem c34_ : IsF Tryz.prog 34 c34 [(.tmp 2)] := ⟨by kernel_rfl, by kernel_rfl⟩

def F_impl_ValidItems_l0 (v0 : List TItem) (k0 : Int → Option (Bool)) : Int → Option (Bool)
 | x1 => (bif (decide (x1 < (v0.length : Int))) then ((ix v0 x1).bind fun u0 => ((F_impl_ValidItem u0).bind fun u1 => (bif (!u1) then some false
 else (bif (decide ((0 : Int) < x1)) then ((ix v0 (w64 (x1 - 1))).bind fun u2 => (bif (Op.bytesLess u0.1 u2.1 || decide (u0.1 = u2.1)) then some false
 else k0 (w64 (x1 + 1))))
 else k0 (w64 (x1 + 1))))))
 else some true)
def F_impl_ValidItems (v0 : List TItem) : Option (Bool) :=
 (bif (decide ((12 : Int) < (v0.length : Int))) then some false
 else loop (F_impl_ValidItems_l0 v0) 0)
@[simp] abbrev K4x : List (Nat × Root) := [(257, .box [AS [], AI 0, AI 0, AI 0, AI 0, AI 0])]
@[simp] abbrev K4y (u0 : TItem) : List (Nat × Root) := ((257, .box [AS u0.1, AI u0.2.1, AI u0.2.2.1, AI u0.2.2.2.1, AI u0.2.2.2.2.1, AI u0.2.2.2.2.2]) :: K4x)
@[simp] abbrev K4z (u2 : TItem) : AV := .val none (.ptr [.str u2.1, .int .i64 u2.2.1, .int .i64 u2.2.2.1, .int .i64 u2.2.2.2.1, .int .i64 u2.2.2.2.2.1, .int .i64 u2.2.2.2.2.2])
@[simp] abbrev K50 (v0 : List TItem) : V := .sl 6 (v0.map eItem)
@[simp] def res_impl_ValidItems (r : Bool) : RV := .one (.one (.val (.bool r)))
theorem con_impl_ValidItems {v0 : List TItem} {r : Bool} (hF : F_impl_ValidItems v0 = some r) : Con Tryz.prog 34 [.sl 6 (v0.map eItem)] (res_impl_ValidItems r) := by
 unfold F_impl_ValidItems at hF
 refine con_of c34_.1 fun N => ?_
 refine ws 0 64 (qp (AB false) rfl (r_nil (w_seq (ws 64 256 (qp (.val none (K50 v0)) rfl (qp (AI (v0.length : Int)) (ev_len_n rfl) (qp (AB (decide ((12 : Int) < (v0.length : Int)))) rfl (r_nil (cF hF (fun hF => ws 256 320 (qp (AB false) rfl (r_nil (w_ret (thenQ_r (eQ hF)))))) fun hF => ?_)))))))))
 refine w_skip (thenQ_n (w_seq (ws 256 448 (qp (.val none (K50 v0)) rfl (qp (AI (v0.length : Int)) (ev_len_n rfl) (qp (AI 0) rfl (r_nil (w_block ?_))))))))
 refine wr (l' := [(0, .val none (K50 v0)), (8, .val none (K50 v0)), (9, AI (v0.length : Int)), (10, AI 0)]) (L := []) [0, 8, 9, 10] [] 1 ?_
 refine w_loopF (F_impl_ValidItems_l0 v0) (fun s : Int => mkS [(0, .val none (K50 v0)), (8, .val none (K50 v0)), (9, AI (v0.length : Int)), (10, AI s)] (fo []) 1) hF ?_
 rintro k0 x1 hF
 rw [F_impl_ValidItems_l0] at hF
 try dsimp only
 refine ws 1 65 (qp (AB (decide (x1 < (v0.length : Int)))) rfl (r_nil (w_seq ?_)))
 refine cF hF (fun hF => ?_) fun hF => ?_
 ·
  refine w_skip (thenQ_n (w_seq (w_block (ws 65 449 (qp (AI x1) rfl (bk hF fun u0 e0 hF => qp (.val none (.ptr [.str u0.1, .int .i64 u0.2.1, .int .i64 u0.2.2.1, .int .i64 u0.2.2.2.1, .int .i64 u0.2.2.2.2.1, .int .i64 u0.2.2.2.2.2])) (ev_iad_n rfl rfl e0 rfl) (qp (.val none (eItem u0)) rfl (qf (.ptr 257 0 0) K4x (by simp) (qp (AI x1) rfl (qf0 (.undef) (K4y u0) (by simp) (r_nil (ws 449 1601 (qp (.agg [AS u0.1, AI u0.2.1, AI u0.2.2.1, AI u0.2.2.2.1, AI u0.2.2.2.2.1, AI u0.2.2.2.2.2]) rfl (bk hF fun u1 e1 hF => qC (AB u1) (K4y u0) (con_impl_ValidItem e1) c81_ ?_))))))))))))))
  refine qp (AB (!u1)) rfl (qp (AB (!u1)) rfl ?_)
  refine q_case 18 hF rfl (fun hF => ?_) (fun hF => ?_)
  ·
   refine qn3 (qu rfl (qu rfl (qu rfl (qu rfl (qu rfl (qu rfl (qu rfl (qu rfl (qu rfl (qn rfl (qp (AB true) rfl (r_nil (w_true rfl ?_)))))))))))))
   exact ws 1601 1665 (qp (AB false) rfl (r_nil (w_ret (blockQ_r (thenQ_r (thenQ_r (blockQ_r (thenQ_r (eQ hF)))))))))
  refine qg (AI x1) rfl rfl (qg (AB (decide ((0 : Int) < x1))) rfl rfl (qg (AB (decide ((0 : Int) < x1))) rfl rfl ?_))
  refine q_case 21 hF rfl (fun hF => ?_) (fun hF => ?_)
  ·
   refine qg (.ptr 257 0 0) rfl rfl (qg (AS u0.1) rfl rfl (qg (.val none (K50 v0)) rfl rfl (qg (AI x1) rfl rfl (qg (AI (w64 (x1 - 1))) rfl rfl (bk hF fun u2 e2 hF => qg (K4z u2) rfl (ev_iad_n rfl rfl e2 rfl) (qg (K4z u2) rfl rfl (qg (AS u2.1) rfl rfl (qg (AB (Op.bytesLess u0.1 u2.1 || decide (u0.1 = u2.1))) rfl rfl (qg (AB (Op.bytesLess u0.1 u2.1 || decide (u0.1 = u2.1))) rfl rfl (qp (AB (Op.bytesLess u0.1 u2.1 || decide (u0.1 = u2.1))) rfl (r_nil ?_)))))))))))
   refine cF hF (fun hF => ws 1601 1665 (qp (AB false) rfl (r_nil (w_ret (blockQ_r (thenQ_r (thenQ_r (blockQ_r (thenQ_r (eQ hF)))))))))) fun hF => ?_
   refine w_skip (blockQ_n (thenQ_n (w_reg 1601 1729 rfl rfl (qp (AI (w64 (x1 + 1))) rfl (qp (AI (w64 (x1 + 1))) rfl (r_nil (thenQ_n ?_)))))))
   refine ar (l' := [(0, .val none (K50 v0)), (8, .val none (K50 v0)), (9, AI (v0.length : Int)), (10, AI (w64 (x1 + 1)))]) (L := []) [0, 8, 9, 10] [] 1 ⟨_, by rfl, hF⟩
  refine qn8 (qn rfl (qg (AB false) rfl rfl (qp (AB false) rfl (r_nil (w_false rfl (w_skip (blockQ_n (thenQ_n (w_reg 1601 1729 rfl rfl (qp (AI (w64 (x1 + 1))) rfl (qp (AI (w64 (x1 + 1))) rfl ?_)))))))))))
  refine r_nil (thenQ_n ?_)
  refine ar (l' := [(0, .val none (K50 v0)), (8, .val none (K50 v0)), (9, AI (v0.length : Int)), (10, AI (w64 (x1 + 1)))]) (L := []) [0, 8, 9, 10] [] 1 ⟨_, by rfl, hF⟩
 exact w_exit (thenQ_e (thenQ_e (blockQ_e (thenQ_n (ws 65 129 (qp (AB true) rfl (rR hF)))))))

theorem c124_ok : okFn Tryz.prog 124 = true := by kernel_rfl




theorem c125_ok : okFn Tryz.prog 125 = true := by kernel_rfl




def c82 : MC := (sr [rg 2 (.f (.nilrow 1))] (sr [rg 3 (.f (.nilrow 1))] (.seq (sr [mvt 6 0, zT 7 6, pT 8 (.mv (ci 0))] (.block 0 (.loop (sr [bT 9 .lss t8 t7] (.seq (cx t9 0) (.seq (.block 1 (sr [iT 10 6 8 5, pT 11 (.ld t10 5 true), rg 5 (.f (.alloc [((.int .i64 0), (0, false)), ((.str []), (0, false)), ((.str []), (0, false)), ((.int .i64 0), (0, false)), ((.int .i64 0), (0, false))])), ⟨none, none, (.f (.st t5 t11 5))⟩] (.reg [mvt 12 3, pT 13 (.fad t5 1), lT 14 13, rg 15 (.f (.bsl 1 [t14])), rg 16 (.f (.app t12 t15 1 16 true)), mvt 3 16]))) (.reg [bT 17 .add t8 (ci 1), mvt 8 17]))))))) (sr [mvt 18 3, dT 19 124 [t18]] (sr [mvt 20 3, dT 21 125 [t20], mvt 2 21] .ret)))))
theorem c82_ : IsF Tryz.prog 82 c82 [(.tmp 2)] := ⟨by kernel_rfl, by kernel_rfl⟩

def F_impl_pupilsOf_l0 (v0 : List TLesson) (k0 : Int × (List (List UInt8)) → Option (List (List UInt8))) : Int × (List (List UInt8)) → Option (List (List UInt8))
 | (x2, x3) => (bif (decide (x2 < (v0.length : Int))) then ((ix v0 x2).bind fun u0 => (need (room (x3.length + [u0.2.1].length) 16) (k0 (w64 (x2 + 1), x3 ++ [u0.2.1]))))
 else ((F_sortS x3).bind fun u2 => need (u2.length = x3.length) (((F_compactS u2).bind fun u3 => some u3))))
def F_impl_pupilsOf (v0 : List TLesson) : Option (List (List UInt8)) :=
 loop (F_impl_pupilsOf_l0 v0) (0, [])
@[simp] abbrev K51 : List (Nat × Root) := [(0, .row true 1 (([] : List Int).map vI))]
@[simp] abbrev K52 (x3 : List (List UInt8)) : List (Nat × Root) := [(193, .box [AI 0, AS [], AS [], AI 0, AI 0]), (0, .row true 1 (x3.map V.str))]
@[simp] abbrev K53 (u2 : List (List UInt8)) (x3 : List (List UInt8)) : List (Nat × Root) := [(0, .row true 1 (u2.map V.str)), (0, .row true 1 (x3.map V.str))]
@[simp] abbrev K54 (u0 : TLesson) (x3 : List (List UInt8)) : List (Nat × Root) := ((193, .box [AI u0.1, AS u0.2.1, AS u0.2.2.1, AI u0.2.2.2.1, AI u0.2.2.2.2]) :: (K52 x3))
@[simp] abbrev K55 (u0 : TLesson) (x3 : List (List UInt8)) : List (Nat × Root) := ((513, .row true 1 ([u0.2.1].map V.str)) :: (K54 u0 x3))
@[simp] def res_impl_pupilsOf (r : List (List UInt8)) : RV := .one (.one (.row true 1 (r.map V.str)))
theorem con_impl_pupilsOf {v0 : List TLesson} {r : List (List UInt8)} (hF : F_impl_pupilsOf v0 = some r) : Con Tryz.prog 82 [.sl 5 (v0.map eLesson)] (res_impl_pupilsOf r) := by
 unfold F_impl_pupilsOf at hF
 refine con_of c82_.1 fun N => ?_
 refine ws 0 64 (qf (.sl 0 0 0) K51 (by simp) (r_nil (ws 64 128 (qf (.sl 64 0 0) ((64, .row true 1 (([] : List (List UInt8)).map V.str)) :: K51) (by simp) (r_nil (w_seq (ws 128 320 (qp (AL 5 (v0.map eLesson)) rfl (qp (AI (v0.length : Int)) (ev_len_n rfl) (qp (AI 0) rfl (r_nil (w_block ?_))))))))))))
 refine wr (l' := [(3, .sl 0 0 0), (6, AL 5 (v0.map eLesson)), (7, AI (v0.length : Int)), (8, AI 0)]) (L := [(0, .row true 1 (([] : List (List UInt8)).map V.str))]) [3, 6, 7, 8] [(64, 0)] 1 ?_
 refine w_loopF (F_impl_pupilsOf_l0 v0) (fun s : Int × (List (List UInt8)) => mkS [(3, .sl 0 0 s.2.length), (6, AL 5 (v0.map eLesson)), (7, AI (v0.length : Int)), (8, AI s.1)] (fo [(0, .row true 1 (s.2.map V.str))]) 1) hF ?_
 rintro k0 ⟨x2, x3⟩ hF
 rw [F_impl_pupilsOf_l0] at hF
 try dsimp only
 refine ws 1 65 (qp (AB (decide (x2 < (v0.length : Int)))) rfl (r_nil (w_seq ?_)))
 refine cF hF (fun hF => ?_) fun hF => ?_
 ·
  refine w_skip (thenQ_n (w_seq (w_block (ws 65 321 (bk hF fun u0 e0 hF => qp (.val none (.ptr [.int .i64 u0.1, .str u0.2.1, .str u0.2.2.1, .int .i64 u0.2.2.2.1, .int .i64 u0.2.2.2.2])) (ev_iad_n rfl rfl e0 rfl) (qp (.val none (eLesson u0)) rfl (qf (.ptr 193 0 0) (K52 x3) (by simp) (qf0 (.undef) (K54 u0 x3) (by simp) (r_nil (w_reg 321 705 rfl rfl (qp (.sl 0 0 x3.length) rfl (qp (.ptr 193 0 1) rfl (qp (AS u0.2.1) rfl (qf (.sl 513 0 ([u0.2.1].length)) (K55 u0 x3) (by simp [List.take_of_length_le]) (nk hF fun g1 hF => ?_)))))))))))))))
  refine qf (.sl 577 0 ((x3 ++ [u0.2.1]).length)) ((577, .row true 1 ((x3 ++ [u0.2.1]).map V.str)) :: (0, .dead) :: (513, .dead) :: (K55 u0 x3)) (effT_app_l rfl (by simp) rfl rfl (by simp) rfl (by decide) g1 rfl) (qp (.sl 577 0 ((x3 ++ [u0.2.1]).length)) rfl (r_nil (blockQ_n (thenQ_n (w_reg 705 833 rfl rfl (qp (AI (w64 (x2 + 1))) rfl (qp (AI (w64 (x2 + 1))) rfl (r_nil (thenQ_n ?_)))))))))
  refine ar (l' := [(3, .sl 0 0 (x3 ++ [u0.2.1]).length), (6, AL 5 (v0.map eLesson)), (7, AI (v0.length : Int)), (8, AI (w64 (x2 + 1)))]) (L := [(0, .row true 1 ((x3 ++ [u0.2.1]).map V.str))]) [3, 6, 7, 8] [(577, 0)] 1 ⟨_, by rfl, hF⟩
 refine w_exit (thenQ_e (thenQ_e (blockQ_e (thenQ_n (ws 65 193 (qp (.sl 0 0 x3.length) rfl (bk hF fun u2 e2 hF => nk hF fun g2 hF => qm1 (ls := [0]) (K53 u2 x3) (con_sortS_124 e2) c124_ok (by first | rfl | simp [takeM, takeML, takeM1, g2]) (by decide) (by simp [like2, likeL, like1, g2]) rfl rfl (by simp [scrO_fo, newO2, newO, scrR, scrA, scrAs]) (r_nil (ws 193 385 (qp (.sl 0 0 x3.length) rfl (bk hF fun u3 e3 hF => qX (.sl 257 0 u3.length) ((257, .row true 1 (u3.map V.str)) :: (0, .dead) :: (K53 u2 x3)) false rfl rfl (whole_row (by simp [g2])) (con_compactS_125 e3) c125_ok (by first | rfl | simp) (by simp [RV.r]) (qp (.sl 257 0 u3.length) rfl (r_nil (w_ret ?_))))))))))))))
 cases hF
 exact endQ_r rfl (.inl ⟨_, _, by first | rfl | (simp [List.take_of_length_le]; first | exact ⟨rfl, rfl⟩ | rfl), by simp, by first | rfl | simp [res_impl_pupilsOf, List.take_of_length_le, g2]⟩)

def c83 : MC := (sr [rg 1 (.f (.box t0)), pT 2 (.mv cf)] (sr [pT 3 (.fad t1 0), lT 4 3, dT 5 85 [t4, (ci 0), (ci 100000)], mvt 6 5, kT 7 6 (.fad t1 1), kT 8 6 (.ld t7 1 false), ⟨(some 9), (some (6, true)), (.call true 69 [t8])⟩, pT 10 (.pick t6 t9 cf), mvt 11 10, kT 12 11 (.fad t1 2), kT 13 11 (.ld t12 1 false), ⟨(some 14), (some (11, true)), (.call true 69 [t13])⟩, pT 15 (.pick t11 t14 cf), mvt 16 15, kT 17 16 (.fad t1 3), kT 18 16 (.ld t17 1 false), ⟨(some 19), (some (16, true)), (.call true 85 [t18, (ci 1), (ci 480)])⟩, pT 20 (.pick t16 t19 cf), mvt 21 20, kT 22 21 (.fad t1 4), kT 23 21 (.ld t22 1 false), ⟨(some 24), (some (21, true)), (.call true 85 [t23, (ci 0), (ci 100)])⟩, pT 25 (.pick t21 t24 cf), mvt 2 25] .ret))
theorem c83_ : IsF Tryz.prog 83 c83 [(.tmp 2)] := ⟨by kernel_rfl, by kernel_rfl⟩

def F_impl_Lesson_valid (v0 : TLesson) : Option (Bool) :=
 ((F_impl_within v0.1 0 100000).bind fun u0 => (bif u0 then ((F_impl_IsName v0.2.1).bind fun u1 => (bif u1 then ((F_impl_IsName v0.2.2.1).bind fun u2 => (bif u2 then ((F_impl_within v0.2.2.2.1 1 480).bind fun u3 => (bif u3 then ((F_impl_within v0.2.2.2.2 0 100).bind fun u4 => some u4)
 else some false))
 else some false))
 else some false))
 else some false))
@[simp] abbrev K56 (v0 : TLesson) : List (Nat × Root) := [(0, .box [AI v0.1, AS v0.2.1, AS v0.2.2.1, AI v0.2.2.2.1, AI v0.2.2.2.2])]
@[simp] def res_impl_Lesson_valid (r : Bool) : RV := .one (.one (.val (.bool r)))
theorem con_impl_Lesson_valid {v0 : TLesson} {r : Bool} (hF : F_impl_Lesson_valid v0 = some r) : Con Tryz.prog 83 [eLesson v0] (res_impl_Lesson_valid r) := by
 unfold F_impl_Lesson_valid at hF
 refine con_of c83_.1 fun N => ?_
 refine ws 0 128 (qf (.ptr 0 0 0) (K56 v0) (by simp) (qp (AB false) rfl (r_nil (ws 128 1664 (qp (.ptr 0 0 0) rfl (qp (AI v0.1) rfl (bk hF fun u0 e0 hF => qC (AB u0) (K56 v0) (con_impl_within e0) c85_ (qp (AB u0) rfl ?_))))))))
 refine q_case 6 hF rfl (fun hF => ?_) (fun hF => ?_)
 ·
  refine qg (.ptr 0 0 1) rfl rfl (qg (AS v0.2.1) rfl rfl (bk hF fun u1 e1 hF => qG (AB u1) (K56 v0) (con_impl_IsName e1) c69_ (qp (AB u1) rfl (qp (AB u1) rfl ?_))))
  refine q_case 11 hF rfl (fun hF => ?_) (fun hF => ?_)
  ·
   refine qg (.ptr 0 0 2) rfl rfl (qg (AS v0.2.2.1) rfl rfl (bk hF fun u2 e2 hF => qG (AB u2) (K56 v0) (con_impl_IsName e2) c69_ (qp (AB u2) rfl (qp (AB u2) rfl ?_))))
   refine q_case 16 hF rfl (fun hF => ?_) (fun hF => ?_)
   ·
    refine qg (.ptr 0 0 3) rfl rfl (qg (AI v0.2.2.2.1) rfl rfl (bk hF fun u3 e3 hF => qG (AB u3) (K56 v0) (con_impl_within e3) c85_ (qp (AB u3) rfl (qp (AB u3) rfl (q_case 21 hF rfl (fun hF => qg (.ptr 0 0 4) rfl rfl (qg (AI v0.2.2.2.2) rfl rfl (bk hF fun u4 e4 hF => qG (AB u4) (K56 v0) (con_impl_within e4) c85_ (qp (AB u4) rfl (qp (AB u4) rfl (rR hF)))))) fun hF => ?_)))))
    exact qn3 (qp (AB false) rfl (qp (AB false) rfl (rR hF)))
   exact qn3 (qp (AB false) rfl (qp (AB false) rfl (qn3 (qp (AB false) rfl (qp (AB false) rfl (rR hF))))))
  exact qn3 (qp (AB false) rfl (qp (AB false) rfl (qn3 (qp (AB false) rfl (qp (AB false) rfl (qn3 (qp (AB false) rfl (qp (AB false) rfl (rR hF)))))))))
 exact qn3 (qp (AB false) rfl (qp (AB false) rfl (qn3 (qp (AB false) rfl (qp (AB false) rfl (qn3 (qp (AB false) rfl (qp (AB false) rfl (qn rfl (qn2 (qp (AB false) rfl (qp (AB false) rfl (rR hF)))))))))))))

def c148 : MC := (sr [pT 2 (.mv cf)] (sr [mvt 3 0, mvt 4 0, bT 5 .neq t3 t4, mvt 2 5] .ret))
theorem c148_ : IsF Tryz.prog 148 c148 [(.tmp 2)] := ⟨by kernel_rfl, by kernel_rfl⟩

def F_cmp_isNaN_string (v0 : List UInt8) : Option (Bool) :=
 some (decide (v0 ≠ v0))
@[simp] def res_cmp_isNaN_string (r : Bool) : RV := .one (.one (.val (.bool r)))
theorem con_cmp_isNaN_string {v0 : List UInt8} {r : Bool} (hF : F_cmp_isNaN_string v0 = some r) : Con Tryz.prog 148 [.str v0] (res_cmp_isNaN_string r) := by
 unfold F_cmp_isNaN_string at hF
 refine con_of c148_.1 fun N => ?_
 exact ws 0 64 (qp (AB false) rfl (r_nil (ws 64 320 (qp (AS v0) rfl (qp (AS v0) rfl (qp (AB (decide (v0 ≠ v0))) rfl (qp (AB (decide (v0 ≠ v0))) rfl (rR hF))))))))

def c127 : MC := (sr [pT 4 (.mv (ci 0))] (sr [mvt 7 0, dT 8 148 [t7], mvt 5 8] (sr [mvt 9 1, dT 10 148 [t9], mvt 6 10] (.seq (sr [mvt 11 5] (.cond t11 (.seq (sr [mvt 12 6] (.cond t12 (sr [pT 4 (.mv (ci 0))] .ret) .skip)) (sr [pT 4 (.mv (ci (-1)))] .ret)) .skip)) (.seq (sr [mvt 13 6] (.cond t13 (sr [pT 4 (.mv (ci 1))] .ret) .skip)) (.seq (sr [mvt 14 0, mvt 15 1, bT 16 .lss t14 t15] (.cond t16 (sr [pT 4 (.mv (ci (-1)))] .ret) .skip)) (.seq (sr [mvt 17 0, mvt 18 1, bT 19 .gtr t17 t18] (.cond t19 (sr [pT 4 (.mv (ci 1))] .ret) .skip)) (sr [pT 4 (.mv (ci 0))] .ret))))))))
theorem c127_ : IsF Tryz.prog 127 c127 [(.tmp 4)] := ⟨by kernel_rfl, by kernel_rfl⟩

def F_cmp_Compare_string (v0 : List UInt8) (v1 : List UInt8) : Option (Int) :=
 ((F_cmp_isNaN_string v0).bind fun u0 => ((F_cmp_isNaN_string v1).bind fun u1 => (bif u0 then (bif u1 then some 0
 else some (-1))
 else (bif u1 then some 1
 else (bif (Op.bytesLess v0 v1) then some (-1)
 else (bif (!(Op.bytesLess v0 v1 || decide (v0 = v1))) then some 1
 else some 0))))))
@[simp] def res_cmp_Compare_string (r : Int) : RV := .one (.one (.val (.int .i64 r)))
theorem con_cmp_Compare_string {v0 : List UInt8} {v1 : List UInt8} {r : Int} (hF : F_cmp_Compare_string v0 v1 = some r) : Con Tryz.prog 127 [.str v0, .str v1] (res_cmp_Compare_string r) := by
 unfold F_cmp_Compare_string at hF
 refine con_of c127_.1 fun N => ?_
 refine ws 0 64 (qp (AI 0) rfl (r_nil (ws 64 256 (qp (AS v0) rfl (bk hF fun u0 e0 hF => qC (AB u0) [] (con_cmp_isNaN_string e0) c148_ (qp (AB u0) rfl (r_nil (ws 256 448 (qp (AS v1) rfl (bk hF fun u1 e1 hF => qC (AB u1) [] (con_cmp_isNaN_string e1) c148_ (qp (AB u1) rfl (r_nil (w_seq (ws 448 512 (qp (AB u0) rfl ?_)))))))))))))))
 refine r_nil ?_
 refine cF hF (fun hF => ?_) fun hF => ?_
 ·
  refine w_seq (ws 512 576 (qp (AB u1) rfl (r_nil (cF hF (fun hF => ws 576 640 (qp (AI 0) rfl (r_nil (w_ret (thenQ_r (thenQ_r (eQ hF))))))) fun hF => ?_))))
  exact w_skip (thenQ_n (ws 576 640 (qp (AI (-1)) rfl (r_nil (w_ret (thenQ_r (eQ hF)))))))
 refine w_skip (thenQ_n (w_seq (ws 512 576 (qp (AB u1) rfl (r_nil (cF hF (fun hF => ws 576 640 (qp (AI 1) rfl (r_nil (w_ret (thenQ_r (eQ hF)))))) fun hF => ?_))))))
 refine w_skip (thenQ_n (w_seq (ws 576 768 (qp (AS v0) rfl (qp (AS v1) rfl (qp (AB (Op.bytesLess v0 v1)) rfl (r_nil (cF hF (fun hF => ws 768 832 (qp (AI (-1)) rfl (r_nil (w_ret (thenQ_r (eQ hF)))))) fun hF => ?_))))))))
 refine w_skip (thenQ_n (w_seq (ws 768 960 (qp (AS v0) rfl (qp (AS v1) rfl (qp (AB (!(Op.bytesLess v0 v1 || decide (v0 = v1)))) rfl (r_nil (cF hF (fun hF => ws 960 1024 (qp (AI 1) rfl (r_nil (w_ret (thenQ_r (eQ hF)))))) fun hF => ?_))))))))
 exact w_skip (thenQ_n (ws 960 1024 (qp (AI 0) rfl (rR hF))))

def c126 : MC := (sr [pT 2 (.mv (ci 0))] (sr [pT 3 (.mv (ci 0))] (.seq (sr [mvt 6 0, zT 7 6, pT 8 (.mv (ci 0))] (.block 0 (.loop (sr [bT 9 .lss t8 t7] (.seq (cx t9 0) (.seq (.block 1 (sr [iT 10 6 8 1, lT 11 10, mvt 5 11] (sr [mvt 12 5, mvt 13 3, bT 14 .neq t12 t13] (.cond t14 (sr [mvt 15 5, mvt 2 15] .ret) .skip)))) (.reg [bT 16 .add t8 (ci 1), mvt 8 16]))))))) (sr [mvt 17 3, mvt 2 17] .ret))))
theorem c126_ : IsF Tryz.prog 126 c126 [(.tmp 2)] := ⟨by kernel_rfl, by kernel_rfl⟩

def F_cmp_Or_int_l0 (v0 : List Int) (k0 : Int → Option (Int)) : Int → Option (Int)
 | x1 => (bif (decide (x1 < (v0.length : Int))) then ((ix v0 x1).bind fun u0 => (bif (decide (u0 ≠ (0 : Int))) then some u0
 else k0 (w64 (x1 + 1))))
 else some 0)
def F_cmp_Or_int (v0 : List Int) : Option (Int) :=
 loop (F_cmp_Or_int_l0 v0) 0
@[simp] def res_cmp_Or_int (r : Int) : RV := .one (.one (.val (.int .i64 r)))
theorem con_cmp_Or_int {v0 : List Int} {r : Int} (hF : F_cmp_Or_int v0 = some r) : Con Tryz.prog 126 [.sl 1 (v0.map vI)] (res_cmp_Or_int r) := by
 unfold F_cmp_Or_int at hF
 refine con_of c126_.1 fun N => ?_
 refine ws 0 64 (qp (AI 0) rfl (r_nil (ws 64 128 (qp (AI 0) rfl (r_nil (w_seq (ws 128 320 (qp (AL 1 (v0.map vI)) rfl (qp (AI (v0.length : Int)) (ev_len_n rfl) (qp (AI 0) rfl (r_nil (w_block ?_))))))))))))
 refine wr (l' := [(3, AI 0), (6, AL 1 (v0.map vI)), (7, AI (v0.length : Int)), (8, AI 0)]) (L := []) [3, 6, 7, 8] [] 1 ?_
 refine w_loopF (F_cmp_Or_int_l0 v0) (fun s : Int => mkS [(3, AI 0), (6, AL 1 (v0.map vI)), (7, AI (v0.length : Int)), (8, AI s)] (fo []) 1) hF ?_
 rintro k0 x1 hF
 rw [F_cmp_Or_int_l0] at hF
 try dsimp only
 refine ws 1 65 (qp (AB (decide (x1 < (v0.length : Int)))) rfl (r_nil (w_seq ?_)))
 refine cF hF (fun hF => ?_) fun hF => ?_
 ·
  refine w_skip (thenQ_n (w_seq (w_block (ws 65 257 (bk hF fun u0 e0 hF => qp (.val none (.ptr [.int .i64 u0])) (ev_iad_n rfl rfl e0 rfl) (qp (AI u0) rfl (qp (AI u0) rfl (r_nil (ws 257 449 (qp (AI u0) rfl (qp (AI 0) rfl (qp (AB (decide (u0 ≠ (0 : Int)))) rfl (r_nil ?_)))))))))))))
  refine cF hF (fun hF => ws 449 577 (qp (AI u0) rfl (qp (AI u0) rfl (r_nil (w_ret (blockQ_r (thenQ_r (thenQ_r (blockQ_r (thenQ_r (eQ hF))))))))))) fun hF => ?_
  refine w_skip (blockQ_n (thenQ_n (w_reg 449 577 rfl rfl (qp (AI (w64 (x1 + 1))) rfl (qp (AI (w64 (x1 + 1))) rfl (r_nil (thenQ_n ?_)))))))
  refine ar (l' := [(3, AI 0), (6, AL 1 (v0.map vI)), (7, AI (v0.length : Int)), (8, AI (w64 (x1 + 1)))]) (L := []) [3, 6, 7, 8] [] 1 ⟨_, by rfl, hF⟩
 exact w_exit (thenQ_e (thenQ_e (blockQ_e (thenQ_n (ws 65 193 (qp (AI 0) rfl (qp (AI 0) rfl (rR hF))))))))

def c84 : MC := (sr [rg 2 (.f (.box t0)), rg 3 (.f (.box t1)), pT 4 (.mv (ci 0))] (sr [pF 5 (.fad t2 0), lF 6 5, pF 7 (.fad t3 0), lF 8 7, dF 9 120 [t6, t8], pF 10 (.fad t2 1), lF 11 10, pF 12 (.fad t3 1), lF 13 12, dF 14 127 [t11, t13], pF 15 (.fad t2 2), lF 16 15, pF 17 (.fad t3 2), lF 18 17, dF 19 127 [t16, t18], rg 20 (.f (.bsl 1 [t9, t14, t19])), dF 21 126 [t20], mP 4 t21] .ret))
theorem c84_ : IsF Tryz.prog 84 c84 [(.tmp 4)] := ⟨by kernel_rfl, by kernel_rfl⟩

def F_impl_compareLessons (v0 : TLesson) (v1 : TLesson) : Option (Int) :=
 ((F_cmp_Compare_int64 v0.1 v1.1).bind fun u0 => ((F_cmp_Compare_string v0.2.1 v1.2.1).bind fun u1 => ((F_cmp_Compare_string v0.2.2.1 v1.2.2.1).bind fun u2 => ((F_cmp_Or_int [u0, u1, u2]).bind fun u3 => some u3))))
@[simp] abbrev K57 (v0 : TLesson) : List (Nat × Root) := [(0, .box [AI v0.1, AS v0.2.1, AS v0.2.2.1, AI v0.2.2.2.1, AI v0.2.2.2.2])]
@[simp] abbrev K58 (v1 : TLesson) (v0 : TLesson) : List (Nat × Root) := ((64, .box [AI v1.1, AS v1.2.1, AS v1.2.2.1, AI v1.2.2.2.1, AI v1.2.2.2.2]) :: (K57 v0))
@[simp] def res_impl_compareLessons (r : Int) : RV := .one (.one (.val (.int .i64 r)))
theorem con_impl_compareLessons {v0 : TLesson} {v1 : TLesson} {r : Int} (hF : F_impl_compareLessons v0 v1 = some r) : Con Tryz.prog 84 [eLesson v0, eLesson v1] (res_impl_compareLessons r) := by
 unfold F_impl_compareLessons at hF
 refine con_of c84_.1 fun N => ?_
 refine ws 0 192 (qf (.ptr 0 0 0) (K57 v0) (by simp) (qf (.ptr 64 0 0) (K58 v1 v0) (by simp) (qp (AI 0) rfl (r_nil (ws 192 1344 (qp (.ptr 0 0 0) rfl (qp (AI v0.1) rfl (qp (.ptr 64 0 0) rfl (qp (AI v1.1) rfl (bk hF fun u0 e0 hF => qC (AI u0) (K58 v1 v0) (con_cmp_Compare_int64 e0) c120_ (qp (.ptr 0 0 1) rfl (qp (AS v0.2.1) rfl (qp (.ptr 64 0 1) rfl (qp (AS v1.2.1) rfl (bk hF fun u1 e1 hF => ?_)))))))))))))))
 exact qC (AI u1) (K58 v1 v0) (con_cmp_Compare_string e1) c127_ (qp (.ptr 0 0 2) rfl (qp (AS v0.2.2.1) rfl (qp (.ptr 64 0 2) rfl (qp (AS v1.2.2.1) rfl (bk hF fun u2 e2 hF => qC (AI u2) (K58 v1 v0) (con_cmp_Compare_string e2) c127_ (qf (.sl 1152 0 ([u0, u1, u2].length)) ((1152, .row true 1 ([u0, u1, u2].map vI)) :: (K58 v1 v0)) (by simp [List.take_of_length_le]) (bk hF fun u3 e3 hF => qc (AI u3) ((1152, .row true 1 ([u0, u1, u2].map vI)) :: (K58 v1 v0)) true (con_cmp_Or_int e3) c126_.2 (by simp [List.take_of_length_le]) rfl (qp (AI u3) rfl (rR hF)))))))))

def c35 : MC := (sr [pT 2 (.mv cf)] (.seq (sr [mvt 5 0, zT 6 5, bT 7 .gtr t6 (ci 64), mvt 8 7, nF 9 8 t0, ⟨(some 10), (some (8, false)), (.call true 82 [t9])⟩, kF 11 8 (.len t10), kF 12 8 (.bin .gtr t11 (ci 12)), pT 13 (.pick t8 ct t12)] (.cond t13 (sr [pT 2 (.mv cf)] .ret) .skip)) (.seq (sr [mvt 14 0, zT 15 14, pT 16 (.mv (ci 0))] (.block 0 (.loop (sr [bT 17 .lss t16 t15] (.seq (cx t17 0) (.seq (.block 1 (sr [mvt 18 16, iT 19 14 16 5, pT 20 (.ld t19 5 true), rg 4 (.f (.alloc [((.int .i64 0), (0, false)), ((.str []), (0, false)), ((.str []), (0, false)), ((.int .i64 0), (0, false)), ((.int .i64 0), (0, false))])), mvt 3 18, ⟨none, none, (.f (.st t4 t20 5))⟩] (sr [pF 21 (.ld t4 5 true), dF 22 83 [t21], pF 23 (.not t22), mP 24 t23, mF 25 24 t3, bH 26 24 .gtr t25 (ci 0), mF 27 24 t26, mT 28 27 t0, mT 29 27 t3, bG 30 27 .sub t29 (ci 1), iG 31 27 28 30 5, gT 32 27 (.ld t31 5 true), gT 33 27 (.ld t4 5 true), ⟨(some 34), (some (27, true)), (.call false 84 [t32, t33])⟩, bG 35 27 .geq t34 (ci 0), gF 36 24 (.pick t27 t35 cf), pF 37 (.pick t24 ct t36)] (.cond t37 (sr [pT 2 (.mv cf)] .ret) .skip)))) (.reg [bT 38 .add t16 (ci 1), mvt 16 38]))))))) (sr [pT 2 (.mv ct)] .ret))))
theorem c35_ : IsF Tryz.prog 35 c35 [(.tmp 2)] := ⟨by kernel_rfl, by kernel_rfl⟩

def F_impl_ValidLessons_l0 (v0 : List TLesson) (k1 : Int → Option (Bool)) : Int → Option (Bool)
 | x3 => (bif (decide (x3 < (v0.length : Int))) then ((ix v0 x3).bind fun u9 => ((F_impl_Lesson_valid u9).bind fun u10 => (bif (!u10) then some false
 else (bif (decide ((0 : Int) < x3)) then ((ix v0 (w64 (x3 - 1))).bind fun u11 => ((F_impl_compareLessons u11 u9).bind fun u12 => (bif (decide ((0 : Int) ≤ u12)) then some false
 else k1 (w64 (x3 + 1)))))
 else k1 (w64 (x3 + 1))))))
 else some true)
def F_impl_ValidLessons (v0 : List TLesson) : Option (Bool) :=
 (bif (decide ((64 : Int) < (v0.length : Int))) then some false
 else ((F_impl_pupilsOf v0).bind fun u0 => (bif (decide ((12 : Int) < (u0.length : Int))) then some false
 else loop (F_impl_ValidLessons_l0 v0) 0)))
@[simp] abbrev K5c (u9 : TLesson) : List AV := [AI u9.1, AS u9.2.1, AS u9.2.2.1, AI u9.2.2.2.1, AI u9.2.2.2.2]
@[simp] abbrev K5a (u9 : TLesson) : List (Nat × Root) := [(257, .box (K5c u9)), (257, .box [AI 0, AS [], AS [], AI 0, AI 0])]
@[simp] abbrev K5b (v0 : List TLesson) : V := .sl 5 (v0.map eLesson)
@[simp] def res_impl_ValidLessons (r : Bool) : RV := .one (.one (.val (.bool r)))
theorem con_impl_ValidLessons {v0 : List TLesson} {r : Bool} (hF : F_impl_ValidLessons v0 = some r) : Con Tryz.prog 35 [.sl 5 (v0.map eLesson)] (res_impl_ValidLessons r) := by
 unfold F_impl_ValidLessons at hF
 refine con_of c35_.1 fun N => ?_
 refine ws 0 64 (qp (AB false) rfl (r_nil (w_seq (ws 64 640 (qp (.val none (K5b v0)) rfl (qp (AI (v0.length : Int)) (ev_len_n rfl) (qp (AB (decide ((64 : Int) < (v0.length : Int)))) rfl (qp (AB (decide ((64 : Int) < (v0.length : Int)))) rfl ?_))))))))
 refine q_case 8 hF rfl (fun hF => qn4 (qp (AB true) rfl (r_nil (w_true rfl (ws 640 704 (qp (AB false) rfl (r_nil (w_ret (thenQ_r (eQ hF)))))))))) fun hF => qg (.val none (K5b v0)) rfl rfl (bk hF fun u0 e0 hF => qcg (.sl 384 0 u0.length) [(384, .row true 1 (u0.map V.str))] false rfl (con_impl_pupilsOf e0) c82_.2 (by first | rfl | simp) (by simp [res_impl_pupilsOf]) (qg (AI (u0.length : Int)) rfl rfl (qg (AB (decide ((12 : Int) < (u0.length : Int)))) rfl rfl (qp (AB (decide ((12 : Int) < (u0.length : Int)))) rfl (r_nil ?_)))))
 refine cF hF (fun hF => ws 640 704 (qp (AB false) rfl (r_nil (w_ret (thenQ_r (eQ hF)))))) fun hF => w_skip (thenQ_n (w_seq (ws 640 832 (qp (.val none (K5b v0)) rfl (qp (AI (v0.length : Int)) (ev_len_n rfl) (qp (AI 0) rfl (r_nil (w_block ?_))))))))
 refine wr (l' := [(0, .val none (K5b v0)), (14, .val none (K5b v0)), (15, AI (v0.length : Int)), (16, AI 0)]) (L := []) [0, 14, 15, 16] [] 1 ?_
 refine w_loopF (F_impl_ValidLessons_l0 v0) (fun s : Int => mkS [(0, .val none (K5b v0)), (14, .val none (K5b v0)), (15, AI (v0.length : Int)), (16, AI s)] (fo []) 1) hF ?_
 rintro k1 x3 hF
 rw [F_impl_ValidLessons_l0] at hF
 try dsimp only
 refine ws 1 65 (qp (AB (decide (x3 < (v0.length : Int)))) rfl (r_nil (w_seq ?_)))
 refine cF hF (fun hF => ?_) fun hF => ?_
 ·
  refine w_skip (thenQ_n (w_seq (w_block (ws 65 449 (qp (AI x3) rfl (bk hF fun u9 e9 hF => qp (.val none (.ptr [.int .i64 u9.1, .str u9.2.1, .str u9.2.2.1, .int .i64 u9.2.2.2.1, .int .i64 u9.2.2.2.2])) (ev_iad_n rfl rfl e9 rfl) (qp (.val none (eLesson u9)) rfl (qf (.ptr 257 0 0) [(257, .box [AI 0, AS [], AS [], AI 0, AI 0])] (by simp) (qp (AI x3) rfl (qf0 (.undef) (K5a u9) (by simp) (r_nil (ws 449 1537 (qp (.agg (K5c u9)) rfl (bk hF fun u10 e10 hF => qC (AB u10) (K5a u9) (con_impl_Lesson_valid e10) c83_ ?_))))))))))))))
  refine qp (AB (!u10)) rfl (qp (AB (!u10)) rfl ?_)
  refine q_case 24 hF rfl (fun hF => ?_) (fun hF => ?_)
  ·
   refine qn3 (qu rfl (qu rfl (qu rfl (qu rfl (qu rfl (qu rfl (qu rfl (qu rfl (qn rfl (qp (AB true) rfl (r_nil (w_true rfl (ws 1537 1601 ?_)))))))))))))
   exact qp (AB false) rfl (r_nil (w_ret (blockQ_r (thenQ_r (thenQ_r (blockQ_r (thenQ_r (eQ hF))))))))
  refine qg (AI x3) rfl rfl (qg (AB (decide ((0 : Int) < x3))) rfl rfl (qg (AB (decide ((0 : Int) < x3))) rfl rfl ?_))
  refine q_case 27 hF rfl (fun hF => ?_) (fun hF => ?_)
  ·
   refine qg (.val none (K5b v0)) rfl rfl (qg (AI x3) rfl rfl (qg (AI (w64 (x3 - 1))) rfl rfl (bk hF fun u11 e11 hF => qg (.val none (.ptr [.int .i64 u11.1, .str u11.2.1, .str u11.2.2.1, .int .i64 u11.2.2.2.1, .int .i64 u11.2.2.2.2])) rfl (ev_iad_n rfl rfl e11 rfl) (qg (.val none (eLesson u11)) rfl rfl (qg (.agg (K5c u9)) rfl rfl (bk hF fun u12 e12 hF => qG (AI u12) (K5a u9) (con_impl_compareLessons e12) c84_ (qg (AB (decide ((0 : Int) ≤ u12))) rfl rfl (qg (AB (decide ((0 : Int) ≤ u12))) rfl rfl (qp (AB (decide ((0 : Int) ≤ u12))) rfl (r_nil ?_))))))))))
   refine cF hF (fun hF => ws 1537 1601 (qp (AB false) rfl (r_nil (w_ret (blockQ_r (thenQ_r (thenQ_r (blockQ_r (thenQ_r (eQ hF)))))))))) fun hF => ?_
   refine w_skip (blockQ_n (thenQ_n (w_reg 1537 1665 rfl rfl (qp (AI (w64 (x3 + 1))) rfl (qp (AI (w64 (x3 + 1))) rfl (r_nil (thenQ_n ?_)))))))
   refine ar (l' := [(0, .val none (K5b v0)), (14, .val none (K5b v0)), (15, AI (v0.length : Int)), (16, AI (w64 (x3 + 1)))]) (L := []) [0, 14, 15, 16] [] 1 ⟨_, by rfl, hF⟩
  refine qn8 (qg (AB false) rfl rfl (qp (AB false) rfl (r_nil (w_false rfl (w_skip (blockQ_n (thenQ_n (w_reg 1537 1665 rfl rfl (qp (AI (w64 (x3 + 1))) rfl (qp (AI (w64 (x3 + 1))) rfl (r_nil ?_)))))))))))
  refine thenQ_n ?_
  refine ar (l' := [(0, .val none (K5b v0)), (14, .val none (K5b v0)), (15, AI (v0.length : Int)), (16, AI (w64 (x3 + 1)))]) (L := []) [0, 14, 15, 16] [] 1 ⟨_, by rfl, hF⟩
 exact w_exit (thenQ_e (thenQ_e (blockQ_e (thenQ_n (ws 65 129 (qp (AB true) rfl (rR hF)))))))

def c129 : MC := (sr [rg 2 (.f (.box t0)), pT 3 (.mv cf)] (sr [pT 4 (.fad t2 0), lT 5 4, lT 6 1, bT 7 .eql t5 t6, mvt 3 7] .ret))
theorem c129_ : IsF Tryz.prog 129 c129 [(.tmp 3)] := ⟨by kernel_rfl, by kernel_rfl⟩

def F_impl_personAt_1 (v0 : TPerson) (v1 : List UInt8) : Option (Bool) :=
 some (decide (v0.1 = v1))
@[simp] def res_impl_personAt_1 (r : Bool) : RV := .one (.one (.val (.bool r)))
theorem con_impl_personAt_1 {v0 : TPerson} {v1 : List UInt8} {r : Bool} (hF : F_impl_personAt_1 v0 v1 = some r) : Con Tryz.prog 129 [ePerson v0, .ptr [.str v1]] (res_impl_personAt_1 r) := by
 unfold F_impl_personAt_1 at hF
 refine con_of c129_.1 fun N => ?_
 exact ws 0 128 (qf (.ptr 0 0 0) [(0, .box [AS v0.1, AI v0.2.1, AL 1 (v0.2.2.map V.str)])] (by simp) (qp (AB false) rfl (r_nil (ws 128 448 (qp (.ptr 0 0 0) rfl (qp (AS v0.1) rfl (qp (AS v1) rfl (qp (AB (decide (v0.1 = v1))) rfl (qp (AB (decide (v0.1 = v1))) rfl (rR hF))))))))))

end Go.Ab
