/- Walks (printed by auto.py, a program of this session's own). -/
import Derived.Test.YtcklbccpfpnmbaaGreatDoorU0
import Derived.Test.YtcklbccpfpnmbaaGreatDoorProg
import Derived.KernelRfl
import Derived.Test.YtcklbccpfpnmbaaGreatDoorSQ
set_option linter.unusedVariables false
set_option linter.unusedSimpArgs false
set_option maxRecDepth 8000
set_option maxHeartbeats 8000000
noncomputable section
namespace Go.Ab
open Go.RowKit Go.Proofs

def c6 : MC := (sr [rg 1 (.f (.box t0)), rg 2 (.f (.alloc [((.str []), (0, false)), ((.sl 0 []), (1, false)), ((.sl 0 []), (1, false)), ((.int .i64 0), (0, false)), ((.int .i64 0), (0, false)), ((.sl 0 []), (1, false)), ((.sl 0 []), (2, false)), ((.str []), (0, false)), ((.sl 0 []), (2, false)), ((.sl 0 []), (1, false)), ((.sl 0 []), (3, false)), ((.sl 0 []), (2, false)), ((.sl 0 []), (6, false)), ((.sl 0 []), (5, false)), ((.sl 0 []), (3, false))]))] (sr [rg 3 (.f (.alloc [((.str []), (0, false)), ((.sl 0 []), (1, false)), ((.sl 0 []), (1, false)), ((.int .i64 0), (0, false)), ((.int .i64 0), (0, false)), ((.sl 0 []), (1, false)), ((.sl 0 []), (2, false)), ((.str []), (0, false)), ((.sl 0 []), (2, false)), ((.sl 0 []), (1, false)), ((.sl 0 []), (3, false)), ((.sl 0 []), (2, false)), ((.sl 0 []), (6, false)), ((.sl 0 []), (5, false)), ((.sl 0 []), (3, false))]))] (sr [pT 4 (.fad t1 0), pT 5 (.ld t4 6 true), dT 6 24 [t5], pT 7 (.fad t3 0), ⟨none, none, (.f (.st t7 t6 6))⟩] (sr [pT 8 (.fad t1 6), lT 9 8, dT 10 25 [t9], pT 11 (.fad t3 6), ⟨none, none, (.f (.st t11 t10 1))⟩] (sr [pT 12 (.fad t1 7), pT 13 (.ld t12 2 true), dT 14 26 [t13], pT 15 (.fad t3 7), ⟨none, none, (.f (.st t15 t14 2))⟩] (sr [pT 16 (.fad t1 9), lT 17 16, dT 18 27 [t17], pT 19 (.fad t3 9), ⟨none, none, (.f (.st t19 t18 1))⟩] (sr [pT 20 (.fad t1 10), lT 21 20, dT 22 28 [t21], pT 23 (.fad t3 10), ⟨none, none, (.f (.st t23 t22 1))⟩] (sr [pT 24 (.fad t1 11), lT 25 24, dT 26 29 [t25], pT 27 (.fad t3 11), ⟨none, none, (.f (.st t27 t26 1))⟩] (sr [pT 28 (.fad t1 12), lT 29 28, dT 30 30 [t29], pT 31 (.fad t3 12), ⟨none, none, (.f (.st t31 t30 1))⟩] (sr [pT 32 (.fad t1 13), lT 33 32, dT 34 31 [t33], pT 35 (.fad t3 13), ⟨none, none, (.f (.st t35 t34 1))⟩] (sr [pT 36 (.fad t1 14), lT 37 36, dT 38 32 [t37], pT 39 (.fad t3 14), ⟨none, none, (.f (.st t39 t38 1))⟩] (sr [pT 40 (.ld t3 15 true), ⟨none, none, (.f (.st t2 t40 15))⟩] .ret))))))))))))
theorem c6_ : IsF Tryz.prog 6 c6 [(.cell (.ld (.t 2) 15 true))] := ⟨by kernel_rfl, by kernel_rfl⟩

def Q6 (v0 : y8) : Option (y8) :=
 ((a1N (v0.1, v0.2.1, v0.2.2.1, v0.2.2.2.1, v0.2.2.2.2.1, v0.2.2.2.2.2.1)).bind fun u0 => ((a0X v0.2.2.2.2.2.2.1).bind fun u1 => ((a0m (v0.2.2.2.2.2.2.2.1, v0.2.2.2.2.2.2.2.2.1)).bind fun u2 => ((R0 v0.2.2.2.2.2.2.2.2.2.1).bind fun u3 => ((R9 v0.2.2.2.2.2.2.2.2.2.2.1).bind fun u4 => ((P9 v0.2.2.2.2.2.2.2.2.2.2.2.1).bind fun u5 => ((a1g v0.2.2.2.2.2.2.2.2.2.2.2.2.1).bind fun u6 => ((X8 v0.2.2.2.2.2.2.2.2.2.2.2.2.2.1).bind fun u7 => ((Z1 v0.2.2.2.2.2.2.2.2.2.2.2.2.2.2).bind fun u8 => some (u0.1, u0.2.1, u0.2.2.1, u0.2.2.2.1, u0.2.2.2.2.1, u0.2.2.2.2.2, u1, u2.1, u2.2, u3, u4, u5, u6, u7, u8))))))))))
@[simp] abbrev K2c (v0 : y8) : List (Nat × Root) := [(0, .box [AS v0.1, AL 1 (v0.2.1.map vI), AL 1 (v0.2.2.1.map vI), AI v0.2.2.2.1, AI v0.2.2.2.2.1, AL 1 (v0.2.2.2.2.2.1.map (eL 1 vI)), AL 2 (v0.2.2.2.2.2.2.1.map j3), AS v0.2.2.2.2.2.2.2.1, AL 2 (v0.2.2.2.2.2.2.2.2.1.map j3), AL 1 (v0.2.2.2.2.2.2.2.2.2.1.map (eL 1 vI)), AL 3 (v0.2.2.2.2.2.2.2.2.2.2.1.map p3), AL 2 (v0.2.2.2.2.2.2.2.2.2.2.2.1.map j3), AL 6 (v0.2.2.2.2.2.2.2.2.2.2.2.2.1.map A1), AL 5 (v0.2.2.2.2.2.2.2.2.2.2.2.2.2.1.map p8), AL 3 (v0.2.2.2.2.2.2.2.2.2.2.2.2.2.2.map p9)])]
@[simp] abbrev K2d (v0 : y8) : List (Nat × Root) := ((64, .box [AS [], .sl 65 0 0, .sl 66 0 0, AI 0, AI 0, .sl 67 0 0, .sl 68 0 0, AS [], .sl 69 0 0, .sl 70 0 0, .sl 71 0 0, .sl 72 0 0, .sl 73 0 0, .sl 74 0 0, .sl 75 0 0]) :: (75, .row true 3 (([] : List Int).map vI)) :: (74, .row true 5 (([] : List Int).map vI)) :: (73, .row true 6 (([] : List Int).map vI)) :: (72, .row true 2 (([] : List Int).map vI)) :: (71, .row true 3 (([] : List Int).map vI)) :: (70, .row true 1 (([] : List Int).map vI)) :: (69, .row true 2 (([] : List Int).map vI)) :: (68, .row true 2 (([] : List Int).map vI)) :: (67, .row true 1 (([] : List Int).map vI)) :: (66, .row true 1 (([] : List Int).map vI)) :: (65, .row true 1 (([] : List Int).map vI)) :: (K2c v0))
@[simp] abbrev K2e (v0 : y8) : List (Nat × Root) := ((128, .box [AS [], .sl 129 0 0, .sl 130 0 0, AI 0, AI 0, .sl 131 0 0, .sl 132 0 0, AS [], .sl 133 0 0, .sl 134 0 0, .sl 135 0 0, .sl 136 0 0, .sl 137 0 0, .sl 138 0 0, .sl 139 0 0]) :: (139, .row true 3 (([] : List Int).map vI)) :: (138, .row true 5 (([] : List Int).map vI)) :: (137, .row true 6 (([] : List Int).map vI)) :: (136, .row true 2 (([] : List Int).map vI)) :: (135, .row true 3 (([] : List Int).map vI)) :: (134, .row true 1 (([] : List Int).map vI)) :: (133, .row true 2 (([] : List Int).map vI)) :: (132, .row true 2 (([] : List Int).map vI)) :: (131, .row true 1 (([] : List Int).map vI)) :: (130, .row true 1 (([] : List Int).map vI)) :: (129, .row true 1 (([] : List Int).map vI)) :: (K2d v0))
@[simp] abbrev K2f (u0 : A8) (v0 : y8) : List (Nat × Root) := ((325, .row true 1 (u0.2.2.2.2.2.map (eL 1 vI))) :: (322, .row true 1 (u0.2.2.1.map vI)) :: (321, .row true 1 (u0.2.1.map vI)) :: (K2e v0))
@[simp] abbrev K2g (u0 : A8) (v0 : y8) : List (Nat × Root) := ((128, .box [AS u0.1, .sl 321 0 u0.2.1.length, .sl 322 0 u0.2.2.1.length, AI u0.2.2.2.1, AI u0.2.2.2.2.1, .sl 325 0 u0.2.2.2.2.2.length, .sl 132 0 0, AS [], .sl 133 0 0, .sl 134 0 0, .sl 135 0 0, .sl 136 0 0, .sl 137 0 0, .sl 138 0 0, .sl 139 0 0]) :: (K2f u0 v0))
@[simp] abbrev K2i (u0 : A8) (u1 : List j6) (v0 : y8) : List (Nat × Root) := ((128, .box [AS u0.1, .sl 321 0 u0.2.1.length, .sl 322 0 u0.2.2.1.length, AI u0.2.2.2.1, AI u0.2.2.2.2.1, .sl 325 0 u0.2.2.2.2.2.length, .sl 640 0 u1.length, AS [], .sl 133 0 0, .sl 134 0 0, .sl 135 0 0, .sl 136 0 0, .sl 137 0 0, .sl 138 0 0, .sl 139 0 0]) :: (640, .row true 2 (u1.map j3)) :: (K2g u0 v0))
@[simp] abbrev K2k (u0 : A8) (u1 : List j6) (u2 : z7) (v0 : y8) : List (Nat × Root) := ((128, .box [AS u0.1, .sl 321 0 u0.2.1.length, .sl 322 0 u0.2.2.1.length, AI u0.2.2.2.1, AI u0.2.2.2.2.1, .sl 325 0 u0.2.2.2.2.2.length, .sl 640 0 u1.length, AS u2.1, .sl 961 0 u2.2.length, .sl 134 0 0, .sl 135 0 0, .sl 136 0 0, .sl 137 0 0, .sl 138 0 0, .sl 139 0 0]) :: (961, .row true 2 (u2.2.map j3)) :: (K2i u0 u1 v0))
@[simp] abbrev K2l (u3 : List (List Int)) (u0 : A8) (u1 : List j6) (u2 : z7) (v0 : y8) : List (Nat × Root) := ((1280, .row true 1 (u3.map (eL 1 vI))) :: (K2k u0 u1 u2 v0))
@[simp] abbrev K2m (u0 : A8) (u1 : List j6) (u2 : z7) (u3 : List (List Int)) (v0 : y8) : List (Nat × Root) := ((128, .box [AS u0.1, .sl 321 0 u0.2.1.length, .sl 322 0 u0.2.2.1.length, AI u0.2.2.2.1, AI u0.2.2.2.2.1, .sl 325 0 u0.2.2.2.2.2.length, .sl 640 0 u1.length, AS u2.1, .sl 961 0 u2.2.length, .sl 1280 0 u3.length, .sl 135 0 0, .sl 136 0 0, .sl 137 0 0, .sl 138 0 0, .sl 139 0 0]) :: (K2l u3 u0 u1 u2 v0))
@[simp] abbrev K2o (u0 : A8) (u1 : List j6) (u2 : z7) (u3 : List (List Int)) (u4 : List m9) (v0 : y8) : List (Nat × Root) := ((128, .box [AS u0.1, .sl 321 0 u0.2.1.length, .sl 322 0 u0.2.2.1.length, AI u0.2.2.2.1, AI u0.2.2.2.2.1, .sl 325 0 u0.2.2.2.2.2.length, .sl 640 0 u1.length, AS u2.1, .sl 961 0 u2.2.length, .sl 1280 0 u3.length, .sl 1600 0 u4.length, .sl 136 0 0, .sl 137 0 0, .sl 138 0 0, .sl 139 0 0]) :: (1600, .row true 3 (u4.map p3)) :: (K2m u0 u1 u2 u3 v0))
@[simp] abbrev K2q (u0 : A8) (u1 : List j6) (u2 : z7) (u3 : List (List Int)) (u4 : List m9) (u5 : List j6) (v0 : y8) : List (Nat × Root) := ((128, .box [AS u0.1, .sl 321 0 u0.2.1.length, .sl 322 0 u0.2.2.1.length, AI u0.2.2.2.1, AI u0.2.2.2.2.1, .sl 325 0 u0.2.2.2.2.2.length, .sl 640 0 u1.length, AS u2.1, .sl 961 0 u2.2.length, .sl 1280 0 u3.length, .sl 1600 0 u4.length, .sl 1920 0 u5.length, .sl 137 0 0, .sl 138 0 0, .sl 139 0 0]) :: (1920, .row true 2 (u5.map j3)) :: (K2o u0 u1 u2 u3 u4 v0))
@[simp] abbrev K2s (u0 : A8) (u1 : List j6) (u2 : z7) (u3 : List (List Int)) (u4 : List m9) (u5 : List j6) (u6 : List y6) (v0 : y8) : List (Nat × Root) := ((128, .box [AS u0.1, .sl 321 0 u0.2.1.length, .sl 322 0 u0.2.2.1.length, AI u0.2.2.2.1, AI u0.2.2.2.2.1, .sl 325 0 u0.2.2.2.2.2.length, .sl 640 0 u1.length, AS u2.1, .sl 961 0 u2.2.length, .sl 1280 0 u3.length, .sl 1600 0 u4.length, .sl 1920 0 u5.length, .sl 2240 0 u6.length, .sl 138 0 0, .sl 139 0 0]) :: (2240, .row true 6 (u6.map A1)) :: (K2q u0 u1 u2 u3 u4 u5 v0))
@[simp] abbrev K2u (u0 : A8) (u1 : List j6) (u2 : z7) (u3 : List (List Int)) (u4 : List m9) (u5 : List j6) (u6 : List y6) (u7 : List n9) (v0 : y8) : List (Nat × Root) := ((128, .box [AS u0.1, .sl 321 0 u0.2.1.length, .sl 322 0 u0.2.2.1.length, AI u0.2.2.2.1, AI u0.2.2.2.2.1, .sl 325 0 u0.2.2.2.2.2.length, .sl 640 0 u1.length, AS u2.1, .sl 961 0 u2.2.length, .sl 1280 0 u3.length, .sl 1600 0 u4.length, .sl 1920 0 u5.length, .sl 2240 0 u6.length, .sl 2560 0 u7.length, .sl 139 0 0]) :: (2560, .row true 5 (u7.map p8)) :: (K2s u0 u1 u2 u3 u4 u5 u6 v0))
@[simp] abbrev K2x (u0 : A8) (u1 : List j6) (u2 : z7) (u3 : List (List Int)) (u4 : List m9) (u5 : List j6) (u6 : List y6) (u7 : List n9) (u8 : List p4) : List AV := [AS u0.1, .sl 321 0 u0.2.1.length, .sl 322 0 u0.2.2.1.length, AI u0.2.2.2.1, AI u0.2.2.2.2.1, .sl 325 0 u0.2.2.2.2.2.length, .sl 640 0 u1.length, AS u2.1, .sl 961 0 u2.2.length, .sl 1280 0 u3.length, .sl 1600 0 u4.length, .sl 1920 0 u5.length, .sl 2240 0 u6.length, .sl 2560 0 u7.length, .sl 2880 0 u8.length]
@[simp] abbrev K2w (u0 : A8) (u1 : List j6) (u2 : z7) (u3 : List (List Int)) (u4 : List m9) (u5 : List j6) (u6 : List y6) (u7 : List n9) (u8 : List p4) (v0 : y8) : List (Nat × Root) := ((128, .box (K2x u0 u1 u2 u3 u4 u5 u6 u7 u8)) :: (2880, .row true 3 (u8.map p9)) :: (K2u u0 u1 u2 u3 u4 u5 u6 u7 v0))
@[simp] def a0z (r : y8) : RV := .one (.agg [.val (.str r.1), .row true 1 (r.2.1.map vI), .row true 1 (r.2.2.1.map vI), .val (.int .i64 r.2.2.2.1), .val (.int .i64 r.2.2.2.2.1), .row true 1 (r.2.2.2.2.2.1.map (eL 1 vI)), .row true 2 (r.2.2.2.2.2.2.1.map j3), .val (.str r.2.2.2.2.2.2.2.1), .row true 2 (r.2.2.2.2.2.2.2.2.1.map j3), .row true 1 (r.2.2.2.2.2.2.2.2.2.1.map (eL 1 vI)), .row true 3 (r.2.2.2.2.2.2.2.2.2.2.1.map p3), .row true 2 (r.2.2.2.2.2.2.2.2.2.2.2.1.map j3), .row true 6 (r.2.2.2.2.2.2.2.2.2.2.2.2.1.map A1), .row true 5 (r.2.2.2.2.2.2.2.2.2.2.2.2.2.1.map p8), .row true 3 (r.2.2.2.2.2.2.2.2.2.2.2.2.2.2.map p9)])
theorem a1R {v0 : y8} {r : y8} (hF : Q6 v0 = some r) : Con Tryz.prog 6 [a9S v0] (a0z r) := by
 unfold Q6 at hF
 refine p7 c6_.1 fun N => ?_
 refine ws 0 128 (qf (.ptr 0 0 0) (K2c v0) (by simp) (qf (.ptr 64 0 0) (K2d v0) (by simp) (d9 (ws 128 192 (qf (.ptr 128 0 0) (K2e v0) (by simp) (d9 (ws 192 512 (qr (.ptr 0 0 0) (qr (.agg [AS v0.1, AL 1 (v0.2.1.map vI), AL 1 (v0.2.2.1.map vI), AI v0.2.2.2.1, AI v0.2.2.2.2.1, AL 1 (v0.2.2.2.2.2.1.map (eL 1 vI))]) (bk hF fun u0 e0 hF => qc (.agg [AS u0.1, .sl 321 0 u0.2.1.length, .sl 322 0 u0.2.2.1.length, AI u0.2.2.2.1, AI u0.2.2.2.2.1, .sl 325 0 u0.2.2.2.2.2.length]) (K2f u0 v0) false (b1X e0) c8D.2 (by first | rfl | simp) (by simp [a4V]) (qr (.ptr 128 0 0) (qf0 (.undef) (K2g u0 v0) (by simp) (d9 (ws 512 832 ?_))))))))))))))
 refine qr (.ptr 0 0 6) (qr (AL 2 (v0.2.2.2.2.2.2.1.map j3)) (bk hF fun u1 e1 hF => qc (.sl 640 0 u1.length) ((640, .row true 2 (u1.map j3)) :: (K2g u0 v0)) false (b0C e1) c7U.2 (by first | rfl | simp) (by simp [a4o]) (qr (.ptr 128 0 6) (qf0 (.undef) (K2i u0 u1 v0) (by simp) (d9 (ws 832 1152 (qr (.ptr 0 0 7) (qr (.agg [AS v0.2.2.2.2.2.2.2.1, AL 2 (v0.2.2.2.2.2.2.2.2.1.map j3)]) (bk hF fun u2 e2 hF => qc (.agg [AS u2.1, .sl 961 0 u2.2.length]) ((961, .row true 2 (u2.2.map j3)) :: (K2i u0 u1 v0)) false (a8q e2) c7o.2 (by first | rfl | simp) (by simp [a3N]) (qr (.ptr 128 0 7) (qf0 (.undef) (K2k u0 u1 u2 v0) (by simp) (d9 (ws 1152 1472 (qr (.ptr 0 0 9) (qr (AL 1 (v0.2.2.2.2.2.2.2.2.2.1.map (eL 1 vI))) (bk hF fun u3 e3 hF => ?_))))))))))))))))
 refine qc (.sl 1280 0 u3.length) (K2l u3 u0 u1 u2 v0) false (a3C e3) c6d.2 (by first | rfl | simp) (by simp [a1V]) (qr (.ptr 128 0 9) (qf0 (.undef) (K2m u0 u1 u2 u3 v0) (by simp) (d9 (ws 1472 1792 (qr (.ptr 0 0 10) (qr (AL 3 (v0.2.2.2.2.2.2.2.2.2.2.1.map p3)) (bk hF fun u4 e4 hF => qc (.sl 1600 0 u4.length) ((1600, .row true 3 (u4.map p3)) :: (K2m u0 u1 u2 u3 v0)) false (a6d e4) c7u.2 (by first | rfl | simp) (by simp [a2Z]) (qr (.ptr 128 0 10) (qf0 (.undef) (K2o u0 u1 u2 u3 u4 v0) (by simp) (d9 (ws 1792 2112 (qr (.ptr 0 0 11) (qr (AL 2 (v0.2.2.2.2.2.2.2.2.2.2.2.1.map j3)) (bk hF fun u5 e5 hF => qc (.sl 1920 0 u5.length) ((1920, .row true 2 (u5.map j3)) :: (K2o u0 u1 u2 u3 u4 v0)) false (a5p e5) c7r.2 (by first | rfl | simp) (by simp [a2F]) (qr (.ptr 128 0 11) ?_)))))))))))))))
 refine qf0 (.undef) (K2q u0 u1 u2 u3 u4 u5 v0) (by simp) (d9 (ws 2112 2432 (qr (.ptr 0 0 12) (qr (AL 6 (v0.2.2.2.2.2.2.2.2.2.2.2.2.1.map A1)) (bk hF fun u6 e6 hF => qc (.sl 2240 0 u6.length) ((2240, .row true 6 (u6.map A1)) :: (K2q u0 u1 u2 u3 u4 u5 v0)) false (b0T e6) c7A.2 (by first | rfl | simp) (by simp [a4f]) (qr (.ptr 128 0 12) (qf0 (.undef) (K2s u0 u1 u2 u3 u4 u5 u6 v0) (by simp) (d9 (ws 2432 2752 (qr (.ptr 0 0 13) (qr (AL 5 (v0.2.2.2.2.2.2.2.2.2.2.2.2.2.1.map p8)) (bk hF fun u7 e7 hF => qc (.sl 2560 0 u7.length) ((2560, .row true 5 (u7.map p8)) :: (K2s u0 u1 u2 u3 u4 u5 u6 v0)) false (a8d e7) c8f.2 (by first | rfl | simp) (by simp [a3F]) (qr (.ptr 128 0 13) (qf0 (.undef) (K2u u0 u1 u2 u3 u4 u5 u6 u7 v0) (by simp) (d9 ?_)))))))))))))))
 exact ws 2752 3072 (qr (.ptr 0 0 14) (qr (AL 3 (v0.2.2.2.2.2.2.2.2.2.2.2.2.2.2.map p9)) (bk hF fun u8 e8 hF => qc (.sl 2880 0 u8.length) ((2880, .row true 3 (u8.map p9)) :: (K2u u0 u1 u2 u3 u4 u5 u6 u7 v0)) false (a7G e8) c7x.2 (by first | rfl | simp) (by simp [a3H]) (qr (.ptr 128 0 14) (qf0 (.undef) (K2w u0 u1 u2 u3 u4 u5 u6 u7 u8 v0) (by simp) (d9 (ws 3072 3200 (qr (.agg (K2x u0 u1 u2 u3 u4 u5 u6 u7 u8)) (qf0 (.undef) ((64, .box (K2x u0 u1 u2 u3 u4 u5 u6 u7 u8)) :: (K2w u0 u1 u2 u3 u4 u5 u6 u7 u8 v0)) (by simp) (rR hF))))))))))

def c9p : MC := (sr [pT 2 (.mv cf)] (sr [mvt 3 0, pT 4 (.bin .geq t3 (.c (.int .u8 97))), mvt 5 4, nT 6 5 t0, kT 7 5 (.bin .leq t6 (.c (.int .u8 122))), pT 8 (.pick t5 t7 cf), mvt 2 8] .ret))
theorem c1V : IsF Tryz.prog 139 c9p [(.tmp 2)] := ⟨by kernel_rfl, by kernel_rfl⟩

def T9 (v0 : Int) : Option (Bool) :=
 (bif (decide ((97 : Int) ≤ v0)) then some (decide (v0 ≤ (122 : Int)))
 else some false)
@[simp] def a9T (r : Bool) : RV := .one (.one (.val (.bool r)))
theorem a3S {v0 : Int} {r : Bool} (hF : T9 v0 = some r) : Con Tryz.prog 139 [.int .u8 v0] (a9T r) := by
 unfold T9 at hF
 refine p7 c1V.1 fun N => ?_
 refine ws 0 64 (qb (d9 (ws 64 512 (qr (.val none (.int .u8 v0)) (qr (AB (decide ((97 : Int) ≤ v0))) (qr (AB (decide ((97 : Int) ≤ v0))) (p5 5 hF rfl (fun hF => qg (.val none (.int .u8 v0)) rfl rfl (qg (AB (decide (v0 ≤ (122 : Int)))) rfl rfl (qr (AB (decide (v0 ≤ (122 : Int)))) (qr (AB (decide (v0 ≤ (122 : Int)))) (rR hF))))) fun hF => ?_)))))))
 exact qn2 (qb (qb (rR hF)))

def c9v : MC := (sr [pT 2 (.mv cf)] (sr [mvt 3 0, pT 4 (.bin .geq t3 (.c (.int .u8 48))), mvt 5 4, nT 6 5 t0, kT 7 5 (.bin .leq t6 (.c (.int .u8 57))), pT 8 (.pick t5 t7 cf), mvt 2 8] .ret))
theorem c5r : IsF Tryz.prog 140 c9v [(.tmp 2)] := ⟨by kernel_rfl, by kernel_rfl⟩

def a0u (v0 : Int) : Option (Bool) :=
 (bif (decide ((48 : Int) ≤ v0)) then some (decide (v0 ≤ (57 : Int)))
 else some false)
@[simp] def a9s (r : Bool) : RV := .one (.one (.val (.bool r)))
theorem a9e {v0 : Int} {r : Bool} (hF : a0u v0 = some r) : Con Tryz.prog 140 [.int .u8 v0] (a9s r) := by
 unfold a0u at hF
 refine p7 c5r.1 fun N => ?_
 refine ws 0 64 (qb (d9 (ws 64 512 (qr (.val none (.int .u8 v0)) (qr (AB (decide ((48 : Int) ≤ v0))) (qr (AB (decide ((48 : Int) ≤ v0))) (p5 5 hF rfl (fun hF => qg (.val none (.int .u8 v0)) rfl rfl (qg (AB (decide (v0 ≤ (57 : Int)))) rfl rfl (qr (AB (decide (v0 ≤ (57 : Int)))) (qr (AB (decide (v0 ≤ (57 : Int)))) (rR hF))))) fun hF => ?_)))))))
 exact qn2 (qb (qb (rR hF)))

def c98 : MC := (sr [pT 2 (.mv cf)] (.seq (sr [mvt 4 0, pT 5 (.bin .eql t4 (.c (.str []))), mvt 6 5, nF 7 6 t0, kF 8 6 (.lens t7), kF 9 6 (.bin .gtr t8 (ci 10)), pT 10 (.pick t6 ct t9), mvt 11 10, nF 12 11 t0, kF 13 11 (.ixs t12 (ci 0)), ⟨(some 14), (some (11, false)), (.call true 139 [t13])⟩, kF 15 11 (.not t14), pT 16 (.pick t11 ct t15)] (.cond t16 (sr [pT 2 (.mv cf)] .ret) .skip)) (.seq (sr [pT 3 (.mv (ci 0))] (.block 0 (.loop (.seq (sr [mvt 17 3, mvt 18 0, pT 19 (.lens t18), bT 20 .lss t17 t19] (cx t20 0)) (.seq (.block 1 (sr [mvt 23 0, mvt 24 3, pT 25 (.ixs t23 t24), dT 26 139 [t25], pT 27 (.not t26), mvt 28 27, nT 29 28 t0, nT 30 28 t3, kT 31 28 (.ixs t29 t30), ⟨(some 32), (some (28, true)), (.call true 140 [t31])⟩, kT 33 28 (.not t32), pT 34 (.pick t28 t33 cf)] (.cond t34 (sr [pT 2 (.mv cf)] .ret) .skip))) (.reg [mvt 21 3, bT 22 .add t21 (ci 1), mvt 3 22])))))) (sr [pT 2 (.mv ct)] .ret))))
theorem b7a : IsF Tryz.prog 98 c98 [(.tmp 2)] := ⟨by kernel_rfl, by kernel_rfl⟩

def N3 (v0 : List UInt8) (k1 : Int → Option (Bool)) : Int → Option (Bool)
 | x3 => (bif (decide (x3 < (v0.length : Int))) then ((ix v0 x3).bind fun u10 => ((T9 (u10.toNat : Int)).bind fun u11 => (bif (!u11) then ((ix v0 x3).bind fun u12 => ((a0u (u12.toNat : Int)).bind fun u13 => (bif (!u13) then some false
 else k1 (w64 (x3 + 1)))))
 else k1 (w64 (x3 + 1)))))
 else some true)
def F6 (v0 : List UInt8) : Option (Bool) :=
 (bif (decide (v0 = [])) then some false
 else (bif (decide ((10 : Int) < (v0.length : Int))) then some false
 else ((ix v0 0).bind fun u0 => ((T9 (u0.toNat : Int)).bind fun u1 => (bif (!u1) then some false
 else loop (N3 v0) 0)))))
@[simp] def b0x (r : Bool) : RV := .one (.one (.val (.bool r)))
theorem M4 {v0 : List UInt8} {r : Bool} (hF : F6 v0 = some r) : Con Tryz.prog 98 [.str v0] (b0x r) := by
 unfold F6 at hF
 refine p7 b7a.1 fun N => ?_
 refine ws 0 64 (qb (d9 (i8 (ws 64 896 (qr (AS v0) (qr (AB (decide (v0 = []))) (qr (AB (decide (v0 = []))) ?_)))))))
 refine p5 6 hF rfl (fun hF => qn3 (qt (qt (qn3 (qn rfl (qt (d9 (B5 rfl (ws 896 960 (qb (d9 (j8 (f7 (eQ hF)))))))))))))) fun hF => ?_
 refine qg (AS v0) rfl rfl (qg (AI (v0.length : Int)) rfl rfl (qg (AB (decide ((10 : Int) < (v0.length : Int)))) rfl rfl (qr (AB (decide ((10 : Int) < (v0.length : Int)))) (qr (AB (decide ((10 : Int) < (v0.length : Int)))) (p5 11 hF rfl (fun hF => qn4 (qt (d9 (B5 rfl (ws 896 960 (qb (d9 (j8 (f7 (eQ hF)))))))))) fun hF => ?_)))))
 refine qg (AS v0) rfl rfl (bk hF fun u0 e0 hF => qg (.val none (.int .u8 (u0.toNat : Int))) rfl (b0b rfl rfl e0) (bk hF fun u1 e1 hF => qG (AB u1) [] (a3S e1) c1V (qg (AB (!u1)) rfl rfl (qr (AB (!u1)) (d9 (cF hF (fun hF => ws 896 960 (qb (d9 (j8 (f7 (eQ hF)))))) fun hF => ?_))))))
 refine g9 (f5 (i8 (ws 896 960 (qr (AI 0) (d9 (j7 ?_))))))
 refine wr (l' := [(0, AS v0), (3, AI 0)]) (L := []) [0, 3] [] 1 ?_
 refine y5 (N3 v0) (fun s : Int => mkS [(0, AS v0), (3, AI s)] (fo []) 1) hF ?_
 rintro k1 x3 hF
 rw [N3] at hF
 try dsimp only
 refine i8 (ws 1 257 (qr (AI x3) (qr (AS v0) (qr (AI (v0.length : Int)) (qr (AB (decide (x3 < (v0.length : Int)))) (d9 ?_))))))
 refine cF hF (fun hF => ?_) fun hF => ?_
 ·
  refine g9 (f5 (i8 (j7 (ws 257 1025 (qr (AS v0) (qr (AI x3) (bk hF fun u10 e10 hF => qp (.val none (.int .u8 (u10.toNat : Int))) (b0b rfl rfl e10) (bk hF fun u11 e11 hF => qC (AB u11) [] (a3S e11) c1V (qr (AB (!u11)) (qr (AB (!u11)) ?_))))))))))
  refine p5 28 hF rfl (fun hF => ?_) (fun hF => ?_)
  ·
   refine qg (AS v0) rfl rfl (qg (AI x3) rfl rfl (bk hF fun u12 e12 hF => qg (.val none (.int .u8 (u12.toNat : Int))) rfl (b0b rfl rfl e12) (bk hF fun u13 e13 hF => qG (AB u13) [] (a9e e13) c5r (qg (AB (!u13)) rfl rfl (qr (AB (!u13)) (d9 (cF hF (fun hF => ws 1025 1089 (qb (d9 (j8 (g7 (f7 (f7 (g7 (f7 (eQ hF)))))))))) fun hF => ?_)))))))
   refine g9 (p6 (f5 (y4 1025 1217 rfl rfl (qr (AI x3) (qr (AI (w64 (x3 + 1))) (qr (AI (w64 (x3 + 1))) (d9 (f5 ?_))))))))
   refine ar (l' := [(0, AS v0), (3, AI (w64 (x3 + 1)))]) (L := []) [0, 3] [] 1 ⟨_, by rfl, hF⟩
  refine qn5 (qb (d9 (H2 rfl (g9 (p6 (f5 (y4 1025 1217 rfl rfl (qr (AI x3) (qr (AI (w64 (x3 + 1))) (qr (AI (w64 (x3 + 1))) (d9 ?_)))))))))))
  refine f5 ?_
  refine ar (l' := [(0, AS v0), (3, AI (w64 (x3 + 1)))]) (L := []) [0, 3] [] 1 ⟨_, by rfl, hF⟩
 exact z8 (j5 (j5 (s9 (f5 (ws 257 321 (qt (rR hF)))))))

def d0e : MC := (sr [pT 6 (.mv cf)] (sr [mvt 7 0, mvt 8 1, bT 9 .geq t7 t8, mvt 10 9, nT 11 10 t0, nT 12 10 t2, kT 13 10 (.bin .leq t11 t12), pT 14 (.pick t10 t13 cf), mvt 6 14] .ret))
theorem a2i : IsF Tryz.prog 115 d0e [(.tmp 6)] := ⟨by kernel_rfl, by kernel_rfl⟩

def C0 (v0 : Int) (v1 : Int) (v2 : Int) : Option (Bool) :=
 (bif (decide (v1 ≤ v0)) then some (decide (v0 ≤ v2))
 else some false)
@[simp] def b2V (r : Bool) : RV := .one (.one (.val (.bool r)))
theorem C1 {v0 : Int} {v1 : Int} {v2 : Int} {r : Bool} (hF : C0 v0 v1 v2 = some r) : Con Tryz.prog 115 [.int .i64 v0, .int .i64 v1, .int .i64 v2] (b2V r) := by
 unfold C0 at hF
 refine p7 a2i.1 fun N => ?_
 refine ws 0 64 (qb (d9 (ws 64 640 (qr (AI v0) (qr (AI v1) (qr (AB (decide (v1 ≤ v0))) (qr (AB (decide (v1 ≤ v0))) (p5 10 hF rfl (fun hF => qg (AI v0) rfl rfl (qg (AI v2) rfl rfl (qg (AB (decide (v0 ≤ v2))) rfl rfl (qr (AB (decide (v0 ≤ v2))) (qr (AB (decide (v0 ≤ v2))) (rR hF)))))) fun hF => ?_))))))))
 exact qn3 (qb (qb (rR hF)))

def c9F : MC := (sr [pT 6 (.mv cf)] (.seq (sr [pT 7 (.mv (ci 0))] (.block 0 (.loop (.seq (sr [mvt 8 7, mvt 9 0, zT 10 9, bT 11 .lss t8 t10] (cx t11 0)) (.seq (.block 1 (sr [mP 14 t0, mP 15 t7, iF 16 14 15 1, lF 17 16, mP 18 t1, mP 19 t2, dF 20 115 [t17, t18, t19], pF 21 (.not t20), mP 22 t21, mF 23 22 t7, bH 24 22 .gtr t23 (ci 0), mF 25 22 t24, mT 26 25 t0, mT 27 25 t7, bG 28 25 .sub t27 (ci 1), iG 29 25 26 28 1, lG 30 25 29, mT 31 25 t0, mT 32 25 t7, iG 33 25 31 32 1, lG 34 25 33, bG 35 25 .geq t30 t34, gF 36 22 (.pick t25 t35 cf), pF 37 (.pick t22 ct t36)] (.cond t37 (sr [pT 6 (.mv cf)] .ret) .skip))) (.reg [mvt 12 7, bT 13 .add t12 (ci 1), mvt 7 13])))))) (sr [pT 6 (.mv ct)] .ret)))
theorem c4Z : IsF Tryz.prog 141 c9F [(.tmp 6)] := ⟨by kernel_rfl, by kernel_rfl⟩

def H5 (v0 : List Int) (v1 : Int) (v2 : Int) (k0 : Int → Option (Bool)) : Int → Option (Bool)
 | x1 => (bif (decide (x1 < (v0.length : Int))) then ((ix v0 x1).bind fun u0 => ((C0 u0 v1 v2).bind fun u1 => (bif (!u1) then some false
 else (bif (decide ((0 : Int) < x1)) then ((ix v0 (w64 (x1 - 1))).bind fun u2 => ((ix v0 x1).bind fun u3 => (bif (decide (u3 ≤ u2)) then some false
 else k0 (w64 (x1 + 1)))))
 else k0 (w64 (x1 + 1))))))
 else some true)
def a0f (v0 : List Int) (v1 : Int) (v2 : Int) : Option (Bool) :=
 loop (H5 v0 v1 v2) 0
@[simp] abbrev K2y (v0 : List Int) : V := .sl 1 (v0.map vI)
@[simp] def a9y (r : Bool) : RV := .one (.one (.val (.bool r)))
theorem a9M {v0 : List Int} {v1 : Int} {v2 : Int} {r : Bool} (hF : a0f v0 v1 v2 = some r) : Con Tryz.prog 141 [.sl 1 (v0.map vI), .int .i64 v1, .int .i64 v2] (a9y r) := by
 unfold a0f at hF
 refine p7 c4Z.1 fun N => ?_
 refine ws 0 64 (qb (d9 (i8 (ws 64 128 (qr (AI 0) (d9 (j7 ?_)))))))
 refine wr (l' := [(0, .val none (K2y v0)), (1, AI v1), (2, AI v2), (7, AI 0)]) (L := []) [0, 1, 2, 7] [] 1 ?_
 refine y5 (H5 v0 v1 v2) (fun s : Int => mkS [(0, .val none (K2y v0)), (1, AI v1), (2, AI v2), (7, AI s)] (fo []) 1) hF ?_
 rintro k0 x1 hF
 rw [H5] at hF
 try dsimp only
 refine i8 (ws 1 257 (qr (AI x1) (qr (.val none (K2y v0)) (qp (AI (v0.length : Int)) (j0 rfl) (qr (AB (decide (x1 < (v0.length : Int)))) (d9 ?_))))))
 refine cF hF (fun hF => ?_) fun hF => ?_
 ·
  refine g9 (f5 (i8 (j7 (ws 257 1793 (qr (.val none (K2y v0)) (qr (AI x1) (bk hF fun u0 e0 hF => qp (.val none (.ptr [.int .i64 u0])) (j4 rfl rfl e0 rfl) (qr (AI u0) (qr (AI v1) (qr (AI v2) (bk hF fun u1 e1 hF => qC (AB u1) [] (C1 e1) a2i (qr (AB (!u1)) (qr (AB (!u1)) ?_)))))))))))))
  refine p5 22 hF rfl (fun hF => ?_) (fun hF => ?_)
  ·
   refine qn3 (qu rfl (qu rfl (qu rfl (qu rfl (qu rfl (qu rfl (qu rfl (qu rfl (qu rfl (qu rfl (qn rfl (qt (d9 ?_)))))))))))))
   exact B5 rfl (ws 1793 1857 (qb (d9 (j8 (g7 (f7 (f7 (g7 (f7 (eQ hF))))))))))
  refine qg (AI x1) rfl rfl (qg (AB (decide ((0 : Int) < x1))) rfl rfl (qg (AB (decide ((0 : Int) < x1))) rfl rfl ?_))
  refine p5 25 hF rfl (fun hF => ?_) (fun hF => ?_)
  ·
   refine qg (.val none (K2y v0)) rfl rfl (qg (AI x1) rfl rfl (qg (AI (w64 (x1 - 1))) rfl rfl (bk hF fun u2 e2 hF => qg (.val none (.ptr [.int .i64 u2])) rfl (j4 rfl rfl e2 rfl) (qg (AI u2) rfl rfl (qg (.val none (K2y v0)) rfl rfl (qg (AI x1) rfl rfl (bk hF fun u3 e3 hF => qg (.val none (.ptr [.int .i64 u3])) rfl (j4 rfl rfl e3 rfl) (qg (AI u3) rfl rfl (qg (AB (decide (u3 ≤ u2))) rfl rfl (qg (AB (decide (u3 ≤ u2))) rfl rfl (qr (AB (decide (u3 ≤ u2))) (d9 ?_))))))))))))
   refine cF hF (fun hF => ws 1793 1857 (qb (d9 (j8 (g7 (f7 (f7 (g7 (f7 (eQ hF)))))))))) fun hF => ?_
   refine g9 (p6 (f5 (y4 1793 1985 rfl rfl (qr (AI x1) (qr (AI (w64 (x1 + 1))) (qr (AI (w64 (x1 + 1))) (d9 (f5 ?_))))))))
   refine ar (l' := [(0, .val none (K2y v0)), (1, AI v1), (2, AI v2), (7, AI (w64 (x1 + 1)))]) (L := []) [0, 1, 2, 7] [] 1 ⟨_, by rfl, hF⟩
  refine qn8 (qn2 (qg (AB false) rfl rfl (qb (d9 (H2 rfl (g9 (p6 (f5 (y4 1793 1985 rfl rfl ?_)))))))))
  refine qr (AI x1) (qr (AI (w64 (x1 + 1))) (qr (AI (w64 (x1 + 1))) (d9 (f5 ?_))))
  refine ar (l' := [(0, .val none (K2y v0)), (1, AI v1), (2, AI v2), (7, AI (w64 (x1 + 1)))]) (L := []) [0, 1, 2, 7] [] 1 ⟨_, by rfl, hF⟩
 exact z8 (j5 (j5 (s9 (f5 (ws 257 321 (qt (rR hF)))))))

def c99 : MC := (sr [pT 2 (.mv cf)] (sr [mvt 3 0, zT 4 3, bT 5 .geq t4 (ci 5), mvt 6 5, nT 7 6 t0, ⟨(some 8), (some (6, true)), (.call true 141 [t7, (ci 0), (ci 11)])⟩, pT 9 (.pick t6 t8 cf), mvt 10 9, nT 11 10 t0, kT 12 10 (.iad t11 (ci 0) 1), kT 13 10 (.ld t12 1 false), kT 14 10 (.bin .eql t13 (ci 0)), pT 15 (.pick t10 t14 cf), mvt 2 15] .ret))
theorem c5D : IsF Tryz.prog 99 c99 [(.tmp 2)] := ⟨by kernel_rfl, by kernel_rfl⟩

def U5 (v0 : List Int) : Option (Bool) :=
 (bif (decide ((5 : Int) ≤ (v0.length : Int))) then ((a0f v0 0 11).bind fun u0 => (bif u0 then ((ix v0 0).bind fun u1 => some (decide (u1 = (0 : Int))))
 else some false))
 else some false)
@[simp] def a8x (r : Bool) : RV := .one (.one (.val (.bool r)))
theorem a3V {v0 : List Int} {r : Bool} (hF : U5 v0 = some r) : Con Tryz.prog 99 [.sl 1 (v0.map vI)] (a8x r) := by
 unfold U5 at hF
 refine p7 c5D.1 fun N => ?_
 refine ws 0 64 (qb (d9 (ws 64 960 (qr (AL 1 (v0.map vI)) (qp (AI (v0.length : Int)) (j0 rfl) (qr (AB (decide ((5 : Int) ≤ (v0.length : Int)))) (qr (AB (decide ((5 : Int) ≤ (v0.length : Int)))) ?_)))))))
 refine p5 6 hF rfl (fun hF => ?_) (fun hF => ?_)
 ·
  refine qg (AL 1 (v0.map vI)) rfl rfl (bk hF fun u0 e0 hF => qG (AB u0) [] (a9M e0) c4Z (qr (AB u0) (qr (AB u0) (p5 10 hF rfl (fun hF => qg (AL 1 (v0.map vI)) rfl rfl (bk hF fun u1 e1 hF => qg (.val none (.ptr [.int .i64 u1])) rfl (j4 rfl rfl e1 rfl) (qg (AI u1) rfl rfl (qg (AB (decide (u1 = (0 : Int)))) rfl rfl (qr (AB (decide (u1 = (0 : Int)))) (qr (AB (decide (u1 = (0 : Int)))) (rR hF))))))) fun hF => ?_))))
  exact qn4 (qb (qb (rR hF)))
 exact qn2 (qb (qb (qn4 (qb (qb (rR hF))))))

def c9I : MC := (sr [pT 4 (.mv cf)] (.seq (sr [pT 5 (.mv (ci 0))] (.block 0 (.loop (.seq (sr [mvt 6 5, mvt 7 0, zT 8 7, bT 9 .lss t6 t8] (cx t9 0)) (.seq (.block 1 (sr [mvt 12 0, mvt 13 5, iT 14 12 13 1, lT 15 14, mvt 16 1, bT 17 .eql t15 t16] (.cond t17 (sr [pT 4 (.mv ct)] .ret) .skip))) (.reg [mvt 10 5, bT 11 .add t10 (ci 1), mvt 5 11])))))) (sr [pT 4 (.mv cf)] .ret)))
theorem c2J : IsF Tryz.prog 142 c9I [(.tmp 4)] := ⟨by kernel_rfl, by kernel_rfl⟩

def Q9 (v0 : List Int) (v1 : Int) (k0 : Int → Option (Bool)) : Int → Option (Bool)
 | x1 => (bif (decide (x1 < (v0.length : Int))) then ((ix v0 x1).bind fun u0 => (bif (decide (u0 = v1)) then some true
 else k0 (w64 (x1 + 1))))
 else some false)
def a0B (v0 : List Int) (v1 : Int) : Option (Bool) :=
 loop (Q9 v0 v1) 0
@[simp] def b1P (r : Bool) : RV := .one (.one (.val (.bool r)))
theorem a5a {v0 : List Int} {v1 : Int} {r : Bool} (hF : a0B v0 v1 = some r) : Con Tryz.prog 142 [.sl 1 (v0.map vI), .int .i64 v1] (b1P r) := by
 unfold a0B at hF
 refine p7 c2J.1 fun N => ?_
 refine ws 0 64 (qb (d9 (i8 (ws 64 128 (qr (AI 0) (d9 (j7 ?_)))))))
 refine wr (l' := [(0, AL 1 (v0.map vI)), (1, AI v1), (5, AI 0)]) (L := []) [0, 1, 5] [] 1 ?_
 refine y5 (Q9 v0 v1) (fun s : Int => mkS [(0, AL 1 (v0.map vI)), (1, AI v1), (5, AI s)] (fo []) 1) hF ?_
 rintro k0 x1 hF
 rw [Q9] at hF
 try dsimp only
 refine i8 (ws 1 257 (qr (AI x1) (qr (AL 1 (v0.map vI)) (qp (AI (v0.length : Int)) (j0 rfl) (qr (AB (decide (x1 < (v0.length : Int)))) (d9 ?_))))))
 refine cF hF (fun hF => ?_) fun hF => ?_
 ·
  refine g9 (f5 (i8 (j7 (ws 257 641 (qr (AL 1 (v0.map vI)) (qr (AI x1) (bk hF fun u0 e0 hF => qp (.val none (.ptr [.int .i64 u0])) (j4 rfl rfl e0 rfl) (qr (AI u0) (qr (AI v1) (qr (AB (decide (u0 = v1))) (d9 ?_)))))))))))
  refine cF hF (fun hF => ws 641 705 (qt (d9 (j8 (g7 (f7 (f7 (g7 (f7 (eQ hF)))))))))) fun hF => ?_
  refine g9 (p6 (f5 (y4 641 833 rfl rfl (qr (AI x1) (qr (AI (w64 (x1 + 1))) (qr (AI (w64 (x1 + 1))) (d9 (f5 ?_))))))))
  refine ar (l' := [(0, AL 1 (v0.map vI)), (1, AI v1), (5, AI (w64 (x1 + 1)))]) (L := []) [0, 1, 5] [] 1 ⟨_, by rfl, hF⟩
 exact z8 (j5 (j5 (s9 (f5 (ws 257 321 (qb (rR hF)))))))

def c9Y : MC := (sr [pT 4 (.mv cf)] (sr [mvt 5 0, pT 6 (.nck t5), pT 7 (.fad t6 1), lT 8 7, mvt 9 1, dT 10 142 [t8, t9], mvt 11 10, nF 12 11 t0, kF 13 11 (.nck t12), kF 14 11 (.fad t13 2), kF 15 11 (.ld t14 1 false), nF 16 11 t1, ⟨(some 17), (some (11, false)), (.call true 142 [t15, t16])⟩, pT 18 (.pick t11 ct t17), mvt 4 18] .ret))
theorem c2k : IsF Tryz.prog 100 c9Y [(.tmp 4)] := ⟨by kernel_rfl, by kernel_rfl⟩

def Y5 (v0 : A8) (v1 : Int) : Option (Bool) :=
 ((a0B v0.2.1 v1).bind fun u0 => (bif u0 then some true
 else ((a0B v0.2.2.1 v1).bind fun u1 => some u1)))
@[simp] abbrev K2z (v0 : A8) : AV := .val none (.ptr [.str v0.1, .sl 1 (v0.2.1.map vI), .sl 1 (v0.2.2.1.map vI), .int .i64 v0.2.2.2.1, .int .i64 v0.2.2.2.2.1, .sl 1 (v0.2.2.2.2.2.map (eL 1 vI))])
@[simp] def b1c (r : Bool) : RV := .one (.one (.val (.bool r)))
theorem a4e {v0 : A8} {v1 : Int} {r : Bool} (hF : Y5 v0 v1 = some r) : Con Tryz.prog 100 [.ptr [.str v0.1, .sl 1 (v0.2.1.map vI), .sl 1 (v0.2.2.1.map vI), .int .i64 v0.2.2.2.1, .int .i64 v0.2.2.2.2.1, .sl 1 (v0.2.2.2.2.2.map (eL 1 vI))], .int .i64 v1] (b1c r) := by
 unfold Y5 at hF
 refine p7 c2k.1 fun N => ?_
 refine ws 0 64 (qb (d9 (ws 64 1024 (qr (K2z v0) (qr (K2z v0) (qr (.val none (.ptr [.sl 1 (v0.2.1.map vI), .sl 1 (v0.2.2.1.map vI), .int .i64 v0.2.2.2.1, .int .i64 v0.2.2.2.2.1, .sl 1 (v0.2.2.2.2.2.map (eL 1 vI))])) (qr (AL 1 (v0.2.1.map vI)) (qr (AI v1) (bk hF fun u0 e0 hF => qC (AB u0) [] (a5a e0) c2J (qr (AB u0) (p5 11 hF rfl (fun hF => qn6 (qt (qt (rR hF)))) fun hF => ?_)))))))))))
 exact qg (K2z v0) rfl rfl (qg (K2z v0) rfl rfl (qg (.val none (.ptr [.sl 1 (v0.2.2.1.map vI), .int .i64 v0.2.2.2.1, .int .i64 v0.2.2.2.2.1, .sl 1 (v0.2.2.2.2.2.map (eL 1 vI))])) rfl rfl (qg (AL 1 (v0.2.2.1.map vI)) rfl rfl (qg (AI v1) rfl rfl (bk hF fun u1 e1 hF => qG (AB u1) [] (a5a e1) c2J (qr (AB u1) (qr (AB u1) (rR hF))))))))

def c8V : MC := (sr [pT 2 (.mv cf)] (sr [mP 3 t0, zF 4 3, bF 5 .eql t4 (ci 2), mP 6 t5, mT 7 6 t0, jG 8 6 7 0 1, lG 9 6 8, ⟨(some 10), (some (6, true)), (.call false 115 [t9, (ci 0), (ci 11)])⟩, pF 11 (.pick t6 t10 cf), mP 12 t11, mT 13 12 t0, jG 14 12 13 1 1, lG 15 12 14, ⟨(some 16), (some (12, true)), (.call false 115 [t15, (ci 0), (ci 11)])⟩, pF 17 (.pick t12 t16 cf), mP 18 t17, mT 19 18 t0, jG 20 18 19 0 1, lG 21 18 20, mT 22 18 t0, jG 23 18 22 1 1, lG 24 18 23, bG 25 18 .neq t21 t24, pF 26 (.pick t18 t25 cf), mP 2 t26] .ret))
theorem c5k : IsF Tryz.prog 143 c8V [(.tmp 2)] := ⟨by kernel_rfl, by kernel_rfl⟩

def a1b (v0 : List Int) : Option (Bool) :=
 (bif (decide ((v0.length : Int) = (2 : Int))) then ((ix v0 0).bind fun u0 => ((C0 u0 0 11).bind fun u1 => (bif u1 then ((ix v0 1).bind fun u2 => ((C0 u2 0 11).bind fun u3 => (bif u3 then ((ix v0 0).bind fun u4 => ((ix v0 1).bind fun u5 => some (decide (u4 ≠ u5))))
 else some false)))
 else some false)))
 else some false)
@[simp] abbrev K30 (v0 : List Int) : AV := AL 1 (v0.map vI)
@[simp] def b0l (r : Bool) : RV := .one (.one (.val (.bool r)))
theorem b0U {v0 : List Int} {r : Bool} (hF : a1b v0 = some r) : Con Tryz.prog 143 [.sl 1 (v0.map vI)] (b0l r) := by
 unfold a1b at hF
 refine p7 c5k.1 fun N => ?_
 refine ws 0 64 (qb (d9 (ws 64 1664 (qr (K30 v0) (qp (AI (v0.length : Int)) (j0 rfl) (qr (AB (decide ((v0.length : Int) = (2 : Int)))) (qr (AB (decide ((v0.length : Int) = (2 : Int)))) ?_)))))))
 refine p5 6 hF rfl (fun hF => ?_) (fun hF => ?_)
 ·
  refine qg (K30 v0) rfl rfl (bk hF fun u0 e0 hF => qg (.val none (.ptr [.int .i64 u0])) rfl (j4 rfl rfl e0 rfl) (qg (AI u0) rfl rfl (bk hF fun u1 e1 hF => qG (AB u1) [] (C1 e1) a2i (qr (AB u1) (qr (AB u1) ?_)))))
  refine p5 12 hF rfl (fun hF => ?_) (fun hF => ?_)
  ·
   refine qg (K30 v0) rfl rfl (bk hF fun u2 e2 hF => qg (.val none (.ptr [.int .i64 u2])) rfl (j4 rfl rfl e2 rfl) (qg (AI u2) rfl rfl (bk hF fun u3 e3 hF => qG (AB u3) [] (C1 e3) a2i (qr (AB u3) (qr (AB u3) (p5 18 hF rfl (fun hF => qg (K30 v0) rfl rfl (bk hF fun u4 e4 hF => qg (.val none (.ptr [.int .i64 u4])) rfl (j4 rfl rfl e4 rfl) (qg (AI u4) rfl rfl (qg (K30 v0) rfl rfl (bk hF fun u5 e5 hF => qg (.val none (.ptr [.int .i64 u5])) rfl (j4 rfl rfl e5 rfl) (qg (AI u5) rfl rfl (qg (AB (decide (u4 ≠ u5))) rfl rfl (qr (AB (decide (u4 ≠ u5))) (qr (AB (decide (u4 ≠ u5))) (rR hF)))))))))) fun hF => ?_))))))
   exact qn7 (qb (qb (rR hF)))
  exact qn4 (qb (qb (qn2 (qn5 (qb (qb (rR hF)))))))
 exact qn4 (qb (qb (qn2 (qn2 (qb (qb (qn4 (qn3 (qb (qb (rR hF)))))))))))

def c9X : MC := (sr [pT 2 (.mv cf)] (.seq (sr [pT 3 (.mv (ci 0))] (.block 0 (.loop (.seq (sr [mvt 4 3, mvt 5 0, zT 6 5, bT 7 .lss t4 t6] (cx t7 0)) (.seq (.block 1 (.seq (sr [mvt 10 0, mvt 11 3, iT 12 10 11 1, lT 13 12, dT 14 143 [t13], pT 15 (.not t14)] (.cond t15 (sr [pT 2 (.mv cf)] .ret) .skip)) (sr [mP 16 t3, bF 17 .gtr t16 (ci 0), mP 18 t17, mT 19 18 t0, mT 20 18 t3, bG 21 18 .sub t20 (ci 1), iG 22 18 19 21 1, lG 23 18 22, jG 24 18 23 0 1, lG 25 18 24, mT 26 18 t0, mT 27 18 t3, iG 28 18 26 27 1, lG 29 18 28, jG 30 18 29 0 1, lG 31 18 30, bG 32 18 .gtr t25 t31, mT 33 18 t32, mF 34 33 t0, mF 35 33 t3, bH 36 33 .sub t35 (ci 1), iH 37 33 34 36 1, lH 38 33 37, jH 39 33 38 0 1, lH 40 33 39, mF 41 33 t0, mF 42 33 t3, iH 43 33 41 42 1, lH 44 33 43, jH 45 33 44 0 1, lH 46 33 45, bH 47 33 .eql t40 t46, mF 48 33 t47, mT 49 48 t0, mT 50 48 t3, bG 51 48 .sub t50 (ci 1), iG 52 48 49 51 1, lG 53 48 52, jG 54 48 53 1 1, lG 55 48 54, mT 56 48 t0, mT 57 48 t3, iG 58 48 56 57 1, lG 59 48 58, jG 60 48 59 1 1, lG 61 48 60, bG 62 48 .geq t55 t61, gF 63 33 (.pick t48 t62 cf), gT 64 18 (.pick t33 ct t63), pF 65 (.pick t18 t64 cf)] (.cond t65 (sr [pT 2 (.mv cf)] .ret) .skip)))) (.reg [mvt 8 3, bT 9 .add t8 (ci 1), mvt 3 9])))))) (sr [mvt 66 0, zT 67 66, bT 68 .leq t67 (ci 8), mvt 2 68] .ret)))
theorem c5q : IsF Tryz.prog 101 c9X [(.tmp 2)] := ⟨by kernel_rfl, by kernel_rfl⟩

def M7 (v0 : List (List Int)) (k0 : Int → Option (Bool)) : Int → Option (Bool)
 | x1 => (bif (decide (x1 < (v0.length : Int))) then ((ix v0 x1).bind fun u0 => ((a1b u0).bind fun u1 => (bif (!u1) then some false
 else (bif (decide ((0 : Int) < x1)) then ((ix v0 (w64 (x1 - 1))).bind fun u2 => ((ix u2 0).bind fun u3 => ((ix v0 x1).bind fun u4 => ((ix u4 0).bind fun u5 => (bif (decide (u5 < u3)) then some false
 else ((ix v0 (w64 (x1 - 1))).bind fun u6 => ((ix u6 0).bind fun u7 => ((ix v0 x1).bind fun u8 => ((ix u8 0).bind fun u9 => (bif (decide (u7 = u9)) then ((ix v0 (w64 (x1 - 1))).bind fun u10 => ((ix u10 1).bind fun u11 => ((ix v0 x1).bind fun u12 => ((ix u12 1).bind fun u13 => (bif (decide (u13 ≤ u11)) then some false
 else k0 (w64 (x1 + 1)))))))
 else k0 (w64 (x1 + 1))))))))))))
 else k0 (w64 (x1 + 1))))))
 else some (decide ((v0.length : Int) ≤ (8 : Int))))
def a0r (v0 : List (List Int)) : Option (Bool) :=
 loop (M7 v0) 0
@[simp] abbrev K31 (v0 : List (List Int)) : V := .sl 1 (v0.map (eL 1 vI))
@[simp] def a8P (r : Bool) : RV := .one (.one (.val (.bool r)))
theorem a8W {v0 : List (List Int)} {r : Bool} (hF : a0r v0 = some r) : Con Tryz.prog 101 [.sl 1 (v0.map (eL 1 vI))] (a8P r) := by
 unfold a0r at hF
 refine p7 c5q.1 fun N => ?_
 refine ws 0 64 (qb (d9 (i8 (ws 64 128 (qr (AI 0) (d9 (j7 ?_)))))))
 refine wr (l' := [(0, .val none (K31 v0)), (3, AI 0)]) (L := []) [0, 3] [] 1 ?_
 refine y5 (M7 v0) (fun s : Int => mkS [(0, .val none (K31 v0)), (3, AI s)] (fo []) 1) hF ?_
 rintro k0 x1 hF
 rw [M7] at hF
 try dsimp only
 refine i8 (ws 1 257 (qr (AI x1) (qr (.val none (K31 v0)) (qp (AI (v0.length : Int)) (j0 rfl) (qr (AB (decide (x1 < (v0.length : Int)))) (d9 ?_))))))
 refine cF hF (fun hF => ?_) fun hF => ?_
 ·
  refine g9 (f5 (i8 (j7 (i8 (ws 257 641 (qr (.val none (K31 v0)) (qr (AI x1) (bk hF fun u0 e0 hF => qp (.val none (.ptr [.sl 1 (u0.map vI)])) (j4 rfl rfl e0 rfl) (qr (AL 1 (u0.map vI)) (bk hF fun u1 e1 hF => qC (AB u1) [] (b0U e1) c5k (qr (AB (!u1)) (d9 ?_))))))))))))
  refine cF hF (fun hF => ws 641 705 (qb (d9 (j8 (f7 (g7 (f7 (f7 (g7 (f7 (eQ hF))))))))))) fun hF => ?_
  refine g9 (f5 (ws 641 3841 (qr (AI x1) (qr (AB (decide ((0 : Int) < x1))) (qr (AB (decide ((0 : Int) < x1))) ?_)))))
  refine p5 18 hF rfl (fun hF => ?_) (fun hF => ?_)
  ·
   refine qg (.val none (K31 v0)) rfl rfl (qg (AI x1) rfl rfl (qg (AI (w64 (x1 - 1))) rfl rfl (bk hF fun u2 e2 hF => qg (.val none (.ptr [.sl 1 (u2.map vI)])) rfl (j4 rfl rfl e2 rfl) (qg (AL 1 (u2.map vI)) rfl rfl (bk hF fun u3 e3 hF => qg (.val none (.ptr [.int .i64 u3])) rfl (j4 rfl rfl e3 rfl) (qg (AI u3) rfl rfl (qg (.val none (K31 v0)) rfl rfl (qg (AI x1) rfl rfl (bk hF fun u4 e4 hF => qg (.val none (.ptr [.sl 1 (u4.map vI)])) rfl (j4 rfl rfl e4 rfl) (qg (AL 1 (u4.map vI)) rfl rfl (bk hF fun u5 e5 hF => qg (.val none (.ptr [.int .i64 u5])) rfl (j4 rfl rfl e5 rfl) (qg (AI u5) rfl rfl (qg (AB (decide (u5 < u3))) rfl rfl (qg (AB (decide (u5 < u3))) rfl rfl ?_))))))))))))))
   refine p5 33 hF rfl (fun hF => ?_) (fun hF => ?_)
   ·
    refine qn8 (qn7 (qu rfl (qu rfl (qu rfl (qu rfl (qu rfl (qu rfl (qu rfl (qu rfl (qu rfl ?_))))))))))
    refine qu rfl (qu rfl (qu rfl (qu rfl (qu rfl (qn rfl (qg (AB true) rfl rfl (qt (d9 (B5 rfl (ws 3841 3905 (qb (d9 (j8 ?_)))))))))))))
    exact g7 (f7 (f7 (g7 (f7 (eQ hF)))))
   refine qg (.val none (K31 v0)) rfl rfl (qg (AI x1) rfl rfl (qg (AI (w64 (x1 - 1))) rfl rfl (bk hF fun u6 e6 hF => qg (.val none (.ptr [.sl 1 (u6.map vI)])) rfl (j4 rfl rfl e6 rfl) (qg (AL 1 (u6.map vI)) rfl rfl (bk hF fun u7 e7 hF => qg (.val none (.ptr [.int .i64 u7])) rfl (j4 rfl rfl e7 rfl) (qg (AI u7) rfl rfl (qg (.val none (K31 v0)) rfl rfl (qg (AI x1) rfl rfl (bk hF fun u8 e8 hF => qg (.val none (.ptr [.sl 1 (u8.map vI)])) rfl (j4 rfl rfl e8 rfl) (qg (AL 1 (u8.map vI)) rfl rfl (bk hF fun u9 e9 hF => qg (.val none (.ptr [.int .i64 u9])) rfl (j4 rfl rfl e9 rfl) (qg (AI u9) rfl rfl (qg (AB (decide (u7 = u9))) rfl rfl (qg (AB (decide (u7 = u9))) rfl rfl ?_))))))))))))))
   refine p5 48 hF rfl (fun hF => ?_) (fun hF => ?_)
   ·
    refine qg (.val none (K31 v0)) rfl rfl (qg (AI x1) rfl rfl (qg (AI (w64 (x1 - 1))) rfl rfl (bk hF fun u10 e10 hF => qg (.val none (.ptr [.sl 1 (u10.map vI)])) rfl (j4 rfl rfl e10 rfl) (qg (AL 1 (u10.map vI)) rfl rfl (bk hF fun u11 e11 hF => qg (.val none (.ptr [.int .i64 u11])) rfl (j4 rfl rfl e11 rfl) (qg (AI u11) rfl rfl (qg (.val none (K31 v0)) rfl rfl (qg (AI x1) rfl rfl (bk hF fun u12 e12 hF => qg (.val none (.ptr [.sl 1 (u12.map vI)])) rfl (j4 rfl rfl e12 rfl) (qg (AL 1 (u12.map vI)) rfl rfl (bk hF fun u13 e13 hF => ?_)))))))))))
    refine qg (.val none (.ptr [.int .i64 u13])) rfl (j4 rfl rfl e13 rfl) (qg (AI u13) rfl rfl (qg (AB (decide (u13 ≤ u11))) rfl rfl (qg (AB (decide (u13 ≤ u11))) rfl rfl (qg (AB (decide (u13 ≤ u11))) rfl rfl (qr (AB (decide (u13 ≤ u11))) (d9 ?_))))))
    refine cF hF (fun hF => ws 3841 3905 (qb (d9 (j8 (g7 (f7 (f7 (g7 (f7 (eQ hF)))))))))) fun hF => ?_
    refine g9 (p6 (f5 (y4 3841 4033 rfl rfl (qr (AI x1) (qr (AI (w64 (x1 + 1))) (qr (AI (w64 (x1 + 1))) (d9 (f5 ?_))))))))
    refine ar (l' := [(0, .val none (K31 v0)), (3, AI (w64 (x1 + 1)))]) (L := []) [0, 3] [] 1 ⟨_, by rfl, hF⟩
   refine qn8 (qn6 (qg (AB false) rfl rfl (qg (AB false) rfl rfl (qb (d9 (H2 rfl (g9 (p6 (f5 (y4 3841 4033 rfl rfl ?_))))))))))
   refine qr (AI x1) (qr (AI (w64 (x1 + 1))) (qr (AI (w64 (x1 + 1))) (d9 (f5 ?_))))
   refine ar (l' := [(0, .val none (K31 v0)), (3, AI (w64 (x1 + 1)))]) (L := []) [0, 3] [] 1 ⟨_, by rfl, hF⟩
  refine qn8 (qn7 (qu rfl (qu rfl (qu rfl (qu rfl (qu rfl (qu rfl (qu rfl (qu rfl (qu rfl ?_))))))))))
  refine qu rfl (qu rfl (qu rfl (qu rfl (qu rfl (qu rfl (qu rfl (qu rfl ?_)))))))
  refine qu rfl (qu rfl (qu rfl (qu rfl (qu rfl (qu rfl (qu rfl (qu rfl ?_)))))))
  refine qu rfl (qu rfl (qu rfl (qu rfl (qu rfl (qn rfl (qb (d9 (H2 rfl (g9 (p6 (f5 (y4 3841 4033 rfl rfl ?_))))))))))))
  refine qr (AI x1) (qr (AI (w64 (x1 + 1))) (qr (AI (w64 (x1 + 1))) (d9 (f5 ?_))))
  refine ar (l' := [(0, .val none (K31 v0)), (3, AI (w64 (x1 + 1)))]) (L := []) [0, 3] [] 1 ⟨_, by rfl, hF⟩
 exact z8 (j5 (j5 (s9 (f5 (ws 257 513 (qr (.val none (K31 v0)) (qp (AI (v0.length : Int)) (j0 rfl) (qr (AB (decide ((v0.length : Int) ≤ (8 : Int)))) (qr (AB (decide ((v0.length : Int) ≤ (8 : Int)))) (rR hF))))))))))

def c60 : MC := (sr [pT 2 (.mv cf)] (sr [mP 3 t0, pF 4 (.nck t3), pF 5 (.fad t4 0), lF 6 5, dF 7 98 [t6], mP 8 t7, mT 9 8 t0, gT 10 8 (.nck t9), gT 11 8 (.fad t10 1), lG 12 8 11, ⟨(some 13), (some (8, true)), (.call false 99 [t12])⟩, pF 14 (.pick t8 t13 cf), mP 15 t14, mT 16 15 t0, gT 17 15 (.nck t16), gT 18 15 (.fad t17 2), lG 19 15 18, ⟨(some 20), (some (15, true)), (.call false 99 [t19])⟩, pF 21 (.pick t15 t20 cf), mP 22 t21, mT 23 22 t0, mT 24 22 t0, gT 25 22 (.nck t24), gT 26 22 (.fad t25 3), lG 27 22 26, ⟨(some 28), (some (22, true)), (.call false 100 [t23, t27])⟩, pF 29 (.pick t22 t28 cf), mP 30 t29, mT 31 30 t0, mT 32 30 t0, gT 33 30 (.nck t32), gT 34 30 (.fad t33 4), lG 35 30 34, ⟨(some 36), (some (30, true)), (.call false 100 [t31, t35])⟩, pF 37 (.pick t30 t36 cf), mP 38 t37, mT 39 38 t0, gT 40 38 (.nck t39), gT 41 38 (.fad t40 3), lG 42 38 41, mT 43 38 t0, gT 44 38 (.nck t43), gT 45 38 (.fad t44 4), lG 46 38 45, bG 47 38 .neq t42 t46, pF 48 (.pick t38 t47 cf), mP 49 t48, mT 50 49 t0, gT 51 49 (.nck t50), gT 52 49 (.fad t51 5), lG 53 49 52, ⟨(some 54), (some (49, true)), (.call false 101 [t53])⟩, pF 55 (.pick t49 t54 cf), mP 2 t55] .ret))
theorem c8b : IsF Tryz.prog 60 c60 [(.tmp 2)] := ⟨by kernel_rfl, by kernel_rfl⟩

def a2o (v0 : A8) : Option (Bool) :=
 ((F6 v0.1).bind fun u0 => (bif u0 then ((U5 v0.2.1).bind fun u1 => (bif u1 then ((U5 v0.2.2.1).bind fun u2 => (bif u2 then ((Y5 v0 v0.2.2.2.1).bind fun u3 => (bif u3 then ((Y5 v0 v0.2.2.2.2.1).bind fun u4 => (bif u4 then (bif (decide (v0.2.2.2.1 ≠ v0.2.2.2.2.1)) then ((a0r v0.2.2.2.2.2).bind fun u5 => some u5)
 else some false)
 else some false))
 else some false))
 else some false))
 else some false))
 else some false))
@[simp] abbrev K32 (v0 : A8) : AV := .val none (.ptr [.str v0.1, .sl 1 (v0.2.1.map vI), .sl 1 (v0.2.2.1.map vI), .int .i64 v0.2.2.2.1, .int .i64 v0.2.2.2.2.1, .sl 1 (v0.2.2.2.2.2.map (eL 1 vI))])
@[simp] abbrev K33 (v0 : A8) : AV := .val none (.ptr [.int .i64 v0.2.2.2.1, .int .i64 v0.2.2.2.2.1, .sl 1 (v0.2.2.2.2.2.map (eL 1 vI))])
@[simp] def b3y (r : Bool) : RV := .one (.one (.val (.bool r)))
theorem b4H {v0 : A8} {r : Bool} (hF : a2o v0 = some r) : Con Tryz.prog 60 [.ptr [.str v0.1, .sl 1 (v0.2.1.map vI), .sl 1 (v0.2.2.1.map vI), .int .i64 v0.2.2.2.1, .int .i64 v0.2.2.2.2.1, .sl 1 (v0.2.2.2.2.2.map (eL 1 vI))]] (b3y r) := by
 unfold a2o at hF
 refine p7 c8b.1 fun N => ?_
 refine ws 0 64 (qb (d9 (ws 64 3520 (qr (K32 v0) (qr (K32 v0) (qr (K32 v0) (qr (AS v0.1) (bk hF fun u0 e0 hF => qC (AB u0) [] (M4 e0) b7a (qr (AB u0) ?_)))))))))
 refine p5 8 hF rfl (fun hF => ?_) (fun hF => ?_)
 ·
  refine qg (K32 v0) rfl rfl (qg (K32 v0) rfl rfl (qg (.val none (.ptr [.sl 1 (v0.2.1.map vI), .sl 1 (v0.2.2.1.map vI), .int .i64 v0.2.2.2.1, .int .i64 v0.2.2.2.2.1, .sl 1 (v0.2.2.2.2.2.map (eL 1 vI))])) rfl rfl (qg (AL 1 (v0.2.1.map vI)) rfl rfl (bk hF fun u1 e1 hF => qG (AB u1) [] (a3V e1) c5D (qr (AB u1) (qr (AB u1) ?_))))))
  refine p5 15 hF rfl (fun hF => ?_) (fun hF => ?_)
  ·
   refine qg (K32 v0) rfl rfl (qg (K32 v0) rfl rfl (qg (.val none (.ptr [.sl 1 (v0.2.2.1.map vI), .int .i64 v0.2.2.2.1, .int .i64 v0.2.2.2.2.1, .sl 1 (v0.2.2.2.2.2.map (eL 1 vI))])) rfl rfl (qg (AL 1 (v0.2.2.1.map vI)) rfl rfl (bk hF fun u2 e2 hF => qG (AB u2) [] (a3V e2) c5D (qr (AB u2) (qr (AB u2) ?_))))))
   refine p5 22 hF rfl (fun hF => ?_) (fun hF => ?_)
   ·
    refine qg (K32 v0) rfl rfl (qg (K32 v0) rfl rfl (qg (K32 v0) rfl rfl (qg (K33 v0) rfl rfl (qg (AI v0.2.2.2.1) rfl rfl (bk hF fun u3 e3 hF => qG (AB u3) [] (a4e e3) c2k (qr (AB u3) (qr (AB u3) ?_)))))))
    refine p5 30 hF rfl (fun hF => ?_) (fun hF => ?_)
    ·
     refine qg (K32 v0) rfl rfl (qg (K32 v0) rfl rfl (qg (K32 v0) rfl rfl (qg (.val none (.ptr [.int .i64 v0.2.2.2.2.1, .sl 1 (v0.2.2.2.2.2.map (eL 1 vI))])) rfl rfl (qg (AI v0.2.2.2.2.1) rfl rfl (bk hF fun u4 e4 hF => qG (AB u4) [] (a4e e4) c2k (qr (AB u4) (qr (AB u4) ?_)))))))
     refine p5 38 hF rfl (fun hF => ?_) (fun hF => ?_)
     ·
      refine qg (K32 v0) rfl rfl (qg (K32 v0) rfl rfl (qg (K33 v0) rfl rfl (qg (AI v0.2.2.2.1) rfl rfl (qg (K32 v0) rfl rfl (qg (K32 v0) rfl rfl (qg (.val none (.ptr [.int .i64 v0.2.2.2.2.1, .sl 1 (v0.2.2.2.2.2.map (eL 1 vI))])) rfl rfl (qg (AI v0.2.2.2.2.1) rfl rfl (qg (AB (decide (v0.2.2.2.1 ≠ v0.2.2.2.2.1))) rfl rfl (qr (AB (decide (v0.2.2.2.1 ≠ v0.2.2.2.2.1))) (qr (AB (decide (v0.2.2.2.1 ≠ v0.2.2.2.2.1))) ?_))))))))))
      refine p5 49 hF rfl (fun hF => qg (K32 v0) rfl rfl (qg (K32 v0) rfl rfl (qg (.val none (.ptr [.sl 1 (v0.2.2.2.2.2.map (eL 1 vI))])) rfl rfl (qg (AL 1 (v0.2.2.2.2.2.map (eL 1 vI))) rfl rfl (bk hF fun u5 e5 hF => qG (AB u5) [] (a8W e5) c5q (qr (AB u5) (qr (AB u5) (rR hF)))))))) fun hF => ?_
      exact qn5 (qb (qb (rR hF)))
     exact qn8 (qn rfl (qb (qb (qn rfl (qn rfl (qn rfl (qn rfl (qn rfl (qb (qb (rR hF)))))))))))
    exact qn6 (qb (qb (qn8 (qn rfl (qb (qb (qn rfl (qn rfl (qn rfl (qn rfl (qn rfl (qb (qb (rR hF))))))))))))))
   refine qn6 (qb (qb (qn6 (qb (qb (qn8 ?_))))))
   exact qn rfl (qb (qb (qn rfl (qn rfl (qn rfl (qn rfl (qn rfl (qb (qb (rR hF))))))))))
  refine qn5 (qb (qb (qn rfl (qn5 (qb (qb (qn rfl (qn5 (qb (qb (qn rfl (qn8 ?_))))))))))))
  exact qb (qb (qn5 (qb (qb (rR hF)))))
 refine qn5 (qb (qb (qn rfl (qn4 (qb (qb (qn2 (qn4 (qb (qb (qn2 ?_)))))))))))
 exact qn4 (qb (qb (qn2 (qn7 (qb (qb (qn5 (qb (qb (rR hF))))))))))

def c9T : MC := (sr [pT 2 (.mv cf)] (sr [mvt 3 0, dT 4 115 [t3, (ci (-12)), (ci 23)], mvt 2 4] .ret))
theorem c1Z : IsF Tryz.prog 102 c9T [(.tmp 2)] := ⟨by kernel_rfl, by kernel_rfl⟩

def U2 (v0 : Int) : Option (Bool) :=
 ((C0 v0 (-12) 23).bind fun u0 => some u0)
@[simp] def a9l (r : Bool) : RV := .one (.one (.val (.bool r)))
theorem a3X {v0 : Int} {r : Bool} (hF : U2 v0 = some r) : Con Tryz.prog 102 [.int .i64 v0] (a9l r) := by
 unfold U2 at hF
 refine p7 c1Z.1 fun N => ?_
 exact ws 0 64 (qb (d9 (ws 64 256 (qr (AI v0) (bk hF fun u0 e0 hF => qC (AB u0) [] (C1 e0) a2i (qr (AB u0) (rR hF)))))))

def c8P : MC := (sr [pT 2 (.mv cf)] (sr [mvt 3 0, dT 4 115 [t3, (ci 1), (ci 64)], mvt 2 4] .ret))
theorem c4S : IsF Tryz.prog 103 c8P [(.tmp 2)] := ⟨by kernel_rfl, by kernel_rfl⟩

def a1n (v0 : Int) : Option (Bool) :=
 ((C0 v0 1 64).bind fun u0 => some u0)
@[simp] def a7Z (r : Bool) : RV := .one (.one (.val (.bool r)))
theorem a8c {v0 : Int} {r : Bool} (hF : a1n v0 = some r) : Con Tryz.prog 103 [.int .i64 v0] (a7Z r) := by
 unfold a1n at hF
 refine p7 c4S.1 fun N => ?_
 exact ws 0 64 (qb (d9 (ws 64 256 (qr (AI v0) (bk hF fun u0 e0 hF => qC (AB u0) [] (C1 e0) a2i (qr (AB u0) (rR hF)))))))

def c61 : MC := (sr [pT 2 (.mv cf)] (.seq (sr [pT 3 (.mv (ci 0))] (.block 0 (.loop (.seq (sr [mvt 4 3, mvt 5 0, zT 6 5, bT 7 .lss t4 t6] (cx t7 0)) (.seq (.block 1 (sr [mvt 10 0, mvt 11 3, iT 12 10 11 2, pT 13 (.fad t12 0), lT 14 13, dT 15 102 [t14], pT 16 (.not t15), mvt 17 16, nF 18 17 t0, nF 19 17 t3, kF 20 17 (.iad t18 t19 2), kF 21 17 (.fad t20 1), kF 22 17 (.ld t21 1 false), ⟨(some 23), (some (17, false)), (.call true 103 [t22])⟩, kF 24 17 (.not t23), pT 25 (.pick t17 ct t24)] (.cond t25 (sr [pT 2 (.mv cf)] .ret) .skip))) (.reg [mvt 8 3, bT 9 .add t8 (ci 1), mvt 3 9])))))) (sr [mvt 26 0, zT 27 26, bT 28 .leq t27 (ci 48), mvt 2 28] .ret)))
theorem c6V : IsF Tryz.prog 61 c61 [(.tmp 2)] := ⟨by kernel_rfl, by kernel_rfl⟩

def U1 (v0 : List j6) (k0 : Int → Option (Bool)) : Int → Option (Bool)
 | x1 => (bif (decide (x1 < (v0.length : Int))) then ((ix v0 x1).bind fun u0 => ((U2 u0.1).bind fun u1 => (bif (!u1) then some false
 else ((ix v0 x1).bind fun u2 => ((a1n u2.2).bind fun u3 => (bif (!u3) then some false
 else k0 (w64 (x1 + 1))))))))
 else some (decide ((v0.length : Int) ≤ (48 : Int))))
def a2u (v0 : List j6) : Option (Bool) :=
 loop (U1 v0) 0
@[simp] def b4C (r : Bool) : RV := .one (.one (.val (.bool r)))
theorem b3l {v0 : List j6} {r : Bool} (hF : a2u v0 = some r) : Con Tryz.prog 61 [.sl 2 (v0.map j3)] (b4C r) := by
 unfold a2u at hF
 refine p7 c6V.1 fun N => ?_
 refine ws 0 64 (qb (d9 (i8 (ws 64 128 (qr (AI 0) (d9 (j7 ?_)))))))
 refine wr (l' := [(0, AL 2 (v0.map j3)), (3, AI 0)]) (L := []) [0, 3] [] 1 ?_
 refine y5 (U1 v0) (fun s : Int => mkS [(0, AL 2 (v0.map j3)), (3, AI s)] (fo []) 1) hF ?_
 rintro k0 x1 hF
 rw [U1] at hF
 try dsimp only
 refine i8 (ws 1 257 (qr (AI x1) (qr (AL 2 (v0.map j3)) (qp (AI (v0.length : Int)) (j0 rfl) (qr (AB (decide (x1 < (v0.length : Int)))) (d9 ?_))))))
 refine cF hF (fun hF => ?_) fun hF => ?_
 ·
  refine g9 (f5 (i8 (j7 (ws 257 1281 (qr (AL 2 (v0.map j3)) (qr (AI x1) (bk hF fun u0 e0 hF => qp (.val none (.ptr [.int .i64 u0.1, .int .i64 u0.2])) (j4 rfl rfl e0 rfl) (qr (.val none (.ptr [.int .i64 u0.1, .int .i64 u0.2])) (qr (AI u0.1) (bk hF fun u1 e1 hF => qC (AB u1) [] (a3X e1) c1Z (qr (AB (!u1)) (qr (AB (!u1)) ?_))))))))))))
  refine p5 17 hF rfl (fun hF => qn7 (qt (d9 (B5 rfl (ws 1281 1345 (qb (d9 (j8 (g7 (f7 (f7 (g7 (f7 (eQ hF)))))))))))))) fun hF => ?_
  refine qg (AL 2 (v0.map j3)) rfl rfl (qg (AI x1) rfl rfl (bk hF fun u2 e2 hF => qg (.val none (.ptr [.int .i64 u2.1, .int .i64 u2.2])) rfl (j4 rfl rfl e2 rfl) (qg (.val none (.ptr [.int .i64 u2.2])) rfl rfl (qg (AI u2.2) rfl rfl (bk hF fun u3 e3 hF => qG (AB u3) [] (a8c e3) c4S (qg (AB (!u3)) rfl rfl (qr (AB (!u3)) (d9 ?_))))))))
  refine cF hF (fun hF => ws 1281 1345 (qb (d9 (j8 (g7 (f7 (f7 (g7 (f7 (eQ hF)))))))))) fun hF => ?_
  refine g9 (p6 (f5 (y4 1281 1473 rfl rfl (qr (AI x1) (qr (AI (w64 (x1 + 1))) (qr (AI (w64 (x1 + 1))) (d9 (f5 ?_))))))))
  refine ar (l' := [(0, AL 2 (v0.map j3)), (3, AI (w64 (x1 + 1)))]) (L := []) [0, 3] [] 1 ⟨_, by rfl, hF⟩
 exact z8 (j5 (j5 (s9 (f5 (ws 257 513 (qr (AL 2 (v0.map j3)) (qp (AI (v0.length : Int)) (j0 rfl) (qr (AB (decide ((v0.length : Int) ≤ (48 : Int)))) (qr (AB (decide ((v0.length : Int) ≤ (48 : Int)))) (rR hF))))))))))

def c9y : MC := (sr [pT 2 (.mv cf)] (sr [mvt 3 0, dT 4 115 [t3, (ci 1), (ci 1000000)], mvt 2 4] .ret))
theorem c1o : IsF Tryz.prog 144 c9y [(.tmp 2)] := ⟨by kernel_rfl, by kernel_rfl⟩

def a0V (v0 : Int) : Option (Bool) :=
 ((C0 v0 1 1000000).bind fun u0 => some u0)
@[simp] def b0p (r : Bool) : RV := .one (.one (.val (.bool r)))
theorem a4u {v0 : Int} {r : Bool} (hF : a0V v0 = some r) : Con Tryz.prog 144 [.int .i64 v0] (b0p r) := by
 unfold a0V at hF
 refine p7 c1o.1 fun N => ?_
 exact ws 0 64 (qb (d9 (ws 64 256 (qr (AI v0) (bk hF fun u0 e0 hF => qC (AB u0) [] (C1 e0) a2i (qr (AB u0) (rR hF)))))))

def c8X : MC := (sr [pT 4 (.mv (ci 0))] (.seq (.block 0 (.loop (.seq (sr [mvt 6 1, bT 7 .neq t6 (ci 0)] (cx t7 0)) (.block 1 (sr [mvt 8 0, mvt 9 1, bT 10 .rem t8 t9, mvt 5 10] (sr [mvt 11 1, mvt 0 11] (.reg [mvt 12 5, mvt 1 12]))))))) (sr [mvt 13 0, mvt 4 13] .ret)))
theorem c4K : IsF Tryz.prog 145 c8X [(.tmp 4)] := ⟨by kernel_rfl, by kernel_rfl⟩

def a1o (k0 : Int × Int → Option (Int)) : Int × Int → Option (Int)
 | (x2, x3) => (bif (decide (x3 ≠ (0 : Int))) then (need (x3 ≠ 0) (k0 (x3, Int.tmod x2 x3)))
 else some x2)
def a2N (v0 : Int) (v1 : Int) : Option (Int) :=
 loop (a1o) (v0, v1)
@[simp] def b2l (r : Int) : RV := .one (.one (.val (.int .i64 r)))
theorem b2g {v0 : Int} {v1 : Int} {r : Int} (hF : a2N v0 v1 = some r) : Con Tryz.prog 145 [.int .i64 v0, .int .i64 v1] (b2l r) := by
 unfold a2N at hF
 refine p7 c4K.1 fun N => ?_
 refine ws 0 64 (qr (AI 0) (d9 (i8 (j7 ?_))))
 refine wr (l' := [(0, AI v0), (1, AI v1)]) (L := []) [0, 1] [] 1 ?_
 refine y5 (a1o) (fun s : Int × Int => mkS [(0, AI s.1), (1, AI s.2)] (fo []) 1) hF ?_
 rintro k0 ⟨x2, x3⟩ hF
 rw [a1o] at hF
 try dsimp only
 refine i8 (ws 1 129 (qr (AI x3) (qr (AB (decide (x3 ≠ (0 : Int)))) (d9 ?_))))
 refine cF hF (fun hF => ?_) fun hF => ?_
 ·
  refine g9 (f5 (j7 (ws 129 385 (qr (AI x2) (qr (AI x3) (nk hF fun g0 hF => qp (AI (Int.tmod x2 x3)) (b6t rfl rfl g0) (qr (AI (Int.tmod x2 x3)) (d9 (ws 385 513 (qr (AI x3) (qr (AI x3) (d9 (y4 513 641 rfl rfl ?_)))))))))))))
  refine qr (AI (Int.tmod x2 x3)) (qr (AI (Int.tmod x2 x3)) (d9 (p6 (f5 ?_))))
  refine ar (l' := [(0, AI x3), (1, AI (Int.tmod x2 x3))]) (L := []) [0, 1] [] 1 ⟨_, by rfl, hF⟩
 exact z8 (j5 (j5 (s9 (f5 (ws 129 257 (qr (AI x2) (qr (AI x2) (rR hF))))))))

def c8Q : MC := (sr [pT 2 (.mv cf)] (sr [mP 3 t0, pF 4 (.nck t3), pF 5 (.fad t4 0), lF 6 5, dF 7 144 [t6], mP 8 t7, mT 9 8 t0, gT 10 8 (.nck t9), gT 11 8 (.fad t10 1), lG 12 8 11, ⟨(some 13), (some (8, true)), (.call false 144 [t12])⟩, pF 14 (.pick t8 t13 cf), mP 15 t14, mT 16 15 t0, gT 17 15 (.nck t16), gT 18 15 (.fad t17 0), lG 19 15 18, mT 20 15 t0, gT 21 15 (.nck t20), gT 22 15 (.fad t21 1), lG 23 15 22, ⟨(some 24), (some (15, true)), (.call false 145 [t19, t23])⟩, bG 25 15 .eql t24 (ci 1), pF 26 (.pick t15 t25 cf), mP 2 t26] .ret))
theorem c4J : IsF Tryz.prog 104 c8Q [(.tmp 2)] := ⟨by kernel_rfl, by kernel_rfl⟩

def a2d (v0 : j6) : Option (Bool) :=
 ((a0V v0.1).bind fun u0 => (bif u0 then ((a0V v0.2).bind fun u1 => (bif u1 then ((a2N v0.1 v0.2).bind fun u2 => some (decide (u2 = (1 : Int))))
 else some false))
 else some false))
@[simp] abbrev K34 (v0 : j6) : AV := .val none (.ptr [.int .i64 v0.1, .int .i64 v0.2])
@[simp] def b3Y (r : Bool) : RV := .one (.one (.val (.bool r)))
theorem b3w {v0 : j6} {r : Bool} (hF : a2d v0 = some r) : Con Tryz.prog 104 [.ptr [.int .i64 v0.1, .int .i64 v0.2]] (b3Y r) := by
 unfold a2d at hF
 refine p7 c4J.1 fun N => ?_
 refine ws 0 64 (qb (d9 (ws 64 1664 (qr (K34 v0) (qr (K34 v0) (qr (K34 v0) (qr (AI v0.1) (bk hF fun u0 e0 hF => qC (AB u0) [] (a4u e0) c1o (qr (AB u0) ?_)))))))))
 refine p5 8 hF rfl (fun hF => ?_) (fun hF => ?_)
 ·
  refine qg (K34 v0) rfl rfl (qg (K34 v0) rfl rfl (qg (.val none (.ptr [.int .i64 v0.2])) rfl rfl (qg (AI v0.2) rfl rfl (bk hF fun u1 e1 hF => qG (AB u1) [] (a4u e1) c1o (qr (AB u1) (qr (AB u1) ?_))))))
  refine p5 15 hF rfl (fun hF => qg (K34 v0) rfl rfl (qg (K34 v0) rfl rfl (qg (K34 v0) rfl rfl (qg (AI v0.1) rfl rfl (qg (K34 v0) rfl rfl (qg (K34 v0) rfl rfl (qg (.val none (.ptr [.int .i64 v0.2])) rfl rfl (qg (AI v0.2) rfl rfl (bk hF fun u2 e2 hF => qG (AI u2) [] (b2g e2) c4K (qg (AB (decide (u2 = (1 : Int)))) rfl rfl (qr (AB (decide (u2 = (1 : Int)))) (qr (AB (decide (u2 = (1 : Int)))) (rR hF))))))))))))) fun hF => ?_
  exact qn8 (qn2 (qb (qb (rR hF))))
 exact qn5 (qb (qb (qn rfl (qn8 (qn rfl (qb (qb (rR hF))))))))

def c9n : MC := (sr [pT 4 (.mv (ci 0))] (sr [mP 7 t0, pF 8 (.nck t7), pF 9 (.fad t8 0), lF 10 9, mP 11 t1, pF 12 (.nck t11), pF 13 (.fad t12 1), lF 14 13, bF 15 .mul t10 t14, mP 5 t15] (sr [mP 16 t1, pF 17 (.nck t16), pF 18 (.fad t17 0), lF 19 18, mP 20 t0, pF 21 (.nck t20), pF 22 (.fad t21 1), lF 23 22, bF 24 .mul t19 t23, mP 6 t24] (.seq (sr [mvt 25 5, mvt 26 6, bT 27 .lss t25 t26] (.cond t27 (sr [pT 4 (.mv (ci (-1)))] .ret) .skip)) (.seq (sr [mvt 28 5, mvt 29 6, bT 30 .gtr t28 t29] (.cond t30 (sr [pT 4 (.mv (ci 1))] .ret) .skip)) (sr [pT 4 (.mv (ci 0))] .ret))))))
theorem c4O : IsF Tryz.prog 105 c9n [(.tmp 4)] := ⟨by kernel_rfl, by kernel_rfl⟩

def W7 (v0 : j6) (v1 : j6) : Option (Int) :=
 (bif (decide (w64 (v0.1 * v1.2) < w64 (v1.1 * v0.2))) then some (-1)
 else (bif (decide (w64 (v1.1 * v0.2) < w64 (v0.1 * v1.2))) then some 1
 else some 0))
@[simp] abbrev K35 (v0 : j6) : AV := .val none (.ptr [.int .i64 v0.1, .int .i64 v0.2])
@[simp] abbrev K36 (v1 : j6) : AV := .val none (.ptr [.int .i64 v1.1, .int .i64 v1.2])
@[simp] def a6W (r : Int) : RV := .one (.one (.val (.int .i64 r)))
theorem a7e {v0 : j6} {v1 : j6} {r : Int} (hF : W7 v0 v1 = some r) : Con Tryz.prog 105 [.ptr [.int .i64 v0.1, .int .i64 v0.2], .ptr [.int .i64 v1.1, .int .i64 v1.2]] (a6W r) := by
 unfold W7 at hF
 refine p7 c4O.1 fun N => ?_
 refine ws 0 64 (qr (AI 0) (d9 (ws 64 704 (qr (K35 v0) (qr (K35 v0) (qr (K35 v0) (qr (AI v0.1) (qr (K36 v1) (qr (K36 v1) (qr (.val none (.ptr [.int .i64 v1.2])) (qr (AI v1.2) ?_)))))))))))
 refine qr (AI (w64 (v0.1 * v1.2))) (qr (AI (w64 (v0.1 * v1.2))) (d9 (ws 704 1344 (qr (K36 v1) (qr (K36 v1) (qr (K36 v1) (qr (AI v1.1) (qr (K35 v0) (qr (K35 v0) (qr (.val none (.ptr [.int .i64 v0.2])) (qr (AI v0.2) ?_)))))))))))
 refine qr (AI (w64 (v1.1 * v0.2))) (qr (AI (w64 (v1.1 * v0.2))) (d9 (i8 (ws 1344 1536 (qr (AI (w64 (v0.1 * v1.2))) (qr (AI (w64 (v1.1 * v0.2))) (qr (AB (decide (w64 (v0.1 * v1.2) < w64 (v1.1 * v0.2)))) (d9 ?_))))))))
 refine cF hF (fun hF => ws 1536 1600 (qr (AI (-1)) (d9 (j8 (f7 (eQ hF)))))) fun hF => ?_
 refine g9 (f5 (i8 (ws 1536 1728 (qr (AI (w64 (v0.1 * v1.2))) (qr (AI (w64 (v1.1 * v0.2))) (qr (AB (decide (w64 (v1.1 * v0.2) < w64 (v0.1 * v1.2)))) (d9 ?_)))))))
 refine cF hF (fun hF => ws 1728 1792 (qr (AI 1) (d9 (j8 (f7 (eQ hF)))))) fun hF => ?_
 exact g9 (f5 (ws 1728 1792 (qr (AI 0) (rR hF))))

def c62 : MC := (sr [pT 2 (.mv cf)] (.seq (sr [mvt 5 0, pT 6 (.nck t5), pT 7 (.fad t6 0), lT 8 7, dT 9 98 [t8], pT 10 (.not t9), mvt 11 10, nF 12 11 t0, kF 13 11 (.nck t12), kF 14 11 (.fad t13 1), kF 15 11 (.ld t14 1 false), kF 16 11 (.len t15), kF 17 11 (.bin .neq t16 (ci 12)), pT 18 (.pick t11 ct t17)] (.cond t18 (sr [pT 2 (.mv cf)] .ret) .skip)) (.seq (sr [pT 3 (.mv (ci 0))] (.block 0 (.loop (.seq (sr [mvt 19 3, mvt 20 0, pT 21 (.nck t20), pT 22 (.fad t21 1), lT 23 22, zT 24 23, bT 25 .lss t19 t24] (cx t25 0)) (.seq (.block 1 (sr [mvt 28 0, pT 29 (.nck t28), pT 30 (.fad t29 1), lT 31 30, mvt 32 3, iT 33 31 32 2, mvt 4 33] (sr [mP 34 t4, dF 35 104 [t34], pF 36 (.not t35), mP 37 t36, mF 38 37 t4, gF 39 37 (.nck t38), gF 40 37 (.fad t39 0), lH 41 37 40, mF 42 37 t4, gF 43 37 (.nck t42), gF 44 37 (.fad t43 1), lH 45 37 44, bH 46 37 .mul (ci 2) t45, bH 47 37 .geq t41 t46, pF 48 (.pick t37 ct t47), mP 49 t48, mF 50 49 t3, bH 51 49 .gtr t50 (ci 0), mF 52 49 t51, mT 53 52 t0, gT 54 52 (.nck t53), gT 55 52 (.fad t54 1), lG 56 52 55, mT 57 52 t3, bG 58 52 .sub t57 (ci 1), iG 59 52 56 58 2, mT 60 52 t4, ⟨(some 61), (some (52, true)), (.call false 105 [t59, t60])⟩, bG 62 52 .geq t61 (ci 0), gF 63 49 (.pick t52 t62 cf), pF 64 (.pick t49 ct t63)] (.cond t64 (sr [pT 2 (.mv cf)] .ret) .skip)))) (.reg [mvt 26 3, bT 27 .add t26 (ci 1), mvt 3 27])))))) (sr [mvt 65 0, pT 66 (.nck t65), pT 67 (.fad t66 1), lT 68 67, jT 69 68 0 2, pT 70 (.fad t69 0), lT 71 70, bT 72 .eql t71 (ci 1), mvt 73 72, nT 74 73 t0, kT 75 73 (.nck t74), kT 76 73 (.fad t75 1), kT 77 73 (.ld t76 1 false), kT 78 73 (.iad t77 (ci 0) 2), kT 79 73 (.fad t78 1), kT 80 73 (.ld t79 1 false), kT 81 73 (.bin .eql t80 (ci 1)), pT 82 (.pick t73 t81 cf), mvt 2 82] .ret))))
theorem c7k : IsF Tryz.prog 62 c62 [(.tmp 2)] := ⟨by kernel_rfl, by kernel_rfl⟩

def U3 (v0 : z7) (k1 : Int → Option (Bool)) : Int → Option (Bool)
 | x3 => (bif (decide (x3 < (v0.2.length : Int))) then ((ix v0.2 x3).bind fun u9 => ((a2d u9).bind fun u10 => (bif (!u10) then some false
 else (bif (decide (w64 (2 * u9.2) ≤ u9.1)) then some false
 else (bif (decide ((0 : Int) < x3)) then ((ix v0.2 (w64 (x3 - 1))).bind fun u11 => ((W7 u11 u9).bind fun u12 => (bif (decide ((0 : Int) ≤ u12)) then some false
 else k1 (w64 (x3 + 1)))))
 else k1 (w64 (x3 + 1)))))))
 else ((ix v0.2 0).bind fun u13 => (bif (decide (u13.1 = (1 : Int))) then ((ix v0.2 0).bind fun u14 => some (decide (u14.2 = (1 : Int))))
 else some false)))
def a2x (v0 : z7) : Option (Bool) :=
 ((F6 v0.1).bind fun u0 => (bif (!u0) then some false
 else (bif (decide ((v0.2.length : Int) ≠ (12 : Int))) then some false
 else loop (U3 v0) 0)))
@[simp] abbrev K37 (v0 : z7) : AV := .val none (.ptr [.str v0.1, .sl 2 (v0.2.map j3)])
@[simp] abbrev K38 (u9 : j6) : AV := .val none (.ptr [.int .i64 u9.1, .int .i64 u9.2])
@[simp] abbrev K39 (v0 : z7) : AV := .val none (.ptr [.sl 2 (v0.2.map j3)])
@[simp] abbrev K3a (v0 : z7) : Nat × AV := (0, .val none (.ptr [.str v0.1, .sl 2 (v0.2.map j3)]))
@[simp] abbrev K3b (v0 : z7) : AV := AL 2 (v0.2.map j3)
@[simp] def b3I (r : Bool) : RV := .one (.one (.val (.bool r)))
theorem b3o {v0 : z7} {r : Bool} (hF : a2x v0 = some r) : Con Tryz.prog 62 [.ptr [.str v0.1, .sl 2 (v0.2.map j3)]] (b3I r) := by
 unfold a2x at hF
 refine p7 c7k.1 fun N => ?_
 refine ws 0 64 (qb (d9 (i8 (ws 64 960 (qr (K37 v0) (qr (K37 v0) (qr (K37 v0) (qr (AS v0.1) (bk hF fun u0 e0 hF => qC (AB u0) [] (M4 e0) b7a (qr (AB (!u0)) (qr (AB (!u0)) ?_)))))))))))
 refine p5 11 hF rfl (fun hF => qn6 (qt (d9 (B5 rfl (ws 960 1024 (qb (d9 (j8 (f7 (eQ hF)))))))))) fun hF => ?_
 refine qg (K37 v0) rfl rfl (qg (K37 v0) rfl rfl (qg (K39 v0) rfl rfl (qg (K3b v0) rfl rfl (qg (AI (v0.2.length : Int)) rfl (j0 rfl) (qg (AB (decide ((v0.2.length : Int) ≠ (12 : Int)))) rfl rfl (qr (AB (decide ((v0.2.length : Int) ≠ (12 : Int)))) (d9 (cF hF (fun hF => ws 960 1024 (qb (d9 (j8 (f7 (eQ hF)))))) fun hF => ?_))))))))
 refine g9 (f5 (i8 (ws 960 1024 (qr (AI 0) (d9 (j7 ?_))))))
 refine wr (l' := [(K3a v0), (3, AI 0)]) (L := []) [0, 3] [] 1 ?_
 refine y5 (U3 v0) (fun s : Int => mkS [(K3a v0), (3, AI s)] (fo []) 1) hF ?_
 rintro k1 x3 hF
 rw [U3] at hF
 try dsimp only
 refine i8 (ws 1 449 (qr (AI x3) (qr (K37 v0) (qr (K37 v0) (qr (K39 v0) (qr (K3b v0) (qp (AI (v0.2.length : Int)) (j0 rfl) (qr (AB (decide (x3 < (v0.2.length : Int)))) (d9 ?_)))))))))
 refine cF hF (fun hF => ?_) fun hF => ?_
 ·
  refine g9 (f5 (i8 (j7 (ws 449 897 (qr (K37 v0) (qr (K37 v0) (qr (K39 v0) (qr (K3b v0) (qr (AI x3) (bk hF fun u9 e9 hF => qp (K38 u9) (j4 rfl rfl e9 rfl) (qr (K38 u9) (d9 (ws 897 2881 (qr (K38 u9) (bk hF fun u10 e10 hF => ?_)))))))))))))))
  refine qC (AB u10) [] (b3w e10) c4J (qr (AB (!u10)) (qr (AB (!u10)) ?_))
  refine p5 37 hF rfl (fun hF => ?_) (fun hF => ?_)
  ·
   refine qn8 (qn2 (qt (qt (qn3 (qu rfl (qu rfl (qu rfl (qu rfl (qu rfl (qu rfl (qu rfl (qu rfl (qu rfl ?_)))))))))))))
   exact qu rfl (qn rfl (qt (d9 (B5 rfl (ws 2881 2945 (qb (d9 (j8 (g7 (f7 (f7 (g7 (f7 (eQ hF))))))))))))))
  refine qg (K38 u9) rfl rfl (qg (K38 u9) rfl rfl (qg (K38 u9) rfl rfl (qg (AI u9.1) rfl rfl (qg (K38 u9) rfl rfl (qg (K38 u9) rfl rfl (qg (.val none (.ptr [.int .i64 u9.2])) rfl rfl (qg (AI u9.2) rfl rfl ?_)))))))
  refine qg (AI (w64 (2 * u9.2))) rfl rfl (qg (AB (decide (w64 (2 * u9.2) ≤ u9.1))) rfl rfl (qr (AB (decide (w64 (2 * u9.2) ≤ u9.1))) (qr (AB (decide (w64 (2 * u9.2) ≤ u9.1))) ?_)))
  refine p5 49 hF rfl (fun hF => ?_) (fun hF => ?_)
  ·
   refine qn3 (qu rfl (qu rfl (qu rfl (qu rfl (qu rfl (qu rfl (qu rfl (qu rfl (qu rfl (qu rfl (qn rfl (qt (d9 ?_)))))))))))))
   exact B5 rfl (ws 2881 2945 (qb (d9 (j8 (g7 (f7 (f7 (g7 (f7 (eQ hF))))))))))
  refine qg (AI x3) rfl rfl (qg (AB (decide ((0 : Int) < x3))) rfl rfl (qg (AB (decide ((0 : Int) < x3))) rfl rfl ?_))
  refine p5 52 hF rfl (fun hF => ?_) (fun hF => ?_)
  ·
   refine qg (K37 v0) rfl rfl (qg (K37 v0) rfl rfl (qg (K39 v0) rfl rfl (qg (K3b v0) rfl rfl (qg (AI x3) rfl rfl (qg (AI (w64 (x3 - 1))) rfl rfl (bk hF fun u11 e11 hF => qg (.val none (.ptr [.int .i64 u11.1, .int .i64 u11.2])) rfl (j4 rfl rfl e11 rfl) (qg (K38 u9) rfl rfl (bk hF fun u12 e12 hF => qG (AI u12) [] (a7e e12) c4O (qg (AB (decide ((0 : Int) ≤ u12))) rfl rfl (qg (AB (decide ((0 : Int) ≤ u12))) rfl rfl (qr (AB (decide ((0 : Int) ≤ u12))) (d9 ?_))))))))))))
   refine cF hF (fun hF => ws 2881 2945 (qb (d9 (j8 (g7 (f7 (f7 (g7 (f7 (eQ hF)))))))))) fun hF => ?_
   refine g9 (p6 (f5 (y4 2881 3073 rfl rfl (qr (AI x3) (qr (AI (w64 (x3 + 1))) (qr (AI (w64 (x3 + 1))) (d9 (f5 ?_))))))))
   refine ar (l' := [(K3a v0), (3, AI (w64 (x3 + 1)))]) (L := []) [0, 3] [] 1 ⟨_, by rfl, hF⟩
  refine qn8 (qn2 (qg (AB false) rfl rfl (qb (d9 (H2 rfl (g9 (p6 (f5 (y4 2881 3073 rfl rfl ?_)))))))))
  refine qr (AI x3) (qr (AI (w64 (x3 + 1))) (qr (AI (w64 (x3 + 1))) (d9 (f5 ?_))))
  refine ar (l' := [(K3a v0), (3, AI (w64 (x3 + 1)))]) (L := []) [0, 3] [] 1 ⟨_, by rfl, hF⟩
 refine z8 (j5 (j5 (s9 (f5 (ws 449 1665 (qr (K37 v0) (qr (K37 v0) (qr (K39 v0) (qr (K3b v0) (bk hF fun u13 e13 hF => ?_))))))))))
 refine qp (.val none (.ptr [.int .i64 u13.1, .int .i64 u13.2])) (j4 rfl rfl e13 rfl) (qr (.val none (.ptr [.int .i64 u13.1, .int .i64 u13.2])) (qr (AI u13.1) (qr (AB (decide (u13.1 = (1 : Int)))) (qr (AB (decide (u13.1 = (1 : Int)))) (p5 73 hF rfl (fun hF => qg (K37 v0) rfl rfl (qg (K37 v0) rfl rfl (qg (K39 v0) rfl rfl (qg (K3b v0) rfl rfl (bk hF fun u14 e14 hF => qg (.val none (.ptr [.int .i64 u14.1, .int .i64 u14.2])) rfl (j4 rfl rfl e14 rfl) (qg (.val none (.ptr [.int .i64 u14.2])) rfl rfl (qg (AI u14.2) rfl rfl (qg (AB (decide (u14.2 = (1 : Int)))) rfl rfl (qr (AB (decide (u14.2 = (1 : Int)))) (qr (AB (decide (u14.2 = (1 : Int)))) (rR hF))))))))))) fun hF => ?_)))))
 exact qn8 (qb (qb (rR hF)))

def c9m : MC := (sr [pT 2 (.mv cf)] (.seq (sr [pT 3 (.mv (ci 0))] (.block 0 (.loop (.seq (sr [mvt 4 3, mvt 5 0, zT 6 5, bT 7 .lss t4 t6] (cx t7 0)) (.seq (.block 1 (sr [mvt 10 0, mvt 11 3, iT 12 10 11 1, lT 13 12, dT 14 102 [t13], pT 15 (.not t14)] (.cond t15 (sr [pT 2 (.mv cf)] .ret) .skip))) (.reg [mvt 8 3, bT 9 .add t8 (ci 1), mvt 3 9])))))) (sr [mvt 16 0, zT 17 16, bT 18 .leq t17 (ci 64), mvt 2 18] .ret)))
theorem c4s : IsF Tryz.prog 146 c9m [(.tmp 2)] := ⟨by kernel_rfl, by kernel_rfl⟩

def H7 (v0 : List Int) (k0 : Int → Option (Bool)) : Int → Option (Bool)
 | x1 => (bif (decide (x1 < (v0.length : Int))) then ((ix v0 x1).bind fun u0 => ((U2 u0).bind fun u1 => (bif (!u1) then some false
 else k0 (w64 (x1 + 1)))))
 else some (decide ((v0.length : Int) ≤ (64 : Int))))
def V9 (v0 : List Int) : Option (Bool) :=
 loop (H7 v0) 0
@[simp] abbrev K3c (v0 : List Int) : V := .sl 1 (v0.map vI)
@[simp] def a6F (r : Bool) : RV := .one (.one (.val (.bool r)))
theorem a6Z {v0 : List Int} {r : Bool} (hF : V9 v0 = some r) : Con Tryz.prog 146 [.sl 1 (v0.map vI)] (a6F r) := by
 unfold V9 at hF
 refine p7 c4s.1 fun N => ?_
 refine ws 0 64 (qb (d9 (i8 (ws 64 128 (qr (AI 0) (d9 (j7 ?_)))))))
 refine wr (l' := [(0, .val none (K3c v0)), (3, AI 0)]) (L := []) [0, 3] [] 1 ?_
 refine y5 (H7 v0) (fun s : Int => mkS [(0, .val none (K3c v0)), (3, AI s)] (fo []) 1) hF ?_
 rintro k0 x1 hF
 rw [H7] at hF
 try dsimp only
 refine i8 (ws 1 257 (qr (AI x1) (qr (.val none (K3c v0)) (qp (AI (v0.length : Int)) (j0 rfl) (qr (AB (decide (x1 < (v0.length : Int)))) (d9 ?_))))))
 refine cF hF (fun hF => ?_) fun hF => ?_
 ·
  refine g9 (f5 (i8 (j7 (ws 257 641 (qr (.val none (K3c v0)) (qr (AI x1) (bk hF fun u0 e0 hF => qp (.val none (.ptr [.int .i64 u0])) (j4 rfl rfl e0 rfl) (qr (AI u0) (bk hF fun u1 e1 hF => qC (AB u1) [] (a3X e1) c1Z (qr (AB (!u1)) (d9 ?_)))))))))))
  refine cF hF (fun hF => ws 641 705 (qb (d9 (j8 (g7 (f7 (f7 (g7 (f7 (eQ hF)))))))))) fun hF => ?_
  refine g9 (p6 (f5 (y4 641 833 rfl rfl (qr (AI x1) (qr (AI (w64 (x1 + 1))) (qr (AI (w64 (x1 + 1))) (d9 (f5 ?_))))))))
  refine ar (l' := [(0, .val none (K3c v0)), (3, AI (w64 (x1 + 1)))]) (L := []) [0, 3] [] 1 ⟨_, by rfl, hF⟩
 exact z8 (j5 (j5 (s9 (f5 (ws 257 513 (qr (.val none (K3c v0)) (qp (AI (v0.length : Int)) (j0 rfl) (qr (AB (decide ((v0.length : Int) ≤ (64 : Int)))) (qr (AB (decide ((v0.length : Int) ≤ (64 : Int)))) (rR hF))))))))))

def d0g : MC := (sr [pT 2 (.mv cf)] (sr [mvt 3 0, dT 4 146 [t3], mvt 5 4, nT 6 5 t0, kT 7 5 (.len t6), kT 8 5 (.bin .geq t7 (ci 2)), pT 9 (.pick t5 t8 cf), mvt 10 9, nT 11 10 t0, kT 12 10 (.len t11), kT 13 10 (.bin .leq t12 (ci 8)), pT 14 (.pick t10 t13 cf), mvt 2 14] .ret))
theorem c4x : IsF Tryz.prog 106 d0g [(.tmp 2)] := ⟨by kernel_rfl, by kernel_rfl⟩

def Y1 (v0 : List Int) : Option (Bool) :=
 ((V9 v0).bind fun u0 => (bif u0 then (bif (decide ((2 : Int) ≤ (v0.length : Int))) then some (decide ((v0.length : Int) ≤ (8 : Int)))
 else some false)
 else some false))
@[simp] def a7U (r : Bool) : RV := .one (.one (.val (.bool r)))
theorem a7w {v0 : List Int} {r : Bool} (hF : Y1 v0 = some r) : Con Tryz.prog 106 [.sl 1 (v0.map vI)] (a7U r) := by
 unfold Y1 at hF
 refine p7 c4x.1 fun N => ?_
 refine ws 0 64 (qb (d9 (ws 64 896 (qr (AL 1 (v0.map vI)) (bk hF fun u0 e0 hF => qC (AB u0) [] (a6Z e0) c4s (qr (AB u0) ?_))))))
 refine p5 5 hF rfl (fun hF => ?_) (fun hF => ?_)
 ·
  refine qg (AL 1 (v0.map vI)) rfl rfl (qg (AI (v0.length : Int)) rfl (j0 rfl) (qg (AB (decide ((2 : Int) ≤ (v0.length : Int)))) rfl rfl (qr (AB (decide ((2 : Int) ≤ (v0.length : Int)))) (qr (AB (decide ((2 : Int) ≤ (v0.length : Int)))) (p5 10 hF rfl (fun hF => qg (AL 1 (v0.map vI)) rfl rfl (qg (AI (v0.length : Int)) rfl (j0 rfl) (qg (AB (decide ((v0.length : Int) ≤ (8 : Int)))) rfl rfl (qr (AB (decide ((v0.length : Int) ≤ (8 : Int)))) (qr (AB (decide ((v0.length : Int) ≤ (8 : Int)))) (rR hF)))))) fun hF => ?_)))))
  exact qn3 (qb (qb (rR hF)))
 exact qn3 (qb (qb (qn3 (qb (qb (rR hF))))))

end Go.Ab
