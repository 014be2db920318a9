/- Walks (printed by auto.py, a program of this session's own). -/
import Derived.Test.YtcklbccpfpnmbaaGreatDoorS0
import Derived.Test.YtcklbccpfpnmbaaGreatDoorProg
import Derived.KernelRfl
import Derived.Test.YtcklbccpfpnmbaaGreatDoorSQ
set_option linter.unusedVariables false
set_option linter.unusedSimpArgs false
set_option maxRecDepth 8000
set_option maxHeartbeats 8000000
noncomputable section
namespace Go.Ab
open Go.RowKit Go.Proofs

abbrev A8 := (List UInt8) × (List Int) × (List Int) × Int × Int × (List (List Int))
@[simp] def b3m (p : A8) : V := .agg [.str p.1, .sl 1 (p.2.1.map vI), .sl 1 (p.2.2.1.map vI), .int .i64 p.2.2.2.1, .int .i64 p.2.2.2.2.1, .sl 1 (p.2.2.2.2.2.map (eL 1 vI))]
abbrev j6 := Int × Int
@[simp] def j3 (p : j6) : V := .agg [.int .i64 p.1, .int .i64 p.2]
abbrev z7 := (List UInt8) × (List j6)
@[simp] def a6v (p : z7) : V := .agg [.str p.1, .sl 2 (p.2.map j3)]
abbrev m9 := (List UInt8) × Int × Int
@[simp] def p3 (p : m9) : V := .agg [.str p.1, .int .i64 p.2.1, .int .i64 p.2.2]
abbrev y6 := (List UInt8) × Int × Int × Int × Int × Int
@[simp] def A1 (p : y6) : V := .agg [.str p.1, .int .i64 p.2.1, .int .i64 p.2.2.1, .int .i64 p.2.2.2.1, .int .i64 p.2.2.2.2.1, .int .i64 p.2.2.2.2.2]
abbrev n9 := Int × (List UInt8) × (List UInt8) × Int × Int
@[simp] def p8 (p : n9) : V := .agg [.int .i64 p.1, .str p.2.1, .str p.2.2.1, .int .i64 p.2.2.2.1, .int .i64 p.2.2.2.2]
abbrev p4 := (List UInt8) × Int × (List (List UInt8))
@[simp] def p9 (p : p4) : V := .agg [.str p.1, .int .i64 p.2.1, .sl 1 (p.2.2.map V.str)]
abbrev y8 := (List UInt8) × (List Int) × (List Int) × Int × Int × (List (List Int)) × (List j6) × (List UInt8) × (List j6) × (List (List Int)) × (List m9) × (List j6) × (List y6) × (List n9) × (List p4)
@[simp] def a9S (p : y8) : V := .agg [.str p.1, .sl 1 (p.2.1.map vI), .sl 1 (p.2.2.1.map vI), .int .i64 p.2.2.2.1, .int .i64 p.2.2.2.2.1, .sl 1 (p.2.2.2.2.2.1.map (eL 1 vI)), .sl 2 (p.2.2.2.2.2.2.1.map j3), .str p.2.2.2.2.2.2.2.1, .sl 2 (p.2.2.2.2.2.2.2.2.1.map j3), .sl 1 (p.2.2.2.2.2.2.2.2.2.1.map (eL 1 vI)), .sl 3 (p.2.2.2.2.2.2.2.2.2.2.1.map p3), .sl 2 (p.2.2.2.2.2.2.2.2.2.2.2.1.map j3), .sl 6 (p.2.2.2.2.2.2.2.2.2.2.2.2.1.map A1), .sl 5 (p.2.2.2.2.2.2.2.2.2.2.2.2.2.1.map p8), .sl 3 (p.2.2.2.2.2.2.2.2.2.2.2.2.2.2.map p9)]
@[simp] def eS8 (p : (List UInt8) × Int) : V := .agg [.str p.1, .int .i64 p.2]
def c54 : MC := (sr [pT 4 (.mv (ci 0))] (sr [mvt 5 1, mvt 6 0, zT 7 6, bT 8 .sub t5 t7, mvt 1 8] (.seq (sr [mvt 9 1, bT 10 .lss t9 (ci 0)] (.cond t10 (sr [pT 4 (.mv (ci (-1)))] .ret) .skip)) (sr [mvt 11 1, mvt 4 11] .ret))))
theorem c3D : IsF Tryz.prog 54 c54 [(.tmp 4)] := ⟨by kernel_rfl, by kernel_rfl⟩

def O6 (v0 : List Int) (v1 : Int) : Option (Int) :=
 (bif (decide (w64 (v1 - (v0.length : Int)) < (0 : Int))) then some (-1)
 else some (w64 (v1 - (v0.length : Int))))
@[simp] def a8D (r : Int) : RV := .one (.one (.val (.int .i64 r)))
theorem a2e {v0 : List Int} {v1 : Int} {r : Int} (hF : O6 v0 v1 = some r) : Con Tryz.prog 54 [.sl 1 (v0.map vI), .int .i64 v1] (a8D r) := by
 unfold O6 at hF
 refine p7 c3D.1 fun N => ?_
 refine ws 0 64 (qr (AI 0) (d9 (ws 64 384 (qr (AI v1) (qr (AL 1 (v0.map vI)) (qp (AI (v0.length : Int)) (j0 rfl) (qr (AI (w64 (v1 - (v0.length : Int)))) (qr (AI (w64 (v1 - (v0.length : Int)))) (d9 (i8 (ws 384 512 ?_)))))))))))
 refine qr (AI (w64 (v1 - (v0.length : Int)))) (qr (AB (decide (w64 (v1 - (v0.length : Int)) < (0 : Int)))) (d9 (cF hF (fun hF => ws 512 576 (qr (AI (-1)) (d9 (j8 (f7 (eQ hF)))))) fun hF => ?_)))
 exact g9 (f5 (ws 512 640 (qr (AI (w64 (v1 - (v0.length : Int)))) (qr (AI (w64 (v1 - (v0.length : Int)))) (rR hF)))))

def c16 : MC := (sr [pT 4 (.mv (ci 0))] (sr [mvt 6 1, mvt 7 0, zT 8 7, bT 9 .sub t6 t8, mvt 1 9] (.seq (sr [mvt 10 1, bT 11 .lss t10 (ci 0)] (.cond t11 (sr [pT 4 (.mv (ci (-1)))] .ret) .skip)) (.seq (sr [pT 5 (.mv (ci 0))] (.block 0 (.loop (.seq (sr [mvt 12 5, mvt 13 0, zT 14 13, bT 15 .lss t12 t14] (cx t15 0)) (.seq (.block 1 (sr [mvt 18 0, mvt 19 5, iT 20 18 19 1, lT 21 20, mvt 22 1, dT 23 54 [t21, t22], mvt 1 23] (sr [mvt 24 1, bT 25 .lss t24 (ci 0)] (.cond t25 (sr [pT 4 (.mv (ci (-1)))] .ret) .skip)))) (.reg [mvt 16 5, bT 17 .add t16 (ci 1), mvt 5 17])))))) (sr [mvt 26 1, mvt 4 26] .ret)))))
theorem c5W : IsF Tryz.prog 16 c16 [(.tmp 4)] := ⟨by kernel_rfl, by kernel_rfl⟩

def Q2 (v0 : List (List Int)) (k0 : Int × Int → Option (Int)) : Int × Int → Option (Int)
 | (x2, x3) => (bif (decide (x3 < (v0.length : Int))) then ((ix v0 x3).bind fun u0 => ((O6 u0 x2).bind fun u1 => (bif (decide (u1 < (0 : Int))) then some (-1)
 else k0 (u1, w64 (x3 + 1)))))
 else some x2)
def R5 (v0 : List (List Int)) (v1 : Int) : Option (Int) :=
 (bif (decide (w64 (v1 - (v0.length : Int)) < (0 : Int))) then some (-1)
 else loop (Q2 v0) (w64 (v1 - (v0.length : Int)), 0))
@[simp] abbrev K1 (v0 : List (List Int)) : V := .sl 1 (v0.map (eL 1 vI))
@[simp] def a7R (r : Int) : RV := .one (.one (.val (.int .i64 r)))
theorem a3G {v0 : List (List Int)} {v1 : Int} {r : Int} (hF : R5 v0 v1 = some r) : Con Tryz.prog 16 [.sl 1 (v0.map (eL 1 vI)), .int .i64 v1] (a7R r) := by
 unfold R5 at hF
 refine p7 c5W.1 fun N => ?_
 refine ws 0 64 (qr (AI 0) (d9 (ws 64 384 (qr (AI v1) (qr (.val none (K1 v0)) (qp (AI (v0.length : Int)) (j0 rfl) (qr (AI (w64 (v1 - (v0.length : Int)))) (qr (AI (w64 (v1 - (v0.length : Int)))) (d9 (i8 (ws 384 512 ?_)))))))))))
 refine qr (AI (w64 (v1 - (v0.length : Int)))) (qr (AB (decide (w64 (v1 - (v0.length : Int)) < (0 : Int)))) (d9 (cF hF (fun hF => ws 512 576 (qr (AI (-1)) (d9 (j8 (f7 (eQ hF)))))) fun hF => ?_)))
 refine g9 (f5 (i8 (ws 512 576 (qr (AI 0) (d9 (j7 ?_))))))
 refine wr (l' := [(0, .val none (K1 v0)), (1, AI (w64 (v1 - (v0.length : Int)))), (5, AI 0)]) (L := []) [0, 1, 5] [] 1 ?_
 refine y5 (Q2 v0) (fun s : Int × Int => mkS [(0, .val none (K1 v0)), (1, AI s.1), (5, AI s.2)] (fo []) 1) hF ?_
 rintro k0 ⟨x2, x3⟩ hF
 rw [Q2] at hF
 try dsimp only
 refine i8 (ws 1 257 (qr (AI x3) (qr (.val none (K1 v0)) (qp (AI (v0.length : Int)) (j0 rfl) (qr (AB (decide (x3 < (v0.length : Int)))) (d9 ?_))))))
 refine cF hF (fun hF => ?_) fun hF => ?_
 ·
  refine g9 (f5 (i8 (j7 (ws 257 705 (qr (.val none (K1 v0)) (qr (AI x3) (bk hF fun u0 e0 hF => qp (.val none (.ptr [.sl 1 (u0.map vI)])) (j4 rfl rfl e0 rfl) (qr (AL 1 (u0.map vI)) (qr (AI x2) (bk hF fun u1 e1 hF => qC (AI u1) [] (a2e e1) c3D (qr (AI u1) (d9 (ws 705 833 (qr (AI u1) (qr (AB (decide (u1 < (0 : Int)))) ?_)))))))))))))))
  refine d9 (cF hF (fun hF => ws 833 897 (qr (AI (-1)) (d9 (j8 (g7 (f7 (f7 (g7 (f7 (eQ hF)))))))))) fun hF => ?_)
  refine g9 (p6 (f5 (y4 833 1025 rfl rfl (qr (AI x3) (qr (AI (w64 (x3 + 1))) (qr (AI (w64 (x3 + 1))) (d9 (f5 ?_))))))))
  refine ar (l' := [(0, .val none (K1 v0)), (1, AI u1), (5, AI (w64 (x3 + 1)))]) (L := []) [0, 1, 5] [] 1 ⟨_, by rfl, hF⟩
 exact z8 (j5 (j5 (s9 (f5 (ws 257 385 (qr (AI x2) (qr (AI x2) (rR hF))))))))

def c13 : MC := (sr [rg 2 (.f (.box t0)), pT 4 (.mv (ci 0))] (sr [mvt 5 1, pT 6 (.fad t2 0), lT 7 6, pT 8 (.lens t7), bT 9 .sub t5 t8, mvt 1 9] (.seq (sr [mvt 10 1, bT 11 .lss t10 (ci 0)] (.cond t11 (sr [pT 4 (.mv (ci (-1)))] .ret) .skip)) (sr [pT 12 (.fad t2 1), lT 13 12, mvt 14 1, dT 15 54 [t13, t14], mvt 1 15] (.seq (sr [mvt 16 1, bT 17 .lss t16 (ci 0)] (.cond t17 (sr [pT 4 (.mv (ci (-1)))] .ret) .skip)) (sr [pT 18 (.fad t2 2), lT 19 18, mvt 20 1, dT 21 54 [t19, t20], mvt 1 21] (.seq (sr [mvt 22 1, bT 23 .lss t22 (ci 0)] (.cond t23 (sr [pT 4 (.mv (ci (-1)))] .ret) .skip)) (sr [pT 24 (.fad t2 5), lT 25 24, mvt 26 1, dT 27 16 [t25, t26], mvt 1 27] (.seq (sr [mvt 28 1, bT 29 .lss t28 (ci 0)] (.cond t29 (sr [pT 4 (.mv (ci (-1)))] .ret) .skip)) (sr [mvt 30 1, mvt 4 30] .ret))))))))))
theorem c7d : IsF Tryz.prog 13 c13 [(.tmp 4)] := ⟨by kernel_rfl, by kernel_rfl⟩

def a1Q (v0 : A8) (v1 : Int) : Option (Int) :=
 (bif (decide (w64 (v1 - (v0.1.length : Int)) < (0 : Int))) then some (-1)
 else ((O6 v0.2.1 (w64 (v1 - (v0.1.length : Int)))).bind fun u0 => (bif (decide (u0 < (0 : Int))) then some (-1)
 else ((O6 v0.2.2.1 u0).bind fun u1 => (bif (decide (u1 < (0 : Int))) then some (-1)
 else ((R5 v0.2.2.2.2.2 u1).bind fun u2 => (bif (decide (u2 < (0 : Int))) then some (-1)
 else some u2)))))))
@[simp] abbrev K2 (v0 : A8) : List (Nat × Root) := [(0, .box [AS v0.1, AL 1 (v0.2.1.map vI), AL 1 (v0.2.2.1.map vI), AI v0.2.2.2.1, AI v0.2.2.2.2.1, AL 1 (v0.2.2.2.2.2.map (eL 1 vI))])]
@[simp] def b1Z (r : Int) : RV := .one (.one (.val (.int .i64 r)))
theorem b1L {v0 : A8} {v1 : Int} {r : Int} (hF : a1Q v0 v1 = some r) : Con Tryz.prog 13 [b3m v0, .int .i64 v1] (b1Z r) := by
 unfold a1Q at hF
 refine p7 c7d.1 fun N => ?_
 refine ws 0 128 (qf (.ptr 0 0 0) (K2 v0) (by simp) (qr (AI 0) (d9 (ws 128 512 (qr (AI v1) (qr (.ptr 0 0 0) (qr (AS v0.1) (qr (AI (v0.1.length : Int)) (qr (AI (w64 (v1 - (v0.1.length : Int)))) (qr (AI (w64 (v1 - (v0.1.length : Int)))) (d9 ?_)))))))))))
 refine i8 (ws 512 640 (qr (AI (w64 (v1 - (v0.1.length : Int)))) (qr (AB (decide (w64 (v1 - (v0.1.length : Int)) < (0 : Int)))) (d9 (cF hF (fun hF => ws 640 704 (qr (AI (-1)) (d9 (j8 (f7 (eQ hF)))))) fun hF => ?_)))))
 refine g9 (f5 (ws 640 960 (qr (.ptr 0 0 1) (qr (AL 1 (v0.2.1.map vI)) (qr (AI (w64 (v1 - (v0.1.length : Int)))) (bk hF fun u0 e0 hF => qC (AI u0) (K2 v0) (a2e e0) c3D (qr (AI u0) (d9 (i8 (ws 960 1088 (qr (AI u0) (qr (AB (decide (u0 < (0 : Int)))) (d9 ?_)))))))))))))
 refine cF hF (fun hF => ws 1088 1152 (qr (AI (-1)) (d9 (j8 (f7 (eQ hF)))))) fun hF => ?_
 refine g9 (f5 (ws 1088 1408 (qr (.ptr 0 0 2) (qr (AL 1 (v0.2.2.1.map vI)) (qr (AI u0) (bk hF fun u1 e1 hF => qC (AI u1) (K2 v0) (a2e e1) c3D (qr (AI u1) (d9 (i8 (ws 1408 1536 (qr (AI u1) (qr (AB (decide (u1 < (0 : Int)))) (d9 ?_)))))))))))))
 refine cF hF (fun hF => ws 1536 1600 (qr (AI (-1)) (d9 (j8 (f7 (eQ hF)))))) fun hF => ?_
 refine g9 (f5 (ws 1536 1856 (qr (.ptr 0 0 5) (qr (AL 1 (v0.2.2.2.2.2.map (eL 1 vI))) (qr (AI u1) (bk hF fun u2 e2 hF => qC (AI u2) (K2 v0) (a3G e2) c5W (qr (AI u2) (d9 (i8 (ws 1856 1984 (qr (AI u2) (qr (AB (decide (u2 < (0 : Int)))) (d9 ?_)))))))))))))
 refine cF hF (fun hF => ws 1984 2048 (qr (AI (-1)) (d9 (j8 (f7 (eQ hF)))))) fun hF => ?_
 exact g9 (f5 (ws 1984 2112 (qr (AI u2) (qr (AI u2) (rR hF)))))

def c14 : MC := (sr [pT 4 (.mv (ci 0))] (sr [mvt 5 1, mvt 6 0, zT 7 6, bT 8 .sub t5 t7, mvt 1 8] (.seq (sr [mvt 9 1, bT 10 .lss t9 (ci 0)] (.cond t10 (sr [pT 4 (.mv (ci (-1)))] .ret) .skip)) (sr [mvt 11 1, mvt 4 11] .ret))))
theorem c7m : IsF Tryz.prog 14 c14 [(.tmp 4)] := ⟨by kernel_rfl, by kernel_rfl⟩

def a1f (v0 : List j6) (v1 : Int) : Option (Int) :=
 (bif (decide (w64 (v1 - (v0.length : Int)) < (0 : Int))) then some (-1)
 else some (w64 (v1 - (v0.length : Int))))
@[simp] def b1b (r : Int) : RV := .one (.one (.val (.int .i64 r)))
theorem a9Z {v0 : List j6} {v1 : Int} {r : Int} (hF : a1f v0 v1 = some r) : Con Tryz.prog 14 [.sl 2 (v0.map j3), .int .i64 v1] (b1b r) := by
 unfold a1f at hF
 refine p7 c7m.1 fun N => ?_
 refine ws 0 64 (qr (AI 0) (d9 (ws 64 384 (qr (AI v1) (qr (AL 2 (v0.map j3)) (qp (AI (v0.length : Int)) (j0 rfl) (qr (AI (w64 (v1 - (v0.length : Int)))) (qr (AI (w64 (v1 - (v0.length : Int)))) (d9 (i8 (ws 384 512 ?_)))))))))))
 refine qr (AI (w64 (v1 - (v0.length : Int)))) (qr (AB (decide (w64 (v1 - (v0.length : Int)) < (0 : Int)))) (d9 (cF hF (fun hF => ws 512 576 (qr (AI (-1)) (d9 (j8 (f7 (eQ hF)))))) fun hF => ?_)))
 exact g9 (f5 (ws 512 640 (qr (AI (w64 (v1 - (v0.length : Int)))) (qr (AI (w64 (v1 - (v0.length : Int)))) (rR hF)))))

def c55 : MC := (sr [pT 4 (.mv (ci 0))] (sr [mvt 5 1, mvt 6 0, zT 7 6, bT 8 .sub t5 t7, mvt 1 8] (.seq (sr [mvt 9 1, bT 10 .lss t9 (ci 0)] (.cond t10 (sr [pT 4 (.mv (ci (-1)))] .ret) .skip)) (sr [mvt 11 1, mvt 4 11] .ret))))
theorem c8G : IsF Tryz.prog 55 c55 [(.tmp 4)] := ⟨by kernel_rfl, by kernel_rfl⟩

def a0t (v0 : List j6) (v1 : Int) : Option (Int) :=
 (bif (decide (w64 (v1 - (v0.length : Int)) < (0 : Int))) then some (-1)
 else some (w64 (v1 - (v0.length : Int))))
@[simp] def a9G (r : Int) : RV := .one (.one (.val (.int .i64 r)))
theorem a9k {v0 : List j6} {v1 : Int} {r : Int} (hF : a0t v0 v1 = some r) : Con Tryz.prog 55 [.sl 2 (v0.map j3), .int .i64 v1] (a9G r) := by
 unfold a0t at hF
 refine p7 c8G.1 fun N => ?_
 refine ws 0 64 (qr (AI 0) (d9 (ws 64 384 (qr (AI v1) (qr (AL 2 (v0.map j3)) (qp (AI (v0.length : Int)) (j0 rfl) (qr (AI (w64 (v1 - (v0.length : Int)))) (qr (AI (w64 (v1 - (v0.length : Int)))) (d9 (i8 (ws 384 512 ?_)))))))))))
 refine qr (AI (w64 (v1 - (v0.length : Int)))) (qr (AB (decide (w64 (v1 - (v0.length : Int)) < (0 : Int)))) (d9 (cF hF (fun hF => ws 512 576 (qr (AI (-1)) (d9 (j8 (f7 (eQ hF)))))) fun hF => ?_)))
 exact g9 (f5 (ws 512 640 (qr (AI (w64 (v1 - (v0.length : Int)))) (qr (AI (w64 (v1 - (v0.length : Int)))) (rR hF)))))

def c15 : MC := (sr [rg 2 (.f (.box t0)), pT 4 (.mv (ci 0))] (sr [mvt 5 1, pT 6 (.fad t2 0), lT 7 6, pT 8 (.lens t7), bT 9 .sub t5 t8, mvt 1 9] (.seq (sr [mvt 10 1, bT 11 .lss t10 (ci 0)] (.cond t11 (sr [pT 4 (.mv (ci (-1)))] .ret) .skip)) (sr [pT 12 (.fad t2 1), lT 13 12, mvt 14 1, dT 15 55 [t13, t14], mvt 1 15] (.seq (sr [mvt 16 1, bT 17 .lss t16 (ci 0)] (.cond t17 (sr [pT 4 (.mv (ci (-1)))] .ret) .skip)) (sr [mvt 18 1, mvt 4 18] .ret))))))
theorem c7q : IsF Tryz.prog 15 c15 [(.tmp 4)] := ⟨by kernel_rfl, by kernel_rfl⟩

def a0y (v0 : z7) (v1 : Int) : Option (Int) :=
 (bif (decide (w64 (v1 - (v0.1.length : Int)) < (0 : Int))) then some (-1)
 else ((a0t v0.2 (w64 (v1 - (v0.1.length : Int)))).bind fun u0 => (bif (decide (u0 < (0 : Int))) then some (-1)
 else some u0)))
@[simp] abbrev K3 (v0 : z7) : List (Nat × Root) := [(0, .box [AS v0.1, AL 2 (v0.2.map j3)])]
@[simp] def a8L (r : Int) : RV := .one (.one (.val (.int .i64 r)))
theorem a8u {v0 : z7} {v1 : Int} {r : Int} (hF : a0y v0 v1 = some r) : Con Tryz.prog 15 [a6v v0, .int .i64 v1] (a8L r) := by
 unfold a0y at hF
 refine p7 c7q.1 fun N => ?_
 refine ws 0 128 (qf (.ptr 0 0 0) (K3 v0) (by simp) (qr (AI 0) (d9 (ws 128 512 (qr (AI v1) (qr (.ptr 0 0 0) (qr (AS v0.1) (qr (AI (v0.1.length : Int)) (qr (AI (w64 (v1 - (v0.1.length : Int)))) (qr (AI (w64 (v1 - (v0.1.length : Int)))) (d9 ?_)))))))))))
 refine i8 (ws 512 640 (qr (AI (w64 (v1 - (v0.1.length : Int)))) (qr (AB (decide (w64 (v1 - (v0.1.length : Int)) < (0 : Int)))) (d9 (cF hF (fun hF => ws 640 704 (qr (AI (-1)) (d9 (j8 (f7 (eQ hF)))))) fun hF => ?_)))))
 refine g9 (f5 (ws 640 960 (qr (.ptr 0 0 1) (qr (AL 2 (v0.2.map j3)) (qr (AI (w64 (v1 - (v0.1.length : Int)))) (bk hF fun u0 e0 hF => qC (AI u0) (K3 v0) (a9k e0) c8G (qr (AI u0) (d9 (i8 (ws 960 1088 (qr (AI u0) (qr (AB (decide (u0 < (0 : Int)))) (d9 ?_)))))))))))))
 refine cF hF (fun hF => ws 1088 1152 (qr (AI (-1)) (d9 (j8 (f7 (eQ hF)))))) fun hF => ?_
 exact g9 (f5 (ws 1088 1216 (qr (AI u0) (qr (AI u0) (rR hF)))))

def c56 : MC := (sr [rg 2 (.f (.box t0)), pT 4 (.mv (ci 0))] (sr [mvt 5 1, pT 6 (.fad t2 0), lT 7 6, pT 8 (.lens t7), bT 9 .sub t5 t8, mvt 1 9] (.seq (sr [mvt 10 1, bT 11 .lss t10 (ci 0)] (.cond t11 (sr [pT 4 (.mv (ci (-1)))] .ret) .skip)) (sr [mvt 12 1, mvt 4 12] .ret))))
theorem c7M : IsF Tryz.prog 56 c56 [(.tmp 4)] := ⟨by kernel_rfl, by kernel_rfl⟩

def W4 (v0 : m9) (v1 : Int) : Option (Int) :=
 (bif (decide (w64 (v1 - (v0.1.length : Int)) < (0 : Int))) then some (-1)
 else some (w64 (v1 - (v0.1.length : Int))))
@[simp] def a6J (r : Int) : RV := .one (.one (.val (.int .i64 r)))
theorem a6M {v0 : m9} {v1 : Int} {r : Int} (hF : W4 v0 v1 = some r) : Con Tryz.prog 56 [p3 v0, .int .i64 v1] (a6J r) := by
 unfold W4 at hF
 refine p7 c7M.1 fun N => ?_
 refine ws 0 128 (qf (.ptr 0 0 0) [(0, .box [AS v0.1, AI v0.2.1, AI v0.2.2])] (by simp) (qr (AI 0) (d9 (ws 128 512 (qr (AI v1) (qr (.ptr 0 0 0) (qr (AS v0.1) (qr (AI (v0.1.length : Int)) (qr (AI (w64 (v1 - (v0.1.length : Int)))) (qr (AI (w64 (v1 - (v0.1.length : Int)))) (d9 ?_)))))))))))
 refine i8 (ws 512 640 (qr (AI (w64 (v1 - (v0.1.length : Int)))) (qr (AB (decide (w64 (v1 - (v0.1.length : Int)) < (0 : Int)))) (d9 (cF hF (fun hF => ws 640 704 (qr (AI (-1)) (d9 (j8 (f7 (eQ hF)))))) fun hF => ?_)))))
 exact g9 (f5 (ws 640 768 (qr (AI (w64 (v1 - (v0.1.length : Int)))) (qr (AI (w64 (v1 - (v0.1.length : Int)))) (rR hF)))))

def c17 : MC := (sr [pT 4 (.mv (ci 0))] (sr [mvt 6 1, mvt 7 0, zT 8 7, bT 9 .sub t6 t8, mvt 1 9] (.seq (sr [mvt 10 1, bT 11 .lss t10 (ci 0)] (.cond t11 (sr [pT 4 (.mv (ci (-1)))] .ret) .skip)) (.seq (sr [pT 5 (.mv (ci 0))] (.block 0 (.loop (.seq (sr [mvt 12 5, mvt 13 0, zT 14 13, bT 15 .lss t12 t14] (cx t15 0)) (.seq (.block 1 (sr [mvt 18 0, mvt 19 5, iT 20 18 19 3, pT 21 (.ld t20 3 true), mvt 22 1, dT 23 56 [t21, t22], mvt 1 23] (sr [mvt 24 1, bT 25 .lss t24 (ci 0)] (.cond t25 (sr [pT 4 (.mv (ci (-1)))] .ret) .skip)))) (.reg [mvt 16 5, bT 17 .add t16 (ci 1), mvt 5 17])))))) (sr [mvt 26 1, mvt 4 26] .ret)))))
theorem c7y : IsF Tryz.prog 17 c17 [(.tmp 4)] := ⟨by kernel_rfl, by kernel_rfl⟩

def M0 (v0 : List m9) (k0 : Int × Int → Option (Int)) : Int × Int → Option (Int)
 | (x2, x3) => (bif (decide (x3 < (v0.length : Int))) then ((ix v0 x3).bind fun u0 => ((W4 u0 x2).bind fun u1 => (bif (decide (u1 < (0 : Int))) then some (-1)
 else k0 (u1, w64 (x3 + 1)))))
 else some x2)
def S8 (v0 : List m9) (v1 : Int) : Option (Int) :=
 (bif (decide (w64 (v1 - (v0.length : Int)) < (0 : Int))) then some (-1)
 else loop (M0 v0) (w64 (v1 - (v0.length : Int)), 0))
@[simp] def a6a (r : Int) : RV := .one (.one (.val (.int .i64 r)))
theorem a6r {v0 : List m9} {v1 : Int} {r : Int} (hF : S8 v0 v1 = some r) : Con Tryz.prog 17 [.sl 3 (v0.map p3), .int .i64 v1] (a6a r) := by
 unfold S8 at hF
 refine p7 c7y.1 fun N => ?_
 refine ws 0 64 (qr (AI 0) (d9 (ws 64 384 (qr (AI v1) (qr (AL 3 (v0.map p3)) (qp (AI (v0.length : Int)) (j0 rfl) (qr (AI (w64 (v1 - (v0.length : Int)))) (qr (AI (w64 (v1 - (v0.length : Int)))) (d9 (i8 (ws 384 512 ?_)))))))))))
 refine qr (AI (w64 (v1 - (v0.length : Int)))) (qr (AB (decide (w64 (v1 - (v0.length : Int)) < (0 : Int)))) (d9 (cF hF (fun hF => ws 512 576 (qr (AI (-1)) (d9 (j8 (f7 (eQ hF)))))) fun hF => ?_)))
 refine g9 (f5 (i8 (ws 512 576 (qr (AI 0) (d9 (j7 ?_))))))
 refine wr (l' := [(0, AL 3 (v0.map p3)), (1, AI (w64 (v1 - (v0.length : Int)))), (5, AI 0)]) (L := []) [0, 1, 5] [] 1 ?_
 refine y5 (M0 v0) (fun s : Int × Int => mkS [(0, AL 3 (v0.map p3)), (1, AI s.1), (5, AI s.2)] (fo []) 1) hF ?_
 rintro k0 ⟨x2, x3⟩ hF
 rw [M0] at hF
 try dsimp only
 refine i8 (ws 1 257 (qr (AI x3) (qr (AL 3 (v0.map p3)) (qp (AI (v0.length : Int)) (j0 rfl) (qr (AB (decide (x3 < (v0.length : Int)))) (d9 ?_))))))
 refine cF hF (fun hF => ?_) fun hF => ?_
 ·
  refine g9 (f5 (i8 (j7 (ws 257 705 (qr (AL 3 (v0.map p3)) (qr (AI x3) (bk hF fun u0 e0 hF => qp (.val none (.ptr [.str u0.1, .int .i64 u0.2.1, .int .i64 u0.2.2])) (j4 rfl rfl e0 rfl) (qr (.val none (p3 u0)) (qr (AI x2) (bk hF fun u1 e1 hF => qC (AI u1) [] (a6M e1) c7M (qr (AI u1) (d9 (ws 705 833 (qr (AI u1) (qr (AB (decide (u1 < (0 : Int)))) ?_)))))))))))))))
  refine d9 (cF hF (fun hF => ws 833 897 (qr (AI (-1)) (d9 (j8 (g7 (f7 (f7 (g7 (f7 (eQ hF)))))))))) fun hF => ?_)
  refine g9 (p6 (f5 (y4 833 1025 rfl rfl (qr (AI x3) (qr (AI (w64 (x3 + 1))) (qr (AI (w64 (x3 + 1))) (d9 (f5 ?_))))))))
  refine ar (l' := [(0, AL 3 (v0.map p3)), (1, AI u1), (5, AI (w64 (x3 + 1)))]) (L := []) [0, 1, 5] [] 1 ⟨_, by rfl, hF⟩
 exact z8 (j5 (j5 (s9 (f5 (ws 257 385 (qr (AI x2) (qr (AI x2) (rR hF))))))))

def c18 : MC := (sr [pT 4 (.mv (ci 0))] (sr [mvt 5 1, mvt 6 0, zT 7 6, bT 8 .sub t5 t7, mvt 1 8] (.seq (sr [mvt 9 1, bT 10 .lss t9 (ci 0)] (.cond t10 (sr [pT 4 (.mv (ci (-1)))] .ret) .skip)) (sr [mvt 11 1, mvt 4 11] .ret))))
theorem c8m : IsF Tryz.prog 18 c18 [(.tmp 4)] := ⟨by kernel_rfl, by kernel_rfl⟩

def P2 (v0 : List j6) (v1 : Int) : Option (Int) :=
 (bif (decide (w64 (v1 - (v0.length : Int)) < (0 : Int))) then some (-1)
 else some (w64 (v1 - (v0.length : Int))))
@[simp] def a5i (r : Int) : RV := .one (.one (.val (.int .i64 r)))
theorem a5g {v0 : List j6} {v1 : Int} {r : Int} (hF : P2 v0 v1 = some r) : Con Tryz.prog 18 [.sl 2 (v0.map j3), .int .i64 v1] (a5i r) := by
 unfold P2 at hF
 refine p7 c8m.1 fun N => ?_
 refine ws 0 64 (qr (AI 0) (d9 (ws 64 384 (qr (AI v1) (qr (AL 2 (v0.map j3)) (qp (AI (v0.length : Int)) (j0 rfl) (qr (AI (w64 (v1 - (v0.length : Int)))) (qr (AI (w64 (v1 - (v0.length : Int)))) (d9 (i8 (ws 384 512 ?_)))))))))))
 refine qr (AI (w64 (v1 - (v0.length : Int)))) (qr (AB (decide (w64 (v1 - (v0.length : Int)) < (0 : Int)))) (d9 (cF hF (fun hF => ws 512 576 (qr (AI (-1)) (d9 (j8 (f7 (eQ hF)))))) fun hF => ?_)))
 exact g9 (f5 (ws 512 640 (qr (AI (w64 (v1 - (v0.length : Int)))) (qr (AI (w64 (v1 - (v0.length : Int)))) (rR hF)))))

def c57 : MC := (sr [rg 2 (.f (.box t0)), pT 4 (.mv (ci 0))] (sr [mvt 5 1, pT 6 (.fad t2 0), lT 7 6, pT 8 (.lens t7), bT 9 .sub t5 t8, mvt 1 9] (.seq (sr [mvt 10 1, bT 11 .lss t10 (ci 0)] (.cond t11 (sr [pT 4 (.mv (ci (-1)))] .ret) .skip)) (sr [mvt 12 1, mvt 4 12] .ret))))
theorem c8J : IsF Tryz.prog 57 c57 [(.tmp 4)] := ⟨by kernel_rfl, by kernel_rfl⟩

def a1G (v0 : y6) (v1 : Int) : Option (Int) :=
 (bif (decide (w64 (v1 - (v0.1.length : Int)) < (0 : Int))) then some (-1)
 else some (w64 (v1 - (v0.1.length : Int))))
@[simp] abbrev K4 (v1 : Int) (v0 : y6) : AV := AI (w64 (v1 - (v0.1.length : Int)))
@[simp] def b1U (r : Int) : RV := .one (.one (.val (.int .i64 r)))
theorem b2f {v0 : y6} {v1 : Int} {r : Int} (hF : a1G v0 v1 = some r) : Con Tryz.prog 57 [A1 v0, .int .i64 v1] (b1U r) := by
 unfold a1G at hF
 refine p7 c8J.1 fun N => ?_
 refine ws 0 128 (qf (.ptr 0 0 0) [(0, .box [AS v0.1, AI v0.2.1, AI v0.2.2.1, AI v0.2.2.2.1, AI v0.2.2.2.2.1, AI v0.2.2.2.2.2])] (by simp) (qr (AI 0) (d9 (ws 128 512 (qr (AI v1) (qr (.ptr 0 0 0) (qr (AS v0.1) (qr (AI (v0.1.length : Int)) (qr (K4 v1 v0) (qr (K4 v1 v0) (d9 (i8 (ws 512 640 ?_)))))))))))))
 refine qr (K4 v1 v0) (qr (AB (decide (w64 (v1 - (v0.1.length : Int)) < (0 : Int)))) (d9 (cF hF (fun hF => ws 640 704 (qr (AI (-1)) (d9 (j8 (f7 (eQ hF)))))) fun hF => ?_)))
 exact g9 (f5 (ws 640 768 (qr (K4 v1 v0) (qr (K4 v1 v0) (rR hF)))))

def c19 : MC := (sr [pT 4 (.mv (ci 0))] (sr [mvt 6 1, mvt 7 0, zT 8 7, bT 9 .sub t6 t8, mvt 1 9] (.seq (sr [mvt 10 1, bT 11 .lss t10 (ci 0)] (.cond t11 (sr [pT 4 (.mv (ci (-1)))] .ret) .skip)) (.seq (sr [pT 5 (.mv (ci 0))] (.block 0 (.loop (.seq (sr [mvt 12 5, mvt 13 0, zT 14 13, bT 15 .lss t12 t14] (cx t15 0)) (.seq (.block 1 (sr [mvt 18 0, mvt 19 5, iT 20 18 19 6, pT 21 (.ld t20 6 true), mvt 22 1, dT 23 57 [t21, t22], mvt 1 23] (sr [mvt 24 1, bT 25 .lss t24 (ci 0)] (.cond t25 (sr [pT 4 (.mv (ci (-1)))] .ret) .skip)))) (.reg [mvt 16 5, bT 17 .add t16 (ci 1), mvt 5 17])))))) (sr [mvt 26 1, mvt 4 26] .ret)))))
theorem c8v : IsF Tryz.prog 19 c19 [(.tmp 4)] := ⟨by kernel_rfl, by kernel_rfl⟩

def V2 (v0 : List y6) (k0 : Int × Int → Option (Int)) : Int × Int → Option (Int)
 | (x2, x3) => (bif (decide (x3 < (v0.length : Int))) then ((ix v0 x3).bind fun u0 => ((a1G u0 x2).bind fun u1 => (bif (decide (u1 < (0 : Int))) then some (-1)
 else k0 (u1, w64 (x3 + 1)))))
 else some x2)
def a1c (v0 : List y6) (v1 : Int) : Option (Int) :=
 (bif (decide (w64 (v1 - (v0.length : Int)) < (0 : Int))) then some (-1)
 else loop (V2 v0) (w64 (v1 - (v0.length : Int)), 0))
@[simp] def a9Y (r : Int) : RV := .one (.one (.val (.int .i64 r)))
theorem b0G {v0 : List y6} {v1 : Int} {r : Int} (hF : a1c v0 v1 = some r) : Con Tryz.prog 19 [.sl 6 (v0.map A1), .int .i64 v1] (a9Y r) := by
 unfold a1c at hF
 refine p7 c8v.1 fun N => ?_
 refine ws 0 64 (qr (AI 0) (d9 (ws 64 384 (qr (AI v1) (qr (AL 6 (v0.map A1)) (qp (AI (v0.length : Int)) (j0 rfl) (qr (AI (w64 (v1 - (v0.length : Int)))) (qr (AI (w64 (v1 - (v0.length : Int)))) (d9 (i8 (ws 384 512 ?_)))))))))))
 refine qr (AI (w64 (v1 - (v0.length : Int)))) (qr (AB (decide (w64 (v1 - (v0.length : Int)) < (0 : Int)))) (d9 (cF hF (fun hF => ws 512 576 (qr (AI (-1)) (d9 (j8 (f7 (eQ hF)))))) fun hF => ?_)))
 refine g9 (f5 (i8 (ws 512 576 (qr (AI 0) (d9 (j7 ?_))))))
 refine wr (l' := [(0, AL 6 (v0.map A1)), (1, AI (w64 (v1 - (v0.length : Int)))), (5, AI 0)]) (L := []) [0, 1, 5] [] 1 ?_
 refine y5 (V2 v0) (fun s : Int × Int => mkS [(0, AL 6 (v0.map A1)), (1, AI s.1), (5, AI s.2)] (fo []) 1) hF ?_
 rintro k0 ⟨x2, x3⟩ hF
 rw [V2] at hF
 try dsimp only
 refine i8 (ws 1 257 (qr (AI x3) (qr (AL 6 (v0.map A1)) (qp (AI (v0.length : Int)) (j0 rfl) (qr (AB (decide (x3 < (v0.length : Int)))) (d9 ?_))))))
 refine cF hF (fun hF => ?_) fun hF => ?_
 ·
  refine g9 (f5 (i8 (j7 (ws 257 705 (qr (AL 6 (v0.map A1)) (qr (AI x3) (bk hF fun u0 e0 hF => qp (.val none (.ptr [.str u0.1, .int .i64 u0.2.1, .int .i64 u0.2.2.1, .int .i64 u0.2.2.2.1, .int .i64 u0.2.2.2.2.1, .int .i64 u0.2.2.2.2.2])) (j4 rfl rfl e0 rfl) (qr (.val none (A1 u0)) (qr (AI x2) (bk hF fun u1 e1 hF => qC (AI u1) [] (b2f e1) c8J (qr (AI u1) (d9 (ws 705 833 (qr (AI u1) (qr (AB (decide (u1 < (0 : Int)))) ?_)))))))))))))))
  refine d9 (cF hF (fun hF => ws 833 897 (qr (AI (-1)) (d9 (j8 (g7 (f7 (f7 (g7 (f7 (eQ hF)))))))))) fun hF => ?_)
  refine g9 (p6 (f5 (y4 833 1025 rfl rfl (qr (AI x3) (qr (AI (w64 (x3 + 1))) (qr (AI (w64 (x3 + 1))) (d9 (f5 ?_))))))))
  refine ar (l' := [(0, AL 6 (v0.map A1)), (1, AI u1), (5, AI (w64 (x3 + 1)))]) (L := []) [0, 1, 5] [] 1 ⟨_, by rfl, hF⟩
 exact z8 (j5 (j5 (s9 (f5 (ws 257 385 (qr (AI x2) (qr (AI x2) (rR hF))))))))

def c58 : MC := (sr [rg 2 (.f (.box t0)), pT 4 (.mv (ci 0))] (sr [mvt 5 1, pT 6 (.fad t2 1), lT 7 6, pT 8 (.lens t7), bT 9 .sub t5 t8, mvt 1 9] (.seq (sr [mvt 10 1, bT 11 .lss t10 (ci 0)] (.cond t11 (sr [pT 4 (.mv (ci (-1)))] .ret) .skip)) (sr [mvt 12 1, pT 13 (.fad t2 2), lT 14 13, pT 15 (.lens t14), bT 16 .sub t12 t15, mvt 1 16] (.seq (sr [mvt 17 1, bT 18 .lss t17 (ci 0)] (.cond t18 (sr [pT 4 (.mv (ci (-1)))] .ret) .skip)) (sr [mvt 19 1, mvt 4 19] .ret))))))
theorem c8y : IsF Tryz.prog 58 c58 [(.tmp 4)] := ⟨by kernel_rfl, by kernel_rfl⟩

def a0v (v0 : n9) (v1 : Int) : Option (Int) :=
 (bif (decide (w64 (v1 - (v0.2.1.length : Int)) < (0 : Int))) then some (-1)
 else (bif (decide (w64 ((w64 (v1 - (v0.2.1.length : Int))) - (v0.2.2.1.length : Int)) < (0 : Int))) then some (-1)
 else some (w64 ((w64 (v1 - (v0.2.1.length : Int))) - (v0.2.2.1.length : Int)))))
@[simp] abbrev K5 (v1 : Int) (v0 : n9) : AV := AI (w64 ((w64 (v1 - (v0.2.1.length : Int))) - (v0.2.2.1.length : Int)))
@[simp] def a8z (r : Int) : RV := .one (.one (.val (.int .i64 r)))
theorem a9C {v0 : n9} {v1 : Int} {r : Int} (hF : a0v v0 v1 = some r) : Con Tryz.prog 58 [p8 v0, .int .i64 v1] (a8z r) := by
 unfold a0v at hF
 refine p7 c8y.1 fun N => ?_
 refine ws 0 128 (qf (.ptr 0 0 0) [(0, .box [AI v0.1, AS v0.2.1, AS v0.2.2.1, AI v0.2.2.2.1, AI v0.2.2.2.2])] (by simp) (qr (AI 0) (d9 (ws 128 512 (qr (AI v1) (qr (.ptr 0 0 1) (qr (AS v0.2.1) (qr (AI (v0.2.1.length : Int)) (qr (AI (w64 (v1 - (v0.2.1.length : Int)))) (qr (AI (w64 (v1 - (v0.2.1.length : Int)))) (d9 ?_)))))))))))
 refine i8 (ws 512 640 (qr (AI (w64 (v1 - (v0.2.1.length : Int)))) (qr (AB (decide (w64 (v1 - (v0.2.1.length : Int)) < (0 : Int)))) (d9 (cF hF (fun hF => ws 640 704 (qr (AI (-1)) (d9 (j8 (f7 (eQ hF)))))) fun hF => ?_)))))
 refine g9 (f5 (ws 640 1024 (qr (AI (w64 (v1 - (v0.2.1.length : Int)))) (qr (.ptr 0 0 2) (qr (AS v0.2.2.1) (qr (AI (v0.2.2.1.length : Int)) (qr (K5 v1 v0) (qr (K5 v1 v0) (d9 (i8 (ws 1024 1152 ?_)))))))))))
 refine qr (K5 v1 v0) (qr (AB (decide (w64 ((w64 (v1 - (v0.2.1.length : Int))) - (v0.2.2.1.length : Int)) < (0 : Int)))) (d9 (cF hF (fun hF => ws 1152 1216 (qr (AI (-1)) (d9 (j8 (f7 (eQ hF)))))) fun hF => ?_)))
 exact g9 (f5 (ws 1152 1280 (qr (K5 v1 v0) (qr (K5 v1 v0) (rR hF)))))

def c20 : MC := (sr [pT 4 (.mv (ci 0))] (sr [mvt 6 1, mvt 7 0, zT 8 7, bT 9 .sub t6 t8, mvt 1 9] (.seq (sr [mvt 10 1, bT 11 .lss t10 (ci 0)] (.cond t11 (sr [pT 4 (.mv (ci (-1)))] .ret) .skip)) (.seq (sr [pT 5 (.mv (ci 0))] (.block 0 (.loop (.seq (sr [mvt 12 5, mvt 13 0, zT 14 13, bT 15 .lss t12 t14] (cx t15 0)) (.seq (.block 1 (sr [mvt 18 0, mvt 19 5, iT 20 18 19 5, pT 21 (.ld t20 5 true), mvt 22 1, dT 23 58 [t21, t22], mvt 1 23] (sr [mvt 24 1, bT 25 .lss t24 (ci 0)] (.cond t25 (sr [pT 4 (.mv (ci (-1)))] .ret) .skip)))) (.reg [mvt 16 5, bT 17 .add t16 (ci 1), mvt 5 17])))))) (sr [mvt 26 1, mvt 4 26] .ret)))))
theorem c7G : IsF Tryz.prog 20 c20 [(.tmp 4)] := ⟨by kernel_rfl, by kernel_rfl⟩

def P5 (v0 : List n9) (k0 : Int × Int → Option (Int)) : Int × Int → Option (Int)
 | (x2, x3) => (bif (decide (x3 < (v0.length : Int))) then ((ix v0 x3).bind fun u0 => ((a0v u0 x2).bind fun u1 => (bif (decide (u1 < (0 : Int))) then some (-1)
 else k0 (u1, w64 (x3 + 1)))))
 else some x2)
def X6 (v0 : List n9) (v1 : Int) : Option (Int) :=
 (bif (decide (w64 (v1 - (v0.length : Int)) < (0 : Int))) then some (-1)
 else loop (P5 v0) (w64 (v1 - (v0.length : Int)), 0))
@[simp] def a8b (r : Int) : RV := .one (.one (.val (.int .i64 r)))
theorem a7E {v0 : List n9} {v1 : Int} {r : Int} (hF : X6 v0 v1 = some r) : Con Tryz.prog 20 [.sl 5 (v0.map p8), .int .i64 v1] (a8b r) := by
 unfold X6 at hF
 refine p7 c7G.1 fun N => ?_
 refine ws 0 64 (qr (AI 0) (d9 (ws 64 384 (qr (AI v1) (qr (AL 5 (v0.map p8)) (qp (AI (v0.length : Int)) (j0 rfl) (qr (AI (w64 (v1 - (v0.length : Int)))) (qr (AI (w64 (v1 - (v0.length : Int)))) (d9 (i8 (ws 384 512 ?_)))))))))))
 refine qr (AI (w64 (v1 - (v0.length : Int)))) (qr (AB (decide (w64 (v1 - (v0.length : Int)) < (0 : Int)))) (d9 (cF hF (fun hF => ws 512 576 (qr (AI (-1)) (d9 (j8 (f7 (eQ hF)))))) fun hF => ?_)))
 refine g9 (f5 (i8 (ws 512 576 (qr (AI 0) (d9 (j7 ?_))))))
 refine wr (l' := [(0, AL 5 (v0.map p8)), (1, AI (w64 (v1 - (v0.length : Int)))), (5, AI 0)]) (L := []) [0, 1, 5] [] 1 ?_
 refine y5 (P5 v0) (fun s : Int × Int => mkS [(0, AL 5 (v0.map p8)), (1, AI s.1), (5, AI s.2)] (fo []) 1) hF ?_
 rintro k0 ⟨x2, x3⟩ hF
 rw [P5] at hF
 try dsimp only
 refine i8 (ws 1 257 (qr (AI x3) (qr (AL 5 (v0.map p8)) (qp (AI (v0.length : Int)) (j0 rfl) (qr (AB (decide (x3 < (v0.length : Int)))) (d9 ?_))))))
 refine cF hF (fun hF => ?_) fun hF => ?_
 ·
  refine g9 (f5 (i8 (j7 (ws 257 705 (qr (AL 5 (v0.map p8)) (qr (AI x3) (bk hF fun u0 e0 hF => qp (.val none (.ptr [.int .i64 u0.1, .str u0.2.1, .str u0.2.2.1, .int .i64 u0.2.2.2.1, .int .i64 u0.2.2.2.2])) (j4 rfl rfl e0 rfl) (qr (.val none (p8 u0)) (qr (AI x2) (bk hF fun u1 e1 hF => qC (AI u1) [] (a9C e1) c8y (qr (AI u1) (d9 (ws 705 833 (qr (AI u1) (qr (AB (decide (u1 < (0 : Int)))) ?_)))))))))))))))
  refine d9 (cF hF (fun hF => ws 833 897 (qr (AI (-1)) (d9 (j8 (g7 (f7 (f7 (g7 (f7 (eQ hF)))))))))) fun hF => ?_)
  refine g9 (p6 (f5 (y4 833 1025 rfl rfl (qr (AI x3) (qr (AI (w64 (x3 + 1))) (qr (AI (w64 (x3 + 1))) (d9 (f5 ?_))))))))
  refine ar (l' := [(0, AL 5 (v0.map p8)), (1, AI u1), (5, AI (w64 (x3 + 1)))]) (L := []) [0, 1, 5] [] 1 ⟨_, by rfl, hF⟩
 exact z8 (j5 (j5 (s9 (f5 (ws 257 385 (qr (AI x2) (qr (AI x2) (rR hF))))))))

def c97 : MC := (sr [pT 4 (.mv (ci 0))] (sr [mvt 6 1, mvt 7 0, zT 8 7, bT 9 .sub t6 t8, mvt 1 9] (.seq (sr [mvt 10 1, bT 11 .lss t10 (ci 0)] (.cond t11 (sr [pT 4 (.mv (ci (-1)))] .ret) .skip)) (.seq (sr [pT 5 (.mv (ci 0))] (.block 0 (.loop (.seq (sr [mvt 12 5, mvt 13 0, zT 14 13, bT 15 .lss t12 t14] (cx t15 0)) (.seq (.block 1 (sr [mvt 18 1, mvt 19 0, mvt 20 5, iT 21 19 20 1, lT 22 21, pT 23 (.lens t22), bT 24 .sub t18 t23, mvt 1 24] (sr [mvt 25 1, bT 26 .lss t25 (ci 0)] (.cond t26 (sr [pT 4 (.mv (ci (-1)))] .ret) .skip)))) (.reg [mvt 16 5, bT 17 .add t16 (ci 1), mvt 5 17])))))) (sr [mvt 27 1, mvt 4 27] .ret)))))
theorem c8c : IsF Tryz.prog 97 c97 [(.tmp 4)] := ⟨by kernel_rfl, by kernel_rfl⟩

def Q0 (v0 : List (List UInt8)) (k0 : Int × Int → Option (Int)) : Int × Int → Option (Int)
 | (x2, x3) => (bif (decide (x3 < (v0.length : Int))) then ((ix v0 x3).bind fun u0 => (bif (decide (w64 (x2 - (u0.length : Int)) < (0 : Int))) then some (-1)
 else k0 (w64 (x2 - (u0.length : Int)), w64 (x3 + 1))))
 else some x2)
def Z4 (v0 : List (List UInt8)) (v1 : Int) : Option (Int) :=
 (bif (decide (w64 (v1 - (v0.length : Int)) < (0 : Int))) then some (-1)
 else loop (Q0 v0) (w64 (v1 - (v0.length : Int)), 0))
@[simp] def a7x (r : Int) : RV := .one (.one (.val (.int .i64 r)))
theorem a7L {v0 : List (List UInt8)} {v1 : Int} {r : Int} (hF : Z4 v0 v1 = some r) : Con Tryz.prog 97 [.sl 1 (v0.map V.str), .int .i64 v1] (a7x r) := by
 unfold Z4 at hF
 refine p7 c8c.1 fun N => ?_
 refine ws 0 64 (qr (AI 0) (d9 (ws 64 384 (qr (AI v1) (qr (AL 1 (v0.map V.str)) (qp (AI (v0.length : Int)) (j0 rfl) (qr (AI (w64 (v1 - (v0.length : Int)))) (qr (AI (w64 (v1 - (v0.length : Int)))) (d9 (i8 (ws 384 512 ?_)))))))))))
 refine qr (AI (w64 (v1 - (v0.length : Int)))) (qr (AB (decide (w64 (v1 - (v0.length : Int)) < (0 : Int)))) (d9 (cF hF (fun hF => ws 512 576 (qr (AI (-1)) (d9 (j8 (f7 (eQ hF)))))) fun hF => ?_)))
 refine g9 (f5 (i8 (ws 512 576 (qr (AI 0) (d9 (j7 ?_))))))
 refine wr (l' := [(0, AL 1 (v0.map V.str)), (1, AI (w64 (v1 - (v0.length : Int)))), (5, AI 0)]) (L := []) [0, 1, 5] [] 1 ?_
 refine y5 (Q0 v0) (fun s : Int × Int => mkS [(0, AL 1 (v0.map V.str)), (1, AI s.1), (5, AI s.2)] (fo []) 1) hF ?_
 rintro k0 ⟨x2, x3⟩ hF
 rw [Q0] at hF
 try dsimp only
 refine i8 (ws 1 257 (qr (AI x3) (qr (AL 1 (v0.map V.str)) (qp (AI (v0.length : Int)) (j0 rfl) (qr (AB (decide (x3 < (v0.length : Int)))) (d9 ?_))))))
 refine cF hF (fun hF => ?_) fun hF => ?_
 ·
  refine g9 (f5 (i8 (j7 (ws 257 769 (qr (AI x2) (qr (AL 1 (v0.map V.str)) (qr (AI x3) (bk hF fun u0 e0 hF => ?_))))))))
  refine qp (.val none (.ptr [.str u0])) (j4 rfl rfl e0 rfl) (qr (AS u0) (qr (AI (u0.length : Int)) (qr (AI (w64 (x2 - (u0.length : Int)))) (qr (AI (w64 (x2 - (u0.length : Int)))) (d9 (ws 769 897 (qr (AI (w64 (x2 - (u0.length : Int)))) (qr (AB (decide (w64 (x2 - (u0.length : Int)) < (0 : Int)))) (d9 ?_)))))))))
  refine cF hF (fun hF => ws 897 961 (qr (AI (-1)) (d9 (j8 (g7 (f7 (f7 (g7 (f7 (eQ hF)))))))))) fun hF => ?_
  refine g9 (p6 (f5 (y4 897 1089 rfl rfl (qr (AI x3) (qr (AI (w64 (x3 + 1))) (qr (AI (w64 (x3 + 1))) (d9 (f5 ?_))))))))
  refine ar (l' := [(0, AL 1 (v0.map V.str)), (1, AI (w64 (x2 - (u0.length : Int)))), (5, AI (w64 (x3 + 1)))]) (L := []) [0, 1, 5] [] 1 ⟨_, by rfl, hF⟩
 exact z8 (j5 (j5 (s9 (f5 (ws 257 385 (qr (AI x2) (qr (AI x2) (rR hF))))))))

def c59 : MC := (sr [rg 2 (.f (.box t0)), pT 4 (.mv (ci 0))] (sr [mvt 5 1, pT 6 (.fad t2 0), lT 7 6, pT 8 (.lens t7), bT 9 .sub t5 t8, mvt 1 9] (.seq (sr [mvt 10 1, bT 11 .lss t10 (ci 0)] (.cond t11 (sr [pT 4 (.mv (ci (-1)))] .ret) .skip)) (sr [pT 12 (.fad t2 2), lT 13 12, mvt 14 1, dT 15 97 [t13, t14], mvt 1 15] (.seq (sr [mvt 16 1, bT 17 .lss t16 (ci 0)] (.cond t17 (sr [pT 4 (.mv (ci (-1)))] .ret) .skip)) (sr [mvt 18 1, mvt 4 18] .ret))))))
theorem c7H : IsF Tryz.prog 59 c59 [(.tmp 4)] := ⟨by kernel_rfl, by kernel_rfl⟩

def a0s (v0 : p4) (v1 : Int) : Option (Int) :=
 (bif (decide (w64 (v1 - (v0.1.length : Int)) < (0 : Int))) then some (-1)
 else ((Z4 v0.2.2 (w64 (v1 - (v0.1.length : Int)))).bind fun u0 => (bif (decide (u0 < (0 : Int))) then some (-1)
 else some u0)))
@[simp] abbrev K6 (v0 : p4) : List (Nat × Root) := [(0, .box [AS v0.1, AI v0.2.1, AL 1 (v0.2.2.map V.str)])]
@[simp] def a8s (r : Int) : RV := .one (.one (.val (.int .i64 r)))
theorem a9b {v0 : p4} {v1 : Int} {r : Int} (hF : a0s v0 v1 = some r) : Con Tryz.prog 59 [p9 v0, .int .i64 v1] (a8s r) := by
 unfold a0s at hF
 refine p7 c7H.1 fun N => ?_
 refine ws 0 128 (qf (.ptr 0 0 0) (K6 v0) (by simp) (qr (AI 0) (d9 (ws 128 512 (qr (AI v1) (qr (.ptr 0 0 0) (qr (AS v0.1) (qr (AI (v0.1.length : Int)) (qr (AI (w64 (v1 - (v0.1.length : Int)))) (qr (AI (w64 (v1 - (v0.1.length : Int)))) (d9 ?_)))))))))))
 refine i8 (ws 512 640 (qr (AI (w64 (v1 - (v0.1.length : Int)))) (qr (AB (decide (w64 (v1 - (v0.1.length : Int)) < (0 : Int)))) (d9 (cF hF (fun hF => ws 640 704 (qr (AI (-1)) (d9 (j8 (f7 (eQ hF)))))) fun hF => ?_)))))
 refine g9 (f5 (ws 640 960 (qr (.ptr 0 0 2) (qr (AL 1 (v0.2.2.map V.str)) (qr (AI (w64 (v1 - (v0.1.length : Int)))) (bk hF fun u0 e0 hF => qC (AI u0) (K6 v0) (a7L e0) c8c (qr (AI u0) (d9 (i8 (ws 960 1088 (qr (AI u0) (qr (AB (decide (u0 < (0 : Int)))) (d9 ?_)))))))))))))
 refine cF hF (fun hF => ws 1088 1152 (qr (AI (-1)) (d9 (j8 (f7 (eQ hF)))))) fun hF => ?_
 exact g9 (f5 (ws 1088 1216 (qr (AI u0) (qr (AI u0) (rR hF)))))

def c21 : MC := (sr [pT 4 (.mv (ci 0))] (sr [mvt 6 1, mvt 7 0, zT 8 7, bT 9 .sub t6 t8, mvt 1 9] (.seq (sr [mvt 10 1, bT 11 .lss t10 (ci 0)] (.cond t11 (sr [pT 4 (.mv (ci (-1)))] .ret) .skip)) (.seq (sr [pT 5 (.mv (ci 0))] (.block 0 (.loop (.seq (sr [mvt 12 5, mvt 13 0, zT 14 13, bT 15 .lss t12 t14] (cx t15 0)) (.seq (.block 1 (sr [mvt 18 0, mvt 19 5, iT 20 18 19 3, pT 21 (.ld t20 3 true), mvt 22 1, dT 23 59 [t21, t22], mvt 1 23] (sr [mvt 24 1, bT 25 .lss t24 (ci 0)] (.cond t25 (sr [pT 4 (.mv (ci (-1)))] .ret) .skip)))) (.reg [mvt 16 5, bT 17 .add t16 (ci 1), mvt 5 17])))))) (sr [mvt 26 1, mvt 4 26] .ret)))))
theorem c8a : IsF Tryz.prog 21 c21 [(.tmp 4)] := ⟨by kernel_rfl, by kernel_rfl⟩

def Q1 (v0 : List p4) (k0 : Int × Int → Option (Int)) : Int × Int → Option (Int)
 | (x2, x3) => (bif (decide (x3 < (v0.length : Int))) then ((ix v0 x3).bind fun u0 => ((a0s u0 x2).bind fun u1 => (bif (decide (u1 < (0 : Int))) then some (-1)
 else k0 (u1, w64 (x3 + 1)))))
 else some x2)
def X3 (v0 : List p4) (v1 : Int) : Option (Int) :=
 (bif (decide (w64 (v1 - (v0.length : Int)) < (0 : Int))) then some (-1)
 else loop (Q1 v0) (w64 (v1 - (v0.length : Int)), 0))
@[simp] def a7r (r : Int) : RV := .one (.one (.val (.int .i64 r)))
theorem a7M {v0 : List p4} {v1 : Int} {r : Int} (hF : X3 v0 v1 = some r) : Con Tryz.prog 21 [.sl 3 (v0.map p9), .int .i64 v1] (a7r r) := by
 unfold X3 at hF
 refine p7 c8a.1 fun N => ?_
 refine ws 0 64 (qr (AI 0) (d9 (ws 64 384 (qr (AI v1) (qr (AL 3 (v0.map p9)) (qp (AI (v0.length : Int)) (j0 rfl) (qr (AI (w64 (v1 - (v0.length : Int)))) (qr (AI (w64 (v1 - (v0.length : Int)))) (d9 (i8 (ws 384 512 ?_)))))))))))
 refine qr (AI (w64 (v1 - (v0.length : Int)))) (qr (AB (decide (w64 (v1 - (v0.length : Int)) < (0 : Int)))) (d9 (cF hF (fun hF => ws 512 576 (qr (AI (-1)) (d9 (j8 (f7 (eQ hF)))))) fun hF => ?_)))
 refine g9 (f5 (i8 (ws 512 576 (qr (AI 0) (d9 (j7 ?_))))))
 refine wr (l' := [(0, AL 3 (v0.map p9)), (1, AI (w64 (v1 - (v0.length : Int)))), (5, AI 0)]) (L := []) [0, 1, 5] [] 1 ?_
 refine y5 (Q1 v0) (fun s : Int × Int => mkS [(0, AL 3 (v0.map p9)), (1, AI s.1), (5, AI s.2)] (fo []) 1) hF ?_
 rintro k0 ⟨x2, x3⟩ hF
 rw [Q1] at hF
 try dsimp only
 refine i8 (ws 1 257 (qr (AI x3) (qr (AL 3 (v0.map p9)) (qp (AI (v0.length : Int)) (j0 rfl) (qr (AB (decide (x3 < (v0.length : Int)))) (d9 ?_))))))
 refine cF hF (fun hF => ?_) fun hF => ?_
 ·
  refine g9 (f5 (i8 (j7 (ws 257 705 (qr (AL 3 (v0.map p9)) (qr (AI x3) (bk hF fun u0 e0 hF => qp (.val none (.ptr [.str u0.1, .int .i64 u0.2.1, .sl 1 (u0.2.2.map V.str)])) (j4 rfl rfl e0 rfl) (qr (.val none (p9 u0)) (qr (AI x2) (bk hF fun u1 e1 hF => qC (AI u1) [] (a9b e1) c7H (qr (AI u1) (d9 (ws 705 833 (qr (AI u1) (qr (AB (decide (u1 < (0 : Int)))) ?_)))))))))))))))
  refine d9 (cF hF (fun hF => ws 833 897 (qr (AI (-1)) (d9 (j8 (g7 (f7 (f7 (g7 (f7 (eQ hF)))))))))) fun hF => ?_)
  refine g9 (p6 (f5 (y4 833 1025 rfl rfl (qr (AI x3) (qr (AI (w64 (x3 + 1))) (qr (AI (w64 (x3 + 1))) (d9 (f5 ?_))))))))
  refine ar (l' := [(0, AL 3 (v0.map p9)), (1, AI u1), (5, AI (w64 (x3 + 1)))]) (L := []) [0, 1, 5] [] 1 ⟨_, by rfl, hF⟩
 exact z8 (j5 (j5 (s9 (f5 (ws 257 385 (qr (AI x2) (qr (AI x2) (rR hF))))))))

def c4 : MC := (sr [rg 2 (.f (.box t0)), pT 4 (.mv (ci 0))] (sr [pT 5 (.fad t2 0), pT 6 (.ld t5 6 true), mvt 7 1, dT 8 13 [t6, t7], mvt 1 8] (.seq (sr [mvt 9 1, bT 10 .lss t9 (ci 0)] (.cond t10 (sr [pT 4 (.mv (ci (-1)))] .ret) .skip)) (sr [pT 11 (.fad t2 6), lT 12 11, mvt 13 1, dT 14 14 [t12, t13], mvt 1 14] (.seq (sr [mvt 15 1, bT 16 .lss t15 (ci 0)] (.cond t16 (sr [pT 4 (.mv (ci (-1)))] .ret) .skip)) (sr [pT 17 (.fad t2 7), pT 18 (.ld t17 2 true), mvt 19 1, dT 20 15 [t18, t19], mvt 1 20] (.seq (sr [mvt 21 1, bT 22 .lss t21 (ci 0)] (.cond t22 (sr [pT 4 (.mv (ci (-1)))] .ret) .skip)) (sr [pT 23 (.fad t2 9), lT 24 23, mvt 25 1, dT 26 16 [t24, t25], mvt 1 26] (.seq (sr [mvt 27 1, bT 28 .lss t27 (ci 0)] (.cond t28 (sr [pT 4 (.mv (ci (-1)))] .ret) .skip)) (sr [pT 29 (.fad t2 10), lT 30 29, mvt 31 1, dT 32 17 [t30, t31], mvt 1 32] (.seq (sr [mvt 33 1, bT 34 .lss t33 (ci 0)] (.cond t34 (sr [pT 4 (.mv (ci (-1)))] .ret) .skip)) (sr [pT 35 (.fad t2 11), lT 36 35, mvt 37 1, dT 38 18 [t36, t37], mvt 1 38] (.seq (sr [mvt 39 1, bT 40 .lss t39 (ci 0)] (.cond t40 (sr [pT 4 (.mv (ci (-1)))] .ret) .skip)) (sr [pT 41 (.fad t2 12), lT 42 41, mvt 43 1, dT 44 19 [t42, t43], mvt 1 44] (.seq (sr [mvt 45 1, bT 46 .lss t45 (ci 0)] (.cond t46 (sr [pT 4 (.mv (ci (-1)))] .ret) .skip)) (sr [pT 47 (.fad t2 13), lT 48 47, mvt 49 1, dT 50 20 [t48, t49], mvt 1 50] (.seq (sr [mvt 51 1, bT 52 .lss t51 (ci 0)] (.cond t52 (sr [pT 4 (.mv (ci (-1)))] .ret) .skip)) (sr [pT 53 (.fad t2 14), lT 54 53, mvt 55 1, dT 56 21 [t54, t55], mvt 1 56] (.seq (sr [mvt 57 1, bT 58 .lss t57 (ci 0)] (.cond t58 (sr [pT 4 (.mv (ci (-1)))] .ret) .skip)) (sr [mvt 59 1, mvt 4 59] .ret))))))))))))))))))))
theorem c4_ : IsF Tryz.prog 4 c4 [(.tmp 4)] := ⟨by kernel_rfl, by kernel_rfl⟩

def a1y (v0 : y8) (v1 : Int) : Option (Int) :=
 ((a1Q (v0.1, v0.2.1, v0.2.2.1, v0.2.2.2.1, v0.2.2.2.2.1, v0.2.2.2.2.2.1) v1).bind fun u0 => (bif (decide (u0 < (0 : Int))) then some (-1)
 else ((a1f v0.2.2.2.2.2.2.1 u0).bind fun u1 => (bif (decide (u1 < (0 : Int))) then some (-1)
 else ((a0y (v0.2.2.2.2.2.2.2.1, v0.2.2.2.2.2.2.2.2.1) u1).bind fun u2 => (bif (decide (u2 < (0 : Int))) then some (-1)
 else ((R5 v0.2.2.2.2.2.2.2.2.2.1 u2).bind fun u3 => (bif (decide (u3 < (0 : Int))) then some (-1)
 else ((S8 v0.2.2.2.2.2.2.2.2.2.2.1 u3).bind fun u4 => (bif (decide (u4 < (0 : Int))) then some (-1)
 else ((P2 v0.2.2.2.2.2.2.2.2.2.2.2.1 u4).bind fun u5 => (bif (decide (u5 < (0 : Int))) then some (-1)
 else ((a1c v0.2.2.2.2.2.2.2.2.2.2.2.2.1 u5).bind fun u6 => (bif (decide (u6 < (0 : Int))) then some (-1)
 else ((X6 v0.2.2.2.2.2.2.2.2.2.2.2.2.2.1 u6).bind fun u7 => (bif (decide (u7 < (0 : Int))) then some (-1)
 else ((X3 v0.2.2.2.2.2.2.2.2.2.2.2.2.2.2 u7).bind fun u8 => (bif (decide (u8 < (0 : Int))) then some (-1)
 else some u8))))))))))))))))))
@[simp] abbrev K7 (v0 : y8) : List (Nat × Root) := [(0, .box [AS v0.1, AL 1 (v0.2.1.map vI), AL 1 (v0.2.2.1.map vI), AI v0.2.2.2.1, AI v0.2.2.2.2.1, AL 1 (v0.2.2.2.2.2.1.map (eL 1 vI)), AL 2 (v0.2.2.2.2.2.2.1.map j3), AS v0.2.2.2.2.2.2.2.1, AL 2 (v0.2.2.2.2.2.2.2.2.1.map j3), AL 1 (v0.2.2.2.2.2.2.2.2.2.1.map (eL 1 vI)), AL 3 (v0.2.2.2.2.2.2.2.2.2.2.1.map p3), AL 2 (v0.2.2.2.2.2.2.2.2.2.2.2.1.map j3), AL 6 (v0.2.2.2.2.2.2.2.2.2.2.2.2.1.map A1), AL 5 (v0.2.2.2.2.2.2.2.2.2.2.2.2.2.1.map p8), AL 3 (v0.2.2.2.2.2.2.2.2.2.2.2.2.2.2.map p9)])]
@[simp] def b1R (r : Int) : RV := .one (.one (.val (.int .i64 r)))
theorem b1I {v0 : y8} {v1 : Int} {r : Int} (hF : a1y v0 v1 = some r) : Con Tryz.prog 4 [a9S v0, .int .i64 v1] (b1R r) := by
 unfold a1y at hF
 refine p7 c4_.1 fun N => ?_
 refine ws 0 128 (qf (.ptr 0 0 0) (K7 v0) (by simp) (qr (AI 0) (d9 (ws 128 448 (qr (.ptr 0 0 0) (qr (.agg [AS v0.1, AL 1 (v0.2.1.map vI), AL 1 (v0.2.2.1.map vI), AI v0.2.2.2.1, AI v0.2.2.2.2.1, AL 1 (v0.2.2.2.2.2.1.map (eL 1 vI))]) (qr (AI v1) (bk hF fun u0 e0 hF => qC (AI u0) (K7 v0) (b1L e0) c7d (qr (AI u0) (d9 (i8 (ws 448 576 (qr (AI u0) (qr (AB (decide (u0 < (0 : Int)))) ?_))))))))))))))
 refine d9 (cF hF (fun hF => ws 576 640 (qr (AI (-1)) (d9 (j8 (f7 (eQ hF)))))) fun hF => ?_)
 refine g9 (f5 (ws 576 896 (qr (.ptr 0 0 6) (qr (AL 2 (v0.2.2.2.2.2.2.1.map j3)) (qr (AI u0) (bk hF fun u1 e1 hF => qC (AI u1) (K7 v0) (a9Z e1) c7m (qr (AI u1) (d9 (i8 (ws 896 1024 (qr (AI u1) (qr (AB (decide (u1 < (0 : Int)))) (d9 ?_)))))))))))))
 refine cF hF (fun hF => ws 1024 1088 (qr (AI (-1)) (d9 (j8 (f7 (eQ hF)))))) fun hF => ?_
 refine g9 (f5 (ws 1024 1344 (qr (.ptr 0 0 7) (qr (.agg [AS v0.2.2.2.2.2.2.2.1, AL 2 (v0.2.2.2.2.2.2.2.2.1.map j3)]) (qr (AI u1) (bk hF fun u2 e2 hF => qC (AI u2) (K7 v0) (a8u e2) c7q (qr (AI u2) (d9 (i8 (ws 1344 1472 (qr (AI u2) (qr (AB (decide (u2 < (0 : Int)))) (d9 ?_)))))))))))))
 refine cF hF (fun hF => ws 1472 1536 (qr (AI (-1)) (d9 (j8 (f7 (eQ hF)))))) fun hF => ?_
 refine g9 (f5 (ws 1472 1792 (qr (.ptr 0 0 9) (qr (AL 1 (v0.2.2.2.2.2.2.2.2.2.1.map (eL 1 vI))) (qr (AI u2) (bk hF fun u3 e3 hF => qC (AI u3) (K7 v0) (a3G e3) c5W (qr (AI u3) (d9 (i8 (ws 1792 1920 (qr (AI u3) (qr (AB (decide (u3 < (0 : Int)))) (d9 ?_)))))))))))))
 refine cF hF (fun hF => ws 1920 1984 (qr (AI (-1)) (d9 (j8 (f7 (eQ hF)))))) fun hF => ?_
 refine g9 (f5 (ws 1920 2240 (qr (.ptr 0 0 10) (qr (AL 3 (v0.2.2.2.2.2.2.2.2.2.2.1.map p3)) (qr (AI u3) (bk hF fun u4 e4 hF => qC (AI u4) (K7 v0) (a6r e4) c7y (qr (AI u4) (d9 (i8 (ws 2240 2368 (qr (AI u4) (qr (AB (decide (u4 < (0 : Int)))) (d9 ?_)))))))))))))
 refine cF hF (fun hF => ws 2368 2432 (qr (AI (-1)) (d9 (j8 (f7 (eQ hF)))))) fun hF => ?_
 refine g9 (f5 (ws 2368 2688 (qr (.ptr 0 0 11) (qr (AL 2 (v0.2.2.2.2.2.2.2.2.2.2.2.1.map j3)) (qr (AI u4) (bk hF fun u5 e5 hF => qC (AI u5) (K7 v0) (a5g e5) c8m (qr (AI u5) (d9 (i8 (ws 2688 2816 (qr (AI u5) (qr (AB (decide (u5 < (0 : Int)))) (d9 ?_)))))))))))))
 refine cF hF (fun hF => ws 2816 2880 (qr (AI (-1)) (d9 (j8 (f7 (eQ hF)))))) fun hF => ?_
 refine g9 (f5 (ws 2816 3136 (qr (.ptr 0 0 12) (qr (AL 6 (v0.2.2.2.2.2.2.2.2.2.2.2.2.1.map A1)) (qr (AI u5) (bk hF fun u6 e6 hF => qC (AI u6) (K7 v0) (b0G e6) c8v (qr (AI u6) (d9 (i8 (ws 3136 3264 (qr (AI u6) (qr (AB (decide (u6 < (0 : Int)))) (d9 ?_)))))))))))))
 refine cF hF (fun hF => ws 3264 3328 (qr (AI (-1)) (d9 (j8 (f7 (eQ hF)))))) fun hF => ?_
 refine g9 (f5 (ws 3264 3584 (qr (.ptr 0 0 13) (qr (AL 5 (v0.2.2.2.2.2.2.2.2.2.2.2.2.2.1.map p8)) (qr (AI u6) (bk hF fun u7 e7 hF => qC (AI u7) (K7 v0) (a7E e7) c7G (qr (AI u7) (d9 (i8 (ws 3584 3712 (qr (AI u7) (qr (AB (decide (u7 < (0 : Int)))) (d9 ?_)))))))))))))
 refine cF hF (fun hF => ws 3712 3776 (qr (AI (-1)) (d9 (j8 (f7 (eQ hF)))))) fun hF => ?_
 refine g9 (f5 (ws 3712 4032 (qr (.ptr 0 0 14) (qr (AL 3 (v0.2.2.2.2.2.2.2.2.2.2.2.2.2.2.map p9)) (qr (AI u7) (bk hF fun u8 e8 hF => qC (AI u8) (K7 v0) (a7M e8) c8a (qr (AI u8) (d9 (i8 (ws 4032 4160 (qr (AI u8) (qr (AB (decide (u8 < (0 : Int)))) (d9 ?_)))))))))))))
 refine cF hF (fun hF => ws 4160 4224 (qr (AI (-1)) (d9 (j8 (f7 (eQ hF)))))) fun hF => ?_
 exact g9 (f5 (ws 4160 4288 (qr (AI u8) (qr (AI u8) (rR hF)))))

def c69 : MC := (sr [rg 2 (.f (.nilrow 1))] (sr [mvt 5 0, zT 6 5, rg 7 (.f (.mks 1 8 (.int .i64 0) t6 t6)), mvt 3 7] (.seq (sr [pT 4 (.mv (ci 0))] (.block 0 (.loop (.seq (sr [mvt 8 4, mvt 9 0, zT 10 9, bT 11 .lss t8 t10] (cx t11 0)) (.seq (.block 1 (.reg [mvt 14 3, mvt 15 4, mvt 16 0, mvt 17 4, iT 18 16 17 1, lT 19 18, iT 20 14 15 1, ⟨none, none, (.f (.st t20 t19 1))⟩])) (.reg [mvt 12 4, bT 13 .add t12 (ci 1), mvt 4 13])))))) (sr [mvt 21 3, mvt 2 21] .ret))))
theorem c3H : IsF Tryz.prog 69 c69 [(.tmp 2)] := ⟨by kernel_rfl, by kernel_rfl⟩

def M6 (v0 : List Int) (k1 : Int × (List Int) → Option (List Int)) : Int × (List Int) → Option (List Int)
 | (x6, x7) => (bif (decide (x6 < (v0.length : Int))) then ((ix v0 x6).bind fun u5 => ((ix x7 x6).bind fun u6 => k1 (w64 (x6 + 1), List.set x7 x6.toNat u5)))
 else some x7)
def O7 (v0 : List Int) : Option (List Int) :=
 (need (0 ≤ (v0.length : Int) ∧ (v0.length : Int) ≤ (v0.length : Int) ∧ (v0.length : Int) ≤ 9223372036854775807 ∧ 8 * (v0.length : Int) ≤ 281474976710656) (loop (M6 v0) (0, List.replicate ((v0.length : Int)).toNat (0 : Int))))
@[simp] abbrev K8 : List (Nat × Root) := [(0, .row true 1 (([] : List Int).map vI))]
@[simp] abbrev K9 (v0 : List Int) : V := .sl 1 (v0.map vI)
@[simp] def a0H (r : List Int) : RV := .one (.one (.row true 1 (r.map vI)))
theorem a2y {v0 : List Int} {r : List Int} (hF : O7 v0 = some r) : Con Tryz.prog 69 [.sl 1 (v0.map vI)] (a0H r) := by
 unfold O7 at hF
 refine p7 c3H.1 fun N => ?_
 refine ws 0 64 (qf (.sl 0 0 0) K8 (by simp) (d9 (ws 64 320 (qr (.val none (K9 v0)) (qp (AI (v0.length : Int)) (j0 rfl) (nk hF fun g0 hF => qf (.sl 192 0 ((List.replicate ((v0.length : Int)).toNat (0 : Int)).length)) ((192, .row true 1 ((List.replicate ((v0.length : Int)).toNat (0 : Int)).map vI)) :: K8) (a1D rfl rfl g0 rfl) (qr (.sl 192 0 ((List.replicate ((v0.length : Int)).toNat (0 : Int)).length)) (d9 (i8 (ws 320 384 (qr (AI 0) (d9 (j7 ?_)))))))))))))
 refine wr (l' := [(0, .val none (K9 v0)), (3, .sl 0 0 (List.replicate ((v0.length : Int)).toNat (0 : Int)).length), (4, AI 0)]) (L := [(0, .row true 1 ((List.replicate ((v0.length : Int)).toNat (0 : Int)).map vI))]) [0, 3, 4] [(192, 0)] 1 ?_
 refine y5 (M6 v0) (fun s : Int × (List Int) => mkS [(0, .val none (K9 v0)), (3, .sl 0 0 s.2.length), (4, AI s.1)] (fo [(0, .row true 1 (s.2.map vI))]) 1) hF ?_
 rintro k1 ⟨x6, x7⟩ hF
 rw [M6] at hF
 try dsimp only
 refine i8 (ws 1 257 (qr (AI x6) (qr (.val none (K9 v0)) (qp (AI (v0.length : Int)) (j0 rfl) (qr (AB (decide (x6 < (v0.length : Int)))) (d9 ?_))))))
 refine cF hF (fun hF => ?_) fun hF => ?_
 ·
  refine g9 (f5 (i8 (j7 (y4 257 769 rfl rfl (qr (.sl 0 0 x7.length) (qr (AI x6) (qr (.val none (K9 v0)) (qr (AI x6) (bk hF fun u5 e5 hF => qp (.val none (.ptr [.int .i64 u5])) (j4 rfl rfl e5 rfl) (qr (AI u5) (bk hF fun u6 e6 hF => qp (.ptr 0 x6.toNat 0) (B1 rfl (by simp) rfl rfl e6) (qf0 (.undef) [(0, .row true 1 ((List.set x7 x6.toNat u5).map vI)), (0, .row true 1 (x7.map vI))] (D6 rfl rfl (B9 e6).2 rfl rfl (by rfl) (by first | rfl | simp [patch, reb, List.take_of_length_le]) (by rfl) rfl) (d9 (p6 (f5 ?_)))))))))))))))
  refine y4 769 961 rfl rfl (qr (AI x6) (qr (AI (w64 (x6 + 1))) (qr (AI (w64 (x6 + 1))) (d9 (f5 ?_)))))
  refine ar (l' := [(0, .val none (K9 v0)), (3, .sl 0 0 (List.set x7 x6.toNat u5).length), (4, AI (w64 (x6 + 1)))]) (L := [(0, .row true 1 ((List.set x7 x6.toNat u5).map vI))]) [0, 3, 4] [(0, 0)] 1 ⟨_, by rfl, hF⟩
 exact z8 (j5 (j5 (s9 (f5 (ws 257 385 (qr (.sl 0 0 x7.length) (qr (.sl 0 0 x7.length) (rR hF))))))))

def c27 : MC := (sr [rg 2 (.f (.nilrow 1))] (sr [mvt 5 0, zT 6 5, rg 7 (.f (.mks 1 24 (.sl 1 []) t6 t6)), mvt 3 7] (.seq (sr [pT 4 (.mv (ci 0))] (.block 0 (.loop (.seq (sr [mvt 8 4, mvt 9 0, zT 10 9, bT 11 .lss t8 t10] (cx t11 0)) (.seq (.block 1 (.reg [mvt 14 3, mvt 15 4, mvt 16 0, mvt 17 4, iT 18 16 17 1, lT 19 18, dT 20 69 [t19], iT 21 14 15 1, ⟨none, none, (.f (.st t21 t20 1))⟩])) (.reg [mvt 12 4, bT 13 .add t12 (ci 1), mvt 4 13])))))) (sr [mvt 22 3, mvt 2 22] .ret))))
theorem c6d : IsF Tryz.prog 27 c27 [(.tmp 2)] := ⟨by kernel_rfl, by kernel_rfl⟩

def J7 (v0 : List (List Int)) (k1 : Int × (List (List Int)) → Option (List (List Int))) : Int × (List (List Int)) → Option (List (List Int))
 | (x6, x7) => (bif (decide (x6 < (v0.length : Int))) then ((ix v0 x6).bind fun u7 => ((O7 u7).bind fun u8 => ((ix x7 x6).bind fun u9 => k1 (w64 (x6 + 1), List.set x7 x6.toNat u8))))
 else some x7)
def R0 (v0 : List (List Int)) : Option (List (List Int)) :=
 (need (0 ≤ (v0.length : Int) ∧ (v0.length : Int) ≤ (v0.length : Int) ∧ (v0.length : Int) ≤ 9223372036854775807 ∧ 24 * (v0.length : Int) ≤ 281474976710656) (loop (J7 v0) (0, List.replicate ((v0.length : Int)).toNat ([] : List Int))))
@[simp] abbrev K0a : List (Nat × Root) := [(0, .row true 1 (([] : List Int).map vI))]
@[simp] abbrev K0b (u8 : List Int) (x7 : List (List Int)) : List (Nat × Root) := [(641, .row true 1 (u8.map vI)), (0, .row true 1 (x7.map (eL 1 vI)))]
@[simp] abbrev K0c (v0 : List (List Int)) : V := .sl 1 (v0.map (eL 1 vI))
@[simp] def a1V (r : List (List Int)) : RV := .one (.one (.row true 1 (r.map (eL 1 vI))))
theorem a3C {v0 : List (List Int)} {r : List (List Int)} (hF : R0 v0 = some r) : Con Tryz.prog 27 [.sl 1 (v0.map (eL 1 vI))] (a1V r) := by
 unfold R0 at hF
 refine p7 c6d.1 fun N => ?_
 refine ws 0 64 (qf (.sl 0 0 0) K0a (by simp) (d9 (ws 64 320 (qr (.val none (K0c v0)) (qp (AI (v0.length : Int)) (j0 rfl) (nk hF fun g0 hF => qf (.sl 192 0 ((List.replicate ((v0.length : Int)).toNat ([] : List Int)).length)) ((192, .row true 1 ((List.replicate ((v0.length : Int)).toNat ([] : List Int)).map (eL 1 vI))) :: K0a) (a1D rfl rfl g0 rfl) (qr (.sl 192 0 ((List.replicate ((v0.length : Int)).toNat ([] : List Int)).length)) (d9 (i8 (ws 320 384 (qr (AI 0) (d9 (j7 ?_)))))))))))))
 refine wr (l' := [(0, .val none (K0c v0)), (3, .sl 0 0 (List.replicate ((v0.length : Int)).toNat ([] : List Int)).length), (4, AI 0)]) (L := [(0, .row true 1 ((List.replicate ((v0.length : Int)).toNat ([] : List Int)).map (eL 1 vI)))]) [0, 3, 4] [(192, 0)] 1 ?_
 refine y5 (J7 v0) (fun s : Int × (List (List Int)) => mkS [(0, .val none (K0c v0)), (3, .sl 0 0 s.2.length), (4, AI s.1)] (fo [(0, .row true 1 (s.2.map (eL 1 vI)))]) 1) hF ?_
 rintro k1 ⟨x6, x7⟩ hF
 rw [J7] at hF
 try dsimp only
 refine i8 (ws 1 257 (qr (AI x6) (qr (.val none (K0c v0)) (qp (AI (v0.length : Int)) (j0 rfl) (qr (AB (decide (x6 < (v0.length : Int)))) (d9 ?_))))))
 refine cF hF (fun hF => ?_) fun hF => ?_
 ·
  refine g9 (f5 (i8 (j7 (y4 257 833 rfl rfl (qr (.sl 0 0 x7.length) (qr (AI x6) (qr (.val none (K0c v0)) (qr (AI x6) (bk hF fun u7 e7 hF => qp (.val none (.ptr [.sl 1 (u7.map vI)])) (j4 rfl rfl e7 rfl) (qr (AL 1 (u7.map vI)) (bk hF fun u8 e8 hF => qc (.sl 641 0 u8.length) (K0b u8 x7) false (a2y e8) c3H.2 (by first | rfl | simp) (by simp [a0H]) (bk hF fun u9 e9 hF => qp (.ptr 0 x6.toNat 0) (B1 rfl (by simp) rfl rfl e9) (qf0 (.undef) ((0, .row true 1 ((List.set x7 x6.toNat u8).map (eL 1 vI))) :: (641, .dead) :: (K0b u8 x7)) (D6 rfl rfl (B9 e9).2 rfl rfl (by rfl) (by first | rfl | simp [patch, reb, List.take_of_length_le]) (by rfl) rfl) (d9 (p6 (f5 ?_))))))))))))))))
  refine y4 833 1025 rfl rfl (qr (AI x6) (qr (AI (w64 (x6 + 1))) (qr (AI (w64 (x6 + 1))) (d9 (f5 ?_)))))
  refine ar (l' := [(0, .val none (K0c v0)), (3, .sl 0 0 (List.set x7 x6.toNat u8).length), (4, AI (w64 (x6 + 1)))]) (L := [(0, .row true 1 ((List.set x7 x6.toNat u8).map (eL 1 vI)))]) [0, 3, 4] [(0, 0)] 1 ⟨_, by rfl, hF⟩
 exact z8 (j5 (j5 (s9 (f5 (ws 257 385 (qr (.sl 0 0 x7.length) (qr (.sl 0 0 x7.length) (rR hF))))))))

def c24 : MC := (sr [rg 1 (.f (.box t0)), rg 2 (.f (.alloc [((.str []), (0, false)), ((.sl 0 []), (1, false)), ((.sl 0 []), (1, false)), ((.int .i64 0), (0, false)), ((.int .i64 0), (0, false)), ((.sl 0 []), (1, false))]))] (sr [rg 3 (.f (.alloc [((.str []), (0, false)), ((.sl 0 []), (1, false)), ((.sl 0 []), (1, false)), ((.int .i64 0), (0, false)), ((.int .i64 0), (0, false)), ((.sl 0 []), (1, false))]))] (sr [pT 4 (.fad t1 0), lT 5 4, pT 6 (.fad t3 0), ⟨none, none, (.f (.st t6 t5 1))⟩] (sr [pT 7 (.fad t1 1), lT 8 7, dT 9 69 [t8], pT 10 (.fad t3 1), ⟨none, none, (.f (.st t10 t9 1))⟩] (sr [pT 11 (.fad t1 2), lT 12 11, dT 13 69 [t12], pT 14 (.fad t3 2), ⟨none, none, (.f (.st t14 t13 1))⟩] (sr [pT 15 (.fad t1 3), lT 16 15, pT 17 (.fad t3 3), ⟨none, none, (.f (.st t17 t16 1))⟩] (sr [pT 18 (.fad t1 4), lT 19 18, pT 20 (.fad t3 4), ⟨none, none, (.f (.st t20 t19 1))⟩] (sr [pT 21 (.fad t1 5), lT 22 21, dT 23 27 [t22], pT 24 (.fad t3 5), ⟨none, none, (.f (.st t24 t23 1))⟩] (sr [pT 25 (.ld t3 6 true), ⟨none, none, (.f (.st t2 t25 6))⟩] .ret)))))))))
theorem c8D : IsF Tryz.prog 24 c24 [(.cell (.ld (.t 2) 6 true))] := ⟨by kernel_rfl, by kernel_rfl⟩

def a1N (v0 : A8) : Option (A8) :=
 ((O7 v0.2.1).bind fun u0 => ((O7 v0.2.2.1).bind fun u1 => ((R0 v0.2.2.2.2.2).bind fun u2 => some (v0.1, u0, u1, v0.2.2.2.1, v0.2.2.2.2.1, u2))))
@[simp] abbrev K0d (v0 : A8) : List (Nat × Root) := [(0, .box [AS v0.1, AL 1 (v0.2.1.map vI), AL 1 (v0.2.2.1.map vI), AI v0.2.2.2.1, AI v0.2.2.2.2.1, AL 1 (v0.2.2.2.2.2.map (eL 1 vI))])]
@[simp] abbrev K0e (v0 : A8) : List (Nat × Root) := ((64, .box [AS [], .sl 65 0 0, .sl 66 0 0, AI 0, AI 0, .sl 67 0 0]) :: (67, .row true 1 (([] : List Int).map vI)) :: (66, .row true 1 (([] : List Int).map vI)) :: (65, .row true 1 (([] : List Int).map vI)) :: (K0d v0))
@[simp] abbrev K0f (v0 : A8) : List (Nat × Root) := ((128, .box [AS [], .sl 129 0 0, .sl 130 0 0, AI 0, AI 0, .sl 131 0 0]) :: (131, .row true 1 (([] : List Int).map vI)) :: (130, .row true 1 (([] : List Int).map vI)) :: (129, .row true 1 (([] : List Int).map vI)) :: (K0e v0))
@[simp] abbrev K0g (v0 : A8) : List (Nat × Root) := ((128, .box [AS v0.1, .sl 129 0 0, .sl 130 0 0, AI 0, AI 0, .sl 131 0 0]) :: (K0f v0))
@[simp] abbrev K0h (u0 : List Int) (v0 : A8) : List (Nat × Root) := ((576, .row true 1 (u0.map vI)) :: (K0g v0))
@[simp] abbrev K0i (v0 : A8) (u0 : List Int) : List (Nat × Root) := ((128, .box [AS v0.1, .sl 576 0 u0.length, .sl 130 0 0, AI 0, AI 0, .sl 131 0 0]) :: (K0h u0 v0))
@[simp] abbrev K0j (u1 : List Int) (v0 : A8) (u0 : List Int) : List (Nat × Root) := ((896, .row true 1 (u1.map vI)) :: (K0i v0 u0))
@[simp] abbrev K0k (v0 : A8) (u0 : List Int) (u1 : List Int) : List (Nat × Root) := ((128, .box [AS v0.1, .sl 576 0 u0.length, .sl 896 0 u1.length, AI 0, AI 0, .sl 131 0 0]) :: (K0j u1 v0 u0))
@[simp] abbrev K0l (v0 : A8) (u0 : List Int) (u1 : List Int) : List (Nat × Root) := ((128, .box [AS v0.1, .sl 576 0 u0.length, .sl 896 0 u1.length, AI v0.2.2.2.1, AI 0, .sl 131 0 0]) :: (K0k v0 u0 u1))
@[simp] abbrev K0m (v0 : A8) (u0 : List Int) (u1 : List Int) : List (Nat × Root) := ((128, .box [AS v0.1, .sl 576 0 u0.length, .sl 896 0 u1.length, AI v0.2.2.2.1, AI v0.2.2.2.2.1, .sl 131 0 0]) :: (K0l v0 u0 u1))
@[simp] abbrev K0n (u2 : List (List Int)) (v0 : A8) (u0 : List Int) (u1 : List Int) : List (Nat × Root) := ((1728, .row true 1 (u2.map (eL 1 vI))) :: (K0m v0 u0 u1))
@[simp] abbrev K0p (v0 : A8) (u0 : List Int) (u1 : List Int) (u2 : List (List Int)) : List AV := [AS v0.1, .sl 576 0 u0.length, .sl 896 0 u1.length, AI v0.2.2.2.1, AI v0.2.2.2.2.1, .sl 1728 0 u2.length]
@[simp] abbrev K0o (v0 : A8) (u0 : List Int) (u1 : List Int) (u2 : List (List Int)) : List (Nat × Root) := ((128, .box (K0p v0 u0 u1 u2)) :: (K0n u2 v0 u0 u1))
@[simp] def a4V (r : A8) : RV := .one (.agg [.val (.str r.1), .row true 1 (r.2.1.map vI), .row true 1 (r.2.2.1.map vI), .val (.int .i64 r.2.2.2.1), .val (.int .i64 r.2.2.2.2.1), .row true 1 (r.2.2.2.2.2.map (eL 1 vI))])
theorem b1X {v0 : A8} {r : A8} (hF : a1N v0 = some r) : Con Tryz.prog 24 [b3m v0] (a4V r) := by
 unfold a1N at hF
 refine p7 c8D.1 fun N => ?_
 refine ws 0 128 (qf (.ptr 0 0 0) (K0d v0) (by simp) (qf (.ptr 64 0 0) (K0e v0) (by simp) (d9 (ws 128 192 (qf (.ptr 128 0 0) (K0f v0) (by simp) (d9 (ws 192 448 (qr (.ptr 0 0 0) (qr (AS v0.1) (qr (.ptr 128 0 0) (qf0 (.undef) (K0g v0) (by simp) (d9 (ws 448 768 ?_)))))))))))))
 refine qr (.ptr 0 0 1) (qr (AL 1 (v0.2.1.map vI)) (bk hF fun u0 e0 hF => qc (.sl 576 0 u0.length) (K0h u0 v0) false (a2y e0) c3H.2 (by first | rfl | simp) (by simp [a0H]) (qr (.ptr 128 0 1) (qf0 (.undef) (K0i v0 u0) (by simp) (d9 (ws 768 1088 (qr (.ptr 0 0 2) (qr (AL 1 (v0.2.2.1.map vI)) (bk hF fun u1 e1 hF => qc (.sl 896 0 u1.length) (K0j u1 v0 u0) false (a2y e1) c3H.2 (by first | rfl | simp) (by simp [a0H]) (qr (.ptr 128 0 2) (qf0 (.undef) (K0k v0 u0 u1) (by simp) (d9 (ws 1088 1344 ?_)))))))))))))
 refine qr (.ptr 0 0 3) (qr (AI v0.2.2.2.1) (qr (.ptr 128 0 3) (qf0 (.undef) (K0l v0 u0 u1) (by simp) (d9 (ws 1344 1600 (qr (.ptr 0 0 4) (qr (AI v0.2.2.2.2.1) (qr (.ptr 128 0 4) (qf0 (.undef) (K0m v0 u0 u1) (by simp) (d9 (ws 1600 1920 (qr (.ptr 0 0 5) (qr (AL 1 (v0.2.2.2.2.2.map (eL 1 vI))) (bk hF fun u2 e2 hF => ?_))))))))))))))
 exact qc (.sl 1728 0 u2.length) (K0n u2 v0 u0 u1) false (a3C e2) c6d.2 (by first | rfl | simp) (by simp [a1V]) (qr (.ptr 128 0 5) (qf0 (.undef) (K0o v0 u0 u1 u2) (by simp) (d9 (ws 1920 2048 (qr (.agg (K0p v0 u0 u1 u2)) (qf0 (.undef) ((64, .box (K0p v0 u0 u1 u2)) :: (K0o v0 u0 u1 u2)) (by simp) (rR hF)))))))

def c70 : MC := (sr [rg 1 (.f (.box t0)), rg 2 (.f (.alloc [((.int .i64 0), (0, false)), ((.int .i64 0), (0, false))]))] (sr [rg 3 (.f (.alloc [((.int .i64 0), (0, false)), ((.int .i64 0), (0, false))]))] (sr [pT 4 (.fad t1 0), lT 5 4, pT 6 (.fad t3 0), ⟨none, none, (.f (.st t6 t5 1))⟩] (sr [pT 7 (.fad t1 1), lT 8 7, pT 9 (.fad t3 1), ⟨none, none, (.f (.st t9 t8 1))⟩] (sr [pT 10 (.ld t3 2 true), ⟨none, none, (.f (.st t2 t10 2))⟩] .ret)))))
theorem c7v : IsF Tryz.prog 70 c70 [(.cell (.ld (.t 2) 2 true))] := ⟨by kernel_rfl, by kernel_rfl⟩

def a1M (v0 : j6) : Option (j6) :=
 some v0
@[simp] abbrev K0q (v0 : j6) : List (Nat × Root) := [(64, .box [AI 0, AI 0]), (0, .box [AI v0.1, AI v0.2])]
@[simp] abbrev K0s (v0 : j6) : List (Nat × Root) := ((128, .box [AI v0.1, AI 0]) :: (128, .box [AI 0, AI 0]) :: (K0q v0))
@[simp] abbrev K0t (v0 : j6) : List (Nat × Root) := ((128, .box [AI v0.1, AI v0.2]) :: (K0s v0))
@[simp] def b1G (r : j6) : RV := .one (.one (.val (j3 r)))
theorem b1N {v0 : j6} {r : j6} (hF : a1M v0 = some r) : Con Tryz.prog 70 [j3 v0] (b1G r) := by
 unfold a1M at hF
 refine p7 c7v.1 fun N => ?_
 refine ws 0 128 (qf (.ptr 0 0 0) [(0, .box [AI v0.1, AI v0.2])] (by simp) (qf (.ptr 64 0 0) (K0q v0) (by simp) (d9 (ws 128 192 (qf (.ptr 128 0 0) ((128, .box [AI 0, AI 0]) :: (K0q v0)) (by simp) (d9 (ws 192 448 (qr (.ptr 0 0 0) (qr (AI v0.1) (qr (.ptr 128 0 0) (qf0 (.undef) (K0s v0) (by simp) (d9 (ws 448 704 ?_)))))))))))))
 exact qr (.ptr 0 0 1) (qr (AI v0.2) (qr (.ptr 128 0 1) (qf0 (.undef) (K0t v0) (by simp) (d9 (ws 704 832 (qr (.agg [AI v0.1, AI v0.2]) (qf0 (.undef) ((64, .box [AI v0.1, AI v0.2]) :: (K0t v0)) (by simp) (rR hF))))))))

def c25 : MC := (sr [rg 2 (.f (.nilrow 2))] (sr [mvt 5 0, zT 6 5, rg 7 (.f (.mks 2 16 (.agg [(.int .i64 0), (.int .i64 0)]) t6 t6)), mvt 3 7] (.seq (sr [pT 4 (.mv (ci 0))] (.block 0 (.loop (.seq (sr [mvt 8 4, mvt 9 0, zT 10 9, bT 11 .lss t8 t10] (cx t11 0)) (.seq (.block 1 (.reg [mvt 14 3, mvt 15 4, mvt 16 0, mvt 17 4, iT 18 16 17 2, pT 19 (.ld t18 2 true), dT 20 70 [t19], iT 21 14 15 2, ⟨none, none, (.f (.st t21 t20 2))⟩])) (.reg [mvt 12 4, bT 13 .add t12 (ci 1), mvt 4 13])))))) (sr [mvt 22 3, mvt 2 22] .ret))))
theorem c7U : IsF Tryz.prog 25 c25 [(.tmp 2)] := ⟨by kernel_rfl, by kernel_rfl⟩

def N7 (v0 : List j6) (k1 : Int × (List j6) → Option (List j6)) : Int × (List j6) → Option (List j6)
 | (x6, x7) => (bif (decide (x6 < (v0.length : Int))) then ((ix v0 x6).bind fun u7 => ((a1M u7).bind fun u8 => ((ix x7 x6).bind fun u9 => k1 (w64 (x6 + 1), List.set x7 x6.toNat u8))))
 else some x7)
def a0X (v0 : List j6) : Option (List j6) :=
 (need (0 ≤ (v0.length : Int) ∧ (v0.length : Int) ≤ (v0.length : Int) ∧ (v0.length : Int) ≤ 9223372036854775807 ∧ 16 * (v0.length : Int) ≤ 281474976710656) (loop (N7 v0) (0, List.replicate ((v0.length : Int)).toNat ((0, 0) : j6))))
@[simp] abbrev K0u : List (Nat × Root) := [(0, .row true 2 (([] : List Int).map vI))]
@[simp] def a4o (r : List j6) : RV := .one (.one (.row true 2 (r.map j3)))
theorem b0C {v0 : List j6} {r : List j6} (hF : a0X v0 = some r) : Con Tryz.prog 25 [.sl 2 (v0.map j3)] (a4o r) := by
 unfold a0X at hF
 refine p7 c7U.1 fun N => ?_
 refine ws 0 64 (qf (.sl 0 0 0) K0u (by simp) (d9 (ws 64 320 (qr (AL 2 (v0.map j3)) (qp (AI (v0.length : Int)) (j0 rfl) (nk hF fun g0 hF => qf (.sl 192 0 ((List.replicate ((v0.length : Int)).toNat ((0, 0) : j6)).length)) ((192, .row true 2 ((List.replicate ((v0.length : Int)).toNat ((0, 0) : j6)).map j3)) :: K0u) (a1D rfl rfl g0 rfl) (qr (.sl 192 0 ((List.replicate ((v0.length : Int)).toNat ((0, 0) : j6)).length)) (d9 (i8 (ws 320 384 (qr (AI 0) (d9 (j7 ?_)))))))))))))
 refine wr (l' := [(0, AL 2 (v0.map j3)), (3, .sl 0 0 (List.replicate ((v0.length : Int)).toNat ((0, 0) : j6)).length), (4, AI 0)]) (L := [(0, .row true 2 ((List.replicate ((v0.length : Int)).toNat ((0, 0) : j6)).map j3))]) [0, 3, 4] [(192, 0)] 1 ?_
 refine y5 (N7 v0) (fun s : Int × (List j6) => mkS [(0, AL 2 (v0.map j3)), (3, .sl 0 0 s.2.length), (4, AI s.1)] (fo [(0, .row true 2 (s.2.map j3))]) 1) hF ?_
 rintro k1 ⟨x6, x7⟩ hF
 rw [N7] at hF
 try dsimp only
 refine i8 (ws 1 257 (qr (AI x6) (qr (AL 2 (v0.map j3)) (qp (AI (v0.length : Int)) (j0 rfl) (qr (AB (decide (x6 < (v0.length : Int)))) (d9 ?_))))))
 refine cF hF (fun hF => ?_) fun hF => ?_
 ·
  refine g9 (f5 (i8 (j7 (y4 257 833 rfl rfl (qr (.sl 0 0 x7.length) (qr (AI x6) (qr (AL 2 (v0.map j3)) (qr (AI x6) (bk hF fun u7 e7 hF => qp (.val none (.ptr [.int .i64 u7.1, .int .i64 u7.2])) (j4 rfl rfl e7 rfl) (qr (.val none (j3 u7)) (bk hF fun u8 e8 hF => qC (.val none (j3 u8)) [(0, .row true 2 (x7.map j3))] (b1N e8) c7v (bk hF fun u9 e9 hF => qp (.ptr 0 x6.toNat 0) (B1 rfl (by simp) rfl rfl e9) (qf0 (.undef) [(0, .row true 2 ((List.set x7 x6.toNat u8).map j3)), (0, .row true 2 (x7.map j3))] (D6 rfl rfl (B9 e9).2 rfl rfl (by rfl) (by first | rfl | simp [patch, reb, List.take_of_length_le]) (by rfl) rfl) (d9 (p6 (f5 ?_))))))))))))))))
  refine y4 833 1025 rfl rfl (qr (AI x6) (qr (AI (w64 (x6 + 1))) (qr (AI (w64 (x6 + 1))) (d9 (f5 ?_)))))
  refine ar (l' := [(0, AL 2 (v0.map j3)), (3, .sl 0 0 (List.set x7 x6.toNat u8).length), (4, AI (w64 (x6 + 1)))]) (L := [(0, .row true 2 ((List.set x7 x6.toNat u8).map j3))]) [0, 3, 4] [(0, 0)] 1 ⟨_, by rfl, hF⟩
 exact z8 (j5 (j5 (s9 (f5 (ws 257 385 (qr (.sl 0 0 x7.length) (qr (.sl 0 0 x7.length) (rR hF))))))))

def c9J : MC := (sr [rg 1 (.f (.box t0)), rg 2 (.f (.alloc [((.int .i64 0), (0, false)), ((.int .i64 0), (0, false))]))] (sr [rg 3 (.f (.alloc [((.int .i64 0), (0, false)), ((.int .i64 0), (0, false))]))] (sr [pT 4 (.fad t1 0), lT 5 4, pT 6 (.fad t3 0), ⟨none, none, (.f (.st t6 t5 1))⟩] (sr [pT 7 (.fad t1 1), lT 8 7, pT 9 (.fad t3 1), ⟨none, none, (.f (.st t9 t8 1))⟩] (sr [pT 10 (.ld t3 2 true), ⟨none, none, (.f (.st t2 t10 2))⟩] .ret)))))
theorem c5c : IsF Tryz.prog 117 c9J [(.cell (.ld (.t 2) 2 true))] := ⟨by kernel_rfl, by kernel_rfl⟩

def a0Q (v0 : j6) : Option (j6) :=
 some v0
@[simp] abbrev K0v (v0 : j6) : List (Nat × Root) := [(64, .box [AI 0, AI 0]), (0, .box [AI v0.1, AI v0.2])]
@[simp] abbrev K0x (v0 : j6) : List (Nat × Root) := ((128, .box [AI v0.1, AI 0]) :: (128, .box [AI 0, AI 0]) :: (K0v v0))
@[simp] abbrev K0y (v0 : j6) : List (Nat × Root) := ((128, .box [AI v0.1, AI v0.2]) :: (K0x v0))
@[simp] def b0w (r : j6) : RV := .one (.one (.val (j3 r)))
theorem b0F {v0 : j6} {r : j6} (hF : a0Q v0 = some r) : Con Tryz.prog 117 [j3 v0] (b0w r) := by
 unfold a0Q at hF
 refine p7 c5c.1 fun N => ?_
 refine ws 0 128 (qf (.ptr 0 0 0) [(0, .box [AI v0.1, AI v0.2])] (by simp) (qf (.ptr 64 0 0) (K0v v0) (by simp) (d9 (ws 128 192 (qf (.ptr 128 0 0) ((128, .box [AI 0, AI 0]) :: (K0v v0)) (by simp) (d9 (ws 192 448 (qr (.ptr 0 0 0) (qr (AI v0.1) (qr (.ptr 128 0 0) (qf0 (.undef) (K0x v0) (by simp) (d9 (ws 448 704 ?_)))))))))))))
 exact qr (.ptr 0 0 1) (qr (AI v0.2) (qr (.ptr 128 0 1) (qf0 (.undef) (K0y v0) (by simp) (d9 (ws 704 832 (qr (.agg [AI v0.1, AI v0.2]) (qf0 (.undef) ((64, .box [AI v0.1, AI v0.2]) :: (K0y v0)) (by simp) (rR hF))))))))

def c71 : MC := (sr [rg 2 (.f (.nilrow 2))] (sr [mvt 5 0, zT 6 5, rg 7 (.f (.mks 2 16 (.agg [(.int .i64 0), (.int .i64 0)]) t6 t6)), mvt 3 7] (.seq (sr [pT 4 (.mv (ci 0))] (.block 0 (.loop (.seq (sr [mvt 8 4, mvt 9 0, zT 10 9, bT 11 .lss t8 t10] (cx t11 0)) (.seq (.block 1 (.reg [mvt 14 3, mvt 15 4, mvt 16 0, mvt 17 4, iT 18 16 17 2, pT 19 (.ld t18 2 true), dT 20 117 [t19], iT 21 14 15 2, ⟨none, none, (.f (.st t21 t20 2))⟩])) (.reg [mvt 12 4, bT 13 .add t12 (ci 1), mvt 4 13])))))) (sr [mvt 22 3, mvt 2 22] .ret))))
theorem c8H : IsF Tryz.prog 71 c71 [(.tmp 2)] := ⟨by kernel_rfl, by kernel_rfl⟩

def M5 (v0 : List j6) (k1 : Int × (List j6) → Option (List j6)) : Int × (List j6) → Option (List j6)
 | (x6, x7) => (bif (decide (x6 < (v0.length : Int))) then ((ix v0 x6).bind fun u7 => ((a0Q u7).bind fun u8 => ((ix x7 x6).bind fun u9 => k1 (w64 (x6 + 1), List.set x7 x6.toNat u8))))
 else some x7)
def a0p (v0 : List j6) : Option (List j6) :=
 (need (0 ≤ (v0.length : Int) ∧ (v0.length : Int) ≤ (v0.length : Int) ∧ (v0.length : Int) ≤ 9223372036854775807 ∧ 16 * (v0.length : Int) ≤ 281474976710656) (loop (M5 v0) (0, List.replicate ((v0.length : Int)).toNat ((0, 0) : j6))))
@[simp] abbrev K0z : List (Nat × Root) := [(0, .row true 2 (([] : List Int).map vI))]
@[simp] def a3R (r : List j6) : RV := .one (.one (.row true 2 (r.map j3)))
theorem a9c {v0 : List j6} {r : List j6} (hF : a0p v0 = some r) : Con Tryz.prog 71 [.sl 2 (v0.map j3)] (a3R r) := by
 unfold a0p at hF
 refine p7 c8H.1 fun N => ?_
 refine ws 0 64 (qf (.sl 0 0 0) K0z (by simp) (d9 (ws 64 320 (qr (AL 2 (v0.map j3)) (qp (AI (v0.length : Int)) (j0 rfl) (nk hF fun g0 hF => qf (.sl 192 0 ((List.replicate ((v0.length : Int)).toNat ((0, 0) : j6)).length)) ((192, .row true 2 ((List.replicate ((v0.length : Int)).toNat ((0, 0) : j6)).map j3)) :: K0z) (a1D rfl rfl g0 rfl) (qr (.sl 192 0 ((List.replicate ((v0.length : Int)).toNat ((0, 0) : j6)).length)) (d9 (i8 (ws 320 384 (qr (AI 0) (d9 (j7 ?_)))))))))))))
 refine wr (l' := [(0, AL 2 (v0.map j3)), (3, .sl 0 0 (List.replicate ((v0.length : Int)).toNat ((0, 0) : j6)).length), (4, AI 0)]) (L := [(0, .row true 2 ((List.replicate ((v0.length : Int)).toNat ((0, 0) : j6)).map j3))]) [0, 3, 4] [(192, 0)] 1 ?_
 refine y5 (M5 v0) (fun s : Int × (List j6) => mkS [(0, AL 2 (v0.map j3)), (3, .sl 0 0 s.2.length), (4, AI s.1)] (fo [(0, .row true 2 (s.2.map j3))]) 1) hF ?_
 rintro k1 ⟨x6, x7⟩ hF
 rw [M5] at hF
 try dsimp only
 refine i8 (ws 1 257 (qr (AI x6) (qr (AL 2 (v0.map j3)) (qp (AI (v0.length : Int)) (j0 rfl) (qr (AB (decide (x6 < (v0.length : Int)))) (d9 ?_))))))
 refine cF hF (fun hF => ?_) fun hF => ?_
 ·
  refine g9 (f5 (i8 (j7 (y4 257 833 rfl rfl (qr (.sl 0 0 x7.length) (qr (AI x6) (qr (AL 2 (v0.map j3)) (qr (AI x6) (bk hF fun u7 e7 hF => qp (.val none (.ptr [.int .i64 u7.1, .int .i64 u7.2])) (j4 rfl rfl e7 rfl) (qr (.val none (j3 u7)) (bk hF fun u8 e8 hF => qC (.val none (j3 u8)) [(0, .row true 2 (x7.map j3))] (b0F e8) c5c (bk hF fun u9 e9 hF => qp (.ptr 0 x6.toNat 0) (B1 rfl (by simp) rfl rfl e9) (qf0 (.undef) [(0, .row true 2 ((List.set x7 x6.toNat u8).map j3)), (0, .row true 2 (x7.map j3))] (D6 rfl rfl (B9 e9).2 rfl rfl (by rfl) (by first | rfl | simp [patch, reb, List.take_of_length_le]) (by rfl) rfl) (d9 (p6 (f5 ?_))))))))))))))))
  refine y4 833 1025 rfl rfl (qr (AI x6) (qr (AI (w64 (x6 + 1))) (qr (AI (w64 (x6 + 1))) (d9 (f5 ?_)))))
  refine ar (l' := [(0, AL 2 (v0.map j3)), (3, .sl 0 0 (List.set x7 x6.toNat u8).length), (4, AI (w64 (x6 + 1)))]) (L := [(0, .row true 2 ((List.set x7 x6.toNat u8).map j3))]) [0, 3, 4] [(0, 0)] 1 ⟨_, by rfl, hF⟩
 exact z8 (j5 (j5 (s9 (f5 (ws 257 385 (qr (.sl 0 0 x7.length) (qr (.sl 0 0 x7.length) (rR hF))))))))

def c26 : MC := (sr [rg 1 (.f (.box t0)), rg 2 (.f (.alloc [((.str []), (0, false)), ((.sl 0 []), (2, false))]))] (sr [rg 3 (.f (.alloc [((.str []), (0, false)), ((.sl 0 []), (2, false))]))] (sr [pT 4 (.fad t1 0), lT 5 4, pT 6 (.fad t3 0), ⟨none, none, (.f (.st t6 t5 1))⟩] (sr [pT 7 (.fad t1 1), lT 8 7, dT 9 71 [t8], pT 10 (.fad t3 1), ⟨none, none, (.f (.st t10 t9 1))⟩] (sr [pT 11 (.ld t3 2 true), ⟨none, none, (.f (.st t2 t11 2))⟩] .ret)))))
theorem c7o : IsF Tryz.prog 26 c26 [(.cell (.ld (.t 2) 2 true))] := ⟨by kernel_rfl, by kernel_rfl⟩

def a0m (v0 : z7) : Option (z7) :=
 ((a0p v0.2).bind fun u0 => some (v0.1, u0))
@[simp] abbrev K10 (v0 : z7) : List (Nat × Root) := [(0, .box [AS v0.1, AL 2 (v0.2.map j3)])]
@[simp] abbrev K11 (v0 : z7) : List (Nat × Root) := ((64, .box [AS [], .sl 65 0 0]) :: (65, .row true 2 (([] : List Int).map vI)) :: (K10 v0))
@[simp] abbrev K12 (v0 : z7) : List (Nat × Root) := ((128, .box [AS [], .sl 129 0 0]) :: (129, .row true 2 (([] : List Int).map vI)) :: (K11 v0))
@[simp] abbrev K13 (v0 : z7) : List (Nat × Root) := ((128, .box [AS v0.1, .sl 129 0 0]) :: (K12 v0))
@[simp] abbrev K14 (u0 : List j6) (v0 : z7) : List (Nat × Root) := ((576, .row true 2 (u0.map j3)) :: (K13 v0))
@[simp] abbrev K15 (v0 : z7) (u0 : List j6) : List (Nat × Root) := ((128, .box [AS v0.1, .sl 576 0 u0.length]) :: (K14 u0 v0))
@[simp] def a3N (r : z7) : RV := .one (.agg [.val (.str r.1), .row true 2 (r.2.map j3)])
theorem a8q {v0 : z7} {r : z7} (hF : a0m v0 = some r) : Con Tryz.prog 26 [a6v v0] (a3N r) := by
 unfold a0m at hF
 refine p7 c7o.1 fun N => ?_
 refine ws 0 128 (qf (.ptr 0 0 0) (K10 v0) (by simp) (qf (.ptr 64 0 0) (K11 v0) (by simp) (d9 (ws 128 192 (qf (.ptr 128 0 0) (K12 v0) (by simp) (d9 (ws 192 448 (qr (.ptr 0 0 0) (qr (AS v0.1) (qr (.ptr 128 0 0) (qf0 (.undef) (K13 v0) (by simp) (d9 (ws 448 768 ?_)))))))))))))
 exact qr (.ptr 0 0 1) (qr (AL 2 (v0.2.map j3)) (bk hF fun u0 e0 hF => qc (.sl 576 0 u0.length) (K14 u0 v0) false (a9c e0) c8H.2 (by first | rfl | simp) (by simp [a3R]) (qr (.ptr 128 0 1) (qf0 (.undef) (K15 v0 u0) (by simp) (d9 (ws 768 896 (qr (.agg [AS v0.1, .sl 576 0 u0.length]) (qf0 (.undef) ((64, .box [AS v0.1, .sl 576 0 u0.length]) :: (K15 v0 u0)) (by simp) (rR hF)))))))))

def c72 : MC := (sr [rg 1 (.f (.box t0)), rg 2 (.f (.alloc [((.str []), (0, false)), ((.int .i64 0), (0, false)), ((.int .i64 0), (0, false))]))] (sr [rg 3 (.f (.alloc [((.str []), (0, false)), ((.int .i64 0), (0, false)), ((.int .i64 0), (0, false))]))] (sr [pT 4 (.fad t1 0), lT 5 4, pT 6 (.fad t3 0), ⟨none, none, (.f (.st t6 t5 1))⟩] (sr [pT 7 (.fad t1 1), lT 8 7, pT 9 (.fad t3 1), ⟨none, none, (.f (.st t9 t8 1))⟩] (sr [pT 10 (.fad t1 2), lT 11 10, pT 12 (.fad t3 2), ⟨none, none, (.f (.st t12 t11 1))⟩] (sr [pT 13 (.ld t3 3 true), ⟨none, none, (.f (.st t2 t13 3))⟩] .ret))))))
theorem c7z : IsF Tryz.prog 72 c72 [(.cell (.ld (.t 2) 3 true))] := ⟨by kernel_rfl, by kernel_rfl⟩

def V3 (v0 : m9) : Option (m9) :=
 some v0
@[simp] abbrev K16 (v0 : m9) : List (Nat × Root) := [(64, .box [AS [], AI 0, AI 0]), (0, .box [AS v0.1, AI v0.2.1, AI v0.2.2])]
@[simp] abbrev K17 (v0 : m9) : List (Nat × Root) := ((128, .box [AS [], AI 0, AI 0]) :: (K16 v0))
@[simp] abbrev K18 (v0 : m9) : List (Nat × Root) := ((128, .box [AS v0.1, AI 0, AI 0]) :: (K17 v0))
@[simp] abbrev K19 (v0 : m9) : List (Nat × Root) := ((128, .box [AS v0.1, AI v0.2.1, AI 0]) :: (K18 v0))
@[simp] abbrev K1a (v0 : m9) : List (Nat × Root) := ((128, .box [AS v0.1, AI v0.2.1, AI v0.2.2]) :: (K19 v0))
@[simp] def a6N (r : m9) : RV := .one (.one (.val (p3 r)))
theorem a6K {v0 : m9} {r : m9} (hF : V3 v0 = some r) : Con Tryz.prog 72 [p3 v0] (a6N r) := by
 unfold V3 at hF
 refine p7 c7z.1 fun N => ?_
 refine ws 0 128 (qf (.ptr 0 0 0) [(0, .box [AS v0.1, AI v0.2.1, AI v0.2.2])] (by simp) (qf (.ptr 64 0 0) (K16 v0) (by simp) (d9 (ws 128 192 (qf (.ptr 128 0 0) (K17 v0) (by simp) (d9 (ws 192 448 (qr (.ptr 0 0 0) (qr (AS v0.1) (qr (.ptr 128 0 0) (qf0 (.undef) (K18 v0) (by simp) (d9 (ws 448 704 ?_)))))))))))))
 exact qr (.ptr 0 0 1) (qr (AI v0.2.1) (qr (.ptr 128 0 1) (qf0 (.undef) (K19 v0) (by simp) (d9 (ws 704 960 (qr (.ptr 0 0 2) (qr (AI v0.2.2) (qr (.ptr 128 0 2) (qf0 (.undef) (K1a v0) (by simp) (d9 (ws 960 1088 (qr (.agg [AS v0.1, AI v0.2.1, AI v0.2.2]) (qf0 (.undef) ((64, .box [AS v0.1, AI v0.2.1, AI v0.2.2]) :: (K1a v0)) (by simp) (rR hF))))))))))))))

def c28 : MC := (sr [rg 2 (.f (.nilrow 3))] (sr [mvt 5 0, zT 6 5, rg 7 (.f (.mks 3 32 (.agg [(.str []), (.int .i64 0), (.int .i64 0)]) t6 t6)), mvt 3 7] (.seq (sr [pT 4 (.mv (ci 0))] (.block 0 (.loop (.seq (sr [mvt 8 4, mvt 9 0, zT 10 9, bT 11 .lss t8 t10] (cx t11 0)) (.seq (.block 1 (.reg [mvt 14 3, mvt 15 4, mvt 16 0, mvt 17 4, iT 18 16 17 3, pT 19 (.ld t18 3 true), dT 20 72 [t19], iT 21 14 15 3, ⟨none, none, (.f (.st t21 t20 3))⟩])) (.reg [mvt 12 4, bT 13 .add t12 (ci 1), mvt 4 13])))))) (sr [mvt 22 3, mvt 2 22] .ret))))
theorem c7u : IsF Tryz.prog 28 c28 [(.tmp 2)] := ⟨by kernel_rfl, by kernel_rfl⟩

def G5 (v0 : List m9) (k1 : Int × (List m9) → Option (List m9)) : Int × (List m9) → Option (List m9)
 | (x6, x7) => (bif (decide (x6 < (v0.length : Int))) then ((ix v0 x6).bind fun u7 => ((V3 u7).bind fun u8 => ((ix x7 x6).bind fun u9 => k1 (w64 (x6 + 1), List.set x7 x6.toNat u8))))
 else some x7)
def R9 (v0 : List m9) : Option (List m9) :=
 (need (0 ≤ (v0.length : Int) ∧ (v0.length : Int) ≤ (v0.length : Int) ∧ (v0.length : Int) ≤ 9223372036854775807 ∧ 32 * (v0.length : Int) ≤ 281474976710656) (loop (G5 v0) (0, List.replicate ((v0.length : Int)).toNat (([], 0, 0) : m9))))
@[simp] abbrev K1b : List (Nat × Root) := [(0, .row true 3 (([] : List Int).map vI))]
@[simp] def a2Z (r : List m9) : RV := .one (.one (.row true 3 (r.map p3)))
theorem a6d {v0 : List m9} {r : List m9} (hF : R9 v0 = some r) : Con Tryz.prog 28 [.sl 3 (v0.map p3)] (a2Z r) := by
 unfold R9 at hF
 refine p7 c7u.1 fun N => ?_
 refine ws 0 64 (qf (.sl 0 0 0) K1b (by simp) (d9 (ws 64 320 (qr (AL 3 (v0.map p3)) (qp (AI (v0.length : Int)) (j0 rfl) (nk hF fun g0 hF => qf (.sl 192 0 ((List.replicate ((v0.length : Int)).toNat (([], 0, 0) : m9)).length)) ((192, .row true 3 ((List.replicate ((v0.length : Int)).toNat (([], 0, 0) : m9)).map p3)) :: K1b) (a1D rfl rfl g0 rfl) (qr (.sl 192 0 ((List.replicate ((v0.length : Int)).toNat (([], 0, 0) : m9)).length)) (d9 (i8 (ws 320 384 (qr (AI 0) (d9 (j7 ?_)))))))))))))
 refine wr (l' := [(0, AL 3 (v0.map p3)), (3, .sl 0 0 (List.replicate ((v0.length : Int)).toNat (([], 0, 0) : m9)).length), (4, AI 0)]) (L := [(0, .row true 3 ((List.replicate ((v0.length : Int)).toNat (([], 0, 0) : m9)).map p3))]) [0, 3, 4] [(192, 0)] 1 ?_
 refine y5 (G5 v0) (fun s : Int × (List m9) => mkS [(0, AL 3 (v0.map p3)), (3, .sl 0 0 s.2.length), (4, AI s.1)] (fo [(0, .row true 3 (s.2.map p3))]) 1) hF ?_
 rintro k1 ⟨x6, x7⟩ hF
 rw [G5] at hF
 try dsimp only
 refine i8 (ws 1 257 (qr (AI x6) (qr (AL 3 (v0.map p3)) (qp (AI (v0.length : Int)) (j0 rfl) (qr (AB (decide (x6 < (v0.length : Int)))) (d9 ?_))))))
 refine cF hF (fun hF => ?_) fun hF => ?_
 ·
  refine g9 (f5 (i8 (j7 (y4 257 833 rfl rfl (qr (.sl 0 0 x7.length) (qr (AI x6) (qr (AL 3 (v0.map p3)) (qr (AI x6) (bk hF fun u7 e7 hF => qp (.val none (.ptr [.str u7.1, .int .i64 u7.2.1, .int .i64 u7.2.2])) (j4 rfl rfl e7 rfl) (qr (.val none (p3 u7)) (bk hF fun u8 e8 hF => qC (.val none (p3 u8)) [(0, .row true 3 (x7.map p3))] (a6K e8) c7z (bk hF fun u9 e9 hF => qp (.ptr 0 x6.toNat 0) (B1 rfl (by simp) rfl rfl e9) (qf0 (.undef) [(0, .row true 3 ((List.set x7 x6.toNat u8).map p3)), (0, .row true 3 (x7.map p3))] (D6 rfl rfl (B9 e9).2 rfl rfl (by rfl) (by first | rfl | simp [patch, reb, List.take_of_length_le]) (by rfl) rfl) (d9 (p6 (f5 ?_))))))))))))))))
  refine y4 833 1025 rfl rfl (qr (AI x6) (qr (AI (w64 (x6 + 1))) (qr (AI (w64 (x6 + 1))) (d9 (f5 ?_)))))
  refine ar (l' := [(0, AL 3 (v0.map p3)), (3, .sl 0 0 (List.set x7 x6.toNat u8).length), (4, AI (w64 (x6 + 1)))]) (L := [(0, .row true 3 ((List.set x7 x6.toNat u8).map p3))]) [0, 3, 4] [(0, 0)] 1 ⟨_, by rfl, hF⟩
 exact z8 (j5 (j5 (s9 (f5 (ws 257 385 (qr (.sl 0 0 x7.length) (qr (.sl 0 0 x7.length) (rR hF))))))))

def c73 : MC := (sr [rg 1 (.f (.box t0)), rg 2 (.f (.alloc [((.int .i64 0), (0, false)), ((.int .i64 0), (0, false))]))] (sr [rg 3 (.f (.alloc [((.int .i64 0), (0, false)), ((.int .i64 0), (0, false))]))] (sr [pT 4 (.fad t1 0), lT 5 4, pT 6 (.fad t3 0), ⟨none, none, (.f (.st t6 t5 1))⟩] (sr [pT 7 (.fad t1 1), lT 8 7, pT 9 (.fad t3 1), ⟨none, none, (.f (.st t9 t8 1))⟩] (sr [pT 10 (.ld t3 2 true), ⟨none, none, (.f (.st t2 t10 2))⟩] .ret)))))
theorem c7J : IsF Tryz.prog 73 c73 [(.cell (.ld (.t 2) 2 true))] := ⟨by kernel_rfl, by kernel_rfl⟩

def S7 (v0 : j6) : Option (j6) :=
 some v0
@[simp] abbrev K1c (v0 : j6) : List (Nat × Root) := [(64, .box [AI 0, AI 0]), (0, .box [AI v0.1, AI v0.2])]
@[simp] abbrev K1e (v0 : j6) : List (Nat × Root) := ((128, .box [AI v0.1, AI 0]) :: (128, .box [AI 0, AI 0]) :: (K1c v0))
@[simp] abbrev K1f (v0 : j6) : List (Nat × Root) := ((128, .box [AI v0.1, AI v0.2]) :: (K1e v0))
@[simp] def a6s (r : j6) : RV := .one (.one (.val (j3 r)))
theorem a5M {v0 : j6} {r : j6} (hF : S7 v0 = some r) : Con Tryz.prog 73 [j3 v0] (a6s r) := by
 unfold S7 at hF
 refine p7 c7J.1 fun N => ?_
 refine ws 0 128 (qf (.ptr 0 0 0) [(0, .box [AI v0.1, AI v0.2])] (by simp) (qf (.ptr 64 0 0) (K1c v0) (by simp) (d9 (ws 128 192 (qf (.ptr 128 0 0) ((128, .box [AI 0, AI 0]) :: (K1c v0)) (by simp) (d9 (ws 192 448 (qr (.ptr 0 0 0) (qr (AI v0.1) (qr (.ptr 128 0 0) (qf0 (.undef) (K1e v0) (by simp) (d9 (ws 448 704 ?_)))))))))))))
 exact qr (.ptr 0 0 1) (qr (AI v0.2) (qr (.ptr 128 0 1) (qf0 (.undef) (K1f v0) (by simp) (d9 (ws 704 832 (qr (.agg [AI v0.1, AI v0.2]) (qf0 (.undef) ((64, .box [AI v0.1, AI v0.2]) :: (K1f v0)) (by simp) (rR hF))))))))

def c29 : MC := (sr [rg 2 (.f (.nilrow 2))] (sr [mvt 5 0, zT 6 5, rg 7 (.f (.mks 2 16 (.agg [(.int .i64 0), (.int .i64 0)]) t6 t6)), mvt 3 7] (.seq (sr [pT 4 (.mv (ci 0))] (.block 0 (.loop (.seq (sr [mvt 8 4, mvt 9 0, zT 10 9, bT 11 .lss t8 t10] (cx t11 0)) (.seq (.block 1 (.reg [mvt 14 3, mvt 15 4, mvt 16 0, mvt 17 4, iT 18 16 17 2, pT 19 (.ld t18 2 true), dT 20 73 [t19], iT 21 14 15 2, ⟨none, none, (.f (.st t21 t20 2))⟩])) (.reg [mvt 12 4, bT 13 .add t12 (ci 1), mvt 4 13])))))) (sr [mvt 22 3, mvt 2 22] .ret))))
theorem c7r : IsF Tryz.prog 29 c29 [(.tmp 2)] := ⟨by kernel_rfl, by kernel_rfl⟩

def F8 (v0 : List j6) (k1 : Int × (List j6) → Option (List j6)) : Int × (List j6) → Option (List j6)
 | (x6, x7) => (bif (decide (x6 < (v0.length : Int))) then ((ix v0 x6).bind fun u7 => ((S7 u7).bind fun u8 => ((ix x7 x6).bind fun u9 => k1 (w64 (x6 + 1), List.set x7 x6.toNat u8))))
 else some x7)
def P9 (v0 : List j6) : Option (List j6) :=
 (need (0 ≤ (v0.length : Int) ∧ (v0.length : Int) ≤ (v0.length : Int) ∧ (v0.length : Int) ≤ 9223372036854775807 ∧ 16 * (v0.length : Int) ≤ 281474976710656) (loop (F8 v0) (0, List.replicate ((v0.length : Int)).toNat ((0, 0) : j6))))
@[simp] abbrev K1g : List (Nat × Root) := [(0, .row true 2 (([] : List Int).map vI))]
@[simp] def a2F (r : List j6) : RV := .one (.one (.row true 2 (r.map j3)))
theorem a5p {v0 : List j6} {r : List j6} (hF : P9 v0 = some r) : Con Tryz.prog 29 [.sl 2 (v0.map j3)] (a2F r) := by
 unfold P9 at hF
 refine p7 c7r.1 fun N => ?_
 refine ws 0 64 (qf (.sl 0 0 0) K1g (by simp) (d9 (ws 64 320 (qr (AL 2 (v0.map j3)) (qp (AI (v0.length : Int)) (j0 rfl) (nk hF fun g0 hF => qf (.sl 192 0 ((List.replicate ((v0.length : Int)).toNat ((0, 0) : j6)).length)) ((192, .row true 2 ((List.replicate ((v0.length : Int)).toNat ((0, 0) : j6)).map j3)) :: K1g) (a1D rfl rfl g0 rfl) (qr (.sl 192 0 ((List.replicate ((v0.length : Int)).toNat ((0, 0) : j6)).length)) (d9 (i8 (ws 320 384 (qr (AI 0) (d9 (j7 ?_)))))))))))))
 refine wr (l' := [(0, AL 2 (v0.map j3)), (3, .sl 0 0 (List.replicate ((v0.length : Int)).toNat ((0, 0) : j6)).length), (4, AI 0)]) (L := [(0, .row true 2 ((List.replicate ((v0.length : Int)).toNat ((0, 0) : j6)).map j3))]) [0, 3, 4] [(192, 0)] 1 ?_
 refine y5 (F8 v0) (fun s : Int × (List j6) => mkS [(0, AL 2 (v0.map j3)), (3, .sl 0 0 s.2.length), (4, AI s.1)] (fo [(0, .row true 2 (s.2.map j3))]) 1) hF ?_
 rintro k1 ⟨x6, x7⟩ hF
 rw [F8] at hF
 try dsimp only
 refine i8 (ws 1 257 (qr (AI x6) (qr (AL 2 (v0.map j3)) (qp (AI (v0.length : Int)) (j0 rfl) (qr (AB (decide (x6 < (v0.length : Int)))) (d9 ?_))))))
 refine cF hF (fun hF => ?_) fun hF => ?_
 ·
  refine g9 (f5 (i8 (j7 (y4 257 833 rfl rfl (qr (.sl 0 0 x7.length) (qr (AI x6) (qr (AL 2 (v0.map j3)) (qr (AI x6) (bk hF fun u7 e7 hF => qp (.val none (.ptr [.int .i64 u7.1, .int .i64 u7.2])) (j4 rfl rfl e7 rfl) (qr (.val none (j3 u7)) (bk hF fun u8 e8 hF => qC (.val none (j3 u8)) [(0, .row true 2 (x7.map j3))] (a5M e8) c7J (bk hF fun u9 e9 hF => qp (.ptr 0 x6.toNat 0) (B1 rfl (by simp) rfl rfl e9) (qf0 (.undef) [(0, .row true 2 ((List.set x7 x6.toNat u8).map j3)), (0, .row true 2 (x7.map j3))] (D6 rfl rfl (B9 e9).2 rfl rfl (by rfl) (by first | rfl | simp [patch, reb, List.take_of_length_le]) (by rfl) rfl) (d9 (p6 (f5 ?_))))))))))))))))
  refine y4 833 1025 rfl rfl (qr (AI x6) (qr (AI (w64 (x6 + 1))) (qr (AI (w64 (x6 + 1))) (d9 (f5 ?_)))))
  refine ar (l' := [(0, AL 2 (v0.map j3)), (3, .sl 0 0 (List.set x7 x6.toNat u8).length), (4, AI (w64 (x6 + 1)))]) (L := [(0, .row true 2 ((List.set x7 x6.toNat u8).map j3))]) [0, 3, 4] [(0, 0)] 1 ⟨_, by rfl, hF⟩
 exact z8 (j5 (j5 (s9 (f5 (ws 257 385 (qr (.sl 0 0 x7.length) (qr (.sl 0 0 x7.length) (rR hF))))))))

def c74 : MC := (sr [rg 1 (.f (.box t0)), rg 2 (.f (.alloc [((.str []), (0, false)), ((.int .i64 0), (0, false)), ((.int .i64 0), (0, false)), ((.int .i64 0), (0, false)), ((.int .i64 0), (0, false)), ((.int .i64 0), (0, false))]))] (sr [rg 3 (.f (.alloc [((.str []), (0, false)), ((.int .i64 0), (0, false)), ((.int .i64 0), (0, false)), ((.int .i64 0), (0, false)), ((.int .i64 0), (0, false)), ((.int .i64 0), (0, false))]))] (sr [pT 4 (.fad t1 0), lT 5 4, pT 6 (.fad t3 0), ⟨none, none, (.f (.st t6 t5 1))⟩] (sr [pT 7 (.fad t1 1), lT 8 7, pT 9 (.fad t3 1), ⟨none, none, (.f (.st t9 t8 1))⟩] (sr [pT 10 (.fad t1 2), lT 11 10, pT 12 (.fad t3 2), ⟨none, none, (.f (.st t12 t11 1))⟩] (sr [pT 13 (.fad t1 3), lT 14 13, pT 15 (.fad t3 3), ⟨none, none, (.f (.st t15 t14 1))⟩] (sr [pT 16 (.fad t1 4), lT 17 16, pT 18 (.fad t3 4), ⟨none, none, (.f (.st t18 t17 1))⟩] (sr [pT 19 (.fad t1 5), lT 20 19, pT 21 (.fad t3 5), ⟨none, none, (.f (.st t21 t20 1))⟩] (sr [pT 22 (.ld t3 6 true), ⟨none, none, (.f (.st t2 t22 6))⟩] .ret)))))))))
theorem c7e : IsF Tryz.prog 74 c74 [(.cell (.ld (.t 2) 6 true))] := ⟨by kernel_rfl, by kernel_rfl⟩

def a1w (v0 : y6) : Option (y6) :=
 some v0
@[simp] abbrev K1q (v0 : y6) : List AV := [AS v0.1, AI v0.2.1, AI v0.2.2.1, AI v0.2.2.2.1, AI v0.2.2.2.2.1, AI v0.2.2.2.2.2]
@[simp] abbrev K1h (v0 : y6) : List (Nat × Root) := [(0, .box (K1q v0))]
@[simp] abbrev K1i (v0 : y6) : List (Nat × Root) := ((64, .box [AS [], AI 0, AI 0, AI 0, AI 0, AI 0]) :: (K1h v0))
@[simp] abbrev K1j (v0 : y6) : List (Nat × Root) := ((128, .box [AS [], AI 0, AI 0, AI 0, AI 0, AI 0]) :: (K1i v0))
@[simp] abbrev K1k (v0 : y6) : List (Nat × Root) := ((128, .box [AS v0.1, AI 0, AI 0, AI 0, AI 0, AI 0]) :: (K1j v0))
@[simp] abbrev K1l (v0 : y6) : List (Nat × Root) := ((128, .box [AS v0.1, AI v0.2.1, AI 0, AI 0, AI 0, AI 0]) :: (K1k v0))
@[simp] abbrev K1m (v0 : y6) : List (Nat × Root) := ((128, .box [AS v0.1, AI v0.2.1, AI v0.2.2.1, AI 0, AI 0, AI 0]) :: (K1l v0))
@[simp] abbrev K1n (v0 : y6) : List (Nat × Root) := ((128, .box [AS v0.1, AI v0.2.1, AI v0.2.2.1, AI v0.2.2.2.1, AI 0, AI 0]) :: (K1m v0))
@[simp] abbrev K1o (v0 : y6) : List (Nat × Root) := ((128, .box [AS v0.1, AI v0.2.1, AI v0.2.2.1, AI v0.2.2.2.1, AI v0.2.2.2.2.1, AI 0]) :: (K1n v0))
@[simp] abbrev K1p (v0 : y6) : List (Nat × Root) := ((128, .box (K1q v0)) :: (K1o v0))
@[simp] def b1V (r : y6) : RV := .one (.one (.val (A1 r)))
theorem b2c {v0 : y6} {r : y6} (hF : a1w v0 = some r) : Con Tryz.prog 74 [A1 v0] (b1V r) := by
 unfold a1w at hF
 refine p7 c7e.1 fun N => ?_
 refine ws 0 128 (qf (.ptr 0 0 0) (K1h v0) (by simp) (qf (.ptr 64 0 0) (K1i v0) (by simp) (d9 (ws 128 192 (qf (.ptr 128 0 0) (K1j v0) (by simp) (d9 (ws 192 448 (qr (.ptr 0 0 0) (qr (AS v0.1) (qr (.ptr 128 0 0) (qf0 (.undef) (K1k v0) (by simp) (d9 (ws 448 704 ?_)))))))))))))
 refine qr (.ptr 0 0 1) (qr (AI v0.2.1) (qr (.ptr 128 0 1) (qf0 (.undef) (K1l v0) (by simp) (d9 (ws 704 960 (qr (.ptr 0 0 2) (qr (AI v0.2.2.1) (qr (.ptr 128 0 2) (qf0 (.undef) (K1m v0) (by simp) (d9 (ws 960 1216 ?_)))))))))))
 refine qr (.ptr 0 0 3) (qr (AI v0.2.2.2.1) (qr (.ptr 128 0 3) (qf0 (.undef) (K1n v0) (by simp) (d9 (ws 1216 1472 (qr (.ptr 0 0 4) (qr (AI v0.2.2.2.2.1) (qr (.ptr 128 0 4) (qf0 (.undef) (K1o v0) (by simp) (d9 (ws 1472 1728 ?_)))))))))))
 exact qr (.ptr 0 0 5) (qr (AI v0.2.2.2.2.2) (qr (.ptr 128 0 5) (qf0 (.undef) (K1p v0) (by simp) (d9 (ws 1728 1856 (qr (.agg (K1q v0)) (qf0 (.undef) ((64, .box (K1q v0)) :: (K1p v0)) (by simp) (rR hF))))))))

def c30 : MC := (sr [rg 2 (.f (.nilrow 6))] (sr [mvt 5 0, zT 6 5, rg 7 (.f (.mks 6 56 (.agg [(.str []), (.int .i64 0), (.int .i64 0), (.int .i64 0), (.int .i64 0), (.int .i64 0)]) t6 t6)), mvt 3 7] (.seq (sr [pT 4 (.mv (ci 0))] (.block 0 (.loop (.seq (sr [mvt 8 4, mvt 9 0, zT 10 9, bT 11 .lss t8 t10] (cx t11 0)) (.seq (.block 1 (.reg [mvt 14 3, mvt 15 4, mvt 16 0, mvt 17 4, iT 18 16 17 6, pT 19 (.ld t18 6 true), dT 20 74 [t19], iT 21 14 15 6, ⟨none, none, (.f (.st t21 t20 6))⟩])) (.reg [mvt 12 4, bT 13 .add t12 (ci 1), mvt 4 13])))))) (sr [mvt 22 3, mvt 2 22] .ret))))
theorem c7A : IsF Tryz.prog 30 c30 [(.tmp 2)] := ⟨by kernel_rfl, by kernel_rfl⟩

def N8 (v0 : List y6) (k1 : Int × (List y6) → Option (List y6)) : Int × (List y6) → Option (List y6)
 | (x6, x7) => (bif (decide (x6 < (v0.length : Int))) then ((ix v0 x6).bind fun u7 => ((a1w u7).bind fun u8 => ((ix x7 x6).bind fun u9 => k1 (w64 (x6 + 1), List.set x7 x6.toNat u8))))
 else some x7)
def a1g (v0 : List y6) : Option (List y6) :=
 (need (0 ≤ (v0.length : Int) ∧ (v0.length : Int) ≤ (v0.length : Int) ∧ (v0.length : Int) ≤ 9223372036854775807 ∧ 56 * (v0.length : Int) ≤ 281474976710656) (loop (N8 v0) (0, List.replicate ((v0.length : Int)).toNat (([], 0, 0, 0, 0, 0) : y6))))
@[simp] abbrev K1r : List (Nat × Root) := [(0, .row true 6 (([] : List Int).map vI))]
@[simp] def a4f (r : List y6) : RV := .one (.one (.row true 6 (r.map A1)))
theorem b0T {v0 : List y6} {r : List y6} (hF : a1g v0 = some r) : Con Tryz.prog 30 [.sl 6 (v0.map A1)] (a4f r) := by
 unfold a1g at hF
 refine p7 c7A.1 fun N => ?_
 refine ws 0 64 (qf (.sl 0 0 0) K1r (by simp) (d9 (ws 64 320 (qr (AL 6 (v0.map A1)) (qp (AI (v0.length : Int)) (j0 rfl) (nk hF fun g0 hF => qf (.sl 192 0 ((List.replicate ((v0.length : Int)).toNat (([], 0, 0, 0, 0, 0) : y6)).length)) ((192, .row true 6 ((List.replicate ((v0.length : Int)).toNat (([], 0, 0, 0, 0, 0) : y6)).map A1)) :: K1r) (a1D rfl rfl g0 rfl) (qr (.sl 192 0 ((List.replicate ((v0.length : Int)).toNat (([], 0, 0, 0, 0, 0) : y6)).length)) (d9 (i8 (ws 320 384 (qr (AI 0) (d9 (j7 ?_)))))))))))))
 refine wr (l' := [(0, AL 6 (v0.map A1)), (3, .sl 0 0 (List.replicate ((v0.length : Int)).toNat (([], 0, 0, 0, 0, 0) : y6)).length), (4, AI 0)]) (L := [(0, .row true 6 ((List.replicate ((v0.length : Int)).toNat (([], 0, 0, 0, 0, 0) : y6)).map A1))]) [0, 3, 4] [(192, 0)] 1 ?_
 refine y5 (N8 v0) (fun s : Int × (List y6) => mkS [(0, AL 6 (v0.map A1)), (3, .sl 0 0 s.2.length), (4, AI s.1)] (fo [(0, .row true 6 (s.2.map A1))]) 1) hF ?_
 rintro k1 ⟨x6, x7⟩ hF
 rw [N8] at hF
 try dsimp only
 refine i8 (ws 1 257 (qr (AI x6) (qr (AL 6 (v0.map A1)) (qp (AI (v0.length : Int)) (j0 rfl) (qr (AB (decide (x6 < (v0.length : Int)))) (d9 ?_))))))
 refine cF hF (fun hF => ?_) fun hF => ?_
 ·
  refine g9 (f5 (i8 (j7 (y4 257 833 rfl rfl (qr (.sl 0 0 x7.length) (qr (AI x6) (qr (AL 6 (v0.map A1)) (qr (AI x6) (bk hF fun u7 e7 hF => qp (.val none (.ptr [.str u7.1, .int .i64 u7.2.1, .int .i64 u7.2.2.1, .int .i64 u7.2.2.2.1, .int .i64 u7.2.2.2.2.1, .int .i64 u7.2.2.2.2.2])) (j4 rfl rfl e7 rfl) (qr (.val none (A1 u7)) (bk hF fun u8 e8 hF => qC (.val none (A1 u8)) [(0, .row true 6 (x7.map A1))] (b2c e8) c7e (bk hF fun u9 e9 hF => qp (.ptr 0 x6.toNat 0) (B1 rfl (by simp) rfl rfl e9) (qf0 (.undef) [(0, .row true 6 ((List.set x7 x6.toNat u8).map A1)), (0, .row true 6 (x7.map A1))] (D6 rfl rfl (B9 e9).2 rfl rfl (by rfl) (by first | rfl | simp [patch, reb, List.take_of_length_le]) (by rfl) rfl) (d9 (p6 (f5 ?_))))))))))))))))
  refine y4 833 1025 rfl rfl (qr (AI x6) (qr (AI (w64 (x6 + 1))) (qr (AI (w64 (x6 + 1))) (d9 (f5 ?_)))))
  refine ar (l' := [(0, AL 6 (v0.map A1)), (3, .sl 0 0 (List.set x7 x6.toNat u8).length), (4, AI (w64 (x6 + 1)))]) (L := [(0, .row true 6 ((List.set x7 x6.toNat u8).map A1))]) [0, 3, 4] [(0, 0)] 1 ⟨_, by rfl, hF⟩
 exact z8 (j5 (j5 (s9 (f5 (ws 257 385 (qr (.sl 0 0 x7.length) (qr (.sl 0 0 x7.length) (rR hF))))))))

def c75 : MC := (sr [rg 1 (.f (.box t0)), rg 2 (.f (.alloc [((.int .i64 0), (0, false)), ((.str []), (0, false)), ((.str []), (0, false)), ((.int .i64 0), (0, false)), ((.int .i64 0), (0, false))]))] (sr [rg 3 (.f (.alloc [((.int .i64 0), (0, false)), ((.str []), (0, false)), ((.str []), (0, false)), ((.int .i64 0), (0, false)), ((.int .i64 0), (0, false))]))] (sr [pT 4 (.fad t1 0), lT 5 4, pT 6 (.fad t3 0), ⟨none, none, (.f (.st t6 t5 1))⟩] (sr [pT 7 (.fad t1 1), lT 8 7, pT 9 (.fad t3 1), ⟨none, none, (.f (.st t9 t8 1))⟩] (sr [pT 10 (.fad t1 2), lT 11 10, pT 12 (.fad t3 2), ⟨none, none, (.f (.st t12 t11 1))⟩] (sr [pT 13 (.fad t1 3), lT 14 13, pT 15 (.fad t3 3), ⟨none, none, (.f (.st t15 t14 1))⟩] (sr [pT 16 (.fad t1 4), lT 17 16, pT 18 (.fad t3 4), ⟨none, none, (.f (.st t18 t17 1))⟩] (sr [pT 19 (.ld t3 5 true), ⟨none, none, (.f (.st t2 t19 5))⟩] .ret))))))))
theorem c7N : IsF Tryz.prog 75 c75 [(.cell (.ld (.t 2) 5 true))] := ⟨by kernel_rfl, by kernel_rfl⟩

def a0j (v0 : n9) : Option (n9) :=
 some v0
@[simp] abbrev K20 (v0 : n9) : List AV := [AI v0.1, AS v0.2.1, AS v0.2.2.1, AI v0.2.2.2.1, AI v0.2.2.2.2]
@[simp] abbrev K1s (v0 : n9) : List (Nat × Root) := [(0, .box (K20 v0))]
@[simp] abbrev K1t (v0 : n9) : List (Nat × Root) := ((64, .box [AI 0, AS [], AS [], AI 0, AI 0]) :: (K1s v0))
@[simp] abbrev K1u (v0 : n9) : List (Nat × Root) := ((128, .box [AI 0, AS [], AS [], AI 0, AI 0]) :: (K1t v0))
@[simp] abbrev K1v (v0 : n9) : List (Nat × Root) := ((128, .box [AI v0.1, AS [], AS [], AI 0, AI 0]) :: (K1u v0))
@[simp] abbrev K1w (v0 : n9) : List (Nat × Root) := ((128, .box [AI v0.1, AS v0.2.1, AS [], AI 0, AI 0]) :: (K1v v0))
@[simp] abbrev K1x (v0 : n9) : List (Nat × Root) := ((128, .box [AI v0.1, AS v0.2.1, AS v0.2.2.1, AI 0, AI 0]) :: (K1w v0))
@[simp] abbrev K1y (v0 : n9) : List (Nat × Root) := ((128, .box [AI v0.1, AS v0.2.1, AS v0.2.2.1, AI v0.2.2.2.1, AI 0]) :: (K1x v0))
@[simp] abbrev K1z (v0 : n9) : List (Nat × Root) := ((128, .box (K20 v0)) :: (K1y v0))
@[simp] def a8X (r : n9) : RV := .one (.one (.val (p8 r)))
theorem a8A {v0 : n9} {r : n9} (hF : a0j v0 = some r) : Con Tryz.prog 75 [p8 v0] (a8X r) := by
 unfold a0j at hF
 refine p7 c7N.1 fun N => ?_
 refine ws 0 128 (qf (.ptr 0 0 0) (K1s v0) (by simp) (qf (.ptr 64 0 0) (K1t v0) (by simp) (d9 (ws 128 192 (qf (.ptr 128 0 0) (K1u v0) (by simp) (d9 (ws 192 448 (qr (.ptr 0 0 0) (qr (AI v0.1) (qr (.ptr 128 0 0) (qf0 (.undef) (K1v v0) (by simp) (d9 (ws 448 704 ?_)))))))))))))
 refine qr (.ptr 0 0 1) (qr (AS v0.2.1) (qr (.ptr 128 0 1) (qf0 (.undef) (K1w v0) (by simp) (d9 (ws 704 960 (qr (.ptr 0 0 2) (qr (AS v0.2.2.1) (qr (.ptr 128 0 2) (qf0 (.undef) (K1x v0) (by simp) (d9 (ws 960 1216 ?_)))))))))))
 exact qr (.ptr 0 0 3) (qr (AI v0.2.2.2.1) (qr (.ptr 128 0 3) (qf0 (.undef) (K1y v0) (by simp) (d9 (ws 1216 1472 (qr (.ptr 0 0 4) (qr (AI v0.2.2.2.2) (qr (.ptr 128 0 4) (qf0 (.undef) (K1z v0) (by simp) (d9 (ws 1472 1600 (qr (.agg (K20 v0)) (qf0 (.undef) ((64, .box (K20 v0)) :: (K1z v0)) (by simp) (rR hF))))))))))))))

def c31 : MC := (sr [rg 2 (.f (.nilrow 5))] (sr [mvt 5 0, zT 6 5, rg 7 (.f (.mks 5 56 (.agg [(.int .i64 0), (.str []), (.str []), (.int .i64 0), (.int .i64 0)]) t6 t6)), mvt 3 7] (.seq (sr [pT 4 (.mv (ci 0))] (.block 0 (.loop (.seq (sr [mvt 8 4, mvt 9 0, zT 10 9, bT 11 .lss t8 t10] (cx t11 0)) (.seq (.block 1 (.reg [mvt 14 3, mvt 15 4, mvt 16 0, mvt 17 4, iT 18 16 17 5, pT 19 (.ld t18 5 true), dT 20 75 [t19], iT 21 14 15 5, ⟨none, none, (.f (.st t21 t20 5))⟩])) (.reg [mvt 12 4, bT 13 .add t12 (ci 1), mvt 4 13])))))) (sr [mvt 22 3, mvt 2 22] .ret))))
theorem c8f : IsF Tryz.prog 31 c31 [(.tmp 2)] := ⟨by kernel_rfl, by kernel_rfl⟩

def J6 (v0 : List n9) (k1 : Int × (List n9) → Option (List n9)) : Int × (List n9) → Option (List n9)
 | (x6, x7) => (bif (decide (x6 < (v0.length : Int))) then ((ix v0 x6).bind fun u7 => ((a0j u7).bind fun u8 => ((ix x7 x6).bind fun u9 => k1 (w64 (x6 + 1), List.set x7 x6.toNat u8))))
 else some x7)
def X8 (v0 : List n9) : Option (List n9) :=
 (need (0 ≤ (v0.length : Int) ∧ (v0.length : Int) ≤ (v0.length : Int) ∧ (v0.length : Int) ≤ 9223372036854775807 ∧ 56 * (v0.length : Int) ≤ 281474976710656) (loop (J6 v0) (0, List.replicate ((v0.length : Int)).toNat ((0, [], [], 0, 0) : n9))))
@[simp] abbrev K21 : List (Nat × Root) := [(0, .row true 5 (([] : List Int).map vI))]
@[simp] def a3F (r : List n9) : RV := .one (.one (.row true 5 (r.map p8)))
theorem a8d {v0 : List n9} {r : List n9} (hF : X8 v0 = some r) : Con Tryz.prog 31 [.sl 5 (v0.map p8)] (a3F r) := by
 unfold X8 at hF
 refine p7 c8f.1 fun N => ?_
 refine ws 0 64 (qf (.sl 0 0 0) K21 (by simp) (d9 (ws 64 320 (qr (AL 5 (v0.map p8)) (qp (AI (v0.length : Int)) (j0 rfl) (nk hF fun g0 hF => qf (.sl 192 0 ((List.replicate ((v0.length : Int)).toNat ((0, [], [], 0, 0) : n9)).length)) ((192, .row true 5 ((List.replicate ((v0.length : Int)).toNat ((0, [], [], 0, 0) : n9)).map p8)) :: K21) (a1D rfl rfl g0 rfl) (qr (.sl 192 0 ((List.replicate ((v0.length : Int)).toNat ((0, [], [], 0, 0) : n9)).length)) (d9 (i8 (ws 320 384 (qr (AI 0) (d9 (j7 ?_)))))))))))))
 refine wr (l' := [(0, AL 5 (v0.map p8)), (3, .sl 0 0 (List.replicate ((v0.length : Int)).toNat ((0, [], [], 0, 0) : n9)).length), (4, AI 0)]) (L := [(0, .row true 5 ((List.replicate ((v0.length : Int)).toNat ((0, [], [], 0, 0) : n9)).map p8))]) [0, 3, 4] [(192, 0)] 1 ?_
 refine y5 (J6 v0) (fun s : Int × (List n9) => mkS [(0, AL 5 (v0.map p8)), (3, .sl 0 0 s.2.length), (4, AI s.1)] (fo [(0, .row true 5 (s.2.map p8))]) 1) hF ?_
 rintro k1 ⟨x6, x7⟩ hF
 rw [J6] at hF
 try dsimp only
 refine i8 (ws 1 257 (qr (AI x6) (qr (AL 5 (v0.map p8)) (qp (AI (v0.length : Int)) (j0 rfl) (qr (AB (decide (x6 < (v0.length : Int)))) (d9 ?_))))))
 refine cF hF (fun hF => ?_) fun hF => ?_
 ·
  refine g9 (f5 (i8 (j7 (y4 257 833 rfl rfl (qr (.sl 0 0 x7.length) (qr (AI x6) (qr (AL 5 (v0.map p8)) (qr (AI x6) (bk hF fun u7 e7 hF => qp (.val none (.ptr [.int .i64 u7.1, .str u7.2.1, .str u7.2.2.1, .int .i64 u7.2.2.2.1, .int .i64 u7.2.2.2.2])) (j4 rfl rfl e7 rfl) (qr (.val none (p8 u7)) (bk hF fun u8 e8 hF => qC (.val none (p8 u8)) [(0, .row true 5 (x7.map p8))] (a8A e8) c7N (bk hF fun u9 e9 hF => qp (.ptr 0 x6.toNat 0) (B1 rfl (by simp) rfl rfl e9) (qf0 (.undef) [(0, .row true 5 ((List.set x7 x6.toNat u8).map p8)), (0, .row true 5 (x7.map p8))] (D6 rfl rfl (B9 e9).2 rfl rfl (by rfl) (by first | rfl | simp [patch, reb, List.take_of_length_le]) (by rfl) rfl) (d9 (p6 (f5 ?_))))))))))))))))
  refine y4 833 1025 rfl rfl (qr (AI x6) (qr (AI (w64 (x6 + 1))) (qr (AI (w64 (x6 + 1))) (d9 (f5 ?_)))))
  refine ar (l' := [(0, AL 5 (v0.map p8)), (3, .sl 0 0 (List.set x7 x6.toNat u8).length), (4, AI (w64 (x6 + 1)))]) (L := [(0, .row true 5 ((List.set x7 x6.toNat u8).map p8))]) [0, 3, 4] [(0, 0)] 1 ⟨_, by rfl, hF⟩
 exact z8 (j5 (j5 (s9 (f5 (ws 257 385 (qr (.sl 0 0 x7.length) (qr (.sl 0 0 x7.length) (rR hF))))))))

def c9B : MC := (sr [rg 2 (.f (.nilrow 1))] (sr [mvt 5 0, zT 6 5, rg 7 (.f (.mks 1 16 (.str []) t6 t6)), mvt 3 7] (.seq (sr [pT 4 (.mv (ci 0))] (.block 0 (.loop (.seq (sr [mvt 8 4, mvt 9 0, zT 10 9, bT 11 .lss t8 t10] (cx t11 0)) (.seq (.block 1 (.reg [mvt 14 3, mvt 15 4, mvt 16 0, mvt 17 4, iT 18 16 17 1, lT 19 18, iT 20 14 15 1, ⟨none, none, (.f (.st t20 t19 1))⟩])) (.reg [mvt 12 4, bT 13 .add t12 (ci 1), mvt 4 13])))))) (sr [mvt 21 3, mvt 2 21] .ret))))
theorem c5t : IsF Tryz.prog 118 c9B [(.tmp 2)] := ⟨by kernel_rfl, by kernel_rfl⟩

def J5 (v0 : List (List UInt8)) (k1 : Int × (List (List UInt8)) → Option (List (List UInt8))) : Int × (List (List UInt8)) → Option (List (List UInt8))
 | (x6, x7) => (bif (decide (x6 < (v0.length : Int))) then ((ix v0 x6).bind fun u5 => ((ix x7 x6).bind fun u6 => k1 (w64 (x6 + 1), List.set x7 x6.toNat u5)))
 else some x7)
def X9 (v0 : List (List UInt8)) : Option (List (List UInt8)) :=
 (need (0 ≤ (v0.length : Int) ∧ (v0.length : Int) ≤ (v0.length : Int) ∧ (v0.length : Int) ≤ 9223372036854775807 ∧ 16 * (v0.length : Int) ≤ 281474976710656) (loop (J5 v0) (0, List.replicate ((v0.length : Int)).toNat ([] : List UInt8))))
@[simp] abbrev K22 : List (Nat × Root) := [(0, .row true 1 (([] : List Int).map vI))]
@[simp] def a3r (r : List (List UInt8)) : RV := .one (.one (.row true 1 (r.map V.str)))
theorem a7C {v0 : List (List UInt8)} {r : List (List UInt8)} (hF : X9 v0 = some r) : Con Tryz.prog 118 [.sl 1 (v0.map V.str)] (a3r r) := by
 unfold X9 at hF
 refine p7 c5t.1 fun N => ?_
 refine ws 0 64 (qf (.sl 0 0 0) K22 (by simp) (d9 (ws 64 320 (qr (AL 1 (v0.map V.str)) (qp (AI (v0.length : Int)) (j0 rfl) (nk hF fun g0 hF => qf (.sl 192 0 ((List.replicate ((v0.length : Int)).toNat ([] : List UInt8)).length)) ((192, .row true 1 ((List.replicate ((v0.length : Int)).toNat ([] : List UInt8)).map V.str)) :: K22) (a1D rfl rfl g0 rfl) (qr (.sl 192 0 ((List.replicate ((v0.length : Int)).toNat ([] : List UInt8)).length)) (d9 (i8 (ws 320 384 (qr (AI 0) (d9 (j7 ?_)))))))))))))
 refine wr (l' := [(0, AL 1 (v0.map V.str)), (3, .sl 0 0 (List.replicate ((v0.length : Int)).toNat ([] : List UInt8)).length), (4, AI 0)]) (L := [(0, .row true 1 ((List.replicate ((v0.length : Int)).toNat ([] : List UInt8)).map V.str))]) [0, 3, 4] [(192, 0)] 1 ?_
 refine y5 (J5 v0) (fun s : Int × (List (List UInt8)) => mkS [(0, AL 1 (v0.map V.str)), (3, .sl 0 0 s.2.length), (4, AI s.1)] (fo [(0, .row true 1 (s.2.map V.str))]) 1) hF ?_
 rintro k1 ⟨x6, x7⟩ hF
 rw [J5] at hF
 try dsimp only
 refine i8 (ws 1 257 (qr (AI x6) (qr (AL 1 (v0.map V.str)) (qp (AI (v0.length : Int)) (j0 rfl) (qr (AB (decide (x6 < (v0.length : Int)))) (d9 ?_))))))
 refine cF hF (fun hF => ?_) fun hF => ?_
 ·
  refine g9 (f5 (i8 (j7 (y4 257 769 rfl rfl (qr (.sl 0 0 x7.length) (qr (AI x6) (qr (AL 1 (v0.map V.str)) (qr (AI x6) (bk hF fun u5 e5 hF => qp (.val none (.ptr [.str u5])) (j4 rfl rfl e5 rfl) (qr (AS u5) (bk hF fun u6 e6 hF => qp (.ptr 0 x6.toNat 0) (B1 rfl (by simp) rfl rfl e6) (qf0 (.undef) [(0, .row true 1 ((List.set x7 x6.toNat u5).map V.str)), (0, .row true 1 (x7.map V.str))] (D6 rfl rfl (B9 e6).2 rfl rfl (by rfl) (by first | rfl | simp [patch, reb, List.take_of_length_le]) (by rfl) rfl) (d9 (p6 (f5 ?_)))))))))))))))
  refine y4 769 961 rfl rfl (qr (AI x6) (qr (AI (w64 (x6 + 1))) (qr (AI (w64 (x6 + 1))) (d9 (f5 ?_)))))
  refine ar (l' := [(0, AL 1 (v0.map V.str)), (3, .sl 0 0 (List.set x7 x6.toNat u5).length), (4, AI (w64 (x6 + 1)))]) (L := [(0, .row true 1 ((List.set x7 x6.toNat u5).map V.str))]) [0, 3, 4] [(0, 0)] 1 ⟨_, by rfl, hF⟩
 exact z8 (j5 (j5 (s9 (f5 (ws 257 385 (qr (.sl 0 0 x7.length) (qr (.sl 0 0 x7.length) (rR hF))))))))

def c76 : MC := (sr [rg 1 (.f (.box t0)), rg 2 (.f (.alloc [((.str []), (0, false)), ((.int .i64 0), (0, false)), ((.sl 0 []), (1, false))]))] (sr [rg 3 (.f (.alloc [((.str []), (0, false)), ((.int .i64 0), (0, false)), ((.sl 0 []), (1, false))]))] (sr [pT 4 (.fad t1 0), lT 5 4, pT 6 (.fad t3 0), ⟨none, none, (.f (.st t6 t5 1))⟩] (sr [pT 7 (.fad t1 1), lT 8 7, pT 9 (.fad t3 1), ⟨none, none, (.f (.st t9 t8 1))⟩] (sr [pT 10 (.fad t1 2), lT 11 10, dT 12 118 [t11], pT 13 (.fad t3 2), ⟨none, none, (.f (.st t13 t12 1))⟩] (sr [pT 14 (.ld t3 3 true), ⟨none, none, (.f (.st t2 t14 3))⟩] .ret))))))
theorem c7i : IsF Tryz.prog 76 c76 [(.cell (.ld (.t 2) 3 true))] := ⟨by kernel_rfl, by kernel_rfl⟩

def a0k (v0 : p4) : Option (p4) :=
 ((X9 v0.2.2).bind fun u0 => some (v0.1, v0.2.1, u0))
@[simp] abbrev K23 (v0 : p4) : List (Nat × Root) := [(0, .box [AS v0.1, AI v0.2.1, AL 1 (v0.2.2.map V.str)])]
@[simp] abbrev K24 (v0 : p4) : List (Nat × Root) := ((64, .box [AS [], AI 0, .sl 65 0 0]) :: (65, .row true 1 (([] : List Int).map vI)) :: (K23 v0))
@[simp] abbrev K25 (v0 : p4) : List (Nat × Root) := ((128, .box [AS [], AI 0, .sl 129 0 0]) :: (129, .row true 1 (([] : List Int).map vI)) :: (K24 v0))
@[simp] abbrev K26 (v0 : p4) : List (Nat × Root) := ((128, .box [AS v0.1, AI 0, .sl 129 0 0]) :: (K25 v0))
@[simp] abbrev K27 (v0 : p4) : List (Nat × Root) := ((128, .box [AS v0.1, AI v0.2.1, .sl 129 0 0]) :: (K26 v0))
@[simp] abbrev K28 (u0 : List (List UInt8)) (v0 : p4) : List (Nat × Root) := ((832, .row true 1 (u0.map V.str)) :: (K27 v0))
@[simp] abbrev K29 (v0 : p4) (u0 : List (List UInt8)) : List (Nat × Root) := ((128, .box [AS v0.1, AI v0.2.1, .sl 832 0 u0.length]) :: (K28 u0 v0))
@[simp] def a3O (r : p4) : RV := .one (.agg [.val (.str r.1), .val (.int .i64 r.2.1), .row true 1 (r.2.2.map V.str)])
theorem a8K {v0 : p4} {r : p4} (hF : a0k v0 = some r) : Con Tryz.prog 76 [p9 v0] (a3O r) := by
 unfold a0k at hF
 refine p7 c7i.1 fun N => ?_
 refine ws 0 128 (qf (.ptr 0 0 0) (K23 v0) (by simp) (qf (.ptr 64 0 0) (K24 v0) (by simp) (d9 (ws 128 192 (qf (.ptr 128 0 0) (K25 v0) (by simp) (d9 (ws 192 448 (qr (.ptr 0 0 0) (qr (AS v0.1) (qr (.ptr 128 0 0) (qf0 (.undef) (K26 v0) (by simp) (d9 (ws 448 704 ?_)))))))))))))
 exact qr (.ptr 0 0 1) (qr (AI v0.2.1) (qr (.ptr 128 0 1) (qf0 (.undef) (K27 v0) (by simp) (d9 (ws 704 1024 (qr (.ptr 0 0 2) (qr (AL 1 (v0.2.2.map V.str)) (bk hF fun u0 e0 hF => qc (.sl 832 0 u0.length) (K28 u0 v0) false (a7C e0) c5t.2 (by first | rfl | simp) (by simp [a3r]) (qr (.ptr 128 0 2) (qf0 (.undef) (K29 v0 u0) (by simp) (d9 (ws 1024 1152 (qr (.agg [AS v0.1, AI v0.2.1, .sl 832 0 u0.length]) (qf0 (.undef) ((64, .box [AS v0.1, AI v0.2.1, .sl 832 0 u0.length]) :: (K29 v0 u0)) (by simp) (rR hF)))))))))))))))

def c32 : MC := (sr [rg 2 (.f (.nilrow 3))] (sr [mvt 5 0, zT 6 5, rg 7 (.f (.mks 3 48 (.agg [(.str []), (.int .i64 0), (.sl 1 [])]) t6 t6)), mvt 3 7] (.seq (sr [pT 4 (.mv (ci 0))] (.block 0 (.loop (.seq (sr [mvt 8 4, mvt 9 0, zT 10 9, bT 11 .lss t8 t10] (cx t11 0)) (.seq (.block 1 (.reg [mvt 14 3, mvt 15 4, mvt 16 0, mvt 17 4, iT 18 16 17 3, pT 19 (.ld t18 3 true), dT 20 76 [t19], iT 21 14 15 3, ⟨none, none, (.f (.st t21 t20 3))⟩])) (.reg [mvt 12 4, bT 13 .add t12 (ci 1), mvt 4 13])))))) (sr [mvt 22 3, mvt 2 22] .ret))))
theorem c7x : IsF Tryz.prog 32 c32 [(.tmp 2)] := ⟨by kernel_rfl, by kernel_rfl⟩

def J3 (v0 : List p4) (k1 : Int × (List p4) → Option (List p4)) : Int × (List p4) → Option (List p4)
 | (x6, x7) => (bif (decide (x6 < (v0.length : Int))) then ((ix v0 x6).bind fun u7 => ((a0k u7).bind fun u8 => ((ix x7 x6).bind fun u9 => k1 (w64 (x6 + 1), List.set x7 x6.toNat u8))))
 else some x7)
def Z1 (v0 : List p4) : Option (List p4) :=
 (need (0 ≤ (v0.length : Int) ∧ (v0.length : Int) ≤ (v0.length : Int) ∧ (v0.length : Int) ≤ 9223372036854775807 ∧ 48 * (v0.length : Int) ≤ 281474976710656) (loop (J3 v0) (0, List.replicate ((v0.length : Int)).toNat (([], 0, []) : p4))))
@[simp] abbrev K2a : List (Nat × Root) := [(0, .row true 3 (([] : List Int).map vI))]
@[simp] abbrev K2b (u8 : p4) (x7 : List p4) : List (Nat × Root) := [(643, .row true 1 (u8.2.2.map V.str)), (0, .row true 3 (x7.map p9))]
@[simp] def a3H (r : List p4) : RV := .one (.one (.row true 3 (r.map p9)))
theorem a7G {v0 : List p4} {r : List p4} (hF : Z1 v0 = some r) : Con Tryz.prog 32 [.sl 3 (v0.map p9)] (a3H r) := by
 unfold Z1 at hF
 refine p7 c7x.1 fun N => ?_
 refine ws 0 64 (qf (.sl 0 0 0) K2a (by simp) (d9 (ws 64 320 (qr (AL 3 (v0.map p9)) (qp (AI (v0.length : Int)) (j0 rfl) (nk hF fun g0 hF => qf (.sl 192 0 ((List.replicate ((v0.length : Int)).toNat (([], 0, []) : p4)).length)) ((192, .row true 3 ((List.replicate ((v0.length : Int)).toNat (([], 0, []) : p4)).map p9)) :: K2a) (a1D rfl rfl g0 rfl) (qr (.sl 192 0 ((List.replicate ((v0.length : Int)).toNat (([], 0, []) : p4)).length)) (d9 (i8 (ws 320 384 (qr (AI 0) (d9 (j7 ?_)))))))))))))
 refine wr (l' := [(0, AL 3 (v0.map p9)), (3, .sl 0 0 (List.replicate ((v0.length : Int)).toNat (([], 0, []) : p4)).length), (4, AI 0)]) (L := [(0, .row true 3 ((List.replicate ((v0.length : Int)).toNat (([], 0, []) : p4)).map p9))]) [0, 3, 4] [(192, 0)] 1 ?_
 refine y5 (J3 v0) (fun s : Int × (List p4) => mkS [(0, AL 3 (v0.map p9)), (3, .sl 0 0 s.2.length), (4, AI s.1)] (fo [(0, .row true 3 (s.2.map p9))]) 1) hF ?_
 rintro k1 ⟨x6, x7⟩ hF
 rw [J3] at hF
 try dsimp only
 refine i8 (ws 1 257 (qr (AI x6) (qr (AL 3 (v0.map p9)) (qp (AI (v0.length : Int)) (j0 rfl) (qr (AB (decide (x6 < (v0.length : Int)))) (d9 ?_))))))
 refine cF hF (fun hF => ?_) fun hF => ?_
 ·
  refine g9 (f5 (i8 (j7 (y4 257 833 rfl rfl (qr (.sl 0 0 x7.length) (qr (AI x6) (qr (AL 3 (v0.map p9)) (qr (AI x6) (bk hF fun u7 e7 hF => qp (.val none (.ptr [.str u7.1, .int .i64 u7.2.1, .sl 1 (u7.2.2.map V.str)])) (j4 rfl rfl e7 rfl) (qr (.val none (p9 u7)) (bk hF fun u8 e8 hF => qc (.agg [AS u8.1, AI u8.2.1, .sl 643 0 u8.2.2.length]) (K2b u8 x7) false (a8K e8) c7i.2 (by first | rfl | simp) (by simp [a3O]) (bk hF fun u9 e9 hF => qp (.ptr 0 x6.toNat 0) (B1 rfl (by simp) rfl rfl e9) (qf0 (.undef) ((0, .row true 3 ((List.set x7 x6.toNat u8).map p9)) :: (643, .dead) :: (K2b u8 x7)) (D6 rfl rfl (B9 e9).2 rfl rfl (by rfl) (by first | rfl | simp [patch, reb, List.take_of_length_le]) (by rfl) rfl) (d9 (p6 (f5 ?_))))))))))))))))
  refine y4 833 1025 rfl rfl (qr (AI x6) (qr (AI (w64 (x6 + 1))) (qr (AI (w64 (x6 + 1))) (d9 (f5 ?_)))))
  refine ar (l' := [(0, AL 3 (v0.map p9)), (3, .sl 0 0 (List.set x7 x6.toNat u8).length), (4, AI (w64 (x6 + 1)))]) (L := [(0, .row true 3 ((List.set x7 x6.toNat u8).map p9))]) [0, 3, 4] [(0, 0)] 1 ⟨_, by rfl, hF⟩
 exact z8 (j5 (j5 (s9 (f5 (ws 257 385 (qr (.sl 0 0 x7.length) (qr (.sl 0 0 x7.length) (rR hF))))))))

end Go.Ab
