/- Walks (printed by auto.py, a program of this session's own). -/
import Derived.Test.YtcklbccpfpnmbaaGreatDoorU4
import Derived.Test.YtcklbccpfpnmbaaGreatDoorProg
import Derived.KernelRfl
import Derived.Test.YtcklbccpfpnmbaaGreatDoorSQ
set_option linter.unusedVariables false
set_option linter.unusedSimpArgs false
set_option maxRecDepth 8000
set_option maxHeartbeats 8000000
noncomputable section
namespace Go.Ab
open Go.RowKit Go.Proofs

def c39 : MC := (sr [pT 4 (.mv cf)] (.seq (sr [mvt 6 0, zT 7 6, mvt 8 1, zT 9 8, bT 10 .neq t7 t9] (.cond t10 (sr [pT 4 (.mv cf)] .ret) .skip)) (.seq (sr [pT 5 (.mv (ci 0))] (.block 0 (.loop (.seq (sr [mvt 11 5, mvt 12 0, zT 13 12, bT 14 .lss t11 t13] (cx t14 0)) (.seq (.block 1 (sr [mP 17 t0, mP 18 t5, iF 19 17 18 3, pF 20 (.ld t19 3 true), mP 21 t1, mP 22 t5, iF 23 21 22 3, pF 24 (.ld t23 3 true), dF 25 90 [t20, t24], pF 26 (.not t25)] (.cond t26 (sr [pT 4 (.mv cf)] .ret) .skip))) (.reg [mvt 15 5, bT 16 .add t15 (ci 1), mvt 5 16])))))) (sr [pT 4 (.mv ct)] .ret))))
theorem c6Z : IsF Tryz.prog 39 c39 [(.tmp 4)] := ⟨by kernel_rfl, by kernel_rfl⟩

def M1 (v0 : List m9) (v1 : List m9) (k0 : Int → Option (Bool)) : Int → Option (Bool)
 | x1 => (bif (decide (x1 < (v0.length : Int))) then ((ix v0 x1).bind fun u0 => ((ix v1 x1).bind fun u1 => ((V0 u0 u1).bind fun u2 => (bif (!u2) then some false
 else k0 (w64 (x1 + 1))))))
 else some true)
def T0 (v0 : List m9) (v1 : List m9) : Option (Bool) :=
 (bif (decide ((v0.length : Int) ≠ (v1.length : Int))) then some false
 else loop (M1 v0 v1) 0)
@[simp] def a5X (r : Bool) : RV := .one (.one (.val (.bool r)))
theorem a6h {v0 : List m9} {v1 : List m9} {r : Bool} (hF : T0 v0 v1 = some r) : Con Tryz.prog 39 [.sl 3 (v0.map p3), .sl 3 (v1.map p3)] (a5X r) := by
 unfold T0 at hF
 refine p7 c6Z.1 fun N => ?_
 refine ws 0 64 (qb (d9 (i8 (ws 64 384 (qr (AL 3 (v0.map p3)) (qp (AI (v0.length : Int)) (j0 rfl) (qr (AL 3 (v1.map p3)) (qp (AI (v1.length : Int)) (j0 rfl) (qr (AB (decide ((v0.length : Int) ≠ (v1.length : Int)))) (d9 ?_))))))))))
 refine cF hF (fun hF => ws 384 448 (qb (d9 (j8 (f7 (eQ hF)))))) fun hF => g9 (f5 (i8 (ws 384 448 (qr (AI 0) (d9 (j7 ?_))))))
 refine wr (l' := [(0, AL 3 (v0.map p3)), (1, AL 3 (v1.map p3)), (5, AI 0)]) (L := []) [0, 1, 5] [] 1 ?_
 refine y5 (M1 v0 v1) (fun s : Int => mkS [(0, AL 3 (v0.map p3)), (1, AL 3 (v1.map p3)), (5, AI s)] (fo []) 1) hF ?_
 rintro k0 x1 hF
 rw [M1] at hF
 try dsimp only
 refine i8 (ws 1 257 (qr (AI x1) (qr (AL 3 (v0.map p3)) (qp (AI (v0.length : Int)) (j0 rfl) (qr (AB (decide (x1 < (v0.length : Int)))) (d9 ?_))))))
 refine cF hF (fun hF => ?_) fun hF => ?_
 ·
  refine g9 (f5 (i8 (j7 (ws 257 897 (qr (AL 3 (v0.map p3)) (qr (AI x1) (bk hF fun u0 e0 hF => qp (.val none (.ptr [.str u0.1, .int .i64 u0.2.1, .int .i64 u0.2.2])) (j4 rfl rfl e0 rfl) (qr (.val none (p3 u0)) (qr (AL 3 (v1.map p3)) (qr (AI x1) (bk hF fun u1 e1 hF => qp (.val none (.ptr [.str u1.1, .int .i64 u1.2.1, .int .i64 u1.2.2])) (j4 rfl rfl e1 rfl) (qr (.val none (p3 u1)) (bk hF fun u2 e2 hF => qC (AB u2) [] (a6S e2) c7l (qr (AB (!u2)) (d9 ?_)))))))))))))))
  refine cF hF (fun hF => ws 897 961 (qb (d9 (j8 (g7 (f7 (f7 (g7 (f7 (eQ hF)))))))))) fun hF => ?_
  refine g9 (p6 (f5 (y4 897 1089 rfl rfl (qr (AI x1) (qr (AI (w64 (x1 + 1))) (qr (AI (w64 (x1 + 1))) (d9 (f5 ?_))))))))
  refine ar (l' := [(0, AL 3 (v0.map p3)), (1, AL 3 (v1.map p3)), (5, AI (w64 (x1 + 1)))]) (L := []) [0, 1, 5] [] 1 ⟨_, by rfl, hF⟩
 exact z8 (j5 (j5 (s9 (f5 (ws 257 321 (qt (rR hF)))))))

def c91 : MC := (sr [rg 2 (.f (.box t0)), rg 3 (.f (.box t1)), pT 4 (.mv cf)] (.seq (sr [pT 5 (.fad t2 0), lT 6 5, pT 7 (.fad t3 0), lT 8 7, bT 9 .neq t6 t8] (.cond t9 (sr [pT 4 (.mv cf)] .ret) .skip)) (.seq (sr [pT 10 (.fad t2 1), lT 11 10, pT 12 (.fad t3 1), lT 13 12, bT 14 .neq t11 t13] (.cond t14 (sr [pT 4 (.mv cf)] .ret) .skip)) (sr [pT 4 (.mv ct)] .ret))))
theorem c7W : IsF Tryz.prog 91 c91 [(.tmp 4)] := ⟨by kernel_rfl, by kernel_rfl⟩

def S3 (v0 : j6) (v1 : j6) : Option (Bool) :=
 (bif (decide (v0.1 ≠ v1.1)) then some false
 else (bif (decide (v0.2 ≠ v1.2)) then some false
 else some true))
@[simp] def a6n (r : Bool) : RV := .one (.one (.val (.bool r)))
theorem a6j {v0 : j6} {v1 : j6} {r : Bool} (hF : S3 v0 v1 = some r) : Con Tryz.prog 91 [j3 v0, j3 v1] (a6n r) := by
 unfold S3 at hF
 refine p7 c7W.1 fun N => ?_
 refine ws 0 192 (qf (.ptr 0 0 0) [(0, .box [AI v0.1, AI v0.2])] (by simp) (qf (.ptr 64 0 0) [(64, .box [AI v1.1, AI v1.2]), (0, .box [AI v0.1, AI v0.2])] (by simp) (qb (d9 (i8 (ws 192 512 (qr (.ptr 0 0 0) (qr (AI v0.1) (qr (.ptr 64 0 0) (qr (AI v1.1) (qr (AB (decide (v0.1 ≠ v1.1))) (d9 ?_))))))))))))
 refine cF hF (fun hF => ws 512 576 (qb (d9 (j8 (f7 (eQ hF)))))) fun hF => g9 (f5 (i8 (ws 512 832 (qr (.ptr 0 0 1) (qr (AI v0.2) (qr (.ptr 64 0 1) (qr (AI v1.2) (qr (AB (decide (v0.2 ≠ v1.2))) (d9 ?_)))))))))
 refine cF hF (fun hF => ws 832 896 (qb (d9 (j8 (f7 (eQ hF)))))) fun hF => ?_
 exact g9 (f5 (ws 832 896 (qt (rR hF))))

def c40 : MC := (sr [pT 4 (.mv cf)] (.seq (sr [mvt 6 0, zT 7 6, mvt 8 1, zT 9 8, bT 10 .neq t7 t9] (.cond t10 (sr [pT 4 (.mv cf)] .ret) .skip)) (.seq (sr [pT 5 (.mv (ci 0))] (.block 0 (.loop (.seq (sr [mvt 11 5, mvt 12 0, zT 13 12, bT 14 .lss t11 t13] (cx t14 0)) (.seq (.block 1 (sr [mP 17 t0, mP 18 t5, iF 19 17 18 2, pF 20 (.ld t19 2 true), mP 21 t1, mP 22 t5, iF 23 21 22 2, pF 24 (.ld t23 2 true), dF 25 91 [t20, t24], pF 26 (.not t25)] (.cond t26 (sr [pT 4 (.mv cf)] .ret) .skip))) (.reg [mvt 15 5, bT 16 .add t15 (ci 1), mvt 5 16])))))) (sr [pT 4 (.mv ct)] .ret))))
theorem c7D : IsF Tryz.prog 40 c40 [(.tmp 4)] := ⟨by kernel_rfl, by kernel_rfl⟩

def J0 (v0 : List j6) (v1 : List j6) (k0 : Int → Option (Bool)) : Int → Option (Bool)
 | x1 => (bif (decide (x1 < (v0.length : Int))) then ((ix v0 x1).bind fun u0 => ((ix v1 x1).bind fun u1 => ((S3 u0 u1).bind fun u2 => (bif (!u2) then some false
 else k0 (w64 (x1 + 1))))))
 else some true)
def P4 (v0 : List j6) (v1 : List j6) : Option (Bool) :=
 (bif (decide ((v0.length : Int) ≠ (v1.length : Int))) then some false
 else loop (J0 v0 v1) 0)
@[simp] def a5l (r : Bool) : RV := .one (.one (.val (.bool r)))
theorem a5s {v0 : List j6} {v1 : List j6} {r : Bool} (hF : P4 v0 v1 = some r) : Con Tryz.prog 40 [.sl 2 (v0.map j3), .sl 2 (v1.map j3)] (a5l r) := by
 unfold P4 at hF
 refine p7 c7D.1 fun N => ?_
 refine ws 0 64 (qb (d9 (i8 (ws 64 384 (qr (AL 2 (v0.map j3)) (qp (AI (v0.length : Int)) (j0 rfl) (qr (AL 2 (v1.map j3)) (qp (AI (v1.length : Int)) (j0 rfl) (qr (AB (decide ((v0.length : Int) ≠ (v1.length : Int)))) (d9 ?_))))))))))
 refine cF hF (fun hF => ws 384 448 (qb (d9 (j8 (f7 (eQ hF)))))) fun hF => g9 (f5 (i8 (ws 384 448 (qr (AI 0) (d9 (j7 ?_))))))
 refine wr (l' := [(0, AL 2 (v0.map j3)), (1, AL 2 (v1.map j3)), (5, AI 0)]) (L := []) [0, 1, 5] [] 1 ?_
 refine y5 (J0 v0 v1) (fun s : Int => mkS [(0, AL 2 (v0.map j3)), (1, AL 2 (v1.map j3)), (5, AI s)] (fo []) 1) hF ?_
 rintro k0 x1 hF
 rw [J0] at hF
 try dsimp only
 refine i8 (ws 1 257 (qr (AI x1) (qr (AL 2 (v0.map j3)) (qp (AI (v0.length : Int)) (j0 rfl) (qr (AB (decide (x1 < (v0.length : Int)))) (d9 ?_))))))
 refine cF hF (fun hF => ?_) fun hF => ?_
 ·
  refine g9 (f5 (i8 (j7 (ws 257 897 (qr (AL 2 (v0.map j3)) (qr (AI x1) (bk hF fun u0 e0 hF => qp (.val none (.ptr [.int .i64 u0.1, .int .i64 u0.2])) (j4 rfl rfl e0 rfl) (qr (.val none (j3 u0)) (qr (AL 2 (v1.map j3)) (qr (AI x1) (bk hF fun u1 e1 hF => qp (.val none (.ptr [.int .i64 u1.1, .int .i64 u1.2])) (j4 rfl rfl e1 rfl) (qr (.val none (j3 u1)) (bk hF fun u2 e2 hF => qC (AB u2) [] (a6j e2) c7W (qr (AB (!u2)) (d9 ?_)))))))))))))))
  refine cF hF (fun hF => ws 897 961 (qb (d9 (j8 (g7 (f7 (f7 (g7 (f7 (eQ hF)))))))))) fun hF => ?_
  refine g9 (p6 (f5 (y4 897 1089 rfl rfl (qr (AI x1) (qr (AI (w64 (x1 + 1))) (qr (AI (w64 (x1 + 1))) (d9 (f5 ?_))))))))
  refine ar (l' := [(0, AL 2 (v0.map j3)), (1, AL 2 (v1.map j3)), (5, AI (w64 (x1 + 1)))]) (L := []) [0, 1, 5] [] 1 ⟨_, by rfl, hF⟩
 exact z8 (j5 (j5 (s9 (f5 (ws 257 321 (qt (rR hF)))))))

def c92 : MC := (sr [rg 2 (.f (.box t0)), rg 3 (.f (.box t1)), pT 4 (.mv cf)] (.seq (sr [pT 5 (.fad t2 0), lT 6 5, pT 7 (.fad t3 0), lT 8 7, bT 9 .neq t6 t8] (.cond t9 (sr [pT 4 (.mv cf)] .ret) .skip)) (.seq (sr [pT 10 (.fad t2 1), lT 11 10, pT 12 (.fad t3 1), lT 13 12, bT 14 .neq t11 t13] (.cond t14 (sr [pT 4 (.mv cf)] .ret) .skip)) (.seq (sr [pT 15 (.fad t2 2), lT 16 15, pT 17 (.fad t3 2), lT 18 17, bT 19 .neq t16 t18] (.cond t19 (sr [pT 4 (.mv cf)] .ret) .skip)) (.seq (sr [pT 20 (.fad t2 3), lT 21 20, pT 22 (.fad t3 3), lT 23 22, bT 24 .neq t21 t23] (.cond t24 (sr [pT 4 (.mv cf)] .ret) .skip)) (.seq (sr [pT 25 (.fad t2 4), lT 26 25, pT 27 (.fad t3 4), lT 28 27, bT 29 .neq t26 t28] (.cond t29 (sr [pT 4 (.mv cf)] .ret) .skip)) (.seq (sr [pT 30 (.fad t2 5), lT 31 30, pT 32 (.fad t3 5), lT 33 32, bT 34 .neq t31 t33] (.cond t34 (sr [pT 4 (.mv cf)] .ret) .skip)) (sr [pT 4 (.mv ct)] .ret))))))))
theorem c8x : IsF Tryz.prog 92 c92 [(.tmp 4)] := ⟨by kernel_rfl, by kernel_rfl⟩

def a1E (v0 : y6) (v1 : y6) : Option (Bool) :=
 (bif (decide (v0.1 ≠ v1.1)) then some false
 else (bif (decide (v0.2.1 ≠ v1.2.1)) then some false
 else (bif (decide (v0.2.2.1 ≠ v1.2.2.1)) then some false
 else (bif (decide (v0.2.2.2.1 ≠ v1.2.2.2.1)) then some false
 else (bif (decide (v0.2.2.2.2.1 ≠ v1.2.2.2.2.1)) then some false
 else (bif (decide (v0.2.2.2.2.2 ≠ v1.2.2.2.2.2)) then some false
 else some true))))))
@[simp] abbrev K6n (v0 : y6) : List (Nat × Root) := [(0, .box [AS v0.1, AI v0.2.1, AI v0.2.2.1, AI v0.2.2.2.1, AI v0.2.2.2.2.1, AI v0.2.2.2.2.2])]
@[simp] def b2d (r : Bool) : RV := .one (.one (.val (.bool r)))
theorem b2i {v0 : y6} {v1 : y6} {r : Bool} (hF : a1E v0 v1 = some r) : Con Tryz.prog 92 [A1 v0, A1 v1] (b2d r) := by
 unfold a1E at hF
 refine p7 c8x.1 fun N => ?_
 refine ws 0 192 (qf (.ptr 0 0 0) (K6n v0) (by simp) (qf (.ptr 64 0 0) ((64, .box [AS v1.1, AI v1.2.1, AI v1.2.2.1, AI v1.2.2.2.1, AI v1.2.2.2.2.1, AI v1.2.2.2.2.2]) :: (K6n v0)) (by simp) (qb (d9 (i8 (ws 192 512 (qr (.ptr 0 0 0) (qr (AS v0.1) (qr (.ptr 64 0 0) (qr (AS v1.1) (qr (AB (decide (v0.1 ≠ v1.1))) (d9 ?_))))))))))))
 refine cF hF (fun hF => ws 512 576 (qb (d9 (j8 (f7 (eQ hF)))))) fun hF => g9 (f5 (i8 (ws 512 832 (qr (.ptr 0 0 1) (qr (AI v0.2.1) (qr (.ptr 64 0 1) (qr (AI v1.2.1) (qr (AB (decide (v0.2.1 ≠ v1.2.1))) (d9 ?_)))))))))
 refine cF hF (fun hF => ws 832 896 (qb (d9 (j8 (f7 (eQ hF)))))) fun hF => g9 (f5 (i8 (ws 832 1152 (qr (.ptr 0 0 2) (qr (AI v0.2.2.1) (qr (.ptr 64 0 2) (qr (AI v1.2.2.1) (qr (AB (decide (v0.2.2.1 ≠ v1.2.2.1))) (d9 ?_)))))))))
 refine cF hF (fun hF => ws 1152 1216 (qb (d9 (j8 (f7 (eQ hF)))))) fun hF => g9 (f5 (i8 (ws 1152 1472 (qr (.ptr 0 0 3) (qr (AI v0.2.2.2.1) (qr (.ptr 64 0 3) (qr (AI v1.2.2.2.1) (qr (AB (decide (v0.2.2.2.1 ≠ v1.2.2.2.1))) (d9 ?_)))))))))
 refine cF hF (fun hF => ws 1472 1536 (qb (d9 (j8 (f7 (eQ hF)))))) fun hF => g9 (f5 (i8 (ws 1472 1792 (qr (.ptr 0 0 4) (qr (AI v0.2.2.2.2.1) (qr (.ptr 64 0 4) (qr (AI v1.2.2.2.2.1) (qr (AB (decide (v0.2.2.2.2.1 ≠ v1.2.2.2.2.1))) (d9 ?_)))))))))
 refine cF hF (fun hF => ws 1792 1856 (qb (d9 (j8 (f7 (eQ hF)))))) fun hF => g9 (f5 (i8 (ws 1792 2112 (qr (.ptr 0 0 5) (qr (AI v0.2.2.2.2.2) (qr (.ptr 64 0 5) (qr (AI v1.2.2.2.2.2) (qr (AB (decide (v0.2.2.2.2.2 ≠ v1.2.2.2.2.2))) (d9 ?_)))))))))
 refine cF hF (fun hF => ws 2112 2176 (qb (d9 (j8 (f7 (eQ hF)))))) fun hF => ?_
 exact g9 (f5 (ws 2112 2176 (qt (rR hF))))

def c41 : MC := (sr [pT 4 (.mv cf)] (.seq (sr [mvt 6 0, zT 7 6, mvt 8 1, zT 9 8, bT 10 .neq t7 t9] (.cond t10 (sr [pT 4 (.mv cf)] .ret) .skip)) (.seq (sr [pT 5 (.mv (ci 0))] (.block 0 (.loop (.seq (sr [mvt 11 5, mvt 12 0, zT 13 12, bT 14 .lss t11 t13] (cx t14 0)) (.seq (.block 1 (sr [mP 17 t0, mP 18 t5, iF 19 17 18 6, pF 20 (.ld t19 6 true), mP 21 t1, mP 22 t5, iF 23 21 22 6, pF 24 (.ld t23 6 true), dF 25 92 [t20, t24], pF 26 (.not t25)] (.cond t26 (sr [pT 4 (.mv cf)] .ret) .skip))) (.reg [mvt 15 5, bT 16 .add t15 (ci 1), mvt 5 16])))))) (sr [pT 4 (.mv ct)] .ret))))
theorem c8t : IsF Tryz.prog 41 c41 [(.tmp 4)] := ⟨by kernel_rfl, by kernel_rfl⟩

def W0 (v0 : List y6) (v1 : List y6) (k0 : Int → Option (Bool)) : Int → Option (Bool)
 | x1 => (bif (decide (x1 < (v0.length : Int))) then ((ix v0 x1).bind fun u0 => ((ix v1 x1).bind fun u1 => ((a1E u0 u1).bind fun u2 => (bif (!u2) then some false
 else k0 (w64 (x1 + 1))))))
 else some true)
def a1h (v0 : List y6) (v1 : List y6) : Option (Bool) :=
 (bif (decide ((v0.length : Int) ≠ (v1.length : Int))) then some false
 else loop (W0 v0 v1) 0)
@[simp] def b0X (r : Bool) : RV := .one (.one (.val (.bool r)))
theorem b0N {v0 : List y6} {v1 : List y6} {r : Bool} (hF : a1h v0 v1 = some r) : Con Tryz.prog 41 [.sl 6 (v0.map A1), .sl 6 (v1.map A1)] (b0X r) := by
 unfold a1h at hF
 refine p7 c8t.1 fun N => ?_
 refine ws 0 64 (qb (d9 (i8 (ws 64 384 (qr (AL 6 (v0.map A1)) (qp (AI (v0.length : Int)) (j0 rfl) (qr (AL 6 (v1.map A1)) (qp (AI (v1.length : Int)) (j0 rfl) (qr (AB (decide ((v0.length : Int) ≠ (v1.length : Int)))) (d9 ?_))))))))))
 refine cF hF (fun hF => ws 384 448 (qb (d9 (j8 (f7 (eQ hF)))))) fun hF => g9 (f5 (i8 (ws 384 448 (qr (AI 0) (d9 (j7 ?_))))))
 refine wr (l' := [(0, AL 6 (v0.map A1)), (1, AL 6 (v1.map A1)), (5, AI 0)]) (L := []) [0, 1, 5] [] 1 ?_
 refine y5 (W0 v0 v1) (fun s : Int => mkS [(0, AL 6 (v0.map A1)), (1, AL 6 (v1.map A1)), (5, AI s)] (fo []) 1) hF ?_
 rintro k0 x1 hF
 rw [W0] at hF
 try dsimp only
 refine i8 (ws 1 257 (qr (AI x1) (qr (AL 6 (v0.map A1)) (qp (AI (v0.length : Int)) (j0 rfl) (qr (AB (decide (x1 < (v0.length : Int)))) (d9 ?_))))))
 refine cF hF (fun hF => ?_) fun hF => ?_
 ·
  refine g9 (f5 (i8 (j7 (ws 257 897 (qr (AL 6 (v0.map A1)) (qr (AI x1) (bk hF fun u0 e0 hF => qp (.val none (.ptr [.str u0.1, .int .i64 u0.2.1, .int .i64 u0.2.2.1, .int .i64 u0.2.2.2.1, .int .i64 u0.2.2.2.2.1, .int .i64 u0.2.2.2.2.2])) (j4 rfl rfl e0 rfl) (qr (.val none (A1 u0)) (qr (AL 6 (v1.map A1)) (qr (AI x1) (bk hF fun u1 e1 hF => qp (.val none (.ptr [.str u1.1, .int .i64 u1.2.1, .int .i64 u1.2.2.1, .int .i64 u1.2.2.2.1, .int .i64 u1.2.2.2.2.1, .int .i64 u1.2.2.2.2.2])) (j4 rfl rfl e1 rfl) (qr (.val none (A1 u1)) (bk hF fun u2 e2 hF => qC (AB u2) [] (b2i e2) c8x (qr (AB (!u2)) (d9 ?_)))))))))))))))
  refine cF hF (fun hF => ws 897 961 (qb (d9 (j8 (g7 (f7 (f7 (g7 (f7 (eQ hF)))))))))) fun hF => ?_
  refine g9 (p6 (f5 (y4 897 1089 rfl rfl (qr (AI x1) (qr (AI (w64 (x1 + 1))) (qr (AI (w64 (x1 + 1))) (d9 (f5 ?_))))))))
  refine ar (l' := [(0, AL 6 (v0.map A1)), (1, AL 6 (v1.map A1)), (5, AI (w64 (x1 + 1)))]) (L := []) [0, 1, 5] [] 1 ⟨_, by rfl, hF⟩
 exact z8 (j5 (j5 (s9 (f5 (ws 257 321 (qt (rR hF)))))))

def c93 : MC := (sr [rg 2 (.f (.box t0)), rg 3 (.f (.box t1)), pT 4 (.mv cf)] (.seq (sr [pT 5 (.fad t2 0), lT 6 5, pT 7 (.fad t3 0), lT 8 7, bT 9 .neq t6 t8] (.cond t9 (sr [pT 4 (.mv cf)] .ret) .skip)) (.seq (sr [pT 10 (.fad t2 1), lT 11 10, pT 12 (.fad t3 1), lT 13 12, bT 14 .neq t11 t13] (.cond t14 (sr [pT 4 (.mv cf)] .ret) .skip)) (.seq (sr [pT 15 (.fad t2 2), lT 16 15, pT 17 (.fad t3 2), lT 18 17, bT 19 .neq t16 t18] (.cond t19 (sr [pT 4 (.mv cf)] .ret) .skip)) (.seq (sr [pT 20 (.fad t2 3), lT 21 20, pT 22 (.fad t3 3), lT 23 22, bT 24 .neq t21 t23] (.cond t24 (sr [pT 4 (.mv cf)] .ret) .skip)) (.seq (sr [pT 25 (.fad t2 4), lT 26 25, pT 27 (.fad t3 4), lT 28 27, bT 29 .neq t26 t28] (.cond t29 (sr [pT 4 (.mv cf)] .ret) .skip)) (sr [pT 4 (.mv ct)] .ret)))))))
theorem c8q : IsF Tryz.prog 93 c93 [(.tmp 4)] := ⟨by kernel_rfl, by kernel_rfl⟩

def a0h (v0 : n9) (v1 : n9) : Option (Bool) :=
 (bif (decide (v0.1 ≠ v1.1)) then some false
 else (bif (decide (v0.2.1 ≠ v1.2.1)) then some false
 else (bif (decide (v0.2.2.1 ≠ v1.2.2.1)) then some false
 else (bif (decide (v0.2.2.2.1 ≠ v1.2.2.2.1)) then some false
 else (bif (decide (v0.2.2.2.2 ≠ v1.2.2.2.2)) then some false
 else some true)))))
@[simp] abbrev K6o (v0 : n9) : List (Nat × Root) := [(0, .box [AI v0.1, AS v0.2.1, AS v0.2.2.1, AI v0.2.2.2.1, AI v0.2.2.2.2])]
@[simp] def a9o (r : Bool) : RV := .one (.one (.val (.bool r)))
theorem a8V {v0 : n9} {v1 : n9} {r : Bool} (hF : a0h v0 v1 = some r) : Con Tryz.prog 93 [p8 v0, p8 v1] (a9o r) := by
 unfold a0h at hF
 refine p7 c8q.1 fun N => ?_
 refine ws 0 192 (qf (.ptr 0 0 0) (K6o v0) (by simp) (qf (.ptr 64 0 0) ((64, .box [AI v1.1, AS v1.2.1, AS v1.2.2.1, AI v1.2.2.2.1, AI v1.2.2.2.2]) :: (K6o v0)) (by simp) (qb (d9 (i8 (ws 192 512 (qr (.ptr 0 0 0) (qr (AI v0.1) (qr (.ptr 64 0 0) (qr (AI v1.1) (qr (AB (decide (v0.1 ≠ v1.1))) (d9 ?_))))))))))))
 refine cF hF (fun hF => ws 512 576 (qb (d9 (j8 (f7 (eQ hF)))))) fun hF => g9 (f5 (i8 (ws 512 832 (qr (.ptr 0 0 1) (qr (AS v0.2.1) (qr (.ptr 64 0 1) (qr (AS v1.2.1) (qr (AB (decide (v0.2.1 ≠ v1.2.1))) (d9 ?_)))))))))
 refine cF hF (fun hF => ws 832 896 (qb (d9 (j8 (f7 (eQ hF)))))) fun hF => g9 (f5 (i8 (ws 832 1152 (qr (.ptr 0 0 2) (qr (AS v0.2.2.1) (qr (.ptr 64 0 2) (qr (AS v1.2.2.1) (qr (AB (decide (v0.2.2.1 ≠ v1.2.2.1))) (d9 ?_)))))))))
 refine cF hF (fun hF => ws 1152 1216 (qb (d9 (j8 (f7 (eQ hF)))))) fun hF => g9 (f5 (i8 (ws 1152 1472 (qr (.ptr 0 0 3) (qr (AI v0.2.2.2.1) (qr (.ptr 64 0 3) (qr (AI v1.2.2.2.1) (qr (AB (decide (v0.2.2.2.1 ≠ v1.2.2.2.1))) (d9 ?_)))))))))
 refine cF hF (fun hF => ws 1472 1536 (qb (d9 (j8 (f7 (eQ hF)))))) fun hF => g9 (f5 (i8 (ws 1472 1792 (qr (.ptr 0 0 4) (qr (AI v0.2.2.2.2) (qr (.ptr 64 0 4) (qr (AI v1.2.2.2.2) (qr (AB (decide (v0.2.2.2.2 ≠ v1.2.2.2.2))) (d9 ?_)))))))))
 refine cF hF (fun hF => ws 1792 1856 (qb (d9 (j8 (f7 (eQ hF)))))) fun hF => ?_
 exact g9 (f5 (ws 1792 1856 (qt (rR hF))))

def c42 : MC := (sr [pT 4 (.mv cf)] (.seq (sr [mvt 6 0, zT 7 6, mvt 8 1, zT 9 8, bT 10 .neq t7 t9] (.cond t10 (sr [pT 4 (.mv cf)] .ret) .skip)) (.seq (sr [pT 5 (.mv (ci 0))] (.block 0 (.loop (.seq (sr [mvt 11 5, mvt 12 0, zT 13 12, bT 14 .lss t11 t13] (cx t14 0)) (.seq (.block 1 (sr [mP 17 t0, mP 18 t5, iF 19 17 18 5, pF 20 (.ld t19 5 true), mP 21 t1, mP 22 t5, iF 23 21 22 5, pF 24 (.ld t23 5 true), dF 25 93 [t20, t24], pF 26 (.not t25)] (.cond t26 (sr [pT 4 (.mv cf)] .ret) .skip))) (.reg [mvt 15 5, bT 16 .add t15 (ci 1), mvt 5 16])))))) (sr [pT 4 (.mv ct)] .ret))))
theorem c7F : IsF Tryz.prog 42 c42 [(.tmp 4)] := ⟨by kernel_rfl, by kernel_rfl⟩

def P8 (v0 : List n9) (v1 : List n9) (k0 : Int → Option (Bool)) : Int → Option (Bool)
 | x1 => (bif (decide (x1 < (v0.length : Int))) then ((ix v0 x1).bind fun u0 => ((ix v1 x1).bind fun u1 => ((a0h u0 u1).bind fun u2 => (bif (!u2) then some false
 else k0 (w64 (x1 + 1))))))
 else some true)
def Y9 (v0 : List n9) (v1 : List n9) : Option (Bool) :=
 (bif (decide ((v0.length : Int) ≠ (v1.length : Int))) then some false
 else loop (P8 v0 v1) 0)
@[simp] def a8e (r : Bool) : RV := .one (.one (.val (.bool r)))
theorem a7S {v0 : List n9} {v1 : List n9} {r : Bool} (hF : Y9 v0 v1 = some r) : Con Tryz.prog 42 [.sl 5 (v0.map p8), .sl 5 (v1.map p8)] (a8e r) := by
 unfold Y9 at hF
 refine p7 c7F.1 fun N => ?_
 refine ws 0 64 (qb (d9 (i8 (ws 64 384 (qr (AL 5 (v0.map p8)) (qp (AI (v0.length : Int)) (j0 rfl) (qr (AL 5 (v1.map p8)) (qp (AI (v1.length : Int)) (j0 rfl) (qr (AB (decide ((v0.length : Int) ≠ (v1.length : Int)))) (d9 ?_))))))))))
 refine cF hF (fun hF => ws 384 448 (qb (d9 (j8 (f7 (eQ hF)))))) fun hF => g9 (f5 (i8 (ws 384 448 (qr (AI 0) (d9 (j7 ?_))))))
 refine wr (l' := [(0, AL 5 (v0.map p8)), (1, AL 5 (v1.map p8)), (5, AI 0)]) (L := []) [0, 1, 5] [] 1 ?_
 refine y5 (P8 v0 v1) (fun s : Int => mkS [(0, AL 5 (v0.map p8)), (1, AL 5 (v1.map p8)), (5, AI s)] (fo []) 1) hF ?_
 rintro k0 x1 hF
 rw [P8] at hF
 try dsimp only
 refine i8 (ws 1 257 (qr (AI x1) (qr (AL 5 (v0.map p8)) (qp (AI (v0.length : Int)) (j0 rfl) (qr (AB (decide (x1 < (v0.length : Int)))) (d9 ?_))))))
 refine cF hF (fun hF => ?_) fun hF => ?_
 ·
  refine g9 (f5 (i8 (j7 (ws 257 897 (qr (AL 5 (v0.map p8)) (qr (AI x1) (bk hF fun u0 e0 hF => qp (.val none (.ptr [.int .i64 u0.1, .str u0.2.1, .str u0.2.2.1, .int .i64 u0.2.2.2.1, .int .i64 u0.2.2.2.2])) (j4 rfl rfl e0 rfl) (qr (.val none (p8 u0)) (qr (AL 5 (v1.map p8)) (qr (AI x1) (bk hF fun u1 e1 hF => qp (.val none (.ptr [.int .i64 u1.1, .str u1.2.1, .str u1.2.2.1, .int .i64 u1.2.2.2.1, .int .i64 u1.2.2.2.2])) (j4 rfl rfl e1 rfl) (qr (.val none (p8 u1)) (bk hF fun u2 e2 hF => qC (AB u2) [] (a8V e2) c8q (qr (AB (!u2)) (d9 ?_)))))))))))))))
  refine cF hF (fun hF => ws 897 961 (qb (d9 (j8 (g7 (f7 (f7 (g7 (f7 (eQ hF)))))))))) fun hF => ?_
  refine g9 (p6 (f5 (y4 897 1089 rfl rfl (qr (AI x1) (qr (AI (w64 (x1 + 1))) (qr (AI (w64 (x1 + 1))) (d9 (f5 ?_))))))))
  refine ar (l' := [(0, AL 5 (v0.map p8)), (1, AL 5 (v1.map p8)), (5, AI (w64 (x1 + 1)))]) (L := []) [0, 1, 5] [] 1 ⟨_, by rfl, hF⟩
 exact z8 (j5 (j5 (s9 (f5 (ws 257 321 (qt (rR hF)))))))

def c94 : MC := (sr [rg 2 (.f (.box t0)), rg 3 (.f (.box t1)), pT 4 (.mv cf)] (.seq (sr [pT 5 (.fad t2 0), lT 6 5, pT 7 (.fad t3 0), lT 8 7, bT 9 .neq t6 t8] (.cond t9 (sr [pT 4 (.mv cf)] .ret) .skip)) (.seq (sr [pT 10 (.fad t2 1), lT 11 10, pT 12 (.fad t3 1), lT 13 12, bT 14 .neq t11 t13] (.cond t14 (sr [pT 4 (.mv cf)] .ret) .skip)) (.seq (sr [pT 15 (.fad t2 2), lT 16 15, pT 17 (.fad t3 2), lT 18 17, dT 19 8 [t16, t18], pT 20 (.not t19)] (.cond t20 (sr [pT 4 (.mv cf)] .ret) .skip)) (sr [pT 4 (.mv ct)] .ret)))))
theorem c8F : IsF Tryz.prog 94 c94 [(.tmp 4)] := ⟨by kernel_rfl, by kernel_rfl⟩

def a0q (v0 : p4) (v1 : p4) : Option (Bool) :=
 (bif (decide (v0.1 ≠ v1.1)) then some false
 else (bif (decide (v0.2.1 ≠ v1.2.1)) then some false
 else ((I0 v0.2.2 v1.2.2).bind fun u0 => (bif (!u0) then some false
 else some true))))
@[simp] abbrev K6p (v0 : p4) : List (Nat × Root) := [(0, .box [AS v0.1, AI v0.2.1, AL 1 (v0.2.2.map V.str)])]
@[simp] abbrev K6q (v1 : p4) (v0 : p4) : List (Nat × Root) := ((64, .box [AS v1.1, AI v1.2.1, AL 1 (v1.2.2.map V.str)]) :: (K6p v0))
@[simp] def a9Q (r : Bool) : RV := .one (.one (.val (.bool r)))
theorem a9m {v0 : p4} {v1 : p4} {r : Bool} (hF : a0q v0 v1 = some r) : Con Tryz.prog 94 [p9 v0, p9 v1] (a9Q r) := by
 unfold a0q at hF
 refine p7 c8F.1 fun N => ?_
 refine ws 0 192 (qf (.ptr 0 0 0) (K6p v0) (by simp) (qf (.ptr 64 0 0) (K6q v1 v0) (by simp) (qb (d9 (i8 (ws 192 512 (qr (.ptr 0 0 0) (qr (AS v0.1) (qr (.ptr 64 0 0) (qr (AS v1.1) (qr (AB (decide (v0.1 ≠ v1.1))) (d9 ?_))))))))))))
 refine cF hF (fun hF => ws 512 576 (qb (d9 (j8 (f7 (eQ hF)))))) fun hF => g9 (f5 (i8 (ws 512 832 (qr (.ptr 0 0 1) (qr (AI v0.2.1) (qr (.ptr 64 0 1) (qr (AI v1.2.1) (qr (AB (decide (v0.2.1 ≠ v1.2.1))) (d9 ?_)))))))))
 refine cF hF (fun hF => ws 832 896 (qb (d9 (j8 (f7 (eQ hF)))))) fun hF => g9 (f5 (i8 (ws 832 1216 (qr (.ptr 0 0 2) (qr (AL 1 (v0.2.2.map V.str)) (qr (.ptr 64 0 2) (qr (AL 1 (v1.2.2.map V.str)) (bk hF fun u0 e0 hF => qC (AB u0) (K6q v1 v0) (Z9 e0) c8_ (qr (AB (!u0)) (d9 ?_))))))))))
 refine cF hF (fun hF => ws 1216 1280 (qb (d9 (j8 (f7 (eQ hF)))))) fun hF => ?_
 exact g9 (f5 (ws 1216 1280 (qt (rR hF))))

def c43 : MC := (sr [pT 4 (.mv cf)] (.seq (sr [mvt 6 0, zT 7 6, mvt 8 1, zT 9 8, bT 10 .neq t7 t9] (.cond t10 (sr [pT 4 (.mv cf)] .ret) .skip)) (.seq (sr [pT 5 (.mv (ci 0))] (.block 0 (.loop (.seq (sr [mvt 11 5, mvt 12 0, zT 13 12, bT 14 .lss t11 t13] (cx t14 0)) (.seq (.block 1 (sr [mP 17 t0, mP 18 t5, iF 19 17 18 3, pF 20 (.ld t19 3 true), mP 21 t1, mP 22 t5, iF 23 21 22 3, pF 24 (.ld t23 3 true), dF 25 94 [t20, t24], pF 26 (.not t25)] (.cond t26 (sr [pT 4 (.mv cf)] .ret) .skip))) (.reg [mvt 15 5, bT 16 .add t15 (ci 1), mvt 5 16])))))) (sr [pT 4 (.mv ct)] .ret))))
theorem c8h : IsF Tryz.prog 43 c43 [(.tmp 4)] := ⟨by kernel_rfl, by kernel_rfl⟩

def P1 (v0 : List p4) (v1 : List p4) (k0 : Int → Option (Bool)) : Int → Option (Bool)
 | x1 => (bif (decide (x1 < (v0.length : Int))) then ((ix v0 x1).bind fun u0 => ((ix v1 x1).bind fun u1 => ((a0q u0 u1).bind fun u2 => (bif (!u2) then some false
 else k0 (w64 (x1 + 1))))))
 else some true)
def Z3 (v0 : List p4) (v1 : List p4) : Option (Bool) :=
 (bif (decide ((v0.length : Int) ≠ (v1.length : Int))) then some false
 else loop (P1 v0 v1) 0)
@[simp] def a7F (r : Bool) : RV := .one (.one (.val (.bool r)))
theorem a8o {v0 : List p4} {v1 : List p4} {r : Bool} (hF : Z3 v0 v1 = some r) : Con Tryz.prog 43 [.sl 3 (v0.map p9), .sl 3 (v1.map p9)] (a7F r) := by
 unfold Z3 at hF
 refine p7 c8h.1 fun N => ?_
 refine ws 0 64 (qb (d9 (i8 (ws 64 384 (qr (AL 3 (v0.map p9)) (qp (AI (v0.length : Int)) (j0 rfl) (qr (AL 3 (v1.map p9)) (qp (AI (v1.length : Int)) (j0 rfl) (qr (AB (decide ((v0.length : Int) ≠ (v1.length : Int)))) (d9 ?_))))))))))
 refine cF hF (fun hF => ws 384 448 (qb (d9 (j8 (f7 (eQ hF)))))) fun hF => g9 (f5 (i8 (ws 384 448 (qr (AI 0) (d9 (j7 ?_))))))
 refine wr (l' := [(0, AL 3 (v0.map p9)), (1, AL 3 (v1.map p9)), (5, AI 0)]) (L := []) [0, 1, 5] [] 1 ?_
 refine y5 (P1 v0 v1) (fun s : Int => mkS [(0, AL 3 (v0.map p9)), (1, AL 3 (v1.map p9)), (5, AI s)] (fo []) 1) hF ?_
 rintro k0 x1 hF
 rw [P1] at hF
 try dsimp only
 refine i8 (ws 1 257 (qr (AI x1) (qr (AL 3 (v0.map p9)) (qp (AI (v0.length : Int)) (j0 rfl) (qr (AB (decide (x1 < (v0.length : Int)))) (d9 ?_))))))
 refine cF hF (fun hF => ?_) fun hF => ?_
 ·
  refine g9 (f5 (i8 (j7 (ws 257 897 (qr (AL 3 (v0.map p9)) (qr (AI x1) (bk hF fun u0 e0 hF => qp (.val none (.ptr [.str u0.1, .int .i64 u0.2.1, .sl 1 (u0.2.2.map V.str)])) (j4 rfl rfl e0 rfl) (qr (.val none (p9 u0)) (qr (AL 3 (v1.map p9)) (qr (AI x1) (bk hF fun u1 e1 hF => qp (.val none (.ptr [.str u1.1, .int .i64 u1.2.1, .sl 1 (u1.2.2.map V.str)])) (j4 rfl rfl e1 rfl) (qr (.val none (p9 u1)) (bk hF fun u2 e2 hF => qC (AB u2) [] (a9m e2) c8F (qr (AB (!u2)) (d9 ?_)))))))))))))))
  refine cF hF (fun hF => ws 897 961 (qb (d9 (j8 (g7 (f7 (f7 (g7 (f7 (eQ hF)))))))))) fun hF => ?_
  refine g9 (p6 (f5 (y4 897 1089 rfl rfl (qr (AI x1) (qr (AI (w64 (x1 + 1))) (qr (AI (w64 (x1 + 1))) (d9 (f5 ?_))))))))
  refine ar (l' := [(0, AL 3 (v0.map p9)), (1, AL 3 (v1.map p9)), (5, AI (w64 (x1 + 1)))]) (L := []) [0, 1, 5] [] 1 ⟨_, by rfl, hF⟩
 exact z8 (j5 (j5 (s9 (f5 (ws 257 321 (qt (rR hF)))))))

def c9 : MC := (sr [rg 2 (.f (.box t0)), rg 3 (.f (.box t1)), pT 4 (.mv cf)] (.seq (sr [pT 5 (.fad t2 0), pT 6 (.ld t5 6 true), pT 7 (.fad t3 0), pT 8 (.ld t7 6 true), dT 9 35 [t6, t8], pT 10 (.not t9)] (.cond t10 (sr [pT 4 (.mv cf)] .ret) .skip)) (.seq (sr [pT 11 (.fad t2 6), lT 12 11, pT 13 (.fad t3 6), lT 14 13, dT 15 36 [t12, t14], pT 16 (.not t15)] (.cond t16 (sr [pT 4 (.mv cf)] .ret) .skip)) (.seq (sr [pT 17 (.fad t2 7), pT 18 (.ld t17 2 true), pT 19 (.fad t3 7), pT 20 (.ld t19 2 true), dT 21 37 [t18, t20], pT 22 (.not t21)] (.cond t22 (sr [pT 4 (.mv cf)] .ret) .skip)) (.seq (sr [pT 23 (.fad t2 9), lT 24 23, pT 25 (.fad t3 9), lT 26 25, dT 27 38 [t24, t26], pT 28 (.not t27)] (.cond t28 (sr [pT 4 (.mv cf)] .ret) .skip)) (.seq (sr [pT 29 (.fad t2 10), lT 30 29, pT 31 (.fad t3 10), lT 32 31, dT 33 39 [t30, t32], pT 34 (.not t33)] (.cond t34 (sr [pT 4 (.mv cf)] .ret) .skip)) (.seq (sr [pT 35 (.fad t2 11), lT 36 35, pT 37 (.fad t3 11), lT 38 37, dT 39 40 [t36, t38], pT 40 (.not t39)] (.cond t40 (sr [pT 4 (.mv cf)] .ret) .skip)) (.seq (sr [pT 41 (.fad t2 12), lT 42 41, pT 43 (.fad t3 12), lT 44 43, dT 45 41 [t42, t44], pT 46 (.not t45)] (.cond t46 (sr [pT 4 (.mv cf)] .ret) .skip)) (.seq (sr [pT 47 (.fad t2 13), lT 48 47, pT 49 (.fad t3 13), lT 50 49, dT 51 42 [t48, t50], pT 52 (.not t51)] (.cond t52 (sr [pT 4 (.mv cf)] .ret) .skip)) (.seq (sr [pT 53 (.fad t2 14), lT 54 53, pT 55 (.fad t3 14), lT 56 55, dT 57 43 [t54, t56], pT 58 (.not t57)] (.cond t58 (sr [pT 4 (.mv cf)] .ret) .skip)) (sr [pT 4 (.mv ct)] .ret)))))))))))
theorem c9_ : IsF Tryz.prog 9 c9 [(.tmp 4)] := ⟨by kernel_rfl, by kernel_rfl⟩

def a1z (v0 : y8) (v1 : y8) : Option (Bool) :=
 ((a1H (v0.1, v0.2.1, v0.2.2.1, v0.2.2.2.1, v0.2.2.2.2.1, v0.2.2.2.2.2.1) (v1.1, v1.2.1, v1.2.2.1, v1.2.2.2.1, v1.2.2.2.2.1, v1.2.2.2.2.2.1)).bind fun u0 => (bif (!u0) then some false
 else ((a1a v0.2.2.2.2.2.2.1 v1.2.2.2.2.2.2.1).bind fun u1 => (bif (!u1) then some false
 else ((a0g (v0.2.2.2.2.2.2.2.1, v0.2.2.2.2.2.2.2.2.1) (v1.2.2.2.2.2.2.2.1, v1.2.2.2.2.2.2.2.2.1)).bind fun u2 => (bif (!u2) then some false
 else ((Q8 v0.2.2.2.2.2.2.2.2.2.1 v1.2.2.2.2.2.2.2.2.2.1).bind fun u3 => (bif (!u3) then some false
 else ((T0 v0.2.2.2.2.2.2.2.2.2.2.1 v1.2.2.2.2.2.2.2.2.2.2.1).bind fun u4 => (bif (!u4) then some false
 else ((P4 v0.2.2.2.2.2.2.2.2.2.2.2.1 v1.2.2.2.2.2.2.2.2.2.2.2.1).bind fun u5 => (bif (!u5) then some false
 else ((a1h v0.2.2.2.2.2.2.2.2.2.2.2.2.1 v1.2.2.2.2.2.2.2.2.2.2.2.2.1).bind fun u6 => (bif (!u6) then some false
 else ((Y9 v0.2.2.2.2.2.2.2.2.2.2.2.2.2.1 v1.2.2.2.2.2.2.2.2.2.2.2.2.2.1).bind fun u7 => (bif (!u7) then some false
 else ((Z3 v0.2.2.2.2.2.2.2.2.2.2.2.2.2.2 v1.2.2.2.2.2.2.2.2.2.2.2.2.2.2).bind fun u8 => (bif (!u8) then some false
 else some true))))))))))))))))))
@[simp] abbrev K6r (v0 : y8) : List (Nat × Root) := [(0, .box [AS v0.1, AL 1 (v0.2.1.map vI), AL 1 (v0.2.2.1.map vI), AI v0.2.2.2.1, AI v0.2.2.2.2.1, AL 1 (v0.2.2.2.2.2.1.map (eL 1 vI)), AL 2 (v0.2.2.2.2.2.2.1.map j3), AS v0.2.2.2.2.2.2.2.1, AL 2 (v0.2.2.2.2.2.2.2.2.1.map j3), AL 1 (v0.2.2.2.2.2.2.2.2.2.1.map (eL 1 vI)), AL 3 (v0.2.2.2.2.2.2.2.2.2.2.1.map p3), AL 2 (v0.2.2.2.2.2.2.2.2.2.2.2.1.map j3), AL 6 (v0.2.2.2.2.2.2.2.2.2.2.2.2.1.map A1), AL 5 (v0.2.2.2.2.2.2.2.2.2.2.2.2.2.1.map p8), AL 3 (v0.2.2.2.2.2.2.2.2.2.2.2.2.2.2.map p9)])]
@[simp] abbrev K6s (v1 : y8) (v0 : y8) : List (Nat × Root) := ((64, .box [AS v1.1, AL 1 (v1.2.1.map vI), AL 1 (v1.2.2.1.map vI), AI v1.2.2.2.1, AI v1.2.2.2.2.1, AL 1 (v1.2.2.2.2.2.1.map (eL 1 vI)), AL 2 (v1.2.2.2.2.2.2.1.map j3), AS v1.2.2.2.2.2.2.2.1, AL 2 (v1.2.2.2.2.2.2.2.2.1.map j3), AL 1 (v1.2.2.2.2.2.2.2.2.2.1.map (eL 1 vI)), AL 3 (v1.2.2.2.2.2.2.2.2.2.2.1.map p3), AL 2 (v1.2.2.2.2.2.2.2.2.2.2.2.1.map j3), AL 6 (v1.2.2.2.2.2.2.2.2.2.2.2.2.1.map A1), AL 5 (v1.2.2.2.2.2.2.2.2.2.2.2.2.2.1.map p8), AL 3 (v1.2.2.2.2.2.2.2.2.2.2.2.2.2.2.map p9)]) :: (K6r v0))
@[simp] def b1W (r : Bool) : RV := .one (.one (.val (.bool r)))
theorem b2k {v0 : y8} {v1 : y8} {r : Bool} (hF : a1z v0 v1 = some r) : Con Tryz.prog 9 [a9S v0, a9S v1] (b1W r) := by
 unfold a1z at hF
 refine p7 c9_.1 fun N => ?_
 refine ws 0 192 (qf (.ptr 0 0 0) (K6r v0) (by simp) (qf (.ptr 64 0 0) (K6s v1 v0) (by simp) (qb (d9 (i8 (ws 192 576 (qr (.ptr 0 0 0) (qr (.agg [AS v0.1, AL 1 (v0.2.1.map vI), AL 1 (v0.2.2.1.map vI), AI v0.2.2.2.1, AI v0.2.2.2.2.1, AL 1 (v0.2.2.2.2.2.1.map (eL 1 vI))]) (qr (.ptr 64 0 0) (qr (.agg [AS v1.1, AL 1 (v1.2.1.map vI), AL 1 (v1.2.2.1.map vI), AI v1.2.2.2.1, AI v1.2.2.2.2.1, AL 1 (v1.2.2.2.2.2.1.map (eL 1 vI))]) (bk hF fun u0 e0 hF => qC (AB u0) (K6s v1 v0) (b1K e0) c7g (qr (AB (!u0)) (d9 ?_)))))))))))))
 refine cF hF (fun hF => ws 576 640 (qb (d9 (j8 (f7 (eQ hF)))))) fun hF => g9 (f5 (i8 (ws 576 960 (qr (.ptr 0 0 6) (qr (AL 2 (v0.2.2.2.2.2.2.1.map j3)) (qr (.ptr 64 0 6) (qr (AL 2 (v1.2.2.2.2.2.2.1.map j3)) (bk hF fun u1 e1 hF => qC (AB u1) (K6s v1 v0) (b0h e1) c6S (qr (AB (!u1)) (d9 ?_))))))))))
 refine cF hF (fun hF => ws 960 1024 (qb (d9 (j8 (f7 (eQ hF)))))) fun hF => g9 (f5 (i8 (ws 960 1344 (qr (.ptr 0 0 7) (qr (.agg [AS v0.2.2.2.2.2.2.2.1, AL 2 (v0.2.2.2.2.2.2.2.2.1.map j3)]) (qr (.ptr 64 0 7) (qr (.agg [AS v1.2.2.2.2.2.2.2.1, AL 2 (v1.2.2.2.2.2.2.2.2.1.map j3)]) (bk hF fun u2 e2 hF => qC (AB u2) (K6s v1 v0) (a9L e2) c7O (qr (AB (!u2)) (d9 ?_))))))))))
 refine cF hF (fun hF => ws 1344 1408 (qb (d9 (j8 (f7 (eQ hF)))))) fun hF => g9 (f5 (i8 (ws 1344 1728 (qr (.ptr 0 0 9) (qr (AL 1 (v0.2.2.2.2.2.2.2.2.2.1.map (eL 1 vI))) (qr (.ptr 64 0 9) (qr (AL 1 (v1.2.2.2.2.2.2.2.2.2.1.map (eL 1 vI))) (bk hF fun u3 e3 hF => qC (AB u3) (K6s v1 v0) (a3z e3) c6C (qr (AB (!u3)) (d9 ?_))))))))))
 refine cF hF (fun hF => ws 1728 1792 (qb (d9 (j8 (f7 (eQ hF)))))) fun hF => g9 (f5 (i8 (ws 1728 2112 (qr (.ptr 0 0 10) (qr (AL 3 (v0.2.2.2.2.2.2.2.2.2.2.1.map p3)) (qr (.ptr 64 0 10) (qr (AL 3 (v1.2.2.2.2.2.2.2.2.2.2.1.map p3)) (bk hF fun u4 e4 hF => qC (AB u4) (K6s v1 v0) (a6h e4) c6Z (qr (AB (!u4)) (d9 ?_))))))))))
 refine cF hF (fun hF => ws 2112 2176 (qb (d9 (j8 (f7 (eQ hF)))))) fun hF => g9 (f5 (i8 (ws 2112 2496 (qr (.ptr 0 0 11) (qr (AL 2 (v0.2.2.2.2.2.2.2.2.2.2.2.1.map j3)) (qr (.ptr 64 0 11) (qr (AL 2 (v1.2.2.2.2.2.2.2.2.2.2.2.1.map j3)) (bk hF fun u5 e5 hF => qC (AB u5) (K6s v1 v0) (a5s e5) c7D (qr (AB (!u5)) (d9 ?_))))))))))
 refine cF hF (fun hF => ws 2496 2560 (qb (d9 (j8 (f7 (eQ hF)))))) fun hF => g9 (f5 (i8 (ws 2496 2880 (qr (.ptr 0 0 12) (qr (AL 6 (v0.2.2.2.2.2.2.2.2.2.2.2.2.1.map A1)) (qr (.ptr 64 0 12) (qr (AL 6 (v1.2.2.2.2.2.2.2.2.2.2.2.2.1.map A1)) (bk hF fun u6 e6 hF => qC (AB u6) (K6s v1 v0) (b0N e6) c8t (qr (AB (!u6)) (d9 ?_))))))))))
 refine cF hF (fun hF => ws 2880 2944 (qb (d9 (j8 (f7 (eQ hF)))))) fun hF => g9 (f5 (i8 (ws 2880 3264 (qr (.ptr 0 0 13) (qr (AL 5 (v0.2.2.2.2.2.2.2.2.2.2.2.2.2.1.map p8)) (qr (.ptr 64 0 13) (qr (AL 5 (v1.2.2.2.2.2.2.2.2.2.2.2.2.2.1.map p8)) (bk hF fun u7 e7 hF => qC (AB u7) (K6s v1 v0) (a7S e7) c7F (qr (AB (!u7)) (d9 ?_))))))))))
 refine cF hF (fun hF => ws 3264 3328 (qb (d9 (j8 (f7 (eQ hF)))))) fun hF => g9 (f5 (i8 (ws 3264 3648 (qr (.ptr 0 0 14) (qr (AL 3 (v0.2.2.2.2.2.2.2.2.2.2.2.2.2.2.map p9)) (qr (.ptr 64 0 14) (qr (AL 3 (v1.2.2.2.2.2.2.2.2.2.2.2.2.2.2.map p9)) (bk hF fun u8 e8 hF => qC (AB u8) (K6s v1 v0) (a8o e8) c8h (qr (AB (!u8)) (d9 ?_))))))))))
 refine cF hF (fun hF => ws 3648 3712 (qb (d9 (j8 (f7 (eQ hF)))))) fun hF => ?_
 exact g9 (f5 (ws 3648 3712 (qt (rR hF))))

def c95 : MC := (sr [pT 4 (.mv (ci 0))] (.seq (sr [pT 5 (.mv (ci 0))] (.block 0 (.loop (.seq (sr [mvt 6 5, mvt 7 0, zT 8 7, bT 9 .lss t6 t8] (cx t9 0)) (.seq (.block 1 (sr [mvt 12 0, mvt 13 5, mvt 14 1, iT 15 12 13 1, ⟨none, none, (.f (.st t15 t14 1))⟩] (.reg [mvt 16 1, bT 17 .add t16 (ci 1), mvt 1 17]))) (.reg [mvt 10 5, bT 11 .add t10 (ci 1), mvt 5 11])))))) (sr [mvt 18 1, mvt 4 18] .ret)))
theorem c6i : Z8 Tryz.prog 95 = some (c95, [(.tmp 4)]) := by kernel_rfl
theorem b8k : a1W Tryz.prog 95 = true := by kernel_rfl

def I2 (k0 : Int × Int × (List Int) → Option ((List Int) × Int)) : Int × Int × (List Int) → Option ((List Int) × Int)
 | (x3, x4, x5) => (bif (decide (x4 < (x5.length : Int))) then ((ix x5 x4).bind fun u0 => k0 (w64 (x3 + 1), w64 (x4 + 1), List.set x5 x4.toNat x3))
 else some (x5, x3))
def N4 (v0 : List Int) (v1 : Int) : Option ((List Int) × Int) :=
 loop (I2) (v1, 0, v0)
theorem a1v {v0 : List Int} {v1 : Int} {r : (List Int) × Int} (hF : N4 v0 v1 = some r) : a3n Tryz.prog 95 (.one (.row true 1 (v0.map vI))) (.one (.row true 1 (r.1.map vI))) [.int .i64 v1] (.int .i64 r.2) := by
 unfold N4 at hF
 refine a1k (av := .sl 0 0 v0.length) (L := [(0, .row true 1 (v0.map vI))]) c6i rfl rfl rfl (by simp) fun N => ?_
 refine ws 64 128 (qr (AI 0) (d9 (i8 (ws 128 192 (qr (AI 0) (d9 (j7 ?_)))))))
 refine wr (l' := [(0, .sl 0 0 v0.length), (1, AI v1), (5, AI 0)]) (L := [(0, .row true 1 (v0.map vI))]) [0, 1, 5] [(0, 0)] 1 ?_
 refine y5 (I2) (fun s : Int × Int × (List Int) => mkS [(0, .sl 0 0 s.2.2.length), (1, AI s.1), (5, AI s.2.1)] (fo [(0, .row true 1 (s.2.2.map vI))]) 1) hF ?_
 rintro k0 ⟨x3, x4, x5⟩ hF
 rw [I2] at hF
 try dsimp only
 refine i8 (ws 1 257 (qr (AI x4) (qr (.sl 0 0 x5.length) (qr (AI (x5.length : Int)) (qr (AB (decide (x4 < (x5.length : Int)))) (d9 ?_))))))
 refine cF hF (fun hF => ?_) fun hF => ?_
 ·
  refine g9 (f5 (i8 (j7 (ws 257 577 (qr (.sl 0 0 x5.length) (qr (AI x4) (qr (AI x3) (bk hF fun u0 e0 hF => qp (.ptr 0 x4.toNat 0) (B1 rfl (by simp) rfl rfl e0) (qf0 (.undef) [(0, .row true 1 ((List.set x5 x4.toNat x3).map vI)), (0, .row true 1 (x5.map vI))] (D6 rfl rfl (B9 e0).2 rfl rfl (by rfl) (by first | rfl | simp [patch, reb, List.take_of_length_le]) (by rfl) rfl) (d9 (y4 577 769 rfl rfl ?_)))))))))))
  refine qr (AI x3) (qr (AI (w64 (x3 + 1))) (qr (AI (w64 (x3 + 1))) (d9 (p6 (f5 (y4 769 961 rfl rfl (qr (AI x4) (qr (AI (w64 (x4 + 1))) (qr (AI (w64 (x4 + 1))) ?_)))))))))
  refine d9 (f5 ?_)
  refine ar (l' := [(0, .sl 0 0 (List.set x5 x4.toNat x3).length), (1, AI (w64 (x3 + 1))), (5, AI (w64 (x4 + 1)))]) (L := [(0, .row true 1 ((List.set x5 x4.toNat x3).map vI))]) [0, 1, 5] [(0, 0)] 1 ⟨_, by rfl, hF⟩
 refine z8 (j5 (j5 (s9 (f5 (ws 257 385 (qr (AI x3) (qr (AI x3) (d9 (j8 ?_)))))))))
 cases hF
 exact a2K rfl rfl (by first | rfl | (simp [List.take_of_length_le]; first | exact ⟨rfl, rfl⟩ | rfl)) (by simp)

def c47 : MC := (sr [pT 4 (.mv (ci 0))] (.seq (sr [pT 5 (.mv (ci 0))] (.block 0 (.loop (.seq (sr [mvt 6 5, mvt 7 0, zT 8 7, bT 9 .lss t6 t8] (cx t9 0)) (.seq (.block 1 (.reg [mvt 12 0, mvt 13 5, iT 14 12 13 1, lT 15 14, mvt 16 1, dT 17 95 [t15, t16], mvt 1 17])) (.reg [mvt 10 5, bT 11 .add t10 (ci 1), mvt 5 11])))))) (sr [mvt 18 1, mvt 4 18] .ret)))
theorem c5J : Z8 Tryz.prog 47 = some (c47, [(.tmp 4)]) := by kernel_rfl
theorem c1x : a1W Tryz.prog 47 = true := by kernel_rfl

def G7 (k0 : Int × Int × (List (List Int)) → Option ((List (List Int)) × Int)) : Int × Int × (List (List Int)) → Option ((List (List Int)) × Int)
 | (x3, x4, x5) => (bif (decide (x4 < (x5.length : Int))) then ((ix x5 x4).bind fun u0 => ((N4 u0 x3).bind fun u1 => need (u1.1.length = u0.length) (k0 (u1.2, w64 (x4 + 1), List.set x5 x4.toNat u1.1))))
 else some (x5, x3))
def S9 (v0 : List (List Int)) (v1 : Int) : Option ((List (List Int)) × Int) :=
 loop (G7) (v1, 0, v0)
theorem a3b {v0 : List (List Int)} {v1 : Int} {r : (List (List Int)) × Int} (hF : S9 v0 v1 = some r) : a3n Tryz.prog 47 (.one (.row true 1 (v0.map (eL 1 vI)))) (.one (.row true 1 (r.1.map (eL 1 vI)))) [.int .i64 v1] (.int .i64 r.2) := by
 unfold S9 at hF
 refine a1k (av := .sl 0 0 v0.length) (L := [(0, .row true 1 (v0.map (eL 1 vI)))]) c5J rfl rfl rfl (by simp) fun N => ?_
 refine ws 64 128 (qr (AI 0) (d9 (i8 (ws 128 192 (qr (AI 0) (d9 (j7 ?_)))))))
 refine wr (l' := [(0, .sl 0 0 v0.length), (1, AI v1), (5, AI 0)]) (L := [(0, .row true 1 (v0.map (eL 1 vI)))]) [0, 1, 5] [(0, 0)] 1 ?_
 refine y5 (G7) (fun s : Int × Int × (List (List Int)) => mkS [(0, .sl 0 0 s.2.2.length), (1, AI s.1), (5, AI s.2.1)] (fo [(0, .row true 1 (s.2.2.map (eL 1 vI)))]) 1) hF ?_
 rintro k0 ⟨x3, x4, x5⟩ hF
 rw [G7] at hF
 try dsimp only
 refine i8 (ws 1 257 (qr (AI x4) (qr (.sl 0 0 x5.length) (qr (AI (x5.length : Int)) (qr (AB (decide (x4 < (x5.length : Int)))) (d9 ?_))))))
 refine cF hF (fun hF => ?_) fun hF => ?_
 ·
  refine g9 (f5 (i8 (j7 (y4 257 705 rfl rfl (qr (.sl 0 0 x5.length) (qr (AI x4) (bk hF fun u0 e0 hF => qp (.ptr 0 x4.toNat 0) (B1 rfl (by simp) rfl rfl e0) (bk hF fun u1 e1 hF => nk hF fun g2 hF => c7E [(0, .row true 1 ((List.set x5 x4.toNat u1.1).map (eL 1 vI))), (0, .row true 1 (x5.map (eL 1 vI)))] rfl rfl (b9D (B9 e0).2) rfl rfl rfl (a1v e1) b8k (by simp [g2]) rfl rfl rfl (by simp [T7, a2R, a0N, Y3, patch, reb, List.map_set]) (qr (AI u1.2) (d9 (p6 (f5 (y4 705 897 rfl rfl ?_)))))))))))))
  refine qr (AI x4) (qr (AI (w64 (x4 + 1))) (qr (AI (w64 (x4 + 1))) (d9 (f5 ?_))))
  refine ar (l' := [(0, .sl 0 0 (List.set x5 x4.toNat u1.1).length), (1, AI u1.2), (5, AI (w64 (x4 + 1)))]) (L := [(0, .row true 1 ((List.set x5 x4.toNat u1.1).map (eL 1 vI)))]) [0, 1, 5] [(0, 0)] 1 ⟨_, by rfl, hF⟩
 refine z8 (j5 (j5 (s9 (f5 (ws 257 385 (qr (AI x3) (qr (AI x3) (d9 (j8 ?_)))))))))
 cases hF
 exact a2K rfl rfl (by first | rfl | (simp [List.take_of_length_le]; first | exact ⟨rfl, rfl⟩ | rfl)) (by simp)

def c44 : MC := (sr [rg 2 (.f (.box t0)), pT 4 (.mv (ci 0))] (sr [pT 5 (.fad t2 1), lT 6 5, mvt 7 1, dT 8 95 [t6, t7], mvt 1 8] (sr [pT 9 (.fad t2 2), lT 10 9, mvt 11 1, dT 12 95 [t10, t11], mvt 1 12] (sr [pT 13 (.fad t2 5), lT 14 13, mvt 15 1, dT 16 47 [t14, t15], mvt 1 16] (sr [mvt 17 1, mvt 4 17] .ret)))))
theorem c6b : Z8 Tryz.prog 44 = some (c44, [(.tmp 4)]) := by kernel_rfl
theorem c6v : a1W Tryz.prog 44 = true := by kernel_rfl

def L5 (v0 : A8) (v1 : Int) : Option (A8 × Int) :=
 ((N4 v0.2.1 v1).bind fun u0 => need (u0.1.length = v0.2.1.length) (((N4 v0.2.2.1 u0.2).bind fun u2 => need (u2.1.length = v0.2.2.1.length) (((S9 v0.2.2.2.2.2 u2.2).bind fun u4 => need (u4.1.length = v0.2.2.2.2.2.length) (some ((v0.1, u0.1, u2.1, v0.2.2.2.1, v0.2.2.2.2.1, u4.1), u4.2)))))))
@[simp] abbrev K6t (v0 : A8) : List (Nat × Root) := [(5, .row true 1 (v0.2.2.2.2.2.map (eL 1 vI))), (2, .row true 1 (v0.2.2.1.map vI)), (1, .row true 1 (v0.2.1.map vI))]
@[simp] abbrev K6x (v0 : A8) : List AV := [AS v0.1, .sl 1 0 v0.2.1.length, .sl 2 0 v0.2.2.1.length, AI v0.2.2.2.1, AI v0.2.2.2.2.1, .sl 5 0 v0.2.2.2.2.2.length]
@[simp] abbrev K6u (v0 : A8) : List (Nat × Root) := ((64, .box (K6x v0)) :: (K6t v0))
@[simp] abbrev K6v (u0 : (List Int) × Int) (v0 : A8) : List (Nat × Root) := ((1, .row true 1 (u0.1.map vI)) :: (K6u v0))
@[simp] abbrev K6w (u2 : (List Int) × Int) (u0 : (List Int) × Int) (v0 : A8) : List (Nat × Root) := ((2, .row true 1 (u2.1.map vI)) :: (K6v u0 v0))
theorem a8T {v0 : A8} {v1 : Int} {r : A8 × Int} (hF : L5 v0 v1 = some r) : a3n Tryz.prog 44 (.agg [.val (.str v0.1), .row true 1 (v0.2.1.map vI), .row true 1 (v0.2.2.1.map vI), .val (.int .i64 v0.2.2.2.1), .val (.int .i64 v0.2.2.2.2.1), .row true 1 (v0.2.2.2.2.2.map (eL 1 vI))]) (.agg [.val (.str r.1.1), .row true 1 (r.1.2.1.map vI), .row true 1 (r.1.2.2.1.map vI), .val (.int .i64 r.1.2.2.2.1), .val (.int .i64 r.1.2.2.2.2.1), .row true 1 (r.1.2.2.2.2.2.map (eL 1 vI))]) [.int .i64 v1] (.int .i64 r.2) := by
 unfold L5 at hF
 refine a1k (av := .agg (K6x v0)) (L := (K6t v0)) c6b rfl rfl rfl (by simp) fun N => ?_
 refine ws 64 192 (qf (.ptr 64 0 0) (K6u v0) (by simp) (qr (AI 0) (d9 (ws 192 512 (qr (.ptr 64 0 1) (qr (.sl 1 0 v0.2.1.length) (qr (AI v1) (bk hF fun u0 e0 hF => nk hF fun g1 hF => qm (ls := [1]) (K6v u0 v0) (a1v e0) b8k (by first | rfl | simp [a0L, O9, T8, g1]) (by decide) (by simp [a1x, a2f, a2E, g1]) rfl rfl rfl (by simp [T7, Z5, a0Z, a2R, a0N, Y3]) (qr (AI u0.2) (d9 (ws 512 832 (qr (.ptr 64 0 2) (qr (.sl 2 0 v0.2.2.1.length) (qr (AI u0.2) (bk hF fun u2 e2 hF => nk hF fun g3 hF => ?_)))))))))))))))
 refine qm (ls := [2]) (K6w u2 u0 v0) (a1v e2) b8k (by first | rfl | simp [a0L, O9, T8, g1, g3]) (by decide) (by simp [a1x, a2f, a2E, g3]) rfl rfl rfl (by simp [T7, Z5, a0Z, a2R, a0N, Y3]) (qr (AI u2.2) (d9 (ws 832 1152 (qr (.ptr 64 0 5) (qr (.sl 5 0 v0.2.2.2.2.2.length) (qr (AI u2.2) (bk hF fun u4 e4 hF => nk hF fun g5 hF => qm (ls := [5]) ((5, .row true 1 (u4.1.map (eL 1 vI))) :: (K6w u2 u0 v0)) (a3b e4) c1x (by first | rfl | simp [a0L, O9, T8, g1, g3, g5]) (by decide) (by simp [a1x, a2f, a2E, g5]) rfl rfl rfl (by simp [T7, Z5, a0Z, a2R, a0N, Y3]) (qr (AI u4.2) (d9 (ws 1152 1280 (qr (AI u4.2) (qr (AI u4.2) (d9 (j8 ?_))))))))))))))
 cases hF
 exact a2K rfl rfl (by first | rfl | (simp [List.take_of_length_le, g1, g3, g5]; first | exact ⟨rfl, rfl⟩ | rfl)) (by simp)

def c45 : MC := (sr [pT 4 (.mv (ci 0))] (.seq (sr [pT 5 (.mv (ci 0))] (.block 0 (.loop (.seq (sr [mvt 6 5, mvt 7 0, zT 8 7, bT 9 .lss t6 t8] (cx t9 0)) (.seq (.block 1 (sr [mvt 12 0, mvt 13 5, mvt 14 1, iT 15 12 13 2, pT 16 (.fad t15 0), ⟨none, none, (.f (.st t16 t14 1))⟩] (sr [mvt 17 1, bT 18 .add t17 (ci 1), mvt 1 18] (sr [mvt 19 0, mvt 20 5, mvt 21 1, iT 22 19 20 2, pT 23 (.fad t22 1), ⟨none, none, (.f (.st t23 t21 1))⟩] (.reg [mvt 24 1, bT 25 .add t24 (ci 1), mvt 1 25]))))) (.reg [mvt 10 5, bT 11 .add t10 (ci 1), mvt 5 11])))))) (sr [mvt 26 1, mvt 4 26] .ret)))
theorem c6s : Z8 Tryz.prog 45 = some (c45, [(.tmp 4)]) := by kernel_rfl
theorem c6y : a1W Tryz.prog 45 = true := by kernel_rfl

def J9 (k0 : Int × Int × (List j6) → Option ((List j6) × Int)) : Int × Int × (List j6) → Option ((List j6) × Int)
 | (x3, x4, x5) => (bif (decide (x4 < (x5.length : Int))) then ((ix x5 x4).bind fun u0 => ((ix (List.set x5 x4.toNat (x3, u0.2)) x4).bind fun u1 => k0 (w64 ((w64 (x3 + 1)) + 1), w64 (x4 + 1), List.set (List.set x5 x4.toNat (x3, u0.2)) x4.toNat (u1.1, w64 (x3 + 1)))))
 else some (x5, x3))
def a1m (v0 : List j6) (v1 : Int) : Option ((List j6) × Int) :=
 loop (J9) (v1, 0, v0)
@[simp] abbrev K6y (x5 : List j6) (x4 : Int) (x3 : Int) (u0 : j6) : List (Nat × Root) := [(0, .row true 2 ((List.set x5 x4.toNat (x3, u0.2)).map j3)), (0, .row true 2 (x5.map j3))]
theorem a8n {v0 : List j6} {v1 : Int} {r : (List j6) × Int} (hF : a1m v0 v1 = some r) : a3n Tryz.prog 45 (.one (.row true 2 (v0.map j3))) (.one (.row true 2 (r.1.map j3))) [.int .i64 v1] (.int .i64 r.2) := by
 unfold a1m at hF
 refine a1k (av := .sl 0 0 v0.length) (L := [(0, .row true 2 (v0.map j3))]) c6s rfl rfl rfl (by simp) fun N => ?_
 refine ws 64 128 (qr (AI 0) (d9 (i8 (ws 128 192 (qr (AI 0) (d9 (j7 ?_)))))))
 refine wr (l' := [(0, .sl 0 0 v0.length), (1, AI v1), (5, AI 0)]) (L := [(0, .row true 2 (v0.map j3))]) [0, 1, 5] [(0, 0)] 1 ?_
 refine y5 (J9) (fun s : Int × Int × (List j6) => mkS [(0, .sl 0 0 s.2.2.length), (1, AI s.1), (5, AI s.2.1)] (fo [(0, .row true 2 (s.2.2.map j3))]) 1) hF ?_
 rintro k0 ⟨x3, x4, x5⟩ hF
 rw [J9] at hF
 try dsimp only
 refine i8 (ws 1 257 (qr (AI x4) (qr (.sl 0 0 x5.length) (qr (AI (x5.length : Int)) (qr (AB (decide (x4 < (x5.length : Int)))) (d9 ?_))))))
 refine cF hF (fun hF => ?_) fun hF => ?_
 ·
  refine g9 (f5 (i8 (j7 (ws 257 641 (qr (.sl 0 0 x5.length) (qr (AI x4) (qr (AI x3) (bk hF fun u0 e0 hF => qp (.ptr 0 x4.toNat 0) (B1 rfl (by simp) rfl rfl e0) (qr (.ptr 0 x4.toNat 0) (qf0 (.undef) (K6y x5 x4 x3 u0) (D6 rfl rfl (B9 e0).2 rfl rfl (by rfl) (by first | rfl | simp [patch, reb, List.take_of_length_le]) (by rfl) rfl) (d9 (ws 641 833 ?_))))))))))))
  refine qr (AI x3) (qr (AI (w64 (x3 + 1))) (qr (AI (w64 (x3 + 1))) (d9 (ws 833 1217 (qr (.sl 0 0 x5.length) (qr (AI x4) (qr (AI (w64 (x3 + 1))) (bk hF fun u1 e1 hF => qp (.ptr 0 x4.toNat 0) (B1 rfl (by simp) rfl rfl e1) (qr (.ptr 0 x4.toNat 1) (qf0 (.undef) ((0, .row true 2 ((List.set (List.set x5 x4.toNat (x3, u0.2)) x4.toNat (u1.1, w64 (x3 + 1))).map j3)) :: (K6y x5 x4 x3 u0)) (D6 rfl rfl (B9 e1).2 rfl rfl (by rfl) (by first | rfl | simp [patch, reb, List.take_of_length_le]) (by rfl) rfl) (d9 ?_)))))))))))
  refine y4 1217 1409 rfl rfl (qr (AI (w64 (x3 + 1))) (qr (AI (w64 ((w64 (x3 + 1)) + 1))) (qr (AI (w64 ((w64 (x3 + 1)) + 1))) (d9 (p6 (f5 (y4 1409 1601 rfl rfl ?_)))))))
  refine qr (AI x4) (qr (AI (w64 (x4 + 1))) (qr (AI (w64 (x4 + 1))) (d9 (f5 ?_))))
  refine ar (l' := [(0, .sl 0 0 (List.set (List.set x5 x4.toNat (x3, u0.2)) x4.toNat (u1.1, w64 (x3 + 1))).length), (1, AI (w64 ((w64 (x3 + 1)) + 1))), (5, AI (w64 (x4 + 1)))]) (L := [(0, .row true 2 ((List.set (List.set x5 x4.toNat (x3, u0.2)) x4.toNat (u1.1, w64 (x3 + 1))).map j3))]) [0, 1, 5] [(0, 0)] 1 ⟨_, by rfl, hF⟩
 refine z8 (j5 (j5 (s9 (f5 (ws 257 385 (qr (AI x3) (qr (AI x3) (d9 (j8 ?_)))))))))
 cases hF
 exact a2K rfl rfl (by first | rfl | (simp [List.take_of_length_le]; first | exact ⟨rfl, rfl⟩ | rfl)) (by simp)

def c96 : MC := (sr [pT 4 (.mv (ci 0))] (.seq (sr [pT 5 (.mv (ci 0))] (.block 0 (.loop (.seq (sr [mvt 6 5, mvt 7 0, zT 8 7, bT 9 .lss t6 t8] (cx t9 0)) (.seq (.block 1 (sr [mvt 12 0, mvt 13 5, mvt 14 1, iT 15 12 13 2, pT 16 (.fad t15 0), ⟨none, none, (.f (.st t16 t14 1))⟩] (sr [mvt 17 1, bT 18 .add t17 (ci 1), mvt 1 18] (sr [mvt 19 0, mvt 20 5, mvt 21 1, iT 22 19 20 2, pT 23 (.fad t22 1), ⟨none, none, (.f (.st t23 t21 1))⟩] (.reg [mvt 24 1, bT 25 .add t24 (ci 1), mvt 1 25]))))) (.reg [mvt 10 5, bT 11 .add t10 (ci 1), mvt 5 11])))))) (sr [mvt 26 1, mvt 4 26] .ret)))
theorem c5R : Z8 Tryz.prog 96 = some (c96, [(.tmp 4)]) := by kernel_rfl
theorem c6I : a1W Tryz.prog 96 = true := by kernel_rfl

def I1 (k0 : Int × Int × (List j6) → Option ((List j6) × Int)) : Int × Int × (List j6) → Option ((List j6) × Int)
 | (x3, x4, x5) => (bif (decide (x4 < (x5.length : Int))) then ((ix x5 x4).bind fun u0 => ((ix (List.set x5 x4.toNat (x3, u0.2)) x4).bind fun u1 => k0 (w64 ((w64 (x3 + 1)) + 1), w64 (x4 + 1), List.set (List.set x5 x4.toNat (x3, u0.2)) x4.toNat (u1.1, w64 (x3 + 1)))))
 else some (x5, x3))
def a0K (v0 : List j6) (v1 : Int) : Option ((List j6) × Int) :=
 loop (I1) (v1, 0, v0)
@[simp] abbrev K6z (x5 : List j6) (x4 : Int) (x3 : Int) (u0 : j6) : List (Nat × Root) := [(0, .row true 2 ((List.set x5 x4.toNat (x3, u0.2)).map j3)), (0, .row true 2 (x5.map j3))]
theorem a6O {v0 : List j6} {v1 : Int} {r : (List j6) × Int} (hF : a0K v0 v1 = some r) : a3n Tryz.prog 96 (.one (.row true 2 (v0.map j3))) (.one (.row true 2 (r.1.map j3))) [.int .i64 v1] (.int .i64 r.2) := by
 unfold a0K at hF
 refine a1k (av := .sl 0 0 v0.length) (L := [(0, .row true 2 (v0.map j3))]) c5R rfl rfl rfl (by simp) fun N => ?_
 refine ws 64 128 (qr (AI 0) (d9 (i8 (ws 128 192 (qr (AI 0) (d9 (j7 ?_)))))))
 refine wr (l' := [(0, .sl 0 0 v0.length), (1, AI v1), (5, AI 0)]) (L := [(0, .row true 2 (v0.map j3))]) [0, 1, 5] [(0, 0)] 1 ?_
 refine y5 (I1) (fun s : Int × Int × (List j6) => mkS [(0, .sl 0 0 s.2.2.length), (1, AI s.1), (5, AI s.2.1)] (fo [(0, .row true 2 (s.2.2.map j3))]) 1) hF ?_
 rintro k0 ⟨x3, x4, x5⟩ hF
 rw [I1] at hF
 try dsimp only
 refine i8 (ws 1 257 (qr (AI x4) (qr (.sl 0 0 x5.length) (qr (AI (x5.length : Int)) (qr (AB (decide (x4 < (x5.length : Int)))) (d9 ?_))))))
 refine cF hF (fun hF => ?_) fun hF => ?_
 ·
  refine g9 (f5 (i8 (j7 (ws 257 641 (qr (.sl 0 0 x5.length) (qr (AI x4) (qr (AI x3) (bk hF fun u0 e0 hF => qp (.ptr 0 x4.toNat 0) (B1 rfl (by simp) rfl rfl e0) (qr (.ptr 0 x4.toNat 0) (qf0 (.undef) (K6z x5 x4 x3 u0) (D6 rfl rfl (B9 e0).2 rfl rfl (by rfl) (by first | rfl | simp [patch, reb, List.take_of_length_le]) (by rfl) rfl) (d9 (ws 641 833 ?_))))))))))))
  refine qr (AI x3) (qr (AI (w64 (x3 + 1))) (qr (AI (w64 (x3 + 1))) (d9 (ws 833 1217 (qr (.sl 0 0 x5.length) (qr (AI x4) (qr (AI (w64 (x3 + 1))) (bk hF fun u1 e1 hF => qp (.ptr 0 x4.toNat 0) (B1 rfl (by simp) rfl rfl e1) (qr (.ptr 0 x4.toNat 1) (qf0 (.undef) ((0, .row true 2 ((List.set (List.set x5 x4.toNat (x3, u0.2)) x4.toNat (u1.1, w64 (x3 + 1))).map j3)) :: (K6z x5 x4 x3 u0)) (D6 rfl rfl (B9 e1).2 rfl rfl (by rfl) (by first | rfl | simp [patch, reb, List.take_of_length_le]) (by rfl) rfl) (d9 ?_)))))))))))
  refine y4 1217 1409 rfl rfl (qr (AI (w64 (x3 + 1))) (qr (AI (w64 ((w64 (x3 + 1)) + 1))) (qr (AI (w64 ((w64 (x3 + 1)) + 1))) (d9 (p6 (f5 (y4 1409 1601 rfl rfl ?_)))))))
  refine qr (AI x4) (qr (AI (w64 (x4 + 1))) (qr (AI (w64 (x4 + 1))) (d9 (f5 ?_))))
  refine ar (l' := [(0, .sl 0 0 (List.set (List.set x5 x4.toNat (x3, u0.2)) x4.toNat (u1.1, w64 (x3 + 1))).length), (1, AI (w64 ((w64 (x3 + 1)) + 1))), (5, AI (w64 (x4 + 1)))]) (L := [(0, .row true 2 ((List.set (List.set x5 x4.toNat (x3, u0.2)) x4.toNat (u1.1, w64 (x3 + 1))).map j3))]) [0, 1, 5] [(0, 0)] 1 ⟨_, by rfl, hF⟩
 refine z8 (j5 (j5 (s9 (f5 (ws 257 385 (qr (AI x3) (qr (AI x3) (d9 (j8 ?_)))))))))
 cases hF
 exact a2K rfl rfl (by first | rfl | (simp [List.take_of_length_le]; first | exact ⟨rfl, rfl⟩ | rfl)) (by simp)

def c46 : MC := (sr [rg 2 (.f (.box t0)), pT 4 (.mv (ci 0))] (sr [pT 5 (.fad t2 1), lT 6 5, mvt 7 1, dT 8 96 [t6, t7], mvt 1 8] (sr [mvt 9 1, mvt 4 9] .ret)))
theorem c6A : Z8 Tryz.prog 46 = some (c46, [(.tmp 4)]) := by kernel_rfl
theorem c6h : a1W Tryz.prog 46 = true := by kernel_rfl

def O0 (v0 : z7) (v1 : Int) : Option (z7 × Int) :=
 ((a0K v0.2 v1).bind fun u0 => need (u0.1.length = v0.2.length) (some ((v0.1, u0.1), u0.2)))
@[simp] abbrev K70 (v0 : z7) : List (Nat × Root) := [(64, .box [AS v0.1, .sl 1 0 v0.2.length]), (1, .row true 2 (v0.2.map j3))]
theorem a7d {v0 : z7} {v1 : Int} {r : z7 × Int} (hF : O0 v0 v1 = some r) : a3n Tryz.prog 46 (.agg [.val (.str v0.1), .row true 2 (v0.2.map j3)]) (.agg [.val (.str r.1.1), .row true 2 (r.1.2.map j3)]) [.int .i64 v1] (.int .i64 r.2) := by
 unfold O0 at hF
 refine a1k (av := .agg [AS v0.1, .sl 1 0 v0.2.length]) (L := [(1, .row true 2 (v0.2.map j3))]) c6A rfl rfl rfl (by simp) fun N => ?_
 refine ws 64 192 (qf (.ptr 64 0 0) (K70 v0) (by simp) (qr (AI 0) (d9 (ws 192 512 (qr (.ptr 64 0 1) (qr (.sl 1 0 v0.2.length) (qr (AI v1) (bk hF fun u0 e0 hF => nk hF fun g1 hF => qm (ls := [1]) ((1, .row true 2 (u0.1.map j3)) :: (K70 v0)) (a6O e0) c6I (by first | rfl | simp [a0L, O9, T8, g1]) (by decide) (by simp [a1x, a2f, a2E, g1]) rfl rfl rfl (by simp [T7, Z5, a0Z, a2R, a0N, Y3]) (qr (AI u0.2) (d9 (ws 512 640 (qr (AI u0.2) (qr (AI u0.2) (d9 ?_))))))))))))))
 refine j8 ?_
 cases hF
 exact a2K rfl rfl (by first | rfl | (simp [List.take_of_length_le, g1]; first | exact ⟨rfl, rfl⟩ | rfl)) (by simp)

def c53 : MC := (sr [pT 2 (.mv (.c (.str [])))] (.seq (sr [mvt 4 0, bT 5 .leq t4 (ci 0)] (.cond t5 (sr [pT 2 (.mv (.c (.str [109, 48])))] .ret) .skip)) (sr [pT 3 (.mv (.c (.str [])))] (.seq (.block 0 (.loop (.seq (sr [mvt 6 0, bT 7 .gtr t6 (ci 0)] (cx t7 0)) (.block 1 (sr [mvt 8 0, bT 9 .rem t8 (ci 10), bT 10 .add (ci 48) t9, pT 11 (.conv .u8 t10), rg 12 (.f (.bsl 1 [t11])), pT 13 (.bts t12), mvt 14 3, bT 15 .add t13 t14, mvt 3 15] (.reg [mvt 16 0, bT 17 .quo t16 (ci 10), mvt 0 17])))))) (sr [mvt 18 3, pT 19 (.bin .add (.c (.str [109])) t18), mvt 2 19] .ret)))))
theorem b7x : IsF Tryz.prog 53 c53 [(.tmp 2)] := ⟨by kernel_rfl, by kernel_rfl⟩

def a0c (k0 : Int × (List UInt8) → Option (List UInt8)) : Int × (List UInt8) → Option (List UInt8)
 | (x2, x3) => (bif (decide ((0 : Int) < x2)) then (need ((a0d ([IntKind.wrap .u8 (w64 (48 + (Int.tmod x2 10)))] : List Int)).length + x3.length < 9223372036854775808) (k0 (w64 (Int.tdiv x2 10), (a0d ([IntKind.wrap .u8 (w64 (48 + (Int.tmod x2 10)))] : List Int)) ++ x3)))
 else (need (([109] : List UInt8).length + x3.length < 9223372036854775808) (some (([109] : List UInt8) ++ x3))))
def D4 (v0 : Int) : Option (List UInt8) :=
 (bif (decide (v0 ≤ (0 : Int))) then some [109, 48]
 else loop (a0c) (v0, []))
@[simp] def a8y (r : List UInt8) : RV := .one (.one (.val (.str r)))
theorem J1 {v0 : Int} {r : List UInt8} (hF : D4 v0 = some r) : Con Tryz.prog 53 [.int .i64 v0] (a8y r) := by
 unfold D4 at hF
 refine p7 b7x.1 fun N => ?_
 refine ws 0 64 (qr (AS []) (d9 (i8 (ws 64 192 (qr (AI v0) (qr (AB (decide (v0 ≤ (0 : Int)))) (d9 (cF hF (fun hF => ws 192 256 (qr (AS [109, 48]) (d9 (j8 (f7 (eQ hF)))))) fun hF => ?_))))))))
 refine g9 (f5 (ws 192 256 (qr (AS []) (d9 (i8 (j7 ?_))))))
 refine wr (l' := [(0, AI v0), (3, AS ([] : List UInt8))]) (L := []) [0, 3] [] 1 ?_
 refine y5 (a0c) (fun s : Int × (List UInt8) => mkS [(0, AI s.1), (3, AS s.2)] (fo []) 1) hF ?_
 rintro k0 ⟨x2, x3⟩ hF
 rw [a0c] at hF
 try dsimp only
 refine i8 (ws 1 129 (qr (AI x2) (qr (AB (decide ((0 : Int) < x2))) (d9 ?_))))
 refine cF hF (fun hF => ?_) fun hF => ?_
 ·
  refine g9 (f5 (j7 (ws 129 705 (qr (AI x2) (qp (AI (Int.tmod x2 10)) (b6t rfl rfl (by decide)) (qr (AI (w64 (48 + (Int.tmod x2 10)))) (qr (.val none (.int .u8 (IntKind.wrap .u8 (w64 (48 + (Int.tmod x2 10)))))) (qf (.sl 385 0 (([IntKind.wrap .u8 (w64 (48 + (Int.tmod x2 10)))] : List Int).length)) [(385, .row true 1 (([IntKind.wrap .u8 (w64 (48 + (Int.tmod x2 10)))] : List Int).map (V.int .u8)))] (by simp [List.take_of_length_le]) ?_))))))))
  refine qp (AS (a0d ([IntKind.wrap .u8 (w64 (48 + (Int.tmod x2 10)))] : List Int))) (b7W rfl (by simp) rfl) (qr (AS x3) (nk hF fun g0 hF => qp (AS ((a0d ([IntKind.wrap .u8 (w64 (48 + (Int.tmod x2 10)))] : List Int)) ++ x3)) (a4n rfl rfl g0) (qr (AS ((a0d ([IntKind.wrap .u8 (w64 (48 + (Int.tmod x2 10)))] : List Int)) ++ x3)) (d9 (y4 705 897 rfl rfl (qr (AI x2) (qp (AI (w64 (Int.tdiv x2 10))) (c1B rfl rfl (by decide)) (qr (AI (w64 (Int.tdiv x2 10))) (d9 ?_)))))))))
  refine p6 (f5 ?_)
  refine ar (l' := [(0, AI (w64 (Int.tdiv x2 10))), (3, AS ((a0d ([IntKind.wrap .u8 (w64 (48 + (Int.tmod x2 10)))] : List Int)) ++ x3))]) (L := []) [0, 3] [] 1 ⟨_, by rfl, hF⟩
 exact z8 (j5 (j5 (s9 (f5 (ws 129 321 (qr (AS x3) (nk hF fun g1 hF => qp (AS (([109] : List UInt8) ++ x3)) (a4n rfl rfl g1) (qr (AS (([109] : List UInt8) ++ x3)) (rR hF)))))))))

def c48 : MC := (sr [pT 4 (.mv (ci 0))] (.seq (sr [pT 5 (.mv (ci 0))] (.block 0 (.loop (.seq (sr [mvt 6 5, mvt 7 0, zT 8 7, bT 9 .lss t6 t8] (cx t9 0)) (.seq (.block 1 (sr [mvt 12 0, mvt 13 5, mvt 14 1, dT 15 53 [t14], iT 16 12 13 3, pT 17 (.fad t16 0), ⟨none, none, (.f (.st t17 t15 1))⟩] (sr [mvt 18 1, bT 19 .add t18 (ci 1), mvt 1 19] (sr [mvt 20 0, mvt 21 5, mvt 22 1, iT 23 20 21 3, pT 24 (.fad t23 1), ⟨none, none, (.f (.st t24 t22 1))⟩] (sr [mvt 25 1, bT 26 .add t25 (ci 1), mvt 1 26] (sr [mvt 27 0, mvt 28 5, mvt 29 1, iT 30 27 28 3, pT 31 (.fad t30 2), ⟨none, none, (.f (.st t31 t29 1))⟩] (.reg [mvt 32 1, bT 33 .add t32 (ci 1), mvt 1 33]))))))) (.reg [mvt 10 5, bT 11 .add t10 (ci 1), mvt 5 11])))))) (sr [mvt 34 1, mvt 4 34] .ret)))
theorem c5V : Z8 Tryz.prog 48 = some (c48, [(.tmp 4)]) := by kernel_rfl
theorem c5Z : a1W Tryz.prog 48 = true := by kernel_rfl

def F2 (k0 : Int × Int × (List m9) → Option ((List m9) × Int)) : Int × Int × (List m9) → Option ((List m9) × Int)
 | (x3, x4, x5) => (bif (decide (x4 < (x5.length : Int))) then ((D4 x3).bind fun u0 => ((ix x5 x4).bind fun u1 => ((ix (List.set x5 x4.toNat (u0, u1.2.1, u1.2.2)) x4).bind fun u2 => ((ix (List.set (List.set x5 x4.toNat (u0, u1.2.1, u1.2.2)) x4.toNat (u2.1, w64 (x3 + 1), u2.2.2)) x4).bind fun u3 => k0 (w64 ((w64 ((w64 (x3 + 1)) + 1)) + 1), w64 (x4 + 1), List.set (List.set (List.set x5 x4.toNat (u0, u1.2.1, u1.2.2)) x4.toNat (u2.1, w64 (x3 + 1), u2.2.2)) x4.toNat (u3.1, u3.2.1, w64 ((w64 (x3 + 1)) + 1)))))))
 else some (x5, x3))
def W6 (v0 : List m9) (v1 : Int) : Option ((List m9) × Int) :=
 loop (F2) (v1, 0, v0)
@[simp] abbrev K71 (x5 : List m9) (x4 : Int) (u0 : List UInt8) (u1 : m9) : List (Nat × Root) := [(0, .row true 3 ((List.set x5 x4.toNat (u0, u1.2.1, u1.2.2)).map p3)), (0, .row true 3 (x5.map p3))]
@[simp] abbrev K72 (x5 : List m9) (x4 : Int) (u0 : List UInt8) (u1 : m9) (u2 : m9) (x3 : Int) : List (Nat × Root) := ((0, .row true 3 ((List.set (List.set x5 x4.toNat (u0, u1.2.1, u1.2.2)) x4.toNat (u2.1, w64 (x3 + 1), u2.2.2)).map p3)) :: (K71 x5 x4 u0 u1))
theorem a4Q {v0 : List m9} {v1 : Int} {r : (List m9) × Int} (hF : W6 v0 v1 = some r) : a3n Tryz.prog 48 (.one (.row true 3 (v0.map p3))) (.one (.row true 3 (r.1.map p3))) [.int .i64 v1] (.int .i64 r.2) := by
 unfold W6 at hF
 refine a1k (av := .sl 0 0 v0.length) (L := [(0, .row true 3 (v0.map p3))]) c5V rfl rfl rfl (by simp) fun N => ?_
 refine ws 64 128 (qr (AI 0) (d9 (i8 (ws 128 192 (qr (AI 0) (d9 (j7 ?_)))))))
 refine wr (l' := [(0, .sl 0 0 v0.length), (1, AI v1), (5, AI 0)]) (L := [(0, .row true 3 (v0.map p3))]) [0, 1, 5] [(0, 0)] 1 ?_
 refine y5 (F2) (fun s : Int × Int × (List m9) => mkS [(0, .sl 0 0 s.2.2.length), (1, AI s.1), (5, AI s.2.1)] (fo [(0, .row true 3 (s.2.2.map p3))]) 1) hF ?_
 rintro k0 ⟨x3, x4, x5⟩ hF
 rw [F2] at hF
 try dsimp only
 refine i8 (ws 1 257 (qr (AI x4) (qr (.sl 0 0 x5.length) (qr (AI (x5.length : Int)) (qr (AB (decide (x4 < (x5.length : Int)))) (d9 ?_))))))
 refine cF hF (fun hF => ?_) fun hF => ?_
 ·
  refine g9 (f5 (i8 (j7 (ws 257 705 (qr (.sl 0 0 x5.length) (qr (AI x4) (qr (AI x3) (bk hF fun u0 e0 hF => qC (AS u0) [(0, .row true 3 (x5.map p3))] (J1 e0) b7x (bk hF fun u1 e1 hF => qp (.ptr 0 x4.toNat 0) (B1 rfl (by simp) rfl rfl e1) (qr (.ptr 0 x4.toNat 0) (qf0 (.undef) (K71 x5 x4 u0 u1) (D6 rfl rfl (B9 e1).2 rfl rfl (by rfl) (by first | rfl | simp [patch, reb, List.take_of_length_le]) (by rfl) rfl) (d9 (ws 705 897 ?_)))))))))))))
  refine qr (AI x3) (qr (AI (w64 (x3 + 1))) (qr (AI (w64 (x3 + 1))) (d9 (ws 897 1281 (qr (.sl 0 0 x5.length) (qr (AI x4) (qr (AI (w64 (x3 + 1))) (bk hF fun u2 e2 hF => qp (.ptr 0 x4.toNat 0) (B1 rfl (by simp) rfl rfl e2) (qr (.ptr 0 x4.toNat 1) (qf0 (.undef) (K72 x5 x4 u0 u1 u2 x3) (D6 rfl rfl (B9 e2).2 rfl rfl (by rfl) (by first | rfl | simp [patch, reb, List.take_of_length_le]) (by rfl) rfl) (d9 ?_)))))))))))
  refine ws 1281 1473 (qr (AI (w64 (x3 + 1))) (qr (AI (w64 ((w64 (x3 + 1)) + 1))) (qr (AI (w64 ((w64 (x3 + 1)) + 1))) (d9 (ws 1473 1857 ?_)))))
  refine qr (.sl 0 0 x5.length) (qr (AI x4) (qr (AI (w64 ((w64 (x3 + 1)) + 1))) (bk hF fun u3 e3 hF => qp (.ptr 0 x4.toNat 0) (B1 rfl (by simp) rfl rfl e3) (qr (.ptr 0 x4.toNat 2) (qf0 (.undef) ((0, .row true 3 ((List.set (List.set (List.set x5 x4.toNat (u0, u1.2.1, u1.2.2)) x4.toNat (u2.1, w64 (x3 + 1), u2.2.2)) x4.toNat (u3.1, u3.2.1, w64 ((w64 (x3 + 1)) + 1))).map p3)) :: (K72 x5 x4 u0 u1 u2 x3)) (D6 rfl rfl (B9 e3).2 rfl rfl (by rfl) (by first | rfl | simp [patch, reb, List.take_of_length_le]) (by rfl) rfl) (d9 (y4 1857 2049 rfl rfl ?_)))))))
  refine qr (AI (w64 ((w64 (x3 + 1)) + 1))) (qr (AI (w64 ((w64 ((w64 (x3 + 1)) + 1)) + 1))) (qr (AI (w64 ((w64 ((w64 (x3 + 1)) + 1)) + 1))) (d9 (p6 (f5 ?_)))))
  refine y4 2049 2241 rfl rfl (qr (AI x4) (qr (AI (w64 (x4 + 1))) (qr (AI (w64 (x4 + 1))) (d9 (f5 ?_)))))
  refine ar (l' := [(0, .sl 0 0 (List.set (List.set (List.set x5 x4.toNat (u0, u1.2.1, u1.2.2)) x4.toNat (u2.1, w64 (x3 + 1), u2.2.2)) x4.toNat (u3.1, u3.2.1, w64 ((w64 (x3 + 1)) + 1))).length), (1, AI (w64 ((w64 ((w64 (x3 + 1)) + 1)) + 1))), (5, AI (w64 (x4 + 1)))]) (L := [(0, .row true 3 ((List.set (List.set (List.set x5 x4.toNat (u0, u1.2.1, u1.2.2)) x4.toNat (u2.1, w64 (x3 + 1), u2.2.2)) x4.toNat (u3.1, u3.2.1, w64 ((w64 (x3 + 1)) + 1))).map p3))]) [0, 1, 5] [(0, 0)] 1 ⟨_, by rfl, hF⟩
 refine z8 (j5 (j5 (s9 (f5 (ws 257 385 (qr (AI x3) (qr (AI x3) (d9 (j8 ?_)))))))))
 cases hF
 exact a2K rfl rfl (by first | rfl | (simp [List.take_of_length_le]; first | exact ⟨rfl, rfl⟩ | rfl)) (by simp)

def c49 : MC := (sr [pT 4 (.mv (ci 0))] (.seq (sr [pT 5 (.mv (ci 0))] (.block 0 (.loop (.seq (sr [mvt 6 5, mvt 7 0, zT 8 7, bT 9 .lss t6 t8] (cx t9 0)) (.seq (.block 1 (sr [mvt 12 0, mvt 13 5, mvt 14 1, iT 15 12 13 2, pT 16 (.fad t15 0), ⟨none, none, (.f (.st t16 t14 1))⟩] (sr [mvt 17 1, bT 18 .add t17 (ci 1), mvt 1 18] (sr [mvt 19 0, mvt 20 5, mvt 21 1, iT 22 19 20 2, pT 23 (.fad t22 1), ⟨none, none, (.f (.st t23 t21 1))⟩] (.reg [mvt 24 1, bT 25 .add t24 (ci 1), mvt 1 25]))))) (.reg [mvt 10 5, bT 11 .add t10 (ci 1), mvt 5 11])))))) (sr [mvt 26 1, mvt 4 26] .ret)))
theorem c5M : Z8 Tryz.prog 49 = some (c49, [(.tmp 4)]) := by kernel_rfl
theorem c6E : a1W Tryz.prog 49 = true := by kernel_rfl

def E8 (k0 : Int × Int × (List j6) → Option ((List j6) × Int)) : Int × Int × (List j6) → Option ((List j6) × Int)
 | (x3, x4, x5) => (bif (decide (x4 < (x5.length : Int))) then ((ix x5 x4).bind fun u0 => ((ix (List.set x5 x4.toNat (x3, u0.2)) x4).bind fun u1 => k0 (w64 ((w64 (x3 + 1)) + 1), w64 (x4 + 1), List.set (List.set x5 x4.toNat (x3, u0.2)) x4.toNat (u1.1, w64 (x3 + 1)))))
 else some (x5, x3))
def T6 (v0 : List j6) (v1 : Int) : Option ((List j6) × Int) :=
 loop (E8) (v1, 0, v0)
@[simp] abbrev K73 (x5 : List j6) (x4 : Int) (x3 : Int) (u0 : j6) : List (Nat × Root) := [(0, .row true 2 ((List.set x5 x4.toNat (x3, u0.2)).map j3)), (0, .row true 2 (x5.map j3))]
theorem a4g {v0 : List j6} {v1 : Int} {r : (List j6) × Int} (hF : T6 v0 v1 = some r) : a3n Tryz.prog 49 (.one (.row true 2 (v0.map j3))) (.one (.row true 2 (r.1.map j3))) [.int .i64 v1] (.int .i64 r.2) := by
 unfold T6 at hF
 refine a1k (av := .sl 0 0 v0.length) (L := [(0, .row true 2 (v0.map j3))]) c5M rfl rfl rfl (by simp) fun N => ?_
 refine ws 64 128 (qr (AI 0) (d9 (i8 (ws 128 192 (qr (AI 0) (d9 (j7 ?_)))))))
 refine wr (l' := [(0, .sl 0 0 v0.length), (1, AI v1), (5, AI 0)]) (L := [(0, .row true 2 (v0.map j3))]) [0, 1, 5] [(0, 0)] 1 ?_
 refine y5 (E8) (fun s : Int × Int × (List j6) => mkS [(0, .sl 0 0 s.2.2.length), (1, AI s.1), (5, AI s.2.1)] (fo [(0, .row true 2 (s.2.2.map j3))]) 1) hF ?_
 rintro k0 ⟨x3, x4, x5⟩ hF
 rw [E8] at hF
 try dsimp only
 refine i8 (ws 1 257 (qr (AI x4) (qr (.sl 0 0 x5.length) (qr (AI (x5.length : Int)) (qr (AB (decide (x4 < (x5.length : Int)))) (d9 ?_))))))
 refine cF hF (fun hF => ?_) fun hF => ?_
 ·
  refine g9 (f5 (i8 (j7 (ws 257 641 (qr (.sl 0 0 x5.length) (qr (AI x4) (qr (AI x3) (bk hF fun u0 e0 hF => qp (.ptr 0 x4.toNat 0) (B1 rfl (by simp) rfl rfl e0) (qr (.ptr 0 x4.toNat 0) (qf0 (.undef) (K73 x5 x4 x3 u0) (D6 rfl rfl (B9 e0).2 rfl rfl (by rfl) (by first | rfl | simp [patch, reb, List.take_of_length_le]) (by rfl) rfl) (d9 (ws 641 833 ?_))))))))))))
  refine qr (AI x3) (qr (AI (w64 (x3 + 1))) (qr (AI (w64 (x3 + 1))) (d9 (ws 833 1217 (qr (.sl 0 0 x5.length) (qr (AI x4) (qr (AI (w64 (x3 + 1))) (bk hF fun u1 e1 hF => qp (.ptr 0 x4.toNat 0) (B1 rfl (by simp) rfl rfl e1) (qr (.ptr 0 x4.toNat 1) (qf0 (.undef) ((0, .row true 2 ((List.set (List.set x5 x4.toNat (x3, u0.2)) x4.toNat (u1.1, w64 (x3 + 1))).map j3)) :: (K73 x5 x4 x3 u0)) (D6 rfl rfl (B9 e1).2 rfl rfl (by rfl) (by first | rfl | simp [patch, reb, List.take_of_length_le]) (by rfl) rfl) (d9 ?_)))))))))))
  refine y4 1217 1409 rfl rfl (qr (AI (w64 (x3 + 1))) (qr (AI (w64 ((w64 (x3 + 1)) + 1))) (qr (AI (w64 ((w64 (x3 + 1)) + 1))) (d9 (p6 (f5 (y4 1409 1601 rfl rfl ?_)))))))
  refine qr (AI x4) (qr (AI (w64 (x4 + 1))) (qr (AI (w64 (x4 + 1))) (d9 (f5 ?_))))
  refine ar (l' := [(0, .sl 0 0 (List.set (List.set x5 x4.toNat (x3, u0.2)) x4.toNat (u1.1, w64 (x3 + 1))).length), (1, AI (w64 ((w64 (x3 + 1)) + 1))), (5, AI (w64 (x4 + 1)))]) (L := [(0, .row true 2 ((List.set (List.set x5 x4.toNat (x3, u0.2)) x4.toNat (u1.1, w64 (x3 + 1))).map j3))]) [0, 1, 5] [(0, 0)] 1 ⟨_, by rfl, hF⟩
 refine z8 (j5 (j5 (s9 (f5 (ws 257 385 (qr (AI x3) (qr (AI x3) (d9 (j8 ?_)))))))))
 cases hF
 exact a2K rfl rfl (by first | rfl | (simp [List.take_of_length_le]; first | exact ⟨rfl, rfl⟩ | rfl)) (by simp)

def c50 : MC := (sr [pT 4 (.mv (ci 0))] (.seq (sr [pT 5 (.mv (ci 0))] (.block 0 (.loop (.seq (sr [mvt 6 5, mvt 7 0, zT 8 7, bT 9 .lss t6 t8] (cx t9 0)) (.seq (.block 1 (sr [mvt 12 0, mvt 13 5, mvt 14 1, dT 15 53 [t14], iT 16 12 13 6, pT 17 (.fad t16 0), ⟨none, none, (.f (.st t17 t15 1))⟩] (sr [mvt 18 1, bT 19 .add t18 (ci 1), mvt 1 19] (sr [mvt 20 0, mvt 21 5, mvt 22 1, iT 23 20 21 6, pT 24 (.fad t23 1), ⟨none, none, (.f (.st t24 t22 1))⟩] (sr [mvt 25 1, bT 26 .add t25 (ci 1), mvt 1 26] (sr [mvt 27 0, mvt 28 5, mvt 29 1, iT 30 27 28 6, pT 31 (.fad t30 2), ⟨none, none, (.f (.st t31 t29 1))⟩] (sr [mvt 32 1, bT 33 .add t32 (ci 1), mvt 1 33] (sr [mvt 34 0, mvt 35 5, mvt 36 1, iT 37 34 35 6, pT 38 (.fad t37 3), ⟨none, none, (.f (.st t38 t36 1))⟩] (sr [mvt 39 1, bT 40 .add t39 (ci 1), mvt 1 40] (sr [mvt 41 0, mvt 42 5, mvt 43 1, iT 44 41 42 6, pT 45 (.fad t44 4), ⟨none, none, (.f (.st t45 t43 1))⟩] (sr [mvt 46 1, bT 47 .add t46 (ci 1), mvt 1 47] (sr [mvt 48 0, mvt 49 5, mvt 50 1, iT 51 48 49 6, pT 52 (.fad t51 5), ⟨none, none, (.f (.st t52 t50 1))⟩] (.reg [mvt 53 1, bT 54 .add t53 (ci 1), mvt 1 54]))))))))))))) (.reg [mvt 10 5, bT 11 .add t10 (ci 1), mvt 5 11])))))) (sr [mvt 55 1, mvt 4 55] .ret)))
theorem c6M : Z8 Tryz.prog 50 = some (c50, [(.tmp 4)]) := by kernel_rfl
theorem c6r : a1W Tryz.prog 50 = true := by kernel_rfl

def L4 (k0 : Int × Int × (List y6) → Option ((List y6) × Int)) : Int × Int × (List y6) → Option ((List y6) × Int)
 | (x3, x4, x5) => (bif (decide (x4 < (x5.length : Int))) then ((D4 x3).bind fun u0 => ((ix x5 x4).bind fun u1 => ((ix (List.set x5 x4.toNat (u0, u1.2.1, u1.2.2.1, u1.2.2.2.1, u1.2.2.2.2.1, u1.2.2.2.2.2)) x4).bind fun u2 => ((ix (List.set (List.set x5 x4.toNat (u0, u1.2.1, u1.2.2.1, u1.2.2.2.1, u1.2.2.2.2.1, u1.2.2.2.2.2)) x4.toNat (u2.1, w64 (x3 + 1), u2.2.2.1, u2.2.2.2.1, u2.2.2.2.2.1, u2.2.2.2.2.2)) x4).bind fun u3 => ((ix (List.set (List.set (List.set x5 x4.toNat (u0, u1.2.1, u1.2.2.1, u1.2.2.2.1, u1.2.2.2.2.1, u1.2.2.2.2.2)) x4.toNat (u2.1, w64 (x3 + 1), u2.2.2.1, u2.2.2.2.1, u2.2.2.2.2.1, u2.2.2.2.2.2)) x4.toNat (u3.1, u3.2.1, w64 ((w64 (x3 + 1)) + 1), u3.2.2.2.1, u3.2.2.2.2.1, u3.2.2.2.2.2)) x4).bind fun u4 => ((ix (List.set (List.set (List.set (List.set x5 x4.toNat (u0, u1.2.1, u1.2.2.1, u1.2.2.2.1, u1.2.2.2.2.1, u1.2.2.2.2.2)) x4.toNat (u2.1, w64 (x3 + 1), u2.2.2.1, u2.2.2.2.1, u2.2.2.2.2.1, u2.2.2.2.2.2)) x4.toNat (u3.1, u3.2.1, w64 ((w64 (x3 + 1)) + 1), u3.2.2.2.1, u3.2.2.2.2.1, u3.2.2.2.2.2)) x4.toNat (u4.1, u4.2.1, u4.2.2.1, w64 ((w64 ((w64 (x3 + 1)) + 1)) + 1), u4.2.2.2.2.1, u4.2.2.2.2.2)) x4).bind fun u5 => ((ix (List.set (List.set (List.set (List.set (List.set x5 x4.toNat (u0, u1.2.1, u1.2.2.1, u1.2.2.2.1, u1.2.2.2.2.1, u1.2.2.2.2.2)) x4.toNat (u2.1, w64 (x3 + 1), u2.2.2.1, u2.2.2.2.1, u2.2.2.2.2.1, u2.2.2.2.2.2)) x4.toNat (u3.1, u3.2.1, w64 ((w64 (x3 + 1)) + 1), u3.2.2.2.1, u3.2.2.2.2.1, u3.2.2.2.2.2)) x4.toNat (u4.1, u4.2.1, u4.2.2.1, w64 ((w64 ((w64 (x3 + 1)) + 1)) + 1), u4.2.2.2.2.1, u4.2.2.2.2.2)) x4.toNat (u5.1, u5.2.1, u5.2.2.1, u5.2.2.2.1, w64 ((w64 ((w64 ((w64 (x3 + 1)) + 1)) + 1)) + 1), u5.2.2.2.2.2)) x4).bind fun u6 => k0 (w64 ((w64 ((w64 ((w64 ((w64 ((w64 (x3 + 1)) + 1)) + 1)) + 1)) + 1)) + 1), w64 (x4 + 1), List.set (List.set (List.set (List.set (List.set (List.set x5 x4.toNat (u0, u1.2.1, u1.2.2.1, u1.2.2.2.1, u1.2.2.2.2.1, u1.2.2.2.2.2)) x4.toNat (u2.1, w64 (x3 + 1), u2.2.2.1, u2.2.2.2.1, u2.2.2.2.2.1, u2.2.2.2.2.2)) x4.toNat (u3.1, u3.2.1, w64 ((w64 (x3 + 1)) + 1), u3.2.2.2.1, u3.2.2.2.2.1, u3.2.2.2.2.2)) x4.toNat (u4.1, u4.2.1, u4.2.2.1, w64 ((w64 ((w64 (x3 + 1)) + 1)) + 1), u4.2.2.2.2.1, u4.2.2.2.2.2)) x4.toNat (u5.1, u5.2.1, u5.2.2.1, u5.2.2.2.1, w64 ((w64 ((w64 ((w64 (x3 + 1)) + 1)) + 1)) + 1), u5.2.2.2.2.2)) x4.toNat (u6.1, u6.2.1, u6.2.2.1, u6.2.2.2.1, u6.2.2.2.2.1, w64 ((w64 ((w64 ((w64 ((w64 (x3 + 1)) + 1)) + 1)) + 1)) + 1))))))))))
 else some (x5, x3))
def a1j (v0 : List y6) (v1 : Int) : Option ((List y6) × Int) :=
 loop (L4) (v1, 0, v0)
@[simp] abbrev K74 (x5 : List y6) (x4 : Int) (u0 : List UInt8) (u1 : y6) : List (Nat × Root) := [(0, .row true 6 ((List.set x5 x4.toNat (u0, u1.2.1, u1.2.2.1, u1.2.2.2.1, u1.2.2.2.2.1, u1.2.2.2.2.2)).map A1)), (0, .row true 6 (x5.map A1))]
@[simp] abbrev K75 (x5 : List y6) (x4 : Int) (u0 : List UInt8) (u1 : y6) (u2 : y6) (x3 : Int) : List (Nat × Root) := ((0, .row true 6 ((List.set (List.set x5 x4.toNat (u0, u1.2.1, u1.2.2.1, u1.2.2.2.1, u1.2.2.2.2.1, u1.2.2.2.2.2)) x4.toNat (u2.1, w64 (x3 + 1), u2.2.2.1, u2.2.2.2.1, u2.2.2.2.2.1, u2.2.2.2.2.2)).map A1)) :: (K74 x5 x4 u0 u1))
@[simp] abbrev K76 (x5 : List y6) (x4 : Int) (u0 : List UInt8) (u1 : y6) (u2 : y6) (x3 : Int) (u3 : y6) : List (Nat × Root) := ((0, .row true 6 ((List.set (List.set (List.set x5 x4.toNat (u0, u1.2.1, u1.2.2.1, u1.2.2.2.1, u1.2.2.2.2.1, u1.2.2.2.2.2)) x4.toNat (u2.1, w64 (x3 + 1), u2.2.2.1, u2.2.2.2.1, u2.2.2.2.2.1, u2.2.2.2.2.2)) x4.toNat (u3.1, u3.2.1, w64 ((w64 (x3 + 1)) + 1), u3.2.2.2.1, u3.2.2.2.2.1, u3.2.2.2.2.2)).map A1)) :: (K75 x5 x4 u0 u1 u2 x3))
@[simp] abbrev K77 (x5 : List y6) (x4 : Int) (u0 : List UInt8) (u1 : y6) (u2 : y6) (x3 : Int) (u3 : y6) (u4 : y6) : List (Nat × Root) := ((0, .row true 6 ((List.set (List.set (List.set (List.set x5 x4.toNat (u0, u1.2.1, u1.2.2.1, u1.2.2.2.1, u1.2.2.2.2.1, u1.2.2.2.2.2)) x4.toNat (u2.1, w64 (x3 + 1), u2.2.2.1, u2.2.2.2.1, u2.2.2.2.2.1, u2.2.2.2.2.2)) x4.toNat (u3.1, u3.2.1, w64 ((w64 (x3 + 1)) + 1), u3.2.2.2.1, u3.2.2.2.2.1, u3.2.2.2.2.2)) x4.toNat (u4.1, u4.2.1, u4.2.2.1, w64 ((w64 ((w64 (x3 + 1)) + 1)) + 1), u4.2.2.2.2.1, u4.2.2.2.2.2)).map A1)) :: (K76 x5 x4 u0 u1 u2 x3 u3))
@[simp] abbrev K78 (x5 : List y6) (x4 : Int) (u0 : List UInt8) (u1 : y6) (u2 : y6) (x3 : Int) (u3 : y6) (u4 : y6) (u5 : y6) : List (Nat × Root) := ((0, .row true 6 ((List.set (List.set (List.set (List.set (List.set x5 x4.toNat (u0, u1.2.1, u1.2.2.1, u1.2.2.2.1, u1.2.2.2.2.1, u1.2.2.2.2.2)) x4.toNat (u2.1, w64 (x3 + 1), u2.2.2.1, u2.2.2.2.1, u2.2.2.2.2.1, u2.2.2.2.2.2)) x4.toNat (u3.1, u3.2.1, w64 ((w64 (x3 + 1)) + 1), u3.2.2.2.1, u3.2.2.2.2.1, u3.2.2.2.2.2)) x4.toNat (u4.1, u4.2.1, u4.2.2.1, w64 ((w64 ((w64 (x3 + 1)) + 1)) + 1), u4.2.2.2.2.1, u4.2.2.2.2.2)) x4.toNat (u5.1, u5.2.1, u5.2.2.1, u5.2.2.2.1, w64 ((w64 ((w64 ((w64 (x3 + 1)) + 1)) + 1)) + 1), u5.2.2.2.2.2)).map A1)) :: (K77 x5 x4 u0 u1 u2 x3 u3 u4))
@[simp] abbrev K79 (x5 : List y6) (x4 : Int) (u0 : List UInt8) (u1 : y6) (u2 : y6) (x3 : Int) (u3 : y6) (u4 : y6) (u5 : y6) (u6 : y6) : Nat × Root := (0, .row true 6 ((List.set (List.set (List.set (List.set (List.set (List.set x5 x4.toNat (u0, u1.2.1, u1.2.2.1, u1.2.2.2.1, u1.2.2.2.2.1, u1.2.2.2.2.2)) x4.toNat (u2.1, w64 (x3 + 1), u2.2.2.1, u2.2.2.2.1, u2.2.2.2.2.1, u2.2.2.2.2.2)) x4.toNat (u3.1, u3.2.1, w64 ((w64 (x3 + 1)) + 1), u3.2.2.2.1, u3.2.2.2.2.1, u3.2.2.2.2.2)) x4.toNat (u4.1, u4.2.1, u4.2.2.1, w64 ((w64 ((w64 (x3 + 1)) + 1)) + 1), u4.2.2.2.2.1, u4.2.2.2.2.2)) x4.toNat (u5.1, u5.2.1, u5.2.2.1, u5.2.2.2.1, w64 ((w64 ((w64 ((w64 (x3 + 1)) + 1)) + 1)) + 1), u5.2.2.2.2.2)) x4.toNat (u6.1, u6.2.1, u6.2.2.1, u6.2.2.2.1, u6.2.2.2.2.1, w64 ((w64 ((w64 ((w64 ((w64 (x3 + 1)) + 1)) + 1)) + 1)) + 1))).map A1))
@[simp] abbrev K7a (x3 : Int) : AV := AI (w64 ((w64 ((w64 ((w64 ((w64 (x3 + 1)) + 1)) + 1)) + 1)) + 1))
@[simp] abbrev K7b (x3 : Int) : AV := AI (w64 ((w64 ((w64 ((w64 (x3 + 1)) + 1)) + 1)) + 1))
@[simp] abbrev K7c (x3 : Int) : AV := AI (w64 ((w64 ((w64 (x3 + 1)) + 1)) + 1))
theorem a7A {v0 : List y6} {v1 : Int} {r : (List y6) × Int} (hF : a1j v0 v1 = some r) : a3n Tryz.prog 50 (.one (.row true 6 (v0.map A1))) (.one (.row true 6 (r.1.map A1))) [.int .i64 v1] (.int .i64 r.2) := by
 unfold a1j at hF
 refine a1k (av := .sl 0 0 v0.length) (L := [(0, .row true 6 (v0.map A1))]) c6M rfl rfl rfl (by simp) fun N => ?_
 refine ws 64 128 (qr (AI 0) (d9 (i8 (ws 128 192 (qr (AI 0) (d9 (j7 ?_)))))))
 refine wr (l' := [(0, .sl 0 0 v0.length), (1, AI v1), (5, AI 0)]) (L := [(0, .row true 6 (v0.map A1))]) [0, 1, 5] [(0, 0)] 1 ?_
 refine y5 (L4) (fun s : Int × Int × (List y6) => mkS [(0, .sl 0 0 s.2.2.length), (1, AI s.1), (5, AI s.2.1)] (fo [(0, .row true 6 (s.2.2.map A1))]) 1) hF ?_
 rintro k0 ⟨x3, x4, x5⟩ hF
 rw [L4] at hF
 try dsimp only
 refine i8 (ws 1 257 (qr (AI x4) (qr (.sl 0 0 x5.length) (qr (AI (x5.length : Int)) (qr (AB (decide (x4 < (x5.length : Int)))) (d9 ?_))))))
 refine cF hF (fun hF => ?_) fun hF => ?_
 ·
  refine g9 (f5 (i8 (j7 (ws 257 705 (qr (.sl 0 0 x5.length) (qr (AI x4) (qr (AI x3) (bk hF fun u0 e0 hF => qC (AS u0) [(0, .row true 6 (x5.map A1))] (J1 e0) b7x (bk hF fun u1 e1 hF => qp (.ptr 0 x4.toNat 0) (B1 rfl (by simp) rfl rfl e1) (qr (.ptr 0 x4.toNat 0) (qf0 (.undef) (K74 x5 x4 u0 u1) (D6 rfl rfl (B9 e1).2 rfl rfl (by rfl) (by first | rfl | simp [patch, reb, List.take_of_length_le]) (by rfl) rfl) (d9 (ws 705 897 ?_)))))))))))))
  refine qr (AI x3) (qr (AI (w64 (x3 + 1))) (qr (AI (w64 (x3 + 1))) (d9 (ws 897 1281 (qr (.sl 0 0 x5.length) (qr (AI x4) (qr (AI (w64 (x3 + 1))) (bk hF fun u2 e2 hF => qp (.ptr 0 x4.toNat 0) (B1 rfl (by simp) rfl rfl e2) (qr (.ptr 0 x4.toNat 1) (qf0 (.undef) (K75 x5 x4 u0 u1 u2 x3) (D6 rfl rfl (B9 e2).2 rfl rfl (by rfl) (by first | rfl | simp [patch, reb, List.take_of_length_le]) (by rfl) rfl) (d9 ?_)))))))))))
  refine ws 1281 1473 (qr (AI (w64 (x3 + 1))) (qr (AI (w64 ((w64 (x3 + 1)) + 1))) (qr (AI (w64 ((w64 (x3 + 1)) + 1))) (d9 (ws 1473 1857 ?_)))))
  refine qr (.sl 0 0 x5.length) (qr (AI x4) (qr (AI (w64 ((w64 (x3 + 1)) + 1))) (bk hF fun u3 e3 hF => qp (.ptr 0 x4.toNat 0) (B1 rfl (by simp) rfl rfl e3) (qr (.ptr 0 x4.toNat 2) (qf0 (.undef) (K76 x5 x4 u0 u1 u2 x3 u3) (D6 rfl rfl (B9 e3).2 rfl rfl (by rfl) (by first | rfl | simp [patch, reb, List.take_of_length_le]) (by rfl) rfl) (d9 (ws 1857 2049 (qr (AI (w64 ((w64 (x3 + 1)) + 1))) (qr (K7c x3) (qr (K7c x3) ?_))))))))))
  refine d9 (ws 2049 2433 (qr (.sl 0 0 x5.length) (qr (AI x4) (qr (K7c x3) (bk hF fun u4 e4 hF => qp (.ptr 0 x4.toNat 0) (B1 rfl (by simp) rfl rfl e4) (qr (.ptr 0 x4.toNat 3) (qf0 (.undef) (K77 x5 x4 u0 u1 u2 x3 u3 u4) (D6 rfl rfl (B9 e4).2 rfl rfl (by rfl) (by first | rfl | simp [patch, reb, List.take_of_length_le]) (by rfl) rfl) (d9 (ws 2433 2625 (qr (K7c x3) (qr (K7b x3) (qr (K7b x3) (d9 (ws 2625 3009 ?_))))))))))))))
  refine qr (.sl 0 0 x5.length) (qr (AI x4) (qr (K7b x3) (bk hF fun u5 e5 hF => qp (.ptr 0 x4.toNat 0) (B1 rfl (by simp) rfl rfl e5) (qr (.ptr 0 x4.toNat 4) (qf0 (.undef) (K78 x5 x4 u0 u1 u2 x3 u3 u4 u5) (D6 rfl rfl (B9 e5).2 rfl rfl (by rfl) (by first | rfl | simp [patch, reb, List.take_of_length_le]) (by rfl) rfl) (d9 (ws 3009 3201 (qr (K7b x3) (qr (K7a x3) (qr (K7a x3) (d9 (ws 3201 3585 ?_))))))))))))
  refine qr (.sl 0 0 x5.length) (qr (AI x4) (qr (K7a x3) (bk hF fun u6 e6 hF => qp (.ptr 0 x4.toNat 0) (B1 rfl (by simp) rfl rfl e6) (qr (.ptr 0 x4.toNat 5) (qf0 (.undef) ((K79 x5 x4 u0 u1 u2 x3 u3 u4 u5 u6) :: (K78 x5 x4 u0 u1 u2 x3 u3 u4 u5)) (D6 rfl rfl (B9 e6).2 rfl rfl (by rfl) (by first | rfl | simp [patch, reb, List.take_of_length_le]) (by rfl) rfl) (d9 (y4 3585 3777 rfl rfl ?_)))))))
  refine qr (K7a x3) (qr (AI (w64 ((w64 ((w64 ((w64 ((w64 ((w64 (x3 + 1)) + 1)) + 1)) + 1)) + 1)) + 1))) (qr (AI (w64 ((w64 ((w64 ((w64 ((w64 ((w64 (x3 + 1)) + 1)) + 1)) + 1)) + 1)) + 1))) ?_))
  refine d9 (p6 (f5 (y4 3777 3969 rfl rfl (qr (AI x4) (qr (AI (w64 (x4 + 1))) (qr (AI (w64 (x4 + 1))) (d9 (f5 ?_))))))))
  refine ar (l' := [(0, .sl 0 0 (List.set (List.set (List.set (List.set (List.set (List.set x5 x4.toNat (u0, u1.2.1, u1.2.2.1, u1.2.2.2.1, u1.2.2.2.2.1, u1.2.2.2.2.2)) x4.toNat (u2.1, w64 (x3 + 1), u2.2.2.1, u2.2.2.2.1, u2.2.2.2.2.1, u2.2.2.2.2.2)) x4.toNat (u3.1, u3.2.1, w64 ((w64 (x3 + 1)) + 1), u3.2.2.2.1, u3.2.2.2.2.1, u3.2.2.2.2.2)) x4.toNat (u4.1, u4.2.1, u4.2.2.1, w64 ((w64 ((w64 (x3 + 1)) + 1)) + 1), u4.2.2.2.2.1, u4.2.2.2.2.2)) x4.toNat (u5.1, u5.2.1, u5.2.2.1, u5.2.2.2.1, w64 ((w64 ((w64 ((w64 (x3 + 1)) + 1)) + 1)) + 1), u5.2.2.2.2.2)) x4.toNat (u6.1, u6.2.1, u6.2.2.1, u6.2.2.2.1, u6.2.2.2.2.1, w64 ((w64 ((w64 ((w64 ((w64 (x3 + 1)) + 1)) + 1)) + 1)) + 1))).length), (1, AI (w64 ((w64 ((w64 ((w64 ((w64 ((w64 (x3 + 1)) + 1)) + 1)) + 1)) + 1)) + 1))), (5, AI (w64 (x4 + 1)))]) (L := [(K79 x5 x4 u0 u1 u2 x3 u3 u4 u5 u6)]) [0, 1, 5] [(0, 0)] 1 ⟨_, by rfl, hF⟩
 refine z8 (j5 (j5 (s9 (f5 (ws 257 385 (qr (AI x3) (qr (AI x3) (d9 (j8 ?_)))))))))
 cases hF
 exact a2K rfl rfl (by first | rfl | (simp [List.take_of_length_le]; first | exact ⟨rfl, rfl⟩ | rfl)) (by simp)

def c51 : MC := (sr [pT 4 (.mv (ci 0))] (.seq (sr [pT 5 (.mv (ci 0))] (.block 0 (.loop (.seq (sr [mvt 6 5, mvt 7 0, zT 8 7, bT 9 .lss t6 t8] (cx t9 0)) (.seq (.block 1 (sr [mvt 12 0, mvt 13 5, mvt 14 1, iT 15 12 13 5, pT 16 (.fad t15 0), ⟨none, none, (.f (.st t16 t14 1))⟩] (sr [mvt 17 1, bT 18 .add t17 (ci 1), mvt 1 18] (sr [mvt 19 0, mvt 20 5, mvt 21 1, dT 22 53 [t21], iT 23 19 20 5, pT 24 (.fad t23 1), ⟨none, none, (.f (.st t24 t22 1))⟩] (sr [mvt 25 1, bT 26 .add t25 (ci 1), mvt 1 26] (sr [mvt 27 0, mvt 28 5, mvt 29 1, dT 30 53 [t29], iT 31 27 28 5, pT 32 (.fad t31 2), ⟨none, none, (.f (.st t32 t30 1))⟩] (sr [mvt 33 1, bT 34 .add t33 (ci 1), mvt 1 34] (sr [mvt 35 0, mvt 36 5, mvt 37 1, iT 38 35 36 5, pT 39 (.fad t38 3), ⟨none, none, (.f (.st t39 t37 1))⟩] (sr [mvt 40 1, bT 41 .add t40 (ci 1), mvt 1 41] (sr [mvt 42 0, mvt 43 5, mvt 44 1, iT 45 42 43 5, pT 46 (.fad t45 4), ⟨none, none, (.f (.st t46 t44 1))⟩] (.reg [mvt 47 1, bT 48 .add t47 (ci 1), mvt 1 48]))))))))))) (.reg [mvt 10 5, bT 11 .add t10 (ci 1), mvt 5 11])))))) (sr [mvt 49 1, mvt 4 49] .ret)))
theorem c5B : Z8 Tryz.prog 51 = some (c51, [(.tmp 4)]) := by kernel_rfl
theorem c5Y : a1W Tryz.prog 51 = true := by kernel_rfl

def G9 (k0 : Int × Int × (List n9) → Option ((List n9) × Int)) : Int × Int × (List n9) → Option ((List n9) × Int)
 | (x3, x4, x5) => (bif (decide (x4 < (x5.length : Int))) then ((ix x5 x4).bind fun u0 => ((D4 (w64 (x3 + 1))).bind fun u1 => ((ix (List.set x5 x4.toNat (x3, u0.2.1, u0.2.2.1, u0.2.2.2.1, u0.2.2.2.2)) x4).bind fun u2 => ((D4 (w64 ((w64 (x3 + 1)) + 1))).bind fun u3 => ((ix (List.set (List.set x5 x4.toNat (x3, u0.2.1, u0.2.2.1, u0.2.2.2.1, u0.2.2.2.2)) x4.toNat (u2.1, u1, u2.2.2.1, u2.2.2.2.1, u2.2.2.2.2)) x4).bind fun u4 => ((ix (List.set (List.set (List.set x5 x4.toNat (x3, u0.2.1, u0.2.2.1, u0.2.2.2.1, u0.2.2.2.2)) x4.toNat (u2.1, u1, u2.2.2.1, u2.2.2.2.1, u2.2.2.2.2)) x4.toNat (u4.1, u4.2.1, u3, u4.2.2.2.1, u4.2.2.2.2)) x4).bind fun u5 => ((ix (List.set (List.set (List.set (List.set x5 x4.toNat (x3, u0.2.1, u0.2.2.1, u0.2.2.2.1, u0.2.2.2.2)) x4.toNat (u2.1, u1, u2.2.2.1, u2.2.2.2.1, u2.2.2.2.2)) x4.toNat (u4.1, u4.2.1, u3, u4.2.2.2.1, u4.2.2.2.2)) x4.toNat (u5.1, u5.2.1, u5.2.2.1, w64 ((w64 ((w64 (x3 + 1)) + 1)) + 1), u5.2.2.2.2)) x4).bind fun u6 => k0 (w64 ((w64 ((w64 ((w64 ((w64 (x3 + 1)) + 1)) + 1)) + 1)) + 1), w64 (x4 + 1), List.set (List.set (List.set (List.set (List.set x5 x4.toNat (x3, u0.2.1, u0.2.2.1, u0.2.2.2.1, u0.2.2.2.2)) x4.toNat (u2.1, u1, u2.2.2.1, u2.2.2.2.1, u2.2.2.2.2)) x4.toNat (u4.1, u4.2.1, u3, u4.2.2.2.1, u4.2.2.2.2)) x4.toNat (u5.1, u5.2.1, u5.2.2.1, w64 ((w64 ((w64 (x3 + 1)) + 1)) + 1), u5.2.2.2.2)) x4.toNat (u6.1, u6.2.1, u6.2.2.1, u6.2.2.2.1, w64 ((w64 ((w64 ((w64 (x3 + 1)) + 1)) + 1)) + 1))))))))))
 else some (x5, x3))
def Z7 (v0 : List n9) (v1 : Int) : Option ((List n9) × Int) :=
 loop (G9) (v1, 0, v0)
@[simp] abbrev K7d (x5 : List n9) (x4 : Int) (x3 : Int) (u0 : n9) : List (Nat × Root) := [(0, .row true 5 ((List.set x5 x4.toNat (x3, u0.2.1, u0.2.2.1, u0.2.2.2.1, u0.2.2.2.2)).map p8)), (0, .row true 5 (x5.map p8))]
@[simp] abbrev K7e (x5 : List n9) (x4 : Int) (x3 : Int) (u0 : n9) (u2 : n9) (u1 : List UInt8) : List (Nat × Root) := ((0, .row true 5 ((List.set (List.set x5 x4.toNat (x3, u0.2.1, u0.2.2.1, u0.2.2.2.1, u0.2.2.2.2)) x4.toNat (u2.1, u1, u2.2.2.1, u2.2.2.2.1, u2.2.2.2.2)).map p8)) :: (K7d x5 x4 x3 u0))
@[simp] abbrev K7f (x5 : List n9) (x4 : Int) (x3 : Int) (u0 : n9) (u2 : n9) (u1 : List UInt8) (u4 : n9) (u3 : List UInt8) : List (Nat × Root) := ((0, .row true 5 ((List.set (List.set (List.set x5 x4.toNat (x3, u0.2.1, u0.2.2.1, u0.2.2.2.1, u0.2.2.2.2)) x4.toNat (u2.1, u1, u2.2.2.1, u2.2.2.2.1, u2.2.2.2.2)) x4.toNat (u4.1, u4.2.1, u3, u4.2.2.2.1, u4.2.2.2.2)).map p8)) :: (K7e x5 x4 x3 u0 u2 u1))
@[simp] abbrev K7g (x5 : List n9) (x4 : Int) (x3 : Int) (u0 : n9) (u2 : n9) (u1 : List UInt8) (u4 : n9) (u3 : List UInt8) (u5 : n9) : List (Nat × Root) := ((0, .row true 5 ((List.set (List.set (List.set (List.set x5 x4.toNat (x3, u0.2.1, u0.2.2.1, u0.2.2.2.1, u0.2.2.2.2)) x4.toNat (u2.1, u1, u2.2.2.1, u2.2.2.2.1, u2.2.2.2.2)) x4.toNat (u4.1, u4.2.1, u3, u4.2.2.2.1, u4.2.2.2.2)) x4.toNat (u5.1, u5.2.1, u5.2.2.1, w64 ((w64 ((w64 (x3 + 1)) + 1)) + 1), u5.2.2.2.2)).map p8)) :: (K7f x5 x4 x3 u0 u2 u1 u4 u3))
@[simp] abbrev K7h (x5 : List n9) (x4 : Int) (x3 : Int) (u0 : n9) (u2 : n9) (u1 : List UInt8) (u4 : n9) (u3 : List UInt8) (u5 : n9) (u6 : n9) : Nat × Root := (0, .row true 5 ((List.set (List.set (List.set (List.set (List.set x5 x4.toNat (x3, u0.2.1, u0.2.2.1, u0.2.2.2.1, u0.2.2.2.2)) x4.toNat (u2.1, u1, u2.2.2.1, u2.2.2.2.1, u2.2.2.2.2)) x4.toNat (u4.1, u4.2.1, u3, u4.2.2.2.1, u4.2.2.2.2)) x4.toNat (u5.1, u5.2.1, u5.2.2.1, w64 ((w64 ((w64 (x3 + 1)) + 1)) + 1), u5.2.2.2.2)) x4.toNat (u6.1, u6.2.1, u6.2.2.1, u6.2.2.2.1, w64 ((w64 ((w64 ((w64 (x3 + 1)) + 1)) + 1)) + 1))).map p8))
@[simp] abbrev K7i (x3 : Int) : AV := AI (w64 ((w64 ((w64 ((w64 (x3 + 1)) + 1)) + 1)) + 1))
@[simp] abbrev K7j (x3 : Int) : AV := AI (w64 ((w64 ((w64 (x3 + 1)) + 1)) + 1))
theorem a6e {v0 : List n9} {v1 : Int} {r : (List n9) × Int} (hF : Z7 v0 v1 = some r) : a3n Tryz.prog 51 (.one (.row true 5 (v0.map p8))) (.one (.row true 5 (r.1.map p8))) [.int .i64 v1] (.int .i64 r.2) := by
 unfold Z7 at hF
 refine a1k (av := .sl 0 0 v0.length) (L := [(0, .row true 5 (v0.map p8))]) c5B rfl rfl rfl (by simp) fun N => ?_
 refine ws 64 128 (qr (AI 0) (d9 (i8 (ws 128 192 (qr (AI 0) (d9 (j7 ?_)))))))
 refine wr (l' := [(0, .sl 0 0 v0.length), (1, AI v1), (5, AI 0)]) (L := [(0, .row true 5 (v0.map p8))]) [0, 1, 5] [(0, 0)] 1 ?_
 refine y5 (G9) (fun s : Int × Int × (List n9) => mkS [(0, .sl 0 0 s.2.2.length), (1, AI s.1), (5, AI s.2.1)] (fo [(0, .row true 5 (s.2.2.map p8))]) 1) hF ?_
 rintro k0 ⟨x3, x4, x5⟩ hF
 rw [G9] at hF
 try dsimp only
 refine i8 (ws 1 257 (qr (AI x4) (qr (.sl 0 0 x5.length) (qr (AI (x5.length : Int)) (qr (AB (decide (x4 < (x5.length : Int)))) (d9 ?_))))))
 refine cF hF (fun hF => ?_) fun hF => ?_
 ·
  refine g9 (f5 (i8 (j7 (ws 257 641 (qr (.sl 0 0 x5.length) (qr (AI x4) (qr (AI x3) (bk hF fun u0 e0 hF => qp (.ptr 0 x4.toNat 0) (B1 rfl (by simp) rfl rfl e0) (qr (.ptr 0 x4.toNat 0) (qf0 (.undef) (K7d x5 x4 x3 u0) (D6 rfl rfl (B9 e0).2 rfl rfl (by rfl) (by first | rfl | simp [patch, reb, List.take_of_length_le]) (by rfl) rfl) (d9 (ws 641 833 ?_))))))))))))
  refine qr (AI x3) (qr (AI (w64 (x3 + 1))) (qr (AI (w64 (x3 + 1))) (d9 (ws 833 1281 (qr (.sl 0 0 x5.length) (qr (AI x4) (qr (AI (w64 (x3 + 1))) (bk hF fun u1 e1 hF => qC (AS u1) (K7d x5 x4 x3 u0) (J1 e1) b7x (bk hF fun u2 e2 hF => qp (.ptr 0 x4.toNat 0) (B1 rfl (by simp) rfl rfl e2) (qr (.ptr 0 x4.toNat 1) (qf0 (.undef) (K7e x5 x4 x3 u0 u2 u1) (D6 rfl rfl (B9 e2).2 rfl rfl (by rfl) (by first | rfl | simp [patch, reb, List.take_of_length_le]) (by rfl) rfl) (d9 ?_))))))))))))
  refine ws 1281 1473 (qr (AI (w64 (x3 + 1))) (qr (AI (w64 ((w64 (x3 + 1)) + 1))) (qr (AI (w64 ((w64 (x3 + 1)) + 1))) (d9 (ws 1473 1921 ?_)))))
  refine qr (.sl 0 0 x5.length) (qr (AI x4) (qr (AI (w64 ((w64 (x3 + 1)) + 1))) (bk hF fun u3 e3 hF => qC (AS u3) (K7e x5 x4 x3 u0 u2 u1) (J1 e3) b7x (bk hF fun u4 e4 hF => qp (.ptr 0 x4.toNat 0) (B1 rfl (by simp) rfl rfl e4) (qr (.ptr 0 x4.toNat 2) (qf0 (.undef) (K7f x5 x4 x3 u0 u2 u1 u4 u3) (D6 rfl rfl (B9 e4).2 rfl rfl (by rfl) (by first | rfl | simp [patch, reb, List.take_of_length_le]) (by rfl) rfl) (d9 (ws 1921 2113 (qr (AI (w64 ((w64 (x3 + 1)) + 1))) (qr (K7j x3) (qr (K7j x3) ?_)))))))))))
  refine d9 (ws 2113 2497 (qr (.sl 0 0 x5.length) (qr (AI x4) (qr (K7j x3) (bk hF fun u5 e5 hF => qp (.ptr 0 x4.toNat 0) (B1 rfl (by simp) rfl rfl e5) (qr (.ptr 0 x4.toNat 3) (qf0 (.undef) (K7g x5 x4 x3 u0 u2 u1 u4 u3 u5) (D6 rfl rfl (B9 e5).2 rfl rfl (by rfl) (by first | rfl | simp [patch, reb, List.take_of_length_le]) (by rfl) rfl) (d9 (ws 2497 2689 (qr (K7j x3) (qr (K7i x3) (qr (K7i x3) (d9 (ws 2689 3073 ?_))))))))))))))
  refine qr (.sl 0 0 x5.length) (qr (AI x4) (qr (K7i x3) (bk hF fun u6 e6 hF => qp (.ptr 0 x4.toNat 0) (B1 rfl (by simp) rfl rfl e6) (qr (.ptr 0 x4.toNat 4) (qf0 (.undef) ((K7h x5 x4 x3 u0 u2 u1 u4 u3 u5 u6) :: (K7g x5 x4 x3 u0 u2 u1 u4 u3 u5)) (D6 rfl rfl (B9 e6).2 rfl rfl (by rfl) (by first | rfl | simp [patch, reb, List.take_of_length_le]) (by rfl) rfl) (d9 (y4 3073 3265 rfl rfl ?_)))))))
  refine qr (K7i x3) (qr (AI (w64 ((w64 ((w64 ((w64 ((w64 (x3 + 1)) + 1)) + 1)) + 1)) + 1))) (qr (AI (w64 ((w64 ((w64 ((w64 ((w64 (x3 + 1)) + 1)) + 1)) + 1)) + 1))) (d9 ?_)))
  refine p6 (f5 (y4 3265 3457 rfl rfl (qr (AI x4) (qr (AI (w64 (x4 + 1))) (qr (AI (w64 (x4 + 1))) (d9 (f5 ?_)))))))
  refine ar (l' := [(0, .sl 0 0 (List.set (List.set (List.set (List.set (List.set x5 x4.toNat (x3, u0.2.1, u0.2.2.1, u0.2.2.2.1, u0.2.2.2.2)) x4.toNat (u2.1, u1, u2.2.2.1, u2.2.2.2.1, u2.2.2.2.2)) x4.toNat (u4.1, u4.2.1, u3, u4.2.2.2.1, u4.2.2.2.2)) x4.toNat (u5.1, u5.2.1, u5.2.2.1, w64 ((w64 ((w64 (x3 + 1)) + 1)) + 1), u5.2.2.2.2)) x4.toNat (u6.1, u6.2.1, u6.2.2.1, u6.2.2.2.1, w64 ((w64 ((w64 ((w64 (x3 + 1)) + 1)) + 1)) + 1))).length), (1, AI (w64 ((w64 ((w64 ((w64 ((w64 (x3 + 1)) + 1)) + 1)) + 1)) + 1))), (5, AI (w64 (x4 + 1)))]) (L := [(K7h x5 x4 x3 u0 u2 u1 u4 u3 u5 u6)]) [0, 1, 5] [(0, 0)] 1 ⟨_, by rfl, hF⟩
 refine z8 (j5 (j5 (s9 (f5 (ws 257 385 (qr (AI x3) (qr (AI x3) (d9 (j8 ?_)))))))))
 cases hF
 exact a2K rfl rfl (by first | rfl | (simp [List.take_of_length_le]; first | exact ⟨rfl, rfl⟩ | rfl)) (by simp)

def c11 : MC := (sr [pT 4 (.mv (ci 0))] (.seq (sr [pT 5 (.mv (ci 0))] (.block 0 (.loop (.seq (sr [mvt 6 5, mvt 7 0, zT 8 7, bT 9 .lss t6 t8] (cx t9 0)) (.seq (.block 1 (sr [mvt 12 0, mvt 13 5, mvt 14 1, dT 15 53 [t14], iT 16 12 13 1, ⟨none, none, (.f (.st t16 t15 1))⟩] (.reg [mvt 17 1, bT 18 .add t17 (ci 1), mvt 1 18]))) (.reg [mvt 10 5, bT 11 .add t10 (ci 1), mvt 5 11])))))) (sr [mvt 19 1, mvt 4 19] .ret)))
theorem c5x : Z8 Tryz.prog 11 = some (c11, [(.tmp 4)]) := by kernel_rfl
theorem c2n : a1W Tryz.prog 11 = true := by kernel_rfl

def G8 (k0 : Int × Int × (List (List UInt8)) → Option ((List (List UInt8)) × Int)) : Int × Int × (List (List UInt8)) → Option ((List (List UInt8)) × Int)
 | (x3, x4, x5) => (bif (decide (x4 < (x5.length : Int))) then ((D4 x3).bind fun u0 => ((ix x5 x4).bind fun u1 => k0 (w64 (x3 + 1), w64 (x4 + 1), List.set x5 x4.toNat u0)))
 else some (x5, x3))
def S4 (v0 : List (List UInt8)) (v1 : Int) : Option ((List (List UInt8)) × Int) :=
 loop (G8) (v1, 0, v0)
theorem a3c {v0 : List (List UInt8)} {v1 : Int} {r : (List (List UInt8)) × Int} (hF : S4 v0 v1 = some r) : a3n Tryz.prog 11 (.one (.row true 1 (v0.map V.str))) (.one (.row true 1 (r.1.map V.str))) [.int .i64 v1] (.int .i64 r.2) := by
 unfold S4 at hF
 refine a1k (av := .sl 0 0 v0.length) (L := [(0, .row true 1 (v0.map V.str))]) c5x rfl rfl rfl (by simp) fun N => ?_
 refine ws 64 128 (qr (AI 0) (d9 (i8 (ws 128 192 (qr (AI 0) (d9 (j7 ?_)))))))
 refine wr (l' := [(0, .sl 0 0 v0.length), (1, AI v1), (5, AI 0)]) (L := [(0, .row true 1 (v0.map V.str))]) [0, 1, 5] [(0, 0)] 1 ?_
 refine y5 (G8) (fun s : Int × Int × (List (List UInt8)) => mkS [(0, .sl 0 0 s.2.2.length), (1, AI s.1), (5, AI s.2.1)] (fo [(0, .row true 1 (s.2.2.map V.str))]) 1) hF ?_
 rintro k0 ⟨x3, x4, x5⟩ hF
 rw [G8] at hF
 try dsimp only
 refine i8 (ws 1 257 (qr (AI x4) (qr (.sl 0 0 x5.length) (qr (AI (x5.length : Int)) (qr (AB (decide (x4 < (x5.length : Int)))) (d9 ?_))))))
 refine cF hF (fun hF => ?_) fun hF => ?_
 ·
  refine g9 (f5 (i8 (j7 (ws 257 641 (qr (.sl 0 0 x5.length) (qr (AI x4) (qr (AI x3) (bk hF fun u0 e0 hF => qC (AS u0) [(0, .row true 1 (x5.map V.str))] (J1 e0) b7x (bk hF fun u1 e1 hF => qp (.ptr 0 x4.toNat 0) (B1 rfl (by simp) rfl rfl e1) (qf0 (.undef) [(0, .row true 1 ((List.set x5 x4.toNat u0).map V.str)), (0, .row true 1 (x5.map V.str))] (D6 rfl rfl (B9 e1).2 rfl rfl (by rfl) (by first | rfl | simp [patch, reb, List.take_of_length_le]) (by rfl) rfl) (d9 (y4 641 833 rfl rfl ?_))))))))))))
  refine qr (AI x3) (qr (AI (w64 (x3 + 1))) (qr (AI (w64 (x3 + 1))) (d9 (p6 (f5 (y4 833 1025 rfl rfl (qr (AI x4) (qr (AI (w64 (x4 + 1))) (qr (AI (w64 (x4 + 1))) ?_)))))))))
  refine d9 (f5 ?_)
  refine ar (l' := [(0, .sl 0 0 (List.set x5 x4.toNat u0).length), (1, AI (w64 (x3 + 1))), (5, AI (w64 (x4 + 1)))]) (L := [(0, .row true 1 ((List.set x5 x4.toNat u0).map V.str))]) [0, 1, 5] [(0, 0)] 1 ⟨_, by rfl, hF⟩
 refine z8 (j5 (j5 (s9 (f5 (ws 257 385 (qr (AI x3) (qr (AI x3) (d9 (j8 ?_)))))))))
 cases hF
 exact a2K rfl rfl (by first | rfl | (simp [List.take_of_length_le]; first | exact ⟨rfl, rfl⟩ | rfl)) (by simp)

def c52 : MC := (sr [pT 4 (.mv (ci 0))] (.seq (sr [pT 5 (.mv (ci 0))] (.block 0 (.loop (.seq (sr [mvt 6 5, mvt 7 0, zT 8 7, bT 9 .lss t6 t8] (cx t9 0)) (.seq (.block 1 (sr [mvt 12 0, mvt 13 5, mvt 14 1, dT 15 53 [t14], iT 16 12 13 3, pT 17 (.fad t16 0), ⟨none, none, (.f (.st t17 t15 1))⟩] (sr [mvt 18 1, bT 19 .add t18 (ci 1), mvt 1 19] (sr [mvt 20 0, mvt 21 5, mvt 22 1, iT 23 20 21 3, pT 24 (.fad t23 1), ⟨none, none, (.f (.st t24 t22 1))⟩] (sr [mvt 25 1, bT 26 .add t25 (ci 1), mvt 1 26] (.reg [mvt 27 0, mvt 28 5, iT 29 27 28 3, pT 30 (.fad t29 2), lT 31 30, mvt 32 1, dT 33 11 [t31, t32], mvt 1 33])))))) (.reg [mvt 10 5, bT 11 .add t10 (ci 1), mvt 5 11])))))) (sr [mvt 34 1, mvt 4 34] .ret)))
theorem c6j : Z8 Tryz.prog 52 = some (c52, [(.tmp 4)]) := by kernel_rfl
theorem c6t : a1W Tryz.prog 52 = true := by kernel_rfl

def G6 (k0 : Int × Int × (List p4) → Option ((List p4) × Int)) : Int × Int × (List p4) → Option ((List p4) × Int)
 | (x3, x4, x5) => (bif (decide (x4 < (x5.length : Int))) then ((D4 x3).bind fun u0 => ((ix x5 x4).bind fun u1 => ((ix (List.set x5 x4.toNat (u0, u1.2.1, u1.2.2)) x4).bind fun u2 => ((ix (List.set (List.set x5 x4.toNat (u0, u1.2.1, u1.2.2)) x4.toNat (u2.1, w64 (x3 + 1), u2.2.2)) x4).bind fun u3 => ((S4 u3.2.2 (w64 ((w64 (x3 + 1)) + 1))).bind fun u4 => need (u4.1.length = u3.2.2.length) (k0 (u4.2, w64 (x4 + 1), List.set (List.set (List.set x5 x4.toNat (u0, u1.2.1, u1.2.2)) x4.toNat (u2.1, w64 (x3 + 1), u2.2.2)) x4.toNat (u3.1, u3.2.1, u4.1))))))))
 else some (x5, x3))
def a0e (v0 : List p4) (v1 : Int) : Option ((List p4) × Int) :=
 loop (G6) (v1, 0, v0)
@[simp] abbrev K7k (x5 : List p4) (x4 : Int) (u0 : List UInt8) (u1 : p4) : List (Nat × Root) := [(0, .row true 3 ((List.set x5 x4.toNat (u0, u1.2.1, u1.2.2)).map p9)), (0, .row true 3 (x5.map p9))]
@[simp] abbrev K7l (x5 : List p4) (x4 : Int) (u0 : List UInt8) (u1 : p4) (u2 : p4) (x3 : Int) : List (Nat × Root) := ((0, .row true 3 ((List.set (List.set x5 x4.toNat (u0, u1.2.1, u1.2.2)) x4.toNat (u2.1, w64 (x3 + 1), u2.2.2)).map p9)) :: (K7k x5 x4 u0 u1))
theorem a5v {v0 : List p4} {v1 : Int} {r : (List p4) × Int} (hF : a0e v0 v1 = some r) : a3n Tryz.prog 52 (.one (.row true 3 (v0.map p9))) (.one (.row true 3 (r.1.map p9))) [.int .i64 v1] (.int .i64 r.2) := by
 unfold a0e at hF
 refine a1k (av := .sl 0 0 v0.length) (L := [(0, .row true 3 (v0.map p9))]) c6j rfl rfl rfl (by simp) fun N => ?_
 refine ws 64 128 (qr (AI 0) (d9 (i8 (ws 128 192 (qr (AI 0) (d9 (j7 ?_)))))))
 refine wr (l' := [(0, .sl 0 0 v0.length), (1, AI v1), (5, AI 0)]) (L := [(0, .row true 3 (v0.map p9))]) [0, 1, 5] [(0, 0)] 1 ?_
 refine y5 (G6) (fun s : Int × Int × (List p4) => mkS [(0, .sl 0 0 s.2.2.length), (1, AI s.1), (5, AI s.2.1)] (fo [(0, .row true 3 (s.2.2.map p9))]) 1) hF ?_
 rintro k0 ⟨x3, x4, x5⟩ hF
 rw [G6] at hF
 try dsimp only
 refine i8 (ws 1 257 (qr (AI x4) (qr (.sl 0 0 x5.length) (qr (AI (x5.length : Int)) (qr (AB (decide (x4 < (x5.length : Int)))) (d9 ?_))))))
 refine cF hF (fun hF => ?_) fun hF => ?_
 ·
  refine g9 (f5 (i8 (j7 (ws 257 705 (qr (.sl 0 0 x5.length) (qr (AI x4) (qr (AI x3) (bk hF fun u0 e0 hF => qC (AS u0) [(0, .row true 3 (x5.map p9))] (J1 e0) b7x (bk hF fun u1 e1 hF => qp (.ptr 0 x4.toNat 0) (B1 rfl (by simp) rfl rfl e1) (qr (.ptr 0 x4.toNat 0) (qf0 (.undef) (K7k x5 x4 u0 u1) (D6 rfl rfl (B9 e1).2 rfl rfl (by rfl) (by first | rfl | simp [patch, reb, List.take_of_length_le]) (by rfl) rfl) (d9 (ws 705 897 ?_)))))))))))))
  refine qr (AI x3) (qr (AI (w64 (x3 + 1))) (qr (AI (w64 (x3 + 1))) (d9 (ws 897 1281 (qr (.sl 0 0 x5.length) (qr (AI x4) (qr (AI (w64 (x3 + 1))) (bk hF fun u2 e2 hF => qp (.ptr 0 x4.toNat 0) (B1 rfl (by simp) rfl rfl e2) (qr (.ptr 0 x4.toNat 1) (qf0 (.undef) (K7l x5 x4 u0 u1 u2 x3) (D6 rfl rfl (B9 e2).2 rfl rfl (by rfl) (by first | rfl | simp [patch, reb, List.take_of_length_le]) (by rfl) rfl) (d9 ?_)))))))))))
  refine ws 1281 1473 (qr (AI (w64 (x3 + 1))) (qr (AI (w64 ((w64 (x3 + 1)) + 1))) (qr (AI (w64 ((w64 (x3 + 1)) + 1))) (d9 (y4 1473 1985 rfl rfl (qr (.sl 0 0 x5.length) (qr (AI x4) (bk hF fun u3 e3 hF => ?_))))))))
  refine qp (.ptr 0 x4.toNat 0) (B1 rfl (by simp) rfl rfl e3) (qr (.ptr 0 x4.toNat 2) (bk hF fun u4 e4 hF => nk hF fun g5 hF => c7E ((0, .row true 3 ((List.set (List.set (List.set x5 x4.toNat (u0, u1.2.1, u1.2.2)) x4.toNat (u2.1, w64 (x3 + 1), u2.2.2)) x4.toNat (u3.1, u3.2.1, u4.1)).map p9)) :: (K7l x5 x4 u0 u1 u2 x3)) rfl rfl (b9D (B9 e3).2) rfl rfl rfl (a3c e4) c2n (by simp [g5]) rfl rfl rfl (by simp [T7, a2R, a0N, Y3, patch, reb, List.map_set]) (qr (AI u4.2) (d9 (p6 (f5 (y4 1985 2177 rfl rfl (qr (AI x4) (qr (AI (w64 (x4 + 1))) (qr (AI (w64 (x4 + 1))) (d9 (f5 ?_))))))))))))
  refine ar (l' := [(0, .sl 0 0 (List.set (List.set (List.set x5 x4.toNat (u0, u1.2.1, u1.2.2)) x4.toNat (u2.1, w64 (x3 + 1), u2.2.2)) x4.toNat (u3.1, u3.2.1, u4.1)).length), (1, AI u4.2), (5, AI (w64 (x4 + 1)))]) (L := [(0, .row true 3 ((List.set (List.set (List.set x5 x4.toNat (u0, u1.2.1, u1.2.2)) x4.toNat (u2.1, w64 (x3 + 1), u2.2.2)) x4.toNat (u3.1, u3.2.1, u4.1)).map p9))]) [0, 1, 5] [(0, 0)] 1 ⟨_, by rfl, hF⟩
 refine z8 (j5 (j5 (s9 (f5 (ws 257 385 (qr (AI x3) (qr (AI x3) (d9 (j8 ?_)))))))))
 cases hF
 exact a2K rfl rfl (by first | rfl | (simp [List.take_of_length_le]; first | exact ⟨rfl, rfl⟩ | rfl)) (by simp)

end Go.Ab
