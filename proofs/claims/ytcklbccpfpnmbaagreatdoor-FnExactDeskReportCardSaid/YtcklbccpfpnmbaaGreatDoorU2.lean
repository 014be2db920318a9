/- Walks (printed by auto.py, a program of this session's own). -/
import Derived.Test.YtcklbccpfpnmbaaGreatDoorU1
import Derived.Test.YtcklbccpfpnmbaaGreatDoorProg
import Derived.KernelRfl
import Derived.Test.YtcklbccpfpnmbaaGreatDoorSQ
set_option linter.unusedVariables false
set_option linter.unusedSimpArgs false
set_option maxRecDepth 8000
set_option maxHeartbeats 8000000
noncomputable section
namespace Go.Ab
open Go.RowKit Go.Proofs

def d0a : MC := (sr [pT 4 (.mv cf)] (.seq (sr [pT 5 (.mv (ci 0))] (.block 0 (.loop (.seq (sr [mvt 6 5, mvt 7 0, zT 8 7, bT 9 .lss t6 t8, mvt 10 9, nT 11 10 t5, nT 12 10 t1, kT 13 10 (.len t12), kT 14 10 (.bin .lss t11 t13), pT 15 (.pick t10 t14 cf)] (cx t15 0)) (.seq (.block 1 (sr [mP 18 t0, mP 19 t5, iF 20 18 19 1, lF 21 20, mP 22 t1, mP 23 t5, iF 24 22 23 1, lF 25 24, bF 26 .neq t21 t25] (.cond t26 (sr [mP 27 t0, mP 28 t5, iF 29 27 28 1, lF 30 29, mP 31 t1, mP 32 t5, iF 33 31 32 1, lF 34 33, bF 35 .lss t30 t34, mP 4 t35] .ret) .skip))) (.reg [mvt 16 5, bT 17 .add t16 (ci 1), mvt 5 17])))))) (sr [mvt 36 0, zT 37 36, mvt 38 1, zT 39 38, bT 40 .lss t37 t39, mvt 4 40] .ret)))
theorem c4X : IsF Tryz.prog 107 d0a [(.tmp 4)] := ⟨by kernel_rfl, by kernel_rfl⟩

def J2 (v0 : List Int) (v1 : List Int) : Option (Bool) :=
 some (decide ((v0.length : Int) < (v1.length : Int)))
def J4 (v0 : List Int) (v1 : List Int) (k0 : Int → Option (Bool)) : Int → Option (Bool)
 | x1 => (bif (decide (x1 < (v0.length : Int))) then (bif (decide (x1 < (v1.length : Int))) then ((ix v0 x1).bind fun u0 => ((ix v1 x1).bind fun u1 => (bif (decide (u0 ≠ u1)) then ((ix v0 x1).bind fun u2 => ((ix v1 x1).bind fun u3 => some (decide (u2 < u3))))
 else k0 (w64 (x1 + 1)))))
 else J2 v0 v1)
 else J2 v0 v1)
def Z0 (v0 : List Int) (v1 : List Int) : Option (Bool) :=
 loop (J4 v0 v1) 0
@[simp] abbrev K3d (v0 : List Int) : V := .sl 1 (v0.map vI)
@[simp] abbrev K3e (v1 : List Int) : V := .sl 1 (v1.map vI)
@[simp] def a7Y (r : Bool) : RV := .one (.one (.val (.bool r)))
theorem a7J {v0 : List Int} {v1 : List Int} {r : Bool} (hF : Z0 v0 v1 = some r) : Con Tryz.prog 107 [.sl 1 (v0.map vI), .sl 1 (v1.map vI)] (a7Y r) := by
 unfold Z0 at hF
 refine p7 c4X.1 fun N => ?_
 refine ws 0 64 (qb (d9 ?_))
 refine b0D (fun s' => s' = mkS [(0, .val none (K3d v0)), (1, .val none (K3e v1))] (fo []) 1 ∧ J2 v0 v1 = some r) ?_ ?_
 ·
  refine ws 64 128 (qr (AI 0) (d9 (j7 ?_)))
  refine wr (l' := [(0, .val none (K3d v0)), (1, .val none (K3e v1)), (5, AI 0)]) (L := []) [0, 1, 5] [] 1 ?_
  refine y5 (J4 v0 v1) (fun s : Int => mkS [(0, .val none (K3d v0)), (1, .val none (K3e v1)), (5, AI s)] (fo []) 1) hF ?_
  rintro k0 x1 hF
  rw [J4] at hF
  try dsimp only
  refine i8 (ws 1 641 (qr (AI x1) (qr (.val none (K3d v0)) (qp (AI (v0.length : Int)) (j0 rfl) (qr (AB (decide (x1 < (v0.length : Int)))) (qr (AB (decide (x1 < (v0.length : Int)))) ?_))))))
  refine p5 10 hF rfl (fun hF => ?_) (fun hF => ?_)
  ·
   refine qg (AI x1) rfl rfl (qg (.val none (K3e v1)) rfl rfl (qg (AI (v1.length : Int)) rfl (j0 rfl) (qg (AB (decide (x1 < (v1.length : Int)))) rfl rfl (qr (AB (decide (x1 < (v1.length : Int)))) (d9 ?_)))))
   refine cF hF (fun hF => ?_) fun hF => ?_
   ·
    refine g9 (f5 (i8 (j7 (ws 641 1217 (qr (.val none (K3d v0)) (qr (AI x1) (bk hF fun u0 e0 hF => qp (.val none (.ptr [.int .i64 u0])) (j4 rfl rfl e0 rfl) (qr (AI u0) (qr (.val none (K3e v1)) (qr (AI x1) (bk hF fun u1 e1 hF => qp (.val none (.ptr [.int .i64 u1])) (j4 rfl rfl e1 rfl) (qr (AI u1) (qr (AB (decide (u0 ≠ u1))) (d9 ?_))))))))))))))
    refine cF hF (fun hF => ?_) fun hF => ?_
    ·
     refine ws 1217 1857 (qr (.val none (K3d v0)) (qr (AI x1) (bk hF fun u2 e2 hF => qp (.val none (.ptr [.int .i64 u2])) (j4 rfl rfl e2 rfl) (qr (AI u2) (qr (.val none (K3e v1)) (qr (AI x1) (bk hF fun u3 e3 hF => qp (.val none (.ptr [.int .i64 u3])) (j4 rfl rfl e3 rfl) (qr (AI u3) (qr (AB (decide (u2 < u3))) (qr (AB (decide (u2 < u3))) (d9 (j8 (g7 (f7 (f7 ?_)))))))))))))))
     exact g7 (f7 (eQ hF))
    refine g9 (p6 (f5 (y4 1217 1409 rfl rfl (qr (AI x1) (qr (AI (w64 (x1 + 1))) (qr (AI (w64 (x1 + 1))) (d9 (f5 ?_))))))))
    refine ar (l' := [(0, .val none (K3d v0)), (1, .val none (K3e v1)), (5, AI (w64 (x1 + 1)))]) (L := []) [0, 1, 5] [] 1 ⟨_, by rfl, hF⟩
   refine z8 (j5 (j5 (s9 (f5 ?_))))
   refine ar (l' := [(0, .val none (K3d v0)), (1, .val none (K3e v1))]) (L := []) [0, 1] [] 1 ⟨rfl, hF⟩
  refine qn4 (qb (d9 (H2 rfl (z8 (j5 (j5 (s9 (f5 ?_))))))))
  refine ar (l' := [(0, .val none (K3d v0)), (1, .val none (K3e v1))]) (L := []) [0, 1] [] 1 ⟨rfl, hF⟩
 rintro s' ⟨rfl, hF⟩
 unfold J2 at hF
 exact ws 1 385 (qr (.val none (K3d v0)) (qp (AI (v0.length : Int)) (j0 rfl) (qr (.val none (K3e v1)) (qp (AI (v1.length : Int)) (j0 rfl) (qr (AB (decide ((v0.length : Int) < (v1.length : Int)))) (qr (AB (decide ((v0.length : Int) < (v1.length : Int)))) (rR hF)))))))

def c63 : MC := (sr [pT 2 (.mv cf)] (.seq (sr [pT 3 (.mv (ci 0))] (.block 0 (.loop (.seq (sr [mvt 4 3, mvt 5 0, zT 6 5, bT 7 .lss t4 t6] (cx t7 0)) (.seq (.block 1 (sr [mP 10 t0, mP 11 t3, iF 12 10 11 1, lF 13 12, dF 14 106 [t13], pF 15 (.not t14), mP 16 t15, mF 17 16 t3, bH 18 16 .gtr t17 (ci 0), mF 19 16 t18, mT 20 19 t0, mT 21 19 t3, bG 22 19 .sub t21 (ci 1), iG 23 19 20 22 1, lG 24 19 23, mT 25 19 t0, mT 26 19 t3, iG 27 19 25 26 1, lG 28 19 27, ⟨(some 29), (some (19, true)), (.call false 107 [t24, t28])⟩, gT 30 19 (.not t29), gF 31 16 (.pick t19 t30 cf), pF 32 (.pick t16 ct t31)] (.cond t32 (sr [pT 2 (.mv cf)] .ret) .skip))) (.reg [mvt 8 3, bT 9 .add t8 (ci 1), mvt 3 9])))))) (sr [mvt 33 0, zT 34 33, bT 35 .leq t34 (ci 12), mvt 2 35] .ret)))
theorem c8i : IsF Tryz.prog 63 c63 [(.tmp 2)] := ⟨by kernel_rfl, by kernel_rfl⟩

def U7 (v0 : List (List Int)) (k0 : Int → Option (Bool)) : Int → Option (Bool)
 | x1 => (bif (decide (x1 < (v0.length : Int))) then ((ix v0 x1).bind fun u0 => ((Y1 u0).bind fun u1 => (bif (!u1) then some false
 else (bif (decide ((0 : Int) < x1)) then ((ix v0 (w64 (x1 - 1))).bind fun u2 => ((ix v0 x1).bind fun u3 => ((Z0 u2 u3).bind fun u4 => (bif (!u4) then some false
 else k0 (w64 (x1 + 1))))))
 else k0 (w64 (x1 + 1))))))
 else some (decide ((v0.length : Int) ≤ (12 : Int))))
def a2A (v0 : List (List Int)) : Option (Bool) :=
 loop (U7 v0) 0
@[simp] abbrev K3f (v0 : List (List Int)) : V := .sl 1 (v0.map (eL 1 vI))
@[simp] def b3k (r : Bool) : RV := .one (.one (.val (.bool r)))
theorem b3p {v0 : List (List Int)} {r : Bool} (hF : a2A v0 = some r) : Con Tryz.prog 63 [.sl 1 (v0.map (eL 1 vI))] (b3k r) := by
 unfold a2A at hF
 refine p7 c8i.1 fun N => ?_
 refine ws 0 64 (qb (d9 (i8 (ws 64 128 (qr (AI 0) (d9 (j7 ?_)))))))
 refine wr (l' := [(0, .val none (K3f v0)), (3, AI 0)]) (L := []) [0, 3] [] 1 ?_
 refine y5 (U7 v0) (fun s : Int => mkS [(0, .val none (K3f v0)), (3, AI s)] (fo []) 1) hF ?_
 rintro k0 x1 hF
 rw [U7] at hF
 try dsimp only
 refine i8 (ws 1 257 (qr (AI x1) (qr (.val none (K3f v0)) (qp (AI (v0.length : Int)) (j0 rfl) (qr (AB (decide (x1 < (v0.length : Int)))) (d9 ?_))))))
 refine cF hF (fun hF => ?_) fun hF => ?_
 ·
  refine g9 (f5 (i8 (j7 (ws 257 1729 (qr (.val none (K3f v0)) (qr (AI x1) (bk hF fun u0 e0 hF => qp (.val none (.ptr [.sl 1 (u0.map vI)])) (j4 rfl rfl e0 rfl) (qr (AL 1 (u0.map vI)) (bk hF fun u1 e1 hF => qC (AB u1) [] (a7w e1) c4x (qr (AB (!u1)) (qr (AB (!u1)) ?_)))))))))))
  refine p5 16 hF rfl (fun hF => ?_) (fun hF => ?_)
  ·
   refine qn3 (qu rfl (qu rfl (qu rfl (qu rfl (qu rfl (qu rfl (qu rfl (qu rfl (qu rfl (qu rfl (qu rfl (qn rfl (qt ?_)))))))))))))
   exact d9 (B5 rfl (ws 1729 1793 (qb (d9 (j8 (g7 (f7 (f7 (g7 (f7 (eQ hF)))))))))))
  refine qg (AI x1) rfl rfl (qg (AB (decide ((0 : Int) < x1))) rfl rfl (qg (AB (decide ((0 : Int) < x1))) rfl rfl ?_))
  refine p5 19 hF rfl (fun hF => ?_) (fun hF => ?_)
  ·
   refine qg (.val none (K3f v0)) rfl rfl (qg (AI x1) rfl rfl (qg (AI (w64 (x1 - 1))) rfl rfl (bk hF fun u2 e2 hF => qg (.val none (.ptr [.sl 1 (u2.map vI)])) rfl (j4 rfl rfl e2 rfl) (qg (AL 1 (u2.map vI)) rfl rfl (qg (.val none (K3f v0)) rfl rfl (qg (AI x1) rfl rfl (bk hF fun u3 e3 hF => qg (.val none (.ptr [.sl 1 (u3.map vI)])) rfl (j4 rfl rfl e3 rfl) (qg (AL 1 (u3.map vI)) rfl rfl (bk hF fun u4 e4 hF => qG (AB u4) [] (a7J e4) c4X (qg (AB (!u4)) rfl rfl (qg (AB (!u4)) rfl rfl (qr (AB (!u4)) (d9 ?_)))))))))))))
   refine cF hF (fun hF => ws 1729 1793 (qb (d9 (j8 (g7 (f7 (f7 (g7 (f7 (eQ hF)))))))))) fun hF => ?_
   refine g9 (p6 (f5 (y4 1729 1921 rfl rfl (qr (AI x1) (qr (AI (w64 (x1 + 1))) (qr (AI (w64 (x1 + 1))) (d9 (f5 ?_))))))))
   refine ar (l' := [(0, .val none (K3f v0)), (3, AI (w64 (x1 + 1)))]) (L := []) [0, 3] [] 1 ⟨_, by rfl, hF⟩
  refine qn8 (qn3 (qg (AB false) rfl rfl (qb (d9 (H2 rfl (g9 (p6 (f5 (y4 1729 1921 rfl rfl ?_)))))))))
  refine qr (AI x1) (qr (AI (w64 (x1 + 1))) (qr (AI (w64 (x1 + 1))) (d9 (f5 ?_))))
  refine ar (l' := [(0, .val none (K3f v0)), (3, AI (w64 (x1 + 1)))]) (L := []) [0, 3] [] 1 ⟨_, by rfl, hF⟩
 exact z8 (j5 (j5 (s9 (f5 (ws 257 513 (qr (.val none (K3f v0)) (qp (AI (v0.length : Int)) (j0 rfl) (qr (AB (decide ((v0.length : Int) ≤ (12 : Int)))) (qr (AB (decide ((v0.length : Int) ≤ (12 : Int)))) (rR hF))))))))))

def c8M : MC := (sr [pT 2 (.mv cf)] (sr [mvt 3 0, pT 4 (.nck t3), pT 5 (.fad t4 0), lT 6 5, dT 7 98 [t6], mvt 8 7, nT 9 8 t0, kT 10 8 (.nck t9), kT 11 8 (.fad t10 0), kT 12 8 (.ld t11 1 false), kT 13 8 (.lens t12), kT 14 8 (.bin .leq t13 (ci 6)), pT 15 (.pick t8 t14 cf), mvt 16 15, nT 17 16 t0, kT 18 16 (.nck t17), kT 19 16 (.fad t18 1), kT 20 16 (.ld t19 1 false), ⟨(some 21), (some (16, true)), (.call true 115 [t20, (ci 1), (ci 3)])⟩, pT 22 (.pick t16 t21 cf), mvt 23 22, nT 24 23 t0, kT 25 23 (.nck t24), kT 26 23 (.fad t25 2), kT 27 23 (.ld t26 1 false), ⟨(some 28), (some (23, true)), (.call true 115 [t27, (ci 1), (ci 8)])⟩, pT 29 (.pick t23 t28 cf), mvt 2 29] .ret))
theorem c5j : IsF Tryz.prog 108 c8M [(.tmp 2)] := ⟨by kernel_rfl, by kernel_rfl⟩

def a1O (v0 : m9) : Option (Bool) :=
 ((F6 v0.1).bind fun u0 => (bif u0 then (bif (decide ((v0.1.length : Int) ≤ (6 : Int))) then ((C0 v0.2.1 1 3).bind fun u1 => (bif u1 then ((C0 v0.2.2 1 8).bind fun u2 => some u2)
 else some false))
 else some false)
 else some false))
@[simp] abbrev K3g (v0 : m9) : AV := .val none (.ptr [.str v0.1, .int .i64 v0.2.1, .int .i64 v0.2.2])
@[simp] def b2j (r : Bool) : RV := .one (.one (.val (.bool r)))
theorem b2e {v0 : m9} {r : Bool} (hF : a1O v0 = some r) : Con Tryz.prog 108 [.ptr [.str v0.1, .int .i64 v0.2.1, .int .i64 v0.2.2]] (b2j r) := by
 unfold a1O at hF
 refine p7 c5j.1 fun N => ?_
 refine ws 0 64 (qb (d9 (ws 64 1856 (qr (K3g v0) (qr (K3g v0) (qr (K3g v0) (qr (AS v0.1) (bk hF fun u0 e0 hF => qC (AB u0) [] (M4 e0) b7a (qr (AB u0) ?_)))))))))
 refine p5 8 hF rfl (fun hF => ?_) (fun hF => ?_)
 ·
  refine qg (K3g v0) rfl rfl (qg (K3g v0) rfl rfl (qg (K3g v0) rfl rfl (qg (AS v0.1) rfl rfl (qg (AI (v0.1.length : Int)) rfl rfl (qg (AB (decide ((v0.1.length : Int) ≤ (6 : Int)))) rfl rfl (qr (AB (decide ((v0.1.length : Int) ≤ (6 : Int)))) (qr (AB (decide ((v0.1.length : Int) ≤ (6 : Int)))) ?_)))))))
  refine p5 16 hF rfl (fun hF => ?_) (fun hF => ?_)
  ·
   refine qg (K3g v0) rfl rfl (qg (K3g v0) rfl rfl (qg (.val none (.ptr [.int .i64 v0.2.1, .int .i64 v0.2.2])) rfl rfl (qg (AI v0.2.1) rfl rfl (bk hF fun u1 e1 hF => qG (AB u1) [] (C1 e1) a2i (qr (AB u1) (qr (AB u1) (p5 23 hF rfl (fun hF => qg (K3g v0) rfl rfl (qg (K3g v0) rfl rfl (qg (.val none (.ptr [.int .i64 v0.2.2])) rfl rfl (qg (AI v0.2.2) rfl rfl (bk hF fun u2 e2 hF => qG (AB u2) [] (C1 e2) a2i (qr (AB u2) (qr (AB u2) (rR hF)))))))) fun hF => ?_)))))))
   exact qn5 (qb (qb (rR hF)))
  exact qn5 (qb (qb (qn rfl (qn4 (qb (qb (rR hF)))))))
 exact qn6 (qb (qb (qn5 (qb (qb (qn rfl (qn4 (qb (qb (rR hF))))))))))

def c64 : MC := (sr [pT 2 (.mv cf)] (.seq (sr [pT 3 (.mv (ci 0))] (.block 0 (.loop (.seq (sr [mvt 4 3, mvt 5 0, zT 6 5, bT 7 .lss t4 t6] (cx t7 0)) (.seq (.block 1 (sr [mP 10 t0, mP 11 t3, iF 12 10 11 3, dF 13 108 [t12], pF 14 (.not t13), mP 15 t14, mF 16 15 t3, bH 17 15 .gtr t16 (ci 0), mF 18 15 t17, mT 19 18 t0, mT 20 18 t3, bG 21 18 .sub t20 (ci 1), iG 22 18 19 21 3, gT 23 18 (.fad t22 0), lG 24 18 23, mT 25 18 t0, mT 26 18 t3, iG 27 18 25 26 3, gT 28 18 (.fad t27 0), lG 29 18 28, bG 30 18 .geq t24 t29, gF 31 15 (.pick t18 t30 cf), pF 32 (.pick t15 ct t31)] (.cond t32 (sr [pT 2 (.mv cf)] .ret) .skip))) (.reg [mvt 8 3, bT 9 .add t8 (ci 1), mvt 3 9])))))) (sr [mvt 33 0, zT 34 33, bT 35 .leq t34 (ci 16), mvt 2 35] .ret)))
theorem c7p : IsF Tryz.prog 64 c64 [(.tmp 2)] := ⟨by kernel_rfl, by kernel_rfl⟩

def U4 (v0 : List m9) (k0 : Int → Option (Bool)) : Int → Option (Bool)
 | x1 => (bif (decide (x1 < (v0.length : Int))) then ((ix v0 x1).bind fun u0 => ((a1O u0).bind fun u1 => (bif (!u1) then some false
 else (bif (decide ((0 : Int) < x1)) then ((ix v0 (w64 (x1 - 1))).bind fun u2 => ((ix v0 x1).bind fun u3 => (bif (!Op.bytesLess u2.1 u3.1) then some false
 else k0 (w64 (x1 + 1)))))
 else k0 (w64 (x1 + 1))))))
 else some (decide ((v0.length : Int) ≤ (16 : Int))))
def a2h (v0 : List m9) : Option (Bool) :=
 loop (U4 v0) 0
@[simp] abbrev K3h (v0 : List m9) : V := .sl 3 (v0.map p3)
@[simp] def b3Q (r : Bool) : RV := .one (.one (.val (.bool r)))
theorem b3t {v0 : List m9} {r : Bool} (hF : a2h v0 = some r) : Con Tryz.prog 64 [.sl 3 (v0.map p3)] (b3Q r) := by
 unfold a2h at hF
 refine p7 c7p.1 fun N => ?_
 refine ws 0 64 (qb (d9 (i8 (ws 64 128 (qr (AI 0) (d9 (j7 ?_)))))))
 refine wr (l' := [(0, .val none (K3h v0)), (3, AI 0)]) (L := []) [0, 3] [] 1 ?_
 refine y5 (U4 v0) (fun s : Int => mkS [(0, .val none (K3h v0)), (3, AI s)] (fo []) 1) hF ?_
 rintro k0 x1 hF
 rw [U4] at hF
 try dsimp only
 refine i8 (ws 1 257 (qr (AI x1) (qr (.val none (K3h v0)) (qp (AI (v0.length : Int)) (j0 rfl) (qr (AB (decide (x1 < (v0.length : Int)))) (d9 ?_))))))
 refine cF hF (fun hF => ?_) fun hF => ?_
 ·
  refine g9 (f5 (i8 (j7 (ws 257 1729 (qr (.val none (K3h v0)) (qr (AI x1) (bk hF fun u0 e0 hF => qp (.val none (.ptr [.str u0.1, .int .i64 u0.2.1, .int .i64 u0.2.2])) (j4 rfl rfl e0 rfl) (bk hF fun u1 e1 hF => qC (AB u1) [] (b2e e1) c5j (qr (AB (!u1)) (qr (AB (!u1)) ?_))))))))))
  refine p5 15 hF rfl (fun hF => ?_) (fun hF => ?_)
  ·
   refine qn3 (qu rfl (qu rfl (qu rfl (qu rfl (qu rfl (qu rfl (qu rfl (qu rfl (qu rfl (qu rfl (qu rfl (qu rfl (qn rfl ?_)))))))))))))
   exact qt (d9 (B5 rfl (ws 1729 1793 (qb (d9 (j8 (g7 (f7 (f7 (g7 (f7 (eQ hF))))))))))))
  refine qg (AI x1) rfl rfl (qg (AB (decide ((0 : Int) < x1))) rfl rfl (qg (AB (decide ((0 : Int) < x1))) rfl rfl ?_))
  refine p5 18 hF rfl (fun hF => ?_) (fun hF => ?_)
  ·
   refine qg (.val none (K3h v0)) rfl rfl (qg (AI x1) rfl rfl (qg (AI (w64 (x1 - 1))) rfl rfl (bk hF fun u2 e2 hF => qg (.val none (.ptr [.str u2.1, .int .i64 u2.2.1, .int .i64 u2.2.2])) rfl (j4 rfl rfl e2 rfl) (qg (.val none (.ptr [.str u2.1, .int .i64 u2.2.1, .int .i64 u2.2.2])) rfl rfl (qg (AS u2.1) rfl rfl (qg (.val none (K3h v0)) rfl rfl (qg (AI x1) rfl rfl (bk hF fun u3 e3 hF => qg (.val none (.ptr [.str u3.1, .int .i64 u3.2.1, .int .i64 u3.2.2])) rfl (j4 rfl rfl e3 rfl) (qg (.val none (.ptr [.str u3.1, .int .i64 u3.2.1, .int .i64 u3.2.2])) rfl rfl (qg (AS u3.1) rfl rfl (qg (AB (!Op.bytesLess u2.1 u3.1)) rfl rfl (qg (AB (!Op.bytesLess u2.1 u3.1)) rfl rfl (qr (AB (!Op.bytesLess u2.1 u3.1)) (d9 ?_))))))))))))))
   refine cF hF (fun hF => ws 1729 1793 (qb (d9 (j8 (g7 (f7 (f7 (g7 (f7 (eQ hF)))))))))) fun hF => ?_
   refine g9 (p6 (f5 (y4 1729 1921 rfl rfl (qr (AI x1) (qr (AI (w64 (x1 + 1))) (qr (AI (w64 (x1 + 1))) (d9 (f5 ?_))))))))
   refine ar (l' := [(0, .val none (K3h v0)), (3, AI (w64 (x1 + 1)))]) (L := []) [0, 3] [] 1 ⟨_, by rfl, hF⟩
  refine qn8 (qn4 (qg (AB false) rfl rfl (qb (d9 (H2 rfl (g9 (p6 (f5 (y4 1729 1921 rfl rfl ?_)))))))))
  refine qr (AI x1) (qr (AI (w64 (x1 + 1))) (qr (AI (w64 (x1 + 1))) (d9 (f5 ?_))))
  refine ar (l' := [(0, .val none (K3h v0)), (3, AI (w64 (x1 + 1)))]) (L := []) [0, 3] [] 1 ⟨_, by rfl, hF⟩
 exact z8 (j5 (j5 (s9 (f5 (ws 257 513 (qr (.val none (K3h v0)) (qp (AI (v0.length : Int)) (j0 rfl) (qr (AB (decide ((v0.length : Int) ≤ (16 : Int)))) (qr (AB (decide ((v0.length : Int) ≤ (16 : Int)))) (rR hF))))))))))

def c9u : MC := (sr [pT 2 (.mv cf)] (sr [mvt 3 0, dT 4 115 [t3, (ci 0), (ci 2000)], mvt 2 4] .ret))
theorem c5s : IsF Tryz.prog 109 c9u [(.tmp 2)] := ⟨by kernel_rfl, by kernel_rfl⟩

def a0R (v0 : Int) : Option (Bool) :=
 ((C0 v0 0 2000).bind fun u0 => some u0)
@[simp] def b0m (r : Bool) : RV := .one (.one (.val (.bool r)))
theorem b0c {v0 : Int} {r : Bool} (hF : a0R v0 = some r) : Con Tryz.prog 109 [.int .i64 v0] (b0m r) := by
 unfold a0R at hF
 refine p7 c5s.1 fun N => ?_
 exact ws 0 64 (qb (d9 (ws 64 256 (qr (AI v0) (bk hF fun u0 e0 hF => qC (AB u0) [] (C1 e0) a2i (qr (AB u0) (rR hF)))))))

def d0m : MC := (sr [pT 2 (.mv cf)] (sr [mvt 3 0, dT 4 115 [t3, (ci 10), (ci 600)], mvt 2 4] .ret))
theorem c5l : IsF Tryz.prog 110 d0m [(.tmp 2)] := ⟨by kernel_rfl, by kernel_rfl⟩

def a0i (v0 : Int) : Option (Bool) :=
 ((C0 v0 10 600).bind fun u0 => some u0)
@[simp] def a9J (r : Bool) : RV := .one (.one (.val (.bool r)))
theorem a9B {v0 : Int} {r : Bool} (hF : a0i v0 = some r) : Con Tryz.prog 110 [.int .i64 v0] (a9J r) := by
 unfold a0i at hF
 refine p7 c5l.1 fun N => ?_
 exact ws 0 64 (qb (d9 (ws 64 256 (qr (AI v0) (bk hF fun u0 e0 hF => qC (AB u0) [] (C1 e0) a2i (qr (AB u0) (rR hF)))))))

def c65 : MC := (sr [pT 2 (.mv cf)] (.seq (sr [pT 3 (.mv (ci 0))] (.block 0 (.loop (.seq (sr [mvt 4 3, mvt 5 0, zT 6 5, bT 7 .lss t4 t6] (cx t7 0)) (.seq (.block 1 (sr [mP 10 t0, mP 11 t3, iF 12 10 11 2, pF 13 (.fad t12 0), lF 14 13, dF 15 109 [t14], pF 16 (.not t15), mP 17 t16, mF 18 17 t0, mF 19 17 t3, iH 20 17 18 19 2, gF 21 17 (.fad t20 1), lH 22 17 21, ⟨(some 23), (some (17, false)), (.call false 110 [t22])⟩, gF 24 17 (.not t23), pF 25 (.pick t17 ct t24), mP 26 t25, mF 27 26 t3, bH 28 26 .gtr t27 (ci 0), mF 29 26 t28, mT 30 29 t0, mT 31 29 t3, bG 32 29 .sub t31 (ci 1), iG 33 29 30 32 2, gT 34 29 (.fad t33 0), lG 35 29 34, mT 36 29 t0, mT 37 29 t3, iG 38 29 36 37 2, gT 39 29 (.fad t38 0), lG 40 29 39, bG 41 29 .geq t35 t40, gF 42 26 (.pick t29 t41 cf), pF 43 (.pick t26 ct t42)] (.cond t43 (sr [pT 2 (.mv cf)] .ret) .skip))) (.reg [mvt 8 3, bT 9 .add t8 (ci 1), mvt 3 9])))))) (sr [mvt 44 0, zT 45 44, bT 46 .geq t45 (ci 1), mvt 47 46, nT 48 47 t0, kT 49 47 (.len t48), kT 50 47 (.bin .leq t49 (ci 16)), pT 51 (.pick t47 t50 cf), mvt 52 51, nT 53 52 t0, kT 54 52 (.iad t53 (ci 0) 2), kT 55 52 (.fad t54 0), kT 56 52 (.ld t55 1 false), kT 57 52 (.bin .eql t56 (ci 0)), pT 58 (.pick t52 t57 cf), mvt 2 58] .ret)))
theorem c6X : IsF Tryz.prog 65 c65 [(.tmp 2)] := ⟨by kernel_rfl, by kernel_rfl⟩

def U0 (v0 : List j6) (k0 : Int → Option (Bool)) : Int → Option (Bool)
 | x1 => (bif (decide (x1 < (v0.length : Int))) then ((ix v0 x1).bind fun u0 => ((a0R u0.1).bind fun u1 => (bif (!u1) then some false
 else ((ix v0 x1).bind fun u2 => ((a0i u2.2).bind fun u3 => (bif (!u3) then some false
 else (bif (decide ((0 : Int) < x1)) then ((ix v0 (w64 (x1 - 1))).bind fun u4 => ((ix v0 x1).bind fun u5 => (bif (decide (u5.1 ≤ u4.1)) then some false
 else k0 (w64 (x1 + 1)))))
 else k0 (w64 (x1 + 1)))))))))
 else (bif (decide ((1 : Int) ≤ (v0.length : Int))) then (bif (decide ((v0.length : Int) ≤ (16 : Int))) then ((ix v0 0).bind fun u6 => some (decide (u6.1 = (0 : Int))))
 else some false)
 else some false))
def a2n (v0 : List j6) : Option (Bool) :=
 loop (U0 v0) 0
@[simp] abbrev K3i (v0 : List j6) : AV := AL 2 (v0.map j3)
@[simp] def b4b (r : Bool) : RV := .one (.one (.val (.bool r)))
theorem b2S {v0 : List j6} {r : Bool} (hF : a2n v0 = some r) : Con Tryz.prog 65 [.sl 2 (v0.map j3)] (b4b r) := by
 unfold a2n at hF
 refine p7 c6X.1 fun N => ?_
 refine ws 0 64 (qb (d9 (i8 (ws 64 128 (qr (AI 0) (d9 (j7 ?_)))))))
 refine wr (l' := [(0, AL 2 (v0.map j3)), (3, AI 0)]) (L := []) [0, 3] [] 1 ?_
 refine y5 (U0 v0) (fun s : Int => mkS [(0, AL 2 (v0.map j3)), (3, AI s)] (fo []) 1) hF ?_
 rintro k0 x1 hF
 rw [U0] at hF
 try dsimp only
 refine i8 (ws 1 257 (qr (AI x1) (qr (K3i v0) (qp (AI (v0.length : Int)) (j0 rfl) (qr (AB (decide (x1 < (v0.length : Int)))) (d9 ?_))))))
 refine cF hF (fun hF => ?_) fun hF => ?_
 ·
  refine g9 (f5 (i8 (j7 (ws 257 2433 (qr (K3i v0) (qr (AI x1) (bk hF fun u0 e0 hF => qp (.val none (.ptr [.int .i64 u0.1, .int .i64 u0.2])) (j4 rfl rfl e0 rfl) (qr (.val none (.ptr [.int .i64 u0.1, .int .i64 u0.2])) (qr (AI u0.1) (bk hF fun u1 e1 hF => qC (AB u1) [] (b0c e1) c5s (qr (AB (!u1)) (qr (AB (!u1)) ?_))))))))))))
  refine p5 17 hF rfl (fun hF => ?_) (fun hF => ?_)
  ·
   refine qn7 (qt (qt (qn3 (qu rfl (qu rfl (qu rfl (qu rfl ?_)))))))
   refine qu rfl (qu rfl (qu rfl (qu rfl (qu rfl (qu rfl (qu rfl (qu rfl (qn rfl (qt (d9 (B5 rfl (ws 2433 2497 (qb ?_)))))))))))))
   exact d9 (j8 (g7 (f7 (f7 (g7 (f7 (eQ hF)))))))
  refine qg (K3i v0) rfl rfl (qg (AI x1) rfl rfl (bk hF fun u2 e2 hF => qg (.val none (.ptr [.int .i64 u2.1, .int .i64 u2.2])) rfl (j4 rfl rfl e2 rfl) (qg (.val none (.ptr [.int .i64 u2.2])) rfl rfl (qg (AI u2.2) rfl rfl (bk hF fun u3 e3 hF => qG (AB u3) [] (a9B e3) c5l (qg (AB (!u3)) rfl rfl (qr (AB (!u3)) (qr (AB (!u3)) ?_))))))))
  refine p5 26 hF rfl (fun hF => ?_) (fun hF => ?_)
  ·
   refine qn3 (qu rfl (qu rfl (qu rfl (qu rfl (qu rfl (qu rfl (qu rfl (qu rfl (qu rfl (qu rfl (qu rfl (qu rfl (qn rfl ?_)))))))))))))
   exact qt (d9 (B5 rfl (ws 2433 2497 (qb (d9 (j8 (g7 (f7 (f7 (g7 (f7 (eQ hF))))))))))))
  refine qg (AI x1) rfl rfl (qg (AB (decide ((0 : Int) < x1))) rfl rfl (qg (AB (decide ((0 : Int) < x1))) rfl rfl ?_))
  refine p5 29 hF rfl (fun hF => ?_) (fun hF => ?_)
  ·
   refine qg (K3i v0) rfl rfl (qg (AI x1) rfl rfl (qg (AI (w64 (x1 - 1))) rfl rfl (bk hF fun u4 e4 hF => qg (.val none (.ptr [.int .i64 u4.1, .int .i64 u4.2])) rfl (j4 rfl rfl e4 rfl) (qg (.val none (.ptr [.int .i64 u4.1, .int .i64 u4.2])) rfl rfl (qg (AI u4.1) rfl rfl (qg (K3i v0) rfl rfl (qg (AI x1) rfl rfl (bk hF fun u5 e5 hF => qg (.val none (.ptr [.int .i64 u5.1, .int .i64 u5.2])) rfl (j4 rfl rfl e5 rfl) (qg (.val none (.ptr [.int .i64 u5.1, .int .i64 u5.2])) rfl rfl (qg (AI u5.1) rfl rfl (qg (AB (decide (u5.1 ≤ u4.1))) rfl rfl (qg (AB (decide (u5.1 ≤ u4.1))) rfl rfl (qr (AB (decide (u5.1 ≤ u4.1))) (d9 ?_))))))))))))))
   refine cF hF (fun hF => ws 2433 2497 (qb (d9 (j8 (g7 (f7 (f7 (g7 (f7 (eQ hF)))))))))) fun hF => ?_
   refine g9 (p6 (f5 (y4 2433 2625 rfl rfl (qr (AI x1) (qr (AI (w64 (x1 + 1))) (qr (AI (w64 (x1 + 1))) (d9 (f5 ?_))))))))
   refine ar (l' := [(0, AL 2 (v0.map j3)), (3, AI (w64 (x1 + 1)))]) (L := []) [0, 3] [] 1 ⟨_, by rfl, hF⟩
  refine qn8 (qn4 (qg (AB false) rfl rfl (qb (d9 (H2 rfl (g9 (p6 (f5 (y4 2433 2625 rfl rfl ?_)))))))))
  refine qr (AI x1) (qr (AI (w64 (x1 + 1))) (qr (AI (w64 (x1 + 1))) (d9 (f5 ?_))))
  refine ar (l' := [(0, AL 2 (v0.map j3)), (3, AI (w64 (x1 + 1)))]) (L := []) [0, 3] [] 1 ⟨_, by rfl, hF⟩
 refine z8 (j5 (j5 (s9 (f5 (ws 257 1281 (qr (K3i v0) (qp (AI (v0.length : Int)) (j0 rfl) (qr (AB (decide ((1 : Int) ≤ (v0.length : Int)))) (qr (AB (decide ((1 : Int) ≤ (v0.length : Int)))) ?_)))))))))
 refine p5 47 hF rfl (fun hF => ?_) (fun hF => ?_)
 ·
  refine qg (K3i v0) rfl rfl (qg (AI (v0.length : Int)) rfl (j0 rfl) (qg (AB (decide ((v0.length : Int) ≤ (16 : Int)))) rfl rfl (qr (AB (decide ((v0.length : Int) ≤ (16 : Int)))) (qr (AB (decide ((v0.length : Int) ≤ (16 : Int)))) (p5 52 hF rfl (fun hF => qg (K3i v0) rfl rfl (bk hF fun u6 e6 hF => qg (.val none (.ptr [.int .i64 u6.1, .int .i64 u6.2])) rfl (j4 rfl rfl e6 rfl) (qg (.val none (.ptr [.int .i64 u6.1, .int .i64 u6.2])) rfl rfl (qg (AI u6.1) rfl rfl (qg (AB (decide (u6.1 = (0 : Int)))) rfl rfl (qr (AB (decide (u6.1 = (0 : Int)))) (qr (AB (decide (u6.1 = (0 : Int)))) (rR hF)))))))) fun hF => ?_)))))
  exact qn5 (qb (qb (rR hF)))
 exact qn3 (qb (qb (qn3 (qn2 (qb (qb (rR hF)))))))

def c9z : MC := (sr [pT 2 (.mv cf)] (sr [mvt 3 0, dT 4 115 [t3, (ci 0), (ci 1439)], mvt 2 4] .ret))
theorem c1i : IsF Tryz.prog 147 c9z [(.tmp 2)] := ⟨by kernel_rfl, by kernel_rfl⟩

def Y4 (v0 : Int) : Option (Bool) :=
 ((C0 v0 0 1439).bind fun u0 => some u0)
@[simp] def a7X (r : Bool) : RV := .one (.one (.val (.bool r)))
theorem a3s {v0 : Int} {r : Bool} (hF : Y4 v0 = some r) : Con Tryz.prog 147 [.int .i64 v0] (a7X r) := by
 unfold Y4 at hF
 refine p7 c1i.1 fun N => ?_
 exact ws 0 64 (qb (d9 (ws 64 256 (qr (AI v0) (bk hF fun u0 e0 hF => qC (AB u0) [] (C1 e0) a2i (qr (AB u0) (rR hF)))))))

def c9w : MC := (sr [pT 2 (.mv cf)] (sr [mP 3 t0, pF 4 (.nck t3), pF 5 (.fad t4 0), lF 6 5, dF 7 98 [t6], mP 8 t7, mT 9 8 t0, gT 10 8 (.nck t9), gT 11 8 (.fad t10 1), lG 12 8 11, ⟨(some 13), (some (8, true)), (.call false 147 [t12])⟩, pF 14 (.pick t8 t13 cf), mP 15 t14, mT 16 15 t0, gT 17 15 (.nck t16), gT 18 15 (.fad t17 2), lG 19 15 18, ⟨(some 20), (some (15, true)), (.call false 147 [t19])⟩, pF 21 (.pick t15 t20 cf), mP 22 t21, mT 23 22 t0, gT 24 22 (.nck t23), gT 25 22 (.fad t24 1), lG 26 22 25, mT 27 22 t0, gT 28 22 (.nck t27), gT 29 22 (.fad t28 2), lG 30 22 29, bG 31 22 .neq t26 t30, pF 32 (.pick t22 t31 cf), mP 33 t32, mT 34 33 t0, gT 35 33 (.nck t34), gT 36 33 (.fad t35 3), lG 37 33 36, ⟨(some 38), (some (33, true)), (.call false 115 [t37, (ci (-1)), (ci 5)])⟩, pF 39 (.pick t33 t38 cf), mP 40 t39, mT 41 40 t0, gT 42 40 (.nck t41), gT 43 40 (.fad t42 4), lG 44 40 43, ⟨(some 45), (some (40, true)), (.call false 115 [t44, (ci 1), (ci 240)])⟩, pF 46 (.pick t40 t45 cf), mP 47 t46, mT 48 47 t0, gT 49 47 (.nck t48), gT 50 47 (.fad t49 5), lG 51 47 50, ⟨(some 52), (some (47, true)), (.call false 115 [t51, (ci 0), (ci 1000)])⟩, pF 53 (.pick t47 t52 cf), mP 2 t53] .ret))
theorem c4D : IsF Tryz.prog 111 c9w [(.tmp 2)] := ⟨by kernel_rfl, by kernel_rfl⟩

def a1I (v0 : y6) : Option (Bool) :=
 ((F6 v0.1).bind fun u0 => (bif u0 then ((Y4 v0.2.1).bind fun u1 => (bif u1 then ((Y4 v0.2.2.1).bind fun u2 => (bif u2 then (bif (decide (v0.2.1 ≠ v0.2.2.1)) then ((C0 v0.2.2.2.1 (-1) 5).bind fun u3 => (bif u3 then ((C0 v0.2.2.2.2.1 1 240).bind fun u4 => (bif u4 then ((C0 v0.2.2.2.2.2 0 1000).bind fun u5 => some u5)
 else some false))
 else some false))
 else some false)
 else some false))
 else some false))
 else some false))
@[simp] abbrev K3j (v0 : y6) : AV := .val none (.ptr [.str v0.1, .int .i64 v0.2.1, .int .i64 v0.2.2.1, .int .i64 v0.2.2.2.1, .int .i64 v0.2.2.2.2.1, .int .i64 v0.2.2.2.2.2])
@[simp] abbrev K3k (v0 : y6) : AV := .val none (.ptr [.int .i64 v0.2.1, .int .i64 v0.2.2.1, .int .i64 v0.2.2.2.1, .int .i64 v0.2.2.2.2.1, .int .i64 v0.2.2.2.2.2])
@[simp] abbrev K3l (v0 : y6) : AV := .val none (.ptr [.int .i64 v0.2.2.1, .int .i64 v0.2.2.2.1, .int .i64 v0.2.2.2.2.1, .int .i64 v0.2.2.2.2.2])
@[simp] def b1J (r : Bool) : RV := .one (.one (.val (.bool r)))
theorem b2a {v0 : y6} {r : Bool} (hF : a1I v0 = some r) : Con Tryz.prog 111 [.ptr [.str v0.1, .int .i64 v0.2.1, .int .i64 v0.2.2.1, .int .i64 v0.2.2.2.1, .int .i64 v0.2.2.2.2.1, .int .i64 v0.2.2.2.2.2]] (b1J r) := by
 unfold a1I at hF
 refine p7 c4D.1 fun N => ?_
 refine ws 0 64 (qb (d9 (ws 64 3392 (qr (K3j v0) (qr (K3j v0) (qr (K3j v0) (qr (AS v0.1) (bk hF fun u0 e0 hF => qC (AB u0) [] (M4 e0) b7a (qr (AB u0) ?_)))))))))
 refine p5 8 hF rfl (fun hF => ?_) (fun hF => ?_)
 ·
  refine qg (K3j v0) rfl rfl (qg (K3j v0) rfl rfl (qg (K3k v0) rfl rfl (qg (AI v0.2.1) rfl rfl (bk hF fun u1 e1 hF => qG (AB u1) [] (a3s e1) c1i (qr (AB u1) (qr (AB u1) ?_))))))
  refine p5 15 hF rfl (fun hF => ?_) (fun hF => ?_)
  ·
   refine qg (K3j v0) rfl rfl (qg (K3j v0) rfl rfl (qg (K3l v0) rfl rfl (qg (AI v0.2.2.1) rfl rfl (bk hF fun u2 e2 hF => qG (AB u2) [] (a3s e2) c1i (qr (AB u2) (qr (AB u2) ?_))))))
   refine p5 22 hF rfl (fun hF => ?_) (fun hF => ?_)
   ·
    refine qg (K3j v0) rfl rfl (qg (K3j v0) rfl rfl (qg (K3k v0) rfl rfl (qg (AI v0.2.1) rfl rfl (qg (K3j v0) rfl rfl (qg (K3j v0) rfl rfl (qg (K3l v0) rfl rfl (qg (AI v0.2.2.1) rfl rfl (qg (AB (decide (v0.2.1 ≠ v0.2.2.1))) rfl rfl (qr (AB (decide (v0.2.1 ≠ v0.2.2.1))) (qr (AB (decide (v0.2.1 ≠ v0.2.2.1))) ?_))))))))))
    refine p5 33 hF rfl (fun hF => ?_) (fun hF => ?_)
    ·
     refine qg (K3j v0) rfl rfl (qg (K3j v0) rfl rfl (qg (.val none (.ptr [.int .i64 v0.2.2.2.1, .int .i64 v0.2.2.2.2.1, .int .i64 v0.2.2.2.2.2])) rfl rfl (qg (AI v0.2.2.2.1) rfl rfl (bk hF fun u3 e3 hF => qG (AB u3) [] (C1 e3) a2i (qr (AB u3) (qr (AB u3) ?_))))))
     refine p5 40 hF rfl (fun hF => ?_) (fun hF => ?_)
     ·
      refine qg (K3j v0) rfl rfl (qg (K3j v0) rfl rfl (qg (.val none (.ptr [.int .i64 v0.2.2.2.2.1, .int .i64 v0.2.2.2.2.2])) rfl rfl (qg (AI v0.2.2.2.2.1) rfl rfl (bk hF fun u4 e4 hF => qG (AB u4) [] (C1 e4) a2i (qr (AB u4) (qr (AB u4) (p5 47 hF rfl (fun hF => qg (K3j v0) rfl rfl (qg (K3j v0) rfl rfl (qg (.val none (.ptr [.int .i64 v0.2.2.2.2.2])) rfl rfl (qg (AI v0.2.2.2.2.2) rfl rfl (bk hF fun u5 e5 hF => qG (AB u5) [] (C1 e5) a2i (qr (AB u5) (qr (AB u5) (rR hF)))))))) fun hF => ?_)))))))
      exact qn5 (qb (qb (rR hF)))
     exact qn5 (qb (qb (qn rfl (qn4 (qb (qb (rR hF)))))))
    exact qn5 (qb (qb (qn rfl (qn4 (qb (qb (qn2 (qn3 (qb (qb (rR hF)))))))))))
   refine qn8 (qn rfl (qb (qb (qn rfl (qn rfl (qn rfl (qn rfl (qn rfl (qb (qb (qn5 (qb ?_))))))))))))
   exact qb (qn5 (qb (qb (rR hF))))
  refine qn5 (qb (qb (qn rfl (qn8 (qb (qb (qn5 (qb (qb (qn5 (qb (qb ?_))))))))))))
  exact qn5 (qb (qb (rR hF)))
 refine qn5 (qb (qb (qn rfl (qn4 (qb (qb (qn2 (qn7 (qb (qb (qn5 (qb (qb ?_)))))))))))))
 exact qn5 (qb (qb (qn rfl (qn4 (qb (qb (rR hF)))))))

def c66 : MC := (sr [pT 2 (.mv cf)] (.seq (sr [pT 3 (.mv (ci 0))] (.block 0 (.loop (.seq (sr [mvt 4 3, mvt 5 0, zT 6 5, bT 7 .lss t4 t6] (cx t7 0)) (.seq (.block 1 (sr [mP 10 t0, mP 11 t3, iF 12 10 11 6, dF 13 111 [t12], pF 14 (.not t13), mP 15 t14, mF 16 15 t3, bH 17 15 .gtr t16 (ci 0), mF 18 15 t17, mT 19 18 t0, mT 20 18 t3, bG 21 18 .sub t20 (ci 1), iG 22 18 19 21 6, gT 23 18 (.fad t22 0), lG 24 18 23, mT 25 18 t0, mT 26 18 t3, iG 27 18 25 26 6, gT 28 18 (.fad t27 0), lG 29 18 28, bG 30 18 .geq t24 t29, gF 31 15 (.pick t18 t30 cf), pF 32 (.pick t15 ct t31)] (.cond t32 (sr [pT 2 (.mv cf)] .ret) .skip))) (.reg [mvt 8 3, bT 9 .add t8 (ci 1), mvt 3 9])))))) (sr [mvt 33 0, zT 34 33, bT 35 .leq t34 (ci 12), mvt 2 35] .ret)))
theorem c7w : IsF Tryz.prog 66 c66 [(.tmp 2)] := ⟨by kernel_rfl, by kernel_rfl⟩

def U8 (v0 : List y6) (k0 : Int → Option (Bool)) : Int → Option (Bool)
 | x1 => (bif (decide (x1 < (v0.length : Int))) then ((ix v0 x1).bind fun u0 => ((a1I u0).bind fun u1 => (bif (!u1) then some false
 else (bif (decide ((0 : Int) < x1)) then ((ix v0 (w64 (x1 - 1))).bind fun u2 => ((ix v0 x1).bind fun u3 => (bif (!Op.bytesLess u2.1 u3.1) then some false
 else k0 (w64 (x1 + 1)))))
 else k0 (w64 (x1 + 1))))))
 else some (decide ((v0.length : Int) ≤ (12 : Int))))
def a2q (v0 : List y6) : Option (Bool) :=
 loop (U8 v0) 0
@[simp] abbrev K3m (u2 : y6) : AV := .val none (.ptr [.str u2.1, .int .i64 u2.2.1, .int .i64 u2.2.2.1, .int .i64 u2.2.2.2.1, .int .i64 u2.2.2.2.2.1, .int .i64 u2.2.2.2.2.2])
@[simp] abbrev K3n (u3 : y6) : AV := .val none (.ptr [.str u3.1, .int .i64 u3.2.1, .int .i64 u3.2.2.1, .int .i64 u3.2.2.2.1, .int .i64 u3.2.2.2.2.1, .int .i64 u3.2.2.2.2.2])
@[simp] abbrev K3o (v0 : List y6) : V := .sl 6 (v0.map A1)
@[simp] def b4B (r : Bool) : RV := .one (.one (.val (.bool r)))
theorem b4x {v0 : List y6} {r : Bool} (hF : a2q v0 = some r) : Con Tryz.prog 66 [.sl 6 (v0.map A1)] (b4B r) := by
 unfold a2q at hF
 refine p7 c7w.1 fun N => ?_
 refine ws 0 64 (qb (d9 (i8 (ws 64 128 (qr (AI 0) (d9 (j7 ?_)))))))
 refine wr (l' := [(0, .val none (K3o v0)), (3, AI 0)]) (L := []) [0, 3] [] 1 ?_
 refine y5 (U8 v0) (fun s : Int => mkS [(0, .val none (K3o v0)), (3, AI s)] (fo []) 1) hF ?_
 rintro k0 x1 hF
 rw [U8] at hF
 try dsimp only
 refine i8 (ws 1 257 (qr (AI x1) (qr (.val none (K3o v0)) (qp (AI (v0.length : Int)) (j0 rfl) (qr (AB (decide (x1 < (v0.length : Int)))) (d9 ?_))))))
 refine cF hF (fun hF => ?_) fun hF => ?_
 ·
  refine g9 (f5 (i8 (j7 (ws 257 1729 (qr (.val none (K3o v0)) (qr (AI x1) (bk hF fun u0 e0 hF => qp (.val none (.ptr [.str u0.1, .int .i64 u0.2.1, .int .i64 u0.2.2.1, .int .i64 u0.2.2.2.1, .int .i64 u0.2.2.2.2.1, .int .i64 u0.2.2.2.2.2])) (j4 rfl rfl e0 rfl) (bk hF fun u1 e1 hF => qC (AB u1) [] (b2a e1) c4D (qr (AB (!u1)) (qr (AB (!u1)) ?_))))))))))
  refine p5 15 hF rfl (fun hF => ?_) (fun hF => ?_)
  ·
   refine qn3 (qu rfl (qu rfl (qu rfl (qu rfl (qu rfl (qu rfl (qu rfl (qu rfl (qu rfl (qu rfl (qu rfl (qu rfl (qn rfl ?_)))))))))))))
   exact qt (d9 (B5 rfl (ws 1729 1793 (qb (d9 (j8 (g7 (f7 (f7 (g7 (f7 (eQ hF))))))))))))
  refine qg (AI x1) rfl rfl (qg (AB (decide ((0 : Int) < x1))) rfl rfl (qg (AB (decide ((0 : Int) < x1))) rfl rfl ?_))
  refine p5 18 hF rfl (fun hF => ?_) (fun hF => ?_)
  ·
   refine qg (.val none (K3o v0)) rfl rfl (qg (AI x1) rfl rfl (qg (AI (w64 (x1 - 1))) rfl rfl (bk hF fun u2 e2 hF => qg (K3m u2) rfl (j4 rfl rfl e2 rfl) (qg (K3m u2) rfl rfl (qg (AS u2.1) rfl rfl (qg (.val none (K3o v0)) rfl rfl (qg (AI x1) rfl rfl (bk hF fun u3 e3 hF => qg (K3n u3) rfl (j4 rfl rfl e3 rfl) (qg (K3n u3) rfl rfl (qg (AS u3.1) rfl rfl (qg (AB (!Op.bytesLess u2.1 u3.1)) rfl rfl (qg (AB (!Op.bytesLess u2.1 u3.1)) rfl rfl (qr (AB (!Op.bytesLess u2.1 u3.1)) (d9 ?_))))))))))))))
   refine cF hF (fun hF => ws 1729 1793 (qb (d9 (j8 (g7 (f7 (f7 (g7 (f7 (eQ hF)))))))))) fun hF => ?_
   refine g9 (p6 (f5 (y4 1729 1921 rfl rfl (qr (AI x1) (qr (AI (w64 (x1 + 1))) (qr (AI (w64 (x1 + 1))) (d9 (f5 ?_))))))))
   refine ar (l' := [(0, .val none (K3o v0)), (3, AI (w64 (x1 + 1)))]) (L := []) [0, 3] [] 1 ⟨_, by rfl, hF⟩
  refine qn8 (qn4 (qg (AB false) rfl rfl (qb (d9 (H2 rfl (g9 (p6 (f5 (y4 1729 1921 rfl rfl ?_)))))))))
  refine qr (AI x1) (qr (AI (w64 (x1 + 1))) (qr (AI (w64 (x1 + 1))) (d9 (f5 ?_))))
  refine ar (l' := [(0, .val none (K3o v0)), (3, AI (w64 (x1 + 1)))]) (L := []) [0, 3] [] 1 ⟨_, by rfl, hF⟩
 exact z8 (j5 (j5 (s9 (f5 (ws 257 513 (qr (.val none (K3o v0)) (qp (AI (v0.length : Int)) (j0 rfl) (qr (AB (decide ((v0.length : Int) ≤ (12 : Int)))) (qr (AB (decide ((v0.length : Int) ≤ (12 : Int)))) (rR hF))))))))))

def c9d : MC := (sr [pT 2 (.mv cf)] (sr [mvt 3 0, pT 4 (.nck t3), pT 5 (.fad t4 0), lT 6 5, dT 7 115 [t6, (ci 0), (ci 100000)], mvt 8 7, nT 9 8 t0, kT 10 8 (.nck t9), kT 11 8 (.fad t10 1), kT 12 8 (.ld t11 1 false), ⟨(some 13), (some (8, true)), (.call true 98 [t12])⟩, pT 14 (.pick t8 t13 cf), mvt 15 14, nT 16 15 t0, kT 17 15 (.nck t16), kT 18 15 (.fad t17 2), kT 19 15 (.ld t18 1 false), ⟨(some 20), (some (15, true)), (.call true 98 [t19])⟩, pT 21 (.pick t15 t20 cf), mvt 22 21, nT 23 22 t0, kT 24 22 (.nck t23), kT 25 22 (.fad t24 3), kT 26 22 (.ld t25 1 false), ⟨(some 27), (some (22, true)), (.call true 115 [t26, (ci 1), (ci 480)])⟩, pT 28 (.pick t22 t27 cf), mvt 29 28, nT 30 29 t0, kT 31 29 (.nck t30), kT 32 29 (.fad t31 4), kT 33 29 (.ld t32 1 false), ⟨(some 34), (some (29, true)), (.call true 115 [t33, (ci 0), (ci 100)])⟩, pT 35 (.pick t29 t34 cf), mvt 2 35] .ret))
theorem c4y : IsF Tryz.prog 112 c9d [(.tmp 2)] := ⟨by kernel_rfl, by kernel_rfl⟩

def a1A (v0 : n9) : Option (Bool) :=
 ((C0 v0.1 0 100000).bind fun u0 => (bif u0 then ((F6 v0.2.1).bind fun u1 => (bif u1 then ((F6 v0.2.2.1).bind fun u2 => (bif u2 then ((C0 v0.2.2.2.1 1 480).bind fun u3 => (bif u3 then ((C0 v0.2.2.2.2 0 100).bind fun u4 => some u4)
 else some false))
 else some false))
 else some false))
 else some false))
@[simp] abbrev K3p (v0 : n9) : AV := .val none (.ptr [.int .i64 v0.1, .str v0.2.1, .str v0.2.2.1, .int .i64 v0.2.2.2.1, .int .i64 v0.2.2.2.2])
@[simp] def b2n (r : Bool) : RV := .one (.one (.val (.bool r)))
theorem b1T {v0 : n9} {r : Bool} (hF : a1A v0 = some r) : Con Tryz.prog 112 [.ptr [.int .i64 v0.1, .str v0.2.1, .str v0.2.2.1, .int .i64 v0.2.2.2.1, .int .i64 v0.2.2.2.2]] (b2n r) := by
 unfold a1A at hF
 refine p7 c4y.1 fun N => ?_
 refine ws 0 64 (qb (d9 (ws 64 2240 (qr (K3p v0) (qr (K3p v0) (qr (K3p v0) (qr (AI v0.1) (bk hF fun u0 e0 hF => qC (AB u0) [] (C1 e0) a2i (qr (AB u0) ?_)))))))))
 refine p5 8 hF rfl (fun hF => ?_) (fun hF => ?_)
 ·
  refine qg (K3p v0) rfl rfl (qg (K3p v0) rfl rfl (qg (.val none (.ptr [.str v0.2.1, .str v0.2.2.1, .int .i64 v0.2.2.2.1, .int .i64 v0.2.2.2.2])) rfl rfl (qg (AS v0.2.1) rfl rfl (bk hF fun u1 e1 hF => qG (AB u1) [] (M4 e1) b7a (qr (AB u1) (qr (AB u1) ?_))))))
  refine p5 15 hF rfl (fun hF => ?_) (fun hF => ?_)
  ·
   refine qg (K3p v0) rfl rfl (qg (K3p v0) rfl rfl (qg (.val none (.ptr [.str v0.2.2.1, .int .i64 v0.2.2.2.1, .int .i64 v0.2.2.2.2])) rfl rfl (qg (AS v0.2.2.1) rfl rfl (bk hF fun u2 e2 hF => qG (AB u2) [] (M4 e2) b7a (qr (AB u2) (qr (AB u2) ?_))))))
   refine p5 22 hF rfl (fun hF => ?_) (fun hF => ?_)
   ·
    refine qg (K3p v0) rfl rfl (qg (K3p v0) rfl rfl (qg (.val none (.ptr [.int .i64 v0.2.2.2.1, .int .i64 v0.2.2.2.2])) rfl rfl (qg (AI v0.2.2.2.1) rfl rfl (bk hF fun u3 e3 hF => qG (AB u3) [] (C1 e3) a2i (qr (AB u3) (qr (AB u3) (p5 29 hF rfl (fun hF => qg (K3p v0) rfl rfl (qg (K3p v0) rfl rfl (qg (.val none (.ptr [.int .i64 v0.2.2.2.2])) rfl rfl (qg (AI v0.2.2.2.2) rfl rfl (bk hF fun u4 e4 hF => qG (AB u4) [] (C1 e4) a2i (qr (AB u4) (qr (AB u4) (rR hF)))))))) fun hF => ?_)))))))
    exact qn5 (qb (qb (rR hF)))
   exact qn5 (qb (qb (qn rfl (qn4 (qb (qb (rR hF)))))))
  exact qn5 (qb (qb (qn rfl (qn4 (qb (qb (qn2 (qn3 (qb (qb (rR hF)))))))))))
 refine qn5 (qb (qb (qn rfl (qn4 (qb (qb (qn2 (qn3 (qb (qb (qn3 ?_)))))))))))
 exact qn2 (qb (qb (rR hF)))

def d0o : MC := (sr [pT 4 (.mv cf)] (.seq (sr [mP 5 t0, pF 6 (.nck t5), pF 7 (.fad t6 0), lF 8 7, mP 9 t1, pF 10 (.nck t9), pF 11 (.fad t10 0), lF 12 11, bF 13 .neq t8 t12] (.cond t13 (sr [mP 14 t0, pF 15 (.nck t14), pF 16 (.fad t15 0), lF 17 16, mP 18 t1, pF 19 (.nck t18), pF 20 (.fad t19 0), lF 21 20, bF 22 .lss t17 t21, mP 4 t22] .ret) .skip)) (.seq (sr [mP 23 t0, pF 24 (.nck t23), pF 25 (.fad t24 1), lF 26 25, mP 27 t1, pF 28 (.nck t27), pF 29 (.fad t28 1), lF 30 29, bF 31 .neq t26 t30] (.cond t31 (sr [mP 32 t0, pF 33 (.nck t32), pF 34 (.fad t33 1), lF 35 34, mP 36 t1, pF 37 (.nck t36), pF 38 (.fad t37 1), lF 39 38, bF 40 .lss t35 t39, mP 4 t40] .ret) .skip)) (sr [mP 41 t0, pF 42 (.nck t41), pF 43 (.fad t42 2), lF 44 43, mP 45 t1, pF 46 (.nck t45), pF 47 (.fad t46 2), lF 48 47, bF 49 .lss t44 t48, mP 4 t49] .ret))))
theorem c4H : IsF Tryz.prog 113 d0o [(.tmp 4)] := ⟨by kernel_rfl, by kernel_rfl⟩

def X4 (v0 : n9) (v1 : n9) : Option (Bool) :=
 (bif (decide (v0.1 ≠ v1.1)) then some (decide (v0.1 < v1.1))
 else (bif (decide (v0.2.1 ≠ v1.2.1)) then some (Op.bytesLess v0.2.1 v1.2.1)
 else some (Op.bytesLess v0.2.2.1 v1.2.2.1)))
@[simp] abbrev K3q (v0 : n9) : AV := .val none (.ptr [.int .i64 v0.1, .str v0.2.1, .str v0.2.2.1, .int .i64 v0.2.2.2.1, .int .i64 v0.2.2.2.2])
@[simp] abbrev K3r (v1 : n9) : AV := .val none (.ptr [.int .i64 v1.1, .str v1.2.1, .str v1.2.2.1, .int .i64 v1.2.2.2.1, .int .i64 v1.2.2.2.2])
@[simp] def a7t (r : Bool) : RV := .one (.one (.val (.bool r)))
theorem a8h {v0 : n9} {v1 : n9} {r : Bool} (hF : X4 v0 v1 = some r) : Con Tryz.prog 113 [.ptr [.int .i64 v0.1, .str v0.2.1, .str v0.2.2.1, .int .i64 v0.2.2.2.1, .int .i64 v0.2.2.2.2], .ptr [.int .i64 v1.1, .str v1.2.1, .str v1.2.2.1, .int .i64 v1.2.2.2.1, .int .i64 v1.2.2.2.2]] (a7t r) := by
 unfold X4 at hF
 refine p7 c4H.1 fun N => ?_
 refine ws 0 64 (qb (d9 (i8 (ws 64 640 (qr (K3q v0) (qr (K3q v0) (qr (K3q v0) (qr (AI v0.1) (qr (K3r v1) (qr (K3r v1) (qr (K3r v1) (qr (AI v1.1) (qr (AB (decide (v0.1 ≠ v1.1))) ?_)))))))))))))
 refine d9 (cF hF (fun hF => ws 640 1280 (qr (K3q v0) (qr (K3q v0) (qr (K3q v0) (qr (AI v0.1) (qr (K3r v1) (qr (K3r v1) (qr (K3r v1) (qr (AI v1.1) (qr (AB (decide (v0.1 < v1.1))) (qr (AB (decide (v0.1 < v1.1))) (d9 (j8 (f7 (eQ hF))))))))))))))) fun hF => ?_)
 refine g9 (f5 (i8 (ws 640 1216 (qr (K3q v0) (qr (K3q v0) (qr (.val none (.ptr [.str v0.2.1, .str v0.2.2.1, .int .i64 v0.2.2.2.1, .int .i64 v0.2.2.2.2])) (qr (AS v0.2.1) (qr (K3r v1) (qr (K3r v1) (qr (.val none (.ptr [.str v1.2.1, .str v1.2.2.1, .int .i64 v1.2.2.2.1, .int .i64 v1.2.2.2.2])) (qr (AS v1.2.1) (qr (AB (decide (v0.2.1 ≠ v1.2.1))) (d9 ?_)))))))))))))
 refine cF hF (fun hF => ?_) fun hF => ?_
 ·
  exact ws 1216 1856 (qr (K3q v0) (qr (K3q v0) (qr (.val none (.ptr [.str v0.2.1, .str v0.2.2.1, .int .i64 v0.2.2.2.1, .int .i64 v0.2.2.2.2])) (qr (AS v0.2.1) (qr (K3r v1) (qr (K3r v1) (qr (.val none (.ptr [.str v1.2.1, .str v1.2.2.1, .int .i64 v1.2.2.2.1, .int .i64 v1.2.2.2.2])) (qr (AS v1.2.1) (qr (AB (Op.bytesLess v0.2.1 v1.2.1)) (qr (AB (Op.bytesLess v0.2.1 v1.2.1)) (d9 (j8 (f7 (eQ hF))))))))))))))
 exact g9 (f5 (ws 1216 1856 (qr (K3q v0) (qr (K3q v0) (qr (.val none (.ptr [.str v0.2.2.1, .int .i64 v0.2.2.2.1, .int .i64 v0.2.2.2.2])) (qr (AS v0.2.2.1) (qr (K3r v1) (qr (K3r v1) (qr (.val none (.ptr [.str v1.2.2.1, .int .i64 v1.2.2.2.1, .int .i64 v1.2.2.2.2])) (qr (AS v1.2.2.1) (qr (AB (Op.bytesLess v0.2.2.1 v1.2.2.1)) (qr (AB (Op.bytesLess v0.2.2.1 v1.2.2.1)) (rR hF)))))))))))))

def d0b : MC := (sr [rg 4 (.f (.nilrow 1))] (sr [rg 8 (.f (.bsl 1 [])), mvt 5 8] (sr [pT 6 (.mv cf)] (.seq (sr [pT 7 (.mv (ci 0))] (.block 0 (.loop (.seq (sr [mvt 9 7, mvt 10 0, zT 11 10, bT 12 .lss t9 t11] (cx t12 0)) (.seq (.block 1 (.seq (sr [mvt 15 6, pT 16 (.not t15), mvt 17 16, nT 18 17 t0, nT 19 17 t7, kT 20 17 (.iad t18 t19 1), kT 21 17 (.ld t20 1 false), nT 22 17 t1, kT 23 17 (.bin .geq t21 t22), pT 24 (.pick t17 t23 cf)] (.cond t24 (sr [mvt 25 5, mvt 26 1, rg 27 (.f (.bsl 1 [t26])), rg 28 (.f (.app t25 t27 1 16 true)), mvt 5 28] (.reg [pT 6 (.mv ct)])) .skip)) (sr [mvt 29 0, mvt 30 7, iT 31 29 30 1, lT 32 31, mvt 33 1, bT 34 .neq t32 t33] (.cond t34 (.reg [mvt 35 5, mvt 36 0, mvt 37 7, iT 38 36 37 1, lT 39 38, rg 40 (.f (.bsl 1 [t39])), rg 41 (.f (.app t35 t40 1 16 true)), mvt 5 41]) .skip)))) (.reg [mvt 13 7, bT 14 .add t13 (ci 1), mvt 7 14])))))) (.seq (sr [mvt 42 6, pT 43 (.not t42)] (.cond t43 (.reg [mvt 44 5, mvt 45 1, rg 46 (.f (.bsl 1 [t45])), rg 47 (.f (.app t44 t46 1 16 true)), mvt 5 47]) .skip)) (sr [mvt 48 5, mvt 4 48] .ret))))))
theorem c4r : IsF Tryz.prog 148 d0b [(.tmp 4)] := ⟨by kernel_rfl, by kernel_rfl⟩

def I4 (v0 : List (List UInt8)) (v1 : List UInt8) (x8 : Int) (k0 : Bool × Int × (List (List UInt8)) → Option (List (List UInt8))) (x10 : Bool) (x11 : List (List UInt8)) : Option (List (List UInt8)) :=
 ((ix v0 x8).bind fun u2 => (bif (decide (u2 ≠ v1)) then ((ix v0 x8).bind fun u3 => (need (room (x11.length + [u3].length) 16) (k0 (x10, w64 (x8 + 1), x11 ++ [u3]))))
 else k0 (x10, w64 (x8 + 1), x11)))
def Z2 (v0 : List (List UInt8)) (v1 : List UInt8) (k0 : Bool × Int × (List (List UInt8)) → Option (List (List UInt8))) : Bool × Int × (List (List UInt8)) → Option (List (List UInt8))
 | (x7, x8, x9) => (bif (decide (x8 < (v0.length : Int))) then (bif (!x7) then ((ix v0 x8).bind fun u0 => (bif (!Op.bytesLess u0 v1) then (need (room (x9.length + [v1].length) 16) (I4 v0 v1 x8 k0 true (x9 ++ [v1])))
 else I4 v0 v1 x8 k0 x7 x9))
 else I4 v0 v1 x8 k0 x7 x9)
 else (bif (!x7) then (need (room (x9.length + [v1].length) 16) (some (x9 ++ [v1])))
 else some x9))
def a1F (v0 : List (List UInt8)) (v1 : List UInt8) : Option (List (List UInt8)) :=
 loop (Z2 v0 v1) (false, 0, [])
@[simp] abbrev K3s : List (Nat × Root) := [(0, .row true 1 (([] : List Int).map vI))]
@[simp] abbrev K3t (v1 : List UInt8) (x9 : List (List UInt8)) : List (Nat × Root) := [(1025, .row true 1 ([v1].map V.str)), (0, .row true 1 (x9.map V.str))]
@[simp] abbrev K3u (u3 : List UInt8) (x11 : List (List UInt8)) : List (Nat × Root) := [(705, .row true 1 ([u3].map V.str)), (0, .row true 1 (x11.map V.str))]
@[simp] abbrev K3v (v1 : List UInt8) (x9 : List (List UInt8)) : List (Nat × Root) := [(513, .row true 1 ([v1].map V.str)), (0, .row true 1 (x9.map V.str))]
@[simp] abbrev K3w (v0 : List (List UInt8)) : Nat × AV := (0, AL 1 (v0.map V.str))
@[simp] def a4W (r : List (List UInt8)) : RV := .one (.one (.row true 1 (r.map V.str)))
theorem b1Y {v0 : List (List UInt8)} {v1 : List UInt8} {r : List (List UInt8)} (hF : a1F v0 v1 = some r) : Con Tryz.prog 148 [.sl 1 (v0.map V.str), .str v1] (a4W r) := by
 unfold a1F at hF
 refine p7 c4r.1 fun N => ?_
 refine ws 0 64 (qf (.sl 0 0 0) K3s (by simp) (d9 (ws 64 192 (qf (.sl 64 0 0) ((64, .row true 1 (([] : List (List UInt8)).map V.str)) :: K3s) (by simp [List.take_of_length_le]) (qr (.sl 64 0 0) (d9 (ws 192 256 (qb (d9 (i8 (ws 256 320 (qr (AI 0) (d9 ?_)))))))))))))
 refine j7 ?_
 refine wr (l' := [(K3w v0), (1, AS v1), (5, .sl 0 0 0), (6, AB false), (7, AI 0)]) (L := [(0, .row true 1 (([] : List (List UInt8)).map V.str))]) [0, 1, 5, 6, 7] [(64, 0)] 1 ?_
 refine y5 (Z2 v0 v1) (fun s : Bool × Int × (List (List UInt8)) => mkS [(K3w v0), (1, AS v1), (5, .sl 0 0 s.2.2.length), (6, AB s.1), (7, AI s.2.1)] (fo [(0, .row true 1 (s.2.2.map V.str))]) 1) hF ?_
 rintro k0 ⟨x7, x8, x9⟩ hF
 rw [Z2] at hF
 try dsimp only
 refine i8 (ws 1 257 (qr (AI x8) (qr (AL 1 (v0.map V.str)) (qp (AI (v0.length : Int)) (j0 rfl) (qr (AB (decide (x8 < (v0.length : Int)))) (d9 ?_))))))
 refine cF hF (fun hF => ?_) fun hF => ?_
 ·
  refine g9 (f5 (i8 (j7 ?_)))
  refine b0D (fun s' => ∃ (x10 : Bool) (x11 : List (List UInt8)), s' = mkS [(K3w v0), (1, AS v1), (5, .sl 0 0 x11.length), (6, AB x10), (7, AI x8)] (fo [(0, .row true 1 (x11.map V.str))]) 1 ∧ I4 v0 v1 x8 k0 x10 x11 = some r) ?_ ?_
  ·
   refine ws 257 897 (qr (AB x7) (qr (AB (!x7)) (qr (AB (!x7)) ?_)))
   refine p5 17 hF rfl (fun hF => ?_) (fun hF => ?_)
   ·
    refine qg (AL 1 (v0.map V.str)) rfl rfl (qg (AI x8) rfl rfl (bk hF fun u0 e0 hF => qg (.val none (.ptr [.str u0])) rfl (j4 rfl rfl e0 rfl) (qg (AS u0) rfl rfl (qg (AS v1) rfl rfl (qg (AB (!Op.bytesLess u0 v1)) rfl rfl (qr (AB (!Op.bytesLess u0 v1)) (d9 ?_)))))))
    refine cF hF (fun hF => ?_) fun hF => ?_
    ·
     refine ws 897 1217 (qr (.sl 0 0 x9.length) (qr (AS v1) (qf (.sl 1025 0 ([v1].length)) (K3t v1 x9) (by simp [List.take_of_length_le]) (nk hF fun g1 hF => qf (.sl 1089 0 ((x9 ++ [v1]).length)) ((1089, .row true 1 ((x9 ++ [v1]).map V.str)) :: (0, .dead) :: (1025, .dead) :: (K3t v1 x9)) (a0b rfl (by simp) rfl rfl (by simp) rfl (by decide) g1 rfl) (qr (.sl 1089 0 ((x9 ++ [v1]).length)) (d9 (y4 1217 1281 rfl rfl (qt (d9 (f5 ?_))))))))))
     refine ar (l' := [(K3w v0), (1, AS v1), (5, .sl 0 0 (x9 ++ [v1]).length), (6, AB true), (7, AI x8)]) (L := [(0, .row true 1 ((x9 ++ [v1]).map V.str))]) [0, 1, 5, 6, 7] [(1089, 0)] 1 ⟨_, _, rfl, hF⟩
    refine g9 (f5 ?_)
    refine ar (l' := [(K3w v0), (1, AS v1), (5, .sl 0 0 x9.length), (6, AB x7), (7, AI x8)]) (L := [(0, .row true 1 (x9.map V.str))]) [0, 1, 5, 6, 7] [(0, 0)] 1 ⟨_, _, rfl, hF⟩
   refine qn6 (qb (d9 (H2 rfl (g9 (f5 ?_)))))
   refine ar (l' := [(K3w v0), (1, AS v1), (5, .sl 0 0 x9.length), (6, AB x7), (7, AI x8)]) (L := [(0, .row true 1 (x9.map V.str))]) [0, 1, 5, 6, 7] [(0, 0)] 1 ⟨_, _, rfl, hF⟩
  rintro s' ⟨x10, x11, rfl, hF⟩
  unfold I4 at hF
  refine ws 1 385 (qr (AL 1 (v0.map V.str)) (qr (AI x8) (bk hF fun u2 e2 hF => qp (.val none (.ptr [.str u2])) (j4 rfl rfl e2 rfl) (qr (AS u2) (qr (AS v1) (qr (AB (decide (u2 ≠ v1))) (d9 ?_)))))))
  refine cF hF (fun hF => ?_) fun hF => ?_
  ·
   refine y4 385 897 rfl rfl (qr (.sl 0 0 x11.length) (qr (AL 1 (v0.map V.str)) (qr (AI x8) (bk hF fun u3 e3 hF => qp (.val none (.ptr [.str u3])) (j4 rfl rfl e3 rfl) (qr (AS u3) (qf (.sl 705 0 ([u3].length)) (K3u u3 x11) (by simp [List.take_of_length_le]) (nk hF fun g4 hF => qf (.sl 769 0 ((x11 ++ [u3]).length)) ((769, .row true 1 ((x11 ++ [u3]).map V.str)) :: (0, .dead) :: (705, .dead) :: (K3u u3 x11)) (a0b rfl (by simp) rfl rfl (by simp) rfl (by decide) g4 rfl) (qr (.sl 769 0 ((x11 ++ [u3]).length)) (d9 (p6 (f5 (y4 897 1089 rfl rfl ?_))))))))))))
   refine qr (AI x8) (qr (AI (w64 (x8 + 1))) (qr (AI (w64 (x8 + 1))) (d9 (f5 ?_))))
   refine ar (l' := [(K3w v0), (1, AS v1), (5, .sl 0 0 (x11 ++ [u3]).length), (6, AB x10), (7, AI (w64 (x8 + 1)))]) (L := [(0, .row true 1 ((x11 ++ [u3]).map V.str))]) [0, 1, 5, 6, 7] [(769, 0)] 1 ⟨_, by rfl, hF⟩
  refine g9 (p6 (f5 (y4 385 577 rfl rfl (qr (AI x8) (qr (AI (w64 (x8 + 1))) (qr (AI (w64 (x8 + 1))) (d9 (f5 ?_))))))))
  refine ar (l' := [(K3w v0), (1, AS v1), (5, .sl 0 0 x11.length), (6, AB x10), (7, AI (w64 (x8 + 1)))]) (L := [(0, .row true 1 (x11.map V.str))]) [0, 1, 5, 6, 7] [(0, 0)] 1 ⟨_, by rfl, hF⟩
 refine z8 (j5 (j5 (s9 (f5 (i8 (ws 257 385 (qr (AB x7) (qr (AB (!x7)) (d9 ?_)))))))))
 refine cF hF (fun hF => ?_) fun hF => ?_
 ·
  exact y4 385 705 rfl rfl (qr (.sl 0 0 x9.length) (qr (AS v1) (qf (.sl 513 0 ([v1].length)) (K3v v1 x9) (by simp [List.take_of_length_le]) (nk hF fun g5 hF => qf (.sl 577 0 ((x9 ++ [v1]).length)) ((577, .row true 1 ((x9 ++ [v1]).map V.str)) :: (0, .dead) :: (513, .dead) :: (K3v v1 x9)) (a0b rfl (by simp) rfl rfl (by simp) rfl (by decide) g5 rfl) (qr (.sl 577 0 ((x9 ++ [v1]).length)) (d9 (f5 (ws 705 833 (qr (.sl 577 0 ((x9 ++ [v1]).length)) (qr (.sl 577 0 ((x9 ++ [v1]).length)) (rR hF)))))))))))
 exact g9 (f5 (ws 385 513 (qr (.sl 0 0 x9.length) (qr (.sl 0 0 x9.length) (rR hF)))))

def c9E : MC := (sr [rg 2 (.f (.nilrow 1))] (sr [rg 5 (.f (.bsl 1 [])), mvt 3 5] (.seq (sr [pT 4 (.mv (ci 0))] (.block 0 (.loop (.seq (sr [mvt 6 4, mvt 7 0, zT 8 7, bT 9 .lss t6 t8] (cx t9 0)) (.seq (.block 1 (.reg [mvt 12 3, mvt 13 0, mvt 14 4, iT 15 13 14 5, pT 16 (.fad t15 1), lT 17 16, dT 18 148 [t12, t17], mvt 3 18])) (.reg [mvt 10 4, bT 11 .add t10 (ci 1), mvt 4 11])))))) (sr [mvt 19 3, mvt 2 19] .ret))))
theorem c4C : IsF Tryz.prog 114 c9E [(.tmp 2)] := ⟨by kernel_rfl, by kernel_rfl⟩

def P3 (v0 : List n9) (k0 : Int × (List (List UInt8)) → Option (List (List UInt8))) : Int × (List (List UInt8)) → Option (List (List UInt8))
 | (x2, x3) => (bif (decide (x2 < (v0.length : Int))) then ((ix v0 x2).bind fun u0 => ((a1F x3 u0.2.1).bind fun u1 => k0 (w64 (x2 + 1), u1)))
 else some x3)
def R6 (v0 : List n9) : Option (List (List UInt8)) :=
 loop (P3 v0) (0, [])
@[simp] abbrev K3x : List (Nat × Root) := [(0, .row true 1 (([] : List Int).map vI))]
@[simp] def a3t (r : List (List UInt8)) : RV := .one (.one (.row true 1 (r.map V.str)))
theorem a8m {v0 : List n9} {r : List (List UInt8)} (hF : R6 v0 = some r) : Con Tryz.prog 114 [.sl 5 (v0.map p8)] (a3t r) := by
 unfold R6 at hF
 refine p7 c4C.1 fun N => ?_
 refine ws 0 64 (qf (.sl 0 0 0) K3x (by simp) (d9 (ws 64 192 (qf (.sl 64 0 0) ((64, .row true 1 (([] : List (List UInt8)).map V.str)) :: K3x) (by simp [List.take_of_length_le]) (qr (.sl 64 0 0) (d9 (i8 (ws 192 256 (qr (AI 0) (d9 (j7 ?_)))))))))))
 refine wr (l' := [(0, AL 5 (v0.map p8)), (3, .sl 0 0 0), (4, AI 0)]) (L := [(0, .row true 1 (([] : List (List UInt8)).map V.str))]) [0, 3, 4] [(64, 0)] 1 ?_
 refine y5 (P3 v0) (fun s : Int × (List (List UInt8)) => mkS [(0, AL 5 (v0.map p8)), (3, .sl 0 0 s.2.length), (4, AI s.1)] (fo [(0, .row true 1 (s.2.map V.str))]) 1) hF ?_
 rintro k0 ⟨x2, x3⟩ hF
 rw [P3] at hF
 try dsimp only
 refine i8 (ws 1 257 (qr (AI x2) (qr (AL 5 (v0.map p8)) (qp (AI (v0.length : Int)) (j0 rfl) (qr (AB (decide (x2 < (v0.length : Int)))) (d9 ?_))))))
 refine cF hF (fun hF => ?_) fun hF => ?_
 ·
  refine g9 (f5 (i8 (j7 (y4 257 769 rfl rfl (qr (.sl 0 0 x3.length) (qr (AL 5 (v0.map p8)) (qr (AI x2) (bk hF fun u0 e0 hF => qp (.val none (.ptr [.int .i64 u0.1, .str u0.2.1, .str u0.2.2.1, .int .i64 u0.2.2.2.1, .int .i64 u0.2.2.2.2])) (j4 rfl rfl e0 rfl) (qr (.val none (.ptr [.str u0.2.1, .str u0.2.2.1, .int .i64 u0.2.2.2.1, .int .i64 u0.2.2.2.2])) (qr (AS u0.2.1) (bk hF fun u1 e1 hF => qc (.sl 641 0 u1.length) [(641, .row true 1 (u1.map V.str)), (0, .row true 1 (x3.map V.str))] true (b1Y e1) c4r.2 (by simp [List.take_of_length_le]) (by simp [a4W]) (qr (.sl 641 0 u1.length) (d9 (p6 (f5 ?_)))))))))))))))
  refine y4 769 961 rfl rfl (qr (AI x2) (qr (AI (w64 (x2 + 1))) (qr (AI (w64 (x2 + 1))) (d9 (f5 ?_)))))
  refine ar (l' := [(0, AL 5 (v0.map p8)), (3, .sl 0 0 u1.length), (4, AI (w64 (x2 + 1)))]) (L := [(0, .row true 1 (u1.map V.str))]) [0, 3, 4] [(641, 0)] 1 ⟨_, by rfl, hF⟩
 exact z8 (j5 (j5 (s9 (f5 (ws 257 385 (qr (.sl 0 0 x3.length) (qr (.sl 0 0 x3.length) (rR hF))))))))

def c67 : MC := (sr [pT 2 (.mv cf)] (.seq (sr [pT 3 (.mv (ci 0))] (.block 0 (.loop (.seq (sr [mvt 4 3, mvt 5 0, zT 6 5, bT 7 .lss t4 t6] (cx t7 0)) (.seq (.block 1 (sr [mP 10 t0, mP 11 t3, iF 12 10 11 5, dF 13 112 [t12], pF 14 (.not t13), mP 15 t14, mF 16 15 t3, bH 17 15 .gtr t16 (ci 0), mF 18 15 t17, mT 19 18 t0, mT 20 18 t3, bG 21 18 .sub t20 (ci 1), iG 22 18 19 21 5, mT 23 18 t0, mT 24 18 t3, iG 25 18 23 24 5, ⟨(some 26), (some (18, true)), (.call false 113 [t22, t25])⟩, gT 27 18 (.not t26), gF 28 15 (.pick t18 t27 cf), pF 29 (.pick t15 ct t28)] (.cond t29 (sr [pT 2 (.mv cf)] .ret) .skip))) (.reg [mvt 8 3, bT 9 .add t8 (ci 1), mvt 3 9])))))) (sr [mvt 30 0, zT 31 30, bT 32 .leq t31 (ci 64), mvt 33 32, nT 34 33 t0, ⟨(some 35), (some (33, true)), (.call true 114 [t34])⟩, kT 36 33 (.len t35), kT 37 33 (.bin .leq t36 (ci 12)), pT 38 (.pick t33 t37 cf), mvt 2 38] .ret)))
theorem c8I : IsF Tryz.prog 67 c67 [(.tmp 2)] := ⟨by kernel_rfl, by kernel_rfl⟩

def L6 (v0 : List n9) (k0 : Int → Option (Bool)) : Int → Option (Bool)
 | x1 => (bif (decide (x1 < (v0.length : Int))) then ((ix v0 x1).bind fun u0 => ((a1A u0).bind fun u1 => (bif (!u1) then some false
 else (bif (decide ((0 : Int) < x1)) then ((ix v0 (w64 (x1 - 1))).bind fun u2 => ((ix v0 x1).bind fun u3 => ((X4 u2 u3).bind fun u4 => (bif (!u4) then some false
 else k0 (w64 (x1 + 1))))))
 else k0 (w64 (x1 + 1))))))
 else (bif (decide ((v0.length : Int) ≤ (64 : Int))) then ((R6 v0).bind fun u5 => some (decide ((u5.length : Int) ≤ (12 : Int))))
 else some false))
def a1p (v0 : List n9) : Option (Bool) :=
 loop (L6 v0) 0
@[simp] abbrev K3y (v0 : List n9) : V := .sl 5 (v0.map p8)
@[simp] def b2R (r : Bool) : RV := .one (.one (.val (.bool r)))
theorem b3X {v0 : List n9} {r : Bool} (hF : a1p v0 = some r) : Con Tryz.prog 67 [.sl 5 (v0.map p8)] (b2R r) := by
 unfold a1p at hF
 refine p7 c8I.1 fun N => ?_
 refine ws 0 64 (qb (d9 (i8 (ws 64 128 (qr (AI 0) (d9 (j7 ?_)))))))
 refine wr (l' := [(0, .val none (K3y v0)), (3, AI 0)]) (L := []) [0, 3] [] 1 ?_
 refine y5 (L6 v0) (fun s : Int => mkS [(0, .val none (K3y v0)), (3, AI s)] (fo []) 1) hF ?_
 rintro k0 x1 hF
 rw [L6] at hF
 try dsimp only
 refine i8 (ws 1 257 (qr (AI x1) (qr (.val none (K3y v0)) (qp (AI (v0.length : Int)) (j0 rfl) (qr (AB (decide (x1 < (v0.length : Int)))) (d9 ?_))))))
 refine cF hF (fun hF => ?_) fun hF => ?_
 ·
  refine g9 (f5 (i8 (j7 (ws 257 1537 (qr (.val none (K3y v0)) (qr (AI x1) (bk hF fun u0 e0 hF => qp (.val none (.ptr [.int .i64 u0.1, .str u0.2.1, .str u0.2.2.1, .int .i64 u0.2.2.2.1, .int .i64 u0.2.2.2.2])) (j4 rfl rfl e0 rfl) (bk hF fun u1 e1 hF => qC (AB u1) [] (b1T e1) c4y (qr (AB (!u1)) (qr (AB (!u1)) ?_))))))))))
  refine p5 15 hF rfl (fun hF => ?_) (fun hF => ?_)
  ·
   refine qn3 (qu rfl (qu rfl (qu rfl (qu rfl (qu rfl (qu rfl (qu rfl (qu rfl (qu rfl (qn rfl (qt (d9 (B5 rfl ?_)))))))))))))
   exact ws 1537 1601 (qb (d9 (j8 (g7 (f7 (f7 (g7 (f7 (eQ hF)))))))))
  refine qg (AI x1) rfl rfl (qg (AB (decide ((0 : Int) < x1))) rfl rfl (qg (AB (decide ((0 : Int) < x1))) rfl rfl ?_))
  refine p5 18 hF rfl (fun hF => ?_) (fun hF => ?_)
  ·
   refine qg (.val none (K3y v0)) rfl rfl (qg (AI x1) rfl rfl (qg (AI (w64 (x1 - 1))) rfl rfl (bk hF fun u2 e2 hF => qg (.val none (.ptr [.int .i64 u2.1, .str u2.2.1, .str u2.2.2.1, .int .i64 u2.2.2.2.1, .int .i64 u2.2.2.2.2])) rfl (j4 rfl rfl e2 rfl) (qg (.val none (K3y v0)) rfl rfl (qg (AI x1) rfl rfl (bk hF fun u3 e3 hF => qg (.val none (.ptr [.int .i64 u3.1, .str u3.2.1, .str u3.2.2.1, .int .i64 u3.2.2.2.1, .int .i64 u3.2.2.2.2])) rfl (j4 rfl rfl e3 rfl) (bk hF fun u4 e4 hF => qG (AB u4) [] (a8h e4) c4H (qg (AB (!u4)) rfl rfl (qg (AB (!u4)) rfl rfl (qr (AB (!u4)) (d9 ?_)))))))))))
   refine cF hF (fun hF => ws 1537 1601 (qb (d9 (j8 (g7 (f7 (f7 (g7 (f7 (eQ hF)))))))))) fun hF => ?_
   refine g9 (p6 (f5 (y4 1537 1729 rfl rfl (qr (AI x1) (qr (AI (w64 (x1 + 1))) (qr (AI (w64 (x1 + 1))) (d9 (f5 ?_))))))))
   refine ar (l' := [(0, .val none (K3y v0)), (3, AI (w64 (x1 + 1)))]) (L := []) [0, 3] [] 1 ⟨_, by rfl, hF⟩
  refine qn8 (qn rfl (qg (AB false) rfl rfl (qb (d9 (H2 rfl (g9 (p6 (f5 (y4 1537 1729 rfl rfl ?_)))))))))
  refine qr (AI x1) (qr (AI (w64 (x1 + 1))) (qr (AI (w64 (x1 + 1))) (d9 (f5 ?_))))
  refine ar (l' := [(0, .val none (K3y v0)), (3, AI (w64 (x1 + 1)))]) (L := []) [0, 3] [] 1 ⟨_, by rfl, hF⟩
 refine z8 (j5 (j5 (s9 (f5 (ws 257 897 (qr (.val none (K3y v0)) (qp (AI (v0.length : Int)) (j0 rfl) (qr (AB (decide ((v0.length : Int) ≤ (64 : Int)))) (qr (AB (decide ((v0.length : Int) ≤ (64 : Int)))) ?_)))))))))
 refine p5 33 hF rfl (fun hF => ?_) (fun hF => ?_)
 ·
  exact qg (.val none (K3y v0)) rfl rfl (bk hF fun u5 e5 hF => qcg (.sl 577 0 u5.length) [(577, .row true 1 (u5.map V.str))] false rfl (a8m e5) c4C.2 (by first | rfl | simp) (by simp [a3t]) (qg (AI (u5.length : Int)) rfl rfl (qg (AB (decide ((u5.length : Int) ≤ (12 : Int)))) rfl rfl (qr (AB (decide ((u5.length : Int) ≤ (12 : Int)))) (qr (AB (decide ((u5.length : Int) ≤ (12 : Int)))) (rR hF))))))
 exact qn4 (qb (qb (rR hF)))

def c9c : MC := (sr [pT 4 (.mv (ci 0))] (.seq (sr [pT 5 (.mv (ci 0))] (.block 0 (.loop (.seq (sr [mvt 6 5, mvt 7 0, zT 8 7, bT 9 .lss t6 t8] (cx t9 0)) (.seq (.block 1 (sr [mvt 12 0, mvt 13 5, iT 14 12 13 3, pT 15 (.fad t14 0), lT 16 15, mvt 17 1, bT 18 .eql t16 t17] (.cond t18 (sr [mvt 19 5, mvt 4 19] .ret) .skip))) (.reg [mvt 10 5, bT 11 .add t10 (ci 1), mvt 5 11])))))) (sr [pT 4 (.mv (ci (-1)))] .ret)))
theorem c4W : IsF Tryz.prog 116 c9c [(.tmp 4)] := ⟨by kernel_rfl, by kernel_rfl⟩

def W1 (v0 : List p4) (v1 : List UInt8) (k0 : Int → Option (Int)) : Int → Option (Int)
 | x1 => (bif (decide (x1 < (v0.length : Int))) then ((ix v0 x1).bind fun u0 => (bif (decide (u0.1 = v1)) then some x1
 else k0 (w64 (x1 + 1))))
 else some (-1))
def a1i (v0 : List p4) (v1 : List UInt8) : Option (Int) :=
 loop (W1 v0 v1) 0
@[simp] def b0e (r : Int) : RV := .one (.one (.val (.int .i64 r)))
theorem b0I {v0 : List p4} {v1 : List UInt8} {r : Int} (hF : a1i v0 v1 = some r) : Con Tryz.prog 116 [.sl 3 (v0.map p9), .str v1] (b0e r) := by
 unfold a1i at hF
 refine p7 c4W.1 fun N => ?_
 refine ws 0 64 (qr (AI 0) (d9 (i8 (ws 64 128 (qr (AI 0) (d9 (j7 ?_)))))))
 refine wr (l' := [(0, AL 3 (v0.map p9)), (1, AS v1), (5, AI 0)]) (L := []) [0, 1, 5] [] 1 ?_
 refine y5 (W1 v0 v1) (fun s : Int => mkS [(0, AL 3 (v0.map p9)), (1, AS v1), (5, AI s)] (fo []) 1) hF ?_
 rintro k0 x1 hF
 rw [W1] at hF
 try dsimp only
 refine i8 (ws 1 257 (qr (AI x1) (qr (AL 3 (v0.map p9)) (qp (AI (v0.length : Int)) (j0 rfl) (qr (AB (decide (x1 < (v0.length : Int)))) (d9 ?_))))))
 refine cF hF (fun hF => ?_) fun hF => ?_
 ·
  refine g9 (f5 (i8 (j7 (ws 257 705 (qr (AL 3 (v0.map p9)) (qr (AI x1) (bk hF fun u0 e0 hF => qp (.val none (.ptr [.str u0.1, .int .i64 u0.2.1, .sl 1 (u0.2.2.map V.str)])) (j4 rfl rfl e0 rfl) (qr (.val none (.ptr [.str u0.1, .int .i64 u0.2.1, .sl 1 (u0.2.2.map V.str)])) (qr (AS u0.1) (qr (AS v1) (qr (AB (decide (u0.1 = v1))) (d9 ?_))))))))))))
  refine cF hF (fun hF => ws 705 833 (qr (AI x1) (qr (AI x1) (d9 (j8 (g7 (f7 (f7 (g7 (f7 (eQ hF))))))))))) fun hF => ?_
  refine g9 (p6 (f5 (y4 705 897 rfl rfl (qr (AI x1) (qr (AI (w64 (x1 + 1))) (qr (AI (w64 (x1 + 1))) (d9 (f5 ?_))))))))
  refine ar (l' := [(0, AL 3 (v0.map p9)), (1, AS v1), (5, AI (w64 (x1 + 1)))]) (L := []) [0, 1, 5] [] 1 ⟨_, by rfl, hF⟩
 exact z8 (j5 (j5 (s9 (f5 (ws 257 321 (qr (AI (-1)) (rR hF)))))))

def c68 : MC := (sr [pT 2 (.mv cf)] (.seq (sr [pT 3 (.mv (ci 0))] (.block 0 (.loop (.seq (sr [mvt 7 3, mvt 8 0, zT 9 8, bT 10 .lss t7 t9] (cx t10 0)) (.seq (.block 1 (sr [mvt 13 0, mvt 14 3, iT 15 13 14 3, mvt 4 15] (.seq (sr [mP 16 t4, pF 17 (.nck t16), pF 18 (.fad t17 0), lF 19 18, dF 20 98 [t19], pF 21 (.not t20), mP 22 t21, mF 23 22 t4, gF 24 22 (.nck t23), gF 25 22 (.fad t24 1), lH 26 22 25, ⟨(some 27), (some (22, false)), (.call false 115 [t26, (ci 0), (ci 3000)])⟩, gF 28 22 (.not t27), pF 29 (.pick t22 ct t28), mP 30 t29, mF 31 30 t4, gF 32 30 (.nck t31), gF 33 30 (.fad t32 2), lH 34 30 33, zH 35 30 34, bH 36 30 .gtr t35 (ci 4), pF 37 (.pick t30 ct t36), mP 38 t37, mF 39 38 t3, bH 40 38 .gtr t39 (ci 0), mF 41 38 t40, mT 42 41 t0, mT 43 41 t3, bG 44 41 .sub t43 (ci 1), iG 45 41 42 44 3, gT 46 41 (.fad t45 0), lG 47 41 46, mT 48 41 t4, gT 49 41 (.nck t48), gT 50 41 (.fad t49 0), lG 51 41 50, bG 52 41 .geq t47 t51, gF 53 38 (.pick t41 t52 cf), pF 54 (.pick t38 ct t53)] (.cond t54 (sr [pT 2 (.mv cf)] .ret) .skip)) (sr [pT 5 (.mv (ci 0))] (.block 2 (.loop (.seq (sr [mvt 55 5, mvt 56 4, pT 57 (.nck t56), pT 58 (.fad t57 2), lT 59 58, zT 60 59, bT 61 .lss t55 t60] (cx t61 2)) (.seq (.block 3 (sr [mvt 64 0, mvt 65 4, pT 66 (.nck t65), pT 67 (.fad t66 2), lT 68 67, mvt 69 5, iT 70 68 69 1, lT 71 70, dT 72 116 [t64, t71], mvt 6 72] (sr [mP 73 t6, bF 74 .lss t73 (ci 0), mP 75 t74, mF 76 75 t0, mF 77 75 t6, iH 78 75 76 77 3, gF 79 75 (.fad t78 1), lH 80 75 79, mF 81 75 t4, gF 82 75 (.nck t81), gF 83 75 (.fad t82 1), lH 84 75 83, bH 85 75 .geq t80 t84, pF 86 (.pick t75 ct t85), mP 87 t86, mF 88 87 t5, bH 89 87 .gtr t88 (ci 0), mF 90 87 t89, mT 91 90 t4, gT 92 90 (.nck t91), gT 93 90 (.fad t92 2), lG 94 90 93, mT 95 90 t5, bG 96 90 .sub t95 (ci 1), iG 97 90 94 96 1, lG 98 90 97, mT 99 90 t4, gT 100 90 (.nck t99), gT 101 90 (.fad d0k 2), lG 102 90 101, mT 103 90 t5, iG 104 90 102 103 1, lG 105 90 104, bG 106 90 .geq t98 d0f, gF 107 87 (.pick t90 c9i cf), pF 108 (.pick t87 ct c8O)] (.cond c8T (sr [pT 2 (.mv cf)] .ret) .skip)))) (.reg [mvt 62 5, bT 63 .add t62 (ci 1), mvt 5 63]))))))))) (.reg [mvt 11 3, bT 12 .add t11 (ci 1), mvt 3 12])))))) (sr [mvt 109 0, zT 110 109, bT 111 .leq c9k (ci 24), mvt 2 111] .ret)))
theorem c8z : IsF Tryz.prog 68 c68 [(.tmp 2)] := ⟨by kernel_rfl, by kernel_rfl⟩

def O8 (v0 : List p4) (u0 : p4) (x5 : Int) (k2 : Int → Option (Bool)) (k4 : Int → Option (Bool)) : Int → Option (Bool)
 | x9 => (bif (decide (x9 < (u0.2.2.length : Int))) then ((ix u0.2.2 x9).bind fun u7 => ((a1i v0 u7).bind fun u8 => (bif (decide (u8 < (0 : Int))) then some false
 else ((ix v0 u8).bind fun u9 => (bif (decide (u0.2.1 ≤ u9.2.1)) then some false
 else (bif (decide ((0 : Int) < x9)) then ((ix u0.2.2 (w64 (x9 - 1))).bind fun u10 => ((ix u0.2.2 x9).bind fun u11 => (bif (!Op.bytesLess u10 u11) then some false
 else k4 (w64 (x9 + 1)))))
 else k4 (w64 (x9 + 1))))))))
 else k2 (w64 (x5 + 1)))
def O5 (v0 : List p4) (u0 : p4) (x5 : Int) (k2 : Int → Option (Bool)) : Option (Bool) :=
 loop (O8 v0 u0 x5 k2) 0
def L7 (v0 : List p4) (k2 : Int → Option (Bool)) : Int → Option (Bool)
 | x5 => (bif (decide (x5 < (v0.length : Int))) then ((ix v0 x5).bind fun u0 => ((F6 u0.1).bind fun u4 => (bif (!u4) then some false
 else ((C0 u0.2.1 0 3000).bind fun u5 => (bif (!u5) then some false
 else (bif (decide ((4 : Int) < (u0.2.2.length : Int))) then some false
 else (bif (decide ((0 : Int) < x5)) then ((ix v0 (w64 (x5 - 1))).bind fun u6 => (bif (!Op.bytesLess u6.1 u0.1) then some false
 else O5 v0 u0 x5 k2))
 else O5 v0 u0 x5 k2)))))))
 else some (decide ((v0.length : Int) ≤ (24 : Int))))
def V4 (v0 : List p4) : Option (Bool) :=
 loop (L7 v0) 0
@[simp] abbrev K3z (u0 : p4) : V := .ptr [.str u0.1, .int .i64 u0.2.1, .sl 1 (u0.2.2.map V.str)]
@[simp] abbrev K40 (v0 : List p4) : Nat × AV := (0, AL 3 (v0.map p9))
@[simp] abbrev K41 (u0 : p4) : AV := .val none (K3z u0)
@[simp] abbrev K42 (u0 : p4) : AV := .val none (.ptr [.sl 1 (u0.2.2.map V.str)])
@[simp] abbrev K43 (v0 : List p4) : AV := AL 3 (v0.map p9)
@[simp] abbrev K44 (u0 : p4) : AV := AL 1 (u0.2.2.map V.str)
@[simp] def b4F (r : Bool) : RV := .one (.one (.val (.bool r)))
theorem b2T {v0 : List p4} {r : Bool} (hF : V4 v0 = some r) : Con Tryz.prog 68 [.sl 3 (v0.map p9)] (b4F r) := by
 unfold V4 at hF
 refine p7 c8z.1 fun N => ?_
 refine ws 0 64 (qb (d9 (i8 (ws 64 128 (qr (AI 0) (d9 (j7 ?_)))))))
 refine wr (l' := [(K40 v0), (3, AI 0)]) (L := []) [0, 3] [] 1 ?_
 refine y5 (L7 v0) (fun s : Int => mkS [(K40 v0), (3, AI s)] (fo []) 1) hF ?_
 rintro k2 x5 hF
 rw [L7] at hF
 try dsimp only
 refine i8 (ws 1 257 (qr (AI x5) (qr (K43 v0) (qp (AI (v0.length : Int)) (j0 rfl) (qr (AB (decide (x5 < (v0.length : Int)))) (d9 ?_))))))
 refine cF hF (fun hF => ?_) fun hF => ?_
 ·
  refine g9 (f5 (i8 (j7 (ws 257 513 (qr (K43 v0) (qr (AI x5) (bk hF fun u0 e0 hF => qp (K41 u0) (j4 rfl rfl e0 rfl) (qr (K41 u0) (d9 ?_)))))))))
  refine b0D (fun s' => s' = mkS [(K40 v0), (3, AI x5), (4, .val none (K3z u0))] (fo []) 1 ∧ O5 v0 u0 x5 k2 = some r) ?_ ?_
  ·
   refine ws 513 3009 (qr (K41 u0) (qr (K41 u0) (qr (K41 u0) (qr (AS u0.1) (bk hF fun u4 e4 hF => qC (AB u4) [] (M4 e4) b7a (qr (AB (!u4)) (qr (AB (!u4)) ?_)))))))
   refine p5 22 hF rfl (fun hF => ?_) (fun hF => ?_)
   ·
    refine qn6 (qt (qt (qn6 (qt (qt (qn3 (qu rfl (qu rfl (qu rfl (qu rfl (qu rfl ?_)))))))))))
    refine qu rfl (qu rfl (qu rfl (qu rfl (qu rfl (qu rfl (qn rfl (qt (d9 (B5 rfl (ws 3009 3073 (qb (d9 (j8 ?_)))))))))))))
    exact f7 (g7 (f7 (f7 (g7 (f7 (eQ hF))))))
   refine qg (K41 u0) rfl rfl (qg (K41 u0) rfl rfl (qg (.val none (.ptr [.int .i64 u0.2.1, .sl 1 (u0.2.2.map V.str)])) rfl rfl (qg (AI u0.2.1) rfl rfl (bk hF fun u5 e5 hF => qG (AB u5) [] (C1 e5) a2i (qg (AB (!u5)) rfl rfl (qr (AB (!u5)) (qr (AB (!u5)) ?_)))))))
   refine p5 30 hF rfl (fun hF => ?_) (fun hF => ?_)
   ·
    refine qn6 (qt (qt (qn3 (qu rfl (qu rfl (qu rfl (qu rfl (qu rfl ?_))))))))
    refine qu rfl (qu rfl (qu rfl (qu rfl (qu rfl (qu rfl (qn rfl (qt (d9 (B5 rfl (ws 3009 3073 (qb (d9 (j8 ?_)))))))))))))
    exact f7 (g7 (f7 (f7 (g7 (f7 (eQ hF))))))
   refine qg (K41 u0) rfl rfl (qg (K41 u0) rfl rfl (qg (K42 u0) rfl rfl (qg (K44 u0) rfl rfl (qg (AI (u0.2.2.length : Int)) rfl (j0 rfl) (qg (AB (decide ((4 : Int) < (u0.2.2.length : Int)))) rfl rfl (qr (AB (decide ((4 : Int) < (u0.2.2.length : Int)))) (qr (AB (decide ((4 : Int) < (u0.2.2.length : Int)))) ?_)))))))
   refine p5 38 hF rfl (fun hF => ?_) (fun hF => ?_)
   ·
    refine qn3 (qu rfl (qu rfl (qu rfl (qu rfl (qu rfl (qu rfl (qu rfl (qu rfl (qu rfl (qu rfl (qu rfl (qn rfl (qt ?_)))))))))))))
    exact d9 (B5 rfl (ws 3009 3073 (qb (d9 (j8 (f7 (g7 (f7 (f7 (g7 (f7 (eQ hF))))))))))))
   refine qg (AI x5) rfl rfl (qg (AB (decide ((0 : Int) < x5))) rfl rfl (qg (AB (decide ((0 : Int) < x5))) rfl rfl ?_))
   refine p5 41 hF rfl (fun hF => ?_) (fun hF => ?_)
   ·
    refine qg (K43 v0) rfl rfl (qg (AI x5) rfl rfl (qg (AI (w64 (x5 - 1))) rfl rfl (bk hF fun u6 e6 hF => qg (.val none (.ptr [.str u6.1, .int .i64 u6.2.1, .sl 1 (u6.2.2.map V.str)])) rfl (j4 rfl rfl e6 rfl) (qg (.val none (.ptr [.str u6.1, .int .i64 u6.2.1, .sl 1 (u6.2.2.map V.str)])) rfl rfl (qg (AS u6.1) rfl rfl (qg (K41 u0) rfl rfl (qg (K41 u0) rfl rfl (qg (K41 u0) rfl rfl (qg (AS u0.1) rfl rfl (qg (AB (!Op.bytesLess u6.1 u0.1)) rfl rfl (qg (AB (!Op.bytesLess u6.1 u0.1)) rfl rfl (qr (AB (!Op.bytesLess u6.1 u0.1)) (d9 ?_)))))))))))))
    refine cF hF (fun hF => ws 3009 3073 (qb (d9 (j8 (f7 (g7 (f7 (f7 (g7 (f7 (eQ hF))))))))))) fun hF => g9 (f5 ?_)
    refine ar (l' := [(K40 v0), (3, AI x5), (4, .val none (K3z u0))]) (L := []) [0, 3, 4] [] 1 ⟨rfl, hF⟩
   refine qn8 (qn3 (qg (AB false) rfl rfl (qb (d9 (H2 rfl (g9 (f5 ?_)))))))
   refine ar (l' := [(K40 v0), (3, AI x5), (4, .val none (K3z u0))]) (L := []) [0, 3, 4] [] 1 ⟨rfl, hF⟩
  rintro s' ⟨rfl, hF⟩
  unfold O5 at hF
  refine ws 1 65 (qr (AI 0) (d9 (j7 ?_)))
  refine wr (l' := [(K40 v0), (3, AI x5), (4, .val none (K3z u0)), (5, AI 0)]) (L := []) [0, 3, 4, 5] [] 1 ?_
  refine y5 (O8 v0 u0 x5 k2) (fun s : Int => mkS [(K40 v0), (3, AI x5), (4, .val none (K3z u0)), (5, AI s)] (fo []) 1) hF ?_
  rintro k4 x9 hF
  rw [O8] at hF
  try dsimp only
  refine i8 (ws 1 449 (qr (AI x9) (qr (K41 u0) (qr (K41 u0) (qr (K42 u0) (qr (K44 u0) (qp (AI (u0.2.2.length : Int)) (j0 rfl) (qr (AB (decide (x9 < (u0.2.2.length : Int)))) (d9 ?_)))))))))
  refine cF hF (fun hF => ?_) fun hF => ?_
  ·
   refine g9 (f5 (i8 (j7 (ws 449 1089 (qr (K43 v0) (qr (K41 u0) (qr (K41 u0) (qr (K42 u0) (qr (K44 u0) (qr (AI x9) (bk hF fun u7 e7 hF => qp (.val none (.ptr [.str u7])) (j4 rfl rfl e7 rfl) (qr (AS u7) (bk hF fun u8 e8 hF => qC (AI u8) [] (b0I e8) c4W (qr (AI u8) (d9 ?_)))))))))))))))
   refine ws 1089 3393 (qr (AI u8) (qr (AB (decide (u8 < (0 : Int)))) (qr (AB (decide (u8 < (0 : Int)))) ?_)))
   refine p5 75 hF rfl (fun hF => ?_) (fun hF => ?_)
   ·
    refine qn8 (qn2 (qt (qt (qn3 (qu rfl (qu rfl (qu rfl (qu rfl (qu rfl (qu rfl (qu rfl (qu rfl (qu rfl ?_)))))))))))))
    refine qu rfl (qu rfl (qu rfl (qu rfl (qu rfl (qu rfl (qu rfl (qn rfl (qt (d9 (B5 rfl (ws 3393 3457 (qb (d9 ?_)))))))))))))
    exact j8 (g7 (f7 (f7 (g7 (g7 (f7 (f7 (g7 (f7 (eQ hF))))))))))
   refine qg (K43 v0) rfl rfl (qg (AI u8) rfl rfl (bk hF fun u9 e9 hF => qg (.val none (.ptr [.str u9.1, .int .i64 u9.2.1, .sl 1 (u9.2.2.map V.str)])) rfl (j4 rfl rfl e9 rfl) (qg (.val none (.ptr [.int .i64 u9.2.1, .sl 1 (u9.2.2.map V.str)])) rfl rfl (qg (AI u9.2.1) rfl rfl (qg (K41 u0) rfl rfl (qg (K41 u0) rfl rfl (qg (.val none (.ptr [.int .i64 u0.2.1, .sl 1 (u0.2.2.map V.str)])) rfl rfl (qg (AI u0.2.1) rfl rfl (qg (AB (decide (u0.2.1 ≤ u9.2.1))) rfl rfl (qr (AB (decide (u0.2.1 ≤ u9.2.1))) (qr (AB (decide (u0.2.1 ≤ u9.2.1))) ?_)))))))))))
   refine p5 87 hF rfl (fun hF => ?_) (fun hF => ?_)
   ·
    refine qn3 (qu rfl (qu rfl (qu rfl (qu rfl (qu rfl (qu rfl (qu rfl (qu rfl (qu rfl (qu rfl (qu rfl (qu rfl (qu rfl ?_)))))))))))))
    refine qu rfl (qu rfl (qu rfl (qn rfl (qt (d9 (B5 rfl (ws 3393 3457 (qb (d9 (j8 (g7 (f7 (f7 ?_)))))))))))))
    exact g7 (g7 (f7 (f7 (g7 (f7 (eQ hF))))))
   refine qg (AI x9) rfl rfl (qg (AB (decide ((0 : Int) < x9))) rfl rfl (qg (AB (decide ((0 : Int) < x9))) rfl rfl ?_))
   refine p5 90 hF rfl (fun hF => ?_) (fun hF => ?_)
   ·
    refine qg (K41 u0) rfl rfl (qg (K41 u0) rfl rfl (qg (K42 u0) rfl rfl (qg (K44 u0) rfl rfl (qg (AI x9) rfl rfl (qg (AI (w64 (x9 - 1))) rfl rfl (bk hF fun u10 e10 hF => qg (.val none (.ptr [.str u10])) rfl (j4 rfl rfl e10 rfl) (qg (AS u10) rfl rfl (qg (K41 u0) rfl rfl (qg (K41 u0) rfl rfl (qg (K42 u0) rfl rfl (qg (K44 u0) rfl rfl (qg (AI x9) rfl rfl (bk hF fun u11 e11 hF => ?_)))))))))))))
    refine qg (.val none (.ptr [.str u11])) rfl (j4 rfl rfl e11 rfl) (qg (AS u11) rfl rfl (qg (AB (!Op.bytesLess u10 u11)) rfl rfl (qg (AB (!Op.bytesLess u10 u11)) rfl rfl (qr (AB (!Op.bytesLess u10 u11)) (d9 ?_)))))
    refine cF hF (fun hF => ws 3393 3457 (qb (d9 (j8 (g7 (f7 (f7 (g7 (g7 (f7 (f7 (g7 (f7 (eQ hF)))))))))))))) fun hF => ?_
    refine g9 (p6 (f5 (y4 3393 3585 rfl rfl (qr (AI x9) (qr (AI (w64 (x9 + 1))) (qr (AI (w64 (x9 + 1))) (d9 (f5 ?_))))))))
    refine ar (l' := [(K40 v0), (3, AI x5), (4, .val none (K3z u0)), (5, AI (w64 (x9 + 1)))]) (L := []) [0, 3, 4, 5] [] 1 ⟨_, by rfl, hF⟩
   refine qn8 (qn8 (qg (AB false) rfl rfl (qb (d9 (H2 rfl (g9 (p6 (f5 (y4 3393 3585 rfl rfl ?_)))))))))
   refine qr (AI x9) (qr (AI (w64 (x9 + 1))) (qr (AI (w64 (x9 + 1))) (d9 (f5 ?_))))
   refine ar (l' := [(K40 v0), (3, AI x5), (4, .val none (K3z u0)), (5, AI (w64 (x9 + 1)))]) (L := []) [0, 3, 4, 5] [] 1 ⟨_, by rfl, hF⟩
  refine z8 (j5 (j5 (s9 (p6 (f5 (y4 449 641 rfl rfl (qr (AI x5) (qr (AI (w64 (x5 + 1))) (qr (AI (w64 (x5 + 1))) (d9 (f5 ?_)))))))))))
  refine ar (l' := [(K40 v0), (3, AI (w64 (x5 + 1)))]) (L := []) [0, 3] [] 1 ⟨_, by rfl, hF⟩
 exact z8 (j5 (j5 (s9 (f5 (ws 257 513 (qr (K43 v0) (qp (AI (v0.length : Int)) (j0 rfl) (qr (AB (decide ((v0.length : Int) ≤ (24 : Int)))) (qr (AB (decide ((v0.length : Int) ≤ (24 : Int)))) (rR hF))))))))))

def c22 : MC := (sr [pT 2 (.mv cf)] (sr [mvt 3 0, pT 4 (.nck t3), pT 5 (.fad t4 0), dT 6 60 [t5], mvt 7 6, nT 8 7 t0, kT 9 7 (.nck t8), kT 10 7 (.fad t9 6), kT 11 7 (.ld t10 1 false), ⟨(some 12), (some (7, true)), (.call true 61 [t11])⟩, pT 13 (.pick t7 t12 cf), mvt 14 13, nT 15 14 t0, kT 16 14 (.nck t15), kT 17 14 (.fad t16 7), ⟨(some 18), (some (14, true)), (.call true 62 [t17])⟩, pT 19 (.pick t14 t18 cf), mvt 20 19, nT 21 20 t0, kT 22 20 (.nck t21), kT 23 20 (.fad t22 9), kT 24 20 (.ld t23 1 false), ⟨(some 25), (some (20, true)), (.call true 63 [t24])⟩, pT 26 (.pick t20 t25 cf), mvt 27 26, nT 28 27 t0, kT 29 27 (.nck t28), kT 30 27 (.fad t29 10), kT 31 27 (.ld t30 1 false), ⟨(some 32), (some (27, true)), (.call true 64 [t31])⟩, pT 33 (.pick t27 t32 cf), mvt 34 33, nT 35 34 t0, kT 36 34 (.nck t35), kT 37 34 (.fad t36 11), kT 38 34 (.ld t37 1 false), ⟨(some 39), (some (34, true)), (.call true 65 [t38])⟩, pT 40 (.pick t34 t39 cf), mvt 41 40, nT 42 41 t0, kT 43 41 (.nck t42), kT 44 41 (.fad t43 12), kT 45 41 (.ld t44 1 false), ⟨(some 46), (some (41, true)), (.call true 66 [t45])⟩, pT 47 (.pick t41 t46 cf), mvt 48 47, nT 49 48 t0, kT 50 48 (.nck t49), kT 51 48 (.fad t50 13), kT 52 48 (.ld t51 1 false), ⟨(some 53), (some (48, true)), (.call true 67 [t52])⟩, pT 54 (.pick t48 t53 cf), mvt 55 54, nT 56 55 t0, kT 57 55 (.nck t56), kT 58 55 (.fad t57 14), kT 59 55 (.ld t58 1 false), ⟨(some 60), (some (55, true)), (.call true 68 [t59])⟩, pT 61 (.pick t55 t60 cf), mvt 2 61] .ret))
theorem c7B : IsF Tryz.prog 22 c22 [(.tmp 2)] := ⟨by kernel_rfl, by kernel_rfl⟩

def a2s (v0 : y8) : Option (Bool) :=
 ((a2o (v0.1, v0.2.1, v0.2.2.1, v0.2.2.2.1, v0.2.2.2.2.1, v0.2.2.2.2.2.1)).bind fun u0 => (bif u0 then ((a2u v0.2.2.2.2.2.2.1).bind fun u1 => (bif u1 then ((a2x (v0.2.2.2.2.2.2.2.1, v0.2.2.2.2.2.2.2.2.1)).bind fun u2 => (bif u2 then ((a2A v0.2.2.2.2.2.2.2.2.2.1).bind fun u3 => (bif u3 then ((a2h v0.2.2.2.2.2.2.2.2.2.2.1).bind fun u4 => (bif u4 then ((a2n v0.2.2.2.2.2.2.2.2.2.2.2.1).bind fun u5 => (bif u5 then ((a2q v0.2.2.2.2.2.2.2.2.2.2.2.2.1).bind fun u6 => (bif u6 then ((a1p v0.2.2.2.2.2.2.2.2.2.2.2.2.2.1).bind fun u7 => (bif u7 then ((V4 v0.2.2.2.2.2.2.2.2.2.2.2.2.2.2).bind fun u8 => some u8)
 else some false))
 else some false))
 else some false))
 else some false))
 else some false))
 else some false))
 else some false))
 else some false))
@[simp] abbrev K45 (v0 : y8) : AV := .val none (.ptr [.str v0.1, .sl 1 (v0.2.1.map vI), .sl 1 (v0.2.2.1.map vI), .int .i64 v0.2.2.2.1, .int .i64 v0.2.2.2.2.1, .sl 1 (v0.2.2.2.2.2.1.map (eL 1 vI)), .sl 2 (v0.2.2.2.2.2.2.1.map j3), .str v0.2.2.2.2.2.2.2.1, .sl 2 (v0.2.2.2.2.2.2.2.2.1.map j3), .sl 1 (v0.2.2.2.2.2.2.2.2.2.1.map (eL 1 vI)), .sl 3 (v0.2.2.2.2.2.2.2.2.2.2.1.map p3), .sl 2 (v0.2.2.2.2.2.2.2.2.2.2.2.1.map j3), .sl 6 (v0.2.2.2.2.2.2.2.2.2.2.2.2.1.map A1), .sl 5 (v0.2.2.2.2.2.2.2.2.2.2.2.2.2.1.map p8), .sl 3 (v0.2.2.2.2.2.2.2.2.2.2.2.2.2.2.map p9)])
@[simp] abbrev K46 (v0 : y8) : List V := [.sl 2 (v0.2.2.2.2.2.2.1.map j3), .str v0.2.2.2.2.2.2.2.1, .sl 2 (v0.2.2.2.2.2.2.2.2.1.map j3), .sl 1 (v0.2.2.2.2.2.2.2.2.2.1.map (eL 1 vI)), .sl 3 (v0.2.2.2.2.2.2.2.2.2.2.1.map p3), .sl 2 (v0.2.2.2.2.2.2.2.2.2.2.2.1.map j3), .sl 6 (v0.2.2.2.2.2.2.2.2.2.2.2.2.1.map A1), .sl 5 (v0.2.2.2.2.2.2.2.2.2.2.2.2.2.1.map p8), .sl 3 (v0.2.2.2.2.2.2.2.2.2.2.2.2.2.2.map p9)]
@[simp] abbrev K47 (v0 : y8) : List V := [.sl 1 (v0.2.2.2.2.2.2.2.2.2.1.map (eL 1 vI)), .sl 3 (v0.2.2.2.2.2.2.2.2.2.2.1.map p3), .sl 2 (v0.2.2.2.2.2.2.2.2.2.2.2.1.map j3), .sl 6 (v0.2.2.2.2.2.2.2.2.2.2.2.2.1.map A1), .sl 5 (v0.2.2.2.2.2.2.2.2.2.2.2.2.2.1.map p8), .sl 3 (v0.2.2.2.2.2.2.2.2.2.2.2.2.2.2.map p9)]
@[simp] def b3K (r : Bool) : RV := .one (.one (.val (.bool r)))
theorem b3c {v0 : y8} {r : Bool} (hF : a2s v0 = some r) : Con Tryz.prog 22 [.ptr [.str v0.1, .sl 1 (v0.2.1.map vI), .sl 1 (v0.2.2.1.map vI), .int .i64 v0.2.2.2.1, .int .i64 v0.2.2.2.2.1, .sl 1 (v0.2.2.2.2.2.1.map (eL 1 vI)), .sl 2 (v0.2.2.2.2.2.2.1.map j3), .str v0.2.2.2.2.2.2.2.1, .sl 2 (v0.2.2.2.2.2.2.2.2.1.map j3), .sl 1 (v0.2.2.2.2.2.2.2.2.2.1.map (eL 1 vI)), .sl 3 (v0.2.2.2.2.2.2.2.2.2.2.1.map p3), .sl 2 (v0.2.2.2.2.2.2.2.2.2.2.2.1.map j3), .sl 6 (v0.2.2.2.2.2.2.2.2.2.2.2.2.1.map A1), .sl 5 (v0.2.2.2.2.2.2.2.2.2.2.2.2.2.1.map p8), .sl 3 (v0.2.2.2.2.2.2.2.2.2.2.2.2.2.2.map p9)]] (b3K r) := by
 unfold a2s at hF
 refine p7 c7B.1 fun N => ?_
 refine ws 0 64 (qb (d9 (ws 64 3904 (qr (K45 v0) (qr (K45 v0) (qr (K45 v0) (bk hF fun u0 e0 hF => qC (AB u0) [] (b7l (K46 v0) (b4H e0)) c8b (qr (AB u0) ?_))))))))
 refine p5 7 hF rfl (fun hF => ?_) (fun hF => ?_)
 ·
  refine qg (K45 v0) rfl rfl (qg (K45 v0) rfl rfl (qg (.val none (.ptr (K46 v0))) rfl rfl (qg (AL 2 (v0.2.2.2.2.2.2.1.map j3)) rfl rfl (bk hF fun u1 e1 hF => qG (AB u1) [] (b3l e1) c6V (qr (AB u1) (qr (AB u1) ?_))))))
  refine p5 14 hF rfl (fun hF => ?_) (fun hF => ?_)
  ·
   refine qg (K45 v0) rfl rfl (qg (K45 v0) rfl rfl (qg (.val none (.ptr [.str v0.2.2.2.2.2.2.2.1, .sl 2 (v0.2.2.2.2.2.2.2.2.1.map j3), .sl 1 (v0.2.2.2.2.2.2.2.2.2.1.map (eL 1 vI)), .sl 3 (v0.2.2.2.2.2.2.2.2.2.2.1.map p3), .sl 2 (v0.2.2.2.2.2.2.2.2.2.2.2.1.map j3), .sl 6 (v0.2.2.2.2.2.2.2.2.2.2.2.2.1.map A1), .sl 5 (v0.2.2.2.2.2.2.2.2.2.2.2.2.2.1.map p8), .sl 3 (v0.2.2.2.2.2.2.2.2.2.2.2.2.2.2.map p9)])) rfl rfl (bk hF fun u2 e2 hF => qG (AB u2) [] (b7l (K47 v0) (b3o e2)) c7k (qr (AB u2) (qr (AB u2) ?_)))))
   refine p5 20 hF rfl (fun hF => ?_) (fun hF => ?_)
   ·
    refine qg (K45 v0) rfl rfl (qg (K45 v0) rfl rfl (qg (.val none (.ptr (K47 v0))) rfl rfl (qg (AL 1 (v0.2.2.2.2.2.2.2.2.2.1.map (eL 1 vI))) rfl rfl (bk hF fun u3 e3 hF => qG (AB u3) [] (b3p e3) c8i (qr (AB u3) (qr (AB u3) ?_))))))
    refine p5 27 hF rfl (fun hF => ?_) (fun hF => ?_)
    ·
     refine qg (K45 v0) rfl rfl (qg (K45 v0) rfl rfl (qg (.val none (.ptr [.sl 3 (v0.2.2.2.2.2.2.2.2.2.2.1.map p3), .sl 2 (v0.2.2.2.2.2.2.2.2.2.2.2.1.map j3), .sl 6 (v0.2.2.2.2.2.2.2.2.2.2.2.2.1.map A1), .sl 5 (v0.2.2.2.2.2.2.2.2.2.2.2.2.2.1.map p8), .sl 3 (v0.2.2.2.2.2.2.2.2.2.2.2.2.2.2.map p9)])) rfl rfl (qg (AL 3 (v0.2.2.2.2.2.2.2.2.2.2.1.map p3)) rfl rfl (bk hF fun u4 e4 hF => qG (AB u4) [] (b3t e4) c7p (qr (AB u4) (qr (AB u4) ?_))))))
     refine p5 34 hF rfl (fun hF => ?_) (fun hF => ?_)
     ·
      refine qg (K45 v0) rfl rfl (qg (K45 v0) rfl rfl (qg (.val none (.ptr [.sl 2 (v0.2.2.2.2.2.2.2.2.2.2.2.1.map j3), .sl 6 (v0.2.2.2.2.2.2.2.2.2.2.2.2.1.map A1), .sl 5 (v0.2.2.2.2.2.2.2.2.2.2.2.2.2.1.map p8), .sl 3 (v0.2.2.2.2.2.2.2.2.2.2.2.2.2.2.map p9)])) rfl rfl (qg (AL 2 (v0.2.2.2.2.2.2.2.2.2.2.2.1.map j3)) rfl rfl (bk hF fun u5 e5 hF => qG (AB u5) [] (b2S e5) c6X (qr (AB u5) (qr (AB u5) ?_))))))
      refine p5 41 hF rfl (fun hF => ?_) (fun hF => ?_)
      ·
       refine qg (K45 v0) rfl rfl (qg (K45 v0) rfl rfl (qg (.val none (.ptr [.sl 6 (v0.2.2.2.2.2.2.2.2.2.2.2.2.1.map A1), .sl 5 (v0.2.2.2.2.2.2.2.2.2.2.2.2.2.1.map p8), .sl 3 (v0.2.2.2.2.2.2.2.2.2.2.2.2.2.2.map p9)])) rfl rfl (qg (AL 6 (v0.2.2.2.2.2.2.2.2.2.2.2.2.1.map A1)) rfl rfl (bk hF fun u6 e6 hF => qG (AB u6) [] (b4x e6) c7w (qr (AB u6) (qr (AB u6) ?_))))))
       refine p5 48 hF rfl (fun hF => ?_) (fun hF => ?_)
       ·
        refine qg (K45 v0) rfl rfl (qg (K45 v0) rfl rfl (qg (.val none (.ptr [.sl 5 (v0.2.2.2.2.2.2.2.2.2.2.2.2.2.1.map p8), .sl 3 (v0.2.2.2.2.2.2.2.2.2.2.2.2.2.2.map p9)])) rfl rfl (qg (AL 5 (v0.2.2.2.2.2.2.2.2.2.2.2.2.2.1.map p8)) rfl rfl (bk hF fun u7 e7 hF => qG (AB u7) [] (b3X e7) c8I (qr (AB u7) (qr (AB u7) (p5 55 hF rfl (fun hF => qg (K45 v0) rfl rfl (qg (K45 v0) rfl rfl (qg (.val none (.ptr [.sl 3 (v0.2.2.2.2.2.2.2.2.2.2.2.2.2.2.map p9)])) rfl rfl (qg (AL 3 (v0.2.2.2.2.2.2.2.2.2.2.2.2.2.2.map p9)) rfl rfl (bk hF fun u8 e8 hF => qG (AB u8) [] (b2T e8) c8z (qr (AB u8) (qr (AB u8) (rR hF)))))))) fun hF => ?_)))))))
        exact qn5 (qb (qb (rR hF)))
       exact qn5 (qb (qb (qn rfl (qn4 (qb (qb (rR hF)))))))
      exact qn5 (qb (qb (qn rfl (qn4 (qb (qb (qn2 (qn3 (qb (qb (rR hF)))))))))))
     refine qn5 (qb (qb (qn rfl (qn4 (qb (qb (qn2 (qn3 (qb (qb (qn3 ?_)))))))))))
     exact qn2 (qb (qb (rR hF)))
    refine qn5 (qb (qb (qn rfl (qn4 (qb (qb (qn2 (qn3 (qb (qb (qn3 ?_)))))))))))
    exact qn2 (qb (qb (qn4 (qn rfl (qb (qb (rR hF)))))))
   refine qn5 (qb (qb (qn rfl (qn4 (qb (qb (qn2 (qn3 (qb (qb (qn3 ?_)))))))))))
   exact qn2 (qb (qb (qn4 (qn rfl (qb (qb (qn rfl (qn rfl (qn rfl (qn rfl (qn rfl (qb (qb (rR hF))))))))))))))
  refine qn4 (qb (qb (qn2 (qn3 (qb (qb (qn3 (qn2 (qb (qb (qn4 ?_)))))))))))
  refine qn rfl (qb (qb (qn rfl (qn rfl (qn rfl (qn rfl (qn rfl (qb (qb (qn5 (qb ?_)))))))))))
  exact qb (qn5 (qb (qb (rR hF))))
 refine qn5 (qb (qb (qn rfl (qn3 (qb (qb (qn3 (qn2 (qb (qb (qn4 ?_)))))))))))
 refine qn rfl (qb (qb (qn rfl (qn rfl (qn rfl (qn rfl (qn rfl (qb (qb (qn5 (qb ?_)))))))))))
 exact qb (qn5 (qb (qb (qn5 (qb (qb (rR hF)))))))

def c23 : MC := (sr [pT 2 (.mv (.c (.str [])))] (.seq (sr [mvt 8 0, bT 9 .eql t8 (ci 0)] (.cond t9 (sr [pT 2 (.mv (.c (.str [48])))] .ret) .skip)) (sr [rg 10 (.f (.bsl 1 [])), mvt 3 10] (.seq (sr [mvt 11 0, mvt 4 11] (.block 0 (.loop (.seq (sr [mvt 12 4, bT 13 .neq t12 (ci 0)] (cx t13 0)) (.seq (.block 1 (sr [mvt 16 4, bT 17 .rem t16 (ci 10), mvt 5 17] (.seq (sr [mvt 18 5, bT 19 .lss t18 (ci 0)] (.cond t19 (.reg [mvt 20 5, pT 21 (.neg t20), mvt 5 21]) .skip)) (.reg [mvt 22 3, mvt 23 5, bT 24 .add (ci 48) t23, pT 25 (.conv .u8 t24), rg 26 (.f (.bsl 1 [t25])), rg 27 (.f (.app t22 t26 1 1 true)), mvt 3 27])))) (.reg [mvt 14 4, bT 15 .quo t14 (ci 10), mvt 4 15])))))) (.seq (sr [mvt 28 0, bT 29 .lss t28 (ci 0)] (.cond t29 (.reg [mvt 30 3, rg 31 (.f (.bsl 1 [(.c (.int .u8 45))])), rg 32 (.f (.app t30 t31 1 1 true)), mvt 3 32]) .skip)) (sr [rg 33 (.f (.bsl 1 [])), mvt 6 33] (.seq (sr [mvt 34 3, zT 35 34, bT 36 .sub t35 (ci 1), mvt 7 36] (.block 2 (.loop (.seq (sr [mvt 37 7, bT 38 .geq t37 (ci 0)] (cx t38 2)) (.seq (.block 3 (.reg [mvt 41 6, mvt 42 3, mvt 43 7, iT 44 42 43 1, lT 45 44, rg 46 (.f (.bsl 1 [t45])), rg 47 (.f (.app t41 t46 1 1 true)), mvt 6 47])) (.reg [mvt 39 7, bT 40 .sub t39 (ci 1), mvt 7 40])))))) (sr [mvt 48 6, pT 49 (.bts t48), mvt 2 49] .ret))))))))
theorem c8n : IsF Tryz.prog 23 c23 [(.tmp 2)] := ⟨by kernel_rfl, by kernel_rfl⟩

def R3 (x4 : Int) (x5 : List Int) (k0 : Int × (List Int) → Option (List UInt8)) (x6 : Int) : Option (List UInt8) :=
 (need (room (x5.length + [IntKind.wrap .u8 (w64 (48 + x6))].length) 1) (k0 (w64 (Int.tdiv x4 10), x5 ++ [IntKind.wrap .u8 (w64 (48 + x6))])))
def E7 (x7 : List Int) (k1 : Int × (List Int) → Option (List UInt8)) : Int × (List Int) → Option (List UInt8)
 | (x10, x11) => (bif (decide ((0 : Int) ≤ x10)) then ((ix x7 x10).bind fun u2 => (need (room (x11.length + [u2].length) 1) (k1 (w64 (x10 - 1), x11 ++ [u2]))))
 else some (a0d x11))
def R4 (x7 : List Int) : Option (List UInt8) :=
 loop (E7 x7) (w64 ((x7.length : Int) - 1), [])
def Y8 (v0 : Int) (k0 : Int × (List Int) → Option (List UInt8)) : Int × (List Int) → Option (List UInt8)
 | (x4, x5) => (bif (decide (x4 ≠ (0 : Int))) then (bif (decide (Int.tmod x4 10 < (0 : Int))) then R3 x4 x5 k0 (w64 (0 - (Int.tmod x4 10)))
 else R3 x4 x5 k0 (Int.tmod x4 10))
 else (bif (decide (v0 < (0 : Int))) then (need (room (x5.length + [(45 : Int)].length) 1) (R4 (x5 ++ [(45 : Int)])))
 else R4 x5))
def a0C (v0 : Int) : Option (List UInt8) :=
 (bif (decide (v0 = (0 : Int))) then some [48]
 else loop (Y8 v0) (v0, []))
@[simp] abbrev K4c (x5 : List Int) : Nat × Root := (0, .row true 1 (x5.map (V.int .u8)))
@[simp] abbrev K48 (x6 : Int) (x5 : List Int) : List (Nat × Root) := [(257, .row true 1 ([IntKind.wrap .u8 (w64 (48 + x6))].map (V.int .u8))), (K4c x5)]
@[simp] abbrev K49 (x5 : List Int) : List (Nat × Root) := [(321, .row true 1 ([(45 : Int)].map (V.int .u8))), (K4c x5)]
@[simp] abbrev K4d (x7 : List Int) : Nat × Root := (0, .row true 1 (x7.map (V.int .u8)))
@[simp] abbrev K4a (x7 : List Int) : List (Nat × Root) := [(1, .row true 1 (([] : List Int).map (V.int .u8))), (K4d x7)]
@[simp] abbrev K4b (u2 : Int) (x11 : List Int) (x7 : List Int) : List (Nat × Root) := [(450, .row true 1 ([u2].map (V.int .u8))), (1, .row true 1 (x11.map (V.int .u8))), (K4d x7)]
@[simp] def b1M (r : List UInt8) : RV := .one (.one (.val (.str r)))
theorem b2b {v0 : Int} {r : List UInt8} (hF : a0C v0 = some r) : Con Tryz.prog 23 [.int .i64 v0] (b1M r) := by
 unfold a0C at hF
 refine p7 c8n.1 fun N => ?_
 refine ws 0 64 (qr (AS []) (d9 (i8 (ws 64 192 (qr (AI v0) (qr (AB (decide (v0 = (0 : Int)))) (d9 (cF hF (fun hF => ws 192 256 (qr (AS [48]) (d9 (j8 (f7 (eQ hF)))))) fun hF => ?_))))))))
 refine g9 (f5 (ws 192 320 (qf (.sl 192 0 0) [(192, .row true 1 (([] : List Int).map (V.int .u8)))] (by simp [List.take_of_length_le]) (qr (.sl 192 0 0) (d9 (i8 (ws 320 448 (qr (AI v0) (qr (AI v0) (d9 (j7 ?_)))))))))))
 refine wr (l' := [(0, AI v0), (3, .sl 0 0 0), (4, AI v0)]) (L := [(0, .row true 1 (([] : List Int).map (V.int .u8)))]) [0, 3, 4] [(192, 0)] 1 ?_
 refine y5 (Y8 v0) (fun s : Int × (List Int) => mkS [(0, AI v0), (3, .sl 0 0 s.2.length), (4, AI s.1)] (fo [(0, .row true 1 (s.2.map (V.int .u8)))]) 1) hF ?_
 rintro k0 ⟨x4, x5⟩ hF
 rw [Y8] at hF
 try dsimp only
 refine i8 (ws 1 129 (qr (AI x4) (qr (AB (decide (x4 ≠ (0 : Int)))) (d9 ?_))))
 refine cF hF (fun hF => ?_) fun hF => ?_
 ·
  refine g9 (f5 (i8 (j7 (ws 129 321 (qr (AI x4) (qp (AI (Int.tmod x4 10)) (b6t rfl rfl (by decide)) (qr (AI (Int.tmod x4 10)) (d9 ?_))))))))
  refine b0D (fun s' => ∃ (x6 : Int), s' = mkS [(0, AI v0), (3, .sl 0 0 x5.length), (4, AI x4), (5, AI x6)] (fo [(K4c x5)]) 1 ∧ R3 x4 x5 k0 x6 = some r) ?_ ?_
  ·
   refine ws 321 449 (qr (AI (Int.tmod x4 10)) (qr (AB (decide (Int.tmod x4 10 < (0 : Int)))) (d9 ?_)))
   refine cF hF (fun hF => ?_) fun hF => ?_
   ·
    refine y4 449 641 rfl rfl (qr (AI (Int.tmod x4 10)) (qr (AI (w64 (0 - (Int.tmod x4 10)))) (qr (AI (w64 (0 - (Int.tmod x4 10)))) (d9 (f5 ?_)))))
    refine ar (l' := [(0, AI v0), (3, .sl 0 0 x5.length), (4, AI x4), (5, AI (w64 (0 - (Int.tmod x4 10))))]) (L := [(K4c x5)]) [0, 3, 4, 5] [(0, 0)] 1 ⟨_, rfl, hF⟩
   refine g9 (f5 ?_)
   refine ar (l' := [(0, AI v0), (3, .sl 0 0 x5.length), (4, AI x4), (5, AI (Int.tmod x4 10))]) (L := [(K4c x5)]) [0, 3, 4, 5] [(0, 0)] 1 ⟨_, rfl, hF⟩
  rintro s' ⟨x6, rfl, hF⟩
  unfold R3 at hF
  refine y4 1 449 rfl rfl (qr (.sl 0 0 x5.length) (qr (AI x6) (qr (AI (w64 (48 + x6))) (qr (.val none (.int .u8 (IntKind.wrap .u8 (w64 (48 + x6))))) (qf (.sl 257 0 ([IntKind.wrap .u8 (w64 (48 + x6))].length)) (K48 x6 x5) (by simp [List.take_of_length_le]) (nk hF fun g0 hF => qf (.sl 321 0 ((x5 ++ [IntKind.wrap .u8 (w64 (48 + x6))]).length)) ((321, .row true 1 ((x5 ++ [IntKind.wrap .u8 (w64 (48 + x6))]).map (V.int .u8))) :: (0, .dead) :: (257, .dead) :: (K48 x6 x5)) (a0b rfl (by simp) rfl rfl (by simp) rfl (by decide) g0 rfl) (qr (.sl 321 0 ((x5 ++ [IntKind.wrap .u8 (w64 (48 + x6))]).length)) (d9 ?_))))))))
  refine p6 (f5 (y4 449 641 rfl rfl (qr (AI x4) (qp (AI (w64 (Int.tdiv x4 10))) (c1B rfl rfl (by decide)) (qr (AI (w64 (Int.tdiv x4 10))) (d9 (f5 ?_)))))))
  refine ar (l' := [(0, AI v0), (3, .sl 0 0 (x5 ++ [IntKind.wrap .u8 (w64 (48 + x6))]).length), (4, AI (w64 (Int.tdiv x4 10)))]) (L := [(0, .row true 1 ((x5 ++ [IntKind.wrap .u8 (w64 (48 + x6))]).map (V.int .u8)))]) [0, 3, 4] [(321, 0)] 1 ⟨_, by rfl, hF⟩
 refine z8 (j5 (j5 (s9 (f5 ?_))))
 refine b0D (fun s' => ∃ (x7 : List Int), s' = mkS [(3, .sl 0 0 x7.length)] (fo [(K4d x7)]) 1 ∧ R4 x7 = some r) ?_ ?_
 ·
  refine ws 129 257 (qr (AI v0) (qr (AB (decide (v0 < (0 : Int)))) (d9 ?_)))
  refine cF hF (fun hF => ?_) fun hF => ?_
  ·
   refine y4 257 513 rfl rfl (qr (.sl 0 0 x5.length) (qf (.sl 321 0 ([(45 : Int)].length)) (K49 x5) (by simp [List.take_of_length_le]) (nk hF fun g1 hF => qf (.sl 385 0 ((x5 ++ [(45 : Int)]).length)) ((385, .row true 1 ((x5 ++ [(45 : Int)]).map (V.int .u8))) :: (0, .dead) :: (321, .dead) :: (K49 x5)) (a0b rfl (by simp) rfl rfl (by simp) rfl (by decide) g1 rfl) (qr (.sl 385 0 ((x5 ++ [(45 : Int)]).length)) (d9 (f5 ?_))))))
   refine ar (l' := [(3, .sl 0 0 (x5 ++ [(45 : Int)]).length)]) (L := [(0, .row true 1 ((x5 ++ [(45 : Int)]).map (V.int .u8)))]) [3] [(385, 0)] 1 ⟨_, rfl, hF⟩
  refine g9 (f5 ?_)
  refine ar (l' := [(3, .sl 0 0 x5.length)]) (L := [(K4c x5)]) [3] [(0, 0)] 1 ⟨_, rfl, hF⟩
 rintro s' ⟨x7, rfl, hF⟩
 unfold R4 at hF
 refine ws 1 129 (qf (.sl 1 0 0) (K4a x7) (by simp [List.take_of_length_le]) (qr (.sl 1 0 0) (d9 (i8 (ws 129 385 (qr (.sl 0 0 x7.length) (qr (AI (x7.length : Int)) (qr (AI (w64 ((x7.length : Int) - 1))) (qr (AI (w64 ((x7.length : Int) - 1))) (d9 (j7 ?_)))))))))))
 refine b8a (l' := [(3, .sl 0 0 x7.length), (6, .sl 1 0 0), (7, AI (w64 ((x7.length : Int) - 1)))]) (L := (K4a x7)) [3, 6, 7] [(1, 1), (0, 0)] 2 (by first | rfl | simp) (by first | rfl | simp) (by decide) (by decide) (by decide) ?_
 refine y5 (E7 x7) (fun s : Int × (List Int) => mkS [(3, .sl 0 0 x7.length), (6, .sl 1 0 s.2.length), (7, AI s.1)] (fo [(1, .row true 1 (s.2.map (V.int .u8))), (K4d x7)]) 2) hF ?_
 rintro k1 ⟨x10, x11⟩ hF
 rw [E7] at hF
 try dsimp only
 refine i8 (ws 2 130 (qr (AI x10) (qr (AB (decide ((0 : Int) ≤ x10))) (d9 ?_))))
 refine cF hF (fun hF => ?_) fun hF => ?_
 ·
  refine g9 (f5 (i8 (j7 (y4 130 642 rfl rfl (qr (.sl 1 0 x11.length) (qr (.sl 0 0 x7.length) (qr (AI x10) (bk hF fun u2 e2 hF => qp (.ptr 0 x10.toNat 0) (B1 rfl (by simp) rfl rfl e2) (qp (.val none (.int .u8 u2)) (b2w rfl rfl (B9 e2).2 rfl rfl) (qf (.sl 450 0 ([u2].length)) (K4b u2 x11 x7) (by simp [List.take_of_length_le]) (nk hF fun g3 hF => qf (.sl 514 0 ((x11 ++ [u2]).length)) ((514, .row true 1 ((x11 ++ [u2]).map (V.int .u8))) :: (1, .dead) :: (450, .dead) :: (K4b u2 x11 x7)) (a0b rfl (by simp) rfl rfl (by simp) rfl (by decide) g3 rfl) (qr (.sl 514 0 ((x11 ++ [u2]).length)) (d9 (p6 (f5 ?_)))))))))))))))
  refine y4 642 834 rfl rfl (qr (AI x10) (qr (AI (w64 (x10 - 1))) (qr (AI (w64 (x10 - 1))) (d9 (f5 ?_)))))
  refine ar (l' := [(3, .sl 0 0 x7.length), (6, .sl 1 0 (x11 ++ [u2]).length), (7, AI (w64 (x10 - 1)))]) (L := [(1, .row true 1 ((x11 ++ [u2]).map (V.int .u8))), (K4d x7)]) [3, 6, 7] [(514, 1), (0, 0)] 2 ⟨_, by rfl, hF⟩
 exact z8 (j5 (j5 (s9 (f5 (ws 130 322 (qr (.sl 1 0 x11.length) (qp (AS (a0d x11)) (b7W rfl (by simp) rfl) (qr (AS (a0d x11)) (rR hF)))))))))

end Go.Ab
