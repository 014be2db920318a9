/- Walks (printed by auto.py, a program of this session's own). -/
import Derived.Test.YtcklbccpfpnmbaaGreatDoorU3
import Derived.Test.YtcklbccpfpnmbaaGreatDoorProg
import Derived.KernelRfl
import Derived.Test.YtcklbccpfpnmbaaGreatDoorSQ
set_option linter.unusedVariables false
set_option linter.unusedSimpArgs false
set_option maxRecDepth 8000
set_option maxHeartbeats 8000000
noncomputable section
namespace Go.Ab
open Go.RowKit Go.Proofs

def c9R : MC := (sr [rg 1 (.f (.box t0)), pT 2 (.mv cf)] (sr [pT 3 (.fad t1 0), lT 4 3, dT 5 119 [t4], mvt 6 5, kT 7 6 (.fad t1 1), kT 8 6 (.ld t7 1 false), ⟨(some 9), (some (6, true)), (.call true 155 [t8])⟩, pT 10 (.pick t6 t9 cf), mvt 11 10, kT 12 11 (.fad t1 2), kT 13 11 (.ld t12 1 false), ⟨(some 14), (some (11, true)), (.call true 155 [t13])⟩, pT 15 (.pick t11 t14 cf), mvt 16 15, kT 17 16 (.fad t1 1), kT 18 16 (.ld t17 1 false), kT 19 16 (.fad t1 2), kT 20 16 (.ld t19 1 false), kT 21 16 (.bin .neq t18 t20), pT 22 (.pick t16 t21 cf), mvt 23 22, kT 24 23 (.fad t1 3), kT 25 23 (.ld t24 1 false), ⟨(some 26), (some (23, true)), (.call true 135 [t25, (ci (-1)), (ci 5)])⟩, pT 27 (.pick t23 t26 cf), mvt 28 27, kT 29 28 (.fad t1 4), kT 30 28 (.ld t29 1 false), ⟨(some 31), (some (28, true)), (.call true 135 [t30, (ci 1), (ci 240)])⟩, pT 32 (.pick t28 t31 cf), mvt 33 32, kT 34 33 (.fad t1 5), kT 35 33 (.ld t34 1 false), ⟨(some 36), (some (33, true)), (.call true 135 [t35, (ci 0), (ci 1000)])⟩, pT 37 (.pick t33 t36 cf), mvt 2 37] .ret))
theorem c5b : IsF Tryz.prog 131 c9R [(.tmp 2)] := ⟨by kernel_rfl, by kernel_rfl⟩

def Y0 (v0 : y6) : Option (Bool) :=
 ((H1 v0.1).bind fun u0 => (bif u0 then ((a0w v0.2.1).bind fun u1 => (bif u1 then ((a0w v0.2.2.1).bind fun u2 => (bif u2 then (bif (decide (v0.2.1 ≠ v0.2.2.1)) then ((B3 v0.2.2.2.1 (-1) 5).bind fun u3 => (bif u3 then ((B3 v0.2.2.2.2.1 1 240).bind fun u4 => (bif u4 then ((B3 v0.2.2.2.2.2 0 1000).bind fun u5 => some u5)
 else some false))
 else some false))
 else some false)
 else some false))
 else some false))
 else some false))
@[simp] abbrev K5e (v0 : y6) : List (Nat × Root) := [(0, .box [AS v0.1, AI v0.2.1, AI v0.2.2.1, AI v0.2.2.2.1, AI v0.2.2.2.2.1, AI v0.2.2.2.2.2])]
@[simp] def a7P (r : Bool) : RV := .one (.one (.val (.bool r)))
theorem a7y {v0 : y6} {r : Bool} (hF : Y0 v0 = some r) : Con Tryz.prog 131 [A1 v0] (a7P r) := by
 unfold Y0 at hF
 refine p7 c5b.1 fun N => ?_
 refine ws 0 128 (qf (.ptr 0 0 0) (K5e v0) (by simp) (qb (d9 (ws 128 2432 (qr (.ptr 0 0 0) (qr (AS v0.1) (bk hF fun u0 e0 hF => qC (AB u0) (K5e v0) (O4 e0) b1n (qr (AB u0) ?_))))))))
 refine p5 6 hF rfl (fun hF => ?_) (fun hF => ?_)
 ·
  refine qg (.ptr 0 0 1) rfl rfl (qg (AI v0.2.1) rfl rfl (bk hF fun u1 e1 hF => qG (AB u1) (K5e v0) (a3L e1) c2r (qr (AB u1) (qr (AB u1) ?_))))
  refine p5 11 hF rfl (fun hF => ?_) (fun hF => ?_)
  ·
   refine qg (.ptr 0 0 2) rfl rfl (qg (AI v0.2.2.1) rfl rfl (bk hF fun u2 e2 hF => qG (AB u2) (K5e v0) (a3L e2) c2r (qr (AB u2) (qr (AB u2) ?_))))
   refine p5 16 hF rfl (fun hF => ?_) (fun hF => ?_)
   ·
    refine qg (.ptr 0 0 1) rfl rfl (qg (AI v0.2.1) rfl rfl (qg (.ptr 0 0 2) rfl rfl (qg (AI v0.2.2.1) rfl rfl (qg (AB (decide (v0.2.1 ≠ v0.2.2.1))) rfl rfl (qr (AB (decide (v0.2.1 ≠ v0.2.2.1))) (qr (AB (decide (v0.2.1 ≠ v0.2.2.1))) ?_))))))
    refine p5 23 hF rfl (fun hF => ?_) (fun hF => ?_)
    ·
     refine qg (.ptr 0 0 3) rfl rfl (qg (AI v0.2.2.2.1) rfl rfl (bk hF fun u3 e3 hF => qG (AB u3) (K5e v0) (B7 e3) a2D (qr (AB u3) (qr (AB u3) ?_))))
     refine p5 28 hF rfl (fun hF => ?_) (fun hF => ?_)
     ·
      refine qg (.ptr 0 0 4) rfl rfl (qg (AI v0.2.2.2.2.1) rfl rfl (bk hF fun u4 e4 hF => qG (AB u4) (K5e v0) (B7 e4) a2D (qr (AB u4) (qr (AB u4) (p5 33 hF rfl (fun hF => qg (.ptr 0 0 5) rfl rfl (qg (AI v0.2.2.2.2.2) rfl rfl (bk hF fun u5 e5 hF => qG (AB u5) (K5e v0) (B7 e5) a2D (qr (AB u5) (qr (AB u5) (rR hF)))))) fun hF => ?_)))))
      exact qn3 (qb (qb (rR hF)))
     exact qn3 (qb (qb (qn3 (qb (qb (rR hF))))))
    exact qn3 (qb (qb (qn3 (qb (qb (qn3 (qb (qb (rR hF)))))))))
   exact qn5 (qb (qb (qn rfl (qn2 (qb (qb (qn3 (qb (qb (qn3 (qb (qb (rR hF)))))))))))))
  refine qn3 (qb (qb (qn3 (qn2 (qb (qb (qn3 (qb (qb (qn3 (qb (qb (qn2 ?_)))))))))))))
  exact qn rfl (qb (qb (rR hF)))
 refine qn3 (qb (qb (qn3 (qb (qb (qn5 (qb (qb (qn3 (qb (qb (qn2 ?_))))))))))))
 exact qn rfl (qb (qb (qn rfl (qn rfl (qn rfl (qb (qb (rR hF))))))))

def c83 : MC := (sr [pT 2 (.mv cf)] (.seq (sr [mvt 5 0, zT 6 5, bT 7 .gtr t6 (ci 12)] (.cond t7 (sr [pT 2 (.mv cf)] .ret) .skip)) (.seq (sr [mvt 8 0, zT 9 8, pT 10 (.mv (ci 0))] (.block 0 (.loop (sr [bT 11 .lss t10 t9] (.seq (cx t11 0) (.seq (.block 1 (sr [mvt 12 10, iT 13 8 10 6, pT 14 (.ld t13 6 true), rg 4 (.f (.alloc [((.str []), (0, false)), ((.int .i64 0), (0, false)), ((.int .i64 0), (0, false)), ((.int .i64 0), (0, false)), ((.int .i64 0), (0, false)), ((.int .i64 0), (0, false))])), mvt 3 12, ⟨none, none, (.f (.st t4 t14 6))⟩] (sr [pF 15 (.ld t4 6 true), dF 16 131 [t15], pF 17 (.not t16), mP 18 t17, mF 19 18 t3, bH 20 18 .gtr t19 (ci 0), mF 21 18 t20, gT 22 21 (.fad t4 0), lG 23 21 22, mT 24 21 t0, mT 25 21 t3, bG 26 21 .sub t25 (ci 1), iG 27 21 24 26 6, gT 28 21 (.fad t27 0), lG 29 21 28, bG 30 21 .leq t23 t29, gF 31 18 (.pick t21 t30 cf), pF 32 (.pick t18 ct t31)] (.cond t32 (sr [pT 2 (.mv cf)] .ret) .skip)))) (.reg [bT 33 .add t10 (ci 1), mvt 10 33]))))))) (sr [pT 2 (.mv ct)] .ret))))
theorem c8C : IsF Tryz.prog 83 c83 [(.tmp 2)] := ⟨by kernel_rfl, by kernel_rfl⟩

def F5 (v0 : List y6) (k0 : Int → Option (Bool)) : Int → Option (Bool)
 | x1 => (bif (decide (x1 < (v0.length : Int))) then ((ix v0 x1).bind fun u0 => ((Y0 u0).bind fun u1 => (bif (!u1) then some false
 else (bif (decide ((0 : Int) < x1)) then ((ix v0 (w64 (x1 - 1))).bind fun u2 => (bif (Op.bytesLess u0.1 u2.1 || decide (u0.1 = u2.1)) then some false
 else k0 (w64 (x1 + 1))))
 else k0 (w64 (x1 + 1))))))
 else some true)
def V6 (v0 : List y6) : Option (Bool) :=
 (bif (decide ((12 : Int) < (v0.length : Int))) then some false
 else loop (F5 v0) 0)
@[simp] abbrev K5f : List (Nat × Root) := [(257, .box [AS [], AI 0, AI 0, AI 0, AI 0, AI 0])]
@[simp] abbrev K5g (u0 : y6) : List (Nat × Root) := ((257, .box [AS u0.1, AI u0.2.1, AI u0.2.2.1, AI u0.2.2.2.1, AI u0.2.2.2.2.1, AI u0.2.2.2.2.2]) :: K5f)
@[simp] abbrev K5h (u2 : y6) : AV := .val none (.ptr [.str u2.1, .int .i64 u2.2.1, .int .i64 u2.2.2.1, .int .i64 u2.2.2.2.1, .int .i64 u2.2.2.2.2.1, .int .i64 u2.2.2.2.2.2])
@[simp] abbrev K5i (v0 : List y6) : V := .sl 6 (v0.map A1)
@[simp] def a6X (r : Bool) : RV := .one (.one (.val (.bool r)))
theorem a6R {v0 : List y6} {r : Bool} (hF : V6 v0 = some r) : Con Tryz.prog 83 [.sl 6 (v0.map A1)] (a6X r) := by
 unfold V6 at hF
 refine p7 c8C.1 fun N => ?_
 refine ws 0 64 (qb (d9 (i8 (ws 64 256 (qr (.val none (K5i v0)) (qp (AI (v0.length : Int)) (j0 rfl) (qr (AB (decide ((12 : Int) < (v0.length : Int)))) (d9 (cF hF (fun hF => ws 256 320 (qb (d9 (j8 (f7 (eQ hF)))))) fun hF => ?_)))))))))
 refine g9 (f5 (i8 (ws 256 448 (qr (.val none (K5i v0)) (qp (AI (v0.length : Int)) (j0 rfl) (qr (AI 0) (d9 (j7 ?_))))))))
 refine wr (l' := [(0, .val none (K5i v0)), (8, .val none (K5i v0)), (9, AI (v0.length : Int)), (10, AI 0)]) (L := []) [0, 8, 9, 10] [] 1 ?_
 refine y5 (F5 v0) (fun s : Int => mkS [(0, .val none (K5i v0)), (8, .val none (K5i v0)), (9, AI (v0.length : Int)), (10, AI s)] (fo []) 1) hF ?_
 rintro k0 x1 hF
 rw [F5] at hF
 try dsimp only
 refine ws 1 65 (qr (AB (decide (x1 < (v0.length : Int)))) (d9 (i8 ?_)))
 refine cF hF (fun hF => ?_) fun hF => ?_
 ·
  refine g9 (f5 (i8 (j7 (ws 65 449 (qr (AI x1) (bk hF fun u0 e0 hF => qp (.val none (.ptr [.str u0.1, .int .i64 u0.2.1, .int .i64 u0.2.2.1, .int .i64 u0.2.2.2.1, .int .i64 u0.2.2.2.2.1, .int .i64 u0.2.2.2.2.2])) (j4 rfl rfl e0 rfl) (qr (.val none (A1 u0)) (qf (.ptr 257 0 0) K5f (by simp) (qr (AI x1) (qf0 (.undef) (K5g u0) (by simp) (d9 (ws 449 1601 (qr (.agg [AS u0.1, AI u0.2.1, AI u0.2.2.1, AI u0.2.2.2.1, AI u0.2.2.2.2.1, AI u0.2.2.2.2.2]) (bk hF fun u1 e1 hF => qC (AB u1) (K5g u0) (a7y e1) c5b ?_))))))))))))))
  refine qr (AB (!u1)) (qr (AB (!u1)) ?_)
  refine p5 18 hF rfl (fun hF => ?_) (fun hF => ?_)
  ·
   refine qn3 (qu rfl (qu rfl (qu rfl (qu rfl (qu rfl (qu rfl (qu rfl (qu rfl (qu rfl (qn rfl (qt (d9 (B5 rfl ?_)))))))))))))
   exact ws 1601 1665 (qb (d9 (j8 (g7 (f7 (f7 (g7 (f7 (eQ hF)))))))))
  refine qg (AI x1) rfl rfl (qg (AB (decide ((0 : Int) < x1))) rfl rfl (qg (AB (decide ((0 : Int) < x1))) rfl rfl ?_))
  refine p5 21 hF rfl (fun hF => ?_) (fun hF => ?_)
  ·
   refine qg (.ptr 257 0 0) rfl rfl (qg (AS u0.1) rfl rfl (qg (.val none (K5i v0)) rfl rfl (qg (AI x1) rfl rfl (qg (AI (w64 (x1 - 1))) rfl rfl (bk hF fun u2 e2 hF => qg (K5h u2) rfl (j4 rfl rfl e2 rfl) (qg (K5h u2) rfl rfl (qg (AS u2.1) rfl rfl (qg (AB (Op.bytesLess u0.1 u2.1 || decide (u0.1 = u2.1))) rfl rfl (qg (AB (Op.bytesLess u0.1 u2.1 || decide (u0.1 = u2.1))) rfl rfl (qr (AB (Op.bytesLess u0.1 u2.1 || decide (u0.1 = u2.1))) (d9 ?_)))))))))))
   refine cF hF (fun hF => ws 1601 1665 (qb (d9 (j8 (g7 (f7 (f7 (g7 (f7 (eQ hF)))))))))) fun hF => ?_
   refine g9 (p6 (f5 (y4 1601 1729 rfl rfl (qr (AI (w64 (x1 + 1))) (qr (AI (w64 (x1 + 1))) (d9 (f5 ?_)))))))
   refine ar (l' := [(0, .val none (K5i v0)), (8, .val none (K5i v0)), (9, AI (v0.length : Int)), (10, AI (w64 (x1 + 1)))]) (L := []) [0, 8, 9, 10] [] 1 ⟨_, by rfl, hF⟩
  refine qn8 (qn rfl (qg (AB false) rfl rfl (qb (d9 (H2 rfl (g9 (p6 (f5 (y4 1601 1729 rfl rfl (qr (AI (w64 (x1 + 1))) (qr (AI (w64 (x1 + 1))) ?_)))))))))))
  refine d9 (f5 ?_)
  refine ar (l' := [(0, .val none (K5i v0)), (8, .val none (K5i v0)), (9, AI (v0.length : Int)), (10, AI (w64 (x1 + 1)))]) (L := []) [0, 8, 9, 10] [] 1 ⟨_, by rfl, hF⟩
 exact z8 (j5 (j5 (s9 (f5 (ws 65 129 (qt (rR hF)))))))

theorem c4n : a1W Tryz.prog 156 = true := by kernel_rfl




theorem c3Q : a1W Tryz.prog 157 = true := by kernel_rfl




def c9s : MC := (sr [rg 2 (.f (.nilrow 1))] (sr [rg 3 (.f (.nilrow 1))] (.seq (sr [mvt 6 0, zT 7 6, pT 8 (.mv (ci 0))] (.block 0 (.loop (sr [bT 9 .lss t8 t7] (.seq (cx t9 0) (.seq (.block 1 (sr [iT 10 6 8 5, pT 11 (.ld t10 5 true), rg 5 (.f (.alloc [((.int .i64 0), (0, false)), ((.str []), (0, false)), ((.str []), (0, false)), ((.int .i64 0), (0, false)), ((.int .i64 0), (0, false))])), ⟨none, none, (.f (.st t5 t11 5))⟩] (.reg [mvt 12 3, pT 13 (.fad t5 1), lT 14 13, rg 15 (.f (.bsl 1 [t14])), rg 16 (.f (.app t12 t15 1 16 true)), mvt 3 16]))) (.reg [bT 17 .add t8 (ci 1), mvt 8 17]))))))) (sr [mvt 18 3, dT 19 156 [t18]] (sr [mvt 20 3, dT 21 157 [t20], mvt 2 21] .ret)))))
theorem c5f : IsF Tryz.prog 132 c9s [(.tmp 2)] := ⟨by kernel_rfl, by kernel_rfl⟩

def R8 (v0 : List n9) (k0 : Int × (List (List UInt8)) → Option (List (List UInt8))) : Int × (List (List UInt8)) → Option (List (List UInt8))
 | (x2, x3) => (bif (decide (x2 < (v0.length : Int))) then ((ix v0 x2).bind fun u0 => (need (room (x3.length + [u0.2.1].length) 16) (k0 (w64 (x2 + 1), x3 ++ [u0.2.1]))))
 else ((b2u x3).bind fun u2 => need (u2.length = x3.length) (((a4D u2).bind fun u3 => some u3))))
def a0l (v0 : List n9) : Option (List (List UInt8)) :=
 loop (R8 v0) (0, [])
@[simp] abbrev K5j : List (Nat × Root) := [(0, .row true 1 (([] : List Int).map vI))]
@[simp] abbrev K5k (x3 : List (List UInt8)) : List (Nat × Root) := [(193, .box [AI 0, AS [], AS [], AI 0, AI 0]), (0, .row true 1 (x3.map V.str))]
@[simp] abbrev K5l (u2 : List (List UInt8)) (x3 : List (List UInt8)) : List (Nat × Root) := [(0, .row true 1 (u2.map V.str)), (0, .row true 1 (x3.map V.str))]
@[simp] abbrev K5m (u0 : n9) (x3 : List (List UInt8)) : List (Nat × Root) := ((193, .box [AI u0.1, AS u0.2.1, AS u0.2.2.1, AI u0.2.2.2.1, AI u0.2.2.2.2]) :: (K5k x3))
@[simp] abbrev K5n (u0 : n9) (x3 : List (List UInt8)) : List (Nat × Root) := ((513, .row true 1 ([u0.2.1].map V.str)) :: (K5m u0 x3))
@[simp] def a2g (r : List (List UInt8)) : RV := .one (.one (.row true 1 (r.map V.str)))
theorem a8H {v0 : List n9} {r : List (List UInt8)} (hF : a0l v0 = some r) : Con Tryz.prog 132 [.sl 5 (v0.map p8)] (a2g r) := by
 unfold a0l at hF
 refine p7 c5f.1 fun N => ?_
 refine ws 0 64 (qf (.sl 0 0 0) K5j (by simp) (d9 (ws 64 128 (qf (.sl 64 0 0) ((64, .row true 1 (([] : List (List UInt8)).map V.str)) :: K5j) (by simp) (d9 (i8 (ws 128 320 (qr (AL 5 (v0.map p8)) (qp (AI (v0.length : Int)) (j0 rfl) (qr (AI 0) (d9 (j7 ?_))))))))))))
 refine wr (l' := [(3, .sl 0 0 0), (6, AL 5 (v0.map p8)), (7, AI (v0.length : Int)), (8, AI 0)]) (L := [(0, .row true 1 (([] : List (List UInt8)).map V.str))]) [3, 6, 7, 8] [(64, 0)] 1 ?_
 refine y5 (R8 v0) (fun s : Int × (List (List UInt8)) => mkS [(3, .sl 0 0 s.2.length), (6, AL 5 (v0.map p8)), (7, AI (v0.length : Int)), (8, AI s.1)] (fo [(0, .row true 1 (s.2.map V.str))]) 1) hF ?_
 rintro k0 ⟨x2, x3⟩ hF
 rw [R8] at hF
 try dsimp only
 refine ws 1 65 (qr (AB (decide (x2 < (v0.length : Int)))) (d9 (i8 ?_)))
 refine cF hF (fun hF => ?_) fun hF => ?_
 ·
  refine g9 (f5 (i8 (j7 (ws 65 321 (bk hF fun u0 e0 hF => qp (.val none (.ptr [.int .i64 u0.1, .str u0.2.1, .str u0.2.2.1, .int .i64 u0.2.2.2.1, .int .i64 u0.2.2.2.2])) (j4 rfl rfl e0 rfl) (qr (.val none (p8 u0)) (qf (.ptr 193 0 0) (K5k x3) (by simp) (qf0 (.undef) (K5m u0 x3) (by simp) (d9 (y4 321 705 rfl rfl (qr (.sl 0 0 x3.length) (qr (.ptr 193 0 1) (qr (AS u0.2.1) (qf (.sl 513 0 ([u0.2.1].length)) (K5n u0 x3) (by simp [List.take_of_length_le]) (nk hF fun g1 hF => ?_)))))))))))))))
  refine qf (.sl 577 0 ((x3 ++ [u0.2.1]).length)) ((577, .row true 1 ((x3 ++ [u0.2.1]).map V.str)) :: (0, .dead) :: (513, .dead) :: (K5n u0 x3)) (a0b rfl (by simp) rfl rfl (by simp) rfl (by decide) g1 rfl) (qr (.sl 577 0 ((x3 ++ [u0.2.1]).length)) (d9 (p6 (f5 (y4 705 833 rfl rfl (qr (AI (w64 (x2 + 1))) (qr (AI (w64 (x2 + 1))) (d9 (f5 ?_)))))))))
  refine ar (l' := [(3, .sl 0 0 (x3 ++ [u0.2.1]).length), (6, AL 5 (v0.map p8)), (7, AI (v0.length : Int)), (8, AI (w64 (x2 + 1)))]) (L := [(0, .row true 1 ((x3 ++ [u0.2.1]).map V.str))]) [3, 6, 7, 8] [(577, 0)] 1 ⟨_, by rfl, hF⟩
 refine z8 (j5 (j5 (s9 (f5 (ws 65 193 (qr (.sl 0 0 x3.length) (bk hF fun u2 e2 hF => nk hF fun g2 hF => qm1 (ls := [0]) (K5l u2 x3) (b4I e2) c4n (by first | rfl | simp [a0L, O9, T8, g2]) (by decide) (by simp [a1x, a2f, a2E, g2]) rfl rfl (by simp [T7, Z5, a0Z, a2R, a0N, Y3]) (d9 (ws 193 385 (qr (.sl 0 0 x3.length) (bk hF fun u3 e3 hF => qX (.sl 257 0 u3.length) ((257, .row true 1 (u3.map V.str)) :: (0, .dead) :: (K5l u2 x3)) false rfl rfl (c0t (by simp [g2])) (b0W e3) c3Q (by first | rfl | simp) (by simp [RV.r]) (qr (.sl 257 0 u3.length) (d9 (j8 ?_))))))))))))))
 cases hF
 exact a2H rfl (.inl ⟨_, _, by first | rfl | (simp [List.take_of_length_le]; first | exact ⟨rfl, rfl⟩ | rfl), by simp, by first | rfl | simp [a2g, List.take_of_length_le, g2]⟩)

def c8Y : MC := (sr [rg 1 (.f (.box t0)), pT 2 (.mv cf)] (sr [pT 3 (.fad t1 0), lT 4 3, dT 5 135 [t4, (ci 0), (ci 100000)], mvt 6 5, kT 7 6 (.fad t1 1), kT 8 6 (.ld t7 1 false), ⟨(some 9), (some (6, true)), (.call true 119 [t8])⟩, pT 10 (.pick t6 t9 cf), mvt 11 10, kT 12 11 (.fad t1 2), kT 13 11 (.ld t12 1 false), ⟨(some 14), (some (11, true)), (.call true 119 [t13])⟩, pT 15 (.pick t11 t14 cf), mvt 16 15, kT 17 16 (.fad t1 3), kT 18 16 (.ld t17 1 false), ⟨(some 19), (some (16, true)), (.call true 135 [t18, (ci 1), (ci 480)])⟩, pT 20 (.pick t16 t19 cf), mvt 21 20, kT 22 21 (.fad t1 4), kT 23 21 (.ld t22 1 false), ⟨(some 24), (some (21, true)), (.call true 135 [t23, (ci 0), (ci 100)])⟩, pT 25 (.pick t21 t24 cf), mvt 2 25] .ret))
theorem c5i : IsF Tryz.prog 133 c8Y [(.tmp 2)] := ⟨by kernel_rfl, by kernel_rfl⟩

def P6 (v0 : n9) : Option (Bool) :=
 ((B3 v0.1 0 100000).bind fun u0 => (bif u0 then ((H1 v0.2.1).bind fun u1 => (bif u1 then ((H1 v0.2.2.1).bind fun u2 => (bif u2 then ((B3 v0.2.2.2.1 1 480).bind fun u3 => (bif u3 then ((B3 v0.2.2.2.2 0 100).bind fun u4 => some u4)
 else some false))
 else some false))
 else some false))
 else some false))
@[simp] abbrev K5o (v0 : n9) : List (Nat × Root) := [(0, .box [AI v0.1, AS v0.2.1, AS v0.2.2.1, AI v0.2.2.2.1, AI v0.2.2.2.2])]
@[simp] def a5d (r : Bool) : RV := .one (.one (.val (.bool r)))
theorem a5h {v0 : n9} {r : Bool} (hF : P6 v0 = some r) : Con Tryz.prog 133 [p8 v0] (a5d r) := by
 unfold P6 at hF
 refine p7 c5i.1 fun N => ?_
 refine ws 0 128 (qf (.ptr 0 0 0) (K5o v0) (by simp) (qb (d9 (ws 128 1664 (qr (.ptr 0 0 0) (qr (AI v0.1) (bk hF fun u0 e0 hF => qC (AB u0) (K5o v0) (B7 e0) a2D (qr (AB u0) ?_))))))))
 refine p5 6 hF rfl (fun hF => ?_) (fun hF => ?_)
 ·
  refine qg (.ptr 0 0 1) rfl rfl (qg (AS v0.2.1) rfl rfl (bk hF fun u1 e1 hF => qG (AB u1) (K5o v0) (O4 e1) b1n (qr (AB u1) (qr (AB u1) ?_))))
  refine p5 11 hF rfl (fun hF => ?_) (fun hF => ?_)
  ·
   refine qg (.ptr 0 0 2) rfl rfl (qg (AS v0.2.2.1) rfl rfl (bk hF fun u2 e2 hF => qG (AB u2) (K5o v0) (O4 e2) b1n (qr (AB u2) (qr (AB u2) ?_))))
   refine p5 16 hF rfl (fun hF => ?_) (fun hF => ?_)
   ·
    refine qg (.ptr 0 0 3) rfl rfl (qg (AI v0.2.2.2.1) rfl rfl (bk hF fun u3 e3 hF => qG (AB u3) (K5o v0) (B7 e3) a2D (qr (AB u3) (qr (AB u3) (p5 21 hF rfl (fun hF => qg (.ptr 0 0 4) rfl rfl (qg (AI v0.2.2.2.2) rfl rfl (bk hF fun u4 e4 hF => qG (AB u4) (K5o v0) (B7 e4) a2D (qr (AB u4) (qr (AB u4) (rR hF)))))) fun hF => ?_)))))
    exact qn3 (qb (qb (rR hF)))
   exact qn3 (qb (qb (qn3 (qb (qb (rR hF))))))
  exact qn3 (qb (qb (qn3 (qb (qb (qn3 (qb (qb (rR hF)))))))))
 exact qn3 (qb (qb (qn3 (qb (qb (qn3 (qb (qb (qn rfl (qn2 (qb (qb (rR hF)))))))))))))

def c9G : MC := (sr [pT 2 (.mv cf)] (sr [mvt 3 0, mvt 4 0, bT 5 .neq t3 t4, mvt 2 5] .ret))
theorem c2O : IsF Tryz.prog 172 c9G [(.tmp 2)] := ⟨by kernel_rfl, by kernel_rfl⟩

def T5 (v0 : List UInt8) : Option (Bool) :=
 some (decide (v0 ≠ v0))
@[simp] def a5H (r : Bool) : RV := .one (.one (.val (.bool r)))
theorem a2W {v0 : List UInt8} {r : Bool} (hF : T5 v0 = some r) : Con Tryz.prog 172 [.str v0] (a5H r) := by
 unfold T5 at hF
 refine p7 c2O.1 fun N => ?_
 exact ws 0 64 (qb (d9 (ws 64 320 (qr (AS v0) (qr (AS v0) (qr (AB (decide (v0 ≠ v0))) (qr (AB (decide (v0 ≠ v0))) (rR hF))))))))

def d0i : MC := (sr [pT 4 (.mv (ci 0))] (sr [mvt 7 0, dT 8 172 [t7], mvt 5 8] (sr [mvt 9 1, dT 10 172 [t9], mvt 6 10] (.seq (sr [mvt 11 5] (.cond t11 (.seq (sr [mvt 12 6] (.cond t12 (sr [pT 4 (.mv (ci 0))] .ret) .skip)) (sr [pT 4 (.mv (ci (-1)))] .ret)) .skip)) (.seq (sr [mvt 13 6] (.cond t13 (sr [pT 4 (.mv (ci 1))] .ret) .skip)) (.seq (sr [mvt 14 0, mvt 15 1, bT 16 .lss t14 t15] (.cond t16 (sr [pT 4 (.mv (ci (-1)))] .ret) .skip)) (.seq (sr [mvt 17 0, mvt 18 1, bT 19 .gtr t17 t18] (.cond t19 (sr [pT 4 (.mv (ci 1))] .ret) .skip)) (sr [pT 4 (.mv (ci 0))] .ret))))))))
theorem c1X : IsF Tryz.prog 159 d0i [(.tmp 4)] := ⟨by kernel_rfl, by kernel_rfl⟩

def I3 (v0 : List UInt8) (v1 : List UInt8) : Option (Int) :=
 ((T5 v0).bind fun u0 => ((T5 v1).bind fun u1 => (bif u0 then (bif u1 then some 0
 else some (-1))
 else (bif u1 then some 1
 else (bif (Op.bytesLess v0 v1) then some (-1)
 else (bif (!(Op.bytesLess v0 v1 || decide (v0 = v1))) then some 1
 else some 0))))))
@[simp] def a4x (r : Int) : RV := .one (.one (.val (.int .i64 r)))
theorem a2j {v0 : List UInt8} {v1 : List UInt8} {r : Int} (hF : I3 v0 v1 = some r) : Con Tryz.prog 159 [.str v0, .str v1] (a4x r) := by
 unfold I3 at hF
 refine p7 c1X.1 fun N => ?_
 refine ws 0 64 (qr (AI 0) (d9 (ws 64 256 (qr (AS v0) (bk hF fun u0 e0 hF => qC (AB u0) [] (a2W e0) c2O (qr (AB u0) (d9 (ws 256 448 (qr (AS v1) (bk hF fun u1 e1 hF => qC (AB u1) [] (a2W e1) c2O (qr (AB u1) (d9 (i8 (ws 448 512 (qr (AB u0) ?_)))))))))))))))
 refine d9 ?_
 refine cF hF (fun hF => ?_) fun hF => ?_
 ·
  refine i8 (ws 512 576 (qr (AB u1) (d9 (cF hF (fun hF => ws 576 640 (qr (AI 0) (d9 (j8 (f7 (f7 (eQ hF))))))) fun hF => ?_))))
  exact g9 (f5 (ws 576 640 (qr (AI (-1)) (d9 (j8 (f7 (eQ hF)))))))
 refine g9 (f5 (i8 (ws 512 576 (qr (AB u1) (d9 (cF hF (fun hF => ws 576 640 (qr (AI 1) (d9 (j8 (f7 (eQ hF)))))) fun hF => ?_))))))
 refine g9 (f5 (i8 (ws 576 768 (qr (AS v0) (qr (AS v1) (qr (AB (Op.bytesLess v0 v1)) (d9 (cF hF (fun hF => ws 768 832 (qr (AI (-1)) (d9 (j8 (f7 (eQ hF)))))) fun hF => ?_))))))))
 refine g9 (f5 (i8 (ws 768 960 (qr (AS v0) (qr (AS v1) (qr (AB (!(Op.bytesLess v0 v1 || decide (v0 = v1)))) (d9 (cF hF (fun hF => ws 960 1024 (qr (AI 1) (d9 (j8 (f7 (eQ hF)))))) fun hF => ?_))))))))
 exact g9 (f5 (ws 960 1024 (qr (AI 0) (rR hF))))

def c9U : MC := (sr [pT 2 (.mv (ci 0))] (sr [pT 3 (.mv (ci 0))] (.seq (sr [mvt 6 0, zT 7 6, pT 8 (.mv (ci 0))] (.block 0 (.loop (sr [bT 9 .lss t8 t7] (.seq (cx t9 0) (.seq (.block 1 (sr [iT 10 6 8 1, lT 11 10, mvt 5 11] (sr [mvt 12 5, mvt 13 3, bT 14 .neq t12 t13] (.cond t14 (sr [mvt 15 5, mvt 2 15] .ret) .skip)))) (.reg [bT 16 .add t8 (ci 1), mvt 8 16]))))))) (sr [mvt 17 3, mvt 2 17] .ret))))
theorem c4A : IsF Tryz.prog 158 c9U [(.tmp 2)] := ⟨by kernel_rfl, by kernel_rfl⟩

def U6 (v0 : List Int) (k0 : Int → Option (Int)) : Int → Option (Int)
 | x1 => (bif (decide (x1 < (v0.length : Int))) then ((ix v0 x1).bind fun u0 => (bif (decide (u0 ≠ (0 : Int))) then some u0
 else k0 (w64 (x1 + 1))))
 else some 0)
def a2v (v0 : List Int) : Option (Int) :=
 loop (U6 v0) 0
@[simp] def b3s (r : Int) : RV := .one (.one (.val (.int .i64 r)))
theorem b3L {v0 : List Int} {r : Int} (hF : a2v v0 = some r) : Con Tryz.prog 158 [.sl 1 (v0.map vI)] (b3s r) := by
 unfold a2v at hF
 refine p7 c4A.1 fun N => ?_
 refine ws 0 64 (qr (AI 0) (d9 (ws 64 128 (qr (AI 0) (d9 (i8 (ws 128 320 (qr (AL 1 (v0.map vI)) (qp (AI (v0.length : Int)) (j0 rfl) (qr (AI 0) (d9 (j7 ?_))))))))))))
 refine wr (l' := [(3, AI 0), (6, AL 1 (v0.map vI)), (7, AI (v0.length : Int)), (8, AI 0)]) (L := []) [3, 6, 7, 8] [] 1 ?_
 refine y5 (U6 v0) (fun s : Int => mkS [(3, AI 0), (6, AL 1 (v0.map vI)), (7, AI (v0.length : Int)), (8, AI s)] (fo []) 1) hF ?_
 rintro k0 x1 hF
 rw [U6] at hF
 try dsimp only
 refine ws 1 65 (qr (AB (decide (x1 < (v0.length : Int)))) (d9 (i8 ?_)))
 refine cF hF (fun hF => ?_) fun hF => ?_
 ·
  refine g9 (f5 (i8 (j7 (ws 65 257 (bk hF fun u0 e0 hF => qp (.val none (.ptr [.int .i64 u0])) (j4 rfl rfl e0 rfl) (qr (AI u0) (qr (AI u0) (d9 (ws 257 449 (qr (AI u0) (qr (AI 0) (qr (AB (decide (u0 ≠ (0 : Int)))) (d9 ?_)))))))))))))
  refine cF hF (fun hF => ws 449 577 (qr (AI u0) (qr (AI u0) (d9 (j8 (g7 (f7 (f7 (g7 (f7 (eQ hF))))))))))) fun hF => ?_
  refine g9 (p6 (f5 (y4 449 577 rfl rfl (qr (AI (w64 (x1 + 1))) (qr (AI (w64 (x1 + 1))) (d9 (f5 ?_)))))))
  refine ar (l' := [(3, AI 0), (6, AL 1 (v0.map vI)), (7, AI (v0.length : Int)), (8, AI (w64 (x1 + 1)))]) (L := []) [3, 6, 7, 8] [] 1 ⟨_, by rfl, hF⟩
 exact z8 (j5 (j5 (s9 (f5 (ws 65 193 (qr (AI 0) (qr (AI 0) (rR hF))))))))

def c9W : MC := (sr [rg 2 (.f (.box t0)), rg 3 (.f (.box t1)), pT 4 (.mv (ci 0))] (sr [pF 5 (.fad t2 0), lF 6 5, pF 7 (.fad t3 0), lF 8 7, dF 9 152 [t6, t8], pF 10 (.fad t2 1), lF 11 10, pF 12 (.fad t3 1), lF 13 12, dF 14 159 [t11, t13], pF 15 (.fad t2 2), lF 16 15, pF 17 (.fad t3 2), lF 18 17, dF 19 159 [t16, t18], rg 20 (.f (.bsl 1 [t9, t14, t19])), dF 21 158 [t20], mP 4 t21] .ret))
theorem c4F : IsF Tryz.prog 134 c9W [(.tmp 4)] := ⟨by kernel_rfl, by kernel_rfl⟩

def M2 (v0 : n9) (v1 : n9) : Option (Int) :=
 ((G1 v0.1 v1.1).bind fun u0 => ((I3 v0.2.1 v1.2.1).bind fun u1 => ((I3 v0.2.2.1 v1.2.2.1).bind fun u2 => ((a2v [u0, u1, u2]).bind fun u3 => some u3))))
@[simp] abbrev K5p (v0 : n9) : List (Nat × Root) := [(0, .box [AI v0.1, AS v0.2.1, AS v0.2.2.1, AI v0.2.2.2.1, AI v0.2.2.2.2])]
@[simp] abbrev K5q (v1 : n9) (v0 : n9) : List (Nat × Root) := ((64, .box [AI v1.1, AS v1.2.1, AS v1.2.2.1, AI v1.2.2.2.1, AI v1.2.2.2.2]) :: (K5p v0))
@[simp] def a4q (r : Int) : RV := .one (.one (.val (.int .i64 r)))
theorem a4d {v0 : n9} {v1 : n9} {r : Int} (hF : M2 v0 v1 = some r) : Con Tryz.prog 134 [p8 v0, p8 v1] (a4q r) := by
 unfold M2 at hF
 refine p7 c4F.1 fun N => ?_
 refine ws 0 192 (qf (.ptr 0 0 0) (K5p v0) (by simp) (qf (.ptr 64 0 0) (K5q v1 v0) (by simp) (qr (AI 0) (d9 (ws 192 1344 (qr (.ptr 0 0 0) (qr (AI v0.1) (qr (.ptr 64 0 0) (qr (AI v1.1) (bk hF fun u0 e0 hF => qC (AI u0) (K5q v1 v0) (a0G e0) b9n (qr (.ptr 0 0 1) (qr (AS v0.2.1) (qr (.ptr 64 0 1) (qr (AS v1.2.1) (bk hF fun u1 e1 hF => ?_)))))))))))))))
 exact qC (AI u1) (K5q v1 v0) (a2j e1) c1X (qr (.ptr 0 0 2) (qr (AS v0.2.2.1) (qr (.ptr 64 0 2) (qr (AS v1.2.2.1) (bk hF fun u2 e2 hF => qC (AI u2) (K5q v1 v0) (a2j e2) c1X (qf (.sl 1152 0 ([u0, u1, u2].length)) ((1152, .row true 1 ([u0, u1, u2].map vI)) :: (K5q v1 v0)) (by simp [List.take_of_length_le]) (bk hF fun u3 e3 hF => qc (AI u3) ((1152, .row true 1 ([u0, u1, u2].map vI)) :: (K5q v1 v0)) true (b3L e3) c4A.2 (by simp [List.take_of_length_le]) rfl (qr (AI u3) (rR hF)))))))))

def c84 : MC := (sr [pT 2 (.mv cf)] (.seq (sr [mvt 5 0, zT 6 5, bT 7 .gtr t6 (ci 64), mvt 8 7, nF 9 8 t0, ⟨(some 10), (some (8, false)), (.call true 132 [t9])⟩, kF 11 8 (.len t10), kF 12 8 (.bin .gtr t11 (ci 12)), pT 13 (.pick t8 ct t12)] (.cond t13 (sr [pT 2 (.mv cf)] .ret) .skip)) (.seq (sr [mvt 14 0, zT 15 14, pT 16 (.mv (ci 0))] (.block 0 (.loop (sr [bT 17 .lss t16 t15] (.seq (cx t17 0) (.seq (.block 1 (sr [mvt 18 16, iT 19 14 16 5, pT 20 (.ld t19 5 true), rg 4 (.f (.alloc [((.int .i64 0), (0, false)), ((.str []), (0, false)), ((.str []), (0, false)), ((.int .i64 0), (0, false)), ((.int .i64 0), (0, false))])), mvt 3 18, ⟨none, none, (.f (.st t4 t20 5))⟩] (sr [pF 21 (.ld t4 5 true), dF 22 133 [t21], pF 23 (.not t22), mP 24 t23, mF 25 24 t3, bH 26 24 .gtr t25 (ci 0), mF 27 24 t26, mT 28 27 t0, mT 29 27 t3, bG 30 27 .sub t29 (ci 1), iG 31 27 28 30 5, gT 32 27 (.ld t31 5 true), gT 33 27 (.ld t4 5 true), ⟨(some 34), (some (27, true)), (.call false 134 [t32, t33])⟩, bG 35 27 .geq t34 (ci 0), gF 36 24 (.pick t27 t35 cf), pF 37 (.pick t24 ct t36)] (.cond t37 (sr [pT 2 (.mv cf)] .ret) .skip)))) (.reg [bT 38 .add t16 (ci 1), mvt 16 38]))))))) (sr [pT 2 (.mv ct)] .ret))))
theorem c7s : IsF Tryz.prog 84 c84 [(.tmp 2)] := ⟨by kernel_rfl, by kernel_rfl⟩

def D8 (v0 : List n9) (k1 : Int → Option (Bool)) : Int → Option (Bool)
 | x3 => (bif (decide (x3 < (v0.length : Int))) then ((ix v0 x3).bind fun u9 => ((P6 u9).bind fun u10 => (bif (!u10) then some false
 else (bif (decide ((0 : Int) < x3)) then ((ix v0 (w64 (x3 - 1))).bind fun u11 => ((M2 u11 u9).bind fun u12 => (bif (decide ((0 : Int) ≤ u12)) then some false
 else k1 (w64 (x3 + 1)))))
 else k1 (w64 (x3 + 1))))))
 else some true)
def J8 (v0 : List n9) : Option (Bool) :=
 (bif (decide ((64 : Int) < (v0.length : Int))) then some false
 else ((a0l v0).bind fun u0 => (bif (decide ((12 : Int) < (u0.length : Int))) then some false
 else loop (D8 v0) 0)))
@[simp] abbrev K5u (u9 : n9) : List AV := [AI u9.1, AS u9.2.1, AS u9.2.2.1, AI u9.2.2.2.1, AI u9.2.2.2.2]
@[simp] abbrev K5s (u9 : n9) : List (Nat × Root) := [(257, .box (K5u u9)), (257, .box [AI 0, AS [], AS [], AI 0, AI 0])]
@[simp] abbrev K5t (v0 : List n9) : V := .sl 5 (v0.map p8)
@[simp] def a5o (r : Bool) : RV := .one (.one (.val (.bool r)))
theorem a5n {v0 : List n9} {r : Bool} (hF : J8 v0 = some r) : Con Tryz.prog 84 [.sl 5 (v0.map p8)] (a5o r) := by
 unfold J8 at hF
 refine p7 c7s.1 fun N => ?_
 refine ws 0 64 (qb (d9 (i8 (ws 64 640 (qr (.val none (K5t v0)) (qp (AI (v0.length : Int)) (j0 rfl) (qr (AB (decide ((64 : Int) < (v0.length : Int)))) (qr (AB (decide ((64 : Int) < (v0.length : Int)))) ?_))))))))
 refine p5 8 hF rfl (fun hF => qn4 (qt (d9 (B5 rfl (ws 640 704 (qb (d9 (j8 (f7 (eQ hF)))))))))) fun hF => qg (.val none (K5t v0)) rfl rfl (bk hF fun u0 e0 hF => qcg (.sl 384 0 u0.length) [(384, .row true 1 (u0.map V.str))] false rfl (a8H e0) c5f.2 (by first | rfl | simp) (by simp [a2g]) (qg (AI (u0.length : Int)) rfl rfl (qg (AB (decide ((12 : Int) < (u0.length : Int)))) rfl rfl (qr (AB (decide ((12 : Int) < (u0.length : Int)))) (d9 ?_)))))
 refine cF hF (fun hF => ws 640 704 (qb (d9 (j8 (f7 (eQ hF)))))) fun hF => g9 (f5 (i8 (ws 640 832 (qr (.val none (K5t v0)) (qp (AI (v0.length : Int)) (j0 rfl) (qr (AI 0) (d9 (j7 ?_))))))))
 refine wr (l' := [(0, .val none (K5t v0)), (14, .val none (K5t v0)), (15, AI (v0.length : Int)), (16, AI 0)]) (L := []) [0, 14, 15, 16] [] 1 ?_
 refine y5 (D8 v0) (fun s : Int => mkS [(0, .val none (K5t v0)), (14, .val none (K5t v0)), (15, AI (v0.length : Int)), (16, AI s)] (fo []) 1) hF ?_
 rintro k1 x3 hF
 rw [D8] at hF
 try dsimp only
 refine ws 1 65 (qr (AB (decide (x3 < (v0.length : Int)))) (d9 (i8 ?_)))
 refine cF hF (fun hF => ?_) fun hF => ?_
 ·
  refine g9 (f5 (i8 (j7 (ws 65 449 (qr (AI x3) (bk hF fun u9 e9 hF => qp (.val none (.ptr [.int .i64 u9.1, .str u9.2.1, .str u9.2.2.1, .int .i64 u9.2.2.2.1, .int .i64 u9.2.2.2.2])) (j4 rfl rfl e9 rfl) (qr (.val none (p8 u9)) (qf (.ptr 257 0 0) [(257, .box [AI 0, AS [], AS [], AI 0, AI 0])] (by simp) (qr (AI x3) (qf0 (.undef) (K5s u9) (by simp) (d9 (ws 449 1537 (qr (.agg (K5u u9)) (bk hF fun u10 e10 hF => qC (AB u10) (K5s u9) (a5h e10) c5i ?_))))))))))))))
  refine qr (AB (!u10)) (qr (AB (!u10)) ?_)
  refine p5 24 hF rfl (fun hF => ?_) (fun hF => ?_)
  ·
   refine qn3 (qu rfl (qu rfl (qu rfl (qu rfl (qu rfl (qu rfl (qu rfl (qu rfl (qn rfl (qt (d9 (B5 rfl (ws 1537 1601 ?_)))))))))))))
   exact qb (d9 (j8 (g7 (f7 (f7 (g7 (f7 (eQ hF))))))))
  refine qg (AI x3) rfl rfl (qg (AB (decide ((0 : Int) < x3))) rfl rfl (qg (AB (decide ((0 : Int) < x3))) rfl rfl ?_))
  refine p5 27 hF rfl (fun hF => ?_) (fun hF => ?_)
  ·
   refine qg (.val none (K5t v0)) rfl rfl (qg (AI x3) rfl rfl (qg (AI (w64 (x3 - 1))) rfl rfl (bk hF fun u11 e11 hF => qg (.val none (.ptr [.int .i64 u11.1, .str u11.2.1, .str u11.2.2.1, .int .i64 u11.2.2.2.1, .int .i64 u11.2.2.2.2])) rfl (j4 rfl rfl e11 rfl) (qg (.val none (p8 u11)) rfl rfl (qg (.agg (K5u u9)) rfl rfl (bk hF fun u12 e12 hF => qG (AI u12) (K5s u9) (a4d e12) c4F (qg (AB (decide ((0 : Int) ≤ u12))) rfl rfl (qg (AB (decide ((0 : Int) ≤ u12))) rfl rfl (qr (AB (decide ((0 : Int) ≤ u12))) (d9 ?_))))))))))
   refine cF hF (fun hF => ws 1537 1601 (qb (d9 (j8 (g7 (f7 (f7 (g7 (f7 (eQ hF)))))))))) fun hF => ?_
   refine g9 (p6 (f5 (y4 1537 1665 rfl rfl (qr (AI (w64 (x3 + 1))) (qr (AI (w64 (x3 + 1))) (d9 (f5 ?_)))))))
   refine ar (l' := [(0, .val none (K5t v0)), (14, .val none (K5t v0)), (15, AI (v0.length : Int)), (16, AI (w64 (x3 + 1)))]) (L := []) [0, 14, 15, 16] [] 1 ⟨_, by rfl, hF⟩
  refine qn8 (qg (AB false) rfl rfl (qb (d9 (H2 rfl (g9 (p6 (f5 (y4 1537 1665 rfl rfl (qr (AI (w64 (x3 + 1))) (qr (AI (w64 (x3 + 1))) (d9 ?_)))))))))))
  refine f5 ?_
  refine ar (l' := [(0, .val none (K5t v0)), (14, .val none (K5t v0)), (15, AI (v0.length : Int)), (16, AI (w64 (x3 + 1)))]) (L := []) [0, 14, 15, 16] [] 1 ⟨_, by rfl, hF⟩
 exact z8 (j5 (j5 (s9 (f5 (ws 65 129 (qt (rR hF)))))))

def c9b : MC := (sr [rg 2 (.f (.box t0)), pT 3 (.mv cf)] (sr [pT 4 (.fad t2 0), lT 5 4, lT 6 1, bT 7 .eql t5 t6, mvt 3 7] .ret))
theorem c5a : IsF Tryz.prog 161 c9b [(.tmp 3)] := ⟨by kernel_rfl, by kernel_rfl⟩

def a0J (v0 : p4) (v1 : List UInt8) : Option (Bool) :=
 some (decide (v0.1 = v1))
@[simp] def a6U (r : Bool) : RV := .one (.one (.val (.bool r)))
theorem a6I {v0 : p4} {v1 : List UInt8} {r : Bool} (hF : a0J v0 v1 = some r) : Con Tryz.prog 161 [p9 v0, .ptr [.str v1]] (a6U r) := by
 unfold a0J at hF
 refine p7 c5a.1 fun N => ?_
 exact ws 0 128 (qf (.ptr 0 0 0) [(0, .box [AS v0.1, AI v0.2.1, AL 1 (v0.2.2.map V.str)])] (by simp) (qb (d9 (ws 128 448 (qr (.ptr 0 0 0) (qr (AS v0.1) (qr (AS v1) (qr (AB (decide (v0.1 = v1))) (qr (AB (decide (v0.1 = v1))) (rR hF))))))))))

def c9M : MC := (sr [pT 4 (.mv (ci 0))] (.seq (sr [mvt 6 0, zT 7 6, pT 8 (.mv (ci 0))] (.block 0 (.loop (sr [bT 9 .lss t8 t7] (.seq (cx t9 0) (.seq (.block 1 (sr [mvt 10 8, mvt 5 10] (sr [mvt 11 1, mvt 12 0, mvt 13 5, iT 14 12 13 3, pT 15 (.ld t14 3 true), rg 16 (.callv t11 [t15])] (.cond t16 (sr [mvt 17 5, mvt 4 17] .ret) .skip)))) (.reg [bT 18 .add t8 (ci 1), mvt 8 18]))))))) (sr [pT 4 (.mv (ci (-1)))] .ret)))
theorem c4Q : IsF Tryz.prog 160 c9M [(.tmp 4)] := ⟨by kernel_rfl, by kernel_rfl⟩

def C6 (v0 : List p4) (v1 : List UInt8) (k0 : Int → Option (Int)) : Int → Option (Int)
 | x1 => (bif (decide (x1 < (v0.length : Int))) then ((ix v0 x1).bind fun u0 => ((a0J u0 v1).bind fun u1 => (bif u1 then some x1
 else k0 (w64 (x1 + 1)))))
 else some (-1))
def E6 (v0 : List p4) (v1 : List UInt8) : Option (Int) :=
 loop (C6 v0 v1) 0
@[simp] def a1L (r : Int) : RV := .one (.one (.val (.int .i64 r)))
theorem a1K {v0 : List p4} {v1 : List UInt8} {r : Int} (hF : E6 v0 v1 = some r) : Con Tryz.prog 160 [.sl 3 (v0.map p9), .fn 161 [.ptr [.str v1]]] (a1L r) := by
 unfold E6 at hF
 refine p7 c4Q.1 fun N => ?_
 refine ws 0 64 (qr (AI 0) (d9 (i8 (ws 64 256 (qr (AL 3 (v0.map p9)) (qp (AI (v0.length : Int)) (j0 rfl) (qr (AI 0) (d9 (j7 ?_)))))))))
 refine wr (l' := [(0, AL 3 (v0.map p9)), (1, .val none (.fn 161 [.ptr [.str v1]])), (7, AI (v0.length : Int)), (8, AI 0)]) (L := []) [0, 1, 7, 8] [] 1 ?_
 refine y5 (C6 v0 v1) (fun s : Int => mkS [(0, AL 3 (v0.map p9)), (1, .val none (.fn 161 [.ptr [.str v1]])), (7, AI (v0.length : Int)), (8, AI s)] (fo []) 1) hF ?_
 rintro k0 x1 hF
 rw [C6] at hF
 try dsimp only
 refine ws 1 65 (qr (AB (decide (x1 < (v0.length : Int)))) (d9 (i8 ?_)))
 refine cF hF (fun hF => ?_) fun hF => ?_
 ·
  refine g9 (f5 (i8 (j7 (ws 65 193 (qr (AI x1) (qr (AI x1) (d9 (ws 193 577 (qr (.val none (.fn 161 [.ptr [.str v1]])) (qr (AL 3 (v0.map p9)) (qr (AI x1) (bk hF fun u0 e0 hF => qp (.val none (.ptr [.str u0.1, .int .i64 u0.2.1, .sl 1 (u0.2.2.map V.str)])) (j4 rfl rfl e0 rfl) (qr (.val none (p9 u0)) (bk hF fun u1 e1 hF => qcv (AB u1) [] false rfl (a6I e1) c5a.2 (by first | rfl | simp) rfl (d9 ?_)))))))))))))))
  refine cF hF (fun hF => ws 577 705 (qr (AI x1) (qr (AI x1) (d9 (j8 (g7 (f7 (f7 (g7 (f7 (eQ hF))))))))))) fun hF => ?_
  refine g9 (p6 (f5 (y4 577 705 rfl rfl (qr (AI (w64 (x1 + 1))) (qr (AI (w64 (x1 + 1))) (d9 (f5 ?_)))))))
  refine ar (l' := [(0, AL 3 (v0.map p9)), (1, .val none (.fn 161 [.ptr [.str v1]])), (7, AI (v0.length : Int)), (8, AI (w64 (x1 + 1)))]) (L := []) [0, 1, 7, 8] [] 1 ⟨_, by rfl, hF⟩
 exact z8 (j5 (j5 (s9 (f5 (ws 65 129 (qr (AI (-1)) (rR hF)))))))

def c9h : MC := (sr [rg 3 (.f (.box t1)), pT 4 (.mv (ci 0))] (sr [mvt 5 0, pT 6 (.mkf 161 [t3]), dT 7 160 [t5, t6], mvt 4 7] .ret))
theorem c4U : IsF Tryz.prog 136 c9h [(.tmp 4)] := ⟨by kernel_rfl, by kernel_rfl⟩

def a0x (v0 : List p4) (v1 : List UInt8) : Option (Int) :=
 ((E6 v0 v1).bind fun u0 => some u0)
@[simp] def a8J (r : Int) : RV := .one (.one (.val (.int .i64 r)))
theorem a9x {v0 : List p4} {v1 : List UInt8} {r : Int} (hF : a0x v0 v1 = some r) : Con Tryz.prog 136 [.sl 3 (v0.map p9), .str v1] (a8J r) := by
 unfold a0x at hF
 refine p7 c4U.1 fun N => ?_
 exact ws 0 128 (qf (.ptr 0 0 0) [(0, .box [AS v1])] (by simp) (qr (AI 0) (d9 (ws 128 384 (qr (AL 3 (v0.map p9)) (qr (.fn 161 [.ptr 0 0 0]) (bk hF fun u0 e0 hF => qc (AI u0) [(0, .box [AS v1])] true (a1K e0) c4Q.2 (by simp [List.take_of_length_le]) rfl (qr (AI u0) (rR hF)))))))))

def c85 : MC := (sr [pT 2 (.mv cf)] (.seq (sr [mvt 8 0, zT 9 8, bT 10 .gtr t9 (ci 24)] (.cond t10 (sr [pT 2 (.mv cf)] .ret) .skip)) (.seq (sr [mvt 11 0, zT 12 11, pT 13 (.mv (ci 0))] (.block 0 (.loop (sr [bT 14 .lss t13 t12] (.seq (cx t14 0) (.seq (.block 1 (sr [mvt 15 13, iT 16 11 13 3, pT 17 (.ld t16 3 true), rg 4 (.f (.alloc [((.str []), (0, false)), ((.int .i64 0), (0, false)), ((.sl 0 []), (1, false))])), mvt 3 15, ⟨none, none, (.f (.st t4 t17 3))⟩] (.seq (sr [pF 18 (.fad t4 0), lF 19 18, dF 20 119 [t19], pF 21 (.not t20), mP 22 t21, gF 23 22 (.fad t4 1), lH 24 22 23, ⟨(some 25), (some (22, false)), (.call false 135 [t24, (ci 0), (ci 3000)])⟩, gF 26 22 (.not t25), pF 27 (.pick t22 ct t26), mP 28 t27, gF 29 28 (.fad t4 2), lH 30 28 29, zH 31 28 30, bH 32 28 .gtr t31 (ci 4), pF 33 (.pick t28 ct t32), mP 34 t33, mF 35 34 t3, bH 36 34 .gtr t35 (ci 0), mF 37 34 t36, gT 38 37 (.fad t4 0), lG 39 37 38, mT 40 37 t0, mT 41 37 t3, bG 42 37 .sub t41 (ci 1), iG 43 37 40 42 3, gT 44 37 (.fad t43 0), lG 45 37 44, bG 46 37 .leq t39 t45, gF 47 34 (.pick t37 t46 cf), pF 48 (.pick t34 ct t47)] (.cond t48 (sr [pT 2 (.mv cf)] .ret) .skip)) (sr [pT 49 (.fad t4 2), lT 50 49, zT 51 50, pT 52 (.mv (ci 0))] (.block 2 (.loop (sr [bT 53 .lss t52 t51] (.seq (cx t53 2) (.seq (.block 3 (sr [mvt 54 52, iT 55 50 52 1, lT 56 55, mvt 5 54, mvt 6 56] (sr [mvt 57 0, mvt 58 6, dT 59 136 [t57, t58], mvt 7 59] (sr [mP 60 t7, bF 61 .lss t60 (ci 0), mP 62 t61, mF 63 62 t0, mF 64 62 t7, iH 65 62 63 64 3, gF 66 62 (.fad t65 1), lH 67 62 66, gF 68 62 (.fad t4 1), lH 69 62 68, bH 70 62 .geq t67 t69, pF 71 (.pick t62 ct t70), mP 72 t71, mF 73 72 t5, bH 74 72 .gtr t73 (ci 0), mF 75 72 t74, mT 76 75 t6, gT 77 75 (.fad t4 2), lG 78 75 77, mT 79 75 t5, bG 80 75 .sub t79 (ci 1), iG 81 75 78 80 1, lG 82 75 81, bG 83 75 .leq t76 t82, gF 84 72 (.pick t75 t83 cf), pF 85 (.pick t72 ct t84)] (.cond t85 (sr [pT 2 (.mv cf)] .ret) .skip))))) (.reg [bT 86 .add t52 (ci 1), mvt 52 86])))))))))) (.reg [bT 87 .add t13 (ci 1), mvt 13 87]))))))) (sr [pT 2 (.mv ct)] .ret))))
theorem c6P : IsF Tryz.prog 85 c85 [(.tmp 2)] := ⟨by kernel_rfl, by kernel_rfl⟩

def I9 (v0 : List p4) (u0 : p4) (x5 : Int) (k2 : Int → Option (Bool)) (k4 : Int → Option (Bool)) : Int → Option (Bool)
 | x9 => (bif (decide (x9 < (u0.2.2.length : Int))) then ((ix u0.2.2 x9).bind fun u7 => ((a0x v0 u7).bind fun u8 => (bif (decide (u8 < (0 : Int))) then some false
 else ((ix v0 u8).bind fun u9 => (bif (decide (u0.2.1 ≤ u9.2.1)) then some false
 else (bif (decide ((0 : Int) < x9)) then ((ix u0.2.2 (w64 (x9 - 1))).bind fun u10 => (bif (Op.bytesLess u7 u10 || decide (u7 = u10)) then some false
 else k4 (w64 (x9 + 1))))
 else k4 (w64 (x9 + 1))))))))
 else k2 (w64 (x5 + 1)))
def I7 (v0 : List p4) (u0 : p4) (x5 : Int) (k2 : Int → Option (Bool)) : Option (Bool) :=
 loop (I9 v0 u0 x5 k2) 0
def F9 (v0 : List p4) (k2 : Int → Option (Bool)) : Int → Option (Bool)
 | x5 => (bif (decide (x5 < (v0.length : Int))) then ((ix v0 x5).bind fun u0 => ((H1 u0.1).bind fun u4 => (bif (!u4) then some false
 else ((B3 u0.2.1 0 3000).bind fun u5 => (bif (!u5) then some false
 else (bif (decide ((4 : Int) < (u0.2.2.length : Int))) then some false
 else (bif (decide ((0 : Int) < x5)) then ((ix v0 (w64 (x5 - 1))).bind fun u6 => (bif (Op.bytesLess u0.1 u6.1 || decide (u0.1 = u6.1)) then some false
 else I7 v0 u0 x5 k2))
 else I7 v0 u0 x5 k2)))))))
 else some true)
def Q4 (v0 : List p4) : Option (Bool) :=
 (bif (decide ((24 : Int) < (v0.length : Int))) then some false
 else loop (F9 v0) 0)
@[simp] abbrev K60 (u0 : p4) : V := .sl 1 (u0.2.2.map V.str)
@[simp] abbrev K5v (u0 : p4) : List (Nat × Root) := [(0, .box [AS u0.1, AI u0.2.1, .val none (K60 u0)])]
@[simp] abbrev K5w : List (Nat × Root) := [(257, .box [AS [], AI 0, .sl 258 0 0]), (258, .row true 1 (([] : List Int).map vI))]
@[simp] abbrev K5x (u0 : p4) : List (Nat × Root) := ((257, .box [AS u0.1, AI u0.2.1, .val none (K60 u0)]) :: K5w)
@[simp] abbrev K5y (v0 : List p4) : V := .sl 3 (v0.map p9)
@[simp] abbrev K63 (v0 : List p4) : Nat × AV := (0, .val none (K5y v0))
@[simp] abbrev K62 (v0 : List p4) : Nat × AV := (11, .val none (K5y v0))
@[simp] abbrev K61 (v0 : List p4) : Nat × AV := (12, AI (v0.length : Int))
@[simp] abbrev K5z (v0 : List p4) (x5 : Int) : List (Nat × AV) := [(K63 v0), (4, .ptr 0 0 0), (K62 v0), (K61 v0), (13, AI x5)]
@[simp] def a5k (r : Bool) : RV := .one (.one (.val (.bool r)))
theorem a5e {v0 : List p4} {r : Bool} (hF : Q4 v0 = some r) : Con Tryz.prog 85 [.sl 3 (v0.map p9)] (a5k r) := by
 unfold Q4 at hF
 refine p7 c6P.1 fun N => ?_
 refine ws 0 64 (qb (d9 (i8 (ws 64 256 (qr (.val none (K5y v0)) (qp (AI (v0.length : Int)) (j0 rfl) (qr (AB (decide ((24 : Int) < (v0.length : Int)))) (d9 (cF hF (fun hF => ws 256 320 (qb (d9 (j8 (f7 (eQ hF)))))) fun hF => ?_)))))))))
 refine g9 (f5 (i8 (ws 256 448 (qr (.val none (K5y v0)) (qp (AI (v0.length : Int)) (j0 rfl) (qr (AI 0) (d9 (j7 ?_))))))))
 refine wr (l' := [(K63 v0), (K62 v0), (K61 v0), (13, AI 0)]) (L := []) [0, 11, 12, 13] [] 1 ?_
 refine y5 (F9 v0) (fun s : Int => mkS [(K63 v0), (K62 v0), (K61 v0), (13, AI s)] (fo []) 1) hF ?_
 rintro k2 x5 hF
 rw [F9] at hF
 try dsimp only
 refine ws 1 65 (qr (AB (decide (x5 < (v0.length : Int)))) (d9 (i8 ?_)))
 refine cF hF (fun hF => ?_) fun hF => ?_
 ·
  refine g9 (f5 (i8 (j7 (ws 65 449 (qr (AI x5) (bk hF fun u0 e0 hF => qp (.val none (.ptr [.str u0.1, .int .i64 u0.2.1, .sl 1 (u0.2.2.map V.str)])) (j4 rfl rfl e0 rfl) (qr (.val none (p9 u0)) (qf (.ptr 257 0 0) K5w (by simp) (qr (AI x5) (qf0 (.undef) (K5x u0) (by simp) (d9 ?_)))))))))))
  refine b0D (fun s' => s' = mkS (K5z v0 x5) (fo (K5v u0)) 1 ∧ I7 v0 u0 x5 k2 = some r) ?_ ?_
  ·
   refine ws 449 2433 (qr (.ptr 257 0 0) (qr (AS u0.1) (bk hF fun u4 e4 hF => qC (AB u4) (K5x u0) (O4 e4) b1n (qr (AB (!u4)) (qr (AB (!u4)) ?_)))))
   refine p5 22 hF rfl (fun hF => ?_) (fun hF => ?_)
   ·
    refine qn4 (qt (qt (qn2 (qn2 (qt (qt (qn3 (qu rfl ?_))))))))
    refine qu rfl (qu rfl (qu rfl (qu rfl (qu rfl (qu rfl (qu rfl (qu rfl (qn rfl (qt (d9 (B5 rfl (ws 2433 2497 (qb ?_)))))))))))))
    exact d9 (j8 (f7 (g7 (f7 (f7 (g7 (f7 (eQ hF))))))))
   refine qg (.ptr 257 0 1) rfl rfl (qg (AI u0.2.1) rfl rfl (bk hF fun u5 e5 hF => qG (AB u5) (K5x u0) (B7 e5) a2D (qg (AB (!u5)) rfl rfl (qr (AB (!u5)) (qr (AB (!u5)) ?_)))))
   refine p5 28 hF rfl (fun hF => ?_) (fun hF => ?_)
   ·
    refine qn4 (qt (qt (qn2 (qn rfl (qu rfl (qu rfl (qu rfl (qu rfl (qu rfl (qu rfl (qu rfl ?_)))))))))))
    refine qu rfl (qu rfl (qn rfl (qt (d9 (B5 rfl (ws 2433 2497 (qb (d9 (j8 (f7 (g7 (f7 (f7 ?_)))))))))))))
    exact g7 (f7 (eQ hF))
   refine qg (.ptr 257 0 2) rfl rfl (qg (.val none (K60 u0)) rfl rfl (qg (AI (u0.2.2.length : Int)) rfl (j0 rfl) (qg (AB (decide ((4 : Int) < (u0.2.2.length : Int)))) rfl rfl (qr (AB (decide ((4 : Int) < (u0.2.2.length : Int)))) (qr (AB (decide ((4 : Int) < (u0.2.2.length : Int)))) ?_)))))
   refine p5 34 hF rfl (fun hF => ?_) (fun hF => ?_)
   ·
    refine qn3 (qu rfl (qu rfl (qu rfl (qu rfl (qu rfl (qu rfl (qu rfl (qu rfl (qu rfl (qn rfl (qt (d9 (B5 rfl ?_)))))))))))))
    exact ws 2433 2497 (qb (d9 (j8 (f7 (g7 (f7 (f7 (g7 (f7 (eQ hF))))))))))
   refine qg (AI x5) rfl rfl (qg (AB (decide ((0 : Int) < x5))) rfl rfl (qg (AB (decide ((0 : Int) < x5))) rfl rfl ?_))
   refine p5 37 hF rfl (fun hF => ?_) (fun hF => ?_)
   ·
    refine qg (.ptr 257 0 0) rfl rfl (qg (AS u0.1) rfl rfl (qg (.val none (K5y v0)) rfl rfl (qg (AI x5) rfl rfl (qg (AI (w64 (x5 - 1))) rfl rfl (bk hF fun u6 e6 hF => qg (.val none (.ptr [.str u6.1, .int .i64 u6.2.1, .sl 1 (u6.2.2.map V.str)])) rfl (j4 rfl rfl e6 rfl) (qg (.val none (.ptr [.str u6.1, .int .i64 u6.2.1, .sl 1 (u6.2.2.map V.str)])) rfl rfl (qg (AS u6.1) rfl rfl (qg (AB (Op.bytesLess u0.1 u6.1 || decide (u0.1 = u6.1))) rfl rfl (qg (AB (Op.bytesLess u0.1 u6.1 || decide (u0.1 = u6.1))) rfl rfl (qr (AB (Op.bytesLess u0.1 u6.1 || decide (u0.1 = u6.1))) (d9 ?_)))))))))))
    refine cF hF (fun hF => ws 2433 2497 (qb (d9 (j8 (f7 (g7 (f7 (f7 (g7 (f7 (eQ hF))))))))))) fun hF => g9 (f5 ?_)
    refine ar (l' := (K5z v0 x5)) (L := (K5v u0)) [0, 4, 11, 12, 13] [(257, 0)] 1 ⟨rfl, hF⟩
   refine qn8 (qn rfl (qg (AB false) rfl rfl (qb (d9 (H2 rfl (g9 (f5 ?_)))))))
   refine ar (l' := (K5z v0 x5)) (L := (K5v u0)) [0, 4, 11, 12, 13] [(257, 0)] 1 ⟨rfl, hF⟩
  rintro s' ⟨rfl, hF⟩
  unfold I7 at hF
  refine ws 1 257 (qr (.ptr 0 0 2) (qr (.val none (K60 u0)) (qp (AI (u0.2.2.length : Int)) (j0 rfl) (qr (AI 0) (d9 (j7 ?_))))))
  refine b8a (l' := [(K63 v0), (4, .ptr 0 0 0), (K62 v0), (K61 v0), (13, AI x5), (50, .val none (K60 u0)), (51, AI (u0.2.2.length : Int)), (52, AI 0)]) (L := (K5v u0)) [0, 4, 11, 12, 13, 50, 51, 52] [(0, 0)] 1 (by first | rfl | simp) (by first | rfl | simp) (by decide) (by decide) (by decide) ?_
  refine y5 (I9 v0 u0 x5 k2) (fun s : Int => mkS [(K63 v0), (4, .ptr 0 0 0), (K62 v0), (K61 v0), (13, AI x5), (50, .val none (K60 u0)), (51, AI (u0.2.2.length : Int)), (52, AI s)] (fo (K5v u0)) 1) hF ?_
  rintro k4 x9 hF
  rw [I9] at hF
  try dsimp only
  refine ws 1 65 (qr (AB (decide (x9 < (u0.2.2.length : Int)))) (d9 (i8 ?_)))
  refine cF hF (fun hF => ?_) fun hF => ?_
  ·
   refine g9 (f5 (i8 (j7 (ws 65 385 (qr (AI x9) (bk hF fun u7 e7 hF => qp (.val none (.ptr [.str u7])) (j4 rfl rfl e7 rfl) (qr (AS u7) (qr (AI x9) (qr (AS u7) (d9 (ws 385 641 (qr (.val none (K5y v0)) (qr (AS u7) (bk hF fun u8 e8 hF => qC (AI u8) (K5v u0) (a9x e8) c4U (qr (AI u8) ?_)))))))))))))))
   refine d9 (ws 641 2305 (qr (AI u8) (qr (AB (decide (u8 < (0 : Int)))) (qr (AB (decide (u8 < (0 : Int)))) ?_))))
   refine p5 62 hF rfl (fun hF => ?_) (fun hF => ?_)
   ·
    refine qn8 (qt (qt (qn3 (qu rfl (qu rfl (qu rfl (qu rfl (qu rfl (qu rfl (qu rfl (qu rfl (qn rfl (qt ?_)))))))))))))
    refine d9 (B5 rfl (ws 2305 2369 (qb (d9 (j8 (g7 (f7 (f7 (g7 (g7 (f7 (f7 (g7 ?_)))))))))))))
    exact f7 (eQ hF)
   refine qg (.val none (K5y v0)) rfl rfl (qg (AI u8) rfl rfl (bk hF fun u9 e9 hF => qg (.val none (.ptr [.str u9.1, .int .i64 u9.2.1, .sl 1 (u9.2.2.map V.str)])) rfl (j4 rfl rfl e9 rfl) (qg (.val none (.ptr [.int .i64 u9.2.1, .sl 1 (u9.2.2.map V.str)])) rfl rfl (qg (AI u9.2.1) rfl rfl (qg (.ptr 0 0 1) rfl rfl (qg (AI u0.2.1) rfl rfl (qg (AB (decide (u0.2.1 ≤ u9.2.1))) rfl rfl (qr (AB (decide (u0.2.1 ≤ u9.2.1))) (qr (AB (decide (u0.2.1 ≤ u9.2.1))) ?_)))))))))
   refine p5 72 hF rfl (fun hF => ?_) (fun hF => ?_)
   ·
    refine qn3 (qu rfl (qu rfl (qu rfl (qu rfl (qu rfl (qu rfl (qu rfl (qu rfl (qn rfl (qt (d9 (B5 rfl (ws 2305 2369 ?_)))))))))))))
    exact qb (d9 (j8 (g7 (f7 (f7 (g7 (g7 (f7 (f7 (g7 (f7 (eQ hF))))))))))))
   refine qg (AI x9) rfl rfl (qg (AB (decide ((0 : Int) < x9))) rfl rfl (qg (AB (decide ((0 : Int) < x9))) rfl rfl ?_))
   refine p5 75 hF rfl (fun hF => ?_) (fun hF => ?_)
   ·
    refine qg (AS u7) rfl rfl (qg (.ptr 0 0 2) rfl rfl (qg (.val none (K60 u0)) rfl rfl (qg (AI x9) rfl rfl (qg (AI (w64 (x9 - 1))) rfl rfl (bk hF fun u10 e10 hF => qg (.val none (.ptr [.str u10])) rfl (j4 rfl rfl e10 rfl) (qg (AS u10) rfl rfl (qg (AB (Op.bytesLess u7 u10 || decide (u7 = u10))) rfl rfl (qg (AB (Op.bytesLess u7 u10 || decide (u7 = u10))) rfl rfl (qr (AB (Op.bytesLess u7 u10 || decide (u7 = u10))) (d9 ?_))))))))))
    refine cF hF (fun hF => ws 2305 2369 (qb (d9 (j8 (g7 (f7 (f7 (g7 (g7 (f7 (f7 (g7 (f7 (eQ hF)))))))))))))) fun hF => ?_
    refine g9 (p6 (f5 (y4 2305 2433 rfl rfl (qr (AI (w64 (x9 + 1))) (qr (AI (w64 (x9 + 1))) (d9 (f5 ?_)))))))
    refine ar (l' := [(K63 v0), (4, .ptr 0 0 0), (K62 v0), (K61 v0), (13, AI x5), (50, .val none (K60 u0)), (51, AI (u0.2.2.length : Int)), (52, AI (w64 (x9 + 1)))]) (L := (K5v u0)) [0, 4, 11, 12, 13, 50, 51, 52] [(0, 0)] 1 ⟨_, by rfl, hF⟩
   refine qn8 (qg (AB false) rfl rfl (qb (d9 (H2 rfl (g9 (p6 (f5 (y4 2305 2433 rfl rfl (qr (AI (w64 (x9 + 1))) (qr (AI (w64 (x9 + 1))) (d9 ?_)))))))))))
   refine f5 ?_
   refine ar (l' := [(K63 v0), (4, .ptr 0 0 0), (K62 v0), (K61 v0), (13, AI x5), (50, .val none (K60 u0)), (51, AI (u0.2.2.length : Int)), (52, AI (w64 (x9 + 1)))]) (L := (K5v u0)) [0, 4, 11, 12, 13, 50, 51, 52] [(0, 0)] 1 ⟨_, by rfl, hF⟩
  refine z8 (j5 (j5 (s9 (p6 (f5 (y4 65 193 rfl rfl (qr (AI (w64 (x5 + 1))) (qr (AI (w64 (x5 + 1))) (d9 (f5 ?_))))))))))
  refine ar (l' := [(K63 v0), (K62 v0), (K61 v0), (13, AI (w64 (x5 + 1)))]) (L := []) [0, 11, 12, 13] [] 1 ⟨_, by rfl, hF⟩
 exact z8 (j5 (j5 (s9 (f5 (ws 65 129 (qt (rR hF)))))))

def c33 : MC := (sr [rg 1 (.f (.box t0)), pT 2 (.mv cf)] (sr [pT 3 (.fad t1 0), pT 4 (.ld t3 6 true), dT 5 77 [t4], mvt 6 5, kT 7 6 (.fad t1 6), kT 8 6 (.ld t7 1 false), ⟨(some 9), (some (6, true)), (.call true 78 [t8])⟩, pT 10 (.pick t6 t9 cf), mvt 11 10, kT 12 11 (.fad t1 7), kT 13 11 (.ld t12 2 true), ⟨(some 14), (some (11, true)), (.call true 79 [t13])⟩, pT 15 (.pick t11 t14 cf), mvt 16 15, kT 17 16 (.fad t1 9), kT 18 16 (.ld t17 1 false), ⟨(some 19), (some (16, true)), (.call true 80 [t18])⟩, pT 20 (.pick t16 t19 cf), mvt 21 20, kT 22 21 (.fad t1 10), kT 23 21 (.ld t22 1 false), ⟨(some 24), (some (21, true)), (.call true 81 [t23])⟩, pT 25 (.pick t21 t24 cf), mvt 26 25, kT 27 26 (.fad t1 11), kT 28 26 (.ld t27 1 false), ⟨(some 29), (some (26, true)), (.call true 82 [t28])⟩, pT 30 (.pick t26 t29 cf), mvt 31 30, kT 32 31 (.fad t1 12), kT 33 31 (.ld t32 1 false), ⟨(some 34), (some (31, true)), (.call true 83 [t33])⟩, pT 35 (.pick t31 t34 cf), mvt 36 35, kT 37 36 (.fad t1 13), kT 38 36 (.ld t37 1 false), ⟨(some 39), (some (36, true)), (.call true 84 [t38])⟩, pT 40 (.pick t36 t39 cf), mvt 41 40, kT 42 41 (.fad t1 14), kT 43 41 (.ld t42 1 false), ⟨(some 44), (some (41, true)), (.call true 85 [t43])⟩, pT 45 (.pick t41 t44 cf), mvt 2 45] .ret))
theorem c7K : IsF Tryz.prog 33 c33 [(.tmp 2)] := ⟨by kernel_rfl, by kernel_rfl⟩

def Y7 (v0 : y8) : Option (Bool) :=
 ((Y6 (v0.1, v0.2.1, v0.2.2.1, v0.2.2.2.1, v0.2.2.2.2.1, v0.2.2.2.2.2.1)).bind fun u0 => (bif u0 then ((S0 v0.2.2.2.2.2.2.1).bind fun u1 => (bif u1 then ((S6 (v0.2.2.2.2.2.2.2.1, v0.2.2.2.2.2.2.2.2.1)).bind fun u2 => (bif u2 then ((P7 v0.2.2.2.2.2.2.2.2.2.1).bind fun u3 => (bif u3 then ((L8 v0.2.2.2.2.2.2.2.2.2.2.1).bind fun u4 => (bif u4 then ((V5 v0.2.2.2.2.2.2.2.2.2.2.2.1).bind fun u5 => (bif u5 then ((V6 v0.2.2.2.2.2.2.2.2.2.2.2.2.1).bind fun u6 => (bif u6 then ((J8 v0.2.2.2.2.2.2.2.2.2.2.2.2.2.1).bind fun u7 => (bif u7 then ((Q4 v0.2.2.2.2.2.2.2.2.2.2.2.2.2.2).bind fun u8 => some u8)
 else some false))
 else some false))
 else some false))
 else some false))
 else some false))
 else some false))
 else some false))
 else some false))
@[simp] abbrev K64 (v0 : y8) : List (Nat × Root) := [(0, .box [AS v0.1, AL 1 (v0.2.1.map vI), AL 1 (v0.2.2.1.map vI), AI v0.2.2.2.1, AI v0.2.2.2.2.1, AL 1 (v0.2.2.2.2.2.1.map (eL 1 vI)), AL 2 (v0.2.2.2.2.2.2.1.map j3), AS v0.2.2.2.2.2.2.2.1, AL 2 (v0.2.2.2.2.2.2.2.2.1.map j3), AL 1 (v0.2.2.2.2.2.2.2.2.2.1.map (eL 1 vI)), AL 3 (v0.2.2.2.2.2.2.2.2.2.2.1.map p3), AL 2 (v0.2.2.2.2.2.2.2.2.2.2.2.1.map j3), AL 6 (v0.2.2.2.2.2.2.2.2.2.2.2.2.1.map A1), AL 5 (v0.2.2.2.2.2.2.2.2.2.2.2.2.2.1.map p8), AL 3 (v0.2.2.2.2.2.2.2.2.2.2.2.2.2.2.map p9)])]
@[simp] def a7V (r : Bool) : RV := .one (.one (.val (.bool r)))
theorem a8f {v0 : y8} {r : Bool} (hF : Y7 v0 = some r) : Con Tryz.prog 33 [a9S v0] (a7V r) := by
 unfold Y7 at hF
 refine p7 c7K.1 fun N => ?_
 refine ws 0 128 (qf (.ptr 0 0 0) (K64 v0) (by simp) (qb (d9 (ws 128 2944 (qr (.ptr 0 0 0) (qr (.agg [AS v0.1, AL 1 (v0.2.1.map vI), AL 1 (v0.2.2.1.map vI), AI v0.2.2.2.1, AI v0.2.2.2.2.1, AL 1 (v0.2.2.2.2.2.1.map (eL 1 vI))]) (bk hF fun u0 e0 hF => qC (AB u0) (K64 v0) (a7B e0) c7j (qr (AB u0) ?_))))))))
 refine p5 6 hF rfl (fun hF => ?_) (fun hF => ?_)
 ·
  refine qg (.ptr 0 0 6) rfl rfl (qg (AL 2 (v0.2.2.2.2.2.2.1.map j3)) rfl rfl (bk hF fun u1 e1 hF => qG (AB u1) (K64 v0) (a6p e1) c7T (qr (AB u1) (qr (AB u1) ?_))))
  refine p5 11 hF rfl (fun hF => ?_) (fun hF => ?_)
  ·
   refine qg (.ptr 0 0 7) rfl rfl (qg (.agg [AS v0.2.2.2.2.2.2.2.1, AL 2 (v0.2.2.2.2.2.2.2.2.1.map j3)]) rfl rfl (bk hF fun u2 e2 hF => qG (AB u2) (K64 v0) (a5Z e2) c6W (qr (AB u2) (qr (AB u2) ?_))))
   refine p5 16 hF rfl (fun hF => ?_) (fun hF => ?_)
   ·
    refine qg (.ptr 0 0 9) rfl rfl (qg (AL 1 (v0.2.2.2.2.2.2.2.2.2.1.map (eL 1 vI))) rfl rfl (bk hF fun u3 e3 hF => qG (AB u3) (K64 v0) (a5q e3) c7Z (qr (AB u3) (qr (AB u3) ?_))))
    refine p5 21 hF rfl (fun hF => ?_) (fun hF => ?_)
    ·
     refine qg (.ptr 0 0 10) rfl rfl (qg (AL 3 (v0.2.2.2.2.2.2.2.2.2.2.1.map p3)) rfl rfl (bk hF fun u4 e4 hF => qG (AB u4) (K64 v0) (a4h e4) c7c (qr (AB u4) (qr (AB u4) ?_))))
     refine p5 26 hF rfl (fun hF => ?_) (fun hF => ?_)
     ·
      refine qg (.ptr 0 0 11) rfl rfl (qg (AL 2 (v0.2.2.2.2.2.2.2.2.2.2.2.1.map j3)) rfl rfl (bk hF fun u5 e5 hF => qG (AB u5) (K64 v0) (a6T e5) c7I (qr (AB u5) (qr (AB u5) ?_))))
      refine p5 31 hF rfl (fun hF => ?_) (fun hF => ?_)
      ·
       refine qg (.ptr 0 0 12) rfl rfl (qg (AL 6 (v0.2.2.2.2.2.2.2.2.2.2.2.2.1.map A1)) rfl rfl (bk hF fun u6 e6 hF => qG (AB u6) (K64 v0) (a6R e6) c8C (qr (AB u6) (qr (AB u6) ?_))))
       refine p5 36 hF rfl (fun hF => ?_) (fun hF => ?_)
       ·
        refine qg (.ptr 0 0 13) rfl rfl (qg (AL 5 (v0.2.2.2.2.2.2.2.2.2.2.2.2.2.1.map p8)) rfl rfl (bk hF fun u7 e7 hF => qG (AB u7) (K64 v0) (a5n e7) c7s (qr (AB u7) (qr (AB u7) (p5 41 hF rfl (fun hF => qg (.ptr 0 0 14) rfl rfl (qg (AL 3 (v0.2.2.2.2.2.2.2.2.2.2.2.2.2.2.map p9)) rfl rfl (bk hF fun u8 e8 hF => qG (AB u8) (K64 v0) (a5e e8) c6P (qr (AB u8) (qr (AB u8) (rR hF)))))) fun hF => ?_)))))
        exact qn3 (qb (qb (rR hF)))
       exact qn3 (qb (qb (qn3 (qb (qb (rR hF))))))
      exact qn3 (qb (qb (qn3 (qb (qb (qn3 (qb (qb (rR hF)))))))))
     exact qn3 (qb (qb (qn3 (qb (qb (qn3 (qb (qb (qn rfl (qn2 (qb (qb (rR hF)))))))))))))
    refine qn3 (qb (qb (qn3 (qb (qb (qn3 (qb (qb (qn rfl ?_)))))))))
    exact qn2 (qb (qb (qn3 (qb (qb (rR hF))))))
   refine qn3 (qb (qb (qn3 (qb (qb (qn3 (qb (qb (qn rfl ?_)))))))))
   exact qn2 (qb (qb (qn3 (qb (qb (qn3 (qb (qb (rR hF)))))))))
  refine qn3 (qb (qb (qn3 (qb (qb (qn3 (qb (qb (qn rfl ?_)))))))))
  exact qn2 (qb (qb (qn3 (qb (qb (qn3 (qb (qb (qn2 (qn rfl (qb (qb (rR hF)))))))))))))
 refine qn3 (qb (qb (qn3 (qb (qb (qn3 (qb (qb (qn rfl ?_)))))))))
 refine qn2 (qb (qb (qn3 (qb (qb (qn3 (qb (qb (qn2 ?_)))))))))
 exact qn rfl (qb (qb (qn rfl (qn rfl (qn rfl (qb (qb (rR hF))))))))

theorem c5X : a1W Tryz.prog 86 = true := by kernel_rfl




def c34 : MC := (sr [pT 2 (.mv (.c (.str [])))] (sr [mvt 3 0, dT 4 86 [t3, (ci 10)], mvt 2 4] .ret))
theorem c8e : IsF Tryz.prog 34 c34 [(.tmp 2)] := ⟨by kernel_rfl, by kernel_rfl⟩

def X2 (v0 : Int) : Option (List UInt8) :=
 ((a2X v0 10).bind fun u0 => some u0)
@[simp] def b0V (r : List UInt8) : RV := .one (.one (.val (.str r)))
theorem b0k {v0 : Int} {r : List UInt8} (hF : X2 v0 = some r) : Con Tryz.prog 34 [.int .i64 v0] (b0V r) := by
 unfold X2 at hF
 refine p7 c8e.1 fun N => ?_
 exact ws 0 64 (qr (AS []) (d9 (ws 64 256 (qr (AI v0) (bk hF fun u0 e0 hF => qc (AS u0) [] false (b4K e0) c5X (by first | rfl | simp) rfl (qr (AS u0) (rR hF)))))))

def c7 : MC := (sr [rg 1 (.f (.box t0)), rg 2 (.f (.nilrow 1)), pT 3 (.mv (ci 0))] (.seq (sr [pT 8 (.ld t1 15 true), dT 9 33 [t8], pT 10 (.not t9)] (.cond t10 (sr [rg 2 (.f (.nilrow 1)), pT 3 (.mv (ci 1))] .ret) .skip)) (sr [pT 11 (.fad t1 6), lT 12 11, zT 13 12, rg 14 (.f (.bld [((.str []), (0, true)), ((.int .i64 0), (0, true))] [(0, (1, (.c (.str [110, 111, 116, 101, 115])))), (1, (1, t13))])), pT 15 (.fad t1 9), lT 16 15, zT 17 16, rg 18 (.f (.bld [((.str []), (0, true)), ((.int .i64 0), (0, true))] [(0, (1, (.c (.str [112, 104, 114, 97, 115, 101, 115])))), (1, (1, t17))])), pT 19 (.fad t1 10), lT 20 19, zT 21 20, rg 22 (.f (.bld [((.str []), (0, true)), ((.int .i64 0), (0, true))] [(0, (1, (.c (.str [115, 116, 114, 111, 107, 101, 115])))), (1, (1, t21))])), pT 23 (.fad t1 11), lT 24 23, zT 25 24, rg 26 (.f (.bld [((.str []), (0, true)), ((.int .i64 0), (0, true))] [(0, (1, (.c (.str [109, 97, 114, 107, 115])))), (1, (1, t25))])), pT 27 (.fad t1 12), lT 28 27, zT 29 28, rg 30 (.f (.bld [((.str []), (0, true)), ((.int .i64 0), (0, true))] [(0, (1, (.c (.str [105, 116, 101, 109, 115])))), (1, (1, t29))])), pT 31 (.fad t1 13), lT 32 31, zT 33 32, rg 34 (.f (.bld [((.str []), (0, true)), ((.int .i64 0), (0, true))] [(0, (1, (.c (.str [108, 101, 115, 115, 111, 110, 115])))), (1, (1, t33))])), pT 35 (.fad t1 14), lT 36 35, zT 37 36, rg 38 (.f (.bld [((.str []), (0, true)), ((.int .i64 0), (0, true))] [(0, (1, (.c (.str [112, 101, 114, 115, 111, 110, 115])))), (1, (1, t37))])), rg 39 (.f (.bsl 2 [t14, t18, t22, t26, t30, t34, t38])), mvt 4 39] (sr [rg 5 (.f (.nilrow 1))] (.seq (sr [mvt 40 4, zT 41 40, pT 42 (.mv (ci 0))] (.block 0 (.loop (sr [bT 43 .lss t42 t41] (.seq (cx t43 0) (.seq (.block 1 (sr [iT 44 40 42 2, pT 45 (.ld t44 2 true), rg 7 (.f (.alloc [((.str []), (0, false)), ((.int .i64 0), (0, false))])), ⟨none, none, (.f (.st t7 t45 2))⟩] (.reg [mP 46 t5, pF 47 (.fad t7 0), lF 48 47, pF 49 (.bin .add t48 (.c (.str [32]))), pF 50 (.fad t7 1), lF 51 50, dF 52 34 [t51], bF 53 .add t49 t52, rg 54 (.f (.bsl 1 [t53])), rg 55 (.f (.app t46 t54 1 16 true)), mP 5 t55]))) (.reg [bT 56 .add t42 (ci 1), mvt 42 56]))))))) (sr [mvt 57 5, mvt 2 57, pT 3 (.mv (ci 0))] .ret))))))
theorem c7_ : IsF Tryz.prog 7 c7 [(.tmp 2), (.tmp 3)] := ⟨by kernel_rfl, by kernel_rfl⟩

def V8 (v0 : y8) (k1 : Int × (List (List UInt8)) → Option ((List (List UInt8)) × Int)) : Int × (List (List UInt8)) → Option ((List (List UInt8)) × Int)
 | (x6, x7) => (bif (decide (x6 < (([([110, 111, 116, 101, 115], (v0.2.2.2.2.2.2.1.length : Int)), ([112, 104, 114, 97, 115, 101, 115], (v0.2.2.2.2.2.2.2.2.2.1.length : Int)), ([115, 116, 114, 111, 107, 101, 115], (v0.2.2.2.2.2.2.2.2.2.2.1.length : Int)), ([109, 97, 114, 107, 115], (v0.2.2.2.2.2.2.2.2.2.2.2.1.length : Int)), ([105, 116, 101, 109, 115], (v0.2.2.2.2.2.2.2.2.2.2.2.2.1.length : Int)), ([108, 101, 115, 115, 111, 110, 115], (v0.2.2.2.2.2.2.2.2.2.2.2.2.2.1.length : Int)), ([112, 101, 114, 115, 111, 110, 115], (v0.2.2.2.2.2.2.2.2.2.2.2.2.2.2.length : Int))] : List ((List UInt8) × Int)).length : Int))) then ((ix ([([110, 111, 116, 101, 115], (v0.2.2.2.2.2.2.1.length : Int)), ([112, 104, 114, 97, 115, 101, 115], (v0.2.2.2.2.2.2.2.2.2.1.length : Int)), ([115, 116, 114, 111, 107, 101, 115], (v0.2.2.2.2.2.2.2.2.2.2.1.length : Int)), ([109, 97, 114, 107, 115], (v0.2.2.2.2.2.2.2.2.2.2.2.1.length : Int)), ([105, 116, 101, 109, 115], (v0.2.2.2.2.2.2.2.2.2.2.2.2.1.length : Int)), ([108, 101, 115, 115, 111, 110, 115], (v0.2.2.2.2.2.2.2.2.2.2.2.2.2.1.length : Int)), ([112, 101, 114, 115, 111, 110, 115], (v0.2.2.2.2.2.2.2.2.2.2.2.2.2.2.length : Int))] : List ((List UInt8) × Int)) x6).bind fun u11 => (need (u11.1.length + ([32] : List UInt8).length < 9223372036854775808) (((X2 u11.2).bind fun u13 => (need ((u11.1 ++ ([32] : List UInt8)).length + u13.length < 9223372036854775808) ((need (room (x7.length + [(u11.1 ++ ([32] : List UInt8)) ++ u13].length) 16) (k1 (w64 (x6 + 1), x7 ++ [(u11.1 ++ ([32] : List UInt8)) ++ u13])))))))))
 else some (x7, 0))
def N9 (v0 : y8) : Option ((List (List UInt8)) × Int) :=
 ((Y7 v0).bind fun u0 => (bif (!u0) then some ([], 1)
 else loop (V8 v0) (0, [])))
@[simp] abbrev K6f (v0 : y8) : List AV := [AS v0.1, AL 1 (v0.2.1.map vI), AL 1 (v0.2.2.1.map vI), AI v0.2.2.2.1, AI v0.2.2.2.2.1, AL 1 (v0.2.2.2.2.2.1.map (eL 1 vI)), AL 2 (v0.2.2.2.2.2.2.1.map j3), AS v0.2.2.2.2.2.2.2.1, AL 2 (v0.2.2.2.2.2.2.2.2.1.map j3), AL 1 (v0.2.2.2.2.2.2.2.2.2.1.map (eL 1 vI)), AL 3 (v0.2.2.2.2.2.2.2.2.2.2.1.map p3), AL 2 (v0.2.2.2.2.2.2.2.2.2.2.2.1.map j3), AL 6 (v0.2.2.2.2.2.2.2.2.2.2.2.2.1.map A1), AL 5 (v0.2.2.2.2.2.2.2.2.2.2.2.2.2.1.map p8), AL 3 (v0.2.2.2.2.2.2.2.2.2.2.2.2.2.2.map p9)]
@[simp] abbrev K65 (v0 : y8) : List (Nat × Root) := [(0, .box (K6f v0))]
@[simp] abbrev K66 (v0 : y8) : List (Nat × Root) := ((64, .row true 1 (([] : List Int).map vI)) :: (K65 v0))
@[simp] abbrev K67 (v0 : y8) : List (Nat × Root) := ((2176, .row true 2 (([([110, 111, 116, 101, 115], (v0.2.2.2.2.2.2.1.length : Int)), ([112, 104, 114, 97, 115, 101, 115], (v0.2.2.2.2.2.2.2.2.2.1.length : Int)), ([115, 116, 114, 111, 107, 101, 115], (v0.2.2.2.2.2.2.2.2.2.2.1.length : Int)), ([109, 97, 114, 107, 115], (v0.2.2.2.2.2.2.2.2.2.2.2.1.length : Int)), ([105, 116, 101, 109, 115], (v0.2.2.2.2.2.2.2.2.2.2.2.2.1.length : Int)), ([108, 101, 115, 115, 111, 110, 115], (v0.2.2.2.2.2.2.2.2.2.2.2.2.2.1.length : Int)), ([112, 101, 114, 115, 111, 110, 115], (v0.2.2.2.2.2.2.2.2.2.2.2.2.2.2.length : Int))] : List ((List UInt8) × Int)).map eS8)) :: (K66 v0))
@[simp] abbrev K6b (v0 : y8) : Nat × Root := (1, .row true 2 (([([110, 111, 116, 101, 115], (v0.2.2.2.2.2.2.1.length : Int)), ([112, 104, 114, 97, 115, 101, 115], (v0.2.2.2.2.2.2.2.2.2.1.length : Int)), ([115, 116, 114, 111, 107, 101, 115], (v0.2.2.2.2.2.2.2.2.2.2.1.length : Int)), ([109, 97, 114, 107, 115], (v0.2.2.2.2.2.2.2.2.2.2.2.1.length : Int)), ([105, 116, 101, 109, 115], (v0.2.2.2.2.2.2.2.2.2.2.2.2.1.length : Int)), ([108, 101, 115, 115, 111, 110, 115], (v0.2.2.2.2.2.2.2.2.2.2.2.2.2.1.length : Int)), ([112, 101, 114, 115, 111, 110, 115], (v0.2.2.2.2.2.2.2.2.2.2.2.2.2.2.length : Int))] : List ((List UInt8) × Int)).map eS8))
@[simp] abbrev K68 (v0 : y8) (x7 : List (List UInt8)) : List (Nat × Root) := [(194, .box [AS [], AI 0]), (K6b v0), (0, .row true 1 (x7.map V.str))]
@[simp] abbrev K6a (u11 : (List UInt8) × Int) (u13 : List UInt8) (v0 : y8) (x7 : List (List UInt8)) : List (Nat × Root) := ((834, .row true 1 ([(u11.1 ++ ([32] : List UInt8)) ++ u13].map V.str)) :: (194, .box [AS u11.1, AI u11.2]) :: (K68 v0 x7))
@[simp] abbrev K6c (v0 : y8) : Nat × AV := (41, AI (([([110, 111, 116, 101, 115], (v0.2.2.2.2.2.2.1.length : Int)), ([112, 104, 114, 97, 115, 101, 115], (v0.2.2.2.2.2.2.2.2.2.1.length : Int)), ([115, 116, 114, 111, 107, 101, 115], (v0.2.2.2.2.2.2.2.2.2.2.1.length : Int)), ([109, 97, 114, 107, 115], (v0.2.2.2.2.2.2.2.2.2.2.2.1.length : Int)), ([105, 116, 101, 109, 115], (v0.2.2.2.2.2.2.2.2.2.2.2.2.1.length : Int)), ([108, 101, 115, 115, 111, 110, 115], (v0.2.2.2.2.2.2.2.2.2.2.2.2.2.1.length : Int)), ([112, 101, 114, 115, 111, 110, 115], (v0.2.2.2.2.2.2.2.2.2.2.2.2.2.2.length : Int))] : List ((List UInt8) × Int)).length : Int))
@[simp] abbrev K6d (v0 : y8) : Nat × AV := (40, .sl 1 0 (([([110, 111, 116, 101, 115], (v0.2.2.2.2.2.2.1.length : Int)), ([112, 104, 114, 97, 115, 101, 115], (v0.2.2.2.2.2.2.2.2.2.1.length : Int)), ([115, 116, 114, 111, 107, 101, 115], (v0.2.2.2.2.2.2.2.2.2.2.1.length : Int)), ([109, 97, 114, 107, 115], (v0.2.2.2.2.2.2.2.2.2.2.2.1.length : Int)), ([105, 116, 101, 109, 115], (v0.2.2.2.2.2.2.2.2.2.2.2.2.1.length : Int)), ([108, 101, 115, 115, 111, 110, 115], (v0.2.2.2.2.2.2.2.2.2.2.2.2.2.1.length : Int)), ([112, 101, 114, 115, 111, 110, 115], (v0.2.2.2.2.2.2.2.2.2.2.2.2.2.2.length : Int))] : List ((List UInt8) × Int)).length))
@[simp] abbrev K6e (v0 : y8) : AV := .sl 2176 0 (([([110, 111, 116, 101, 115], (v0.2.2.2.2.2.2.1.length : Int)), ([112, 104, 114, 97, 115, 101, 115], (v0.2.2.2.2.2.2.2.2.2.1.length : Int)), ([115, 116, 114, 111, 107, 101, 115], (v0.2.2.2.2.2.2.2.2.2.2.1.length : Int)), ([109, 97, 114, 107, 115], (v0.2.2.2.2.2.2.2.2.2.2.2.1.length : Int)), ([105, 116, 101, 109, 115], (v0.2.2.2.2.2.2.2.2.2.2.2.2.1.length : Int)), ([108, 101, 115, 115, 111, 110, 115], (v0.2.2.2.2.2.2.2.2.2.2.2.2.2.1.length : Int)), ([112, 101, 114, 115, 111, 110, 115], (v0.2.2.2.2.2.2.2.2.2.2.2.2.2.2.length : Int))] : List ((List UInt8) × Int)).length)
@[simp] def a1t (r : (List (List UInt8)) × Int) : RV := .tup [.one (.row true 1 (r.1.map V.str)), .one (.val (.int .i64 r.2))]
theorem a3h {v0 : y8} {r : (List (List UInt8)) × Int} (hF : N9 v0 = some r) : Con Tryz.prog 7 [a9S v0] (a1t r) := by
 unfold N9 at hF
 refine p7 c7_.1 fun N => ?_
 refine ws 0 192 (qf (.ptr 0 0 0) (K65 v0) (by simp) (qf (.sl 64 0 0) (K66 v0) (by simp) (qr (AI 0) (d9 (i8 (ws 192 384 (qr (.agg (K6f v0)) (bk hF fun u0 e0 hF => qC (AB u0) (K66 v0) (a8f e0) c7K (qr (AB (!u0)) (d9 ?_))))))))))
 refine cF hF (fun hF => ?_) fun hF => ?_
 ·
  exact ws 384 512 (qf (.sl 384 0 0) ((384, .row true 1 (([] : List (List UInt8)).map V.str)) :: (K66 v0)) (by simp) (qr (AI 1) (d9 (j8 (f7 (eQ hF))))))
 refine g9 (f5 (ws 384 2304 (qr (.ptr 0 0 6) (qr (AL 2 (v0.2.2.2.2.2.2.1.map j3)) (qp (AI (v0.2.2.2.2.2.2.1.length : Int)) (j0 rfl) (qf (.agg [AS [110, 111, 116, 101, 115], AI (v0.2.2.2.2.2.2.1.length : Int)]) (K66 v0) (by simp) (qr (.ptr 0 0 9) (qr (AL 1 (v0.2.2.2.2.2.2.2.2.2.1.map (eL 1 vI))) (qp (AI (v0.2.2.2.2.2.2.2.2.2.1.length : Int)) (j0 rfl) (qf (.agg [AS [112, 104, 114, 97, 115, 101, 115], AI (v0.2.2.2.2.2.2.2.2.2.1.length : Int)]) (K66 v0) (by simp) (qr (.ptr 0 0 10) (qr (AL 3 (v0.2.2.2.2.2.2.2.2.2.2.1.map p3)) (qp (AI (v0.2.2.2.2.2.2.2.2.2.2.1.length : Int)) (j0 rfl) ?_)))))))))))))
 refine qf (.agg [AS [115, 116, 114, 111, 107, 101, 115], AI (v0.2.2.2.2.2.2.2.2.2.2.1.length : Int)]) (K66 v0) (by simp) (qr (.ptr 0 0 11) (qr (AL 2 (v0.2.2.2.2.2.2.2.2.2.2.2.1.map j3)) (qp (AI (v0.2.2.2.2.2.2.2.2.2.2.2.1.length : Int)) (j0 rfl) (qf (.agg [AS [109, 97, 114, 107, 115], AI (v0.2.2.2.2.2.2.2.2.2.2.2.1.length : Int)]) (K66 v0) (by simp) (qr (.ptr 0 0 12) (qr (AL 6 (v0.2.2.2.2.2.2.2.2.2.2.2.2.1.map A1)) (qp (AI (v0.2.2.2.2.2.2.2.2.2.2.2.2.1.length : Int)) (j0 rfl) (qf (.agg [AS [105, 116, 101, 109, 115], AI (v0.2.2.2.2.2.2.2.2.2.2.2.2.1.length : Int)]) (K66 v0) (by simp) (qr (.ptr 0 0 13) (qr (AL 5 (v0.2.2.2.2.2.2.2.2.2.2.2.2.2.1.map p8)) (qp (AI (v0.2.2.2.2.2.2.2.2.2.2.2.2.2.1.length : Int)) (j0 rfl) (qf (.agg [AS [108, 101, 115, 115, 111, 110, 115], AI (v0.2.2.2.2.2.2.2.2.2.2.2.2.2.1.length : Int)]) (K66 v0) (by simp) ?_))))))))))))
 refine qr (.ptr 0 0 14) (qr (AL 3 (v0.2.2.2.2.2.2.2.2.2.2.2.2.2.2.map p9)) (qp (AI (v0.2.2.2.2.2.2.2.2.2.2.2.2.2.2.length : Int)) (j0 rfl) (qf (.agg [AS [112, 101, 114, 115, 111, 110, 115], AI (v0.2.2.2.2.2.2.2.2.2.2.2.2.2.2.length : Int)]) (K66 v0) (by simp) (qf (K6e v0) (K67 v0) (by simp [List.take_of_length_le]) (qr (K6e v0) (d9 (ws 2304 2368 (qf (.sl 2304 0 0) ((2304, .row true 1 (([] : List (List UInt8)).map V.str)) :: (K67 v0)) (by simp) (d9 (i8 (ws 2368 2560 ?_)))))))))))
 refine qr (K6e v0) (qr (AI (([([110, 111, 116, 101, 115], (v0.2.2.2.2.2.2.1.length : Int)), ([112, 104, 114, 97, 115, 101, 115], (v0.2.2.2.2.2.2.2.2.2.1.length : Int)), ([115, 116, 114, 111, 107, 101, 115], (v0.2.2.2.2.2.2.2.2.2.2.1.length : Int)), ([109, 97, 114, 107, 115], (v0.2.2.2.2.2.2.2.2.2.2.2.1.length : Int)), ([105, 116, 101, 109, 115], (v0.2.2.2.2.2.2.2.2.2.2.2.2.1.length : Int)), ([108, 101, 115, 115, 111, 110, 115], (v0.2.2.2.2.2.2.2.2.2.2.2.2.2.1.length : Int)), ([112, 101, 114, 115, 111, 110, 115], (v0.2.2.2.2.2.2.2.2.2.2.2.2.2.2.length : Int))] : List ((List UInt8) × Int)).length : Int)) (qr (AI 0) (d9 (j7 ?_))))
 refine wr (l' := [(5, .sl 0 0 0), (K6d v0), (K6c v0), (42, AI 0)]) (L := [(K6b v0), (0, .row true 1 (([] : List (List UInt8)).map V.str))]) [5, 40, 41, 42] [(2176, 1), (2304, 0)] 2 ?_
 refine y5 (V8 v0) (fun s : Int × (List (List UInt8)) => mkS [(5, .sl 0 0 s.2.length), (K6d v0), (K6c v0), (42, AI s.1)] (fo [(K6b v0), (0, .row true 1 (s.2.map V.str))]) 2) hF ?_
 rintro k1 ⟨x6, x7⟩ hF
 rw [V8] at hF
 try dsimp only
 refine ws 2 66 (qr (AB (decide (x6 < (([([110, 111, 116, 101, 115], (v0.2.2.2.2.2.2.1.length : Int)), ([112, 104, 114, 97, 115, 101, 115], (v0.2.2.2.2.2.2.2.2.2.1.length : Int)), ([115, 116, 114, 111, 107, 101, 115], (v0.2.2.2.2.2.2.2.2.2.2.1.length : Int)), ([109, 97, 114, 107, 115], (v0.2.2.2.2.2.2.2.2.2.2.2.1.length : Int)), ([105, 116, 101, 109, 115], (v0.2.2.2.2.2.2.2.2.2.2.2.2.1.length : Int)), ([108, 101, 115, 115, 111, 110, 115], (v0.2.2.2.2.2.2.2.2.2.2.2.2.2.1.length : Int)), ([112, 101, 114, 115, 111, 110, 115], (v0.2.2.2.2.2.2.2.2.2.2.2.2.2.2.length : Int))] : List ((List UInt8) × Int)).length : Int)))) (d9 (i8 ?_)))
 refine cF hF (fun hF => ?_) fun hF => ?_
 ·
  refine g9 (f5 (i8 (j7 (ws 66 322 (bk hF fun u11 e11 hF => qp (.ptr 1 x6.toNat 0) (B1 rfl (by simp) rfl rfl e11) (qp (.val none (eS8 u11)) (b2w rfl rfl (B9 e11).2 rfl rfl) (qf (.ptr 194 0 0) (K68 v0 x7) (by simp) (qf0 (.undef) ((194, .box [AS u11.1, AI u11.2]) :: (K68 v0 x7)) (by simp) (d9 (y4 322 1026 rfl rfl (qr (.sl 0 0 x7.length) (qr (.ptr 194 0 0) (qr (AS u11.1) (nk hF fun g12 hF => ?_))))))))))))))
  refine qp (AS (u11.1 ++ ([32] : List UInt8))) (a4n rfl rfl g12) (qr (.ptr 194 0 1) (qr (AI u11.2) (bk hF fun u13 e13 hF => qC (AS u13) ((194, .box [AS u11.1, AI u11.2]) :: (K68 v0 x7)) (b0k e13) c8e (nk hF fun g14 hF => qp (AS ((u11.1 ++ ([32] : List UInt8)) ++ u13)) (a4n rfl rfl g14) (qf (.sl 834 0 ([(u11.1 ++ ([32] : List UInt8)) ++ u13].length)) (K6a u11 u13 v0 x7) (by simp [List.take_of_length_le]) (nk hF fun g15 hF => qf (.sl 898 0 ((x7 ++ [(u11.1 ++ ([32] : List UInt8)) ++ u13]).length)) ((898, .row true 1 ((x7 ++ [(u11.1 ++ ([32] : List UInt8)) ++ u13]).map V.str)) :: (0, .dead) :: (834, .dead) :: (K6a u11 u13 v0 x7)) (a0b rfl (by simp) rfl rfl (by simp) rfl (by decide) g15 rfl) (qr (.sl 898 0 ((x7 ++ [(u11.1 ++ ([32] : List UInt8)) ++ u13]).length)) (d9 (p6 (f5 (y4 1026 1154 rfl rfl (qr (AI (w64 (x6 + 1))) (qr (AI (w64 (x6 + 1))) (d9 ?_))))))))))))))
  refine f5 ?_
  refine ar (l' := [(5, .sl 0 0 (x7 ++ [(u11.1 ++ ([32] : List UInt8)) ++ u13]).length), (K6d v0), (K6c v0), (42, AI (w64 (x6 + 1)))]) (L := [(K6b v0), (0, .row true 1 ((x7 ++ [(u11.1 ++ ([32] : List UInt8)) ++ u13]).map V.str))]) [5, 40, 41, 42] [(1, 1), (898, 0)] 2 ⟨_, by rfl, hF⟩
 exact z8 (j5 (j5 (s9 (f5 (ws 66 258 (qr (.sl 0 0 x7.length) (qr (.sl 0 0 x7.length) (qr (AI 0) (rR hF)))))))))

def c8 : MC := (sr [pT 4 (.mv cf)] (.seq (sr [mvt 6 0, zT 7 6, mvt 8 1, zT 9 8, bT 10 .neq t7 t9] (.cond t10 (sr [pT 4 (.mv cf)] .ret) .skip)) (.seq (sr [pT 5 (.mv (ci 0))] (.block 0 (.loop (.seq (sr [mvt 11 5, mvt 12 0, zT 13 12, bT 14 .lss t11 t13] (cx t14 0)) (.seq (.block 1 (sr [mP 17 t0, mP 18 t5, iF 19 17 18 1, lF 20 19, mP 21 t1, mP 22 t5, iF 23 21 22 1, lF 24 23, bF 25 .neq t20 t24] (.cond t25 (sr [pT 4 (.mv cf)] .ret) .skip))) (.reg [mvt 15 5, bT 16 .add t15 (ci 1), mvt 5 16])))))) (sr [pT 4 (.mv ct)] .ret))))
theorem c8_ : IsF Tryz.prog 8 c8 [(.tmp 4)] := ⟨by kernel_rfl, by kernel_rfl⟩

def Q3 (v0 : List (List UInt8)) (v1 : List (List UInt8)) (k0 : Int → Option (Bool)) : Int → Option (Bool)
 | x1 => (bif (decide (x1 < (v0.length : Int))) then ((ix v0 x1).bind fun u0 => ((ix v1 x1).bind fun u1 => (bif (decide (u0 ≠ u1)) then some false
 else k0 (w64 (x1 + 1)))))
 else some true)
def I0 (v0 : List (List UInt8)) (v1 : List (List UInt8)) : Option (Bool) :=
 (bif (decide ((v0.length : Int) ≠ (v1.length : Int))) then some false
 else loop (Q3 v0 v1) 0)
@[simp] def a8k (r : Bool) : RV := .one (.one (.val (.bool r)))
theorem Z9 {v0 : List (List UInt8)} {v1 : List (List UInt8)} {r : Bool} (hF : I0 v0 v1 = some r) : Con Tryz.prog 8 [.sl 1 (v0.map V.str), .sl 1 (v1.map V.str)] (a8k r) := by
 unfold I0 at hF
 refine p7 c8_.1 fun N => ?_
 refine ws 0 64 (qb (d9 (i8 (ws 64 384 (qr (AL 1 (v0.map V.str)) (qp (AI (v0.length : Int)) (j0 rfl) (qr (AL 1 (v1.map V.str)) (qp (AI (v1.length : Int)) (j0 rfl) (qr (AB (decide ((v0.length : Int) ≠ (v1.length : Int)))) (d9 ?_))))))))))
 refine cF hF (fun hF => ws 384 448 (qb (d9 (j8 (f7 (eQ hF)))))) fun hF => g9 (f5 (i8 (ws 384 448 (qr (AI 0) (d9 (j7 ?_))))))
 refine wr (l' := [(0, AL 1 (v0.map V.str)), (1, AL 1 (v1.map V.str)), (5, AI 0)]) (L := []) [0, 1, 5] [] 1 ?_
 refine y5 (Q3 v0 v1) (fun s : Int => mkS [(0, AL 1 (v0.map V.str)), (1, AL 1 (v1.map V.str)), (5, AI s)] (fo []) 1) hF ?_
 rintro k0 x1 hF
 rw [Q3] at hF
 try dsimp only
 refine i8 (ws 1 257 (qr (AI x1) (qr (AL 1 (v0.map V.str)) (qp (AI (v0.length : Int)) (j0 rfl) (qr (AB (decide (x1 < (v0.length : Int)))) (d9 ?_))))))
 refine cF hF (fun hF => ?_) fun hF => ?_
 ·
  refine g9 (f5 (i8 (j7 (ws 257 833 (qr (AL 1 (v0.map V.str)) (qr (AI x1) (bk hF fun u0 e0 hF => qp (.val none (.ptr [.str u0])) (j4 rfl rfl e0 rfl) (qr (AS u0) (qr (AL 1 (v1.map V.str)) (qr (AI x1) (bk hF fun u1 e1 hF => qp (.val none (.ptr [.str u1])) (j4 rfl rfl e1 rfl) (qr (AS u1) (qr (AB (decide (u0 ≠ u1))) (d9 ?_))))))))))))))
  refine cF hF (fun hF => ws 833 897 (qb (d9 (j8 (g7 (f7 (f7 (g7 (f7 (eQ hF)))))))))) fun hF => ?_
  refine g9 (p6 (f5 (y4 833 1025 rfl rfl (qr (AI x1) (qr (AI (w64 (x1 + 1))) (qr (AI (w64 (x1 + 1))) (d9 (f5 ?_))))))))
  refine ar (l' := [(0, AL 1 (v0.map V.str)), (1, AL 1 (v1.map V.str)), (5, AI (w64 (x1 + 1)))]) (L := []) [0, 1, 5] [] 1 ⟨_, by rfl, hF⟩
 exact z8 (j5 (j5 (s9 (f5 (ws 257 321 (qt (rR hF)))))))

def c87 : MC := (sr [pT 4 (.mv cf)] (.seq (sr [mvt 6 0, zT 7 6, mvt 8 1, zT 9 8, bT 10 .neq t7 t9] (.cond t10 (sr [pT 4 (.mv cf)] .ret) .skip)) (.seq (sr [pT 5 (.mv (ci 0))] (.block 0 (.loop (.seq (sr [mvt 11 5, mvt 12 0, zT 13 12, bT 14 .lss t11 t13] (cx t14 0)) (.seq (.block 1 (sr [mP 17 t0, mP 18 t5, iF 19 17 18 1, lF 20 19, mP 21 t1, mP 22 t5, iF 23 21 22 1, lF 24 23, bF 25 .neq t20 t24] (.cond t25 (sr [pT 4 (.mv cf)] .ret) .skip))) (.reg [mvt 15 5, bT 16 .add t15 (ci 1), mvt 5 16])))))) (sr [pT 4 (.mv ct)] .ret))))
theorem c4o : IsF Tryz.prog 87 c87 [(.tmp 4)] := ⟨by kernel_rfl, by kernel_rfl⟩

def T3 (v0 : List Int) (v1 : List Int) (k0 : Int → Option (Bool)) : Int → Option (Bool)
 | x1 => (bif (decide (x1 < (v0.length : Int))) then ((ix v0 x1).bind fun u0 => ((ix v1 x1).bind fun u1 => (bif (decide (u0 ≠ u1)) then some false
 else k0 (w64 (x1 + 1)))))
 else some true)
def O3 (v0 : List Int) (v1 : List Int) : Option (Bool) :=
 (bif (decide ((v0.length : Int) ≠ (v1.length : Int))) then some false
 else loop (T3 v0 v1) 0)
@[simp] abbrev K6g (v0 : List Int) : V := .sl 1 (v0.map vI)
@[simp] def a8Y (r : Bool) : RV := .one (.one (.val (.bool r)))
theorem a2l {v0 : List Int} {v1 : List Int} {r : Bool} (hF : O3 v0 v1 = some r) : Con Tryz.prog 87 [.sl 1 (v0.map vI), .sl 1 (v1.map vI)] (a8Y r) := by
 unfold O3 at hF
 refine p7 c4o.1 fun N => ?_
 refine ws 0 64 (qb (d9 (i8 (ws 64 384 (qr (.val none (K6g v0)) (qp (AI (v0.length : Int)) (j0 rfl) (qr (AL 1 (v1.map vI)) (qp (AI (v1.length : Int)) (j0 rfl) (qr (AB (decide ((v0.length : Int) ≠ (v1.length : Int)))) (d9 ?_))))))))))
 refine cF hF (fun hF => ws 384 448 (qb (d9 (j8 (f7 (eQ hF)))))) fun hF => g9 (f5 (i8 (ws 384 448 (qr (AI 0) (d9 (j7 ?_))))))
 refine wr (l' := [(0, .val none (K6g v0)), (1, AL 1 (v1.map vI)), (5, AI 0)]) (L := []) [0, 1, 5] [] 1 ?_
 refine y5 (T3 v0 v1) (fun s : Int => mkS [(0, .val none (K6g v0)), (1, AL 1 (v1.map vI)), (5, AI s)] (fo []) 1) hF ?_
 rintro k0 x1 hF
 rw [T3] at hF
 try dsimp only
 refine i8 (ws 1 257 (qr (AI x1) (qr (.val none (K6g v0)) (qp (AI (v0.length : Int)) (j0 rfl) (qr (AB (decide (x1 < (v0.length : Int)))) (d9 ?_))))))
 refine cF hF (fun hF => ?_) fun hF => ?_
 ·
  refine g9 (f5 (i8 (j7 (ws 257 833 (qr (.val none (K6g v0)) (qr (AI x1) (bk hF fun u0 e0 hF => qp (.val none (.ptr [.int .i64 u0])) (j4 rfl rfl e0 rfl) (qr (AI u0) (qr (AL 1 (v1.map vI)) (qr (AI x1) (bk hF fun u1 e1 hF => qp (.val none (.ptr [.int .i64 u1])) (j4 rfl rfl e1 rfl) (qr (AI u1) (qr (AB (decide (u0 ≠ u1))) (d9 ?_))))))))))))))
  refine cF hF (fun hF => ws 833 897 (qb (d9 (j8 (g7 (f7 (f7 (g7 (f7 (eQ hF)))))))))) fun hF => ?_
  refine g9 (p6 (f5 (y4 833 1025 rfl rfl (qr (AI x1) (qr (AI (w64 (x1 + 1))) (qr (AI (w64 (x1 + 1))) (d9 (f5 ?_))))))))
  refine ar (l' := [(0, .val none (K6g v0)), (1, AL 1 (v1.map vI)), (5, AI (w64 (x1 + 1)))]) (L := []) [0, 1, 5] [] 1 ⟨_, by rfl, hF⟩
 exact z8 (j5 (j5 (s9 (f5 (ws 257 321 (qt (rR hF)))))))

def c38 : MC := (sr [pT 4 (.mv cf)] (.seq (sr [mvt 6 0, zT 7 6, mvt 8 1, zT 9 8, bT 10 .neq t7 t9] (.cond t10 (sr [pT 4 (.mv cf)] .ret) .skip)) (.seq (sr [pT 5 (.mv (ci 0))] (.block 0 (.loop (.seq (sr [mvt 11 5, mvt 12 0, zT 13 12, bT 14 .lss t11 t13] (cx t14 0)) (.seq (.block 1 (sr [mP 17 t0, mP 18 t5, iF 19 17 18 1, lF 20 19, mP 21 t1, mP 22 t5, iF 23 21 22 1, lF 24 23, dF 25 87 [t20, t24], pF 26 (.not t25)] (.cond t26 (sr [pT 4 (.mv cf)] .ret) .skip))) (.reg [mvt 15 5, bT 16 .add t15 (ci 1), mvt 5 16])))))) (sr [pT 4 (.mv ct)] .ret))))
theorem c6C : IsF Tryz.prog 38 c38 [(.tmp 4)] := ⟨by kernel_rfl, by kernel_rfl⟩

def Q5 (v0 : List (List Int)) (v1 : List (List Int)) (k0 : Int → Option (Bool)) : Int → Option (Bool)
 | x1 => (bif (decide (x1 < (v0.length : Int))) then ((ix v0 x1).bind fun u0 => ((ix v1 x1).bind fun u1 => ((O3 u0 u1).bind fun u2 => (bif (!u2) then some false
 else k0 (w64 (x1 + 1))))))
 else some true)
def Q8 (v0 : List (List Int)) (v1 : List (List Int)) : Option (Bool) :=
 (bif (decide ((v0.length : Int) ≠ (v1.length : Int))) then some false
 else loop (Q5 v0 v1) 0)
@[simp] abbrev K6h (v0 : List (List Int)) : V := .sl 1 (v0.map (eL 1 vI))
@[simp] abbrev K6i (v1 : List (List Int)) : V := .sl 1 (v1.map (eL 1 vI))
@[simp] def a7W (r : Bool) : RV := .one (.one (.val (.bool r)))
theorem a3z {v0 : List (List Int)} {v1 : List (List Int)} {r : Bool} (hF : Q8 v0 v1 = some r) : Con Tryz.prog 38 [.sl 1 (v0.map (eL 1 vI)), .sl 1 (v1.map (eL 1 vI))] (a7W r) := by
 unfold Q8 at hF
 refine p7 c6C.1 fun N => ?_
 refine ws 0 64 (qb (d9 (i8 (ws 64 384 (qr (.val none (K6h v0)) (qp (AI (v0.length : Int)) (j0 rfl) (qr (.val none (K6i v1)) (qp (AI (v1.length : Int)) (j0 rfl) (qr (AB (decide ((v0.length : Int) ≠ (v1.length : Int)))) (d9 ?_))))))))))
 refine cF hF (fun hF => ws 384 448 (qb (d9 (j8 (f7 (eQ hF)))))) fun hF => g9 (f5 (i8 (ws 384 448 (qr (AI 0) (d9 (j7 ?_))))))
 refine wr (l' := [(0, .val none (K6h v0)), (1, .val none (K6i v1)), (5, AI 0)]) (L := []) [0, 1, 5] [] 1 ?_
 refine y5 (Q5 v0 v1) (fun s : Int => mkS [(0, .val none (K6h v0)), (1, .val none (K6i v1)), (5, AI s)] (fo []) 1) hF ?_
 rintro k0 x1 hF
 rw [Q5] at hF
 try dsimp only
 refine i8 (ws 1 257 (qr (AI x1) (qr (.val none (K6h v0)) (qp (AI (v0.length : Int)) (j0 rfl) (qr (AB (decide (x1 < (v0.length : Int)))) (d9 ?_))))))
 refine cF hF (fun hF => ?_) fun hF => ?_
 ·
  refine g9 (f5 (i8 (j7 (ws 257 897 (qr (.val none (K6h v0)) (qr (AI x1) (bk hF fun u0 e0 hF => qp (.val none (.ptr [.sl 1 (u0.map vI)])) (j4 rfl rfl e0 rfl) (qr (AL 1 (u0.map vI)) (qr (.val none (K6i v1)) (qr (AI x1) (bk hF fun u1 e1 hF => qp (.val none (.ptr [.sl 1 (u1.map vI)])) (j4 rfl rfl e1 rfl) (qr (AL 1 (u1.map vI)) (bk hF fun u2 e2 hF => qC (AB u2) [] (a2l e2) c4o (qr (AB (!u2)) (d9 ?_)))))))))))))))
  refine cF hF (fun hF => ws 897 961 (qb (d9 (j8 (g7 (f7 (f7 (g7 (f7 (eQ hF)))))))))) fun hF => ?_
  refine g9 (p6 (f5 (y4 897 1089 rfl rfl (qr (AI x1) (qr (AI (w64 (x1 + 1))) (qr (AI (w64 (x1 + 1))) (d9 (f5 ?_))))))))
  refine ar (l' := [(0, .val none (K6h v0)), (1, .val none (K6i v1)), (5, AI (w64 (x1 + 1)))]) (L := []) [0, 1, 5] [] 1 ⟨_, by rfl, hF⟩
 exact z8 (j5 (j5 (s9 (f5 (ws 257 321 (qt (rR hF)))))))

def c35 : MC := (sr [rg 2 (.f (.box t0)), rg 3 (.f (.box t1)), pT 4 (.mv cf)] (.seq (sr [pT 5 (.fad t2 0), lT 6 5, pT 7 (.fad t3 0), lT 8 7, bT 9 .neq t6 t8] (.cond t9 (sr [pT 4 (.mv cf)] .ret) .skip)) (.seq (sr [pT 10 (.fad t2 1), lT 11 10, pT 12 (.fad t3 1), lT 13 12, dT 14 87 [t11, t13], pT 15 (.not t14)] (.cond t15 (sr [pT 4 (.mv cf)] .ret) .skip)) (.seq (sr [pT 16 (.fad t2 2), lT 17 16, pT 18 (.fad t3 2), lT 19 18, dT 20 87 [t17, t19], pT 21 (.not t20)] (.cond t21 (sr [pT 4 (.mv cf)] .ret) .skip)) (.seq (sr [pT 22 (.fad t2 3), lT 23 22, pT 24 (.fad t3 3), lT 25 24, bT 26 .neq t23 t25] (.cond t26 (sr [pT 4 (.mv cf)] .ret) .skip)) (.seq (sr [pT 27 (.fad t2 4), lT 28 27, pT 29 (.fad t3 4), lT 30 29, bT 31 .neq t28 t30] (.cond t31 (sr [pT 4 (.mv cf)] .ret) .skip)) (.seq (sr [pT 32 (.fad t2 5), lT 33 32, pT 34 (.fad t3 5), lT 35 34, dT 36 38 [t33, t35], pT 37 (.not t36)] (.cond t37 (sr [pT 4 (.mv cf)] .ret) .skip)) (sr [pT 4 (.mv ct)] .ret))))))))
theorem c7g : IsF Tryz.prog 35 c35 [(.tmp 4)] := ⟨by kernel_rfl, by kernel_rfl⟩

def a1H (v0 : A8) (v1 : A8) : Option (Bool) :=
 (bif (decide (v0.1 ≠ v1.1)) then some false
 else ((O3 v0.2.1 v1.2.1).bind fun u0 => (bif (!u0) then some false
 else ((O3 v0.2.2.1 v1.2.2.1).bind fun u1 => (bif (!u1) then some false
 else (bif (decide (v0.2.2.2.1 ≠ v1.2.2.2.1)) then some false
 else (bif (decide (v0.2.2.2.2.1 ≠ v1.2.2.2.2.1)) then some false
 else ((Q8 v0.2.2.2.2.2 v1.2.2.2.2.2).bind fun u2 => (bif (!u2) then some false
 else some true)))))))))
@[simp] abbrev K6j (v0 : A8) : List (Nat × Root) := [(0, .box [AS v0.1, AL 1 (v0.2.1.map vI), AL 1 (v0.2.2.1.map vI), AI v0.2.2.2.1, AI v0.2.2.2.2.1, AL 1 (v0.2.2.2.2.2.map (eL 1 vI))])]
@[simp] abbrev K6k (v1 : A8) (v0 : A8) : List (Nat × Root) := ((64, .box [AS v1.1, AL 1 (v1.2.1.map vI), AL 1 (v1.2.2.1.map vI), AI v1.2.2.2.1, AI v1.2.2.2.2.1, AL 1 (v1.2.2.2.2.2.map (eL 1 vI))]) :: (K6j v0))
@[simp] def b1F (r : Bool) : RV := .one (.one (.val (.bool r)))
theorem b1K {v0 : A8} {v1 : A8} {r : Bool} (hF : a1H v0 v1 = some r) : Con Tryz.prog 35 [b3m v0, b3m v1] (b1F r) := by
 unfold a1H at hF
 refine p7 c7g.1 fun N => ?_
 refine ws 0 192 (qf (.ptr 0 0 0) (K6j v0) (by simp) (qf (.ptr 64 0 0) (K6k v1 v0) (by simp) (qb (d9 (i8 (ws 192 512 (qr (.ptr 0 0 0) (qr (AS v0.1) (qr (.ptr 64 0 0) (qr (AS v1.1) (qr (AB (decide (v0.1 ≠ v1.1))) (d9 ?_))))))))))))
 refine cF hF (fun hF => ws 512 576 (qb (d9 (j8 (f7 (eQ hF)))))) fun hF => g9 (f5 (i8 (ws 512 896 (qr (.ptr 0 0 1) (qr (AL 1 (v0.2.1.map vI)) (qr (.ptr 64 0 1) (qr (AL 1 (v1.2.1.map vI)) (bk hF fun u0 e0 hF => qC (AB u0) (K6k v1 v0) (a2l e0) c4o (qr (AB (!u0)) (d9 ?_))))))))))
 refine cF hF (fun hF => ws 896 960 (qb (d9 (j8 (f7 (eQ hF)))))) fun hF => g9 (f5 (i8 (ws 896 1280 (qr (.ptr 0 0 2) (qr (AL 1 (v0.2.2.1.map vI)) (qr (.ptr 64 0 2) (qr (AL 1 (v1.2.2.1.map vI)) (bk hF fun u1 e1 hF => qC (AB u1) (K6k v1 v0) (a2l e1) c4o (qr (AB (!u1)) (d9 ?_))))))))))
 refine cF hF (fun hF => ws 1280 1344 (qb (d9 (j8 (f7 (eQ hF)))))) fun hF => g9 (f5 (i8 (ws 1280 1600 (qr (.ptr 0 0 3) (qr (AI v0.2.2.2.1) (qr (.ptr 64 0 3) (qr (AI v1.2.2.2.1) (qr (AB (decide (v0.2.2.2.1 ≠ v1.2.2.2.1))) (d9 ?_)))))))))
 refine cF hF (fun hF => ws 1600 1664 (qb (d9 (j8 (f7 (eQ hF)))))) fun hF => g9 (f5 (i8 (ws 1600 1920 (qr (.ptr 0 0 4) (qr (AI v0.2.2.2.2.1) (qr (.ptr 64 0 4) (qr (AI v1.2.2.2.2.1) (qr (AB (decide (v0.2.2.2.2.1 ≠ v1.2.2.2.2.1))) (d9 ?_)))))))))
 refine cF hF (fun hF => ws 1920 1984 (qb (d9 (j8 (f7 (eQ hF)))))) fun hF => g9 (f5 (i8 (ws 1920 2304 (qr (.ptr 0 0 5) (qr (AL 1 (v0.2.2.2.2.2.map (eL 1 vI))) (qr (.ptr 64 0 5) (qr (AL 1 (v1.2.2.2.2.2.map (eL 1 vI))) (bk hF fun u2 e2 hF => qC (AB u2) (K6k v1 v0) (a3z e2) c6C (qr (AB (!u2)) (d9 ?_))))))))))
 refine cF hF (fun hF => ws 2304 2368 (qb (d9 (j8 (f7 (eQ hF)))))) fun hF => ?_
 exact g9 (f5 (ws 2304 2368 (qt (rR hF))))

def c88 : MC := (sr [rg 2 (.f (.box t0)), rg 3 (.f (.box t1)), pT 4 (.mv cf)] (.seq (sr [pT 5 (.fad t2 0), lT 6 5, pT 7 (.fad t3 0), lT 8 7, bT 9 .neq t6 t8] (.cond t9 (sr [pT 4 (.mv cf)] .ret) .skip)) (.seq (sr [pT 10 (.fad t2 1), lT 11 10, pT 12 (.fad t3 1), lT 13 12, bT 14 .neq t11 t13] (.cond t14 (sr [pT 4 (.mv cf)] .ret) .skip)) (sr [pT 4 (.mv ct)] .ret))))
theorem c6Y : IsF Tryz.prog 88 c88 [(.tmp 4)] := ⟨by kernel_rfl, by kernel_rfl⟩

def a1P (v0 : j6) (v1 : j6) : Option (Bool) :=
 (bif (decide (v0.1 ≠ v1.1)) then some false
 else (bif (decide (v0.2 ≠ v1.2)) then some false
 else some true))
@[simp] def b1Q (r : Bool) : RV := .one (.one (.val (.bool r)))
theorem b1E {v0 : j6} {v1 : j6} {r : Bool} (hF : a1P v0 v1 = some r) : Con Tryz.prog 88 [j3 v0, j3 v1] (b1Q r) := by
 unfold a1P at hF
 refine p7 c6Y.1 fun N => ?_
 refine ws 0 192 (qf (.ptr 0 0 0) [(0, .box [AI v0.1, AI v0.2])] (by simp) (qf (.ptr 64 0 0) [(64, .box [AI v1.1, AI v1.2]), (0, .box [AI v0.1, AI v0.2])] (by simp) (qb (d9 (i8 (ws 192 512 (qr (.ptr 0 0 0) (qr (AI v0.1) (qr (.ptr 64 0 0) (qr (AI v1.1) (qr (AB (decide (v0.1 ≠ v1.1))) (d9 ?_))))))))))))
 refine cF hF (fun hF => ws 512 576 (qb (d9 (j8 (f7 (eQ hF)))))) fun hF => g9 (f5 (i8 (ws 512 832 (qr (.ptr 0 0 1) (qr (AI v0.2) (qr (.ptr 64 0 1) (qr (AI v1.2) (qr (AB (decide (v0.2 ≠ v1.2))) (d9 ?_)))))))))
 refine cF hF (fun hF => ws 832 896 (qb (d9 (j8 (f7 (eQ hF)))))) fun hF => ?_
 exact g9 (f5 (ws 832 896 (qt (rR hF))))

def c36 : MC := (sr [pT 4 (.mv cf)] (.seq (sr [mvt 6 0, zT 7 6, mvt 8 1, zT 9 8, bT 10 .neq t7 t9] (.cond t10 (sr [pT 4 (.mv cf)] .ret) .skip)) (.seq (sr [pT 5 (.mv (ci 0))] (.block 0 (.loop (.seq (sr [mvt 11 5, mvt 12 0, zT 13 12, bT 14 .lss t11 t13] (cx t14 0)) (.seq (.block 1 (sr [mP 17 t0, mP 18 t5, iF 19 17 18 2, pF 20 (.ld t19 2 true), mP 21 t1, mP 22 t5, iF 23 21 22 2, pF 24 (.ld t23 2 true), dF 25 88 [t20, t24], pF 26 (.not t25)] (.cond t26 (sr [pT 4 (.mv cf)] .ret) .skip))) (.reg [mvt 15 5, bT 16 .add t15 (ci 1), mvt 5 16])))))) (sr [pT 4 (.mv ct)] .ret))))
theorem c6S : IsF Tryz.prog 36 c36 [(.tmp 4)] := ⟨by kernel_rfl, by kernel_rfl⟩

def W8 (v0 : List j6) (v1 : List j6) (k0 : Int → Option (Bool)) : Int → Option (Bool)
 | x1 => (bif (decide (x1 < (v0.length : Int))) then ((ix v0 x1).bind fun u0 => ((ix v1 x1).bind fun u1 => ((a1P u0 u1).bind fun u2 => (bif (!u2) then some false
 else k0 (w64 (x1 + 1))))))
 else some true)
def a1a (v0 : List j6) (v1 : List j6) : Option (Bool) :=
 (bif (decide ((v0.length : Int) ≠ (v1.length : Int))) then some false
 else loop (W8 v0 v1) 0)
@[simp] def a9V (r : Bool) : RV := .one (.one (.val (.bool r)))
theorem b0h {v0 : List j6} {v1 : List j6} {r : Bool} (hF : a1a v0 v1 = some r) : Con Tryz.prog 36 [.sl 2 (v0.map j3), .sl 2 (v1.map j3)] (a9V r) := by
 unfold a1a at hF
 refine p7 c6S.1 fun N => ?_
 refine ws 0 64 (qb (d9 (i8 (ws 64 384 (qr (AL 2 (v0.map j3)) (qp (AI (v0.length : Int)) (j0 rfl) (qr (AL 2 (v1.map j3)) (qp (AI (v1.length : Int)) (j0 rfl) (qr (AB (decide ((v0.length : Int) ≠ (v1.length : Int)))) (d9 ?_))))))))))
 refine cF hF (fun hF => ws 384 448 (qb (d9 (j8 (f7 (eQ hF)))))) fun hF => g9 (f5 (i8 (ws 384 448 (qr (AI 0) (d9 (j7 ?_))))))
 refine wr (l' := [(0, AL 2 (v0.map j3)), (1, AL 2 (v1.map j3)), (5, AI 0)]) (L := []) [0, 1, 5] [] 1 ?_
 refine y5 (W8 v0 v1) (fun s : Int => mkS [(0, AL 2 (v0.map j3)), (1, AL 2 (v1.map j3)), (5, AI s)] (fo []) 1) hF ?_
 rintro k0 x1 hF
 rw [W8] at hF
 try dsimp only
 refine i8 (ws 1 257 (qr (AI x1) (qr (AL 2 (v0.map j3)) (qp (AI (v0.length : Int)) (j0 rfl) (qr (AB (decide (x1 < (v0.length : Int)))) (d9 ?_))))))
 refine cF hF (fun hF => ?_) fun hF => ?_
 ·
  refine g9 (f5 (i8 (j7 (ws 257 897 (qr (AL 2 (v0.map j3)) (qr (AI x1) (bk hF fun u0 e0 hF => qp (.val none (.ptr [.int .i64 u0.1, .int .i64 u0.2])) (j4 rfl rfl e0 rfl) (qr (.val none (j3 u0)) (qr (AL 2 (v1.map j3)) (qr (AI x1) (bk hF fun u1 e1 hF => qp (.val none (.ptr [.int .i64 u1.1, .int .i64 u1.2])) (j4 rfl rfl e1 rfl) (qr (.val none (j3 u1)) (bk hF fun u2 e2 hF => qC (AB u2) [] (b1E e2) c6Y (qr (AB (!u2)) (d9 ?_)))))))))))))))
  refine cF hF (fun hF => ws 897 961 (qb (d9 (j8 (g7 (f7 (f7 (g7 (f7 (eQ hF)))))))))) fun hF => ?_
  refine g9 (p6 (f5 (y4 897 1089 rfl rfl (qr (AI x1) (qr (AI (w64 (x1 + 1))) (qr (AI (w64 (x1 + 1))) (d9 (f5 ?_))))))))
  refine ar (l' := [(0, AL 2 (v0.map j3)), (1, AL 2 (v1.map j3)), (5, AI (w64 (x1 + 1)))]) (L := []) [0, 1, 5] [] 1 ⟨_, by rfl, hF⟩
 exact z8 (j5 (j5 (s9 (f5 (ws 257 321 (qt (rR hF)))))))

def d0j : MC := (sr [rg 2 (.f (.box t0)), rg 3 (.f (.box t1)), pT 4 (.mv cf)] (.seq (sr [pT 5 (.fad t2 0), lT 6 5, pT 7 (.fad t3 0), lT 8 7, bT 9 .neq t6 t8] (.cond t9 (sr [pT 4 (.mv cf)] .ret) .skip)) (.seq (sr [pT 10 (.fad t2 1), lT 11 10, pT 12 (.fad t3 1), lT 13 12, bT 14 .neq t11 t13] (.cond t14 (sr [pT 4 (.mv cf)] .ret) .skip)) (sr [pT 4 (.mv ct)] .ret))))
theorem c5g : IsF Tryz.prog 138 d0j [(.tmp 4)] := ⟨by kernel_rfl, by kernel_rfl⟩

def a0W (v0 : j6) (v1 : j6) : Option (Bool) :=
 (bif (decide (v0.1 ≠ v1.1)) then some false
 else (bif (decide (v0.2 ≠ v1.2)) then some false
 else some true))
@[simp] def b0A (r : Bool) : RV := .one (.one (.val (.bool r)))
theorem b0z {v0 : j6} {v1 : j6} {r : Bool} (hF : a0W v0 v1 = some r) : Con Tryz.prog 138 [j3 v0, j3 v1] (b0A r) := by
 unfold a0W at hF
 refine p7 c5g.1 fun N => ?_
 refine ws 0 192 (qf (.ptr 0 0 0) [(0, .box [AI v0.1, AI v0.2])] (by simp) (qf (.ptr 64 0 0) [(64, .box [AI v1.1, AI v1.2]), (0, .box [AI v0.1, AI v0.2])] (by simp) (qb (d9 (i8 (ws 192 512 (qr (.ptr 0 0 0) (qr (AI v0.1) (qr (.ptr 64 0 0) (qr (AI v1.1) (qr (AB (decide (v0.1 ≠ v1.1))) (d9 ?_))))))))))))
 refine cF hF (fun hF => ws 512 576 (qb (d9 (j8 (f7 (eQ hF)))))) fun hF => g9 (f5 (i8 (ws 512 832 (qr (.ptr 0 0 1) (qr (AI v0.2) (qr (.ptr 64 0 1) (qr (AI v1.2) (qr (AB (decide (v0.2 ≠ v1.2))) (d9 ?_)))))))))
 refine cF hF (fun hF => ws 832 896 (qb (d9 (j8 (f7 (eQ hF)))))) fun hF => ?_
 exact g9 (f5 (ws 832 896 (qt (rR hF))))

def c89 : MC := (sr [pT 4 (.mv cf)] (.seq (sr [mvt 6 0, zT 7 6, mvt 8 1, zT 9 8, bT 10 .neq t7 t9] (.cond t10 (sr [pT 4 (.mv cf)] .ret) .skip)) (.seq (sr [pT 5 (.mv (ci 0))] (.block 0 (.loop (.seq (sr [mvt 11 5, mvt 12 0, zT 13 12, bT 14 .lss t11 t13] (cx t14 0)) (.seq (.block 1 (sr [mP 17 t0, mP 18 t5, iF 19 17 18 2, pF 20 (.ld t19 2 true), mP 21 t1, mP 22 t5, iF 23 21 22 2, pF 24 (.ld t23 2 true), dF 25 138 [t20, t24], pF 26 (.not t25)] (.cond t26 (sr [pT 4 (.mv cf)] .ret) .skip))) (.reg [mvt 15 5, bT 16 .add t15 (ci 1), mvt 5 16])))))) (sr [pT 4 (.mv ct)] .ret))))
theorem c8j : IsF Tryz.prog 89 c89 [(.tmp 4)] := ⟨by kernel_rfl, by kernel_rfl⟩

def R7 (v0 : List j6) (v1 : List j6) (k0 : Int → Option (Bool)) : Int → Option (Bool)
 | x1 => (bif (decide (x1 < (v0.length : Int))) then ((ix v0 x1).bind fun u0 => ((ix v1 x1).bind fun u1 => ((a0W u0 u1).bind fun u2 => (bif (!u2) then some false
 else k0 (w64 (x1 + 1))))))
 else some true)
def a0o (v0 : List j6) (v1 : List j6) : Option (Bool) :=
 (bif (decide ((v0.length : Int) ≠ (v1.length : Int))) then some false
 else loop (R7 v0 v1) 0)
@[simp] def a9q (r : Bool) : RV := .one (.one (.val (.bool r)))
theorem a8C {v0 : List j6} {v1 : List j6} {r : Bool} (hF : a0o v0 v1 = some r) : Con Tryz.prog 89 [.sl 2 (v0.map j3), .sl 2 (v1.map j3)] (a9q r) := by
 unfold a0o at hF
 refine p7 c8j.1 fun N => ?_
 refine ws 0 64 (qb (d9 (i8 (ws 64 384 (qr (AL 2 (v0.map j3)) (qp (AI (v0.length : Int)) (j0 rfl) (qr (AL 2 (v1.map j3)) (qp (AI (v1.length : Int)) (j0 rfl) (qr (AB (decide ((v0.length : Int) ≠ (v1.length : Int)))) (d9 ?_))))))))))
 refine cF hF (fun hF => ws 384 448 (qb (d9 (j8 (f7 (eQ hF)))))) fun hF => g9 (f5 (i8 (ws 384 448 (qr (AI 0) (d9 (j7 ?_))))))
 refine wr (l' := [(0, AL 2 (v0.map j3)), (1, AL 2 (v1.map j3)), (5, AI 0)]) (L := []) [0, 1, 5] [] 1 ?_
 refine y5 (R7 v0 v1) (fun s : Int => mkS [(0, AL 2 (v0.map j3)), (1, AL 2 (v1.map j3)), (5, AI s)] (fo []) 1) hF ?_
 rintro k0 x1 hF
 rw [R7] at hF
 try dsimp only
 refine i8 (ws 1 257 (qr (AI x1) (qr (AL 2 (v0.map j3)) (qp (AI (v0.length : Int)) (j0 rfl) (qr (AB (decide (x1 < (v0.length : Int)))) (d9 ?_))))))
 refine cF hF (fun hF => ?_) fun hF => ?_
 ·
  refine g9 (f5 (i8 (j7 (ws 257 897 (qr (AL 2 (v0.map j3)) (qr (AI x1) (bk hF fun u0 e0 hF => qp (.val none (.ptr [.int .i64 u0.1, .int .i64 u0.2])) (j4 rfl rfl e0 rfl) (qr (.val none (j3 u0)) (qr (AL 2 (v1.map j3)) (qr (AI x1) (bk hF fun u1 e1 hF => qp (.val none (.ptr [.int .i64 u1.1, .int .i64 u1.2])) (j4 rfl rfl e1 rfl) (qr (.val none (j3 u1)) (bk hF fun u2 e2 hF => qC (AB u2) [] (b0z e2) c5g (qr (AB (!u2)) (d9 ?_)))))))))))))))
  refine cF hF (fun hF => ws 897 961 (qb (d9 (j8 (g7 (f7 (f7 (g7 (f7 (eQ hF)))))))))) fun hF => ?_
  refine g9 (p6 (f5 (y4 897 1089 rfl rfl (qr (AI x1) (qr (AI (w64 (x1 + 1))) (qr (AI (w64 (x1 + 1))) (d9 (f5 ?_))))))))
  refine ar (l' := [(0, AL 2 (v0.map j3)), (1, AL 2 (v1.map j3)), (5, AI (w64 (x1 + 1)))]) (L := []) [0, 1, 5] [] 1 ⟨_, by rfl, hF⟩
 exact z8 (j5 (j5 (s9 (f5 (ws 257 321 (qt (rR hF)))))))

def c37 : MC := (sr [rg 2 (.f (.box t0)), rg 3 (.f (.box t1)), pT 4 (.mv cf)] (.seq (sr [pT 5 (.fad t2 0), lT 6 5, pT 7 (.fad t3 0), lT 8 7, bT 9 .neq t6 t8] (.cond t9 (sr [pT 4 (.mv cf)] .ret) .skip)) (.seq (sr [pT 10 (.fad t2 1), lT 11 10, pT 12 (.fad t3 1), lT 13 12, dT 14 89 [t11, t13], pT 15 (.not t14)] (.cond t15 (sr [pT 4 (.mv cf)] .ret) .skip)) (sr [pT 4 (.mv ct)] .ret))))
theorem c7O : IsF Tryz.prog 37 c37 [(.tmp 4)] := ⟨by kernel_rfl, by kernel_rfl⟩

def a0g (v0 : z7) (v1 : z7) : Option (Bool) :=
 (bif (decide (v0.1 ≠ v1.1)) then some false
 else ((a0o v0.2 v1.2).bind fun u0 => (bif (!u0) then some false
 else some true)))
@[simp] abbrev K6l (v0 : z7) : List (Nat × Root) := [(0, .box [AS v0.1, AL 2 (v0.2.map j3)])]
@[simp] abbrev K6m (v1 : z7) (v0 : z7) : List (Nat × Root) := ((64, .box [AS v1.1, AL 2 (v1.2.map j3)]) :: (K6l v0))
@[simp] def a8t (r : Bool) : RV := .one (.one (.val (.bool r)))
theorem a9L {v0 : z7} {v1 : z7} {r : Bool} (hF : a0g v0 v1 = some r) : Con Tryz.prog 37 [a6v v0, a6v v1] (a8t r) := by
 unfold a0g at hF
 refine p7 c7O.1 fun N => ?_
 refine ws 0 192 (qf (.ptr 0 0 0) (K6l v0) (by simp) (qf (.ptr 64 0 0) (K6m v1 v0) (by simp) (qb (d9 (i8 (ws 192 512 (qr (.ptr 0 0 0) (qr (AS v0.1) (qr (.ptr 64 0 0) (qr (AS v1.1) (qr (AB (decide (v0.1 ≠ v1.1))) (d9 ?_))))))))))))
 refine cF hF (fun hF => ws 512 576 (qb (d9 (j8 (f7 (eQ hF)))))) fun hF => g9 (f5 (i8 (ws 512 896 (qr (.ptr 0 0 1) (qr (AL 2 (v0.2.map j3)) (qr (.ptr 64 0 1) (qr (AL 2 (v1.2.map j3)) (bk hF fun u0 e0 hF => qC (AB u0) (K6m v1 v0) (a8C e0) c8j (qr (AB (!u0)) (d9 ?_))))))))))
 refine cF hF (fun hF => ws 896 960 (qb (d9 (j8 (f7 (eQ hF)))))) fun hF => ?_
 exact g9 (f5 (ws 896 960 (qt (rR hF))))

def c90 : MC := (sr [rg 2 (.f (.box t0)), rg 3 (.f (.box t1)), pT 4 (.mv cf)] (.seq (sr [pT 5 (.fad t2 0), lT 6 5, pT 7 (.fad t3 0), lT 8 7, bT 9 .neq t6 t8] (.cond t9 (sr [pT 4 (.mv cf)] .ret) .skip)) (.seq (sr [pT 10 (.fad t2 1), lT 11 10, pT 12 (.fad t3 1), lT 13 12, bT 14 .neq t11 t13] (.cond t14 (sr [pT 4 (.mv cf)] .ret) .skip)) (.seq (sr [pT 15 (.fad t2 2), lT 16 15, pT 17 (.fad t3 2), lT 18 17, bT 19 .neq t16 t18] (.cond t19 (sr [pT 4 (.mv cf)] .ret) .skip)) (sr [pT 4 (.mv ct)] .ret)))))
theorem c7l : IsF Tryz.prog 90 c90 [(.tmp 4)] := ⟨by kernel_rfl, by kernel_rfl⟩

def V0 (v0 : m9) (v1 : m9) : Option (Bool) :=
 (bif (decide (v0.1 ≠ v1.1)) then some false
 else (bif (decide (v0.2.1 ≠ v1.2.1)) then some false
 else (bif (decide (v0.2.2 ≠ v1.2.2)) then some false
 else some true)))
@[simp] def a6G (r : Bool) : RV := .one (.one (.val (.bool r)))
theorem a6S {v0 : m9} {v1 : m9} {r : Bool} (hF : V0 v0 v1 = some r) : Con Tryz.prog 90 [p3 v0, p3 v1] (a6G r) := by
 unfold V0 at hF
 refine p7 c7l.1 fun N => ?_
 refine ws 0 192 (qf (.ptr 0 0 0) [(0, .box [AS v0.1, AI v0.2.1, AI v0.2.2])] (by simp) (qf (.ptr 64 0 0) [(64, .box [AS v1.1, AI v1.2.1, AI v1.2.2]), (0, .box [AS v0.1, AI v0.2.1, AI v0.2.2])] (by simp) (qb (d9 (i8 (ws 192 512 (qr (.ptr 0 0 0) (qr (AS v0.1) (qr (.ptr 64 0 0) (qr (AS v1.1) (qr (AB (decide (v0.1 ≠ v1.1))) (d9 ?_))))))))))))
 refine cF hF (fun hF => ws 512 576 (qb (d9 (j8 (f7 (eQ hF)))))) fun hF => g9 (f5 (i8 (ws 512 832 (qr (.ptr 0 0 1) (qr (AI v0.2.1) (qr (.ptr 64 0 1) (qr (AI v1.2.1) (qr (AB (decide (v0.2.1 ≠ v1.2.1))) (d9 ?_)))))))))
 refine cF hF (fun hF => ws 832 896 (qb (d9 (j8 (f7 (eQ hF)))))) fun hF => g9 (f5 (i8 (ws 832 1152 (qr (.ptr 0 0 2) (qr (AI v0.2.2) (qr (.ptr 64 0 2) (qr (AI v1.2.2) (qr (AB (decide (v0.2.2 ≠ v1.2.2))) (d9 ?_)))))))))
 refine cF hF (fun hF => ws 1152 1216 (qb (d9 (j8 (f7 (eQ hF)))))) fun hF => ?_
 exact g9 (f5 (ws 1152 1216 (qt (rR hF))))

end Go.Ab
