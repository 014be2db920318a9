/- Walks (printed by auto.py, a program of this session's own). -/
import Derived.Test.YtdedhldojkdceaaGreatU1
import Derived.Test.YtdedhldojkdceaaGreatProg
import Derived.KernelRfl
import Derived.Test.YtdedhldojkdceaaGreatSQ
set_option linter.unusedVariables false
set_option linter.unusedSimpArgs false
set_option maxRecDepth 8000
set_option maxHeartbeats 8000000
noncomputable section
namespace Go.Ab
open Go.RowKit Go.Proofs

def c105 : MC := (sr [pT 4 (.mv cf)] (.seq (sr [pT 5 (.mv (ci 0))] (.block 0 (.loop (.seq (sr [mvt 6 5, mvt 7 0, zT 8 7, bT 9 .lss t6 t8, mvt 10 9, nT 11 10 t5, nT 12 10 t1, kT 13 10 (.len t12), kT 14 10 (.bin .lss t11 t13), pT 15 (.pick t10 t14 cf)] (cx t15 0)) (.seq (.block 1 (sr [mP 18 t0, mP 19 t5, iF 20 18 19 1, lF 21 20, mP 22 t1, mP 23 t5, iF 24 22 23 1, lF 25 24, bF 26 .neq t21 t25] (.cond t26 (sr [mP 27 t0, mP 28 t5, iF 29 27 28 1, lF 30 29, mP 31 t1, mP 32 t5, iF 33 31 32 1, lF 34 33, bF 35 .lss t30 t34, mP 4 t35] .ret) .skip))) (.reg [mvt 16 5, bT 17 .add t16 (ci 1), mvt 5 17])))))) (sr [mvt 36 0, zT 37 36, mvt 38 1, zT 39 38, bT 40 .lss t37 t39, mvt 4 40] .ret)))
theorem c105_ : IsF Tryz.prog 105 c105 [(.tmp 4)] := ⟨by kernel_rfl, by kernel_rfl⟩

def F_spec_l06Before_j0 (v0 : List Int) (v1 : List Int) : Option (Bool) :=
 some (decide ((v0.length : Int) < (v1.length : Int)))
def F_spec_l06Before_l1 (v0 : List Int) (v1 : List Int) (k0 : Int → Option (Bool)) : Int → Option (Bool)
 | x1 => (bif (decide (x1 < (v0.length : Int))) then (bif (decide (x1 < (v1.length : Int))) then ((ix v0 x1).bind fun u0 => ((ix v1 x1).bind fun u1 => (bif (decide (u0 ≠ u1)) then ((ix v0 x1).bind fun u2 => ((ix v1 x1).bind fun u3 => some (decide (u2 < u3))))
 else k0 (w64 (x1 + 1)))))
 else F_spec_l06Before_j0 v0 v1)
 else F_spec_l06Before_j0 v0 v1)
def F_spec_l06Before (v0 : List Int) (v1 : List Int) : Option (Bool) :=
 loop (F_spec_l06Before_l1 v0 v1) 0
@[simp] abbrev K3d (v0 : List Int) : V := .sl 1 (v0.map vI)
@[simp] abbrev K3e (v1 : List Int) : V := .sl 1 (v1.map vI)
@[simp] def res_spec_l06Before (r : Bool) : RV := .one (.one (.val (.bool r)))
theorem con_spec_l06Before {v0 : List Int} {v1 : List Int} {r : Bool} (hF : F_spec_l06Before v0 v1 = some r) : Con Tryz.prog 105 [.sl 1 (v0.map vI), .sl 1 (v1.map vI)] (res_spec_l06Before r) := by
 unfold F_spec_l06Before at hF
 refine con_of c105_.1 fun N => ?_
 refine ws 0 64 (qp (AB false) rfl (r_nil ?_))
 refine w_meet (fun s' => s' = mkS [(0, .val none (K3d v0)), (1, .val none (K3e v1))] (fo []) 1 ∧ F_spec_l06Before_j0 v0 v1 = some r) ?_ ?_
 ·
  refine ws 64 128 (qp (AI 0) rfl (r_nil (w_block ?_)))
  refine wr (l' := [(0, .val none (K3d v0)), (1, .val none (K3e v1)), (5, AI 0)]) (L := []) [0, 1, 5] [] 1 ?_
  refine w_loopF (F_spec_l06Before_l1 v0 v1) (fun s : Int => mkS [(0, .val none (K3d v0)), (1, .val none (K3e v1)), (5, AI s)] (fo []) 1) hF ?_
  rintro k0 x1 hF
  rw [F_spec_l06Before_l1] at hF
  try dsimp only
  refine w_seq (ws 1 641 (qp (AI x1) rfl (qp (.val none (K3d v0)) rfl (qp (AI (v0.length : Int)) (ev_len_n rfl) (qp (AB (decide (x1 < (v0.length : Int)))) rfl (qp (AB (decide (x1 < (v0.length : Int)))) rfl ?_))))))
  refine q_case 10 hF rfl (fun hF => ?_) (fun hF => ?_)
  ·
   refine qg (AI x1) rfl rfl (qg (.val none (K3e v1)) rfl rfl (qg (AI (v1.length : Int)) rfl (ev_len_n rfl) (qg (AB (decide (x1 < (v1.length : Int)))) rfl rfl (qp (AB (decide (x1 < (v1.length : Int)))) rfl (r_nil ?_)))))
   refine cF hF (fun hF => ?_) fun hF => ?_
   ·
    refine w_skip (thenQ_n (w_seq (w_block (ws 641 1217 (qp (.val none (K3d v0)) rfl (qp (AI x1) rfl (bk hF fun u0 e0 hF => qp (.val none (.ptr [.int .i64 u0])) (ev_iad_n rfl rfl e0 rfl) (qp (AI u0) rfl (qp (.val none (K3e v1)) rfl (qp (AI x1) rfl (bk hF fun u1 e1 hF => qp (.val none (.ptr [.int .i64 u1])) (ev_iad_n rfl rfl e1 rfl) (qp (AI u1) rfl (qp (AB (decide (u0 ≠ u1))) rfl (r_nil ?_))))))))))))))
    refine cF hF (fun hF => ?_) fun hF => ?_
    ·
     refine ws 1217 1857 (qp (.val none (K3d v0)) rfl (qp (AI x1) rfl (bk hF fun u2 e2 hF => qp (.val none (.ptr [.int .i64 u2])) (ev_iad_n rfl rfl e2 rfl) (qp (AI u2) rfl (qp (.val none (K3e v1)) rfl (qp (AI x1) rfl (bk hF fun u3 e3 hF => qp (.val none (.ptr [.int .i64 u3])) (ev_iad_n rfl rfl e3 rfl) (qp (AI u3) rfl (qp (AB (decide (u2 < u3))) rfl (qp (AB (decide (u2 < u3))) rfl (r_nil (w_ret (blockQ_r (thenQ_r (thenQ_r ?_)))))))))))))))
     exact blockQ_r (thenQ_r (eQ hF))
    refine w_skip (blockQ_n (thenQ_n (w_reg 1217 1409 rfl rfl (qp (AI x1) rfl (qp (AI (w64 (x1 + 1))) rfl (qp (AI (w64 (x1 + 1))) rfl (r_nil (thenQ_n ?_))))))))
    refine ar (l' := [(0, .val none (K3d v0)), (1, .val none (K3e v1)), (5, AI (w64 (x1 + 1)))]) (L := []) [0, 1, 5] [] 1 ⟨_, by rfl, hF⟩
   refine w_exit (thenQ_e (thenQ_e (blockQ_e (thenQ_n ?_))))
   refine ar (l' := [(0, .val none (K3d v0)), (1, .val none (K3e v1))]) (L := []) [0, 1] [] 1 ⟨rfl, hF⟩
  refine qn4 (qp (AB false) rfl (r_nil (w_false rfl (w_exit (thenQ_e (thenQ_e (blockQ_e (thenQ_n ?_))))))))
  refine ar (l' := [(0, .val none (K3d v0)), (1, .val none (K3e v1))]) (L := []) [0, 1] [] 1 ⟨rfl, hF⟩
 rintro s' ⟨rfl, hF⟩
 unfold F_spec_l06Before_j0 at hF
 exact ws 1 385 (qp (.val none (K3d v0)) rfl (qp (AI (v0.length : Int)) (ev_len_n rfl) (qp (.val none (K3e v1)) rfl (qp (AI (v1.length : Int)) (ev_len_n rfl) (qp (AB (decide ((v0.length : Int) < (v1.length : Int)))) rfl (qp (AB (decide ((v0.length : Int) < (v1.length : Int)))) rfl (rR hF)))))))

def c55 : MC := (sr [pT 2 (.mv cf)] (.seq (sr [pT 3 (.mv (ci 0))] (.block 0 (.loop (.seq (sr [mvt 4 3, mvt 5 0, zT 6 5, bT 7 .lss t4 t6] (cx t7 0)) (.seq (.block 1 (sr [mP 10 t0, mP 11 t3, iF 12 10 11 1, lF 13 12, dF 14 104 [t13], pF 15 (.not t14), mP 16 t15, mF 17 16 t3, bH 18 16 .gtr t17 (ci 0), mF 19 16 t18, mT 20 19 t0, mT 21 19 t3, bG 22 19 .sub t21 (ci 1), iG 23 19 20 22 1, lG 24 19 23, mT 25 19 t0, mT 26 19 t3, iG 27 19 25 26 1, lG 28 19 27, ⟨(some 29), (some (19, true)), (.call false 105 [t24, t28])⟩, gT 30 19 (.not t29), gF 31 16 (.pick t19 t30 cf), pF 32 (.pick t16 ct t31)] (.cond t32 (sr [pT 2 (.mv cf)] .ret) .skip))) (.reg [mvt 8 3, bT 9 .add t8 (ci 1), mvt 3 9])))))) (sr [mvt 33 0, zT 34 33, bT 35 .leq t34 (ci 12), mvt 2 35] .ret)))
theorem c55_ : IsF Tryz.prog 55 c55 [(.tmp 2)] := ⟨by kernel_rfl, by kernel_rfl⟩

def F_spec_l06Ok_l0 (v0 : List (List Int)) (k0 : Int → Option (Bool)) : Int → Option (Bool)
 | x1 => (bif (decide (x1 < (v0.length : Int))) then ((ix v0 x1).bind fun u0 => ((F_spec_l06Phrase u0).bind fun u1 => (bif (!u1) then some false
 else (bif (decide ((0 : Int) < x1)) then ((ix v0 (w64 (x1 - 1))).bind fun u2 => ((ix v0 x1).bind fun u3 => ((F_spec_l06Before u2 u3).bind fun u4 => (bif (!u4) then some false
 else k0 (w64 (x1 + 1))))))
 else k0 (w64 (x1 + 1))))))
 else some (decide ((v0.length : Int) ≤ (12 : Int))))
def F_spec_l06Ok (v0 : List (List Int)) : Option (Bool) :=
 loop (F_spec_l06Ok_l0 v0) 0
@[simp] abbrev K3f (v0 : List (List Int)) : V := .sl 1 (v0.map (eL 1 vI))
@[simp] def res_spec_l06Ok (r : Bool) : RV := .one (.one (.val (.bool r)))
theorem con_spec_l06Ok {v0 : List (List Int)} {r : Bool} (hF : F_spec_l06Ok v0 = some r) : Con Tryz.prog 55 [.sl 1 (v0.map (eL 1 vI))] (res_spec_l06Ok r) := by
 unfold F_spec_l06Ok at hF
 refine con_of c55_.1 fun N => ?_
 refine ws 0 64 (qp (AB false) rfl (r_nil (w_seq (ws 64 128 (qp (AI 0) rfl (r_nil (w_block ?_)))))))
 refine wr (l' := [(0, .val none (K3f v0)), (3, AI 0)]) (L := []) [0, 3] [] 1 ?_
 refine w_loopF (F_spec_l06Ok_l0 v0) (fun s : Int => mkS [(0, .val none (K3f v0)), (3, AI s)] (fo []) 1) hF ?_
 rintro k0 x1 hF
 rw [F_spec_l06Ok_l0] at hF
 try dsimp only
 refine w_seq (ws 1 257 (qp (AI x1) rfl (qp (.val none (K3f v0)) rfl (qp (AI (v0.length : Int)) (ev_len_n rfl) (qp (AB (decide (x1 < (v0.length : Int)))) rfl (r_nil ?_))))))
 refine cF hF (fun hF => ?_) fun hF => ?_
 ·
  refine w_skip (thenQ_n (w_seq (w_block (ws 257 1729 (qp (.val none (K3f v0)) rfl (qp (AI x1) rfl (bk hF fun u0 e0 hF => qp (.val none (.ptr [.sl 1 (u0.map vI)])) (ev_iad_n rfl rfl e0 rfl) (qp (AL 1 (u0.map vI)) rfl (bk hF fun u1 e1 hF => qC (AB u1) [] (con_spec_l06Phrase e1) c104_ (qp (AB (!u1)) rfl (qp (AB (!u1)) rfl ?_)))))))))))
  refine q_case 16 hF rfl (fun hF => ?_) (fun hF => ?_)
  ·
   refine qn3 (qu rfl (qu rfl (qu rfl (qu rfl (qu rfl (qu rfl (qu rfl (qu rfl (qu rfl (qu rfl (qu rfl (qn rfl (qp (AB true) rfl ?_)))))))))))))
   exact r_nil (w_true rfl (ws 1729 1793 (qp (AB false) rfl (r_nil (w_ret (blockQ_r (thenQ_r (thenQ_r (blockQ_r (thenQ_r (eQ hF)))))))))))
  refine qg (AI x1) rfl rfl (qg (AB (decide ((0 : Int) < x1))) rfl rfl (qg (AB (decide ((0 : Int) < x1))) rfl rfl ?_))
  refine q_case 19 hF rfl (fun hF => ?_) (fun hF => ?_)
  ·
   refine qg (.val none (K3f v0)) rfl rfl (qg (AI x1) rfl rfl (qg (AI (w64 (x1 - 1))) rfl rfl (bk hF fun u2 e2 hF => qg (.val none (.ptr [.sl 1 (u2.map vI)])) rfl (ev_iad_n rfl rfl e2 rfl) (qg (AL 1 (u2.map vI)) rfl rfl (qg (.val none (K3f v0)) rfl rfl (qg (AI x1) rfl rfl (bk hF fun u3 e3 hF => qg (.val none (.ptr [.sl 1 (u3.map vI)])) rfl (ev_iad_n rfl rfl e3 rfl) (qg (AL 1 (u3.map vI)) rfl rfl (bk hF fun u4 e4 hF => qG (AB u4) [] (con_spec_l06Before e4) c105_ (qg (AB (!u4)) rfl rfl (qg (AB (!u4)) rfl rfl (qp (AB (!u4)) rfl (r_nil ?_)))))))))))))
   refine cF hF (fun hF => ws 1729 1793 (qp (AB false) rfl (r_nil (w_ret (blockQ_r (thenQ_r (thenQ_r (blockQ_r (thenQ_r (eQ hF)))))))))) fun hF => ?_
   refine w_skip (blockQ_n (thenQ_n (w_reg 1729 1921 rfl rfl (qp (AI x1) rfl (qp (AI (w64 (x1 + 1))) rfl (qp (AI (w64 (x1 + 1))) rfl (r_nil (thenQ_n ?_))))))))
   refine ar (l' := [(0, .val none (K3f v0)), (3, AI (w64 (x1 + 1)))]) (L := []) [0, 3] [] 1 ⟨_, by rfl, hF⟩
  refine qn8 (qn3 (qg (AB false) rfl rfl (qp (AB false) rfl (r_nil (w_false rfl (w_skip (blockQ_n (thenQ_n (w_reg 1729 1921 rfl rfl ?_)))))))))
  refine qp (AI x1) rfl (qp (AI (w64 (x1 + 1))) rfl (qp (AI (w64 (x1 + 1))) rfl (r_nil (thenQ_n ?_))))
  refine ar (l' := [(0, .val none (K3f v0)), (3, AI (w64 (x1 + 1)))]) (L := []) [0, 3] [] 1 ⟨_, by rfl, hF⟩
 exact w_exit (thenQ_e (thenQ_e (blockQ_e (thenQ_n (ws 257 513 (qp (.val none (K3f v0)) rfl (qp (AI (v0.length : Int)) (ev_len_n rfl) (qp (AB (decide ((v0.length : Int) ≤ (12 : Int)))) rfl (qp (AB (decide ((v0.length : Int) ≤ (12 : Int)))) rfl (rR hF))))))))))

def c106 : MC := (sr [pT 2 (.mv cf)] (sr [mvt 3 0, pT 4 (.nck t3), pT 5 (.fad t4 0), lT 6 5, dT 7 96 [t6], mvt 8 7, nT 9 8 t0, kT 10 8 (.nck t9), kT 11 8 (.fad t10 0), kT 12 8 (.ld t11 1 false), kT 13 8 (.lens t12), kT 14 8 (.bin .leq t13 (ci 6)), pT 15 (.pick t8 t14 cf), mvt 16 15, nT 17 16 t0, kT 18 16 (.nck t17), kT 19 16 (.fad t18 1), kT 20 16 (.ld t19 1 false), ⟨(some 21), (some (16, true)), (.call true 113 [t20, (ci 1), (ci 3)])⟩, pT 22 (.pick t16 t21 cf), mvt 23 22, nT 24 23 t0, kT 25 23 (.nck t24), kT 26 23 (.fad t25 2), kT 27 23 (.ld t26 1 false), ⟨(some 28), (some (23, true)), (.call true 113 [t27, (ci 1), (ci 8)])⟩, pT 29 (.pick t23 t28 cf), mvt 2 29] .ret))
theorem c106_ : IsF Tryz.prog 106 c106 [(.tmp 2)] := ⟨by kernel_rfl, by kernel_rfl⟩

def F_spec_l18One (v0 : TSyllable) : Option (Bool) :=
 ((F_spec_l01Name v0.1).bind fun u0 => (bif u0 then (bif (decide ((v0.1.length : Int) ≤ (6 : Int))) then ((F_spec_l00In v0.2.1 1 3).bind fun u1 => (bif u1 then ((F_spec_l00In v0.2.2 1 8).bind fun u2 => some u2)
 else some false))
 else some false)
 else some false))
@[simp] abbrev K3g (v0 : TSyllable) : AV := .val none (.ptr [.str v0.1, .int .i64 v0.2.1, .int .i64 v0.2.2])
@[simp] def res_spec_l18One (r : Bool) : RV := .one (.one (.val (.bool r)))
theorem con_spec_l18One {v0 : TSyllable} {r : Bool} (hF : F_spec_l18One v0 = some r) : Con Tryz.prog 106 [.ptr [.str v0.1, .int .i64 v0.2.1, .int .i64 v0.2.2]] (res_spec_l18One r) := by
 unfold F_spec_l18One at hF
 refine con_of c106_.1 fun N => ?_
 refine ws 0 64 (qp (AB false) rfl (r_nil (ws 64 1856 (qp (K3g v0) rfl (qp (K3g v0) rfl (qp (K3g v0) rfl (qp (AS v0.1) rfl (bk hF fun u0 e0 hF => qC (AB u0) [] (con_spec_l01Name e0) c96_ (qp (AB u0) rfl ?_)))))))))
 refine q_case 8 hF rfl (fun hF => ?_) (fun hF => ?_)
 ·
  refine qg (K3g v0) rfl rfl (qg (K3g v0) rfl rfl (qg (K3g v0) rfl rfl (qg (AS v0.1) rfl rfl (qg (AI (v0.1.length : Int)) rfl rfl (qg (AB (decide ((v0.1.length : Int) ≤ (6 : Int)))) rfl rfl (qp (AB (decide ((v0.1.length : Int) ≤ (6 : Int)))) rfl (qp (AB (decide ((v0.1.length : Int) ≤ (6 : Int)))) rfl ?_)))))))
  refine q_case 16 hF rfl (fun hF => ?_) (fun hF => ?_)
  ·
   refine qg (K3g v0) rfl rfl (qg (K3g v0) rfl rfl (qg (.val none (.ptr [.int .i64 v0.2.1, .int .i64 v0.2.2])) rfl rfl (qg (AI v0.2.1) rfl rfl (bk hF fun u1 e1 hF => qG (AB u1) [] (con_spec_l00In e1) c113_ (qp (AB u1) rfl (qp (AB u1) rfl (q_case 23 hF rfl (fun hF => qg (K3g v0) rfl rfl (qg (K3g v0) rfl rfl (qg (.val none (.ptr [.int .i64 v0.2.2])) rfl rfl (qg (AI v0.2.2) rfl rfl (bk hF fun u2 e2 hF => qG (AB u2) [] (con_spec_l00In e2) c113_ (qp (AB u2) rfl (qp (AB u2) rfl (rR hF)))))))) fun hF => ?_)))))))
   exact qn5 (qp (AB false) rfl (qp (AB false) rfl (rR hF)))
  exact qn5 (qp (AB false) rfl (qp (AB false) rfl (qn rfl (qn4 (qp (AB false) rfl (qp (AB false) rfl (rR hF)))))))
 exact qn6 (qp (AB false) rfl (qp (AB false) rfl (qn5 (qp (AB false) rfl (qp (AB false) rfl (qn rfl (qn4 (qp (AB false) rfl (qp (AB false) rfl (rR hF))))))))))

def c56 : MC := (sr [pT 2 (.mv cf)] (.seq (sr [pT 3 (.mv (ci 0))] (.block 0 (.loop (.seq (sr [mvt 4 3, mvt 5 0, zT 6 5, bT 7 .lss t4 t6] (cx t7 0)) (.seq (.block 1 (sr [mP 10 t0, mP 11 t3, iF 12 10 11 3, dF 13 106 [t12], pF 14 (.not t13), mP 15 t14, mF 16 15 t3, bH 17 15 .gtr t16 (ci 0), mF 18 15 t17, mT 19 18 t0, mT 20 18 t3, bG 21 18 .sub t20 (ci 1), iG 22 18 19 21 3, gT 23 18 (.fad t22 0), lG 24 18 23, mT 25 18 t0, mT 26 18 t3, iG 27 18 25 26 3, gT 28 18 (.fad t27 0), lG 29 18 28, bG 30 18 .geq t24 t29, gF 31 15 (.pick t18 t30 cf), pF 32 (.pick t15 ct t31)] (.cond t32 (sr [pT 2 (.mv cf)] .ret) .skip))) (.reg [mvt 8 3, bT 9 .add t8 (ci 1), mvt 3 9])))))) (sr [mvt 33 0, zT 34 33, bT 35 .leq t34 (ci 16), mvt 2 35] .ret)))
theorem c56_ : IsF Tryz.prog 56 c56 [(.tmp 2)] := ⟨by kernel_rfl, by kernel_rfl⟩

def F_spec_l18Ok_l0 (v0 : List TSyllable) (k0 : Int → Option (Bool)) : Int → Option (Bool)
 | x1 => (bif (decide (x1 < (v0.length : Int))) then ((ix v0 x1).bind fun u0 => ((F_spec_l18One u0).bind fun u1 => (bif (!u1) then some false
 else (bif (decide ((0 : Int) < x1)) then ((ix v0 (w64 (x1 - 1))).bind fun u2 => ((ix v0 x1).bind fun u3 => (bif (!Op.bytesLess u2.1 u3.1) then some false
 else k0 (w64 (x1 + 1)))))
 else k0 (w64 (x1 + 1))))))
 else some (decide ((v0.length : Int) ≤ (16 : Int))))
def F_spec_l18Ok (v0 : List TSyllable) : Option (Bool) :=
 loop (F_spec_l18Ok_l0 v0) 0
@[simp] abbrev K3h (v0 : List TSyllable) : V := .sl 3 (v0.map eSyllable)
@[simp] def res_spec_l18Ok (r : Bool) : RV := .one (.one (.val (.bool r)))
theorem con_spec_l18Ok {v0 : List TSyllable} {r : Bool} (hF : F_spec_l18Ok v0 = some r) : Con Tryz.prog 56 [.sl 3 (v0.map eSyllable)] (res_spec_l18Ok r) := by
 unfold F_spec_l18Ok at hF
 refine con_of c56_.1 fun N => ?_
 refine ws 0 64 (qp (AB false) rfl (r_nil (w_seq (ws 64 128 (qp (AI 0) rfl (r_nil (w_block ?_)))))))
 refine wr (l' := [(0, .val none (K3h v0)), (3, AI 0)]) (L := []) [0, 3] [] 1 ?_
 refine w_loopF (F_spec_l18Ok_l0 v0) (fun s : Int => mkS [(0, .val none (K3h v0)), (3, AI s)] (fo []) 1) hF ?_
 rintro k0 x1 hF
 rw [F_spec_l18Ok_l0] at hF
 try dsimp only
 refine w_seq (ws 1 257 (qp (AI x1) rfl (qp (.val none (K3h v0)) rfl (qp (AI (v0.length : Int)) (ev_len_n rfl) (qp (AB (decide (x1 < (v0.length : Int)))) rfl (r_nil ?_))))))
 refine cF hF (fun hF => ?_) fun hF => ?_
 ·
  refine w_skip (thenQ_n (w_seq (w_block (ws 257 1729 (qp (.val none (K3h v0)) rfl (qp (AI x1) rfl (bk hF fun u0 e0 hF => qp (.val none (.ptr [.str u0.1, .int .i64 u0.2.1, .int .i64 u0.2.2])) (ev_iad_n rfl rfl e0 rfl) (bk hF fun u1 e1 hF => qC (AB u1) [] (con_spec_l18One e1) c106_ (qp (AB (!u1)) rfl (qp (AB (!u1)) rfl ?_))))))))))
  refine q_case 15 hF rfl (fun hF => ?_) (fun hF => ?_)
  ·
   refine qn3 (qu rfl (qu rfl (qu rfl (qu rfl (qu rfl (qu rfl (qu rfl (qu rfl (qu rfl (qu rfl (qu rfl (qu rfl (qn rfl ?_)))))))))))))
   exact qp (AB true) rfl (r_nil (w_true rfl (ws 1729 1793 (qp (AB false) rfl (r_nil (w_ret (blockQ_r (thenQ_r (thenQ_r (blockQ_r (thenQ_r (eQ hF))))))))))))
  refine qg (AI x1) rfl rfl (qg (AB (decide ((0 : Int) < x1))) rfl rfl (qg (AB (decide ((0 : Int) < x1))) rfl rfl ?_))
  refine q_case 18 hF rfl (fun hF => ?_) (fun hF => ?_)
  ·
   refine qg (.val none (K3h v0)) rfl rfl (qg (AI x1) rfl rfl (qg (AI (w64 (x1 - 1))) rfl rfl (bk hF fun u2 e2 hF => qg (.val none (.ptr [.str u2.1, .int .i64 u2.2.1, .int .i64 u2.2.2])) rfl (ev_iad_n rfl rfl e2 rfl) (qg (.val none (.ptr [.str u2.1, .int .i64 u2.2.1, .int .i64 u2.2.2])) rfl rfl (qg (AS u2.1) rfl rfl (qg (.val none (K3h v0)) rfl rfl (qg (AI x1) rfl rfl (bk hF fun u3 e3 hF => qg (.val none (.ptr [.str u3.1, .int .i64 u3.2.1, .int .i64 u3.2.2])) rfl (ev_iad_n rfl rfl e3 rfl) (qg (.val none (.ptr [.str u3.1, .int .i64 u3.2.1, .int .i64 u3.2.2])) rfl rfl (qg (AS u3.1) rfl rfl (qg (AB (!Op.bytesLess u2.1 u3.1)) rfl rfl (qg (AB (!Op.bytesLess u2.1 u3.1)) rfl rfl (qp (AB (!Op.bytesLess u2.1 u3.1)) rfl (r_nil ?_))))))))))))))
   refine cF hF (fun hF => ws 1729 1793 (qp (AB false) rfl (r_nil (w_ret (blockQ_r (thenQ_r (thenQ_r (blockQ_r (thenQ_r (eQ hF)))))))))) fun hF => ?_
   refine w_skip (blockQ_n (thenQ_n (w_reg 1729 1921 rfl rfl (qp (AI x1) rfl (qp (AI (w64 (x1 + 1))) rfl (qp (AI (w64 (x1 + 1))) rfl (r_nil (thenQ_n ?_))))))))
   refine ar (l' := [(0, .val none (K3h v0)), (3, AI (w64 (x1 + 1)))]) (L := []) [0, 3] [] 1 ⟨_, by rfl, hF⟩
  refine qn8 (qn4 (qg (AB false) rfl rfl (qp (AB false) rfl (r_nil (w_false rfl (w_skip (blockQ_n (thenQ_n (w_reg 1729 1921 rfl rfl ?_)))))))))
  refine qp (AI x1) rfl (qp (AI (w64 (x1 + 1))) rfl (qp (AI (w64 (x1 + 1))) rfl (r_nil (thenQ_n ?_))))
  refine ar (l' := [(0, .val none (K3h v0)), (3, AI (w64 (x1 + 1)))]) (L := []) [0, 3] [] 1 ⟨_, by rfl, hF⟩
 exact w_exit (thenQ_e (thenQ_e (blockQ_e (thenQ_n (ws 257 513 (qp (.val none (K3h v0)) rfl (qp (AI (v0.length : Int)) (ev_len_n rfl) (qp (AB (decide ((v0.length : Int) ≤ (16 : Int)))) rfl (qp (AB (decide ((v0.length : Int) ≤ (16 : Int)))) rfl (rR hF))))))))))

def c107 : MC := (sr [pT 2 (.mv cf)] (sr [mvt 3 0, dT 4 113 [t3, (ci 0), (ci 2000)], mvt 2 4] .ret))
theorem c107_ : IsF Tryz.prog 107 c107 [(.tmp 2)] := ⟨by kernel_rfl, by kernel_rfl⟩

def F_spec_l22Beat (v0 : Int) : Option (Bool) :=
 ((F_spec_l00In v0 0 2000).bind fun u0 => some u0)
@[simp] def res_spec_l22Beat (r : Bool) : RV := .one (.one (.val (.bool r)))
theorem con_spec_l22Beat {v0 : Int} {r : Bool} (hF : F_spec_l22Beat v0 = some r) : Con Tryz.prog 107 [.int .i64 v0] (res_spec_l22Beat r) := by
 unfold F_spec_l22Beat at hF
 refine con_of c107_.1 fun N => ?_
 exact ws 0 64 (qp (AB false) rfl (r_nil (ws 64 256 (qp (AI v0) rfl (bk hF fun u0 e0 hF => qC (AB u0) [] (con_spec_l00In e0) c113_ (qp (AB u0) rfl (rR hF)))))))

def c108 : MC := (sr [pT 2 (.mv cf)] (sr [mvt 3 0, dT 4 113 [t3, (ci 10), (ci 600)], mvt 2 4] .ret))
theorem c108_ : IsF Tryz.prog 108 c108 [(.tmp 2)] := ⟨by kernel_rfl, by kernel_rfl⟩

def F_spec_l22Tempo (v0 : Int) : Option (Bool) :=
 ((F_spec_l00In v0 10 600).bind fun u0 => some u0)
@[simp] def res_spec_l22Tempo (r : Bool) : RV := .one (.one (.val (.bool r)))
theorem con_spec_l22Tempo {v0 : Int} {r : Bool} (hF : F_spec_l22Tempo v0 = some r) : Con Tryz.prog 108 [.int .i64 v0] (res_spec_l22Tempo r) := by
 unfold F_spec_l22Tempo at hF
 refine con_of c108_.1 fun N => ?_
 exact ws 0 64 (qp (AB false) rfl (r_nil (ws 64 256 (qp (AI v0) rfl (bk hF fun u0 e0 hF => qC (AB u0) [] (con_spec_l00In e0) c113_ (qp (AB u0) rfl (rR hF)))))))

def c57 : MC := (sr [pT 2 (.mv cf)] (.seq (sr [pT 3 (.mv (ci 0))] (.block 0 (.loop (.seq (sr [mvt 4 3, mvt 5 0, zT 6 5, bT 7 .lss t4 t6] (cx t7 0)) (.seq (.block 1 (sr [mP 10 t0, mP 11 t3, iF 12 10 11 2, pF 13 (.fad t12 0), lF 14 13, dF 15 107 [t14], pF 16 (.not t15), mP 17 t16, mF 18 17 t0, mF 19 17 t3, iH 20 17 18 19 2, gF 21 17 (.fad t20 1), lH 22 17 21, ⟨(some 23), (some (17, false)), (.call false 108 [t22])⟩, gF 24 17 (.not t23), pF 25 (.pick t17 ct t24), mP 26 t25, mF 27 26 t3, bH 28 26 .gtr t27 (ci 0), mF 29 26 t28, mT 30 29 t0, mT 31 29 t3, bG 32 29 .sub t31 (ci 1), iG 33 29 30 32 2, gT 34 29 (.fad t33 0), lG 35 29 34, mT 36 29 t0, mT 37 29 t3, iG 38 29 36 37 2, gT 39 29 (.fad t38 0), lG 40 29 39, bG 41 29 .geq t35 t40, gF 42 26 (.pick t29 t41 cf), pF 43 (.pick t26 ct t42)] (.cond t43 (sr [pT 2 (.mv cf)] .ret) .skip))) (.reg [mvt 8 3, bT 9 .add t8 (ci 1), mvt 3 9])))))) (sr [mvt 44 0, zT 45 44, bT 46 .geq t45 (ci 1), mvt 47 46, nT 48 47 t0, kT 49 47 (.len t48), kT 50 47 (.bin .leq t49 (ci 16)), pT 51 (.pick t47 t50 cf), mvt 52 51, nT 53 52 t0, kT 54 52 (.iad t53 (ci 0) 2), kT 55 52 (.fad t54 0), kT 56 52 (.ld t55 1 false), kT 57 52 (.bin .eql t56 (ci 0)), pT 58 (.pick t52 t57 cf), mvt 2 58] .ret)))
theorem c57_ : IsF Tryz.prog 57 c57 [(.tmp 2)] := ⟨by kernel_rfl, by kernel_rfl⟩

def F_spec_l22Ok_l0 (v0 : List TNote) (k0 : Int → Option (Bool)) : Int → Option (Bool)
 | x1 => (bif (decide (x1 < (v0.length : Int))) then ((ix v0 x1).bind fun u0 => ((F_spec_l22Beat u0.1).bind fun u1 => (bif (!u1) then some false
 else ((ix v0 x1).bind fun u2 => ((F_spec_l22Tempo u2.2).bind fun u3 => (bif (!u3) then some false
 else (bif (decide ((0 : Int) < x1)) then ((ix v0 (w64 (x1 - 1))).bind fun u4 => ((ix v0 x1).bind fun u5 => (bif (decide (u5.1 ≤ u4.1)) then some false
 else k0 (w64 (x1 + 1)))))
 else k0 (w64 (x1 + 1)))))))))
 else (bif (decide ((1 : Int) ≤ (v0.length : Int))) then (bif (decide ((v0.length : Int) ≤ (16 : Int))) then ((ix v0 0).bind fun u6 => some (decide (u6.1 = (0 : Int))))
 else some false)
 else some false))
def F_spec_l22Ok (v0 : List TNote) : Option (Bool) :=
 loop (F_spec_l22Ok_l0 v0) 0
@[simp] abbrev K3i (v0 : List TNote) : AV := AL 2 (v0.map eNote)
@[simp] def res_spec_l22Ok (r : Bool) : RV := .one (.one (.val (.bool r)))
theorem con_spec_l22Ok {v0 : List TNote} {r : Bool} (hF : F_spec_l22Ok v0 = some r) : Con Tryz.prog 57 [.sl 2 (v0.map eNote)] (res_spec_l22Ok r) := by
 unfold F_spec_l22Ok at hF
 refine con_of c57_.1 fun N => ?_
 refine ws 0 64 (qp (AB false) rfl (r_nil (w_seq (ws 64 128 (qp (AI 0) rfl (r_nil (w_block ?_)))))))
 refine wr (l' := [(0, AL 2 (v0.map eNote)), (3, AI 0)]) (L := []) [0, 3] [] 1 ?_
 refine w_loopF (F_spec_l22Ok_l0 v0) (fun s : Int => mkS [(0, AL 2 (v0.map eNote)), (3, AI s)] (fo []) 1) hF ?_
 rintro k0 x1 hF
 rw [F_spec_l22Ok_l0] at hF
 try dsimp only
 refine w_seq (ws 1 257 (qp (AI x1) rfl (qp (K3i v0) rfl (qp (AI (v0.length : Int)) (ev_len_n rfl) (qp (AB (decide (x1 < (v0.length : Int)))) rfl (r_nil ?_))))))
 refine cF hF (fun hF => ?_) fun hF => ?_
 ·
  refine w_skip (thenQ_n (w_seq (w_block (ws 257 2433 (qp (K3i v0) rfl (qp (AI x1) rfl (bk hF fun u0 e0 hF => qp (.val none (.ptr [.int .i64 u0.1, .int .i64 u0.2])) (ev_iad_n rfl rfl e0 rfl) (qp (.val none (.ptr [.int .i64 u0.1, .int .i64 u0.2])) rfl (qp (AI u0.1) rfl (bk hF fun u1 e1 hF => qC (AB u1) [] (con_spec_l22Beat e1) c107_ (qp (AB (!u1)) rfl (qp (AB (!u1)) rfl ?_))))))))))))
  refine q_case 17 hF rfl (fun hF => ?_) (fun hF => ?_)
  ·
   refine qn7 (qp (AB true) rfl (qp (AB true) rfl (qn3 (qu rfl (qu rfl (qu rfl (qu rfl ?_)))))))
   refine qu rfl (qu rfl (qu rfl (qu rfl (qu rfl (qu rfl (qu rfl (qu rfl (qn rfl (qp (AB true) rfl (r_nil (w_true rfl (ws 2433 2497 (qp (AB false) rfl ?_)))))))))))))
   exact r_nil (w_ret (blockQ_r (thenQ_r (thenQ_r (blockQ_r (thenQ_r (eQ hF)))))))
  refine qg (K3i v0) rfl rfl (qg (AI x1) rfl rfl (bk hF fun u2 e2 hF => qg (.val none (.ptr [.int .i64 u2.1, .int .i64 u2.2])) rfl (ev_iad_n rfl rfl e2 rfl) (qg (.val none (.ptr [.int .i64 u2.2])) rfl rfl (qg (AI u2.2) rfl rfl (bk hF fun u3 e3 hF => qG (AB u3) [] (con_spec_l22Tempo e3) c108_ (qg (AB (!u3)) rfl rfl (qp (AB (!u3)) rfl (qp (AB (!u3)) rfl ?_))))))))
  refine q_case 26 hF rfl (fun hF => ?_) (fun hF => ?_)
  ·
   refine qn3 (qu rfl (qu rfl (qu rfl (qu rfl (qu rfl (qu rfl (qu rfl (qu rfl (qu rfl (qu rfl (qu rfl (qu rfl (qn rfl ?_)))))))))))))
   exact qp (AB true) rfl (r_nil (w_true rfl (ws 2433 2497 (qp (AB false) rfl (r_nil (w_ret (blockQ_r (thenQ_r (thenQ_r (blockQ_r (thenQ_r (eQ hF))))))))))))
  refine qg (AI x1) rfl rfl (qg (AB (decide ((0 : Int) < x1))) rfl rfl (qg (AB (decide ((0 : Int) < x1))) rfl rfl ?_))
  refine q_case 29 hF rfl (fun hF => ?_) (fun hF => ?_)
  ·
   refine qg (K3i v0) rfl rfl (qg (AI x1) rfl rfl (qg (AI (w64 (x1 - 1))) rfl rfl (bk hF fun u4 e4 hF => qg (.val none (.ptr [.int .i64 u4.1, .int .i64 u4.2])) rfl (ev_iad_n rfl rfl e4 rfl) (qg (.val none (.ptr [.int .i64 u4.1, .int .i64 u4.2])) rfl rfl (qg (AI u4.1) rfl rfl (qg (K3i v0) rfl rfl (qg (AI x1) rfl rfl (bk hF fun u5 e5 hF => qg (.val none (.ptr [.int .i64 u5.1, .int .i64 u5.2])) rfl (ev_iad_n rfl rfl e5 rfl) (qg (.val none (.ptr [.int .i64 u5.1, .int .i64 u5.2])) rfl rfl (qg (AI u5.1) rfl rfl (qg (AB (decide (u5.1 ≤ u4.1))) rfl rfl (qg (AB (decide (u5.1 ≤ u4.1))) rfl rfl (qp (AB (decide (u5.1 ≤ u4.1))) rfl (r_nil ?_))))))))))))))
   refine cF hF (fun hF => ws 2433 2497 (qp (AB false) rfl (r_nil (w_ret (blockQ_r (thenQ_r (thenQ_r (blockQ_r (thenQ_r (eQ hF)))))))))) fun hF => ?_
   refine w_skip (blockQ_n (thenQ_n (w_reg 2433 2625 rfl rfl (qp (AI x1) rfl (qp (AI (w64 (x1 + 1))) rfl (qp (AI (w64 (x1 + 1))) rfl (r_nil (thenQ_n ?_))))))))
   refine ar (l' := [(0, AL 2 (v0.map eNote)), (3, AI (w64 (x1 + 1)))]) (L := []) [0, 3] [] 1 ⟨_, by rfl, hF⟩
  refine qn8 (qn4 (qg (AB false) rfl rfl (qp (AB false) rfl (r_nil (w_false rfl (w_skip (blockQ_n (thenQ_n (w_reg 2433 2625 rfl rfl ?_)))))))))
  refine qp (AI x1) rfl (qp (AI (w64 (x1 + 1))) rfl (qp (AI (w64 (x1 + 1))) rfl (r_nil (thenQ_n ?_))))
  refine ar (l' := [(0, AL 2 (v0.map eNote)), (3, AI (w64 (x1 + 1)))]) (L := []) [0, 3] [] 1 ⟨_, by rfl, hF⟩
 refine w_exit (thenQ_e (thenQ_e (blockQ_e (thenQ_n (ws 257 1281 (qp (K3i v0) rfl (qp (AI (v0.length : Int)) (ev_len_n rfl) (qp (AB (decide ((1 : Int) ≤ (v0.length : Int)))) rfl (qp (AB (decide ((1 : Int) ≤ (v0.length : Int)))) rfl ?_)))))))))
 refine q_case 47 hF rfl (fun hF => ?_) (fun hF => ?_)
 ·
  refine qg (K3i v0) rfl rfl (qg (AI (v0.length : Int)) rfl (ev_len_n rfl) (qg (AB (decide ((v0.length : Int) ≤ (16 : Int)))) rfl rfl (qp (AB (decide ((v0.length : Int) ≤ (16 : Int)))) rfl (qp (AB (decide ((v0.length : Int) ≤ (16 : Int)))) rfl (q_case 52 hF rfl (fun hF => qg (K3i v0) rfl rfl (bk hF fun u6 e6 hF => qg (.val none (.ptr [.int .i64 u6.1, .int .i64 u6.2])) rfl (ev_iad_n rfl rfl e6 rfl) (qg (.val none (.ptr [.int .i64 u6.1, .int .i64 u6.2])) rfl rfl (qg (AI u6.1) rfl rfl (qg (AB (decide (u6.1 = (0 : Int)))) rfl rfl (qp (AB (decide (u6.1 = (0 : Int)))) rfl (qp (AB (decide (u6.1 = (0 : Int)))) rfl (rR hF)))))))) fun hF => ?_)))))
  exact qn5 (qp (AB false) rfl (qp (AB false) rfl (rR hF)))
 exact qn3 (qp (AB false) rfl (qp (AB false) rfl (qn3 (qn2 (qp (AB false) rfl (qp (AB false) rfl (rR hF)))))))

def c140 : MC := (sr [pT 2 (.mv cf)] (sr [mvt 3 0, dT 4 113 [t3, (ci 0), (ci 1439)], mvt 2 4] .ret))
theorem c140_ : IsF Tryz.prog 140 c140 [(.tmp 2)] := ⟨by kernel_rfl, by kernel_rfl⟩

def F_spec_l08Minute (v0 : Int) : Option (Bool) :=
 ((F_spec_l00In v0 0 1439).bind fun u0 => some u0)
@[simp] def res_spec_l08Minute (r : Bool) : RV := .one (.one (.val (.bool r)))
theorem con_spec_l08Minute {v0 : Int} {r : Bool} (hF : F_spec_l08Minute v0 = some r) : Con Tryz.prog 140 [.int .i64 v0] (res_spec_l08Minute r) := by
 unfold F_spec_l08Minute at hF
 refine con_of c140_.1 fun N => ?_
 exact ws 0 64 (qp (AB false) rfl (r_nil (ws 64 256 (qp (AI v0) rfl (bk hF fun u0 e0 hF => qC (AB u0) [] (con_spec_l00In e0) c113_ (qp (AB u0) rfl (rR hF)))))))

def c109 : MC := (sr [pT 2 (.mv cf)] (sr [mP 3 t0, pF 4 (.nck t3), pF 5 (.fad t4 0), lF 6 5, dF 7 96 [t6], mP 8 t7, mT 9 8 t0, gT 10 8 (.nck t9), gT 11 8 (.fad t10 1), lG 12 8 11, ⟨(some 13), (some (8, true)), (.call false 140 [t12])⟩, pF 14 (.pick t8 t13 cf), mP 15 t14, mT 16 15 t0, gT 17 15 (.nck t16), gT 18 15 (.fad t17 2), lG 19 15 18, ⟨(some 20), (some (15, true)), (.call false 140 [t19])⟩, pF 21 (.pick t15 t20 cf), mP 22 t21, mT 23 22 t0, gT 24 22 (.nck t23), gT 25 22 (.fad t24 1), lG 26 22 25, mT 27 22 t0, gT 28 22 (.nck t27), gT 29 22 (.fad t28 2), lG 30 22 29, bG 31 22 .neq t26 t30, pF 32 (.pick t22 t31 cf), mP 33 t32, mT 34 33 t0, gT 35 33 (.nck t34), gT 36 33 (.fad t35 3), lG 37 33 36, ⟨(some 38), (some (33, true)), (.call false 113 [t37, (ci (-1)), (ci 5)])⟩, pF 39 (.pick t33 t38 cf), mP 40 t39, mT 41 40 t0, gT 42 40 (.nck t41), gT 43 40 (.fad t42 4), lG 44 40 43, ⟨(some 45), (some (40, true)), (.call false 113 [t44, (ci 1), (ci 240)])⟩, pF 46 (.pick t40 t45 cf), mP 47 t46, mT 48 47 t0, gT 49 47 (.nck t48), gT 50 47 (.fad t49 5), lG 51 47 50, ⟨(some 52), (some (47, true)), (.call false 113 [t51, (ci 0), (ci 1000)])⟩, pF 53 (.pick t47 t52 cf), mP 2 t53] .ret))
theorem c109_ : IsF Tryz.prog 109 c109 [(.tmp 2)] := ⟨by kernel_rfl, by kernel_rfl⟩

def F_spec_l08One (v0 : TItem) : Option (Bool) :=
 ((F_spec_l01Name v0.1).bind fun u0 => (bif u0 then ((F_spec_l08Minute v0.2.1).bind fun u1 => (bif u1 then ((F_spec_l08Minute v0.2.2.1).bind fun u2 => (bif u2 then (bif (decide (v0.2.1 ≠ v0.2.2.1)) then ((F_spec_l00In v0.2.2.2.1 (-1) 5).bind fun u3 => (bif u3 then ((F_spec_l00In v0.2.2.2.2.1 1 240).bind fun u4 => (bif u4 then ((F_spec_l00In v0.2.2.2.2.2 0 1000).bind fun u5 => some u5)
 else some false))
 else some false))
 else some false)
 else some false))
 else some false))
 else some false))
@[simp] abbrev K3j (v0 : TItem) : AV := .val none (.ptr [.str v0.1, .int .i64 v0.2.1, .int .i64 v0.2.2.1, .int .i64 v0.2.2.2.1, .int .i64 v0.2.2.2.2.1, .int .i64 v0.2.2.2.2.2])
@[simp] abbrev K3k (v0 : TItem) : AV := .val none (.ptr [.int .i64 v0.2.1, .int .i64 v0.2.2.1, .int .i64 v0.2.2.2.1, .int .i64 v0.2.2.2.2.1, .int .i64 v0.2.2.2.2.2])
@[simp] abbrev K3l (v0 : TItem) : AV := .val none (.ptr [.int .i64 v0.2.2.1, .int .i64 v0.2.2.2.1, .int .i64 v0.2.2.2.2.1, .int .i64 v0.2.2.2.2.2])
@[simp] def res_spec_l08One (r : Bool) : RV := .one (.one (.val (.bool r)))
theorem con_spec_l08One {v0 : TItem} {r : Bool} (hF : F_spec_l08One v0 = some r) : Con Tryz.prog 109 [.ptr [.str v0.1, .int .i64 v0.2.1, .int .i64 v0.2.2.1, .int .i64 v0.2.2.2.1, .int .i64 v0.2.2.2.2.1, .int .i64 v0.2.2.2.2.2]] (res_spec_l08One r) := by
 unfold F_spec_l08One at hF
 refine con_of c109_.1 fun N => ?_
 refine ws 0 64 (qp (AB false) rfl (r_nil (ws 64 3392 (qp (K3j v0) rfl (qp (K3j v0) rfl (qp (K3j v0) rfl (qp (AS v0.1) rfl (bk hF fun u0 e0 hF => qC (AB u0) [] (con_spec_l01Name e0) c96_ (qp (AB u0) rfl ?_)))))))))
 refine q_case 8 hF rfl (fun hF => ?_) (fun hF => ?_)
 ·
  refine qg (K3j v0) rfl rfl (qg (K3j v0) rfl rfl (qg (K3k v0) rfl rfl (qg (AI v0.2.1) rfl rfl (bk hF fun u1 e1 hF => qG (AB u1) [] (con_spec_l08Minute e1) c140_ (qp (AB u1) rfl (qp (AB u1) rfl ?_))))))
  refine q_case 15 hF rfl (fun hF => ?_) (fun hF => ?_)
  ·
   refine qg (K3j v0) rfl rfl (qg (K3j v0) rfl rfl (qg (K3l v0) rfl rfl (qg (AI v0.2.2.1) rfl rfl (bk hF fun u2 e2 hF => qG (AB u2) [] (con_spec_l08Minute e2) c140_ (qp (AB u2) rfl (qp (AB u2) rfl ?_))))))
   refine q_case 22 hF rfl (fun hF => ?_) (fun hF => ?_)
   ·
    refine qg (K3j v0) rfl rfl (qg (K3j v0) rfl rfl (qg (K3k v0) rfl rfl (qg (AI v0.2.1) rfl rfl (qg (K3j v0) rfl rfl (qg (K3j v0) rfl rfl (qg (K3l v0) rfl rfl (qg (AI v0.2.2.1) rfl rfl (qg (AB (decide (v0.2.1 ≠ v0.2.2.1))) rfl rfl (qp (AB (decide (v0.2.1 ≠ v0.2.2.1))) rfl (qp (AB (decide (v0.2.1 ≠ v0.2.2.1))) rfl ?_))))))))))
    refine q_case 33 hF rfl (fun hF => ?_) (fun hF => ?_)
    ·
     refine qg (K3j v0) rfl rfl (qg (K3j v0) rfl rfl (qg (.val none (.ptr [.int .i64 v0.2.2.2.1, .int .i64 v0.2.2.2.2.1, .int .i64 v0.2.2.2.2.2])) rfl rfl (qg (AI v0.2.2.2.1) rfl rfl (bk hF fun u3 e3 hF => qG (AB u3) [] (con_spec_l00In e3) c113_ (qp (AB u3) rfl (qp (AB u3) rfl ?_))))))
     refine q_case 40 hF rfl (fun hF => ?_) (fun hF => ?_)
     ·
      refine qg (K3j v0) rfl rfl (qg (K3j v0) rfl rfl (qg (.val none (.ptr [.int .i64 v0.2.2.2.2.1, .int .i64 v0.2.2.2.2.2])) rfl rfl (qg (AI v0.2.2.2.2.1) rfl rfl (bk hF fun u4 e4 hF => qG (AB u4) [] (con_spec_l00In e4) c113_ (qp (AB u4) rfl (qp (AB u4) rfl (q_case 47 hF rfl (fun hF => qg (K3j v0) rfl rfl (qg (K3j v0) rfl rfl (qg (.val none (.ptr [.int .i64 v0.2.2.2.2.2])) rfl rfl (qg (AI v0.2.2.2.2.2) rfl rfl (bk hF fun u5 e5 hF => qG (AB u5) [] (con_spec_l00In e5) c113_ (qp (AB u5) rfl (qp (AB u5) rfl (rR hF)))))))) fun hF => ?_)))))))
      exact qn5 (qp (AB false) rfl (qp (AB false) rfl (rR hF)))
     exact qn5 (qp (AB false) rfl (qp (AB false) rfl (qn rfl (qn4 (qp (AB false) rfl (qp (AB false) rfl (rR hF)))))))
    exact qn5 (qp (AB false) rfl (qp (AB false) rfl (qn rfl (qn4 (qp (AB false) rfl (qp (AB false) rfl (qn2 (qn3 (qp (AB false) rfl (qp (AB false) rfl (rR hF)))))))))))
   refine qn8 (qn rfl (qp (AB false) rfl (qp (AB false) rfl (qn rfl (qn rfl (qn rfl (qn rfl (qn rfl (qp (AB false) rfl (qp (AB false) rfl (qn5 (qp (AB false) rfl ?_))))))))))))
   exact qp (AB false) rfl (qn5 (qp (AB false) rfl (qp (AB false) rfl (rR hF))))
  refine qn5 (qp (AB false) rfl (qp (AB false) rfl (qn rfl (qn8 (qp (AB false) rfl (qp (AB false) rfl (qn5 (qp (AB false) rfl (qp (AB false) rfl (qn5 (qp (AB false) rfl (qp (AB false) rfl ?_))))))))))))
  exact qn5 (qp (AB false) rfl (qp (AB false) rfl (rR hF)))
 refine qn5 (qp (AB false) rfl (qp (AB false) rfl (qn rfl (qn4 (qp (AB false) rfl (qp (AB false) rfl (qn2 (qn7 (qp (AB false) rfl (qp (AB false) rfl (qn5 (qp (AB false) rfl (qp (AB false) rfl ?_)))))))))))))
 exact qn5 (qp (AB false) rfl (qp (AB false) rfl (qn rfl (qn4 (qp (AB false) rfl (qp (AB false) rfl (rR hF)))))))

def c58 : MC := (sr [pT 2 (.mv cf)] (.seq (sr [pT 3 (.mv (ci 0))] (.block 0 (.loop (.seq (sr [mvt 4 3, mvt 5 0, zT 6 5, bT 7 .lss t4 t6] (cx t7 0)) (.seq (.block 1 (sr [mP 10 t0, mP 11 t3, iF 12 10 11 6, dF 13 109 [t12], pF 14 (.not t13), mP 15 t14, mF 16 15 t3, bH 17 15 .gtr t16 (ci 0), mF 18 15 t17, mT 19 18 t0, mT 20 18 t3, bG 21 18 .sub t20 (ci 1), iG 22 18 19 21 6, gT 23 18 (.fad t22 0), lG 24 18 23, mT 25 18 t0, mT 26 18 t3, iG 27 18 25 26 6, gT 28 18 (.fad t27 0), lG 29 18 28, bG 30 18 .geq t24 t29, gF 31 15 (.pick t18 t30 cf), pF 32 (.pick t15 ct t31)] (.cond t32 (sr [pT 2 (.mv cf)] .ret) .skip))) (.reg [mvt 8 3, bT 9 .add t8 (ci 1), mvt 3 9])))))) (sr [mvt 33 0, zT 34 33, bT 35 .leq t34 (ci 12), mvt 2 35] .ret)))
theorem c58_ : IsF Tryz.prog 58 c58 [(.tmp 2)] := ⟨by kernel_rfl, by kernel_rfl⟩

def F_spec_l08Ok_l0 (v0 : List TItem) (k0 : Int → Option (Bool)) : Int → Option (Bool)
 | x1 => (bif (decide (x1 < (v0.length : Int))) then ((ix v0 x1).bind fun u0 => ((F_spec_l08One u0).bind fun u1 => (bif (!u1) then some false
 else (bif (decide ((0 : Int) < x1)) then ((ix v0 (w64 (x1 - 1))).bind fun u2 => ((ix v0 x1).bind fun u3 => (bif (!Op.bytesLess u2.1 u3.1) then some false
 else k0 (w64 (x1 + 1)))))
 else k0 (w64 (x1 + 1))))))
 else some (decide ((v0.length : Int) ≤ (12 : Int))))
def F_spec_l08Ok (v0 : List TItem) : Option (Bool) :=
 loop (F_spec_l08Ok_l0 v0) 0
@[simp] abbrev K3m (u2 : TItem) : AV := .val none (.ptr [.str u2.1, .int .i64 u2.2.1, .int .i64 u2.2.2.1, .int .i64 u2.2.2.2.1, .int .i64 u2.2.2.2.2.1, .int .i64 u2.2.2.2.2.2])
@[simp] abbrev K3n (u3 : TItem) : AV := .val none (.ptr [.str u3.1, .int .i64 u3.2.1, .int .i64 u3.2.2.1, .int .i64 u3.2.2.2.1, .int .i64 u3.2.2.2.2.1, .int .i64 u3.2.2.2.2.2])
@[simp] abbrev K3o (v0 : List TItem) : V := .sl 6 (v0.map eItem)
@[simp] def res_spec_l08Ok (r : Bool) : RV := .one (.one (.val (.bool r)))
theorem con_spec_l08Ok {v0 : List TItem} {r : Bool} (hF : F_spec_l08Ok v0 = some r) : Con Tryz.prog 58 [.sl 6 (v0.map eItem)] (res_spec_l08Ok r) := by
 unfold F_spec_l08Ok at hF
 refine con_of c58_.1 fun N => ?_
 refine ws 0 64 (qp (AB false) rfl (r_nil (w_seq (ws 64 128 (qp (AI 0) rfl (r_nil (w_block ?_)))))))
 refine wr (l' := [(0, .val none (K3o v0)), (3, AI 0)]) (L := []) [0, 3] [] 1 ?_
 refine w_loopF (F_spec_l08Ok_l0 v0) (fun s : Int => mkS [(0, .val none (K3o v0)), (3, AI s)] (fo []) 1) hF ?_
 rintro k0 x1 hF
 rw [F_spec_l08Ok_l0] at hF
 try dsimp only
 refine w_seq (ws 1 257 (qp (AI x1) rfl (qp (.val none (K3o v0)) rfl (qp (AI (v0.length : Int)) (ev_len_n rfl) (qp (AB (decide (x1 < (v0.length : Int)))) rfl (r_nil ?_))))))
 refine cF hF (fun hF => ?_) fun hF => ?_
 ·
  refine w_skip (thenQ_n (w_seq (w_block (ws 257 1729 (qp (.val none (K3o v0)) rfl (qp (AI x1) rfl (bk hF fun u0 e0 hF => qp (.val none (.ptr [.str u0.1, .int .i64 u0.2.1, .int .i64 u0.2.2.1, .int .i64 u0.2.2.2.1, .int .i64 u0.2.2.2.2.1, .int .i64 u0.2.2.2.2.2])) (ev_iad_n rfl rfl e0 rfl) (bk hF fun u1 e1 hF => qC (AB u1) [] (con_spec_l08One e1) c109_ (qp (AB (!u1)) rfl (qp (AB (!u1)) rfl ?_))))))))))
  refine q_case 15 hF rfl (fun hF => ?_) (fun hF => ?_)
  ·
   refine qn3 (qu rfl (qu rfl (qu rfl (qu rfl (qu rfl (qu rfl (qu rfl (qu rfl (qu rfl (qu rfl (qu rfl (qu rfl (qn rfl ?_)))))))))))))
   exact qp (AB true) rfl (r_nil (w_true rfl (ws 1729 1793 (qp (AB false) rfl (r_nil (w_ret (blockQ_r (thenQ_r (thenQ_r (blockQ_r (thenQ_r (eQ hF))))))))))))
  refine qg (AI x1) rfl rfl (qg (AB (decide ((0 : Int) < x1))) rfl rfl (qg (AB (decide ((0 : Int) < x1))) rfl rfl ?_))
  refine q_case 18 hF rfl (fun hF => ?_) (fun hF => ?_)
  ·
   refine qg (.val none (K3o v0)) rfl rfl (qg (AI x1) rfl rfl (qg (AI (w64 (x1 - 1))) rfl rfl (bk hF fun u2 e2 hF => qg (K3m u2) rfl (ev_iad_n rfl rfl e2 rfl) (qg (K3m u2) rfl rfl (qg (AS u2.1) rfl rfl (qg (.val none (K3o v0)) rfl rfl (qg (AI x1) rfl rfl (bk hF fun u3 e3 hF => qg (K3n u3) rfl (ev_iad_n rfl rfl e3 rfl) (qg (K3n u3) rfl rfl (qg (AS u3.1) rfl rfl (qg (AB (!Op.bytesLess u2.1 u3.1)) rfl rfl (qg (AB (!Op.bytesLess u2.1 u3.1)) rfl rfl (qp (AB (!Op.bytesLess u2.1 u3.1)) rfl (r_nil ?_))))))))))))))
   refine cF hF (fun hF => ws 1729 1793 (qp (AB false) rfl (r_nil (w_ret (blockQ_r (thenQ_r (thenQ_r (blockQ_r (thenQ_r (eQ hF)))))))))) fun hF => ?_
   refine w_skip (blockQ_n (thenQ_n (w_reg 1729 1921 rfl rfl (qp (AI x1) rfl (qp (AI (w64 (x1 + 1))) rfl (qp (AI (w64 (x1 + 1))) rfl (r_nil (thenQ_n ?_))))))))
   refine ar (l' := [(0, .val none (K3o v0)), (3, AI (w64 (x1 + 1)))]) (L := []) [0, 3] [] 1 ⟨_, by rfl, hF⟩
  refine qn8 (qn4 (qg (AB false) rfl rfl (qp (AB false) rfl (r_nil (w_false rfl (w_skip (blockQ_n (thenQ_n (w_reg 1729 1921 rfl rfl ?_)))))))))
  refine qp (AI x1) rfl (qp (AI (w64 (x1 + 1))) rfl (qp (AI (w64 (x1 + 1))) rfl (r_nil (thenQ_n ?_))))
  refine ar (l' := [(0, .val none (K3o v0)), (3, AI (w64 (x1 + 1)))]) (L := []) [0, 3] [] 1 ⟨_, by rfl, hF⟩
 exact w_exit (thenQ_e (thenQ_e (blockQ_e (thenQ_n (ws 257 513 (qp (.val none (K3o v0)) rfl (qp (AI (v0.length : Int)) (ev_len_n rfl) (qp (AB (decide ((v0.length : Int) ≤ (12 : Int)))) rfl (qp (AB (decide ((v0.length : Int) ≤ (12 : Int)))) rfl (rR hF))))))))))

def c110 : MC := (sr [pT 2 (.mv cf)] (sr [mvt 3 0, pT 4 (.nck t3), pT 5 (.fad t4 0), lT 6 5, dT 7 113 [t6, (ci 0), (ci 100000)], mvt 8 7, nT 9 8 t0, kT 10 8 (.nck t9), kT 11 8 (.fad t10 1), kT 12 8 (.ld t11 1 false), ⟨(some 13), (some (8, true)), (.call true 96 [t12])⟩, pT 14 (.pick t8 t13 cf), mvt 15 14, nT 16 15 t0, kT 17 15 (.nck t16), kT 18 15 (.fad t17 2), kT 19 15 (.ld t18 1 false), ⟨(some 20), (some (15, true)), (.call true 96 [t19])⟩, pT 21 (.pick t15 t20 cf), mvt 22 21, nT 23 22 t0, kT 24 22 (.nck t23), kT 25 22 (.fad t24 3), kT 26 22 (.ld t25 1 false), ⟨(some 27), (some (22, true)), (.call true 113 [t26, (ci 1), (ci 480)])⟩, pT 28 (.pick t22 t27 cf), mvt 29 28, nT 30 29 t0, kT 31 29 (.nck t30), kT 32 29 (.fad t31 4), kT 33 29 (.ld t32 1 false), ⟨(some 34), (some (29, true)), (.call true 113 [t33, (ci 0), (ci 100)])⟩, pT 35 (.pick t29 t34 cf), mvt 2 35] .ret))
theorem c110_ : IsF Tryz.prog 110 c110 [(.tmp 2)] := ⟨by kernel_rfl, by kernel_rfl⟩

def F_spec_l28One (v0 : TLesson) : Option (Bool) :=
 ((F_spec_l00In v0.1 0 100000).bind fun u0 => (bif u0 then ((F_spec_l01Name v0.2.1).bind fun u1 => (bif u1 then ((F_spec_l01Name v0.2.2.1).bind fun u2 => (bif u2 then ((F_spec_l00In v0.2.2.2.1 1 480).bind fun u3 => (bif u3 then ((F_spec_l00In v0.2.2.2.2 0 100).bind fun u4 => some u4)
 else some false))
 else some false))
 else some false))
 else some false))
@[simp] abbrev K3p (v0 : TLesson) : AV := .val none (.ptr [.int .i64 v0.1, .str v0.2.1, .str v0.2.2.1, .int .i64 v0.2.2.2.1, .int .i64 v0.2.2.2.2])
@[simp] def res_spec_l28One (r : Bool) : RV := .one (.one (.val (.bool r)))
theorem con_spec_l28One {v0 : TLesson} {r : Bool} (hF : F_spec_l28One v0 = some r) : Con Tryz.prog 110 [.ptr [.int .i64 v0.1, .str v0.2.1, .str v0.2.2.1, .int .i64 v0.2.2.2.1, .int .i64 v0.2.2.2.2]] (res_spec_l28One r) := by
 unfold F_spec_l28One at hF
 refine con_of c110_.1 fun N => ?_
 refine ws 0 64 (qp (AB false) rfl (r_nil (ws 64 2240 (qp (K3p v0) rfl (qp (K3p v0) rfl (qp (K3p v0) rfl (qp (AI v0.1) rfl (bk hF fun u0 e0 hF => qC (AB u0) [] (con_spec_l00In e0) c113_ (qp (AB u0) rfl ?_)))))))))
 refine q_case 8 hF rfl (fun hF => ?_) (fun hF => ?_)
 ·
  refine qg (K3p v0) rfl rfl (qg (K3p v0) rfl rfl (qg (.val none (.ptr [.str v0.2.1, .str v0.2.2.1, .int .i64 v0.2.2.2.1, .int .i64 v0.2.2.2.2])) rfl rfl (qg (AS v0.2.1) rfl rfl (bk hF fun u1 e1 hF => qG (AB u1) [] (con_spec_l01Name e1) c96_ (qp (AB u1) rfl (qp (AB u1) rfl ?_))))))
  refine q_case 15 hF rfl (fun hF => ?_) (fun hF => ?_)
  ·
   refine qg (K3p v0) rfl rfl (qg (K3p v0) rfl rfl (qg (.val none (.ptr [.str v0.2.2.1, .int .i64 v0.2.2.2.1, .int .i64 v0.2.2.2.2])) rfl rfl (qg (AS v0.2.2.1) rfl rfl (bk hF fun u2 e2 hF => qG (AB u2) [] (con_spec_l01Name e2) c96_ (qp (AB u2) rfl (qp (AB u2) rfl ?_))))))
   refine q_case 22 hF rfl (fun hF => ?_) (fun hF => ?_)
   ·
    refine qg (K3p v0) rfl rfl (qg (K3p v0) rfl rfl (qg (.val none (.ptr [.int .i64 v0.2.2.2.1, .int .i64 v0.2.2.2.2])) rfl rfl (qg (AI v0.2.2.2.1) rfl rfl (bk hF fun u3 e3 hF => qG (AB u3) [] (con_spec_l00In e3) c113_ (qp (AB u3) rfl (qp (AB u3) rfl (q_case 29 hF rfl (fun hF => qg (K3p v0) rfl rfl (qg (K3p v0) rfl rfl (qg (.val none (.ptr [.int .i64 v0.2.2.2.2])) rfl rfl (qg (AI v0.2.2.2.2) rfl rfl (bk hF fun u4 e4 hF => qG (AB u4) [] (con_spec_l00In e4) c113_ (qp (AB u4) rfl (qp (AB u4) rfl (rR hF)))))))) fun hF => ?_)))))))
    exact qn5 (qp (AB false) rfl (qp (AB false) rfl (rR hF)))
   exact qn5 (qp (AB false) rfl (qp (AB false) rfl (qn rfl (qn4 (qp (AB false) rfl (qp (AB false) rfl (rR hF)))))))
  exact qn5 (qp (AB false) rfl (qp (AB false) rfl (qn rfl (qn4 (qp (AB false) rfl (qp (AB false) rfl (qn2 (qn3 (qp (AB false) rfl (qp (AB false) rfl (rR hF)))))))))))
 refine qn5 (qp (AB false) rfl (qp (AB false) rfl (qn rfl (qn4 (qp (AB false) rfl (qp (AB false) rfl (qn2 (qn3 (qp (AB false) rfl (qp (AB false) rfl (qn3 ?_)))))))))))
 exact qn2 (qp (AB false) rfl (qp (AB false) rfl (rR hF)))

def c111 : MC := (sr [pT 4 (.mv cf)] (.seq (sr [mP 5 t0, pF 6 (.nck t5), pF 7 (.fad t6 0), lF 8 7, mP 9 t1, pF 10 (.nck t9), pF 11 (.fad t10 0), lF 12 11, bF 13 .neq t8 t12] (.cond t13 (sr [mP 14 t0, pF 15 (.nck t14), pF 16 (.fad t15 0), lF 17 16, mP 18 t1, pF 19 (.nck t18), pF 20 (.fad t19 0), lF 21 20, bF 22 .lss t17 t21, mP 4 t22] .ret) .skip)) (.seq (sr [mP 23 t0, pF 24 (.nck t23), pF 25 (.fad t24 1), lF 26 25, mP 27 t1, pF 28 (.nck t27), pF 29 (.fad t28 1), lF 30 29, bF 31 .neq t26 t30] (.cond t31 (sr [mP 32 t0, pF 33 (.nck t32), pF 34 (.fad t33 1), lF 35 34, mP 36 t1, pF 37 (.nck t36), pF 38 (.fad t37 1), lF 39 38, bF 40 .lss t35 t39, mP 4 t40] .ret) .skip)) (sr [mP 41 t0, pF 42 (.nck t41), pF 43 (.fad t42 2), lF 44 43, mP 45 t1, pF 46 (.nck t45), pF 47 (.fad t46 2), lF 48 47, bF 49 .lss t44 t48, mP 4 t49] .ret))))
theorem c111_ : IsF Tryz.prog 111 c111 [(.tmp 4)] := ⟨by kernel_rfl, by kernel_rfl⟩

def F_spec_l28Before (v0 : TLesson) (v1 : TLesson) : Option (Bool) :=
 (bif (decide (v0.1 ≠ v1.1)) then some (decide (v0.1 < v1.1))
 else (bif (decide (v0.2.1 ≠ v1.2.1)) then some (Op.bytesLess v0.2.1 v1.2.1)
 else some (Op.bytesLess v0.2.2.1 v1.2.2.1)))
@[simp] abbrev K3q (v0 : TLesson) : AV := .val none (.ptr [.int .i64 v0.1, .str v0.2.1, .str v0.2.2.1, .int .i64 v0.2.2.2.1, .int .i64 v0.2.2.2.2])
@[simp] abbrev K3r (v1 : TLesson) : AV := .val none (.ptr [.int .i64 v1.1, .str v1.2.1, .str v1.2.2.1, .int .i64 v1.2.2.2.1, .int .i64 v1.2.2.2.2])
@[simp] def res_spec_l28Before (r : Bool) : RV := .one (.one (.val (.bool r)))
theorem con_spec_l28Before {v0 : TLesson} {v1 : TLesson} {r : Bool} (hF : F_spec_l28Before v0 v1 = some r) : Con Tryz.prog 111 [.ptr [.int .i64 v0.1, .str v0.2.1, .str v0.2.2.1, .int .i64 v0.2.2.2.1, .int .i64 v0.2.2.2.2], .ptr [.int .i64 v1.1, .str v1.2.1, .str v1.2.2.1, .int .i64 v1.2.2.2.1, .int .i64 v1.2.2.2.2]] (res_spec_l28Before r) := by
 unfold F_spec_l28Before at hF
 refine con_of c111_.1 fun N => ?_
 refine ws 0 64 (qp (AB false) rfl (r_nil (w_seq (ws 64 640 (qp (K3q v0) rfl (qp (K3q v0) rfl (qp (K3q v0) rfl (qp (AI v0.1) rfl (qp (K3r v1) rfl (qp (K3r v1) rfl (qp (K3r v1) rfl (qp (AI v1.1) rfl (qp (AB (decide (v0.1 ≠ v1.1))) rfl ?_)))))))))))))
 refine r_nil (cF hF (fun hF => ws 640 1280 (qp (K3q v0) rfl (qp (K3q v0) rfl (qp (K3q v0) rfl (qp (AI v0.1) rfl (qp (K3r v1) rfl (qp (K3r v1) rfl (qp (K3r v1) rfl (qp (AI v1.1) rfl (qp (AB (decide (v0.1 < v1.1))) rfl (qp (AB (decide (v0.1 < v1.1))) rfl (r_nil (w_ret (thenQ_r (eQ hF))))))))))))))) fun hF => ?_)
 refine w_skip (thenQ_n (w_seq (ws 640 1216 (qp (K3q v0) rfl (qp (K3q v0) rfl (qp (.val none (.ptr [.str v0.2.1, .str v0.2.2.1, .int .i64 v0.2.2.2.1, .int .i64 v0.2.2.2.2])) rfl (qp (AS v0.2.1) rfl (qp (K3r v1) rfl (qp (K3r v1) rfl (qp (.val none (.ptr [.str v1.2.1, .str v1.2.2.1, .int .i64 v1.2.2.2.1, .int .i64 v1.2.2.2.2])) rfl (qp (AS v1.2.1) rfl (qp (AB (decide (v0.2.1 ≠ v1.2.1))) rfl (r_nil ?_)))))))))))))
 refine cF hF (fun hF => ?_) fun hF => ?_
 ·
  exact ws 1216 1856 (qp (K3q v0) rfl (qp (K3q v0) rfl (qp (.val none (.ptr [.str v0.2.1, .str v0.2.2.1, .int .i64 v0.2.2.2.1, .int .i64 v0.2.2.2.2])) rfl (qp (AS v0.2.1) rfl (qp (K3r v1) rfl (qp (K3r v1) rfl (qp (.val none (.ptr [.str v1.2.1, .str v1.2.2.1, .int .i64 v1.2.2.2.1, .int .i64 v1.2.2.2.2])) rfl (qp (AS v1.2.1) rfl (qp (AB (Op.bytesLess v0.2.1 v1.2.1)) rfl (qp (AB (Op.bytesLess v0.2.1 v1.2.1)) rfl (r_nil (w_ret (thenQ_r (eQ hF))))))))))))))
 exact w_skip (thenQ_n (ws 1216 1856 (qp (K3q v0) rfl (qp (K3q v0) rfl (qp (.val none (.ptr [.str v0.2.2.1, .int .i64 v0.2.2.2.1, .int .i64 v0.2.2.2.2])) rfl (qp (AS v0.2.2.1) rfl (qp (K3r v1) rfl (qp (K3r v1) rfl (qp (.val none (.ptr [.str v1.2.2.1, .int .i64 v1.2.2.2.1, .int .i64 v1.2.2.2.2])) rfl (qp (AS v1.2.2.1) rfl (qp (AB (Op.bytesLess v0.2.2.1 v1.2.2.1)) rfl (qp (AB (Op.bytesLess v0.2.2.1 v1.2.2.1)) rfl (rR hF)))))))))))))

def c141 : MC := (sr [rg 4 (.f (.nilrow 1))] (sr [rg 8 (.f (.bsl 1 [])), mvt 5 8] (sr [pT 6 (.mv cf)] (.seq (sr [pT 7 (.mv (ci 0))] (.block 0 (.loop (.seq (sr [mvt 9 7, mvt 10 0, zT 11 10, bT 12 .lss t9 t11] (cx t12 0)) (.seq (.block 1 (.seq (sr [mvt 15 6, pT 16 (.not t15), mvt 17 16, nT 18 17 t0, nT 19 17 t7, kT 20 17 (.iad t18 t19 1), kT 21 17 (.ld t20 1 false), nT 22 17 t1, kT 23 17 (.bin .geq t21 t22), pT 24 (.pick t17 t23 cf)] (.cond t24 (sr [mvt 25 5, mvt 26 1, rg 27 (.f (.bsl 1 [t26])), rg 28 (.f (.app t25 t27 1 16 true)), mvt 5 28] (.reg [pT 6 (.mv ct)])) .skip)) (sr [mvt 29 0, mvt 30 7, iT 31 29 30 1, lT 32 31, mvt 33 1, bT 34 .neq t32 t33] (.cond t34 (.reg [mvt 35 5, mvt 36 0, mvt 37 7, iT 38 36 37 1, lT 39 38, rg 40 (.f (.bsl 1 [t39])), rg 41 (.f (.app t35 t40 1 16 true)), mvt 5 41]) .skip)))) (.reg [mvt 13 7, bT 14 .add t13 (ci 1), mvt 7 14])))))) (.seq (sr [mvt 42 6, pT 43 (.not t42)] (.cond t43 (.reg [mvt 44 5, mvt 45 1, rg 46 (.f (.bsl 1 [t45])), rg 47 (.f (.app t44 t46 1 16 true)), mvt 5 47]) .skip)) (sr [mvt 48 5, mvt 4 48] .ret))))))
theorem c141_ : IsF Tryz.prog 141 c141 [(.tmp 4)] := ⟨by kernel_rfl, by kernel_rfl⟩

def F_spec_l28Put_j1 (v0 : List (List UInt8)) (v1 : List UInt8) (x8 : Int) (k0 : Bool × Int × (List (List UInt8)) → Option (List (List UInt8))) (x10 : Bool) (x11 : List (List UInt8)) : Option (List (List UInt8)) :=
 ((ix v0 x8).bind fun u2 => (bif (decide (u2 ≠ v1)) then ((ix v0 x8).bind fun u3 => (need (room (x11.length + [u3].length) 16) (k0 (x10, w64 (x8 + 1), x11 ++ [u3]))))
 else k0 (x10, w64 (x8 + 1), x11)))
def F_spec_l28Put_l0 (v0 : List (List UInt8)) (v1 : List UInt8) (k0 : Bool × Int × (List (List UInt8)) → Option (List (List UInt8))) : Bool × Int × (List (List UInt8)) → Option (List (List UInt8))
 | (x7, x8, x9) => (bif (decide (x8 < (v0.length : Int))) then (bif (!x7) then ((ix v0 x8).bind fun u0 => (bif (!Op.bytesLess u0 v1) then (need (room (x9.length + [v1].length) 16) (F_spec_l28Put_j1 v0 v1 x8 k0 true (x9 ++ [v1])))
 else F_spec_l28Put_j1 v0 v1 x8 k0 x7 x9))
 else F_spec_l28Put_j1 v0 v1 x8 k0 x7 x9)
 else (bif (!x7) then (need (room (x9.length + [v1].length) 16) (some (x9 ++ [v1])))
 else some x9))
def F_spec_l28Put (v0 : List (List UInt8)) (v1 : List UInt8) : Option (List (List UInt8)) :=
 loop (F_spec_l28Put_l0 v0 v1) (false, 0, [])
@[simp] abbrev K3s : List (Nat × Root) := [(0, .row true 1 (([] : List Int).map vI))]
@[simp] abbrev K3t (v1 : List UInt8) (x9 : List (List UInt8)) : List (Nat × Root) := [(1025, .row true 1 ([v1].map V.str)), (0, .row true 1 (x9.map V.str))]
@[simp] abbrev K3u (u3 : List UInt8) (x11 : List (List UInt8)) : List (Nat × Root) := [(705, .row true 1 ([u3].map V.str)), (0, .row true 1 (x11.map V.str))]
@[simp] abbrev K3v (v1 : List UInt8) (x9 : List (List UInt8)) : List (Nat × Root) := [(513, .row true 1 ([v1].map V.str)), (0, .row true 1 (x9.map V.str))]
@[simp] abbrev K3w (v0 : List (List UInt8)) : Nat × AV := (0, AL 1 (v0.map V.str))
@[simp] def res_spec_l28Put (r : List (List UInt8)) : RV := .one (.one (.row true 1 (r.map V.str)))
theorem con_spec_l28Put {v0 : List (List UInt8)} {v1 : List UInt8} {r : List (List UInt8)} (hF : F_spec_l28Put v0 v1 = some r) : Con Tryz.prog 141 [.sl 1 (v0.map V.str), .str v1] (res_spec_l28Put r) := by
 unfold F_spec_l28Put at hF
 refine con_of c141_.1 fun N => ?_
 refine ws 0 64 (qf (.sl 0 0 0) K3s (by simp) (r_nil (ws 64 192 (qf (.sl 64 0 0) ((64, .row true 1 (([] : List (List UInt8)).map V.str)) :: K3s) (by simp [List.take_of_length_le]) (qp (.sl 64 0 0) rfl (r_nil (ws 192 256 (qp (AB false) rfl (r_nil (w_seq (ws 256 320 (qp (AI 0) rfl (r_nil ?_)))))))))))))
 refine w_block ?_
 refine wr (l' := [(K3w v0), (1, AS v1), (5, .sl 0 0 0), (6, AB false), (7, AI 0)]) (L := [(0, .row true 1 (([] : List (List UInt8)).map V.str))]) [0, 1, 5, 6, 7] [(64, 0)] 1 ?_
 refine w_loopF (F_spec_l28Put_l0 v0 v1) (fun s : Bool × Int × (List (List UInt8)) => mkS [(K3w v0), (1, AS v1), (5, .sl 0 0 s.2.2.length), (6, AB s.1), (7, AI s.2.1)] (fo [(0, .row true 1 (s.2.2.map V.str))]) 1) hF ?_
 rintro k0 ⟨x7, x8, x9⟩ hF
 rw [F_spec_l28Put_l0] at hF
 try dsimp only
 refine w_seq (ws 1 257 (qp (AI x8) rfl (qp (AL 1 (v0.map V.str)) rfl (qp (AI (v0.length : Int)) (ev_len_n rfl) (qp (AB (decide (x8 < (v0.length : Int)))) rfl (r_nil ?_))))))
 refine cF hF (fun hF => ?_) fun hF => ?_
 ·
  refine w_skip (thenQ_n (w_seq (w_block ?_)))
  refine w_meet (fun s' => ∃ (x10 : Bool) (x11 : List (List UInt8)), s' = mkS [(K3w v0), (1, AS v1), (5, .sl 0 0 x11.length), (6, AB x10), (7, AI x8)] (fo [(0, .row true 1 (x11.map V.str))]) 1 ∧ F_spec_l28Put_j1 v0 v1 x8 k0 x10 x11 = some r) ?_ ?_
  ·
   refine ws 257 897 (qp (AB x7) rfl (qp (AB (!x7)) rfl (qp (AB (!x7)) rfl ?_)))
   refine q_case 17 hF rfl (fun hF => ?_) (fun hF => ?_)
   ·
    refine qg (AL 1 (v0.map V.str)) rfl rfl (qg (AI x8) rfl rfl (bk hF fun u0 e0 hF => qg (.val none (.ptr [.str u0])) rfl (ev_iad_n rfl rfl e0 rfl) (qg (AS u0) rfl rfl (qg (AS v1) rfl rfl (qg (AB (!Op.bytesLess u0 v1)) rfl rfl (qp (AB (!Op.bytesLess u0 v1)) rfl (r_nil ?_)))))))
    refine cF hF (fun hF => ?_) fun hF => ?_
    ·
     refine ws 897 1217 (qp (.sl 0 0 x9.length) rfl (qp (AS v1) rfl (qf (.sl 1025 0 ([v1].length)) (K3t v1 x9) (by simp [List.take_of_length_le]) (nk hF fun g1 hF => qf (.sl 1089 0 ((x9 ++ [v1]).length)) ((1089, .row true 1 ((x9 ++ [v1]).map V.str)) :: (0, .dead) :: (1025, .dead) :: (K3t v1 x9)) (effT_app_l rfl (by simp) rfl rfl (by simp) rfl (by decide) g1 rfl) (qp (.sl 1089 0 ((x9 ++ [v1]).length)) rfl (r_nil (w_reg 1217 1281 rfl rfl (qp (AB true) rfl (r_nil (thenQ_n ?_))))))))))
     refine ar (l' := [(K3w v0), (1, AS v1), (5, .sl 0 0 (x9 ++ [v1]).length), (6, AB true), (7, AI x8)]) (L := [(0, .row true 1 ((x9 ++ [v1]).map V.str))]) [0, 1, 5, 6, 7] [(1089, 0)] 1 ⟨_, _, rfl, hF⟩
    refine w_skip (thenQ_n ?_)
    refine ar (l' := [(K3w v0), (1, AS v1), (5, .sl 0 0 x9.length), (6, AB x7), (7, AI x8)]) (L := [(0, .row true 1 (x9.map V.str))]) [0, 1, 5, 6, 7] [(0, 0)] 1 ⟨_, _, rfl, hF⟩
   refine qn6 (qp (AB false) rfl (r_nil (w_false rfl (w_skip (thenQ_n ?_)))))
   refine ar (l' := [(K3w v0), (1, AS v1), (5, .sl 0 0 x9.length), (6, AB x7), (7, AI x8)]) (L := [(0, .row true 1 (x9.map V.str))]) [0, 1, 5, 6, 7] [(0, 0)] 1 ⟨_, _, rfl, hF⟩
  rintro s' ⟨x10, x11, rfl, hF⟩
  unfold F_spec_l28Put_j1 at hF
  refine ws 1 385 (qp (AL 1 (v0.map V.str)) rfl (qp (AI x8) rfl (bk hF fun u2 e2 hF => qp (.val none (.ptr [.str u2])) (ev_iad_n rfl rfl e2 rfl) (qp (AS u2) rfl (qp (AS v1) rfl (qp (AB (decide (u2 ≠ v1))) rfl (r_nil ?_)))))))
  refine cF hF (fun hF => ?_) fun hF => ?_
  ·
   refine w_reg 385 897 rfl rfl (qp (.sl 0 0 x11.length) rfl (qp (AL 1 (v0.map V.str)) rfl (qp (AI x8) rfl (bk hF fun u3 e3 hF => qp (.val none (.ptr [.str u3])) (ev_iad_n rfl rfl e3 rfl) (qp (AS u3) rfl (qf (.sl 705 0 ([u3].length)) (K3u u3 x11) (by simp [List.take_of_length_le]) (nk hF fun g4 hF => qf (.sl 769 0 ((x11 ++ [u3]).length)) ((769, .row true 1 ((x11 ++ [u3]).map V.str)) :: (0, .dead) :: (705, .dead) :: (K3u u3 x11)) (effT_app_l rfl (by simp) rfl rfl (by simp) rfl (by decide) g4 rfl) (qp (.sl 769 0 ((x11 ++ [u3]).length)) rfl (r_nil (blockQ_n (thenQ_n (w_reg 897 1089 rfl rfl ?_))))))))))))
   refine qp (AI x8) rfl (qp (AI (w64 (x8 + 1))) rfl (qp (AI (w64 (x8 + 1))) rfl (r_nil (thenQ_n ?_))))
   refine ar (l' := [(K3w v0), (1, AS v1), (5, .sl 0 0 (x11 ++ [u3]).length), (6, AB x10), (7, AI (w64 (x8 + 1)))]) (L := [(0, .row true 1 ((x11 ++ [u3]).map V.str))]) [0, 1, 5, 6, 7] [(769, 0)] 1 ⟨_, by rfl, hF⟩
  refine w_skip (blockQ_n (thenQ_n (w_reg 385 577 rfl rfl (qp (AI x8) rfl (qp (AI (w64 (x8 + 1))) rfl (qp (AI (w64 (x8 + 1))) rfl (r_nil (thenQ_n ?_))))))))
  refine ar (l' := [(K3w v0), (1, AS v1), (5, .sl 0 0 x11.length), (6, AB x10), (7, AI (w64 (x8 + 1)))]) (L := [(0, .row true 1 (x11.map V.str))]) [0, 1, 5, 6, 7] [(0, 0)] 1 ⟨_, by rfl, hF⟩
 refine w_exit (thenQ_e (thenQ_e (blockQ_e (thenQ_n (w_seq (ws 257 385 (qp (AB x7) rfl (qp (AB (!x7)) rfl (r_nil ?_)))))))))
 refine cF hF (fun hF => ?_) fun hF => ?_
 ·
  exact w_reg 385 705 rfl rfl (qp (.sl 0 0 x9.length) rfl (qp (AS v1) rfl (qf (.sl 513 0 ([v1].length)) (K3v v1 x9) (by simp [List.take_of_length_le]) (nk hF fun g5 hF => qf (.sl 577 0 ((x9 ++ [v1]).length)) ((577, .row true 1 ((x9 ++ [v1]).map V.str)) :: (0, .dead) :: (513, .dead) :: (K3v v1 x9)) (effT_app_l rfl (by simp) rfl rfl (by simp) rfl (by decide) g5 rfl) (qp (.sl 577 0 ((x9 ++ [v1]).length)) rfl (r_nil (thenQ_n (ws 705 833 (qp (.sl 577 0 ((x9 ++ [v1]).length)) rfl (qp (.sl 577 0 ((x9 ++ [v1]).length)) rfl (rR hF)))))))))))
 exact w_skip (thenQ_n (ws 385 513 (qp (.sl 0 0 x9.length) rfl (qp (.sl 0 0 x9.length) rfl (rR hF)))))

def c112 : MC := (sr [rg 2 (.f (.nilrow 1))] (sr [rg 5 (.f (.bsl 1 [])), mvt 3 5] (.seq (sr [pT 4 (.mv (ci 0))] (.block 0 (.loop (.seq (sr [mvt 6 4, mvt 7 0, zT 8 7, bT 9 .lss t6 t8] (cx t9 0)) (.seq (.block 1 (.reg [mvt 12 3, mvt 13 0, mvt 14 4, iT 15 13 14 5, pT 16 (.fad t15 1), lT 17 16, dT 18 141 [t12, t17], mvt 3 18])) (.reg [mvt 10 4, bT 11 .add t10 (ci 1), mvt 4 11])))))) (sr [mvt 19 3, mvt 2 19] .ret))))
theorem c112_ : IsF Tryz.prog 112 c112 [(.tmp 2)] := ⟨by kernel_rfl, by kernel_rfl⟩

def F_spec_l28Pupils_l0 (v0 : List TLesson) (k0 : Int × (List (List UInt8)) → Option (List (List UInt8))) : Int × (List (List UInt8)) → Option (List (List UInt8))
 | (x2, x3) => (bif (decide (x2 < (v0.length : Int))) then ((ix v0 x2).bind fun u0 => ((F_spec_l28Put x3 u0.2.1).bind fun u1 => k0 (w64 (x2 + 1), u1)))
 else some x3)
def F_spec_l28Pupils (v0 : List TLesson) : Option (List (List UInt8)) :=
 loop (F_spec_l28Pupils_l0 v0) (0, [])
@[simp] abbrev K3x : List (Nat × Root) := [(0, .row true 1 (([] : List Int).map vI))]
@[simp] def res_spec_l28Pupils (r : List (List UInt8)) : RV := .one (.one (.row true 1 (r.map V.str)))
theorem con_spec_l28Pupils {v0 : List TLesson} {r : List (List UInt8)} (hF : F_spec_l28Pupils v0 = some r) : Con Tryz.prog 112 [.sl 5 (v0.map eLesson)] (res_spec_l28Pupils r) := by
 unfold F_spec_l28Pupils at hF
 refine con_of c112_.1 fun N => ?_
 refine ws 0 64 (qf (.sl 0 0 0) K3x (by simp) (r_nil (ws 64 192 (qf (.sl 64 0 0) ((64, .row true 1 (([] : List (List UInt8)).map V.str)) :: K3x) (by simp [List.take_of_length_le]) (qp (.sl 64 0 0) rfl (r_nil (w_seq (ws 192 256 (qp (AI 0) rfl (r_nil (w_block ?_)))))))))))
 refine wr (l' := [(0, AL 5 (v0.map eLesson)), (3, .sl 0 0 0), (4, AI 0)]) (L := [(0, .row true 1 (([] : List (List UInt8)).map V.str))]) [0, 3, 4] [(64, 0)] 1 ?_
 refine w_loopF (F_spec_l28Pupils_l0 v0) (fun s : Int × (List (List UInt8)) => mkS [(0, AL 5 (v0.map eLesson)), (3, .sl 0 0 s.2.length), (4, AI s.1)] (fo [(0, .row true 1 (s.2.map V.str))]) 1) hF ?_
 rintro k0 ⟨x2, x3⟩ hF
 rw [F_spec_l28Pupils_l0] at hF
 try dsimp only
 refine w_seq (ws 1 257 (qp (AI x2) rfl (qp (AL 5 (v0.map eLesson)) rfl (qp (AI (v0.length : Int)) (ev_len_n rfl) (qp (AB (decide (x2 < (v0.length : Int)))) rfl (r_nil ?_))))))
 refine cF hF (fun hF => ?_) fun hF => ?_
 ·
  refine w_skip (thenQ_n (w_seq (w_block (w_reg 257 769 rfl rfl (qp (.sl 0 0 x3.length) rfl (qp (AL 5 (v0.map eLesson)) rfl (qp (AI x2) rfl (bk hF fun u0 e0 hF => qp (.val none (.ptr [.int .i64 u0.1, .str u0.2.1, .str u0.2.2.1, .int .i64 u0.2.2.2.1, .int .i64 u0.2.2.2.2])) (ev_iad_n rfl rfl e0 rfl) (qp (.val none (.ptr [.str u0.2.1, .str u0.2.2.1, .int .i64 u0.2.2.2.1, .int .i64 u0.2.2.2.2])) rfl (qp (AS u0.2.1) rfl (bk hF fun u1 e1 hF => qc (.sl 641 0 u1.length) [(641, .row true 1 (u1.map V.str)), (0, .row true 1 (x3.map V.str))] true (con_spec_l28Put e1) c141_.2 (by simp [List.take_of_length_le]) (by simp [res_spec_l28Put]) (qp (.sl 641 0 u1.length) rfl (r_nil (blockQ_n (thenQ_n ?_)))))))))))))))
  refine w_reg 769 961 rfl rfl (qp (AI x2) rfl (qp (AI (w64 (x2 + 1))) rfl (qp (AI (w64 (x2 + 1))) rfl (r_nil (thenQ_n ?_)))))
  refine ar (l' := [(0, AL 5 (v0.map eLesson)), (3, .sl 0 0 u1.length), (4, AI (w64 (x2 + 1)))]) (L := [(0, .row true 1 (u1.map V.str))]) [0, 3, 4] [(641, 0)] 1 ⟨_, by rfl, hF⟩
 exact w_exit (thenQ_e (thenQ_e (blockQ_e (thenQ_n (ws 257 385 (qp (.sl 0 0 x3.length) rfl (qp (.sl 0 0 x3.length) rfl (rR hF))))))))

def c59 : MC := (sr [pT 2 (.mv cf)] (.seq (sr [pT 3 (.mv (ci 0))] (.block 0 (.loop (.seq (sr [mvt 4 3, mvt 5 0, zT 6 5, bT 7 .lss t4 t6] (cx t7 0)) (.seq (.block 1 (sr [mP 10 t0, mP 11 t3, iF 12 10 11 5, dF 13 110 [t12], pF 14 (.not t13), mP 15 t14, mF 16 15 t3, bH 17 15 .gtr t16 (ci 0), mF 18 15 t17, mT 19 18 t0, mT 20 18 t3, bG 21 18 .sub t20 (ci 1), iG 22 18 19 21 5, mT 23 18 t0, mT 24 18 t3, iG 25 18 23 24 5, ⟨(some 26), (some (18, true)), (.call false 111 [t22, t25])⟩, gT 27 18 (.not t26), gF 28 15 (.pick t18 t27 cf), pF 29 (.pick t15 ct t28)] (.cond t29 (sr [pT 2 (.mv cf)] .ret) .skip))) (.reg [mvt 8 3, bT 9 .add t8 (ci 1), mvt 3 9])))))) (sr [mvt 30 0, zT 31 30, bT 32 .leq t31 (ci 64), mvt 33 32, nT 34 33 t0, ⟨(some 35), (some (33, true)), (.call true 112 [t34])⟩, kT 36 33 (.len t35), kT 37 33 (.bin .leq t36 (ci 12)), pT 38 (.pick t33 t37 cf), mvt 2 38] .ret)))
theorem c59_ : IsF Tryz.prog 59 c59 [(.tmp 2)] := ⟨by kernel_rfl, by kernel_rfl⟩

def F_spec_l28Ok_l0 (v0 : List TLesson) (k0 : Int → Option (Bool)) : Int → Option (Bool)
 | x1 => (bif (decide (x1 < (v0.length : Int))) then ((ix v0 x1).bind fun u0 => ((F_spec_l28One u0).bind fun u1 => (bif (!u1) then some false
 else (bif (decide ((0 : Int) < x1)) then ((ix v0 (w64 (x1 - 1))).bind fun u2 => ((ix v0 x1).bind fun u3 => ((F_spec_l28Before u2 u3).bind fun u4 => (bif (!u4) then some false
 else k0 (w64 (x1 + 1))))))
 else k0 (w64 (x1 + 1))))))
 else (bif (decide ((v0.length : Int) ≤ (64 : Int))) then ((F_spec_l28Pupils v0).bind fun u5 => some (decide ((u5.length : Int) ≤ (12 : Int))))
 else some false))
def F_spec_l28Ok (v0 : List TLesson) : Option (Bool) :=
 loop (F_spec_l28Ok_l0 v0) 0
@[simp] abbrev K3y (v0 : List TLesson) : V := .sl 5 (v0.map eLesson)
@[simp] def res_spec_l28Ok (r : Bool) : RV := .one (.one (.val (.bool r)))
theorem con_spec_l28Ok {v0 : List TLesson} {r : Bool} (hF : F_spec_l28Ok v0 = some r) : Con Tryz.prog 59 [.sl 5 (v0.map eLesson)] (res_spec_l28Ok r) := by
 unfold F_spec_l28Ok at hF
 refine con_of c59_.1 fun N => ?_
 refine ws 0 64 (qp (AB false) rfl (r_nil (w_seq (ws 64 128 (qp (AI 0) rfl (r_nil (w_block ?_)))))))
 refine wr (l' := [(0, .val none (K3y v0)), (3, AI 0)]) (L := []) [0, 3] [] 1 ?_
 refine w_loopF (F_spec_l28Ok_l0 v0) (fun s : Int => mkS [(0, .val none (K3y v0)), (3, AI s)] (fo []) 1) hF ?_
 rintro k0 x1 hF
 rw [F_spec_l28Ok_l0] at hF
 try dsimp only
 refine w_seq (ws 1 257 (qp (AI x1) rfl (qp (.val none (K3y v0)) rfl (qp (AI (v0.length : Int)) (ev_len_n rfl) (qp (AB (decide (x1 < (v0.length : Int)))) rfl (r_nil ?_))))))
 refine cF hF (fun hF => ?_) fun hF => ?_
 ·
  refine w_skip (thenQ_n (w_seq (w_block (ws 257 1537 (qp (.val none (K3y v0)) rfl (qp (AI x1) rfl (bk hF fun u0 e0 hF => qp (.val none (.ptr [.int .i64 u0.1, .str u0.2.1, .str u0.2.2.1, .int .i64 u0.2.2.2.1, .int .i64 u0.2.2.2.2])) (ev_iad_n rfl rfl e0 rfl) (bk hF fun u1 e1 hF => qC (AB u1) [] (con_spec_l28One e1) c110_ (qp (AB (!u1)) rfl (qp (AB (!u1)) rfl ?_))))))))))
  refine q_case 15 hF rfl (fun hF => ?_) (fun hF => ?_)
  ·
   refine qn3 (qu rfl (qu rfl (qu rfl (qu rfl (qu rfl (qu rfl (qu rfl (qu rfl (qu rfl (qn rfl (qp (AB true) rfl (r_nil (w_true rfl ?_)))))))))))))
   exact ws 1537 1601 (qp (AB false) rfl (r_nil (w_ret (blockQ_r (thenQ_r (thenQ_r (blockQ_r (thenQ_r (eQ hF)))))))))
  refine qg (AI x1) rfl rfl (qg (AB (decide ((0 : Int) < x1))) rfl rfl (qg (AB (decide ((0 : Int) < x1))) rfl rfl ?_))
  refine q_case 18 hF rfl (fun hF => ?_) (fun hF => ?_)
  ·
   refine qg (.val none (K3y v0)) rfl rfl (qg (AI x1) rfl rfl (qg (AI (w64 (x1 - 1))) rfl rfl (bk hF fun u2 e2 hF => qg (.val none (.ptr [.int .i64 u2.1, .str u2.2.1, .str u2.2.2.1, .int .i64 u2.2.2.2.1, .int .i64 u2.2.2.2.2])) rfl (ev_iad_n rfl rfl e2 rfl) (qg (.val none (K3y v0)) rfl rfl (qg (AI x1) rfl rfl (bk hF fun u3 e3 hF => qg (.val none (.ptr [.int .i64 u3.1, .str u3.2.1, .str u3.2.2.1, .int .i64 u3.2.2.2.1, .int .i64 u3.2.2.2.2])) rfl (ev_iad_n rfl rfl e3 rfl) (bk hF fun u4 e4 hF => qG (AB u4) [] (con_spec_l28Before e4) c111_ (qg (AB (!u4)) rfl rfl (qg (AB (!u4)) rfl rfl (qp (AB (!u4)) rfl (r_nil ?_)))))))))))
   refine cF hF (fun hF => ws 1537 1601 (qp (AB false) rfl (r_nil (w_ret (blockQ_r (thenQ_r (thenQ_r (blockQ_r (thenQ_r (eQ hF)))))))))) fun hF => ?_
   refine w_skip (blockQ_n (thenQ_n (w_reg 1537 1729 rfl rfl (qp (AI x1) rfl (qp (AI (w64 (x1 + 1))) rfl (qp (AI (w64 (x1 + 1))) rfl (r_nil (thenQ_n ?_))))))))
   refine ar (l' := [(0, .val none (K3y v0)), (3, AI (w64 (x1 + 1)))]) (L := []) [0, 3] [] 1 ⟨_, by rfl, hF⟩
  refine qn8 (qn rfl (qg (AB false) rfl rfl (qp (AB false) rfl (r_nil (w_false rfl (w_skip (blockQ_n (thenQ_n (w_reg 1537 1729 rfl rfl ?_)))))))))
  refine qp (AI x1) rfl (qp (AI (w64 (x1 + 1))) rfl (qp (AI (w64 (x1 + 1))) rfl (r_nil (thenQ_n ?_))))
  refine ar (l' := [(0, .val none (K3y v0)), (3, AI (w64 (x1 + 1)))]) (L := []) [0, 3] [] 1 ⟨_, by rfl, hF⟩
 refine w_exit (thenQ_e (thenQ_e (blockQ_e (thenQ_n (ws 257 897 (qp (.val none (K3y v0)) rfl (qp (AI (v0.length : Int)) (ev_len_n rfl) (qp (AB (decide ((v0.length : Int) ≤ (64 : Int)))) rfl (qp (AB (decide ((v0.length : Int) ≤ (64 : Int)))) rfl ?_)))))))))
 refine q_case 33 hF rfl (fun hF => ?_) (fun hF => ?_)
 ·
  exact qg (.val none (K3y v0)) rfl rfl (bk hF fun u5 e5 hF => qcg (.sl 577 0 u5.length) [(577, .row true 1 (u5.map V.str))] false rfl (con_spec_l28Pupils e5) c112_.2 (by first | rfl | simp) (by simp [res_spec_l28Pupils]) (qg (AI (u5.length : Int)) rfl rfl (qg (AB (decide ((u5.length : Int) ≤ (12 : Int)))) rfl rfl (qp (AB (decide ((u5.length : Int) ≤ (12 : Int)))) rfl (qp (AB (decide ((u5.length : Int) ≤ (12 : Int)))) rfl (rR hF))))))
 exact qn4 (qp (AB false) rfl (qp (AB false) rfl (rR hF)))

def c114 : MC := (sr [pT 4 (.mv (ci 0))] (.seq (sr [pT 5 (.mv (ci 0))] (.block 0 (.loop (.seq (sr [mvt 6 5, mvt 7 0, zT 8 7, bT 9 .lss t6 t8] (cx t9 0)) (.seq (.block 1 (sr [mvt 12 0, mvt 13 5, iT 14 12 13 3, pT 15 (.fad t14 0), lT 16 15, mvt 17 1, bT 18 .eql t16 t17] (.cond t18 (sr [mvt 19 5, mvt 4 19] .ret) .skip))) (.reg [mvt 10 5, bT 11 .add t10 (ci 1), mvt 5 11])))))) (sr [pT 4 (.mv (ci (-1)))] .ret)))
theorem c114_ : IsF Tryz.prog 114 c114 [(.tmp 4)] := ⟨by kernel_rfl, by kernel_rfl⟩

def F_spec_l30Find_l0 (v0 : List TPerson) (v1 : List UInt8) (k0 : Int → Option (Int)) : Int → Option (Int)
 | x1 => (bif (decide (x1 < (v0.length : Int))) then ((ix v0 x1).bind fun u0 => (bif (decide (u0.1 = v1)) then some x1
 else k0 (w64 (x1 + 1))))
 else some (-1))
def F_spec_l30Find (v0 : List TPerson) (v1 : List UInt8) : Option (Int) :=
 loop (F_spec_l30Find_l0 v0 v1) 0
@[simp] def res_spec_l30Find (r : Int) : RV := .one (.one (.val (.int .i64 r)))
theorem con_spec_l30Find {v0 : List TPerson} {v1 : List UInt8} {r : Int} (hF : F_spec_l30Find v0 v1 = some r) : Con Tryz.prog 114 [.sl 3 (v0.map ePerson), .str v1] (res_spec_l30Find r) := by
 unfold F_spec_l30Find at hF
 refine con_of c114_.1 fun N => ?_
 refine ws 0 64 (qp (AI 0) rfl (r_nil (w_seq (ws 64 128 (qp (AI 0) rfl (r_nil (w_block ?_)))))))
 refine wr (l' := [(0, AL 3 (v0.map ePerson)), (1, AS v1), (5, AI 0)]) (L := []) [0, 1, 5] [] 1 ?_
 refine w_loopF (F_spec_l30Find_l0 v0 v1) (fun s : Int => mkS [(0, AL 3 (v0.map ePerson)), (1, AS v1), (5, AI s)] (fo []) 1) hF ?_
 rintro k0 x1 hF
 rw [F_spec_l30Find_l0] at hF
 try dsimp only
 refine w_seq (ws 1 257 (qp (AI x1) rfl (qp (AL 3 (v0.map ePerson)) rfl (qp (AI (v0.length : Int)) (ev_len_n rfl) (qp (AB (decide (x1 < (v0.length : Int)))) rfl (r_nil ?_))))))
 refine cF hF (fun hF => ?_) fun hF => ?_
 ·
  refine w_skip (thenQ_n (w_seq (w_block (ws 257 705 (qp (AL 3 (v0.map ePerson)) rfl (qp (AI x1) rfl (bk hF fun u0 e0 hF => qp (.val none (.ptr [.str u0.1, .int .i64 u0.2.1, .sl 1 (u0.2.2.map V.str)])) (ev_iad_n rfl rfl e0 rfl) (qp (.val none (.ptr [.str u0.1, .int .i64 u0.2.1, .sl 1 (u0.2.2.map V.str)])) rfl (qp (AS u0.1) rfl (qp (AS v1) rfl (qp (AB (decide (u0.1 = v1))) rfl (r_nil ?_))))))))))))
  refine cF hF (fun hF => ws 705 833 (qp (AI x1) rfl (qp (AI x1) rfl (r_nil (w_ret (blockQ_r (thenQ_r (thenQ_r (blockQ_r (thenQ_r (eQ hF))))))))))) fun hF => ?_
  refine w_skip (blockQ_n (thenQ_n (w_reg 705 897 rfl rfl (qp (AI x1) rfl (qp (AI (w64 (x1 + 1))) rfl (qp (AI (w64 (x1 + 1))) rfl (r_nil (thenQ_n ?_))))))))
  refine ar (l' := [(0, AL 3 (v0.map ePerson)), (1, AS v1), (5, AI (w64 (x1 + 1)))]) (L := []) [0, 1, 5] [] 1 ⟨_, by rfl, hF⟩
 exact w_exit (thenQ_e (thenQ_e (blockQ_e (thenQ_n (ws 257 321 (qp (AI (-1)) rfl (rR hF)))))))

def c60 : MC := (sr [pT 2 (.mv cf)] (.seq (sr [pT 3 (.mv (ci 0))] (.block 0 (.loop (.seq (sr [mvt 7 3, mvt 8 0, zT 9 8, bT 10 .lss t7 t9] (cx t10 0)) (.seq (.block 1 (sr [mvt 13 0, mvt 14 3, iT 15 13 14 3, mvt 4 15] (.seq (sr [mP 16 t4, pF 17 (.nck t16), pF 18 (.fad t17 0), lF 19 18, dF 20 96 [t19], pF 21 (.not t20), mP 22 t21, mF 23 22 t4, gF 24 22 (.nck t23), gF 25 22 (.fad t24 1), lH 26 22 25, ⟨(some 27), (some (22, false)), (.call false 113 [t26, (ci 0), (ci 3000)])⟩, gF 28 22 (.not t27), pF 29 (.pick t22 ct t28), mP 30 t29, mF 31 30 t4, gF 32 30 (.nck t31), gF 33 30 (.fad t32 2), lH 34 30 33, zH 35 30 34, bH 36 30 .gtr t35 (ci 4), pF 37 (.pick t30 ct t36), mP 38 t37, mF 39 38 t3, bH 40 38 .gtr t39 (ci 0), mF 41 38 t40, mT 42 41 t0, mT 43 41 t3, bG 44 41 .sub t43 (ci 1), iG 45 41 42 44 3, gT 46 41 (.fad t45 0), lG 47 41 46, mT 48 41 t4, gT 49 41 (.nck t48), gT 50 41 (.fad t49 0), lG 51 41 50, bG 52 41 .geq t47 t51, gF 53 38 (.pick t41 t52 cf), pF 54 (.pick t38 ct t53)] (.cond t54 (sr [pT 2 (.mv cf)] .ret) .skip)) (sr [pT 5 (.mv (ci 0))] (.block 2 (.loop (.seq (sr [mvt 55 5, mvt 56 4, pT 57 (.nck t56), pT 58 (.fad t57 2), lT 59 58, zT 60 59, bT 61 .lss t55 t60] (cx t61 2)) (.seq (.block 3 (sr [mvt 64 0, mvt 65 4, pT 66 (.nck t65), pT 67 (.fad t66 2), lT 68 67, mvt 69 5, iT 70 68 69 1, lT 71 70, dT 72 114 [t64, t71], mvt 6 72] (sr [mP 73 t6, bF 74 .lss t73 (ci 0), mP 75 t74, mF 76 75 t0, mF 77 75 t6, iH 78 75 76 77 3, gF 79 75 (.fad t78 1), lH 80 75 79, mF 81 75 t4, gF 82 75 (.nck t81), gF 83 75 (.fad t82 1), lH 84 75 83, bH 85 75 .geq t80 t84, pF 86 (.pick t75 ct t85), mP 87 t86, mF 88 87 t5, bH 89 87 .gtr t88 (ci 0), mF 90 87 t89, mT 91 90 t4, gT 92 90 (.nck t91), gT 93 90 (.fad t92 2), lG 94 90 93, mT 95 90 t5, bG 96 90 .sub t95 (ci 1), iG 97 90 94 96 1, lG 98 90 97, mT 99 90 t4, gT 100 90 (.nck t99), gT 101 90 (.fad t100 2), lG 102 90 101, mT 103 90 t5, iG 104 90 102 103 1, lG 105 90 104, bG 106 90 .geq t98 t105, gF 107 87 (.pick t90 t106 cf), pF 108 (.pick t87 ct t107)] (.cond t108 (sr [pT 2 (.mv cf)] .ret) .skip)))) (.reg [mvt 62 5, bT 63 .add t62 (ci 1), mvt 5 63]))))))))) (.reg [mvt 11 3, bT 12 .add t11 (ci 1), mvt 3 12])))))) (sr [mvt 109 0, zT 110 109, bT 111 .leq t110 (ci 24), mvt 2 111] .ret)))
theorem c60_ : IsF Tryz.prog 60 c60 [(.tmp 2)] := ⟨by kernel_rfl, by kernel_rfl⟩

def F_spec_l30Ok_l2 (v0 : List TPerson) (u0 : TPerson) (x5 : Int) (k2 : Int → Option (Bool)) (k4 : Int → Option (Bool)) : Int → Option (Bool)
 | x9 => (bif (decide (x9 < (u0.2.2.length : Int))) then ((ix u0.2.2 x9).bind fun u7 => ((F_spec_l30Find v0 u7).bind fun u8 => (bif (decide (u8 < (0 : Int))) then some false
 else ((ix v0 u8).bind fun u9 => (bif (decide (u0.2.1 ≤ u9.2.1)) then some false
 else (bif (decide ((0 : Int) < x9)) then ((ix u0.2.2 (w64 (x9 - 1))).bind fun u10 => ((ix u0.2.2 x9).bind fun u11 => (bif (!Op.bytesLess u10 u11) then some false
 else k4 (w64 (x9 + 1)))))
 else k4 (w64 (x9 + 1))))))))
 else k2 (w64 (x5 + 1)))
def F_spec_l30Ok_j1 (v0 : List TPerson) (u0 : TPerson) (x5 : Int) (k2 : Int → Option (Bool)) : Option (Bool) :=
 loop (F_spec_l30Ok_l2 v0 u0 x5 k2) 0
def F_spec_l30Ok_l0 (v0 : List TPerson) (k2 : Int → Option (Bool)) : Int → Option (Bool)
 | x5 => (bif (decide (x5 < (v0.length : Int))) then ((ix v0 x5).bind fun u0 => ((F_spec_l01Name u0.1).bind fun u4 => (bif (!u4) then some false
 else ((F_spec_l00In u0.2.1 0 3000).bind fun u5 => (bif (!u5) then some false
 else (bif (decide ((4 : Int) < (u0.2.2.length : Int))) then some false
 else (bif (decide ((0 : Int) < x5)) then ((ix v0 (w64 (x5 - 1))).bind fun u6 => (bif (!Op.bytesLess u6.1 u0.1) then some false
 else F_spec_l30Ok_j1 v0 u0 x5 k2))
 else F_spec_l30Ok_j1 v0 u0 x5 k2)))))))
 else some (decide ((v0.length : Int) ≤ (24 : Int))))
def F_spec_l30Ok (v0 : List TPerson) : Option (Bool) :=
 loop (F_spec_l30Ok_l0 v0) 0
@[simp] abbrev K3z (u0 : TPerson) : V := .ptr [.str u0.1, .int .i64 u0.2.1, .sl 1 (u0.2.2.map V.str)]
@[simp] abbrev K40 (v0 : List TPerson) : Nat × AV := (0, AL 3 (v0.map ePerson))
@[simp] abbrev K41 (u0 : TPerson) : AV := .val none (K3z u0)
@[simp] abbrev K42 (u0 : TPerson) : AV := .val none (.ptr [.sl 1 (u0.2.2.map V.str)])
@[simp] abbrev K43 (v0 : List TPerson) : AV := AL 3 (v0.map ePerson)
@[simp] abbrev K44 (u0 : TPerson) : AV := AL 1 (u0.2.2.map V.str)
@[simp] def res_spec_l30Ok (r : Bool) : RV := .one (.one (.val (.bool r)))
theorem con_spec_l30Ok {v0 : List TPerson} {r : Bool} (hF : F_spec_l30Ok v0 = some r) : Con Tryz.prog 60 [.sl 3 (v0.map ePerson)] (res_spec_l30Ok r) := by
 unfold F_spec_l30Ok at hF
 refine con_of c60_.1 fun N => ?_
 refine ws 0 64 (qp (AB false) rfl (r_nil (w_seq (ws 64 128 (qp (AI 0) rfl (r_nil (w_block ?_)))))))
 refine wr (l' := [(K40 v0), (3, AI 0)]) (L := []) [0, 3] [] 1 ?_
 refine w_loopF (F_spec_l30Ok_l0 v0) (fun s : Int => mkS [(K40 v0), (3, AI s)] (fo []) 1) hF ?_
 rintro k2 x5 hF
 rw [F_spec_l30Ok_l0] at hF
 try dsimp only
 refine w_seq (ws 1 257 (qp (AI x5) rfl (qp (K43 v0) rfl (qp (AI (v0.length : Int)) (ev_len_n rfl) (qp (AB (decide (x5 < (v0.length : Int)))) rfl (r_nil ?_))))))
 refine cF hF (fun hF => ?_) fun hF => ?_
 ·
  refine w_skip (thenQ_n (w_seq (w_block (ws 257 513 (qp (K43 v0) rfl (qp (AI x5) rfl (bk hF fun u0 e0 hF => qp (K41 u0) (ev_iad_n rfl rfl e0 rfl) (qp (K41 u0) rfl (r_nil ?_)))))))))
  refine w_meet (fun s' => s' = mkS [(K40 v0), (3, AI x5), (4, .val none (K3z u0))] (fo []) 1 ∧ F_spec_l30Ok_j1 v0 u0 x5 k2 = some r) ?_ ?_
  ·
   refine ws 513 3009 (qp (K41 u0) rfl (qp (K41 u0) rfl (qp (K41 u0) rfl (qp (AS u0.1) rfl (bk hF fun u4 e4 hF => qC (AB u4) [] (con_spec_l01Name e4) c96_ (qp (AB (!u4)) rfl (qp (AB (!u4)) rfl ?_)))))))
   refine q_case 22 hF rfl (fun hF => ?_) (fun hF => ?_)
   ·
    refine qn6 (qp (AB true) rfl (qp (AB true) rfl (qn6 (qp (AB true) rfl (qp (AB true) rfl (qn3 (qu rfl (qu rfl (qu rfl (qu rfl (qu rfl ?_)))))))))))
    refine qu rfl (qu rfl (qu rfl (qu rfl (qu rfl (qu rfl (qn rfl (qp (AB true) rfl (r_nil (w_true rfl (ws 3009 3073 (qp (AB false) rfl (r_nil (w_ret ?_)))))))))))))
    exact thenQ_r (blockQ_r (thenQ_r (thenQ_r (blockQ_r (thenQ_r (eQ hF))))))
   refine qg (K41 u0) rfl rfl (qg (K41 u0) rfl rfl (qg (.val none (.ptr [.int .i64 u0.2.1, .sl 1 (u0.2.2.map V.str)])) rfl rfl (qg (AI u0.2.1) rfl rfl (bk hF fun u5 e5 hF => qG (AB u5) [] (con_spec_l00In e5) c113_ (qg (AB (!u5)) rfl rfl (qp (AB (!u5)) rfl (qp (AB (!u5)) rfl ?_)))))))
   refine q_case 30 hF rfl (fun hF => ?_) (fun hF => ?_)
   ·
    refine qn6 (qp (AB true) rfl (qp (AB true) rfl (qn3 (qu rfl (qu rfl (qu rfl (qu rfl (qu rfl ?_))))))))
    refine qu rfl (qu rfl (qu rfl (qu rfl (qu rfl (qu rfl (qn rfl (qp (AB true) rfl (r_nil (w_true rfl (ws 3009 3073 (qp (AB false) rfl (r_nil (w_ret ?_)))))))))))))
    exact thenQ_r (blockQ_r (thenQ_r (thenQ_r (blockQ_r (thenQ_r (eQ hF))))))
   refine qg (K41 u0) rfl rfl (qg (K41 u0) rfl rfl (qg (K42 u0) rfl rfl (qg (K44 u0) rfl rfl (qg (AI (u0.2.2.length : Int)) rfl (ev_len_n rfl) (qg (AB (decide ((4 : Int) < (u0.2.2.length : Int)))) rfl rfl (qp (AB (decide ((4 : Int) < (u0.2.2.length : Int)))) rfl (qp (AB (decide ((4 : Int) < (u0.2.2.length : Int)))) rfl ?_)))))))
   refine q_case 38 hF rfl (fun hF => ?_) (fun hF => ?_)
   ·
    refine qn3 (qu rfl (qu rfl (qu rfl (qu rfl (qu rfl (qu rfl (qu rfl (qu rfl (qu rfl (qu rfl (qu rfl (qn rfl (qp (AB true) rfl ?_)))))))))))))
    exact r_nil (w_true rfl (ws 3009 3073 (qp (AB false) rfl (r_nil (w_ret (thenQ_r (blockQ_r (thenQ_r (thenQ_r (blockQ_r (thenQ_r (eQ hF))))))))))))
   refine qg (AI x5) rfl rfl (qg (AB (decide ((0 : Int) < x5))) rfl rfl (qg (AB (decide ((0 : Int) < x5))) rfl rfl ?_))
   refine q_case 41 hF rfl (fun hF => ?_) (fun hF => ?_)
   ·
    refine qg (K43 v0) rfl rfl (qg (AI x5) rfl rfl (qg (AI (w64 (x5 - 1))) rfl rfl (bk hF fun u6 e6 hF => qg (.val none (.ptr [.str u6.1, .int .i64 u6.2.1, .sl 1 (u6.2.2.map V.str)])) rfl (ev_iad_n rfl rfl e6 rfl) (qg (.val none (.ptr [.str u6.1, .int .i64 u6.2.1, .sl 1 (u6.2.2.map V.str)])) rfl rfl (qg (AS u6.1) rfl rfl (qg (K41 u0) rfl rfl (qg (K41 u0) rfl rfl (qg (K41 u0) rfl rfl (qg (AS u0.1) rfl rfl (qg (AB (!Op.bytesLess u6.1 u0.1)) rfl rfl (qg (AB (!Op.bytesLess u6.1 u0.1)) rfl rfl (qp (AB (!Op.bytesLess u6.1 u0.1)) rfl (r_nil ?_)))))))))))))
    refine cF hF (fun hF => ws 3009 3073 (qp (AB false) rfl (r_nil (w_ret (thenQ_r (blockQ_r (thenQ_r (thenQ_r (blockQ_r (thenQ_r (eQ hF))))))))))) fun hF => w_skip (thenQ_n ?_)
    refine ar (l' := [(K40 v0), (3, AI x5), (4, .val none (K3z u0))]) (L := []) [0, 3, 4] [] 1 ⟨rfl, hF⟩
   refine qn8 (qn3 (qg (AB false) rfl rfl (qp (AB false) rfl (r_nil (w_false rfl (w_skip (thenQ_n ?_)))))))
   refine ar (l' := [(K40 v0), (3, AI x5), (4, .val none (K3z u0))]) (L := []) [0, 3, 4] [] 1 ⟨rfl, hF⟩
  rintro s' ⟨rfl, hF⟩
  unfold F_spec_l30Ok_j1 at hF
  refine ws 1 65 (qp (AI 0) rfl (r_nil (w_block ?_)))
  refine wr (l' := [(K40 v0), (3, AI x5), (4, .val none (K3z u0)), (5, AI 0)]) (L := []) [0, 3, 4, 5] [] 1 ?_
  refine w_loopF (F_spec_l30Ok_l2 v0 u0 x5 k2) (fun s : Int => mkS [(K40 v0), (3, AI x5), (4, .val none (K3z u0)), (5, AI s)] (fo []) 1) hF ?_
  rintro k4 x9 hF
  rw [F_spec_l30Ok_l2] at hF
  try dsimp only
  refine w_seq (ws 1 449 (qp (AI x9) rfl (qp (K41 u0) rfl (qp (K41 u0) rfl (qp (K42 u0) rfl (qp (K44 u0) rfl (qp (AI (u0.2.2.length : Int)) (ev_len_n rfl) (qp (AB (decide (x9 < (u0.2.2.length : Int)))) rfl (r_nil ?_)))))))))
  refine cF hF (fun hF => ?_) fun hF => ?_
  ·
   refine w_skip (thenQ_n (w_seq (w_block (ws 449 1089 (qp (K43 v0) rfl (qp (K41 u0) rfl (qp (K41 u0) rfl (qp (K42 u0) rfl (qp (K44 u0) rfl (qp (AI x9) rfl (bk hF fun u7 e7 hF => qp (.val none (.ptr [.str u7])) (ev_iad_n rfl rfl e7 rfl) (qp (AS u7) rfl (bk hF fun u8 e8 hF => qC (AI u8) [] (con_spec_l30Find e8) c114_ (qp (AI u8) rfl (r_nil ?_)))))))))))))))
   refine ws 1089 3393 (qp (AI u8) rfl (qp (AB (decide (u8 < (0 : Int)))) rfl (qp (AB (decide (u8 < (0 : Int)))) rfl ?_)))
   refine q_case 75 hF rfl (fun hF => ?_) (fun hF => ?_)
   ·
    refine qn8 (qn2 (qp (AB true) rfl (qp (AB true) rfl (qn3 (qu rfl (qu rfl (qu rfl (qu rfl (qu rfl (qu rfl (qu rfl (qu rfl (qu rfl ?_)))))))))))))
    refine qu rfl (qu rfl (qu rfl (qu rfl (qu rfl (qu rfl (qu rfl (qn rfl (qp (AB true) rfl (r_nil (w_true rfl (ws 3393 3457 (qp (AB false) rfl (r_nil ?_)))))))))))))
    exact w_ret (blockQ_r (thenQ_r (thenQ_r (blockQ_r (blockQ_r (thenQ_r (thenQ_r (blockQ_r (thenQ_r (eQ hF))))))))))
   refine qg (K43 v0) rfl rfl (qg (AI u8) rfl rfl (bk hF fun u9 e9 hF => qg (.val none (.ptr [.str u9.1, .int .i64 u9.2.1, .sl 1 (u9.2.2.map V.str)])) rfl (ev_iad_n rfl rfl e9 rfl) (qg (.val none (.ptr [.int .i64 u9.2.1, .sl 1 (u9.2.2.map V.str)])) rfl rfl (qg (AI u9.2.1) rfl rfl (qg (K41 u0) rfl rfl (qg (K41 u0) rfl rfl (qg (.val none (.ptr [.int .i64 u0.2.1, .sl 1 (u0.2.2.map V.str)])) rfl rfl (qg (AI u0.2.1) rfl rfl (qg (AB (decide (u0.2.1 ≤ u9.2.1))) rfl rfl (qp (AB (decide (u0.2.1 ≤ u9.2.1))) rfl (qp (AB (decide (u0.2.1 ≤ u9.2.1))) rfl ?_)))))))))))
   refine q_case 87 hF rfl (fun hF => ?_) (fun hF => ?_)
   ·
    refine qn3 (qu rfl (qu rfl (qu rfl (qu rfl (qu rfl (qu rfl (qu rfl (qu rfl (qu rfl (qu rfl (qu rfl (qu rfl (qu rfl ?_)))))))))))))
    refine qu rfl (qu rfl (qu rfl (qn rfl (qp (AB true) rfl (r_nil (w_true rfl (ws 3393 3457 (qp (AB false) rfl (r_nil (w_ret (blockQ_r (thenQ_r (thenQ_r ?_)))))))))))))
    exact blockQ_r (blockQ_r (thenQ_r (thenQ_r (blockQ_r (thenQ_r (eQ hF))))))
   refine qg (AI x9) rfl rfl (qg (AB (decide ((0 : Int) < x9))) rfl rfl (qg (AB (decide ((0 : Int) < x9))) rfl rfl ?_))
   refine q_case 90 hF rfl (fun hF => ?_) (fun hF => ?_)
   ·
    refine qg (K41 u0) rfl rfl (qg (K41 u0) rfl rfl (qg (K42 u0) rfl rfl (qg (K44 u0) rfl rfl (qg (AI x9) rfl rfl (qg (AI (w64 (x9 - 1))) rfl rfl (bk hF fun u10 e10 hF => qg (.val none (.ptr [.str u10])) rfl (ev_iad_n rfl rfl e10 rfl) (qg (AS u10) rfl rfl (qg (K41 u0) rfl rfl (qg (K41 u0) rfl rfl (qg (K42 u0) rfl rfl (qg (K44 u0) rfl rfl (qg (AI x9) rfl rfl (bk hF fun u11 e11 hF => ?_)))))))))))))
    refine qg (.val none (.ptr [.str u11])) rfl (ev_iad_n rfl rfl e11 rfl) (qg (AS u11) rfl rfl (qg (AB (!Op.bytesLess u10 u11)) rfl rfl (qg (AB (!Op.bytesLess u10 u11)) rfl rfl (qp (AB (!Op.bytesLess u10 u11)) rfl (r_nil ?_)))))
    refine cF hF (fun hF => ws 3393 3457 (qp (AB false) rfl (r_nil (w_ret (blockQ_r (thenQ_r (thenQ_r (blockQ_r (blockQ_r (thenQ_r (thenQ_r (blockQ_r (thenQ_r (eQ hF)))))))))))))) fun hF => ?_
    refine w_skip (blockQ_n (thenQ_n (w_reg 3393 3585 rfl rfl (qp (AI x9) rfl (qp (AI (w64 (x9 + 1))) rfl (qp (AI (w64 (x9 + 1))) rfl (r_nil (thenQ_n ?_))))))))
    refine ar (l' := [(K40 v0), (3, AI x5), (4, .val none (K3z u0)), (5, AI (w64 (x9 + 1)))]) (L := []) [0, 3, 4, 5] [] 1 ⟨_, by rfl, hF⟩
   refine qn8 (qn8 (qg (AB false) rfl rfl (qp (AB false) rfl (r_nil (w_false rfl (w_skip (blockQ_n (thenQ_n (w_reg 3393 3585 rfl rfl ?_)))))))))
   refine qp (AI x9) rfl (qp (AI (w64 (x9 + 1))) rfl (qp (AI (w64 (x9 + 1))) rfl (r_nil (thenQ_n ?_))))
   refine ar (l' := [(K40 v0), (3, AI x5), (4, .val none (K3z u0)), (5, AI (w64 (x9 + 1)))]) (L := []) [0, 3, 4, 5] [] 1 ⟨_, by rfl, hF⟩
  refine w_exit (thenQ_e (thenQ_e (blockQ_e (blockQ_n (thenQ_n (w_reg 449 641 rfl rfl (qp (AI x5) rfl (qp (AI (w64 (x5 + 1))) rfl (qp (AI (w64 (x5 + 1))) rfl (r_nil (thenQ_n ?_)))))))))))
  refine ar (l' := [(K40 v0), (3, AI (w64 (x5 + 1)))]) (L := []) [0, 3] [] 1 ⟨_, by rfl, hF⟩
 exact w_exit (thenQ_e (thenQ_e (blockQ_e (thenQ_n (ws 257 513 (qp (K43 v0) rfl (qp (AI (v0.length : Int)) (ev_len_n rfl) (qp (AB (decide ((v0.length : Int) ≤ (24 : Int)))) rfl (qp (AB (decide ((v0.length : Int) ≤ (24 : Int)))) rfl (rR hF))))))))))

def c18 : MC := (sr [pT 2 (.mv cf)] (sr [mvt 3 0, pT 4 (.nck t3), pT 5 (.fad t4 0), dT 6 52 [t5], mvt 7 6, nT 8 7 t0, kT 9 7 (.nck t8), kT 10 7 (.fad t9 6), kT 11 7 (.ld t10 1 false), ⟨(some 12), (some (7, true)), (.call true 53 [t11])⟩, pT 13 (.pick t7 t12 cf), mvt 14 13, nT 15 14 t0, kT 16 14 (.nck t15), kT 17 14 (.fad t16 7), ⟨(some 18), (some (14, true)), (.call true 54 [t17])⟩, pT 19 (.pick t14 t18 cf), mvt 20 19, nT 21 20 t0, kT 22 20 (.nck t21), kT 23 20 (.fad t22 9), kT 24 20 (.ld t23 1 false), ⟨(some 25), (some (20, true)), (.call true 55 [t24])⟩, pT 26 (.pick t20 t25 cf), mvt 27 26, nT 28 27 t0, kT 29 27 (.nck t28), kT 30 27 (.fad t29 10), kT 31 27 (.ld t30 1 false), ⟨(some 32), (some (27, true)), (.call true 56 [t31])⟩, pT 33 (.pick t27 t32 cf), mvt 34 33, nT 35 34 t0, kT 36 34 (.nck t35), kT 37 34 (.fad t36 11), kT 38 34 (.ld t37 1 false), ⟨(some 39), (some (34, true)), (.call true 57 [t38])⟩, pT 40 (.pick t34 t39 cf), mvt 41 40, nT 42 41 t0, kT 43 41 (.nck t42), kT 44 41 (.fad t43 12), kT 45 41 (.ld t44 1 false), ⟨(some 46), (some (41, true)), (.call true 58 [t45])⟩, pT 47 (.pick t41 t46 cf), mvt 48 47, nT 49 48 t0, kT 50 48 (.nck t49), kT 51 48 (.fad t50 13), kT 52 48 (.ld t51 1 false), ⟨(some 53), (some (48, true)), (.call true 59 [t52])⟩, pT 54 (.pick t48 t53 cf), mvt 55 54, nT 56 55 t0, kT 57 55 (.nck t56), kT 58 55 (.fad t57 14), kT 59 55 (.ld t58 1 false), ⟨(some 60), (some (55, true)), (.call true 60 [t59])⟩, pT 61 (.pick t55 t60 cf), mvt 2 61] .ret))
theorem c18_ : IsF Tryz.prog 18 c18 [(.tmp 2)] := ⟨by kernel_rfl, by kernel_rfl⟩

def F_spec_l32Ok (v0 : TDesk) : Option (Bool) :=
 ((F_spec_l05Ok (v0.1, v0.2.1, v0.2.2.1, v0.2.2.2.1, v0.2.2.2.2.1, v0.2.2.2.2.2.1)).bind fun u0 => (bif u0 then ((F_spec_l09Ok v0.2.2.2.2.2.2.1).bind fun u1 => (bif u1 then ((F_spec_l04Ok (v0.2.2.2.2.2.2.2.1, v0.2.2.2.2.2.2.2.2.1)).bind fun u2 => (bif u2 then ((F_spec_l06Ok v0.2.2.2.2.2.2.2.2.2.1).bind fun u3 => (bif u3 then ((F_spec_l18Ok v0.2.2.2.2.2.2.2.2.2.2.1).bind fun u4 => (bif u4 then ((F_spec_l22Ok v0.2.2.2.2.2.2.2.2.2.2.2.1).bind fun u5 => (bif u5 then ((F_spec_l08Ok v0.2.2.2.2.2.2.2.2.2.2.2.2.1).bind fun u6 => (bif u6 then ((F_spec_l28Ok v0.2.2.2.2.2.2.2.2.2.2.2.2.2.1).bind fun u7 => (bif u7 then ((F_spec_l30Ok v0.2.2.2.2.2.2.2.2.2.2.2.2.2.2).bind fun u8 => some u8)
 else some false))
 else some false))
 else some false))
 else some false))
 else some false))
 else some false))
 else some false))
 else some false))
@[simp] abbrev K45 (v0 : TDesk) : AV := .val none (.ptr [.str v0.1, .sl 1 (v0.2.1.map vI), .sl 1 (v0.2.2.1.map vI), .int .i64 v0.2.2.2.1, .int .i64 v0.2.2.2.2.1, .sl 1 (v0.2.2.2.2.2.1.map (eL 1 vI)), .sl 2 (v0.2.2.2.2.2.2.1.map eNote), .str v0.2.2.2.2.2.2.2.1, .sl 2 (v0.2.2.2.2.2.2.2.2.1.map eNote), .sl 1 (v0.2.2.2.2.2.2.2.2.2.1.map (eL 1 vI)), .sl 3 (v0.2.2.2.2.2.2.2.2.2.2.1.map eSyllable), .sl 2 (v0.2.2.2.2.2.2.2.2.2.2.2.1.map eNote), .sl 6 (v0.2.2.2.2.2.2.2.2.2.2.2.2.1.map eItem), .sl 5 (v0.2.2.2.2.2.2.2.2.2.2.2.2.2.1.map eLesson), .sl 3 (v0.2.2.2.2.2.2.2.2.2.2.2.2.2.2.map ePerson)])
@[simp] abbrev K46 (v0 : TDesk) : List V := [.sl 2 (v0.2.2.2.2.2.2.1.map eNote), .str v0.2.2.2.2.2.2.2.1, .sl 2 (v0.2.2.2.2.2.2.2.2.1.map eNote), .sl 1 (v0.2.2.2.2.2.2.2.2.2.1.map (eL 1 vI)), .sl 3 (v0.2.2.2.2.2.2.2.2.2.2.1.map eSyllable), .sl 2 (v0.2.2.2.2.2.2.2.2.2.2.2.1.map eNote), .sl 6 (v0.2.2.2.2.2.2.2.2.2.2.2.2.1.map eItem), .sl 5 (v0.2.2.2.2.2.2.2.2.2.2.2.2.2.1.map eLesson), .sl 3 (v0.2.2.2.2.2.2.2.2.2.2.2.2.2.2.map ePerson)]
@[simp] abbrev K47 (v0 : TDesk) : List V := [.sl 1 (v0.2.2.2.2.2.2.2.2.2.1.map (eL 1 vI)), .sl 3 (v0.2.2.2.2.2.2.2.2.2.2.1.map eSyllable), .sl 2 (v0.2.2.2.2.2.2.2.2.2.2.2.1.map eNote), .sl 6 (v0.2.2.2.2.2.2.2.2.2.2.2.2.1.map eItem), .sl 5 (v0.2.2.2.2.2.2.2.2.2.2.2.2.2.1.map eLesson), .sl 3 (v0.2.2.2.2.2.2.2.2.2.2.2.2.2.2.map ePerson)]
@[simp] def res_spec_l32Ok (r : Bool) : RV := .one (.one (.val (.bool r)))
theorem con_spec_l32Ok {v0 : TDesk} {r : Bool} (hF : F_spec_l32Ok v0 = some r) : Con Tryz.prog 18 [.ptr [.str v0.1, .sl 1 (v0.2.1.map vI), .sl 1 (v0.2.2.1.map vI), .int .i64 v0.2.2.2.1, .int .i64 v0.2.2.2.2.1, .sl 1 (v0.2.2.2.2.2.1.map (eL 1 vI)), .sl 2 (v0.2.2.2.2.2.2.1.map eNote), .str v0.2.2.2.2.2.2.2.1, .sl 2 (v0.2.2.2.2.2.2.2.2.1.map eNote), .sl 1 (v0.2.2.2.2.2.2.2.2.2.1.map (eL 1 vI)), .sl 3 (v0.2.2.2.2.2.2.2.2.2.2.1.map eSyllable), .sl 2 (v0.2.2.2.2.2.2.2.2.2.2.2.1.map eNote), .sl 6 (v0.2.2.2.2.2.2.2.2.2.2.2.2.1.map eItem), .sl 5 (v0.2.2.2.2.2.2.2.2.2.2.2.2.2.1.map eLesson), .sl 3 (v0.2.2.2.2.2.2.2.2.2.2.2.2.2.2.map ePerson)]] (res_spec_l32Ok r) := by
 unfold F_spec_l32Ok at hF
 refine con_of c18_.1 fun N => ?_
 refine ws 0 64 (qp (AB false) rfl (r_nil (ws 64 3904 (qp (K45 v0) rfl (qp (K45 v0) rfl (qp (K45 v0) rfl (bk hF fun u0 e0 hF => qC (AB u0) [] (con_pre0 (K46 v0) (con_spec_l05Ok e0)) c52_ (qp (AB u0) rfl ?_))))))))
 refine q_case 7 hF rfl (fun hF => ?_) (fun hF => ?_)
 ·
  refine qg (K45 v0) rfl rfl (qg (K45 v0) rfl rfl (qg (.val none (.ptr (K46 v0))) rfl rfl (qg (AL 2 (v0.2.2.2.2.2.2.1.map eNote)) rfl rfl (bk hF fun u1 e1 hF => qG (AB u1) [] (con_spec_l09Ok e1) c53_ (qp (AB u1) rfl (qp (AB u1) rfl ?_))))))
  refine q_case 14 hF rfl (fun hF => ?_) (fun hF => ?_)
  ·
   refine qg (K45 v0) rfl rfl (qg (K45 v0) rfl rfl (qg (.val none (.ptr [.str v0.2.2.2.2.2.2.2.1, .sl 2 (v0.2.2.2.2.2.2.2.2.1.map eNote), .sl 1 (v0.2.2.2.2.2.2.2.2.2.1.map (eL 1 vI)), .sl 3 (v0.2.2.2.2.2.2.2.2.2.2.1.map eSyllable), .sl 2 (v0.2.2.2.2.2.2.2.2.2.2.2.1.map eNote), .sl 6 (v0.2.2.2.2.2.2.2.2.2.2.2.2.1.map eItem), .sl 5 (v0.2.2.2.2.2.2.2.2.2.2.2.2.2.1.map eLesson), .sl 3 (v0.2.2.2.2.2.2.2.2.2.2.2.2.2.2.map ePerson)])) rfl rfl (bk hF fun u2 e2 hF => qG (AB u2) [] (con_pre0 (K47 v0) (con_spec_l04Ok e2)) c54_ (qp (AB u2) rfl (qp (AB u2) rfl ?_)))))
   refine q_case 20 hF rfl (fun hF => ?_) (fun hF => ?_)
   ·
    refine qg (K45 v0) rfl rfl (qg (K45 v0) rfl rfl (qg (.val none (.ptr (K47 v0))) rfl rfl (qg (AL 1 (v0.2.2.2.2.2.2.2.2.2.1.map (eL 1 vI))) rfl rfl (bk hF fun u3 e3 hF => qG (AB u3) [] (con_spec_l06Ok e3) c55_ (qp (AB u3) rfl (qp (AB u3) rfl ?_))))))
    refine q_case 27 hF rfl (fun hF => ?_) (fun hF => ?_)
    ·
     refine qg (K45 v0) rfl rfl (qg (K45 v0) rfl rfl (qg (.val none (.ptr [.sl 3 (v0.2.2.2.2.2.2.2.2.2.2.1.map eSyllable), .sl 2 (v0.2.2.2.2.2.2.2.2.2.2.2.1.map eNote), .sl 6 (v0.2.2.2.2.2.2.2.2.2.2.2.2.1.map eItem), .sl 5 (v0.2.2.2.2.2.2.2.2.2.2.2.2.2.1.map eLesson), .sl 3 (v0.2.2.2.2.2.2.2.2.2.2.2.2.2.2.map ePerson)])) rfl rfl (qg (AL 3 (v0.2.2.2.2.2.2.2.2.2.2.1.map eSyllable)) rfl rfl (bk hF fun u4 e4 hF => qG (AB u4) [] (con_spec_l18Ok e4) c56_ (qp (AB u4) rfl (qp (AB u4) rfl ?_))))))
     refine q_case 34 hF rfl (fun hF => ?_) (fun hF => ?_)
     ·
      refine qg (K45 v0) rfl rfl (qg (K45 v0) rfl rfl (qg (.val none (.ptr [.sl 2 (v0.2.2.2.2.2.2.2.2.2.2.2.1.map eNote), .sl 6 (v0.2.2.2.2.2.2.2.2.2.2.2.2.1.map eItem), .sl 5 (v0.2.2.2.2.2.2.2.2.2.2.2.2.2.1.map eLesson), .sl 3 (v0.2.2.2.2.2.2.2.2.2.2.2.2.2.2.map ePerson)])) rfl rfl (qg (AL 2 (v0.2.2.2.2.2.2.2.2.2.2.2.1.map eNote)) rfl rfl (bk hF fun u5 e5 hF => qG (AB u5) [] (con_spec_l22Ok e5) c57_ (qp (AB u5) rfl (qp (AB u5) rfl ?_))))))
      refine q_case 41 hF rfl (fun hF => ?_) (fun hF => ?_)
      ·
       refine qg (K45 v0) rfl rfl (qg (K45 v0) rfl rfl (qg (.val none (.ptr [.sl 6 (v0.2.2.2.2.2.2.2.2.2.2.2.2.1.map eItem), .sl 5 (v0.2.2.2.2.2.2.2.2.2.2.2.2.2.1.map eLesson), .sl 3 (v0.2.2.2.2.2.2.2.2.2.2.2.2.2.2.map ePerson)])) rfl rfl (qg (AL 6 (v0.2.2.2.2.2.2.2.2.2.2.2.2.1.map eItem)) rfl rfl (bk hF fun u6 e6 hF => qG (AB u6) [] (con_spec_l08Ok e6) c58_ (qp (AB u6) rfl (qp (AB u6) rfl ?_))))))
       refine q_case 48 hF rfl (fun hF => ?_) (fun hF => ?_)
       ·
        refine qg (K45 v0) rfl rfl (qg (K45 v0) rfl rfl (qg (.val none (.ptr [.sl 5 (v0.2.2.2.2.2.2.2.2.2.2.2.2.2.1.map eLesson), .sl 3 (v0.2.2.2.2.2.2.2.2.2.2.2.2.2.2.map ePerson)])) rfl rfl (qg (AL 5 (v0.2.2.2.2.2.2.2.2.2.2.2.2.2.1.map eLesson)) rfl rfl (bk hF fun u7 e7 hF => qG (AB u7) [] (con_spec_l28Ok e7) c59_ (qp (AB u7) rfl (qp (AB u7) rfl (q_case 55 hF rfl (fun hF => qg (K45 v0) rfl rfl (qg (K45 v0) rfl rfl (qg (.val none (.ptr [.sl 3 (v0.2.2.2.2.2.2.2.2.2.2.2.2.2.2.map ePerson)])) rfl rfl (qg (AL 3 (v0.2.2.2.2.2.2.2.2.2.2.2.2.2.2.map ePerson)) rfl rfl (bk hF fun u8 e8 hF => qG (AB u8) [] (con_spec_l30Ok e8) c60_ (qp (AB u8) rfl (qp (AB u8) rfl (rR hF)))))))) fun hF => ?_)))))))
        exact qn5 (qp (AB false) rfl (qp (AB false) rfl (rR hF)))
       exact qn5 (qp (AB false) rfl (qp (AB false) rfl (qn rfl (qn4 (qp (AB false) rfl (qp (AB false) rfl (rR hF)))))))
      exact qn5 (qp (AB false) rfl (qp (AB false) rfl (qn rfl (qn4 (qp (AB false) rfl (qp (AB false) rfl (qn2 (qn3 (qp (AB false) rfl (qp (AB false) rfl (rR hF)))))))))))
     refine qn5 (qp (AB false) rfl (qp (AB false) rfl (qn rfl (qn4 (qp (AB false) rfl (qp (AB false) rfl (qn2 (qn3 (qp (AB false) rfl (qp (AB false) rfl (qn3 ?_)))))))))))
     exact qn2 (qp (AB false) rfl (qp (AB false) rfl (rR hF)))
    refine qn5 (qp (AB false) rfl (qp (AB false) rfl (qn rfl (qn4 (qp (AB false) rfl (qp (AB false) rfl (qn2 (qn3 (qp (AB false) rfl (qp (AB false) rfl (qn3 ?_)))))))))))
    exact qn2 (qp (AB false) rfl (qp (AB false) rfl (qn4 (qn rfl (qp (AB false) rfl (qp (AB false) rfl (rR hF)))))))
   refine qn5 (qp (AB false) rfl (qp (AB false) rfl (qn rfl (qn4 (qp (AB false) rfl (qp (AB false) rfl (qn2 (qn3 (qp (AB false) rfl (qp (AB false) rfl (qn3 ?_)))))))))))
   exact qn2 (qp (AB false) rfl (qp (AB false) rfl (qn4 (qn rfl (qp (AB false) rfl (qp (AB false) rfl (qn rfl (qn rfl (qn rfl (qn rfl (qn rfl (qp (AB false) rfl (qp (AB false) rfl (rR hF))))))))))))))
  refine qn4 (qp (AB false) rfl (qp (AB false) rfl (qn2 (qn3 (qp (AB false) rfl (qp (AB false) rfl (qn3 (qn2 (qp (AB false) rfl (qp (AB false) rfl (qn4 ?_)))))))))))
  refine qn rfl (qp (AB false) rfl (qp (AB false) rfl (qn rfl (qn rfl (qn rfl (qn rfl (qn rfl (qp (AB false) rfl (qp (AB false) rfl (qn5 (qp (AB false) rfl ?_)))))))))))
  exact qp (AB false) rfl (qn5 (qp (AB false) rfl (qp (AB false) rfl (rR hF))))
 refine qn5 (qp (AB false) rfl (qp (AB false) rfl (qn rfl (qn3 (qp (AB false) rfl (qp (AB false) rfl (qn3 (qn2 (qp (AB false) rfl (qp (AB false) rfl (qn4 ?_)))))))))))
 refine qn rfl (qp (AB false) rfl (qp (AB false) rfl (qn rfl (qn rfl (qn rfl (qn rfl (qn rfl (qp (AB false) rfl (qp (AB false) rfl (qn5 (qp (AB false) rfl ?_)))))))))))
 exact qp (AB false) rfl (qn5 (qp (AB false) rfl (qp (AB false) rfl (qn5 (qp (AB false) rfl (qp (AB false) rfl (rR hF)))))))

def c5 : MC := (sr [rg 1 (.f (.box t0)), pT 2 (.mv cf)] (sr [dT 3 18 [t1], mvt 2 3] .ret))
theorem c5_ : IsF Tryz.prog 5 c5 [(.tmp 2)] := ⟨by kernel_rfl, by kernel_rfl⟩

def F_spec_ValidDesk (v0 : TDesk) : Option (Bool) :=
 ((F_spec_l32Ok v0).bind fun u0 => some u0)
@[simp] abbrev K48 (v0 : TDesk) : List (Nat × Root) := [(0, .box [AS v0.1, AL 1 (v0.2.1.map vI), AL 1 (v0.2.2.1.map vI), AI v0.2.2.2.1, AI v0.2.2.2.2.1, AL 1 (v0.2.2.2.2.2.1.map (eL 1 vI)), AL 2 (v0.2.2.2.2.2.2.1.map eNote), AS v0.2.2.2.2.2.2.2.1, AL 2 (v0.2.2.2.2.2.2.2.2.1.map eNote), AL 1 (v0.2.2.2.2.2.2.2.2.2.1.map (eL 1 vI)), AL 3 (v0.2.2.2.2.2.2.2.2.2.2.1.map eSyllable), AL 2 (v0.2.2.2.2.2.2.2.2.2.2.2.1.map eNote), AL 6 (v0.2.2.2.2.2.2.2.2.2.2.2.2.1.map eItem), AL 5 (v0.2.2.2.2.2.2.2.2.2.2.2.2.2.1.map eLesson), AL 3 (v0.2.2.2.2.2.2.2.2.2.2.2.2.2.2.map ePerson)])]
@[simp] def res_spec_ValidDesk (r : Bool) : RV := .one (.one (.val (.bool r)))
theorem con_spec_ValidDesk {v0 : TDesk} {r : Bool} (hF : F_spec_ValidDesk v0 = some r) : Con Tryz.prog 5 [eDesk v0] (res_spec_ValidDesk r) := by
 unfold F_spec_ValidDesk at hF
 refine con_of c5_.1 fun N => ?_
 exact ws 0 128 (qf (.ptr 0 0 0) (K48 v0) (by simp) (qp (AB false) rfl (r_nil (ws 128 256 (bk hF fun u0 e0 hF => qc (AB u0) (K48 v0) true (con_spec_l32Ok e0) c18_.2 (by simp [List.take_of_length_le]) rfl (qp (AB u0) rfl (rR hF)))))))

def c117 : MC := (sr [pT 2 (.mv cf)] (.seq (sr [mvt 5 0, pT 6 (.lens t5), pT 7 (.mv (ci 0))] (.block 0 (.loop (sr [bT 8 .lss t7 t6] (.seq (cx t8 0) (.seq (.block 1 (sr [mvt 9 7, mvt 3 9] (sr [mvt 10 0, mvt 11 3, pT 12 (.ixs t10 t11), mvt 4 12] (sr [mvt 13 4, pT 14 (.bin .lss t13 (.c (.int .u8 97))), mvt 15 14, nF 16 15 t4, kF 17 15 (.bin .gtr t16 (.c (.int .u8 122))), pT 18 (.pick t15 ct t17), mvt 19 18, nT 20 19 t4, kT 21 19 (.bin .lss t20 (.c (.int .u8 48))), nT 22 19 t21, nF 23 22 t4, kF 24 22 (.bin .gtr t23 (.c (.int .u8 57))), kT 25 19 (.pick t22 ct t24), pT 26 (.pick t19 t25 cf)] (.cond t26 (sr [pT 2 (.mv cf)] .ret) .skip))))) (.reg [bT 27 .add t7 (ci 1), mvt 7 27]))))))) (sr [pT 2 (.mv ct)] .ret)))
theorem c117_ : IsF Tryz.prog 117 c117 [(.tmp 2)] := ⟨by kernel_rfl, by kernel_rfl⟩

def F_impl_onlyNameBytes_l0 (v0 : List UInt8) (k0 : Int → Option (Bool)) : Int → Option (Bool)
 | x1 => (bif (decide (x1 < (v0.length : Int))) then ((ix v0 x1).bind fun u0 => (bif (decide ((u0.toNat : Int) < (97 : Int))) then (bif (decide ((u0.toNat : Int) < (48 : Int))) then some false
 else (bif (decide ((57 : Int) < (u0.toNat : Int))) then some false
 else k0 (w64 (x1 + 1))))
 else (bif (decide ((122 : Int) < (u0.toNat : Int))) then (bif (decide ((u0.toNat : Int) < (48 : Int))) then some false
 else (bif (decide ((57 : Int) < (u0.toNat : Int))) then some false
 else k0 (w64 (x1 + 1))))
 else k0 (w64 (x1 + 1)))))
 else some true)
def F_impl_onlyNameBytes (v0 : List UInt8) : Option (Bool) :=
 loop (F_impl_onlyNameBytes_l0 v0) 0
@[simp] def res_impl_onlyNameBytes (r : Bool) : RV := .one (.one (.val (.bool r)))
theorem con_impl_onlyNameBytes {v0 : List UInt8} {r : Bool} (hF : F_impl_onlyNameBytes v0 = some r) : Con Tryz.prog 117 [.str v0] (res_impl_onlyNameBytes r) := by
 unfold F_impl_onlyNameBytes at hF
 refine con_of c117_.1 fun N => ?_
 refine ws 0 64 (qp (AB false) rfl (r_nil (w_seq (ws 64 256 (qp (AS v0) rfl (qp (AI (v0.length : Int)) rfl (qp (AI 0) rfl (r_nil (w_block ?_)))))))))
 refine wr (l' := [(0, AS v0), (6, AI (v0.length : Int)), (7, AI 0)]) (L := []) [0, 6, 7] [] 1 ?_
 refine w_loopF (F_impl_onlyNameBytes_l0 v0) (fun s : Int => mkS [(0, AS v0), (6, AI (v0.length : Int)), (7, AI s)] (fo []) 1) hF ?_
 rintro k0 x1 hF
 rw [F_impl_onlyNameBytes_l0] at hF
 try dsimp only
 refine ws 1 65 (qp (AB (decide (x1 < (v0.length : Int)))) rfl (r_nil (w_seq ?_)))
 refine cF hF (fun hF => ?_) fun hF => ?_
 ·
  refine w_skip (thenQ_n (w_seq (w_block (ws 65 193 (qp (AI x1) rfl (qp (AI x1) rfl (r_nil (ws 193 449 (qp (AS v0) rfl (qp (AI x1) rfl (bk hF fun u0 e0 hF => qp (.val none (.int .u8 (u0.toNat : Int))) (ev_ixs rfl rfl e0) (qp (.val none (.int .u8 (u0.toNat : Int))) rfl (r_nil (ws 449 1345 ?_))))))))))))))
  refine qp (.val none (.int .u8 (u0.toNat : Int))) rfl (qp (AB (decide ((u0.toNat : Int) < (97 : Int)))) rfl (qp (AB (decide ((u0.toNat : Int) < (97 : Int)))) rfl ?_))
  refine q_case 15 hF rfl (fun hF => ?_) (fun hF => ?_)
  ·
   refine qn2 (qp (AB true) rfl (qp (AB true) rfl (qg (.val none (.int .u8 (u0.toNat : Int))) rfl rfl (qg (AB (decide ((u0.toNat : Int) < (48 : Int)))) rfl rfl (qg (AB (decide ((u0.toNat : Int) < (48 : Int)))) rfl rfl ?_)))))
   refine q_case 22 hF rfl (fun hF => qn2 (qg (AB true) rfl rfl (qp (AB true) rfl (r_nil (w_true rfl (ws 1345 1409 (qp (AB false) rfl (r_nil (w_ret (blockQ_r (thenQ_r (thenQ_r (blockQ_r (thenQ_r (eQ hF))))))))))))))) fun hF => ?_
   refine qg (.val none (.int .u8 (u0.toNat : Int))) rfl rfl (qg (AB (decide ((57 : Int) < (u0.toNat : Int)))) rfl rfl (qg (AB (decide ((57 : Int) < (u0.toNat : Int)))) rfl rfl (qp (AB (decide ((57 : Int) < (u0.toNat : Int)))) rfl (r_nil (cF hF (fun hF => ws 1345 1409 (qp (AB false) rfl (r_nil (w_ret (blockQ_r (thenQ_r (thenQ_r (blockQ_r (thenQ_r (eQ hF)))))))))) fun hF => ?_)))))
   refine w_skip (blockQ_n (thenQ_n (w_reg 1345 1473 rfl rfl (qp (AI (w64 (x1 + 1))) rfl (qp (AI (w64 (x1 + 1))) rfl (r_nil (thenQ_n ?_)))))))
   refine ar (l' := [(0, AS v0), (6, AI (v0.length : Int)), (7, AI (w64 (x1 + 1)))]) (L := []) [0, 6, 7] [] 1 ⟨_, by rfl, hF⟩
  refine qg (.val none (.int .u8 (u0.toNat : Int))) rfl rfl (qg (AB (decide ((122 : Int) < (u0.toNat : Int)))) rfl rfl (qp (AB (decide ((122 : Int) < (u0.toNat : Int)))) rfl (qp (AB (decide ((122 : Int) < (u0.toNat : Int)))) rfl ?_)))
  refine q_case 19 hF rfl (fun hF => ?_) (fun hF => ?_)
  ·
   refine qg (.val none (.int .u8 (u0.toNat : Int))) rfl rfl (qg (AB (decide ((u0.toNat : Int) < (48 : Int)))) rfl rfl (qg (AB (decide ((u0.toNat : Int) < (48 : Int)))) rfl rfl ?_))
   refine q_case 22 hF rfl (fun hF => qn2 (qg (AB true) rfl rfl (qp (AB true) rfl (r_nil (w_true rfl (ws 1345 1409 (qp (AB false) rfl (r_nil (w_ret (blockQ_r (thenQ_r (thenQ_r (blockQ_r (thenQ_r (eQ hF))))))))))))))) fun hF => ?_
   refine qg (.val none (.int .u8 (u0.toNat : Int))) rfl rfl (qg (AB (decide ((57 : Int) < (u0.toNat : Int)))) rfl rfl (qg (AB (decide ((57 : Int) < (u0.toNat : Int)))) rfl rfl (qp (AB (decide ((57 : Int) < (u0.toNat : Int)))) rfl (r_nil (cF hF (fun hF => ws 1345 1409 (qp (AB false) rfl (r_nil (w_ret (blockQ_r (thenQ_r (thenQ_r (blockQ_r (thenQ_r (eQ hF)))))))))) fun hF => ?_)))))
   refine w_skip (blockQ_n (thenQ_n (w_reg 1345 1473 rfl rfl (qp (AI (w64 (x1 + 1))) rfl (qp (AI (w64 (x1 + 1))) rfl (r_nil (thenQ_n ?_)))))))
   refine ar (l' := [(0, AS v0), (6, AI (v0.length : Int)), (7, AI (w64 (x1 + 1)))]) (L := []) [0, 6, 7] [] 1 ⟨_, by rfl, hF⟩
  refine qn3 (qu rfl (qu rfl (qn rfl (qp (AB false) rfl (r_nil (w_false rfl (w_skip (blockQ_n (thenQ_n (w_reg 1345 1473 rfl rfl ?_))))))))))
  refine qp (AI (w64 (x1 + 1))) rfl (qp (AI (w64 (x1 + 1))) rfl (r_nil (thenQ_n ?_)))
  refine ar (l' := [(0, AS v0), (6, AI (v0.length : Int)), (7, AI (w64 (x1 + 1)))]) (L := []) [0, 6, 7] [] 1 ⟨_, by rfl, hF⟩
 exact w_exit (thenQ_e (thenQ_e (blockQ_e (thenQ_n (ws 65 129 (qp (AB true) rfl (rR hF)))))))

def c69 : MC := (sr [pT 2 (.mv cf)] (.seq (sr [mvt 3 0, pT 4 (.lens t3), bT 5 .lss t4 (ci 1), mvt 6 5, nF 7 6 t0, kF 8 6 (.lens t7), kF 9 6 (.bin .gtr t8 (ci 10)), pT 10 (.pick t6 ct t9), mvt 11 10, nF 12 11 t0, kF 13 11 (.ixs t12 (ci 0)), kF 14 11 (.bin .lss t13 (.c (.int .u8 97))), pT 15 (.pick t11 ct t14), mvt 16 15, nF 17 16 t0, kF 18 16 (.ixs t17 (ci 0)), kF 19 16 (.bin .gtr t18 (.c (.int .u8 122))), pT 20 (.pick t16 ct t19)] (.cond t20 (sr [pT 2 (.mv cf)] .ret) .skip)) (sr [mvt 21 0, dT 22 117 [t21], mvt 2 22] .ret)))
theorem c69_ : IsF Tryz.prog 69 c69 [(.tmp 2)] := ⟨by kernel_rfl, by kernel_rfl⟩

def F_impl_IsName (v0 : List UInt8) : Option (Bool) :=
 (bif (decide ((v0.length : Int) < (1 : Int))) then some false
 else (bif (decide ((10 : Int) < (v0.length : Int))) then some false
 else ((ix v0 0).bind fun u0 => (bif (decide ((u0.toNat : Int) < (97 : Int))) then some false
 else ((ix v0 0).bind fun u1 => (bif (decide ((122 : Int) < (u1.toNat : Int))) then some false
 else ((F_impl_onlyNameBytes v0).bind fun u2 => some u2)))))))
@[simp] def res_impl_IsName (r : Bool) : RV := .one (.one (.val (.bool r)))
theorem con_impl_IsName {v0 : List UInt8} {r : Bool} (hF : F_impl_IsName v0 = some r) : Con Tryz.prog 69 [.str v0] (res_impl_IsName r) := by
 unfold F_impl_IsName at hF
 refine con_of c69_.1 fun N => ?_
 refine ws 0 64 (qp (AB false) rfl (r_nil (w_seq (ws 64 1216 (qp (AS v0) rfl (qp (AI (v0.length : Int)) rfl (qp (AB (decide ((v0.length : Int) < (1 : Int)))) rfl (qp (AB (decide ((v0.length : Int) < (1 : Int)))) rfl ?_))))))))
 refine q_case 6 hF rfl (fun hF => ?_) (fun hF => ?_)
 ·
  refine qn3 (qp (AB true) rfl (qp (AB true) rfl (qn3 (qp (AB true) rfl (qp (AB true) rfl (qn3 (qp (AB true) rfl (r_nil (w_true rfl (ws 1216 1280 (qp (AB false) rfl (r_nil (w_ret ?_)))))))))))))
  exact thenQ_r (eQ hF)
 refine qg (AS v0) rfl rfl (qg (AI (v0.length : Int)) rfl rfl (qg (AB (decide ((10 : Int) < (v0.length : Int)))) rfl rfl (qp (AB (decide ((10 : Int) < (v0.length : Int)))) rfl (qp (AB (decide ((10 : Int) < (v0.length : Int)))) rfl ?_))))
 refine q_case 11 hF rfl (fun hF => qn3 (qp (AB true) rfl (qp (AB true) rfl (qn3 (qp (AB true) rfl (r_nil (w_true rfl (ws 1216 1280 (qp (AB false) rfl (r_nil (w_ret (thenQ_r (eQ hF))))))))))))) fun hF => ?_
 refine qg (AS v0) rfl rfl (bk hF fun u0 e0 hF => qg (.val none (.int .u8 (u0.toNat : Int))) rfl (ev_ixs rfl rfl e0) (qg (AB (decide ((u0.toNat : Int) < (97 : Int)))) rfl rfl (qp (AB (decide ((u0.toNat : Int) < (97 : Int)))) rfl (qp (AB (decide ((u0.toNat : Int) < (97 : Int)))) rfl (q_case 16 hF rfl (fun hF => qn3 (qp (AB true) rfl (r_nil (w_true rfl (ws 1216 1280 (qp (AB false) rfl (r_nil (w_ret (thenQ_r (eQ hF)))))))))) fun hF => ?_)))))
 refine qg (AS v0) rfl rfl (bk hF fun u1 e1 hF => qg (.val none (.int .u8 (u1.toNat : Int))) rfl (ev_ixs rfl rfl e1) (qg (AB (decide ((122 : Int) < (u1.toNat : Int)))) rfl rfl (qp (AB (decide ((122 : Int) < (u1.toNat : Int)))) rfl (r_nil (cF hF (fun hF => ws 1216 1280 (qp (AB false) rfl (r_nil (w_ret (thenQ_r (eQ hF)))))) fun hF => ?_)))))
 exact w_skip (thenQ_n (ws 1216 1408 (qp (AS v0) rfl (bk hF fun u2 e2 hF => qC (AB u2) [] (con_impl_onlyNameBytes e2) c117_ (qp (AB u2) rfl (rR hF))))))

def c118 : MC := (sr [pT 2 (.mv cf)] (.seq (sr [pT 3 (.mv (ci 1))] (.block 0 (.loop (.seq (sr [mvt 4 3, mvt 5 0, zT 6 5, bT 7 .lss t4 t6] (cx t7 0)) (.seq (.block 1 (sr [mP 10 t0, mP 11 t3, iF 12 10 11 1, lF 13 12, mP 14 t0, mP 15 t3, bF 16 .sub t15 (ci 1), iF 17 14 16 1, lF 18 17, bF 19 .leq t13 t18] (.cond t19 (sr [pT 2 (.mv cf)] .ret) .skip))) (.reg [mvt 8 3, bT 9 .add t8 (ci 1), mvt 3 9])))))) (sr [pT 2 (.mv ct)] .ret)))
theorem c118_ : IsF Tryz.prog 118 c118 [(.tmp 2)] := ⟨by kernel_rfl, by kernel_rfl⟩

def F_impl_increasing_l0 (v0 : List Int) (k0 : Int → Option (Bool)) : Int → Option (Bool)
 | x1 => (bif (decide (x1 < (v0.length : Int))) then ((ix v0 x1).bind fun u0 => ((ix v0 (w64 (x1 - 1))).bind fun u1 => (bif (decide (u0 ≤ u1)) then some false
 else k0 (w64 (x1 + 1)))))
 else some true)
def F_impl_increasing (v0 : List Int) : Option (Bool) :=
 loop (F_impl_increasing_l0 v0) 1
@[simp] abbrev K49 (v0 : List Int) : V := .sl 1 (v0.map vI)
@[simp] def res_impl_increasing (r : Bool) : RV := .one (.one (.val (.bool r)))
theorem con_impl_increasing {v0 : List Int} {r : Bool} (hF : F_impl_increasing v0 = some r) : Con Tryz.prog 118 [.sl 1 (v0.map vI)] (res_impl_increasing r) := by
 unfold F_impl_increasing at hF
 refine con_of c118_.1 fun N => ?_
 refine ws 0 64 (qp (AB false) rfl (r_nil (w_seq (ws 64 128 (qp (AI 1) rfl (r_nil (w_block ?_)))))))
 refine wr (l' := [(0, .val none (K49 v0)), (3, AI 1)]) (L := []) [0, 3] [] 1 ?_
 refine w_loopF (F_impl_increasing_l0 v0) (fun s : Int => mkS [(0, .val none (K49 v0)), (3, AI s)] (fo []) 1) hF ?_
 rintro k0 x1 hF
 rw [F_impl_increasing_l0] at hF
 try dsimp only
 refine w_seq (ws 1 257 (qp (AI x1) rfl (qp (.val none (K49 v0)) rfl (qp (AI (v0.length : Int)) (ev_len_n rfl) (qp (AB (decide (x1 < (v0.length : Int)))) rfl (r_nil ?_))))))
 refine cF hF (fun hF => ?_) fun hF => ?_
 ·
  refine w_skip (thenQ_n (w_seq (w_block (ws 257 897 (qp (.val none (K49 v0)) rfl (qp (AI x1) rfl (bk hF fun u0 e0 hF => qp (.val none (.ptr [.int .i64 u0])) (ev_iad_n rfl rfl e0 rfl) (qp (AI u0) rfl (qp (.val none (K49 v0)) rfl (qp (AI x1) rfl (qp (AI (w64 (x1 - 1))) rfl (bk hF fun u1 e1 hF => ?_))))))))))))
  refine qp (.val none (.ptr [.int .i64 u1])) (ev_iad_n rfl rfl e1 rfl) (qp (AI u1) rfl (qp (AB (decide (u0 ≤ u1))) rfl (r_nil (cF hF (fun hF => ws 897 961 (qp (AB false) rfl (r_nil (w_ret (blockQ_r (thenQ_r (thenQ_r (blockQ_r (thenQ_r (eQ hF)))))))))) fun hF => ?_))))
  refine w_skip (blockQ_n (thenQ_n (w_reg 897 1089 rfl rfl (qp (AI x1) rfl (qp (AI (w64 (x1 + 1))) rfl (qp (AI (w64 (x1 + 1))) rfl (r_nil (thenQ_n ?_))))))))
  refine ar (l' := [(0, .val none (K49 v0)), (3, AI (w64 (x1 + 1)))]) (L := []) [0, 3] [] 1 ⟨_, by rfl, hF⟩
 exact w_exit (thenQ_e (thenQ_e (blockQ_e (thenQ_n (ws 257 321 (qp (AB true) rfl (rR hF)))))))

def c70 : MC := (sr [pT 2 (.mv cf)] (sr [mvt 3 0, zT 4 3, bT 5 .geq t4 (ci 5), mvt 6 5, nT 7 6 t0, kT 8 6 (.iad t7 (ci 0) 1), kT 9 6 (.ld t8 1 false), kT 10 6 (.bin .eql t9 (ci 0)), pT 11 (.pick t6 t10 cf), mvt 12 11, nT 13 12 t0, ⟨(some 14), (some (12, true)), (.call true 118 [t13])⟩, pT 15 (.pick t12 t14 cf), mvt 16 15, nT 17 16 t0, nT 18 16 t0, kT 19 16 (.len t18), kT 20 16 (.bin .sub t19 (ci 1)), kT 21 16 (.iad t17 t20 1), kT 22 16 (.ld t21 1 false), kT 23 16 (.bin .lss t22 (ci 12)), pT 24 (.pick t16 t23 cf), mvt 2 24] .ret))
theorem c70_ : IsF Tryz.prog 70 c70 [(.tmp 2)] := ⟨by kernel_rfl, by kernel_rfl⟩

def F_impl_ValidScale (v0 : List Int) : Option (Bool) :=
 (bif (decide ((5 : Int) ≤ (v0.length : Int))) then ((ix v0 0).bind fun u0 => (bif (decide (u0 = (0 : Int))) then ((F_impl_increasing v0).bind fun u1 => (bif u1 then ((ix v0 (w64 ((v0.length : Int) - 1))).bind fun u2 => some (decide (u2 < (12 : Int))))
 else some false))
 else some false))
 else some false)
@[simp] abbrev K4a (v0 : List Int) : AV := AL 1 (v0.map vI)
@[simp] def res_impl_ValidScale (r : Bool) : RV := .one (.one (.val (.bool r)))
theorem con_impl_ValidScale {v0 : List Int} {r : Bool} (hF : F_impl_ValidScale v0 = some r) : Con Tryz.prog 70 [.sl 1 (v0.map vI)] (res_impl_ValidScale r) := by
 unfold F_impl_ValidScale at hF
 refine con_of c70_.1 fun N => ?_
 refine ws 0 64 (qp (AB false) rfl (r_nil (ws 64 1536 (qp (K4a v0) rfl (qp (AI (v0.length : Int)) (ev_len_n rfl) (qp (AB (decide ((5 : Int) ≤ (v0.length : Int)))) rfl (qp (AB (decide ((5 : Int) ≤ (v0.length : Int)))) rfl ?_)))))))
 refine q_case 6 hF rfl (fun hF => ?_) (fun hF => ?_)
 ·
  refine qg (K4a v0) rfl rfl (bk hF fun u0 e0 hF => qg (.val none (.ptr [.int .i64 u0])) rfl (ev_iad_n rfl rfl e0 rfl) (qg (AI u0) rfl rfl (qg (AB (decide (u0 = (0 : Int)))) rfl rfl (qp (AB (decide (u0 = (0 : Int)))) rfl (qp (AB (decide (u0 = (0 : Int)))) rfl ?_)))))
  refine q_case 12 hF rfl (fun hF => ?_) (fun hF => ?_)
  ·
   refine qg (K4a v0) rfl rfl (bk hF fun u1 e1 hF => qG (AB u1) [] (con_impl_increasing e1) c118_ (qp (AB u1) rfl (qp (AB u1) rfl (q_case 16 hF rfl (fun hF => qg (K4a v0) rfl rfl (qg (K4a v0) rfl rfl (qg (AI (v0.length : Int)) rfl (ev_len_n rfl) (qg (AI (w64 ((v0.length : Int) - 1))) rfl rfl (bk hF fun u2 e2 hF => qg (.val none (.ptr [.int .i64 u2])) rfl (ev_iad_n rfl rfl e2 rfl) (qg (AI u2) rfl rfl (qg (AB (decide (u2 < (12 : Int)))) rfl rfl (qp (AB (decide (u2 < (12 : Int)))) rfl (qp (AB (decide (u2 < (12 : Int)))) rfl (rR hF)))))))))) fun hF => ?_))))
   exact qn7 (qp (AB false) rfl (qp (AB false) rfl (rR hF)))
  exact qn2 (qp (AB false) rfl (qp (AB false) rfl (qn4 (qn3 (qp (AB false) rfl (qp (AB false) rfl (rR hF)))))))
 exact qn4 (qp (AB false) rfl (qp (AB false) rfl (qn2 (qp (AB false) rfl (qp (AB false) rfl (qn6 (qn rfl (qp (AB false) rfl (qp (AB false) rfl (rR hF))))))))))

def c142 : MC := (sr [pT 4 (.mv (ci 0))] (.seq (sr [mvt 6 0, zT 7 6, pT 8 (.mv (ci 0))] (.block 0 (.loop (sr [bT 9 .lss t8 t7] (.seq (cx t9 0) (.seq (.block 1 (sr [mvt 10 8, mvt 5 10] (sr [mvt 11 1, mvt 12 0, mvt 13 5, iT 14 12 13 1, lT 15 14, bT 16 .eql t11 t15] (.cond t16 (sr [mvt 17 5, mvt 4 17] .ret) .skip)))) (.reg [bT 18 .add t8 (ci 1), mvt 8 18]))))))) (sr [pT 4 (.mv (ci (-1)))] .ret)))
theorem c142_ : IsF Tryz.prog 142 c142 [(.tmp 4)] := ⟨by kernel_rfl, by kernel_rfl⟩

def F_slices_Index_Sint64_int64_l0 (v0 : List Int) (v1 : Int) (k0 : Int → Option (Int)) : Int → Option (Int)
 | x1 => (bif (decide (x1 < (v0.length : Int))) then ((ix v0 x1).bind fun u0 => (bif (decide (v1 = u0)) then some x1
 else k0 (w64 (x1 + 1))))
 else some (-1))
def F_slices_Index_Sint64_int64 (v0 : List Int) (v1 : Int) : Option (Int) :=
 loop (F_slices_Index_Sint64_int64_l0 v0 v1) 0
@[simp] def res_slices_Index_Sint64_int64 (r : Int) : RV := .one (.one (.val (.int .i64 r)))
theorem con_slices_Index_Sint64_int64 {v0 : List Int} {v1 : Int} {r : Int} (hF : F_slices_Index_Sint64_int64 v0 v1 = some r) : Con Tryz.prog 142 [.sl 1 (v0.map vI), .int .i64 v1] (res_slices_Index_Sint64_int64 r) := by
 unfold F_slices_Index_Sint64_int64 at hF
 refine con_of c142_.1 fun N => ?_
 refine ws 0 64 (qp (AI 0) rfl (r_nil (w_seq (ws 64 256 (qp (AL 1 (v0.map vI)) rfl (qp (AI (v0.length : Int)) (ev_len_n rfl) (qp (AI 0) rfl (r_nil (w_block ?_)))))))))
 refine wr (l' := [(0, AL 1 (v0.map vI)), (1, AI v1), (7, AI (v0.length : Int)), (8, AI 0)]) (L := []) [0, 1, 7, 8] [] 1 ?_
 refine w_loopF (F_slices_Index_Sint64_int64_l0 v0 v1) (fun s : Int => mkS [(0, AL 1 (v0.map vI)), (1, AI v1), (7, AI (v0.length : Int)), (8, AI s)] (fo []) 1) hF ?_
 rintro k0 x1 hF
 rw [F_slices_Index_Sint64_int64_l0] at hF
 try dsimp only
 refine ws 1 65 (qp (AB (decide (x1 < (v0.length : Int)))) rfl (r_nil (w_seq ?_)))
 refine cF hF (fun hF => ?_) fun hF => ?_
 ·
  refine w_skip (thenQ_n (w_seq (w_block (ws 65 193 (qp (AI x1) rfl (qp (AI x1) rfl (r_nil (ws 193 577 (qp (AI v1) rfl (qp (AL 1 (v0.map vI)) rfl (qp (AI x1) rfl (bk hF fun u0 e0 hF => ?_))))))))))))
  refine qp (.val none (.ptr [.int .i64 u0])) (ev_iad_n rfl rfl e0 rfl) (qp (AI u0) rfl (qp (AB (decide (v1 = u0))) rfl (r_nil (cF hF (fun hF => ws 577 705 (qp (AI x1) rfl (qp (AI x1) rfl (r_nil (w_ret (blockQ_r (thenQ_r (thenQ_r (blockQ_r (thenQ_r (eQ hF))))))))))) fun hF => ?_))))
  refine w_skip (blockQ_n (thenQ_n (w_reg 577 705 rfl rfl (qp (AI (w64 (x1 + 1))) rfl (qp (AI (w64 (x1 + 1))) rfl (r_nil (thenQ_n ?_)))))))
  refine ar (l' := [(0, AL 1 (v0.map vI)), (1, AI v1), (7, AI (v0.length : Int)), (8, AI (w64 (x1 + 1)))]) (L := []) [0, 1, 7, 8] [] 1 ⟨_, by rfl, hF⟩
 exact w_exit (thenQ_e (thenQ_e (blockQ_e (thenQ_n (ws 65 129 (qp (AI (-1)) rfl (rR hF)))))))

def c119 : MC := (sr [pT 4 (.mv cf)] (sr [mvt 5 0, mvt 6 1, dT 7 142 [t5, t6], bT 8 .geq t7 (ci 0), mvt 4 8] .ret))
theorem c119_ : IsF Tryz.prog 119 c119 [(.tmp 4)] := ⟨by kernel_rfl, by kernel_rfl⟩

def F_slices_Contains_Sint64_int64 (v0 : List Int) (v1 : Int) : Option (Bool) :=
 ((F_slices_Index_Sint64_int64 v0 v1).bind fun u0 => some (decide ((0 : Int) ≤ u0)))
@[simp] def res_slices_Contains_Sint64_int64 (r : Bool) : RV := .one (.one (.val (.bool r)))
theorem con_slices_Contains_Sint64_int64 {v0 : List Int} {v1 : Int} {r : Bool} (hF : F_slices_Contains_Sint64_int64 v0 v1 = some r) : Con Tryz.prog 119 [.sl 1 (v0.map vI), .int .i64 v1] (res_slices_Contains_Sint64_int64 r) := by
 unfold F_slices_Contains_Sint64_int64 at hF
 refine con_of c119_.1 fun N => ?_
 exact ws 0 64 (qp (AB false) rfl (r_nil (ws 64 384 (qp (AL 1 (v0.map vI)) rfl (qp (AI v1) rfl (bk hF fun u0 e0 hF => qC (AI u0) [] (con_slices_Index_Sint64_int64 e0) c142_ (qp (AB (decide ((0 : Int) ≤ u0))) rfl (qp (AB (decide ((0 : Int) ≤ u0))) rfl (rR hF)))))))))

end Go.Ab
