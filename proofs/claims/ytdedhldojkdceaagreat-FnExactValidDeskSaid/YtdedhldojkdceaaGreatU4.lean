/- Walks (printed by auto.py, a program of this session's own). -/
import Derived.Test.YtdedhldojkdceaaGreatU3
import Derived.Test.YtdedhldojkdceaaGreatProg
import Derived.KernelRfl
import Derived.Test.YtdedhldojkdceaaGreatSQ
set_option linter.unusedVariables false
set_option linter.unusedSimpArgs false
set_option maxRecDepth 8000
set_option maxHeartbeats 8000000
noncomputable section
namespace Go.Ab
open Go.RowKit Go.Proofs

def c128 : MC := (sr [pT 4 (.mv (ci 0))] (.seq (sr [mvt 6 0, zT 7 6, pT 8 (.mv (ci 0))] (.block 0 (.loop (sr [bT 9 .lss t8 t7] (.seq (cx t9 0) (.seq (.block 1 (sr [mvt 10 8, mvt 5 10] (sr [mvt 11 1, mvt 12 0, mvt 13 5, iT 14 12 13 3, pT 15 (.ld t14 3 true), rg 16 (.callv t11 [t15])] (.cond t16 (sr [mvt 17 5, mvt 4 17] .ret) .skip)))) (.reg [bT 18 .add t8 (ci 1), mvt 8 18]))))))) (sr [pT 4 (.mv (ci (-1)))] .ret)))
theorem c128_ : IsF Tryz.prog 128 c128 [(.tmp 4)] := ⟨by kernel_rfl, by kernel_rfl⟩

def F_slices_IndexFunc_SPerson_Person_l0 (v0 : List TPerson) (v1 : List UInt8) (k0 : Int → Option (Int)) : Int → Option (Int)
 | x1 => (bif (decide (x1 < (v0.length : Int))) then ((ix v0 x1).bind fun u0 => ((F_impl_personAt_1 u0 v1).bind fun u1 => (bif u1 then some x1
 else k0 (w64 (x1 + 1)))))
 else some (-1))
def F_slices_IndexFunc_SPerson_Person (v0 : List TPerson) (v1 : List UInt8) : Option (Int) :=
 loop (F_slices_IndexFunc_SPerson_Person_l0 v0 v1) 0
@[simp] def res_slices_IndexFunc_SPerson_Person (r : Int) : RV := .one (.one (.val (.int .i64 r)))
theorem con_slices_IndexFunc_SPerson_Person {v0 : List TPerson} {v1 : List UInt8} {r : Int} (hF : F_slices_IndexFunc_SPerson_Person v0 v1 = some r) : Con Tryz.prog 128 [.sl 3 (v0.map ePerson), .fn 129 [.ptr [.str v1]]] (res_slices_IndexFunc_SPerson_Person r) := by
 unfold F_slices_IndexFunc_SPerson_Person at hF
 refine con_of c128_.1 fun N => ?_
 refine ws 0 64 (qp (AI 0) rfl (r_nil (w_seq (ws 64 256 (qp (AL 3 (v0.map ePerson)) rfl (qp (AI (v0.length : Int)) (ev_len_n rfl) (qp (AI 0) rfl (r_nil (w_block ?_)))))))))
 refine wr (l' := [(0, AL 3 (v0.map ePerson)), (1, .val none (.fn 129 [.ptr [.str v1]])), (7, AI (v0.length : Int)), (8, AI 0)]) (L := []) [0, 1, 7, 8] [] 1 ?_
 refine w_loopF (F_slices_IndexFunc_SPerson_Person_l0 v0 v1) (fun s : Int => mkS [(0, AL 3 (v0.map ePerson)), (1, .val none (.fn 129 [.ptr [.str v1]])), (7, AI (v0.length : Int)), (8, AI s)] (fo []) 1) hF ?_
 rintro k0 x1 hF
 rw [F_slices_IndexFunc_SPerson_Person_l0] at hF
 try dsimp only
 refine ws 1 65 (qp (AB (decide (x1 < (v0.length : Int)))) rfl (r_nil (w_seq ?_)))
 refine cF hF (fun hF => ?_) fun hF => ?_
 ·
  refine w_skip (thenQ_n (w_seq (w_block (ws 65 193 (qp (AI x1) rfl (qp (AI x1) rfl (r_nil (ws 193 577 (qp (.val none (.fn 129 [.ptr [.str v1]])) rfl (qp (AL 3 (v0.map ePerson)) rfl (qp (AI x1) rfl (bk hF fun u0 e0 hF => qp (.val none (.ptr [.str u0.1, .int .i64 u0.2.1, .sl 1 (u0.2.2.map V.str)])) (ev_iad_n rfl rfl e0 rfl) (qp (.val none (ePerson u0)) rfl (bk hF fun u1 e1 hF => qcv (AB u1) [] false rfl (con_impl_personAt_1 e1) c129_.2 (by first | rfl | simp) rfl (r_nil ?_)))))))))))))))
  refine cF hF (fun hF => ws 577 705 (qp (AI x1) rfl (qp (AI x1) rfl (r_nil (w_ret (blockQ_r (thenQ_r (thenQ_r (blockQ_r (thenQ_r (eQ hF))))))))))) fun hF => ?_
  refine w_skip (blockQ_n (thenQ_n (w_reg 577 705 rfl rfl (qp (AI (w64 (x1 + 1))) rfl (qp (AI (w64 (x1 + 1))) rfl (r_nil (thenQ_n ?_)))))))
  refine ar (l' := [(0, AL 3 (v0.map ePerson)), (1, .val none (.fn 129 [.ptr [.str v1]])), (7, AI (v0.length : Int)), (8, AI (w64 (x1 + 1)))]) (L := []) [0, 1, 7, 8] [] 1 ⟨_, by rfl, hF⟩
 exact w_exit (thenQ_e (thenQ_e (blockQ_e (thenQ_n (ws 65 129 (qp (AI (-1)) rfl (rR hF)))))))

def c86 : MC := (sr [rg 3 (.f (.box t1)), pT 4 (.mv (ci 0))] (sr [mvt 5 0, pT 6 (.mkf 129 [t3]), dT 7 128 [t5, t6], mvt 4 7] .ret))
theorem c86_ : IsF Tryz.prog 86 c86 [(.tmp 4)] := ⟨by kernel_rfl, by kernel_rfl⟩

def F_impl_personAt (v0 : List TPerson) (v1 : List UInt8) : Option (Int) :=
 ((F_slices_IndexFunc_SPerson_Person v0 v1).bind fun u0 => some u0)
@[simp] def res_impl_personAt (r : Int) : RV := .one (.one (.val (.int .i64 r)))
theorem con_impl_personAt {v0 : List TPerson} {v1 : List UInt8} {r : Int} (hF : F_impl_personAt v0 v1 = some r) : Con Tryz.prog 86 [.sl 3 (v0.map ePerson), .str v1] (res_impl_personAt r) := by
 unfold F_impl_personAt at hF
 refine con_of c86_.1 fun N => ?_
 exact ws 0 128 (qf (.ptr 0 0 0) [(0, .box [AS v1])] (by simp) (qp (AI 0) rfl (r_nil (ws 128 384 (qp (AL 3 (v0.map ePerson)) rfl (qp (.fn 129 [.ptr 0 0 0]) rfl (bk hF fun u0 e0 hF => qc (AI u0) [(0, .box [AS v1])] true (con_slices_IndexFunc_SPerson_Person e0) c128_.2 (by simp [List.take_of_length_le]) rfl (qp (AI u0) rfl (rR hF)))))))))

def c36 : MC := (sr [pT 2 (.mv cf)] (.seq (sr [mvt 8 0, zT 9 8, bT 10 .gtr t9 (ci 24)] (.cond t10 (sr [pT 2 (.mv cf)] .ret) .skip)) (.seq (sr [mvt 11 0, zT 12 11, pT 13 (.mv (ci 0))] (.block 0 (.loop (sr [bT 14 .lss t13 t12] (.seq (cx t14 0) (.seq (.block 1 (sr [mvt 15 13, iT 16 11 13 3, pT 17 (.ld t16 3 true), rg 4 (.f (.alloc [((.str []), (0, false)), ((.int .i64 0), (0, false)), ((.sl 0 []), (1, false))])), mvt 3 15, ⟨none, none, (.f (.st t4 t17 3))⟩] (.seq (sr [pF 18 (.fad t4 0), lF 19 18, dF 20 69 [t19], pF 21 (.not t20), mP 22 t21, gF 23 22 (.fad t4 1), lH 24 22 23, ⟨(some 25), (some (22, false)), (.call false 85 [t24, (ci 0), (ci 3000)])⟩, gF 26 22 (.not t25), pF 27 (.pick t22 ct t26), mP 28 t27, gF 29 28 (.fad t4 2), lH 30 28 29, zH 31 28 30, bH 32 28 .gtr t31 (ci 4), pF 33 (.pick t28 ct t32), mP 34 t33, mF 35 34 t3, bH 36 34 .gtr t35 (ci 0), mF 37 34 t36, gT 38 37 (.fad t4 0), lG 39 37 38, mT 40 37 t0, mT 41 37 t3, bG 42 37 .sub t41 (ci 1), iG 43 37 40 42 3, gT 44 37 (.fad t43 0), lG 45 37 44, bG 46 37 .leq t39 t45, gF 47 34 (.pick t37 t46 cf), pF 48 (.pick t34 ct t47)] (.cond t48 (sr [pT 2 (.mv cf)] .ret) .skip)) (sr [pT 49 (.fad t4 2), lT 50 49, zT 51 50, pT 52 (.mv (ci 0))] (.block 2 (.loop (sr [bT 53 .lss t52 t51] (.seq (cx t53 2) (.seq (.block 3 (sr [mvt 54 52, iT 55 50 52 1, lT 56 55, mvt 5 54, mvt 6 56] (sr [mvt 57 0, mvt 58 6, dT 59 86 [t57, t58], mvt 7 59] (sr [mP 60 t7, bF 61 .lss t60 (ci 0), mP 62 t61, mF 63 62 t0, mF 64 62 t7, iH 65 62 63 64 3, gF 66 62 (.fad t65 1), lH 67 62 66, gF 68 62 (.fad t4 1), lH 69 62 68, bH 70 62 .geq t67 t69, pF 71 (.pick t62 ct t70), mP 72 t71, mF 73 72 t5, bH 74 72 .gtr t73 (ci 0), mF 75 72 t74, mT 76 75 t6, gT 77 75 (.fad t4 2), lG 78 75 77, mT 79 75 t5, bG 80 75 .sub t79 (ci 1), iG 81 75 78 80 1, lG 82 75 81, bG 83 75 .leq t76 t82, gF 84 72 (.pick t75 t83 cf), pF 85 (.pick t72 ct t84)] (.cond t85 (sr [pT 2 (.mv cf)] .ret) .skip))))) (.reg [bT 86 .add t52 (ci 1), mvt 52 86])))))))))) (.reg [bT 87 .add t13 (ci 1), mvt 13 87]))))))) (sr [pT 2 (.mv ct)] .ret))))
theorem c36_ : IsF Tryz.prog 36 c36 [(.tmp 2)] := ⟨by kernel_rfl, by kernel_rfl⟩

def F_impl_ValidPersons_l2 (v0 : List TPerson) (u0 : TPerson) (x5 : Int) (k2 : Int → Option (Bool)) (k4 : Int → Option (Bool)) : Int → Option (Bool)
 | x9 => (bif (decide (x9 < (u0.2.2.length : Int))) then ((ix u0.2.2 x9).bind fun u7 => ((F_impl_personAt v0 u7).bind fun u8 => (bif (decide (u8 < (0 : Int))) then some false
 else ((ix v0 u8).bind fun u9 => (bif (decide (u0.2.1 ≤ u9.2.1)) then some false
 else (bif (decide ((0 : Int) < x9)) then ((ix u0.2.2 (w64 (x9 - 1))).bind fun u10 => (bif (Op.bytesLess u7 u10 || decide (u7 = u10)) then some false
 else k4 (w64 (x9 + 1))))
 else k4 (w64 (x9 + 1))))))))
 else k2 (w64 (x5 + 1)))
def F_impl_ValidPersons_j1 (v0 : List TPerson) (u0 : TPerson) (x5 : Int) (k2 : Int → Option (Bool)) : Option (Bool) :=
 loop (F_impl_ValidPersons_l2 v0 u0 x5 k2) 0
def F_impl_ValidPersons_l0 (v0 : List TPerson) (k2 : Int → Option (Bool)) : Int → Option (Bool)
 | x5 => (bif (decide (x5 < (v0.length : Int))) then ((ix v0 x5).bind fun u0 => ((F_impl_IsName u0.1).bind fun u4 => (bif (!u4) then some false
 else ((F_impl_within u0.2.1 0 3000).bind fun u5 => (bif (!u5) then some false
 else (bif (decide ((4 : Int) < (u0.2.2.length : Int))) then some false
 else (bif (decide ((0 : Int) < x5)) then ((ix v0 (w64 (x5 - 1))).bind fun u6 => (bif (Op.bytesLess u0.1 u6.1 || decide (u0.1 = u6.1)) then some false
 else F_impl_ValidPersons_j1 v0 u0 x5 k2))
 else F_impl_ValidPersons_j1 v0 u0 x5 k2)))))))
 else some true)
def F_impl_ValidPersons (v0 : List TPerson) : Option (Bool) :=
 (bif (decide ((24 : Int) < (v0.length : Int))) then some false
 else loop (F_impl_ValidPersons_l0 v0) 0)
@[simp] abbrev K5i (u0 : TPerson) : V := .sl 1 (u0.2.2.map V.str)
@[simp] abbrev K5d (u0 : TPerson) : List (Nat × Root) := [(0, .box [AS u0.1, AI u0.2.1, .val none (K5i u0)])]
@[simp] abbrev K5e : List (Nat × Root) := [(257, .box [AS [], AI 0, .sl 258 0 0]), (258, .row true 1 (([] : List Int).map vI))]
@[simp] abbrev K5f (u0 : TPerson) : List (Nat × Root) := ((257, .box [AS u0.1, AI u0.2.1, .val none (K5i u0)]) :: K5e)
@[simp] abbrev K5g (v0 : List TPerson) : V := .sl 3 (v0.map ePerson)
@[simp] abbrev K5l (v0 : List TPerson) : Nat × AV := (0, .val none (K5g v0))
@[simp] abbrev K5k (v0 : List TPerson) : Nat × AV := (11, .val none (K5g v0))
@[simp] abbrev K5j (v0 : List TPerson) : Nat × AV := (12, AI (v0.length : Int))
@[simp] abbrev K5h (v0 : List TPerson) (x5 : Int) : List (Nat × AV) := [(K5l v0), (4, .ptr 0 0 0), (K5k v0), (K5j v0), (13, AI x5)]
@[simp] def res_impl_ValidPersons (r : Bool) : RV := .one (.one (.val (.bool r)))
theorem con_impl_ValidPersons {v0 : List TPerson} {r : Bool} (hF : F_impl_ValidPersons v0 = some r) : Con Tryz.prog 36 [.sl 3 (v0.map ePerson)] (res_impl_ValidPersons r) := by
 unfold F_impl_ValidPersons at hF
 refine con_of c36_.1 fun N => ?_
 refine ws 0 64 (qp (AB false) rfl (r_nil (w_seq (ws 64 256 (qp (.val none (K5g v0)) rfl (qp (AI (v0.length : Int)) (ev_len_n rfl) (qp (AB (decide ((24 : Int) < (v0.length : Int)))) rfl (r_nil (cF hF (fun hF => ws 256 320 (qp (AB false) rfl (r_nil (w_ret (thenQ_r (eQ hF)))))) fun hF => ?_)))))))))
 refine w_skip (thenQ_n (w_seq (ws 256 448 (qp (.val none (K5g v0)) rfl (qp (AI (v0.length : Int)) (ev_len_n rfl) (qp (AI 0) rfl (r_nil (w_block ?_))))))))
 refine wr (l' := [(K5l v0), (K5k v0), (K5j v0), (13, AI 0)]) (L := []) [0, 11, 12, 13] [] 1 ?_
 refine w_loopF (F_impl_ValidPersons_l0 v0) (fun s : Int => mkS [(K5l v0), (K5k v0), (K5j v0), (13, AI s)] (fo []) 1) hF ?_
 rintro k2 x5 hF
 rw [F_impl_ValidPersons_l0] at hF
 try dsimp only
 refine ws 1 65 (qp (AB (decide (x5 < (v0.length : Int)))) rfl (r_nil (w_seq ?_)))
 refine cF hF (fun hF => ?_) fun hF => ?_
 ·
  refine w_skip (thenQ_n (w_seq (w_block (ws 65 449 (qp (AI x5) rfl (bk hF fun u0 e0 hF => qp (.val none (.ptr [.str u0.1, .int .i64 u0.2.1, .sl 1 (u0.2.2.map V.str)])) (ev_iad_n rfl rfl e0 rfl) (qp (.val none (ePerson u0)) rfl (qf (.ptr 257 0 0) K5e (by simp) (qp (AI x5) rfl (qf0 (.undef) (K5f u0) (by simp) (r_nil ?_)))))))))))
  refine w_meet (fun s' => s' = mkS (K5h v0 x5) (fo (K5d u0)) 1 ∧ F_impl_ValidPersons_j1 v0 u0 x5 k2 = some r) ?_ ?_
  ·
   refine ws 449 2433 (qp (.ptr 257 0 0) rfl (qp (AS u0.1) rfl (bk hF fun u4 e4 hF => qC (AB u4) (K5f u0) (con_impl_IsName e4) c69_ (qp (AB (!u4)) rfl (qp (AB (!u4)) rfl ?_)))))
   refine q_case 22 hF rfl (fun hF => ?_) (fun hF => ?_)
   ·
    refine qn4 (qp (AB true) rfl (qp (AB true) rfl (qn2 (qn2 (qp (AB true) rfl (qp (AB true) rfl (qn3 (qu rfl ?_))))))))
    refine qu rfl (qu rfl (qu rfl (qu rfl (qu rfl (qu rfl (qu rfl (qu rfl (qn rfl (qp (AB true) rfl (r_nil (w_true rfl (ws 2433 2497 (qp (AB false) rfl ?_)))))))))))))
    exact r_nil (w_ret (thenQ_r (blockQ_r (thenQ_r (thenQ_r (blockQ_r (thenQ_r (eQ hF))))))))
   refine qg (.ptr 257 0 1) rfl rfl (qg (AI u0.2.1) rfl rfl (bk hF fun u5 e5 hF => qG (AB u5) (K5f u0) (con_impl_within e5) c85_ (qg (AB (!u5)) rfl rfl (qp (AB (!u5)) rfl (qp (AB (!u5)) rfl ?_)))))
   refine q_case 28 hF rfl (fun hF => ?_) (fun hF => ?_)
   ·
    refine qn4 (qp (AB true) rfl (qp (AB true) rfl (qn2 (qn rfl (qu rfl (qu rfl (qu rfl (qu rfl (qu rfl (qu rfl (qu rfl ?_)))))))))))
    refine qu rfl (qu rfl (qn rfl (qp (AB true) rfl (r_nil (w_true rfl (ws 2433 2497 (qp (AB false) rfl (r_nil (w_ret (thenQ_r (blockQ_r (thenQ_r (thenQ_r ?_)))))))))))))
    exact blockQ_r (thenQ_r (eQ hF))
   refine qg (.ptr 257 0 2) rfl rfl (qg (.val none (K5i u0)) rfl rfl (qg (AI (u0.2.2.length : Int)) rfl (ev_len_n rfl) (qg (AB (decide ((4 : Int) < (u0.2.2.length : Int)))) rfl rfl (qp (AB (decide ((4 : Int) < (u0.2.2.length : Int)))) rfl (qp (AB (decide ((4 : Int) < (u0.2.2.length : Int)))) rfl ?_)))))
   refine q_case 34 hF rfl (fun hF => ?_) (fun hF => ?_)
   ·
    refine qn3 (qu rfl (qu rfl (qu rfl (qu rfl (qu rfl (qu rfl (qu rfl (qu rfl (qu rfl (qn rfl (qp (AB true) rfl (r_nil (w_true rfl ?_)))))))))))))
    exact ws 2433 2497 (qp (AB false) rfl (r_nil (w_ret (thenQ_r (blockQ_r (thenQ_r (thenQ_r (blockQ_r (thenQ_r (eQ hF))))))))))
   refine qg (AI x5) rfl rfl (qg (AB (decide ((0 : Int) < x5))) rfl rfl (qg (AB (decide ((0 : Int) < x5))) rfl rfl ?_))
   refine q_case 37 hF rfl (fun hF => ?_) (fun hF => ?_)
   ·
    refine qg (.ptr 257 0 0) rfl rfl (qg (AS u0.1) rfl rfl (qg (.val none (K5g v0)) rfl rfl (qg (AI x5) rfl rfl (qg (AI (w64 (x5 - 1))) rfl rfl (bk hF fun u6 e6 hF => qg (.val none (.ptr [.str u6.1, .int .i64 u6.2.1, .sl 1 (u6.2.2.map V.str)])) rfl (ev_iad_n rfl rfl e6 rfl) (qg (.val none (.ptr [.str u6.1, .int .i64 u6.2.1, .sl 1 (u6.2.2.map V.str)])) rfl rfl (qg (AS u6.1) rfl rfl (qg (AB (Op.bytesLess u0.1 u6.1 || decide (u0.1 = u6.1))) rfl rfl (qg (AB (Op.bytesLess u0.1 u6.1 || decide (u0.1 = u6.1))) rfl rfl (qp (AB (Op.bytesLess u0.1 u6.1 || decide (u0.1 = u6.1))) rfl (r_nil ?_)))))))))))
    refine cF hF (fun hF => ws 2433 2497 (qp (AB false) rfl (r_nil (w_ret (thenQ_r (blockQ_r (thenQ_r (thenQ_r (blockQ_r (thenQ_r (eQ hF))))))))))) fun hF => w_skip (thenQ_n ?_)
    refine ar (l' := (K5h v0 x5)) (L := (K5d u0)) [0, 4, 11, 12, 13] [(257, 0)] 1 ⟨rfl, hF⟩
   refine qn8 (qn rfl (qg (AB false) rfl rfl (qp (AB false) rfl (r_nil (w_false rfl (w_skip (thenQ_n ?_)))))))
   refine ar (l' := (K5h v0 x5)) (L := (K5d u0)) [0, 4, 11, 12, 13] [(257, 0)] 1 ⟨rfl, hF⟩
  rintro s' ⟨rfl, hF⟩
  unfold F_impl_ValidPersons_j1 at hF
  refine ws 1 257 (qp (.ptr 0 0 2) rfl (qp (.val none (K5i u0)) rfl (qp (AI (u0.2.2.length : Int)) (ev_len_n rfl) (qp (AI 0) rfl (r_nil (w_block ?_))))))
  refine w_ren (l' := [(K5l v0), (4, .ptr 0 0 0), (K5k v0), (K5j v0), (13, AI x5), (50, .val none (K5i u0)), (51, AI (u0.2.2.length : Int)), (52, AI 0)]) (L := (K5d u0)) [0, 4, 11, 12, 13, 50, 51, 52] [(0, 0)] 1 (by first | rfl | simp) (by first | rfl | simp) (by decide) (by decide) (by decide) ?_
  refine w_loopF (F_impl_ValidPersons_l2 v0 u0 x5 k2) (fun s : Int => mkS [(K5l v0), (4, .ptr 0 0 0), (K5k v0), (K5j v0), (13, AI x5), (50, .val none (K5i u0)), (51, AI (u0.2.2.length : Int)), (52, AI s)] (fo (K5d u0)) 1) hF ?_
  rintro k4 x9 hF
  rw [F_impl_ValidPersons_l2] at hF
  try dsimp only
  refine ws 1 65 (qp (AB (decide (x9 < (u0.2.2.length : Int)))) rfl (r_nil (w_seq ?_)))
  refine cF hF (fun hF => ?_) fun hF => ?_
  ·
   refine w_skip (thenQ_n (w_seq (w_block (ws 65 385 (qp (AI x9) rfl (bk hF fun u7 e7 hF => qp (.val none (.ptr [.str u7])) (ev_iad_n rfl rfl e7 rfl) (qp (AS u7) rfl (qp (AI x9) rfl (qp (AS u7) rfl (r_nil (ws 385 641 (qp (.val none (K5g v0)) rfl (qp (AS u7) rfl (bk hF fun u8 e8 hF => qC (AI u8) (K5d u0) (con_impl_personAt e8) c86_ (qp (AI u8) rfl ?_)))))))))))))))
   refine r_nil (ws 641 2305 (qp (AI u8) rfl (qp (AB (decide (u8 < (0 : Int)))) rfl (qp (AB (decide (u8 < (0 : Int)))) rfl ?_))))
   refine q_case 62 hF rfl (fun hF => ?_) (fun hF => ?_)
   ·
    refine qn8 (qp (AB true) rfl (qp (AB true) rfl (qn3 (qu rfl (qu rfl (qu rfl (qu rfl (qu rfl (qu rfl (qu rfl (qu rfl (qn rfl (qp (AB true) rfl ?_)))))))))))))
    refine r_nil (w_true rfl (ws 2305 2369 (qp (AB false) rfl (r_nil (w_ret (blockQ_r (thenQ_r (thenQ_r (blockQ_r (blockQ_r (thenQ_r (thenQ_r (blockQ_r ?_)))))))))))))
    exact thenQ_r (eQ hF)
   refine qg (.val none (K5g v0)) rfl rfl (qg (AI u8) rfl rfl (bk hF fun u9 e9 hF => qg (.val none (.ptr [.str u9.1, .int .i64 u9.2.1, .sl 1 (u9.2.2.map V.str)])) rfl (ev_iad_n rfl rfl e9 rfl) (qg (.val none (.ptr [.int .i64 u9.2.1, .sl 1 (u9.2.2.map V.str)])) rfl rfl (qg (AI u9.2.1) rfl rfl (qg (.ptr 0 0 1) rfl rfl (qg (AI u0.2.1) rfl rfl (qg (AB (decide (u0.2.1 ≤ u9.2.1))) rfl rfl (qp (AB (decide (u0.2.1 ≤ u9.2.1))) rfl (qp (AB (decide (u0.2.1 ≤ u9.2.1))) rfl ?_)))))))))
   refine q_case 72 hF rfl (fun hF => ?_) (fun hF => ?_)
   ·
    refine qn3 (qu rfl (qu rfl (qu rfl (qu rfl (qu rfl (qu rfl (qu rfl (qu rfl (qn rfl (qp (AB true) rfl (r_nil (w_true rfl (ws 2305 2369 ?_)))))))))))))
    exact qp (AB false) rfl (r_nil (w_ret (blockQ_r (thenQ_r (thenQ_r (blockQ_r (blockQ_r (thenQ_r (thenQ_r (blockQ_r (thenQ_r (eQ hF))))))))))))
   refine qg (AI x9) rfl rfl (qg (AB (decide ((0 : Int) < x9))) rfl rfl (qg (AB (decide ((0 : Int) < x9))) rfl rfl ?_))
   refine q_case 75 hF rfl (fun hF => ?_) (fun hF => ?_)
   ·
    refine qg (AS u7) rfl rfl (qg (.ptr 0 0 2) rfl rfl (qg (.val none (K5i u0)) rfl rfl (qg (AI x9) rfl rfl (qg (AI (w64 (x9 - 1))) rfl rfl (bk hF fun u10 e10 hF => qg (.val none (.ptr [.str u10])) rfl (ev_iad_n rfl rfl e10 rfl) (qg (AS u10) rfl rfl (qg (AB (Op.bytesLess u7 u10 || decide (u7 = u10))) rfl rfl (qg (AB (Op.bytesLess u7 u10 || decide (u7 = u10))) rfl rfl (qp (AB (Op.bytesLess u7 u10 || decide (u7 = u10))) rfl (r_nil ?_))))))))))
    refine cF hF (fun hF => ws 2305 2369 (qp (AB false) rfl (r_nil (w_ret (blockQ_r (thenQ_r (thenQ_r (blockQ_r (blockQ_r (thenQ_r (thenQ_r (blockQ_r (thenQ_r (eQ hF)))))))))))))) fun hF => ?_
    refine w_skip (blockQ_n (thenQ_n (w_reg 2305 2433 rfl rfl (qp (AI (w64 (x9 + 1))) rfl (qp (AI (w64 (x9 + 1))) rfl (r_nil (thenQ_n ?_)))))))
    refine ar (l' := [(K5l v0), (4, .ptr 0 0 0), (K5k v0), (K5j v0), (13, AI x5), (50, .val none (K5i u0)), (51, AI (u0.2.2.length : Int)), (52, AI (w64 (x9 + 1)))]) (L := (K5d u0)) [0, 4, 11, 12, 13, 50, 51, 52] [(0, 0)] 1 ⟨_, by rfl, hF⟩
   refine qn8 (qg (AB false) rfl rfl (qp (AB false) rfl (r_nil (w_false rfl (w_skip (blockQ_n (thenQ_n (w_reg 2305 2433 rfl rfl (qp (AI (w64 (x9 + 1))) rfl (qp (AI (w64 (x9 + 1))) rfl (r_nil ?_)))))))))))
   refine thenQ_n ?_
   refine ar (l' := [(K5l v0), (4, .ptr 0 0 0), (K5k v0), (K5j v0), (13, AI x5), (50, .val none (K5i u0)), (51, AI (u0.2.2.length : Int)), (52, AI (w64 (x9 + 1)))]) (L := (K5d u0)) [0, 4, 11, 12, 13, 50, 51, 52] [(0, 0)] 1 ⟨_, by rfl, hF⟩
  refine w_exit (thenQ_e (thenQ_e (blockQ_e (blockQ_n (thenQ_n (w_reg 65 193 rfl rfl (qp (AI (w64 (x5 + 1))) rfl (qp (AI (w64 (x5 + 1))) rfl (r_nil (thenQ_n ?_))))))))))
  refine ar (l' := [(K5l v0), (K5k v0), (K5j v0), (13, AI (w64 (x5 + 1)))]) (L := []) [0, 11, 12, 13] [] 1 ⟨_, by rfl, hF⟩
 exact w_exit (thenQ_e (thenQ_e (blockQ_e (thenQ_n (ws 65 129 (qp (AB true) rfl (rR hF)))))))

def c7 : MC := (sr [rg 1 (.f (.box t0)), pT 2 (.mv cf)] (sr [pT 3 (.fad t1 0), pT 4 (.ld t3 6 true), dT 5 28 [t4], mvt 6 5, kT 7 6 (.fad t1 6), kT 8 6 (.ld t7 1 false), ⟨(some 9), (some (6, true)), (.call true 29 [t8])⟩, pT 10 (.pick t6 t9 cf), mvt 11 10, kT 12 11 (.fad t1 7), kT 13 11 (.ld t12 2 true), ⟨(some 14), (some (11, true)), (.call true 30 [t13])⟩, pT 15 (.pick t11 t14 cf), mvt 16 15, kT 17 16 (.fad t1 9), kT 18 16 (.ld t17 1 false), ⟨(some 19), (some (16, true)), (.call true 31 [t18])⟩, pT 20 (.pick t16 t19 cf), mvt 21 20, kT 22 21 (.fad t1 10), kT 23 21 (.ld t22 1 false), ⟨(some 24), (some (21, true)), (.call true 32 [t23])⟩, pT 25 (.pick t21 t24 cf), mvt 26 25, kT 27 26 (.fad t1 11), kT 28 26 (.ld t27 1 false), ⟨(some 29), (some (26, true)), (.call true 33 [t28])⟩, pT 30 (.pick t26 t29 cf), mvt 31 30, kT 32 31 (.fad t1 12), kT 33 31 (.ld t32 1 false), ⟨(some 34), (some (31, true)), (.call true 34 [t33])⟩, pT 35 (.pick t31 t34 cf), mvt 36 35, kT 37 36 (.fad t1 13), kT 38 36 (.ld t37 1 false), ⟨(some 39), (some (36, true)), (.call true 35 [t38])⟩, pT 40 (.pick t36 t39 cf), mvt 41 40, kT 42 41 (.fad t1 14), kT 43 41 (.ld t42 1 false), ⟨(some 44), (some (41, true)), (.call true 36 [t43])⟩, pT 45 (.pick t41 t44 cf), mvt 2 45] .ret))
theorem c7_ : IsF Tryz.prog 7 c7 [(.tmp 2)] := ⟨by kernel_rfl, by kernel_rfl⟩

def F_impl_ValidDesk (v0 : TDesk) : Option (Bool) :=
 ((F_impl_ValidRaga (v0.1, v0.2.1, v0.2.2.1, v0.2.2.2.1, v0.2.2.2.2.1, v0.2.2.2.2.2.1)).bind fun u0 => (bif u0 then ((F_impl_ValidMelody v0.2.2.2.2.2.2.1).bind fun u1 => (bif u1 then ((F_impl_ValidTuning (v0.2.2.2.2.2.2.2.1, v0.2.2.2.2.2.2.2.2.1)).bind fun u2 => (bif u2 then ((F_impl_ValidPhrases v0.2.2.2.2.2.2.2.2.2.1).bind fun u3 => (bif u3 then ((F_impl_ValidSyllables v0.2.2.2.2.2.2.2.2.2.2.1).bind fun u4 => (bif u4 then ((F_impl_ValidTempo v0.2.2.2.2.2.2.2.2.2.2.2.1).bind fun u5 => (bif u5 then ((F_impl_ValidItems v0.2.2.2.2.2.2.2.2.2.2.2.2.1).bind fun u6 => (bif u6 then ((F_impl_ValidLessons v0.2.2.2.2.2.2.2.2.2.2.2.2.2.1).bind fun u7 => (bif u7 then ((F_impl_ValidPersons v0.2.2.2.2.2.2.2.2.2.2.2.2.2.2).bind fun u8 => some u8)
 else some false))
 else some false))
 else some false))
 else some false))
 else some false))
 else some false))
 else some false))
 else some false))
@[simp] abbrev K5m (v0 : TDesk) : List (Nat × Root) := [(0, .box [AS v0.1, AL 1 (v0.2.1.map vI), AL 1 (v0.2.2.1.map vI), AI v0.2.2.2.1, AI v0.2.2.2.2.1, AL 1 (v0.2.2.2.2.2.1.map (eL 1 vI)), AL 2 (v0.2.2.2.2.2.2.1.map eNote), AS v0.2.2.2.2.2.2.2.1, AL 2 (v0.2.2.2.2.2.2.2.2.1.map eNote), AL 1 (v0.2.2.2.2.2.2.2.2.2.1.map (eL 1 vI)), AL 3 (v0.2.2.2.2.2.2.2.2.2.2.1.map eSyllable), AL 2 (v0.2.2.2.2.2.2.2.2.2.2.2.1.map eNote), AL 6 (v0.2.2.2.2.2.2.2.2.2.2.2.2.1.map eItem), AL 5 (v0.2.2.2.2.2.2.2.2.2.2.2.2.2.1.map eLesson), AL 3 (v0.2.2.2.2.2.2.2.2.2.2.2.2.2.2.map ePerson)])]
@[simp] def res_impl_ValidDesk (r : Bool) : RV := .one (.one (.val (.bool r)))
theorem con_impl_ValidDesk {v0 : TDesk} {r : Bool} (hF : F_impl_ValidDesk v0 = some r) : Con Tryz.prog 7 [eDesk v0] (res_impl_ValidDesk r) := by
 unfold F_impl_ValidDesk at hF
 refine con_of c7_.1 fun N => ?_
 refine ws 0 128 (qf (.ptr 0 0 0) (K5m v0) (by simp) (qp (AB false) rfl (r_nil (ws 128 2944 (qp (.ptr 0 0 0) rfl (qp (.agg [AS v0.1, AL 1 (v0.2.1.map vI), AL 1 (v0.2.2.1.map vI), AI v0.2.2.2.1, AI v0.2.2.2.2.1, AL 1 (v0.2.2.2.2.2.1.map (eL 1 vI))]) rfl (bk hF fun u0 e0 hF => qC (AB u0) (K5m v0) (con_impl_ValidRaga e0) c28_ (qp (AB u0) rfl ?_))))))))
 refine q_case 6 hF rfl (fun hF => ?_) (fun hF => ?_)
 ·
  refine qg (.ptr 0 0 6) rfl rfl (qg (AL 2 (v0.2.2.2.2.2.2.1.map eNote)) rfl rfl (bk hF fun u1 e1 hF => qG (AB u1) (K5m v0) (con_impl_ValidMelody e1) c29_ (qp (AB u1) rfl (qp (AB u1) rfl ?_))))
  refine q_case 11 hF rfl (fun hF => ?_) (fun hF => ?_)
  ·
   refine qg (.ptr 0 0 7) rfl rfl (qg (.agg [AS v0.2.2.2.2.2.2.2.1, AL 2 (v0.2.2.2.2.2.2.2.2.1.map eNote)]) rfl rfl (bk hF fun u2 e2 hF => qG (AB u2) (K5m v0) (con_impl_ValidTuning e2) c30_ (qp (AB u2) rfl (qp (AB u2) rfl ?_))))
   refine q_case 16 hF rfl (fun hF => ?_) (fun hF => ?_)
   ·
    refine qg (.ptr 0 0 9) rfl rfl (qg (AL 1 (v0.2.2.2.2.2.2.2.2.2.1.map (eL 1 vI))) rfl rfl (bk hF fun u3 e3 hF => qG (AB u3) (K5m v0) (con_impl_ValidPhrases e3) c31_ (qp (AB u3) rfl (qp (AB u3) rfl ?_))))
    refine q_case 21 hF rfl (fun hF => ?_) (fun hF => ?_)
    ·
     refine qg (.ptr 0 0 10) rfl rfl (qg (AL 3 (v0.2.2.2.2.2.2.2.2.2.2.1.map eSyllable)) rfl rfl (bk hF fun u4 e4 hF => qG (AB u4) (K5m v0) (con_impl_ValidSyllables e4) c32_ (qp (AB u4) rfl (qp (AB u4) rfl ?_))))
     refine q_case 26 hF rfl (fun hF => ?_) (fun hF => ?_)
     ·
      refine qg (.ptr 0 0 11) rfl rfl (qg (AL 2 (v0.2.2.2.2.2.2.2.2.2.2.2.1.map eNote)) rfl rfl (bk hF fun u5 e5 hF => qG (AB u5) (K5m v0) (con_impl_ValidTempo e5) c33_ (qp (AB u5) rfl (qp (AB u5) rfl ?_))))
      refine q_case 31 hF rfl (fun hF => ?_) (fun hF => ?_)
      ·
       refine qg (.ptr 0 0 12) rfl rfl (qg (AL 6 (v0.2.2.2.2.2.2.2.2.2.2.2.2.1.map eItem)) rfl rfl (bk hF fun u6 e6 hF => qG (AB u6) (K5m v0) (con_impl_ValidItems e6) c34_ (qp (AB u6) rfl (qp (AB u6) rfl ?_))))
       refine q_case 36 hF rfl (fun hF => ?_) (fun hF => ?_)
       ·
        refine qg (.ptr 0 0 13) rfl rfl (qg (AL 5 (v0.2.2.2.2.2.2.2.2.2.2.2.2.2.1.map eLesson)) rfl rfl (bk hF fun u7 e7 hF => qG (AB u7) (K5m v0) (con_impl_ValidLessons e7) c35_ (qp (AB u7) rfl (qp (AB u7) rfl (q_case 41 hF rfl (fun hF => qg (.ptr 0 0 14) rfl rfl (qg (AL 3 (v0.2.2.2.2.2.2.2.2.2.2.2.2.2.2.map ePerson)) rfl rfl (bk hF fun u8 e8 hF => qG (AB u8) (K5m v0) (con_impl_ValidPersons e8) c36_ (qp (AB u8) rfl (qp (AB u8) rfl (rR hF)))))) fun hF => ?_)))))
        exact qn3 (qp (AB false) rfl (qp (AB false) rfl (rR hF)))
       exact qn3 (qp (AB false) rfl (qp (AB false) rfl (qn3 (qp (AB false) rfl (qp (AB false) rfl (rR hF))))))
      exact qn3 (qp (AB false) rfl (qp (AB false) rfl (qn3 (qp (AB false) rfl (qp (AB false) rfl (qn3 (qp (AB false) rfl (qp (AB false) rfl (rR hF)))))))))
     exact qn3 (qp (AB false) rfl (qp (AB false) rfl (qn3 (qp (AB false) rfl (qp (AB false) rfl (qn3 (qp (AB false) rfl (qp (AB false) rfl (qn rfl (qn2 (qp (AB false) rfl (qp (AB false) rfl (rR hF)))))))))))))
    refine qn3 (qp (AB false) rfl (qp (AB false) rfl (qn3 (qp (AB false) rfl (qp (AB false) rfl (qn3 (qp (AB false) rfl (qp (AB false) rfl (qn rfl ?_)))))))))
    exact qn2 (qp (AB false) rfl (qp (AB false) rfl (qn3 (qp (AB false) rfl (qp (AB false) rfl (rR hF))))))
   refine qn3 (qp (AB false) rfl (qp (AB false) rfl (qn3 (qp (AB false) rfl (qp (AB false) rfl (qn3 (qp (AB false) rfl (qp (AB false) rfl (qn rfl ?_)))))))))
   exact qn2 (qp (AB false) rfl (qp (AB false) rfl (qn3 (qp (AB false) rfl (qp (AB false) rfl (qn3 (qp (AB false) rfl (qp (AB false) rfl (rR hF)))))))))
  refine qn3 (qp (AB false) rfl (qp (AB false) rfl (qn3 (qp (AB false) rfl (qp (AB false) rfl (qn3 (qp (AB false) rfl (qp (AB false) rfl (qn rfl ?_)))))))))
  exact qn2 (qp (AB false) rfl (qp (AB false) rfl (qn3 (qp (AB false) rfl (qp (AB false) rfl (qn3 (qp (AB false) rfl (qp (AB false) rfl (qn2 (qn rfl (qp (AB false) rfl (qp (AB false) rfl (rR hF)))))))))))))
 refine qn3 (qp (AB false) rfl (qp (AB false) rfl (qn3 (qp (AB false) rfl (qp (AB false) rfl (qn3 (qp (AB false) rfl (qp (AB false) rfl (qn rfl ?_)))))))))
 refine qn2 (qp (AB false) rfl (qp (AB false) rfl (qn3 (qp (AB false) rfl (qp (AB false) rfl (qn3 (qp (AB false) rfl (qp (AB false) rfl (qn2 ?_)))))))))
 exact qn rfl (qp (AB false) rfl (qp (AB false) rfl (qn rfl (qn rfl (qn rfl (qp (AB false) rfl (qp (AB false) rfl (rR hF))))))))

def c87 : MC := (sr [pT 4 (.mv cf)] (.seq (sr [mvt 6 0, zT 7 6, mvt 8 1, zT 9 8, bT 10 .neq t7 t9] (.cond t10 (sr [pT 4 (.mv cf)] .ret) .skip)) (.seq (sr [pT 5 (.mv (ci 0))] (.block 0 (.loop (.seq (sr [mvt 11 5, mvt 12 0, zT 13 12, bT 14 .lss t11 t13] (cx t14 0)) (.seq (.block 1 (sr [mP 17 t0, mP 18 t5, iF 19 17 18 1, lF 20 19, mP 21 t1, mP 22 t5, iF 23 21 22 1, lF 24 23, bF 25 .neq t20 t24] (.cond t25 (sr [pT 4 (.mv cf)] .ret) .skip))) (.reg [mvt 15 5, bT 16 .add t15 (ci 1), mvt 5 16])))))) (sr [pT 4 (.mv ct)] .ret))))
theorem c87_ : IsF Tryz.prog 87 c87 [(.tmp 4)] := ⟨by kernel_rfl, by kernel_rfl⟩

def F_laws_eqInt64S_l0 (v0 : List Int) (v1 : List Int) (k0 : Int → Option (Bool)) : Int → Option (Bool)
 | x1 => (bif (decide (x1 < (v0.length : Int))) then ((ix v0 x1).bind fun u0 => ((ix v1 x1).bind fun u1 => (bif (decide (u0 ≠ u1)) then some false
 else k0 (w64 (x1 + 1)))))
 else some true)
def F_laws_eqInt64S (v0 : List Int) (v1 : List Int) : Option (Bool) :=
 (bif (decide ((v0.length : Int) ≠ (v1.length : Int))) then some false
 else loop (F_laws_eqInt64S_l0 v0 v1) 0)
@[simp] abbrev K5n (v0 : List Int) : V := .sl 1 (v0.map vI)
@[simp] def res_laws_eqInt64S (r : Bool) : RV := .one (.one (.val (.bool r)))
theorem con_laws_eqInt64S {v0 : List Int} {v1 : List Int} {r : Bool} (hF : F_laws_eqInt64S v0 v1 = some r) : Con Tryz.prog 87 [.sl 1 (v0.map vI), .sl 1 (v1.map vI)] (res_laws_eqInt64S r) := by
 unfold F_laws_eqInt64S at hF
 refine con_of c87_.1 fun N => ?_
 refine ws 0 64 (qp (AB false) rfl (r_nil (w_seq (ws 64 384 (qp (.val none (K5n v0)) rfl (qp (AI (v0.length : Int)) (ev_len_n rfl) (qp (AL 1 (v1.map vI)) rfl (qp (AI (v1.length : Int)) (ev_len_n rfl) (qp (AB (decide ((v0.length : Int) ≠ (v1.length : Int)))) rfl (r_nil ?_))))))))))
 refine cF hF (fun hF => ws 384 448 (qp (AB false) rfl (r_nil (w_ret (thenQ_r (eQ hF)))))) fun hF => w_skip (thenQ_n (w_seq (ws 384 448 (qp (AI 0) rfl (r_nil (w_block ?_))))))
 refine wr (l' := [(0, .val none (K5n v0)), (1, AL 1 (v1.map vI)), (5, AI 0)]) (L := []) [0, 1, 5] [] 1 ?_
 refine w_loopF (F_laws_eqInt64S_l0 v0 v1) (fun s : Int => mkS [(0, .val none (K5n v0)), (1, AL 1 (v1.map vI)), (5, AI s)] (fo []) 1) hF ?_
 rintro k0 x1 hF
 rw [F_laws_eqInt64S_l0] at hF
 try dsimp only
 refine w_seq (ws 1 257 (qp (AI x1) rfl (qp (.val none (K5n v0)) rfl (qp (AI (v0.length : Int)) (ev_len_n rfl) (qp (AB (decide (x1 < (v0.length : Int)))) rfl (r_nil ?_))))))
 refine cF hF (fun hF => ?_) fun hF => ?_
 ·
  refine w_skip (thenQ_n (w_seq (w_block (ws 257 833 (qp (.val none (K5n v0)) rfl (qp (AI x1) rfl (bk hF fun u0 e0 hF => qp (.val none (.ptr [.int .i64 u0])) (ev_iad_n rfl rfl e0 rfl) (qp (AI u0) rfl (qp (AL 1 (v1.map vI)) rfl (qp (AI x1) rfl (bk hF fun u1 e1 hF => qp (.val none (.ptr [.int .i64 u1])) (ev_iad_n rfl rfl e1 rfl) (qp (AI u1) rfl (qp (AB (decide (u0 ≠ u1))) rfl (r_nil ?_))))))))))))))
  refine cF hF (fun hF => ws 833 897 (qp (AB false) rfl (r_nil (w_ret (blockQ_r (thenQ_r (thenQ_r (blockQ_r (thenQ_r (eQ hF)))))))))) fun hF => ?_
  refine w_skip (blockQ_n (thenQ_n (w_reg 833 1025 rfl rfl (qp (AI x1) rfl (qp (AI (w64 (x1 + 1))) rfl (qp (AI (w64 (x1 + 1))) rfl (r_nil (thenQ_n ?_))))))))
  refine ar (l' := [(0, .val none (K5n v0)), (1, AL 1 (v1.map vI)), (5, AI (w64 (x1 + 1)))]) (L := []) [0, 1, 5] [] 1 ⟨_, by rfl, hF⟩
 exact w_exit (thenQ_e (thenQ_e (blockQ_e (thenQ_n (ws 257 321 (qp (AB true) rfl (rR hF)))))))

def c40 : MC := (sr [pT 4 (.mv cf)] (.seq (sr [mvt 6 0, zT 7 6, mvt 8 1, zT 9 8, bT 10 .neq t7 t9] (.cond t10 (sr [pT 4 (.mv cf)] .ret) .skip)) (.seq (sr [pT 5 (.mv (ci 0))] (.block 0 (.loop (.seq (sr [mvt 11 5, mvt 12 0, zT 13 12, bT 14 .lss t11 t13] (cx t14 0)) (.seq (.block 1 (sr [mP 17 t0, mP 18 t5, iF 19 17 18 1, lF 20 19, mP 21 t1, mP 22 t5, iF 23 21 22 1, lF 24 23, dF 25 87 [t20, t24], pF 26 (.not t25)] (.cond t26 (sr [pT 4 (.mv cf)] .ret) .skip))) (.reg [mvt 15 5, bT 16 .add t15 (ci 1), mvt 5 16])))))) (sr [pT 4 (.mv ct)] .ret))))
theorem c40_ : IsF Tryz.prog 40 c40 [(.tmp 4)] := ⟨by kernel_rfl, by kernel_rfl⟩

def F_laws_eqInt64SS_l0 (v0 : List (List Int)) (v1 : List (List Int)) (k0 : Int → Option (Bool)) : Int → Option (Bool)
 | x1 => (bif (decide (x1 < (v0.length : Int))) then ((ix v0 x1).bind fun u0 => ((ix v1 x1).bind fun u1 => ((F_laws_eqInt64S u0 u1).bind fun u2 => (bif (!u2) then some false
 else k0 (w64 (x1 + 1))))))
 else some true)
def F_laws_eqInt64SS (v0 : List (List Int)) (v1 : List (List Int)) : Option (Bool) :=
 (bif (decide ((v0.length : Int) ≠ (v1.length : Int))) then some false
 else loop (F_laws_eqInt64SS_l0 v0 v1) 0)
@[simp] abbrev K5o (v0 : List (List Int)) : V := .sl 1 (v0.map (eL 1 vI))
@[simp] abbrev K5p (v1 : List (List Int)) : V := .sl 1 (v1.map (eL 1 vI))
@[simp] def res_laws_eqInt64SS (r : Bool) : RV := .one (.one (.val (.bool r)))
theorem con_laws_eqInt64SS {v0 : List (List Int)} {v1 : List (List Int)} {r : Bool} (hF : F_laws_eqInt64SS v0 v1 = some r) : Con Tryz.prog 40 [.sl 1 (v0.map (eL 1 vI)), .sl 1 (v1.map (eL 1 vI))] (res_laws_eqInt64SS r) := by
 unfold F_laws_eqInt64SS at hF
 refine con_of c40_.1 fun N => ?_
 refine ws 0 64 (qp (AB false) rfl (r_nil (w_seq (ws 64 384 (qp (.val none (K5o v0)) rfl (qp (AI (v0.length : Int)) (ev_len_n rfl) (qp (.val none (K5p v1)) rfl (qp (AI (v1.length : Int)) (ev_len_n rfl) (qp (AB (decide ((v0.length : Int) ≠ (v1.length : Int)))) rfl (r_nil ?_))))))))))
 refine cF hF (fun hF => ws 384 448 (qp (AB false) rfl (r_nil (w_ret (thenQ_r (eQ hF)))))) fun hF => w_skip (thenQ_n (w_seq (ws 384 448 (qp (AI 0) rfl (r_nil (w_block ?_))))))
 refine wr (l' := [(0, .val none (K5o v0)), (1, .val none (K5p v1)), (5, AI 0)]) (L := []) [0, 1, 5] [] 1 ?_
 refine w_loopF (F_laws_eqInt64SS_l0 v0 v1) (fun s : Int => mkS [(0, .val none (K5o v0)), (1, .val none (K5p v1)), (5, AI s)] (fo []) 1) hF ?_
 rintro k0 x1 hF
 rw [F_laws_eqInt64SS_l0] at hF
 try dsimp only
 refine w_seq (ws 1 257 (qp (AI x1) rfl (qp (.val none (K5o v0)) rfl (qp (AI (v0.length : Int)) (ev_len_n rfl) (qp (AB (decide (x1 < (v0.length : Int)))) rfl (r_nil ?_))))))
 refine cF hF (fun hF => ?_) fun hF => ?_
 ·
  refine w_skip (thenQ_n (w_seq (w_block (ws 257 897 (qp (.val none (K5o v0)) rfl (qp (AI x1) rfl (bk hF fun u0 e0 hF => qp (.val none (.ptr [.sl 1 (u0.map vI)])) (ev_iad_n rfl rfl e0 rfl) (qp (AL 1 (u0.map vI)) rfl (qp (.val none (K5p v1)) rfl (qp (AI x1) rfl (bk hF fun u1 e1 hF => qp (.val none (.ptr [.sl 1 (u1.map vI)])) (ev_iad_n rfl rfl e1 rfl) (qp (AL 1 (u1.map vI)) rfl (bk hF fun u2 e2 hF => qC (AB u2) [] (con_laws_eqInt64S e2) c87_ (qp (AB (!u2)) rfl (r_nil ?_)))))))))))))))
  refine cF hF (fun hF => ws 897 961 (qp (AB false) rfl (r_nil (w_ret (blockQ_r (thenQ_r (thenQ_r (blockQ_r (thenQ_r (eQ hF)))))))))) fun hF => ?_
  refine w_skip (blockQ_n (thenQ_n (w_reg 897 1089 rfl rfl (qp (AI x1) rfl (qp (AI (w64 (x1 + 1))) rfl (qp (AI (w64 (x1 + 1))) rfl (r_nil (thenQ_n ?_))))))))
  refine ar (l' := [(0, .val none (K5o v0)), (1, .val none (K5p v1)), (5, AI (w64 (x1 + 1)))]) (L := []) [0, 1, 5] [] 1 ⟨_, by rfl, hF⟩
 exact w_exit (thenQ_e (thenQ_e (blockQ_e (thenQ_n (ws 257 321 (qp (AB true) rfl (rR hF)))))))

def c37 : MC := (sr [rg 2 (.f (.box t0)), rg 3 (.f (.box t1)), pT 4 (.mv cf)] (.seq (sr [pT 5 (.fad t2 0), lT 6 5, pT 7 (.fad t3 0), lT 8 7, bT 9 .neq t6 t8] (.cond t9 (sr [pT 4 (.mv cf)] .ret) .skip)) (.seq (sr [pT 10 (.fad t2 1), lT 11 10, pT 12 (.fad t3 1), lT 13 12, dT 14 87 [t11, t13], pT 15 (.not t14)] (.cond t15 (sr [pT 4 (.mv cf)] .ret) .skip)) (.seq (sr [pT 16 (.fad t2 2), lT 17 16, pT 18 (.fad t3 2), lT 19 18, dT 20 87 [t17, t19], pT 21 (.not t20)] (.cond t21 (sr [pT 4 (.mv cf)] .ret) .skip)) (.seq (sr [pT 22 (.fad t2 3), lT 23 22, pT 24 (.fad t3 3), lT 25 24, bT 26 .neq t23 t25] (.cond t26 (sr [pT 4 (.mv cf)] .ret) .skip)) (.seq (sr [pT 27 (.fad t2 4), lT 28 27, pT 29 (.fad t3 4), lT 30 29, bT 31 .neq t28 t30] (.cond t31 (sr [pT 4 (.mv cf)] .ret) .skip)) (.seq (sr [pT 32 (.fad t2 5), lT 33 32, pT 34 (.fad t3 5), lT 35 34, dT 36 40 [t33, t35], pT 37 (.not t36)] (.cond t37 (sr [pT 4 (.mv cf)] .ret) .skip)) (sr [pT 4 (.mv ct)] .ret))))))))
theorem c37_ : IsF Tryz.prog 37 c37 [(.tmp 4)] := ⟨by kernel_rfl, by kernel_rfl⟩

def F_laws_eqRaga (v0 : TRaga) (v1 : TRaga) : Option (Bool) :=
 (bif (decide (v0.1 ≠ v1.1)) then some false
 else ((F_laws_eqInt64S v0.2.1 v1.2.1).bind fun u0 => (bif (!u0) then some false
 else ((F_laws_eqInt64S v0.2.2.1 v1.2.2.1).bind fun u1 => (bif (!u1) then some false
 else (bif (decide (v0.2.2.2.1 ≠ v1.2.2.2.1)) then some false
 else (bif (decide (v0.2.2.2.2.1 ≠ v1.2.2.2.2.1)) then some false
 else ((F_laws_eqInt64SS v0.2.2.2.2.2 v1.2.2.2.2.2).bind fun u2 => (bif (!u2) then some false
 else some true)))))))))
@[simp] abbrev K5q (v0 : TRaga) : List (Nat × Root) := [(0, .box [AS v0.1, AL 1 (v0.2.1.map vI), AL 1 (v0.2.2.1.map vI), AI v0.2.2.2.1, AI v0.2.2.2.2.1, AL 1 (v0.2.2.2.2.2.map (eL 1 vI))])]
@[simp] abbrev K5r (v1 : TRaga) (v0 : TRaga) : List (Nat × Root) := ((64, .box [AS v1.1, AL 1 (v1.2.1.map vI), AL 1 (v1.2.2.1.map vI), AI v1.2.2.2.1, AI v1.2.2.2.2.1, AL 1 (v1.2.2.2.2.2.map (eL 1 vI))]) :: (K5q v0))
@[simp] def res_laws_eqRaga (r : Bool) : RV := .one (.one (.val (.bool r)))
theorem con_laws_eqRaga {v0 : TRaga} {v1 : TRaga} {r : Bool} (hF : F_laws_eqRaga v0 v1 = some r) : Con Tryz.prog 37 [eRaga v0, eRaga v1] (res_laws_eqRaga r) := by
 unfold F_laws_eqRaga at hF
 refine con_of c37_.1 fun N => ?_
 refine ws 0 192 (qf (.ptr 0 0 0) (K5q v0) (by simp) (qf (.ptr 64 0 0) (K5r v1 v0) (by simp) (qp (AB false) rfl (r_nil (w_seq (ws 192 512 (qp (.ptr 0 0 0) rfl (qp (AS v0.1) rfl (qp (.ptr 64 0 0) rfl (qp (AS v1.1) rfl (qp (AB (decide (v0.1 ≠ v1.1))) rfl (r_nil ?_))))))))))))
 refine cF hF (fun hF => ws 512 576 (qp (AB false) rfl (r_nil (w_ret (thenQ_r (eQ hF)))))) fun hF => w_skip (thenQ_n (w_seq (ws 512 896 (qp (.ptr 0 0 1) rfl (qp (AL 1 (v0.2.1.map vI)) rfl (qp (.ptr 64 0 1) rfl (qp (AL 1 (v1.2.1.map vI)) rfl (bk hF fun u0 e0 hF => qC (AB u0) (K5r v1 v0) (con_laws_eqInt64S e0) c87_ (qp (AB (!u0)) rfl (r_nil ?_))))))))))
 refine cF hF (fun hF => ws 896 960 (qp (AB false) rfl (r_nil (w_ret (thenQ_r (eQ hF)))))) fun hF => w_skip (thenQ_n (w_seq (ws 896 1280 (qp (.ptr 0 0 2) rfl (qp (AL 1 (v0.2.2.1.map vI)) rfl (qp (.ptr 64 0 2) rfl (qp (AL 1 (v1.2.2.1.map vI)) rfl (bk hF fun u1 e1 hF => qC (AB u1) (K5r v1 v0) (con_laws_eqInt64S e1) c87_ (qp (AB (!u1)) rfl (r_nil ?_))))))))))
 refine cF hF (fun hF => ws 1280 1344 (qp (AB false) rfl (r_nil (w_ret (thenQ_r (eQ hF)))))) fun hF => w_skip (thenQ_n (w_seq (ws 1280 1600 (qp (.ptr 0 0 3) rfl (qp (AI v0.2.2.2.1) rfl (qp (.ptr 64 0 3) rfl (qp (AI v1.2.2.2.1) rfl (qp (AB (decide (v0.2.2.2.1 ≠ v1.2.2.2.1))) rfl (r_nil ?_)))))))))
 refine cF hF (fun hF => ws 1600 1664 (qp (AB false) rfl (r_nil (w_ret (thenQ_r (eQ hF)))))) fun hF => w_skip (thenQ_n (w_seq (ws 1600 1920 (qp (.ptr 0 0 4) rfl (qp (AI v0.2.2.2.2.1) rfl (qp (.ptr 64 0 4) rfl (qp (AI v1.2.2.2.2.1) rfl (qp (AB (decide (v0.2.2.2.2.1 ≠ v1.2.2.2.2.1))) rfl (r_nil ?_)))))))))
 refine cF hF (fun hF => ws 1920 1984 (qp (AB false) rfl (r_nil (w_ret (thenQ_r (eQ hF)))))) fun hF => w_skip (thenQ_n (w_seq (ws 1920 2304 (qp (.ptr 0 0 5) rfl (qp (AL 1 (v0.2.2.2.2.2.map (eL 1 vI))) rfl (qp (.ptr 64 0 5) rfl (qp (AL 1 (v1.2.2.2.2.2.map (eL 1 vI))) rfl (bk hF fun u2 e2 hF => qC (AB u2) (K5r v1 v0) (con_laws_eqInt64SS e2) c40_ (qp (AB (!u2)) rfl (r_nil ?_))))))))))
 refine cF hF (fun hF => ws 2304 2368 (qp (AB false) rfl (r_nil (w_ret (thenQ_r (eQ hF)))))) fun hF => ?_
 exact w_skip (thenQ_n (ws 2304 2368 (qp (AB true) rfl (rR hF))))

def c88 : MC := (sr [rg 2 (.f (.box t0)), rg 3 (.f (.box t1)), pT 4 (.mv cf)] (.seq (sr [pT 5 (.fad t2 0), lT 6 5, pT 7 (.fad t3 0), lT 8 7, bT 9 .neq t6 t8] (.cond t9 (sr [pT 4 (.mv cf)] .ret) .skip)) (.seq (sr [pT 10 (.fad t2 1), lT 11 10, pT 12 (.fad t3 1), lT 13 12, bT 14 .neq t11 t13] (.cond t14 (sr [pT 4 (.mv cf)] .ret) .skip)) (sr [pT 4 (.mv ct)] .ret))))
theorem c88_ : IsF Tryz.prog 88 c88 [(.tmp 4)] := ⟨by kernel_rfl, by kernel_rfl⟩

def F_laws_eqNote (v0 : TNote) (v1 : TNote) : Option (Bool) :=
 (bif (decide (v0.1 ≠ v1.1)) then some false
 else (bif (decide (v0.2 ≠ v1.2)) then some false
 else some true))
@[simp] def res_laws_eqNote (r : Bool) : RV := .one (.one (.val (.bool r)))
theorem con_laws_eqNote {v0 : TNote} {v1 : TNote} {r : Bool} (hF : F_laws_eqNote v0 v1 = some r) : Con Tryz.prog 88 [eNote v0, eNote v1] (res_laws_eqNote r) := by
 unfold F_laws_eqNote at hF
 refine con_of c88_.1 fun N => ?_
 refine ws 0 192 (qf (.ptr 0 0 0) [(0, .box [AI v0.1, AI v0.2])] (by simp) (qf (.ptr 64 0 0) [(64, .box [AI v1.1, AI v1.2]), (0, .box [AI v0.1, AI v0.2])] (by simp) (qp (AB false) rfl (r_nil (w_seq (ws 192 512 (qp (.ptr 0 0 0) rfl (qp (AI v0.1) rfl (qp (.ptr 64 0 0) rfl (qp (AI v1.1) rfl (qp (AB (decide (v0.1 ≠ v1.1))) rfl (r_nil ?_))))))))))))
 refine cF hF (fun hF => ws 512 576 (qp (AB false) rfl (r_nil (w_ret (thenQ_r (eQ hF)))))) fun hF => w_skip (thenQ_n (w_seq (ws 512 832 (qp (.ptr 0 0 1) rfl (qp (AI v0.2) rfl (qp (.ptr 64 0 1) rfl (qp (AI v1.2) rfl (qp (AB (decide (v0.2 ≠ v1.2))) rfl (r_nil ?_)))))))))
 refine cF hF (fun hF => ws 832 896 (qp (AB false) rfl (r_nil (w_ret (thenQ_r (eQ hF)))))) fun hF => ?_
 exact w_skip (thenQ_n (ws 832 896 (qp (AB true) rfl (rR hF))))

def c38 : MC := (sr [pT 4 (.mv cf)] (.seq (sr [mvt 6 0, zT 7 6, mvt 8 1, zT 9 8, bT 10 .neq t7 t9] (.cond t10 (sr [pT 4 (.mv cf)] .ret) .skip)) (.seq (sr [pT 5 (.mv (ci 0))] (.block 0 (.loop (.seq (sr [mvt 11 5, mvt 12 0, zT 13 12, bT 14 .lss t11 t13] (cx t14 0)) (.seq (.block 1 (sr [mP 17 t0, mP 18 t5, iF 19 17 18 2, pF 20 (.ld t19 2 true), mP 21 t1, mP 22 t5, iF 23 21 22 2, pF 24 (.ld t23 2 true), dF 25 88 [t20, t24], pF 26 (.not t25)] (.cond t26 (sr [pT 4 (.mv cf)] .ret) .skip))) (.reg [mvt 15 5, bT 16 .add t15 (ci 1), mvt 5 16])))))) (sr [pT 4 (.mv ct)] .ret))))
theorem c38_ : IsF Tryz.prog 38 c38 [(.tmp 4)] := ⟨by kernel_rfl, by kernel_rfl⟩

def F_laws_eqNoteS_l0 (v0 : List TNote) (v1 : List TNote) (k0 : Int → Option (Bool)) : Int → Option (Bool)
 | x1 => (bif (decide (x1 < (v0.length : Int))) then ((ix v0 x1).bind fun u0 => ((ix v1 x1).bind fun u1 => ((F_laws_eqNote u0 u1).bind fun u2 => (bif (!u2) then some false
 else k0 (w64 (x1 + 1))))))
 else some true)
def F_laws_eqNoteS (v0 : List TNote) (v1 : List TNote) : Option (Bool) :=
 (bif (decide ((v0.length : Int) ≠ (v1.length : Int))) then some false
 else loop (F_laws_eqNoteS_l0 v0 v1) 0)
@[simp] def res_laws_eqNoteS (r : Bool) : RV := .one (.one (.val (.bool r)))
theorem con_laws_eqNoteS {v0 : List TNote} {v1 : List TNote} {r : Bool} (hF : F_laws_eqNoteS v0 v1 = some r) : Con Tryz.prog 38 [.sl 2 (v0.map eNote), .sl 2 (v1.map eNote)] (res_laws_eqNoteS r) := by
 unfold F_laws_eqNoteS at hF
 refine con_of c38_.1 fun N => ?_
 refine ws 0 64 (qp (AB false) rfl (r_nil (w_seq (ws 64 384 (qp (AL 2 (v0.map eNote)) rfl (qp (AI (v0.length : Int)) (ev_len_n rfl) (qp (AL 2 (v1.map eNote)) rfl (qp (AI (v1.length : Int)) (ev_len_n rfl) (qp (AB (decide ((v0.length : Int) ≠ (v1.length : Int)))) rfl (r_nil ?_))))))))))
 refine cF hF (fun hF => ws 384 448 (qp (AB false) rfl (r_nil (w_ret (thenQ_r (eQ hF)))))) fun hF => w_skip (thenQ_n (w_seq (ws 384 448 (qp (AI 0) rfl (r_nil (w_block ?_))))))
 refine wr (l' := [(0, AL 2 (v0.map eNote)), (1, AL 2 (v1.map eNote)), (5, AI 0)]) (L := []) [0, 1, 5] [] 1 ?_
 refine w_loopF (F_laws_eqNoteS_l0 v0 v1) (fun s : Int => mkS [(0, AL 2 (v0.map eNote)), (1, AL 2 (v1.map eNote)), (5, AI s)] (fo []) 1) hF ?_
 rintro k0 x1 hF
 rw [F_laws_eqNoteS_l0] at hF
 try dsimp only
 refine w_seq (ws 1 257 (qp (AI x1) rfl (qp (AL 2 (v0.map eNote)) rfl (qp (AI (v0.length : Int)) (ev_len_n rfl) (qp (AB (decide (x1 < (v0.length : Int)))) rfl (r_nil ?_))))))
 refine cF hF (fun hF => ?_) fun hF => ?_
 ·
  refine w_skip (thenQ_n (w_seq (w_block (ws 257 897 (qp (AL 2 (v0.map eNote)) rfl (qp (AI x1) rfl (bk hF fun u0 e0 hF => qp (.val none (.ptr [.int .i64 u0.1, .int .i64 u0.2])) (ev_iad_n rfl rfl e0 rfl) (qp (.val none (eNote u0)) rfl (qp (AL 2 (v1.map eNote)) rfl (qp (AI x1) rfl (bk hF fun u1 e1 hF => qp (.val none (.ptr [.int .i64 u1.1, .int .i64 u1.2])) (ev_iad_n rfl rfl e1 rfl) (qp (.val none (eNote u1)) rfl (bk hF fun u2 e2 hF => qC (AB u2) [] (con_laws_eqNote e2) c88_ (qp (AB (!u2)) rfl (r_nil ?_)))))))))))))))
  refine cF hF (fun hF => ws 897 961 (qp (AB false) rfl (r_nil (w_ret (blockQ_r (thenQ_r (thenQ_r (blockQ_r (thenQ_r (eQ hF)))))))))) fun hF => ?_
  refine w_skip (blockQ_n (thenQ_n (w_reg 897 1089 rfl rfl (qp (AI x1) rfl (qp (AI (w64 (x1 + 1))) rfl (qp (AI (w64 (x1 + 1))) rfl (r_nil (thenQ_n ?_))))))))
  refine ar (l' := [(0, AL 2 (v0.map eNote)), (1, AL 2 (v1.map eNote)), (5, AI (w64 (x1 + 1)))]) (L := []) [0, 1, 5] [] 1 ⟨_, by rfl, hF⟩
 exact w_exit (thenQ_e (thenQ_e (blockQ_e (thenQ_n (ws 257 321 (qp (AB true) rfl (rR hF)))))))

def c130 : MC := (sr [rg 2 (.f (.box t0)), rg 3 (.f (.box t1)), pT 4 (.mv cf)] (.seq (sr [pT 5 (.fad t2 0), lT 6 5, pT 7 (.fad t3 0), lT 8 7, bT 9 .neq t6 t8] (.cond t9 (sr [pT 4 (.mv cf)] .ret) .skip)) (.seq (sr [pT 10 (.fad t2 1), lT 11 10, pT 12 (.fad t3 1), lT 13 12, bT 14 .neq t11 t13] (.cond t14 (sr [pT 4 (.mv cf)] .ret) .skip)) (sr [pT 4 (.mv ct)] .ret))))
theorem c130_ : IsF Tryz.prog 130 c130 [(.tmp 4)] := ⟨by kernel_rfl, by kernel_rfl⟩

def F_laws_eqRatio (v0 : TNote) (v1 : TNote) : Option (Bool) :=
 (bif (decide (v0.1 ≠ v1.1)) then some false
 else (bif (decide (v0.2 ≠ v1.2)) then some false
 else some true))
@[simp] def res_laws_eqRatio (r : Bool) : RV := .one (.one (.val (.bool r)))
theorem con_laws_eqRatio {v0 : TNote} {v1 : TNote} {r : Bool} (hF : F_laws_eqRatio v0 v1 = some r) : Con Tryz.prog 130 [eNote v0, eNote v1] (res_laws_eqRatio r) := by
 unfold F_laws_eqRatio at hF
 refine con_of c130_.1 fun N => ?_
 refine ws 0 192 (qf (.ptr 0 0 0) [(0, .box [AI v0.1, AI v0.2])] (by simp) (qf (.ptr 64 0 0) [(64, .box [AI v1.1, AI v1.2]), (0, .box [AI v0.1, AI v0.2])] (by simp) (qp (AB false) rfl (r_nil (w_seq (ws 192 512 (qp (.ptr 0 0 0) rfl (qp (AI v0.1) rfl (qp (.ptr 64 0 0) rfl (qp (AI v1.1) rfl (qp (AB (decide (v0.1 ≠ v1.1))) rfl (r_nil ?_))))))))))))
 refine cF hF (fun hF => ws 512 576 (qp (AB false) rfl (r_nil (w_ret (thenQ_r (eQ hF)))))) fun hF => w_skip (thenQ_n (w_seq (ws 512 832 (qp (.ptr 0 0 1) rfl (qp (AI v0.2) rfl (qp (.ptr 64 0 1) rfl (qp (AI v1.2) rfl (qp (AB (decide (v0.2 ≠ v1.2))) rfl (r_nil ?_)))))))))
 refine cF hF (fun hF => ws 832 896 (qp (AB false) rfl (r_nil (w_ret (thenQ_r (eQ hF)))))) fun hF => ?_
 exact w_skip (thenQ_n (ws 832 896 (qp (AB true) rfl (rR hF))))

def c89 : MC := (sr [pT 4 (.mv cf)] (.seq (sr [mvt 6 0, zT 7 6, mvt 8 1, zT 9 8, bT 10 .neq t7 t9] (.cond t10 (sr [pT 4 (.mv cf)] .ret) .skip)) (.seq (sr [pT 5 (.mv (ci 0))] (.block 0 (.loop (.seq (sr [mvt 11 5, mvt 12 0, zT 13 12, bT 14 .lss t11 t13] (cx t14 0)) (.seq (.block 1 (sr [mP 17 t0, mP 18 t5, iF 19 17 18 2, pF 20 (.ld t19 2 true), mP 21 t1, mP 22 t5, iF 23 21 22 2, pF 24 (.ld t23 2 true), dF 25 130 [t20, t24], pF 26 (.not t25)] (.cond t26 (sr [pT 4 (.mv cf)] .ret) .skip))) (.reg [mvt 15 5, bT 16 .add t15 (ci 1), mvt 5 16])))))) (sr [pT 4 (.mv ct)] .ret))))
theorem c89_ : IsF Tryz.prog 89 c89 [(.tmp 4)] := ⟨by kernel_rfl, by kernel_rfl⟩

def F_laws_eqRatioS_l0 (v0 : List TNote) (v1 : List TNote) (k0 : Int → Option (Bool)) : Int → Option (Bool)
 | x1 => (bif (decide (x1 < (v0.length : Int))) then ((ix v0 x1).bind fun u0 => ((ix v1 x1).bind fun u1 => ((F_laws_eqRatio u0 u1).bind fun u2 => (bif (!u2) then some false
 else k0 (w64 (x1 + 1))))))
 else some true)
def F_laws_eqRatioS (v0 : List TNote) (v1 : List TNote) : Option (Bool) :=
 (bif (decide ((v0.length : Int) ≠ (v1.length : Int))) then some false
 else loop (F_laws_eqRatioS_l0 v0 v1) 0)
@[simp] def res_laws_eqRatioS (r : Bool) : RV := .one (.one (.val (.bool r)))
theorem con_laws_eqRatioS {v0 : List TNote} {v1 : List TNote} {r : Bool} (hF : F_laws_eqRatioS v0 v1 = some r) : Con Tryz.prog 89 [.sl 2 (v0.map eNote), .sl 2 (v1.map eNote)] (res_laws_eqRatioS r) := by
 unfold F_laws_eqRatioS at hF
 refine con_of c89_.1 fun N => ?_
 refine ws 0 64 (qp (AB false) rfl (r_nil (w_seq (ws 64 384 (qp (AL 2 (v0.map eNote)) rfl (qp (AI (v0.length : Int)) (ev_len_n rfl) (qp (AL 2 (v1.map eNote)) rfl (qp (AI (v1.length : Int)) (ev_len_n rfl) (qp (AB (decide ((v0.length : Int) ≠ (v1.length : Int)))) rfl (r_nil ?_))))))))))
 refine cF hF (fun hF => ws 384 448 (qp (AB false) rfl (r_nil (w_ret (thenQ_r (eQ hF)))))) fun hF => w_skip (thenQ_n (w_seq (ws 384 448 (qp (AI 0) rfl (r_nil (w_block ?_))))))
 refine wr (l' := [(0, AL 2 (v0.map eNote)), (1, AL 2 (v1.map eNote)), (5, AI 0)]) (L := []) [0, 1, 5] [] 1 ?_
 refine w_loopF (F_laws_eqRatioS_l0 v0 v1) (fun s : Int => mkS [(0, AL 2 (v0.map eNote)), (1, AL 2 (v1.map eNote)), (5, AI s)] (fo []) 1) hF ?_
 rintro k0 x1 hF
 rw [F_laws_eqRatioS_l0] at hF
 try dsimp only
 refine w_seq (ws 1 257 (qp (AI x1) rfl (qp (AL 2 (v0.map eNote)) rfl (qp (AI (v0.length : Int)) (ev_len_n rfl) (qp (AB (decide (x1 < (v0.length : Int)))) rfl (r_nil ?_))))))
 refine cF hF (fun hF => ?_) fun hF => ?_
 ·
  refine w_skip (thenQ_n (w_seq (w_block (ws 257 897 (qp (AL 2 (v0.map eNote)) rfl (qp (AI x1) rfl (bk hF fun u0 e0 hF => qp (.val none (.ptr [.int .i64 u0.1, .int .i64 u0.2])) (ev_iad_n rfl rfl e0 rfl) (qp (.val none (eNote u0)) rfl (qp (AL 2 (v1.map eNote)) rfl (qp (AI x1) rfl (bk hF fun u1 e1 hF => qp (.val none (.ptr [.int .i64 u1.1, .int .i64 u1.2])) (ev_iad_n rfl rfl e1 rfl) (qp (.val none (eNote u1)) rfl (bk hF fun u2 e2 hF => qC (AB u2) [] (con_laws_eqRatio e2) c130_ (qp (AB (!u2)) rfl (r_nil ?_)))))))))))))))
  refine cF hF (fun hF => ws 897 961 (qp (AB false) rfl (r_nil (w_ret (blockQ_r (thenQ_r (thenQ_r (blockQ_r (thenQ_r (eQ hF)))))))))) fun hF => ?_
  refine w_skip (blockQ_n (thenQ_n (w_reg 897 1089 rfl rfl (qp (AI x1) rfl (qp (AI (w64 (x1 + 1))) rfl (qp (AI (w64 (x1 + 1))) rfl (r_nil (thenQ_n ?_))))))))
  refine ar (l' := [(0, AL 2 (v0.map eNote)), (1, AL 2 (v1.map eNote)), (5, AI (w64 (x1 + 1)))]) (L := []) [0, 1, 5] [] 1 ⟨_, by rfl, hF⟩
 exact w_exit (thenQ_e (thenQ_e (blockQ_e (thenQ_n (ws 257 321 (qp (AB true) rfl (rR hF)))))))

def c39 : MC := (sr [rg 2 (.f (.box t0)), rg 3 (.f (.box t1)), pT 4 (.mv cf)] (.seq (sr [pT 5 (.fad t2 0), lT 6 5, pT 7 (.fad t3 0), lT 8 7, bT 9 .neq t6 t8] (.cond t9 (sr [pT 4 (.mv cf)] .ret) .skip)) (.seq (sr [pT 10 (.fad t2 1), lT 11 10, pT 12 (.fad t3 1), lT 13 12, dT 14 89 [t11, t13], pT 15 (.not t14)] (.cond t15 (sr [pT 4 (.mv cf)] .ret) .skip)) (sr [pT 4 (.mv ct)] .ret))))
theorem c39_ : IsF Tryz.prog 39 c39 [(.tmp 4)] := ⟨by kernel_rfl, by kernel_rfl⟩

def F_laws_eqTuning (v0 : TTuning) (v1 : TTuning) : Option (Bool) :=
 (bif (decide (v0.1 ≠ v1.1)) then some false
 else ((F_laws_eqRatioS v0.2 v1.2).bind fun u0 => (bif (!u0) then some false
 else some true)))
@[simp] abbrev K5s (v0 : TTuning) : List (Nat × Root) := [(0, .box [AS v0.1, AL 2 (v0.2.map eNote)])]
@[simp] abbrev K5t (v1 : TTuning) (v0 : TTuning) : List (Nat × Root) := ((64, .box [AS v1.1, AL 2 (v1.2.map eNote)]) :: (K5s v0))
@[simp] def res_laws_eqTuning (r : Bool) : RV := .one (.one (.val (.bool r)))
theorem con_laws_eqTuning {v0 : TTuning} {v1 : TTuning} {r : Bool} (hF : F_laws_eqTuning v0 v1 = some r) : Con Tryz.prog 39 [eTuning v0, eTuning v1] (res_laws_eqTuning r) := by
 unfold F_laws_eqTuning at hF
 refine con_of c39_.1 fun N => ?_
 refine ws 0 192 (qf (.ptr 0 0 0) (K5s v0) (by simp) (qf (.ptr 64 0 0) (K5t v1 v0) (by simp) (qp (AB false) rfl (r_nil (w_seq (ws 192 512 (qp (.ptr 0 0 0) rfl (qp (AS v0.1) rfl (qp (.ptr 64 0 0) rfl (qp (AS v1.1) rfl (qp (AB (decide (v0.1 ≠ v1.1))) rfl (r_nil ?_))))))))))))
 refine cF hF (fun hF => ws 512 576 (qp (AB false) rfl (r_nil (w_ret (thenQ_r (eQ hF)))))) fun hF => w_skip (thenQ_n (w_seq (ws 512 896 (qp (.ptr 0 0 1) rfl (qp (AL 2 (v0.2.map eNote)) rfl (qp (.ptr 64 0 1) rfl (qp (AL 2 (v1.2.map eNote)) rfl (bk hF fun u0 e0 hF => qC (AB u0) (K5t v1 v0) (con_laws_eqRatioS e0) c89_ (qp (AB (!u0)) rfl (r_nil ?_))))))))))
 refine cF hF (fun hF => ws 896 960 (qp (AB false) rfl (r_nil (w_ret (thenQ_r (eQ hF)))))) fun hF => ?_
 exact w_skip (thenQ_n (ws 896 960 (qp (AB true) rfl (rR hF))))

def c90 : MC := (sr [rg 2 (.f (.box t0)), rg 3 (.f (.box t1)), pT 4 (.mv cf)] (.seq (sr [pT 5 (.fad t2 0), lT 6 5, pT 7 (.fad t3 0), lT 8 7, bT 9 .neq t6 t8] (.cond t9 (sr [pT 4 (.mv cf)] .ret) .skip)) (.seq (sr [pT 10 (.fad t2 1), lT 11 10, pT 12 (.fad t3 1), lT 13 12, bT 14 .neq t11 t13] (.cond t14 (sr [pT 4 (.mv cf)] .ret) .skip)) (.seq (sr [pT 15 (.fad t2 2), lT 16 15, pT 17 (.fad t3 2), lT 18 17, bT 19 .neq t16 t18] (.cond t19 (sr [pT 4 (.mv cf)] .ret) .skip)) (sr [pT 4 (.mv ct)] .ret)))))
theorem c90_ : IsF Tryz.prog 90 c90 [(.tmp 4)] := ⟨by kernel_rfl, by kernel_rfl⟩

def F_laws_eqSyllable (v0 : TSyllable) (v1 : TSyllable) : Option (Bool) :=
 (bif (decide (v0.1 ≠ v1.1)) then some false
 else (bif (decide (v0.2.1 ≠ v1.2.1)) then some false
 else (bif (decide (v0.2.2 ≠ v1.2.2)) then some false
 else some true)))
@[simp] def res_laws_eqSyllable (r : Bool) : RV := .one (.one (.val (.bool r)))
theorem con_laws_eqSyllable {v0 : TSyllable} {v1 : TSyllable} {r : Bool} (hF : F_laws_eqSyllable v0 v1 = some r) : Con Tryz.prog 90 [eSyllable v0, eSyllable v1] (res_laws_eqSyllable r) := by
 unfold F_laws_eqSyllable at hF
 refine con_of c90_.1 fun N => ?_
 refine ws 0 192 (qf (.ptr 0 0 0) [(0, .box [AS v0.1, AI v0.2.1, AI v0.2.2])] (by simp) (qf (.ptr 64 0 0) [(64, .box [AS v1.1, AI v1.2.1, AI v1.2.2]), (0, .box [AS v0.1, AI v0.2.1, AI v0.2.2])] (by simp) (qp (AB false) rfl (r_nil (w_seq (ws 192 512 (qp (.ptr 0 0 0) rfl (qp (AS v0.1) rfl (qp (.ptr 64 0 0) rfl (qp (AS v1.1) rfl (qp (AB (decide (v0.1 ≠ v1.1))) rfl (r_nil ?_))))))))))))
 refine cF hF (fun hF => ws 512 576 (qp (AB false) rfl (r_nil (w_ret (thenQ_r (eQ hF)))))) fun hF => w_skip (thenQ_n (w_seq (ws 512 832 (qp (.ptr 0 0 1) rfl (qp (AI v0.2.1) rfl (qp (.ptr 64 0 1) rfl (qp (AI v1.2.1) rfl (qp (AB (decide (v0.2.1 ≠ v1.2.1))) rfl (r_nil ?_)))))))))
 refine cF hF (fun hF => ws 832 896 (qp (AB false) rfl (r_nil (w_ret (thenQ_r (eQ hF)))))) fun hF => w_skip (thenQ_n (w_seq (ws 832 1152 (qp (.ptr 0 0 2) rfl (qp (AI v0.2.2) rfl (qp (.ptr 64 0 2) rfl (qp (AI v1.2.2) rfl (qp (AB (decide (v0.2.2 ≠ v1.2.2))) rfl (r_nil ?_)))))))))
 refine cF hF (fun hF => ws 1152 1216 (qp (AB false) rfl (r_nil (w_ret (thenQ_r (eQ hF)))))) fun hF => ?_
 exact w_skip (thenQ_n (ws 1152 1216 (qp (AB true) rfl (rR hF))))

def c41 : MC := (sr [pT 4 (.mv cf)] (.seq (sr [mvt 6 0, zT 7 6, mvt 8 1, zT 9 8, bT 10 .neq t7 t9] (.cond t10 (sr [pT 4 (.mv cf)] .ret) .skip)) (.seq (sr [pT 5 (.mv (ci 0))] (.block 0 (.loop (.seq (sr [mvt 11 5, mvt 12 0, zT 13 12, bT 14 .lss t11 t13] (cx t14 0)) (.seq (.block 1 (sr [mP 17 t0, mP 18 t5, iF 19 17 18 3, pF 20 (.ld t19 3 true), mP 21 t1, mP 22 t5, iF 23 21 22 3, pF 24 (.ld t23 3 true), dF 25 90 [t20, t24], pF 26 (.not t25)] (.cond t26 (sr [pT 4 (.mv cf)] .ret) .skip))) (.reg [mvt 15 5, bT 16 .add t15 (ci 1), mvt 5 16])))))) (sr [pT 4 (.mv ct)] .ret))))
theorem c41_ : IsF Tryz.prog 41 c41 [(.tmp 4)] := ⟨by kernel_rfl, by kernel_rfl⟩

def F_laws_eqSyllableS_l0 (v0 : List TSyllable) (v1 : List TSyllable) (k0 : Int → Option (Bool)) : Int → Option (Bool)
 | x1 => (bif (decide (x1 < (v0.length : Int))) then ((ix v0 x1).bind fun u0 => ((ix v1 x1).bind fun u1 => ((F_laws_eqSyllable u0 u1).bind fun u2 => (bif (!u2) then some false
 else k0 (w64 (x1 + 1))))))
 else some true)
def F_laws_eqSyllableS (v0 : List TSyllable) (v1 : List TSyllable) : Option (Bool) :=
 (bif (decide ((v0.length : Int) ≠ (v1.length : Int))) then some false
 else loop (F_laws_eqSyllableS_l0 v0 v1) 0)
@[simp] def res_laws_eqSyllableS (r : Bool) : RV := .one (.one (.val (.bool r)))
theorem con_laws_eqSyllableS {v0 : List TSyllable} {v1 : List TSyllable} {r : Bool} (hF : F_laws_eqSyllableS v0 v1 = some r) : Con Tryz.prog 41 [.sl 3 (v0.map eSyllable), .sl 3 (v1.map eSyllable)] (res_laws_eqSyllableS r) := by
 unfold F_laws_eqSyllableS at hF
 refine con_of c41_.1 fun N => ?_
 refine ws 0 64 (qp (AB false) rfl (r_nil (w_seq (ws 64 384 (qp (AL 3 (v0.map eSyllable)) rfl (qp (AI (v0.length : Int)) (ev_len_n rfl) (qp (AL 3 (v1.map eSyllable)) rfl (qp (AI (v1.length : Int)) (ev_len_n rfl) (qp (AB (decide ((v0.length : Int) ≠ (v1.length : Int)))) rfl (r_nil ?_))))))))))
 refine cF hF (fun hF => ws 384 448 (qp (AB false) rfl (r_nil (w_ret (thenQ_r (eQ hF)))))) fun hF => w_skip (thenQ_n (w_seq (ws 384 448 (qp (AI 0) rfl (r_nil (w_block ?_))))))
 refine wr (l' := [(0, AL 3 (v0.map eSyllable)), (1, AL 3 (v1.map eSyllable)), (5, AI 0)]) (L := []) [0, 1, 5] [] 1 ?_
 refine w_loopF (F_laws_eqSyllableS_l0 v0 v1) (fun s : Int => mkS [(0, AL 3 (v0.map eSyllable)), (1, AL 3 (v1.map eSyllable)), (5, AI s)] (fo []) 1) hF ?_
 rintro k0 x1 hF
 rw [F_laws_eqSyllableS_l0] at hF
 try dsimp only
 refine w_seq (ws 1 257 (qp (AI x1) rfl (qp (AL 3 (v0.map eSyllable)) rfl (qp (AI (v0.length : Int)) (ev_len_n rfl) (qp (AB (decide (x1 < (v0.length : Int)))) rfl (r_nil ?_))))))
 refine cF hF (fun hF => ?_) fun hF => ?_
 ·
  refine w_skip (thenQ_n (w_seq (w_block (ws 257 897 (qp (AL 3 (v0.map eSyllable)) rfl (qp (AI x1) rfl (bk hF fun u0 e0 hF => qp (.val none (.ptr [.str u0.1, .int .i64 u0.2.1, .int .i64 u0.2.2])) (ev_iad_n rfl rfl e0 rfl) (qp (.val none (eSyllable u0)) rfl (qp (AL 3 (v1.map eSyllable)) rfl (qp (AI x1) rfl (bk hF fun u1 e1 hF => qp (.val none (.ptr [.str u1.1, .int .i64 u1.2.1, .int .i64 u1.2.2])) (ev_iad_n rfl rfl e1 rfl) (qp (.val none (eSyllable u1)) rfl (bk hF fun u2 e2 hF => qC (AB u2) [] (con_laws_eqSyllable e2) c90_ (qp (AB (!u2)) rfl (r_nil ?_)))))))))))))))
  refine cF hF (fun hF => ws 897 961 (qp (AB false) rfl (r_nil (w_ret (blockQ_r (thenQ_r (thenQ_r (blockQ_r (thenQ_r (eQ hF)))))))))) fun hF => ?_
  refine w_skip (blockQ_n (thenQ_n (w_reg 897 1089 rfl rfl (qp (AI x1) rfl (qp (AI (w64 (x1 + 1))) rfl (qp (AI (w64 (x1 + 1))) rfl (r_nil (thenQ_n ?_))))))))
  refine ar (l' := [(0, AL 3 (v0.map eSyllable)), (1, AL 3 (v1.map eSyllable)), (5, AI (w64 (x1 + 1)))]) (L := []) [0, 1, 5] [] 1 ⟨_, by rfl, hF⟩
 exact w_exit (thenQ_e (thenQ_e (blockQ_e (thenQ_n (ws 257 321 (qp (AB true) rfl (rR hF)))))))

def c91 : MC := (sr [rg 2 (.f (.box t0)), rg 3 (.f (.box t1)), pT 4 (.mv cf)] (.seq (sr [pT 5 (.fad t2 0), lT 6 5, pT 7 (.fad t3 0), lT 8 7, bT 9 .neq t6 t8] (.cond t9 (sr [pT 4 (.mv cf)] .ret) .skip)) (.seq (sr [pT 10 (.fad t2 1), lT 11 10, pT 12 (.fad t3 1), lT 13 12, bT 14 .neq t11 t13] (.cond t14 (sr [pT 4 (.mv cf)] .ret) .skip)) (sr [pT 4 (.mv ct)] .ret))))
theorem c91_ : IsF Tryz.prog 91 c91 [(.tmp 4)] := ⟨by kernel_rfl, by kernel_rfl⟩

def F_laws_eqTempoMark (v0 : TNote) (v1 : TNote) : Option (Bool) :=
 (bif (decide (v0.1 ≠ v1.1)) then some false
 else (bif (decide (v0.2 ≠ v1.2)) then some false
 else some true))
@[simp] def res_laws_eqTempoMark (r : Bool) : RV := .one (.one (.val (.bool r)))
theorem con_laws_eqTempoMark {v0 : TNote} {v1 : TNote} {r : Bool} (hF : F_laws_eqTempoMark v0 v1 = some r) : Con Tryz.prog 91 [eNote v0, eNote v1] (res_laws_eqTempoMark r) := by
 unfold F_laws_eqTempoMark at hF
 refine con_of c91_.1 fun N => ?_
 refine ws 0 192 (qf (.ptr 0 0 0) [(0, .box [AI v0.1, AI v0.2])] (by simp) (qf (.ptr 64 0 0) [(64, .box [AI v1.1, AI v1.2]), (0, .box [AI v0.1, AI v0.2])] (by simp) (qp (AB false) rfl (r_nil (w_seq (ws 192 512 (qp (.ptr 0 0 0) rfl (qp (AI v0.1) rfl (qp (.ptr 64 0 0) rfl (qp (AI v1.1) rfl (qp (AB (decide (v0.1 ≠ v1.1))) rfl (r_nil ?_))))))))))))
 refine cF hF (fun hF => ws 512 576 (qp (AB false) rfl (r_nil (w_ret (thenQ_r (eQ hF)))))) fun hF => w_skip (thenQ_n (w_seq (ws 512 832 (qp (.ptr 0 0 1) rfl (qp (AI v0.2) rfl (qp (.ptr 64 0 1) rfl (qp (AI v1.2) rfl (qp (AB (decide (v0.2 ≠ v1.2))) rfl (r_nil ?_)))))))))
 refine cF hF (fun hF => ws 832 896 (qp (AB false) rfl (r_nil (w_ret (thenQ_r (eQ hF)))))) fun hF => ?_
 exact w_skip (thenQ_n (ws 832 896 (qp (AB true) rfl (rR hF))))

def c42 : MC := (sr [pT 4 (.mv cf)] (.seq (sr [mvt 6 0, zT 7 6, mvt 8 1, zT 9 8, bT 10 .neq t7 t9] (.cond t10 (sr [pT 4 (.mv cf)] .ret) .skip)) (.seq (sr [pT 5 (.mv (ci 0))] (.block 0 (.loop (.seq (sr [mvt 11 5, mvt 12 0, zT 13 12, bT 14 .lss t11 t13] (cx t14 0)) (.seq (.block 1 (sr [mP 17 t0, mP 18 t5, iF 19 17 18 2, pF 20 (.ld t19 2 true), mP 21 t1, mP 22 t5, iF 23 21 22 2, pF 24 (.ld t23 2 true), dF 25 91 [t20, t24], pF 26 (.not t25)] (.cond t26 (sr [pT 4 (.mv cf)] .ret) .skip))) (.reg [mvt 15 5, bT 16 .add t15 (ci 1), mvt 5 16])))))) (sr [pT 4 (.mv ct)] .ret))))
theorem c42_ : IsF Tryz.prog 42 c42 [(.tmp 4)] := ⟨by kernel_rfl, by kernel_rfl⟩

def F_laws_eqTempoMarkS_l0 (v0 : List TNote) (v1 : List TNote) (k0 : Int → Option (Bool)) : Int → Option (Bool)
 | x1 => (bif (decide (x1 < (v0.length : Int))) then ((ix v0 x1).bind fun u0 => ((ix v1 x1).bind fun u1 => ((F_laws_eqTempoMark u0 u1).bind fun u2 => (bif (!u2) then some false
 else k0 (w64 (x1 + 1))))))
 else some true)
def F_laws_eqTempoMarkS (v0 : List TNote) (v1 : List TNote) : Option (Bool) :=
 (bif (decide ((v0.length : Int) ≠ (v1.length : Int))) then some false
 else loop (F_laws_eqTempoMarkS_l0 v0 v1) 0)
@[simp] def res_laws_eqTempoMarkS (r : Bool) : RV := .one (.one (.val (.bool r)))
theorem con_laws_eqTempoMarkS {v0 : List TNote} {v1 : List TNote} {r : Bool} (hF : F_laws_eqTempoMarkS v0 v1 = some r) : Con Tryz.prog 42 [.sl 2 (v0.map eNote), .sl 2 (v1.map eNote)] (res_laws_eqTempoMarkS r) := by
 unfold F_laws_eqTempoMarkS at hF
 refine con_of c42_.1 fun N => ?_
 refine ws 0 64 (qp (AB false) rfl (r_nil (w_seq (ws 64 384 (qp (AL 2 (v0.map eNote)) rfl (qp (AI (v0.length : Int)) (ev_len_n rfl) (qp (AL 2 (v1.map eNote)) rfl (qp (AI (v1.length : Int)) (ev_len_n rfl) (qp (AB (decide ((v0.length : Int) ≠ (v1.length : Int)))) rfl (r_nil ?_))))))))))
 refine cF hF (fun hF => ws 384 448 (qp (AB false) rfl (r_nil (w_ret (thenQ_r (eQ hF)))))) fun hF => w_skip (thenQ_n (w_seq (ws 384 448 (qp (AI 0) rfl (r_nil (w_block ?_))))))
 refine wr (l' := [(0, AL 2 (v0.map eNote)), (1, AL 2 (v1.map eNote)), (5, AI 0)]) (L := []) [0, 1, 5] [] 1 ?_
 refine w_loopF (F_laws_eqTempoMarkS_l0 v0 v1) (fun s : Int => mkS [(0, AL 2 (v0.map eNote)), (1, AL 2 (v1.map eNote)), (5, AI s)] (fo []) 1) hF ?_
 rintro k0 x1 hF
 rw [F_laws_eqTempoMarkS_l0] at hF
 try dsimp only
 refine w_seq (ws 1 257 (qp (AI x1) rfl (qp (AL 2 (v0.map eNote)) rfl (qp (AI (v0.length : Int)) (ev_len_n rfl) (qp (AB (decide (x1 < (v0.length : Int)))) rfl (r_nil ?_))))))
 refine cF hF (fun hF => ?_) fun hF => ?_
 ·
  refine w_skip (thenQ_n (w_seq (w_block (ws 257 897 (qp (AL 2 (v0.map eNote)) rfl (qp (AI x1) rfl (bk hF fun u0 e0 hF => qp (.val none (.ptr [.int .i64 u0.1, .int .i64 u0.2])) (ev_iad_n rfl rfl e0 rfl) (qp (.val none (eNote u0)) rfl (qp (AL 2 (v1.map eNote)) rfl (qp (AI x1) rfl (bk hF fun u1 e1 hF => qp (.val none (.ptr [.int .i64 u1.1, .int .i64 u1.2])) (ev_iad_n rfl rfl e1 rfl) (qp (.val none (eNote u1)) rfl (bk hF fun u2 e2 hF => qC (AB u2) [] (con_laws_eqTempoMark e2) c91_ (qp (AB (!u2)) rfl (r_nil ?_)))))))))))))))
  refine cF hF (fun hF => ws 897 961 (qp (AB false) rfl (r_nil (w_ret (blockQ_r (thenQ_r (thenQ_r (blockQ_r (thenQ_r (eQ hF)))))))))) fun hF => ?_
  refine w_skip (blockQ_n (thenQ_n (w_reg 897 1089 rfl rfl (qp (AI x1) rfl (qp (AI (w64 (x1 + 1))) rfl (qp (AI (w64 (x1 + 1))) rfl (r_nil (thenQ_n ?_))))))))
  refine ar (l' := [(0, AL 2 (v0.map eNote)), (1, AL 2 (v1.map eNote)), (5, AI (w64 (x1 + 1)))]) (L := []) [0, 1, 5] [] 1 ⟨_, by rfl, hF⟩
 exact w_exit (thenQ_e (thenQ_e (blockQ_e (thenQ_n (ws 257 321 (qp (AB true) rfl (rR hF)))))))

def c92 : MC := (sr [rg 2 (.f (.box t0)), rg 3 (.f (.box t1)), pT 4 (.mv cf)] (.seq (sr [pT 5 (.fad t2 0), lT 6 5, pT 7 (.fad t3 0), lT 8 7, bT 9 .neq t6 t8] (.cond t9 (sr [pT 4 (.mv cf)] .ret) .skip)) (.seq (sr [pT 10 (.fad t2 1), lT 11 10, pT 12 (.fad t3 1), lT 13 12, bT 14 .neq t11 t13] (.cond t14 (sr [pT 4 (.mv cf)] .ret) .skip)) (.seq (sr [pT 15 (.fad t2 2), lT 16 15, pT 17 (.fad t3 2), lT 18 17, bT 19 .neq t16 t18] (.cond t19 (sr [pT 4 (.mv cf)] .ret) .skip)) (.seq (sr [pT 20 (.fad t2 3), lT 21 20, pT 22 (.fad t3 3), lT 23 22, bT 24 .neq t21 t23] (.cond t24 (sr [pT 4 (.mv cf)] .ret) .skip)) (.seq (sr [pT 25 (.fad t2 4), lT 26 25, pT 27 (.fad t3 4), lT 28 27, bT 29 .neq t26 t28] (.cond t29 (sr [pT 4 (.mv cf)] .ret) .skip)) (.seq (sr [pT 30 (.fad t2 5), lT 31 30, pT 32 (.fad t3 5), lT 33 32, bT 34 .neq t31 t33] (.cond t34 (sr [pT 4 (.mv cf)] .ret) .skip)) (sr [pT 4 (.mv ct)] .ret))))))))
theorem c92_ : IsF Tryz.prog 92 c92 [(.tmp 4)] := ⟨by kernel_rfl, by kernel_rfl⟩

def F_laws_eqItem (v0 : TItem) (v1 : TItem) : Option (Bool) :=
 (bif (decide (v0.1 ≠ v1.1)) then some false
 else (bif (decide (v0.2.1 ≠ v1.2.1)) then some false
 else (bif (decide (v0.2.2.1 ≠ v1.2.2.1)) then some false
 else (bif (decide (v0.2.2.2.1 ≠ v1.2.2.2.1)) then some false
 else (bif (decide (v0.2.2.2.2.1 ≠ v1.2.2.2.2.1)) then some false
 else (bif (decide (v0.2.2.2.2.2 ≠ v1.2.2.2.2.2)) then some false
 else some true))))))
@[simp] abbrev K5u (v0 : TItem) : List (Nat × Root) := [(0, .box [AS v0.1, AI v0.2.1, AI v0.2.2.1, AI v0.2.2.2.1, AI v0.2.2.2.2.1, AI v0.2.2.2.2.2])]
@[simp] def res_laws_eqItem (r : Bool) : RV := .one (.one (.val (.bool r)))
theorem con_laws_eqItem {v0 : TItem} {v1 : TItem} {r : Bool} (hF : F_laws_eqItem v0 v1 = some r) : Con Tryz.prog 92 [eItem v0, eItem v1] (res_laws_eqItem r) := by
 unfold F_laws_eqItem at hF
 refine con_of c92_.1 fun N => ?_
 refine ws 0 192 (qf (.ptr 0 0 0) (K5u v0) (by simp) (qf (.ptr 64 0 0) ((64, .box [AS v1.1, AI v1.2.1, AI v1.2.2.1, AI v1.2.2.2.1, AI v1.2.2.2.2.1, AI v1.2.2.2.2.2]) :: (K5u v0)) (by simp) (qp (AB false) rfl (r_nil (w_seq (ws 192 512 (qp (.ptr 0 0 0) rfl (qp (AS v0.1) rfl (qp (.ptr 64 0 0) rfl (qp (AS v1.1) rfl (qp (AB (decide (v0.1 ≠ v1.1))) rfl (r_nil ?_))))))))))))
 refine cF hF (fun hF => ws 512 576 (qp (AB false) rfl (r_nil (w_ret (thenQ_r (eQ hF)))))) fun hF => w_skip (thenQ_n (w_seq (ws 512 832 (qp (.ptr 0 0 1) rfl (qp (AI v0.2.1) rfl (qp (.ptr 64 0 1) rfl (qp (AI v1.2.1) rfl (qp (AB (decide (v0.2.1 ≠ v1.2.1))) rfl (r_nil ?_)))))))))
 refine cF hF (fun hF => ws 832 896 (qp (AB false) rfl (r_nil (w_ret (thenQ_r (eQ hF)))))) fun hF => w_skip (thenQ_n (w_seq (ws 832 1152 (qp (.ptr 0 0 2) rfl (qp (AI v0.2.2.1) rfl (qp (.ptr 64 0 2) rfl (qp (AI v1.2.2.1) rfl (qp (AB (decide (v0.2.2.1 ≠ v1.2.2.1))) rfl (r_nil ?_)))))))))
 refine cF hF (fun hF => ws 1152 1216 (qp (AB false) rfl (r_nil (w_ret (thenQ_r (eQ hF)))))) fun hF => w_skip (thenQ_n (w_seq (ws 1152 1472 (qp (.ptr 0 0 3) rfl (qp (AI v0.2.2.2.1) rfl (qp (.ptr 64 0 3) rfl (qp (AI v1.2.2.2.1) rfl (qp (AB (decide (v0.2.2.2.1 ≠ v1.2.2.2.1))) rfl (r_nil ?_)))))))))
 refine cF hF (fun hF => ws 1472 1536 (qp (AB false) rfl (r_nil (w_ret (thenQ_r (eQ hF)))))) fun hF => w_skip (thenQ_n (w_seq (ws 1472 1792 (qp (.ptr 0 0 4) rfl (qp (AI v0.2.2.2.2.1) rfl (qp (.ptr 64 0 4) rfl (qp (AI v1.2.2.2.2.1) rfl (qp (AB (decide (v0.2.2.2.2.1 ≠ v1.2.2.2.2.1))) rfl (r_nil ?_)))))))))
 refine cF hF (fun hF => ws 1792 1856 (qp (AB false) rfl (r_nil (w_ret (thenQ_r (eQ hF)))))) fun hF => w_skip (thenQ_n (w_seq (ws 1792 2112 (qp (.ptr 0 0 5) rfl (qp (AI v0.2.2.2.2.2) rfl (qp (.ptr 64 0 5) rfl (qp (AI v1.2.2.2.2.2) rfl (qp (AB (decide (v0.2.2.2.2.2 ≠ v1.2.2.2.2.2))) rfl (r_nil ?_)))))))))
 refine cF hF (fun hF => ws 2112 2176 (qp (AB false) rfl (r_nil (w_ret (thenQ_r (eQ hF)))))) fun hF => ?_
 exact w_skip (thenQ_n (ws 2112 2176 (qp (AB true) rfl (rR hF))))

def c43 : MC := (sr [pT 4 (.mv cf)] (.seq (sr [mvt 6 0, zT 7 6, mvt 8 1, zT 9 8, bT 10 .neq t7 t9] (.cond t10 (sr [pT 4 (.mv cf)] .ret) .skip)) (.seq (sr [pT 5 (.mv (ci 0))] (.block 0 (.loop (.seq (sr [mvt 11 5, mvt 12 0, zT 13 12, bT 14 .lss t11 t13] (cx t14 0)) (.seq (.block 1 (sr [mP 17 t0, mP 18 t5, iF 19 17 18 6, pF 20 (.ld t19 6 true), mP 21 t1, mP 22 t5, iF 23 21 22 6, pF 24 (.ld t23 6 true), dF 25 92 [t20, t24], pF 26 (.not t25)] (.cond t26 (sr [pT 4 (.mv cf)] .ret) .skip))) (.reg [mvt 15 5, bT 16 .add t15 (ci 1), mvt 5 16])))))) (sr [pT 4 (.mv ct)] .ret))))
theorem c43_ : IsF Tryz.prog 43 c43 [(.tmp 4)] := ⟨by kernel_rfl, by kernel_rfl⟩

def F_laws_eqItemS_l0 (v0 : List TItem) (v1 : List TItem) (k0 : Int → Option (Bool)) : Int → Option (Bool)
 | x1 => (bif (decide (x1 < (v0.length : Int))) then ((ix v0 x1).bind fun u0 => ((ix v1 x1).bind fun u1 => ((F_laws_eqItem u0 u1).bind fun u2 => (bif (!u2) then some false
 else k0 (w64 (x1 + 1))))))
 else some true)
def F_laws_eqItemS (v0 : List TItem) (v1 : List TItem) : Option (Bool) :=
 (bif (decide ((v0.length : Int) ≠ (v1.length : Int))) then some false
 else loop (F_laws_eqItemS_l0 v0 v1) 0)
@[simp] def res_laws_eqItemS (r : Bool) : RV := .one (.one (.val (.bool r)))
theorem con_laws_eqItemS {v0 : List TItem} {v1 : List TItem} {r : Bool} (hF : F_laws_eqItemS v0 v1 = some r) : Con Tryz.prog 43 [.sl 6 (v0.map eItem), .sl 6 (v1.map eItem)] (res_laws_eqItemS r) := by
 unfold F_laws_eqItemS at hF
 refine con_of c43_.1 fun N => ?_
 refine ws 0 64 (qp (AB false) rfl (r_nil (w_seq (ws 64 384 (qp (AL 6 (v0.map eItem)) rfl (qp (AI (v0.length : Int)) (ev_len_n rfl) (qp (AL 6 (v1.map eItem)) rfl (qp (AI (v1.length : Int)) (ev_len_n rfl) (qp (AB (decide ((v0.length : Int) ≠ (v1.length : Int)))) rfl (r_nil ?_))))))))))
 refine cF hF (fun hF => ws 384 448 (qp (AB false) rfl (r_nil (w_ret (thenQ_r (eQ hF)))))) fun hF => w_skip (thenQ_n (w_seq (ws 384 448 (qp (AI 0) rfl (r_nil (w_block ?_))))))
 refine wr (l' := [(0, AL 6 (v0.map eItem)), (1, AL 6 (v1.map eItem)), (5, AI 0)]) (L := []) [0, 1, 5] [] 1 ?_
 refine w_loopF (F_laws_eqItemS_l0 v0 v1) (fun s : Int => mkS [(0, AL 6 (v0.map eItem)), (1, AL 6 (v1.map eItem)), (5, AI s)] (fo []) 1) hF ?_
 rintro k0 x1 hF
 rw [F_laws_eqItemS_l0] at hF
 try dsimp only
 refine w_seq (ws 1 257 (qp (AI x1) rfl (qp (AL 6 (v0.map eItem)) rfl (qp (AI (v0.length : Int)) (ev_len_n rfl) (qp (AB (decide (x1 < (v0.length : Int)))) rfl (r_nil ?_))))))
 refine cF hF (fun hF => ?_) fun hF => ?_
 ·
  refine w_skip (thenQ_n (w_seq (w_block (ws 257 897 (qp (AL 6 (v0.map eItem)) rfl (qp (AI x1) rfl (bk hF fun u0 e0 hF => qp (.val none (.ptr [.str u0.1, .int .i64 u0.2.1, .int .i64 u0.2.2.1, .int .i64 u0.2.2.2.1, .int .i64 u0.2.2.2.2.1, .int .i64 u0.2.2.2.2.2])) (ev_iad_n rfl rfl e0 rfl) (qp (.val none (eItem u0)) rfl (qp (AL 6 (v1.map eItem)) rfl (qp (AI x1) rfl (bk hF fun u1 e1 hF => qp (.val none (.ptr [.str u1.1, .int .i64 u1.2.1, .int .i64 u1.2.2.1, .int .i64 u1.2.2.2.1, .int .i64 u1.2.2.2.2.1, .int .i64 u1.2.2.2.2.2])) (ev_iad_n rfl rfl e1 rfl) (qp (.val none (eItem u1)) rfl (bk hF fun u2 e2 hF => qC (AB u2) [] (con_laws_eqItem e2) c92_ (qp (AB (!u2)) rfl (r_nil ?_)))))))))))))))
  refine cF hF (fun hF => ws 897 961 (qp (AB false) rfl (r_nil (w_ret (blockQ_r (thenQ_r (thenQ_r (blockQ_r (thenQ_r (eQ hF)))))))))) fun hF => ?_
  refine w_skip (blockQ_n (thenQ_n (w_reg 897 1089 rfl rfl (qp (AI x1) rfl (qp (AI (w64 (x1 + 1))) rfl (qp (AI (w64 (x1 + 1))) rfl (r_nil (thenQ_n ?_))))))))
  refine ar (l' := [(0, AL 6 (v0.map eItem)), (1, AL 6 (v1.map eItem)), (5, AI (w64 (x1 + 1)))]) (L := []) [0, 1, 5] [] 1 ⟨_, by rfl, hF⟩
 exact w_exit (thenQ_e (thenQ_e (blockQ_e (thenQ_n (ws 257 321 (qp (AB true) rfl (rR hF)))))))

def c93 : MC := (sr [rg 2 (.f (.box t0)), rg 3 (.f (.box t1)), pT 4 (.mv cf)] (.seq (sr [pT 5 (.fad t2 0), lT 6 5, pT 7 (.fad t3 0), lT 8 7, bT 9 .neq t6 t8] (.cond t9 (sr [pT 4 (.mv cf)] .ret) .skip)) (.seq (sr [pT 10 (.fad t2 1), lT 11 10, pT 12 (.fad t3 1), lT 13 12, bT 14 .neq t11 t13] (.cond t14 (sr [pT 4 (.mv cf)] .ret) .skip)) (.seq (sr [pT 15 (.fad t2 2), lT 16 15, pT 17 (.fad t3 2), lT 18 17, bT 19 .neq t16 t18] (.cond t19 (sr [pT 4 (.mv cf)] .ret) .skip)) (.seq (sr [pT 20 (.fad t2 3), lT 21 20, pT 22 (.fad t3 3), lT 23 22, bT 24 .neq t21 t23] (.cond t24 (sr [pT 4 (.mv cf)] .ret) .skip)) (.seq (sr [pT 25 (.fad t2 4), lT 26 25, pT 27 (.fad t3 4), lT 28 27, bT 29 .neq t26 t28] (.cond t29 (sr [pT 4 (.mv cf)] .ret) .skip)) (sr [pT 4 (.mv ct)] .ret)))))))
theorem c93_ : IsF Tryz.prog 93 c93 [(.tmp 4)] := ⟨by kernel_rfl, by kernel_rfl⟩

def F_laws_eqLesson (v0 : TLesson) (v1 : TLesson) : Option (Bool) :=
 (bif (decide (v0.1 ≠ v1.1)) then some false
 else (bif (decide (v0.2.1 ≠ v1.2.1)) then some false
 else (bif (decide (v0.2.2.1 ≠ v1.2.2.1)) then some false
 else (bif (decide (v0.2.2.2.1 ≠ v1.2.2.2.1)) then some false
 else (bif (decide (v0.2.2.2.2 ≠ v1.2.2.2.2)) then some false
 else some true)))))
@[simp] abbrev K5v (v0 : TLesson) : List (Nat × Root) := [(0, .box [AI v0.1, AS v0.2.1, AS v0.2.2.1, AI v0.2.2.2.1, AI v0.2.2.2.2])]
@[simp] def res_laws_eqLesson (r : Bool) : RV := .one (.one (.val (.bool r)))
theorem con_laws_eqLesson {v0 : TLesson} {v1 : TLesson} {r : Bool} (hF : F_laws_eqLesson v0 v1 = some r) : Con Tryz.prog 93 [eLesson v0, eLesson v1] (res_laws_eqLesson r) := by
 unfold F_laws_eqLesson at hF
 refine con_of c93_.1 fun N => ?_
 refine ws 0 192 (qf (.ptr 0 0 0) (K5v v0) (by simp) (qf (.ptr 64 0 0) ((64, .box [AI v1.1, AS v1.2.1, AS v1.2.2.1, AI v1.2.2.2.1, AI v1.2.2.2.2]) :: (K5v v0)) (by simp) (qp (AB false) rfl (r_nil (w_seq (ws 192 512 (qp (.ptr 0 0 0) rfl (qp (AI v0.1) rfl (qp (.ptr 64 0 0) rfl (qp (AI v1.1) rfl (qp (AB (decide (v0.1 ≠ v1.1))) rfl (r_nil ?_))))))))))))
 refine cF hF (fun hF => ws 512 576 (qp (AB false) rfl (r_nil (w_ret (thenQ_r (eQ hF)))))) fun hF => w_skip (thenQ_n (w_seq (ws 512 832 (qp (.ptr 0 0 1) rfl (qp (AS v0.2.1) rfl (qp (.ptr 64 0 1) rfl (qp (AS v1.2.1) rfl (qp (AB (decide (v0.2.1 ≠ v1.2.1))) rfl (r_nil ?_)))))))))
 refine cF hF (fun hF => ws 832 896 (qp (AB false) rfl (r_nil (w_ret (thenQ_r (eQ hF)))))) fun hF => w_skip (thenQ_n (w_seq (ws 832 1152 (qp (.ptr 0 0 2) rfl (qp (AS v0.2.2.1) rfl (qp (.ptr 64 0 2) rfl (qp (AS v1.2.2.1) rfl (qp (AB (decide (v0.2.2.1 ≠ v1.2.2.1))) rfl (r_nil ?_)))))))))
 refine cF hF (fun hF => ws 1152 1216 (qp (AB false) rfl (r_nil (w_ret (thenQ_r (eQ hF)))))) fun hF => w_skip (thenQ_n (w_seq (ws 1152 1472 (qp (.ptr 0 0 3) rfl (qp (AI v0.2.2.2.1) rfl (qp (.ptr 64 0 3) rfl (qp (AI v1.2.2.2.1) rfl (qp (AB (decide (v0.2.2.2.1 ≠ v1.2.2.2.1))) rfl (r_nil ?_)))))))))
 refine cF hF (fun hF => ws 1472 1536 (qp (AB false) rfl (r_nil (w_ret (thenQ_r (eQ hF)))))) fun hF => w_skip (thenQ_n (w_seq (ws 1472 1792 (qp (.ptr 0 0 4) rfl (qp (AI v0.2.2.2.2) rfl (qp (.ptr 64 0 4) rfl (qp (AI v1.2.2.2.2) rfl (qp (AB (decide (v0.2.2.2.2 ≠ v1.2.2.2.2))) rfl (r_nil ?_)))))))))
 refine cF hF (fun hF => ws 1792 1856 (qp (AB false) rfl (r_nil (w_ret (thenQ_r (eQ hF)))))) fun hF => ?_
 exact w_skip (thenQ_n (ws 1792 1856 (qp (AB true) rfl (rR hF))))

def c44 : MC := (sr [pT 4 (.mv cf)] (.seq (sr [mvt 6 0, zT 7 6, mvt 8 1, zT 9 8, bT 10 .neq t7 t9] (.cond t10 (sr [pT 4 (.mv cf)] .ret) .skip)) (.seq (sr [pT 5 (.mv (ci 0))] (.block 0 (.loop (.seq (sr [mvt 11 5, mvt 12 0, zT 13 12, bT 14 .lss t11 t13] (cx t14 0)) (.seq (.block 1 (sr [mP 17 t0, mP 18 t5, iF 19 17 18 5, pF 20 (.ld t19 5 true), mP 21 t1, mP 22 t5, iF 23 21 22 5, pF 24 (.ld t23 5 true), dF 25 93 [t20, t24], pF 26 (.not t25)] (.cond t26 (sr [pT 4 (.mv cf)] .ret) .skip))) (.reg [mvt 15 5, bT 16 .add t15 (ci 1), mvt 5 16])))))) (sr [pT 4 (.mv ct)] .ret))))
theorem c44_ : IsF Tryz.prog 44 c44 [(.tmp 4)] := ⟨by kernel_rfl, by kernel_rfl⟩

def F_laws_eqLessonS_l0 (v0 : List TLesson) (v1 : List TLesson) (k0 : Int → Option (Bool)) : Int → Option (Bool)
 | x1 => (bif (decide (x1 < (v0.length : Int))) then ((ix v0 x1).bind fun u0 => ((ix v1 x1).bind fun u1 => ((F_laws_eqLesson u0 u1).bind fun u2 => (bif (!u2) then some false
 else k0 (w64 (x1 + 1))))))
 else some true)
def F_laws_eqLessonS (v0 : List TLesson) (v1 : List TLesson) : Option (Bool) :=
 (bif (decide ((v0.length : Int) ≠ (v1.length : Int))) then some false
 else loop (F_laws_eqLessonS_l0 v0 v1) 0)
@[simp] def res_laws_eqLessonS (r : Bool) : RV := .one (.one (.val (.bool r)))
theorem con_laws_eqLessonS {v0 : List TLesson} {v1 : List TLesson} {r : Bool} (hF : F_laws_eqLessonS v0 v1 = some r) : Con Tryz.prog 44 [.sl 5 (v0.map eLesson), .sl 5 (v1.map eLesson)] (res_laws_eqLessonS r) := by
 unfold F_laws_eqLessonS at hF
 refine con_of c44_.1 fun N => ?_
 refine ws 0 64 (qp (AB false) rfl (r_nil (w_seq (ws 64 384 (qp (AL 5 (v0.map eLesson)) rfl (qp (AI (v0.length : Int)) (ev_len_n rfl) (qp (AL 5 (v1.map eLesson)) rfl (qp (AI (v1.length : Int)) (ev_len_n rfl) (qp (AB (decide ((v0.length : Int) ≠ (v1.length : Int)))) rfl (r_nil ?_))))))))))
 refine cF hF (fun hF => ws 384 448 (qp (AB false) rfl (r_nil (w_ret (thenQ_r (eQ hF)))))) fun hF => w_skip (thenQ_n (w_seq (ws 384 448 (qp (AI 0) rfl (r_nil (w_block ?_))))))
 refine wr (l' := [(0, AL 5 (v0.map eLesson)), (1, AL 5 (v1.map eLesson)), (5, AI 0)]) (L := []) [0, 1, 5] [] 1 ?_
 refine w_loopF (F_laws_eqLessonS_l0 v0 v1) (fun s : Int => mkS [(0, AL 5 (v0.map eLesson)), (1, AL 5 (v1.map eLesson)), (5, AI s)] (fo []) 1) hF ?_
 rintro k0 x1 hF
 rw [F_laws_eqLessonS_l0] at hF
 try dsimp only
 refine w_seq (ws 1 257 (qp (AI x1) rfl (qp (AL 5 (v0.map eLesson)) rfl (qp (AI (v0.length : Int)) (ev_len_n rfl) (qp (AB (decide (x1 < (v0.length : Int)))) rfl (r_nil ?_))))))
 refine cF hF (fun hF => ?_) fun hF => ?_
 ·
  refine w_skip (thenQ_n (w_seq (w_block (ws 257 897 (qp (AL 5 (v0.map eLesson)) rfl (qp (AI x1) rfl (bk hF fun u0 e0 hF => qp (.val none (.ptr [.int .i64 u0.1, .str u0.2.1, .str u0.2.2.1, .int .i64 u0.2.2.2.1, .int .i64 u0.2.2.2.2])) (ev_iad_n rfl rfl e0 rfl) (qp (.val none (eLesson u0)) rfl (qp (AL 5 (v1.map eLesson)) rfl (qp (AI x1) rfl (bk hF fun u1 e1 hF => qp (.val none (.ptr [.int .i64 u1.1, .str u1.2.1, .str u1.2.2.1, .int .i64 u1.2.2.2.1, .int .i64 u1.2.2.2.2])) (ev_iad_n rfl rfl e1 rfl) (qp (.val none (eLesson u1)) rfl (bk hF fun u2 e2 hF => qC (AB u2) [] (con_laws_eqLesson e2) c93_ (qp (AB (!u2)) rfl (r_nil ?_)))))))))))))))
  refine cF hF (fun hF => ws 897 961 (qp (AB false) rfl (r_nil (w_ret (blockQ_r (thenQ_r (thenQ_r (blockQ_r (thenQ_r (eQ hF)))))))))) fun hF => ?_
  refine w_skip (blockQ_n (thenQ_n (w_reg 897 1089 rfl rfl (qp (AI x1) rfl (qp (AI (w64 (x1 + 1))) rfl (qp (AI (w64 (x1 + 1))) rfl (r_nil (thenQ_n ?_))))))))
  refine ar (l' := [(0, AL 5 (v0.map eLesson)), (1, AL 5 (v1.map eLesson)), (5, AI (w64 (x1 + 1)))]) (L := []) [0, 1, 5] [] 1 ⟨_, by rfl, hF⟩
 exact w_exit (thenQ_e (thenQ_e (blockQ_e (thenQ_n (ws 257 321 (qp (AB true) rfl (rR hF)))))))

def c131 : MC := (sr [pT 4 (.mv cf)] (.seq (sr [mvt 6 0, zT 7 6, mvt 8 1, zT 9 8, bT 10 .neq t7 t9] (.cond t10 (sr [pT 4 (.mv cf)] .ret) .skip)) (.seq (sr [pT 5 (.mv (ci 0))] (.block 0 (.loop (.seq (sr [mvt 11 5, mvt 12 0, zT 13 12, bT 14 .lss t11 t13] (cx t14 0)) (.seq (.block 1 (sr [mP 17 t0, mP 18 t5, iF 19 17 18 1, lF 20 19, mP 21 t1, mP 22 t5, iF 23 21 22 1, lF 24 23, bF 25 .neq t20 t24] (.cond t25 (sr [pT 4 (.mv cf)] .ret) .skip))) (.reg [mvt 15 5, bT 16 .add t15 (ci 1), mvt 5 16])))))) (sr [pT 4 (.mv ct)] .ret))))
theorem c131_ : IsF Tryz.prog 131 c131 [(.tmp 4)] := ⟨by kernel_rfl, by kernel_rfl⟩

def F_laws_eqStringS_l0 (v0 : List (List UInt8)) (v1 : List (List UInt8)) (k0 : Int → Option (Bool)) : Int → Option (Bool)
 | x1 => (bif (decide (x1 < (v0.length : Int))) then ((ix v0 x1).bind fun u0 => ((ix v1 x1).bind fun u1 => (bif (decide (u0 ≠ u1)) then some false
 else k0 (w64 (x1 + 1)))))
 else some true)
def F_laws_eqStringS (v0 : List (List UInt8)) (v1 : List (List UInt8)) : Option (Bool) :=
 (bif (decide ((v0.length : Int) ≠ (v1.length : Int))) then some false
 else loop (F_laws_eqStringS_l0 v0 v1) 0)
@[simp] def res_laws_eqStringS (r : Bool) : RV := .one (.one (.val (.bool r)))
theorem con_laws_eqStringS {v0 : List (List UInt8)} {v1 : List (List UInt8)} {r : Bool} (hF : F_laws_eqStringS v0 v1 = some r) : Con Tryz.prog 131 [.sl 1 (v0.map V.str), .sl 1 (v1.map V.str)] (res_laws_eqStringS r) := by
 unfold F_laws_eqStringS at hF
 refine con_of c131_.1 fun N => ?_
 refine ws 0 64 (qp (AB false) rfl (r_nil (w_seq (ws 64 384 (qp (AL 1 (v0.map V.str)) rfl (qp (AI (v0.length : Int)) (ev_len_n rfl) (qp (AL 1 (v1.map V.str)) rfl (qp (AI (v1.length : Int)) (ev_len_n rfl) (qp (AB (decide ((v0.length : Int) ≠ (v1.length : Int)))) rfl (r_nil ?_))))))))))
 refine cF hF (fun hF => ws 384 448 (qp (AB false) rfl (r_nil (w_ret (thenQ_r (eQ hF)))))) fun hF => w_skip (thenQ_n (w_seq (ws 384 448 (qp (AI 0) rfl (r_nil (w_block ?_))))))
 refine wr (l' := [(0, AL 1 (v0.map V.str)), (1, AL 1 (v1.map V.str)), (5, AI 0)]) (L := []) [0, 1, 5] [] 1 ?_
 refine w_loopF (F_laws_eqStringS_l0 v0 v1) (fun s : Int => mkS [(0, AL 1 (v0.map V.str)), (1, AL 1 (v1.map V.str)), (5, AI s)] (fo []) 1) hF ?_
 rintro k0 x1 hF
 rw [F_laws_eqStringS_l0] at hF
 try dsimp only
 refine w_seq (ws 1 257 (qp (AI x1) rfl (qp (AL 1 (v0.map V.str)) rfl (qp (AI (v0.length : Int)) (ev_len_n rfl) (qp (AB (decide (x1 < (v0.length : Int)))) rfl (r_nil ?_))))))
 refine cF hF (fun hF => ?_) fun hF => ?_
 ·
  refine w_skip (thenQ_n (w_seq (w_block (ws 257 833 (qp (AL 1 (v0.map V.str)) rfl (qp (AI x1) rfl (bk hF fun u0 e0 hF => qp (.val none (.ptr [.str u0])) (ev_iad_n rfl rfl e0 rfl) (qp (AS u0) rfl (qp (AL 1 (v1.map V.str)) rfl (qp (AI x1) rfl (bk hF fun u1 e1 hF => qp (.val none (.ptr [.str u1])) (ev_iad_n rfl rfl e1 rfl) (qp (AS u1) rfl (qp (AB (decide (u0 ≠ u1))) rfl (r_nil ?_))))))))))))))
  refine cF hF (fun hF => ws 833 897 (qp (AB false) rfl (r_nil (w_ret (blockQ_r (thenQ_r (thenQ_r (blockQ_r (thenQ_r (eQ hF)))))))))) fun hF => ?_
  refine w_skip (blockQ_n (thenQ_n (w_reg 833 1025 rfl rfl (qp (AI x1) rfl (qp (AI (w64 (x1 + 1))) rfl (qp (AI (w64 (x1 + 1))) rfl (r_nil (thenQ_n ?_))))))))
  refine ar (l' := [(0, AL 1 (v0.map V.str)), (1, AL 1 (v1.map V.str)), (5, AI (w64 (x1 + 1)))]) (L := []) [0, 1, 5] [] 1 ⟨_, by rfl, hF⟩
 exact w_exit (thenQ_e (thenQ_e (blockQ_e (thenQ_n (ws 257 321 (qp (AB true) rfl (rR hF)))))))

def c94 : MC := (sr [rg 2 (.f (.box t0)), rg 3 (.f (.box t1)), pT 4 (.mv cf)] (.seq (sr [pT 5 (.fad t2 0), lT 6 5, pT 7 (.fad t3 0), lT 8 7, bT 9 .neq t6 t8] (.cond t9 (sr [pT 4 (.mv cf)] .ret) .skip)) (.seq (sr [pT 10 (.fad t2 1), lT 11 10, pT 12 (.fad t3 1), lT 13 12, bT 14 .neq t11 t13] (.cond t14 (sr [pT 4 (.mv cf)] .ret) .skip)) (.seq (sr [pT 15 (.fad t2 2), lT 16 15, pT 17 (.fad t3 2), lT 18 17, dT 19 131 [t16, t18], pT 20 (.not t19)] (.cond t20 (sr [pT 4 (.mv cf)] .ret) .skip)) (sr [pT 4 (.mv ct)] .ret)))))
theorem c94_ : IsF Tryz.prog 94 c94 [(.tmp 4)] := ⟨by kernel_rfl, by kernel_rfl⟩

def F_laws_eqPerson (v0 : TPerson) (v1 : TPerson) : Option (Bool) :=
 (bif (decide (v0.1 ≠ v1.1)) then some false
 else (bif (decide (v0.2.1 ≠ v1.2.1)) then some false
 else ((F_laws_eqStringS v0.2.2 v1.2.2).bind fun u0 => (bif (!u0) then some false
 else some true))))
@[simp] abbrev K5w (v0 : TPerson) : List (Nat × Root) := [(0, .box [AS v0.1, AI v0.2.1, AL 1 (v0.2.2.map V.str)])]
@[simp] abbrev K5x (v1 : TPerson) (v0 : TPerson) : List (Nat × Root) := ((64, .box [AS v1.1, AI v1.2.1, AL 1 (v1.2.2.map V.str)]) :: (K5w v0))
@[simp] def res_laws_eqPerson (r : Bool) : RV := .one (.one (.val (.bool r)))
theorem con_laws_eqPerson {v0 : TPerson} {v1 : TPerson} {r : Bool} (hF : F_laws_eqPerson v0 v1 = some r) : Con Tryz.prog 94 [ePerson v0, ePerson v1] (res_laws_eqPerson r) := by
 unfold F_laws_eqPerson at hF
 refine con_of c94_.1 fun N => ?_
 refine ws 0 192 (qf (.ptr 0 0 0) (K5w v0) (by simp) (qf (.ptr 64 0 0) (K5x v1 v0) (by simp) (qp (AB false) rfl (r_nil (w_seq (ws 192 512 (qp (.ptr 0 0 0) rfl (qp (AS v0.1) rfl (qp (.ptr 64 0 0) rfl (qp (AS v1.1) rfl (qp (AB (decide (v0.1 ≠ v1.1))) rfl (r_nil ?_))))))))))))
 refine cF hF (fun hF => ws 512 576 (qp (AB false) rfl (r_nil (w_ret (thenQ_r (eQ hF)))))) fun hF => w_skip (thenQ_n (w_seq (ws 512 832 (qp (.ptr 0 0 1) rfl (qp (AI v0.2.1) rfl (qp (.ptr 64 0 1) rfl (qp (AI v1.2.1) rfl (qp (AB (decide (v0.2.1 ≠ v1.2.1))) rfl (r_nil ?_)))))))))
 refine cF hF (fun hF => ws 832 896 (qp (AB false) rfl (r_nil (w_ret (thenQ_r (eQ hF)))))) fun hF => w_skip (thenQ_n (w_seq (ws 832 1216 (qp (.ptr 0 0 2) rfl (qp (AL 1 (v0.2.2.map V.str)) rfl (qp (.ptr 64 0 2) rfl (qp (AL 1 (v1.2.2.map V.str)) rfl (bk hF fun u0 e0 hF => qC (AB u0) (K5x v1 v0) (con_laws_eqStringS e0) c131_ (qp (AB (!u0)) rfl (r_nil ?_))))))))))
 refine cF hF (fun hF => ws 1216 1280 (qp (AB false) rfl (r_nil (w_ret (thenQ_r (eQ hF)))))) fun hF => ?_
 exact w_skip (thenQ_n (ws 1216 1280 (qp (AB true) rfl (rR hF))))

def c45 : MC := (sr [pT 4 (.mv cf)] (.seq (sr [mvt 6 0, zT 7 6, mvt 8 1, zT 9 8, bT 10 .neq t7 t9] (.cond t10 (sr [pT 4 (.mv cf)] .ret) .skip)) (.seq (sr [pT 5 (.mv (ci 0))] (.block 0 (.loop (.seq (sr [mvt 11 5, mvt 12 0, zT 13 12, bT 14 .lss t11 t13] (cx t14 0)) (.seq (.block 1 (sr [mP 17 t0, mP 18 t5, iF 19 17 18 3, pF 20 (.ld t19 3 true), mP 21 t1, mP 22 t5, iF 23 21 22 3, pF 24 (.ld t23 3 true), dF 25 94 [t20, t24], pF 26 (.not t25)] (.cond t26 (sr [pT 4 (.mv cf)] .ret) .skip))) (.reg [mvt 15 5, bT 16 .add t15 (ci 1), mvt 5 16])))))) (sr [pT 4 (.mv ct)] .ret))))
theorem c45_ : IsF Tryz.prog 45 c45 [(.tmp 4)] := ⟨by kernel_rfl, by kernel_rfl⟩

def F_laws_eqPersonS_l0 (v0 : List TPerson) (v1 : List TPerson) (k0 : Int → Option (Bool)) : Int → Option (Bool)
 | x1 => (bif (decide (x1 < (v0.length : Int))) then ((ix v0 x1).bind fun u0 => ((ix v1 x1).bind fun u1 => ((F_laws_eqPerson u0 u1).bind fun u2 => (bif (!u2) then some false
 else k0 (w64 (x1 + 1))))))
 else some true)
def F_laws_eqPersonS (v0 : List TPerson) (v1 : List TPerson) : Option (Bool) :=
 (bif (decide ((v0.length : Int) ≠ (v1.length : Int))) then some false
 else loop (F_laws_eqPersonS_l0 v0 v1) 0)
@[simp] def res_laws_eqPersonS (r : Bool) : RV := .one (.one (.val (.bool r)))
theorem con_laws_eqPersonS {v0 : List TPerson} {v1 : List TPerson} {r : Bool} (hF : F_laws_eqPersonS v0 v1 = some r) : Con Tryz.prog 45 [.sl 3 (v0.map ePerson), .sl 3 (v1.map ePerson)] (res_laws_eqPersonS r) := by
 unfold F_laws_eqPersonS at hF
 refine con_of c45_.1 fun N => ?_
 refine ws 0 64 (qp (AB false) rfl (r_nil (w_seq (ws 64 384 (qp (AL 3 (v0.map ePerson)) rfl (qp (AI (v0.length : Int)) (ev_len_n rfl) (qp (AL 3 (v1.map ePerson)) rfl (qp (AI (v1.length : Int)) (ev_len_n rfl) (qp (AB (decide ((v0.length : Int) ≠ (v1.length : Int)))) rfl (r_nil ?_))))))))))
 refine cF hF (fun hF => ws 384 448 (qp (AB false) rfl (r_nil (w_ret (thenQ_r (eQ hF)))))) fun hF => w_skip (thenQ_n (w_seq (ws 384 448 (qp (AI 0) rfl (r_nil (w_block ?_))))))
 refine wr (l' := [(0, AL 3 (v0.map ePerson)), (1, AL 3 (v1.map ePerson)), (5, AI 0)]) (L := []) [0, 1, 5] [] 1 ?_
 refine w_loopF (F_laws_eqPersonS_l0 v0 v1) (fun s : Int => mkS [(0, AL 3 (v0.map ePerson)), (1, AL 3 (v1.map ePerson)), (5, AI s)] (fo []) 1) hF ?_
 rintro k0 x1 hF
 rw [F_laws_eqPersonS_l0] at hF
 try dsimp only
 refine w_seq (ws 1 257 (qp (AI x1) rfl (qp (AL 3 (v0.map ePerson)) rfl (qp (AI (v0.length : Int)) (ev_len_n rfl) (qp (AB (decide (x1 < (v0.length : Int)))) rfl (r_nil ?_))))))
 refine cF hF (fun hF => ?_) fun hF => ?_
 ·
  refine w_skip (thenQ_n (w_seq (w_block (ws 257 897 (qp (AL 3 (v0.map ePerson)) rfl (qp (AI x1) rfl (bk hF fun u0 e0 hF => qp (.val none (.ptr [.str u0.1, .int .i64 u0.2.1, .sl 1 (u0.2.2.map V.str)])) (ev_iad_n rfl rfl e0 rfl) (qp (.val none (ePerson u0)) rfl (qp (AL 3 (v1.map ePerson)) rfl (qp (AI x1) rfl (bk hF fun u1 e1 hF => qp (.val none (.ptr [.str u1.1, .int .i64 u1.2.1, .sl 1 (u1.2.2.map V.str)])) (ev_iad_n rfl rfl e1 rfl) (qp (.val none (ePerson u1)) rfl (bk hF fun u2 e2 hF => qC (AB u2) [] (con_laws_eqPerson e2) c94_ (qp (AB (!u2)) rfl (r_nil ?_)))))))))))))))
  refine cF hF (fun hF => ws 897 961 (qp (AB false) rfl (r_nil (w_ret (blockQ_r (thenQ_r (thenQ_r (blockQ_r (thenQ_r (eQ hF)))))))))) fun hF => ?_
  refine w_skip (blockQ_n (thenQ_n (w_reg 897 1089 rfl rfl (qp (AI x1) rfl (qp (AI (w64 (x1 + 1))) rfl (qp (AI (w64 (x1 + 1))) rfl (r_nil (thenQ_n ?_))))))))
  refine ar (l' := [(0, AL 3 (v0.map ePerson)), (1, AL 3 (v1.map ePerson)), (5, AI (w64 (x1 + 1)))]) (L := []) [0, 1, 5] [] 1 ⟨_, by rfl, hF⟩
 exact w_exit (thenQ_e (thenQ_e (blockQ_e (thenQ_n (ws 257 321 (qp (AB true) rfl (rR hF)))))))

def c8 : MC := (sr [rg 2 (.f (.box t0)), rg 3 (.f (.box t1)), pT 4 (.mv cf)] (.seq (sr [pT 5 (.fad t2 0), pT 6 (.ld t5 6 true), pT 7 (.fad t3 0), pT 8 (.ld t7 6 true), dT 9 37 [t6, t8], pT 10 (.not t9)] (.cond t10 (sr [pT 4 (.mv cf)] .ret) .skip)) (.seq (sr [pT 11 (.fad t2 6), lT 12 11, pT 13 (.fad t3 6), lT 14 13, dT 15 38 [t12, t14], pT 16 (.not t15)] (.cond t16 (sr [pT 4 (.mv cf)] .ret) .skip)) (.seq (sr [pT 17 (.fad t2 7), pT 18 (.ld t17 2 true), pT 19 (.fad t3 7), pT 20 (.ld t19 2 true), dT 21 39 [t18, t20], pT 22 (.not t21)] (.cond t22 (sr [pT 4 (.mv cf)] .ret) .skip)) (.seq (sr [pT 23 (.fad t2 9), lT 24 23, pT 25 (.fad t3 9), lT 26 25, dT 27 40 [t24, t26], pT 28 (.not t27)] (.cond t28 (sr [pT 4 (.mv cf)] .ret) .skip)) (.seq (sr [pT 29 (.fad t2 10), lT 30 29, pT 31 (.fad t3 10), lT 32 31, dT 33 41 [t30, t32], pT 34 (.not t33)] (.cond t34 (sr [pT 4 (.mv cf)] .ret) .skip)) (.seq (sr [pT 35 (.fad t2 11), lT 36 35, pT 37 (.fad t3 11), lT 38 37, dT 39 42 [t36, t38], pT 40 (.not t39)] (.cond t40 (sr [pT 4 (.mv cf)] .ret) .skip)) (.seq (sr [pT 41 (.fad t2 12), lT 42 41, pT 43 (.fad t3 12), lT 44 43, dT 45 43 [t42, t44], pT 46 (.not t45)] (.cond t46 (sr [pT 4 (.mv cf)] .ret) .skip)) (.seq (sr [pT 47 (.fad t2 13), lT 48 47, pT 49 (.fad t3 13), lT 50 49, dT 51 44 [t48, t50], pT 52 (.not t51)] (.cond t52 (sr [pT 4 (.mv cf)] .ret) .skip)) (.seq (sr [pT 53 (.fad t2 14), lT 54 53, pT 55 (.fad t3 14), lT 56 55, dT 57 45 [t54, t56], pT 58 (.not t57)] (.cond t58 (sr [pT 4 (.mv cf)] .ret) .skip)) (sr [pT 4 (.mv ct)] .ret)))))))))))
theorem c8_ : IsF Tryz.prog 8 c8 [(.tmp 4)] := ⟨by kernel_rfl, by kernel_rfl⟩

def F_laws_eqDesk (v0 : TDesk) (v1 : TDesk) : Option (Bool) :=
 ((F_laws_eqRaga (v0.1, v0.2.1, v0.2.2.1, v0.2.2.2.1, v0.2.2.2.2.1, v0.2.2.2.2.2.1) (v1.1, v1.2.1, v1.2.2.1, v1.2.2.2.1, v1.2.2.2.2.1, v1.2.2.2.2.2.1)).bind fun u0 => (bif (!u0) then some false
 else ((F_laws_eqNoteS v0.2.2.2.2.2.2.1 v1.2.2.2.2.2.2.1).bind fun u1 => (bif (!u1) then some false
 else ((F_laws_eqTuning (v0.2.2.2.2.2.2.2.1, v0.2.2.2.2.2.2.2.2.1) (v1.2.2.2.2.2.2.2.1, v1.2.2.2.2.2.2.2.2.1)).bind fun u2 => (bif (!u2) then some false
 else ((F_laws_eqInt64SS v0.2.2.2.2.2.2.2.2.2.1 v1.2.2.2.2.2.2.2.2.2.1).bind fun u3 => (bif (!u3) then some false
 else ((F_laws_eqSyllableS v0.2.2.2.2.2.2.2.2.2.2.1 v1.2.2.2.2.2.2.2.2.2.2.1).bind fun u4 => (bif (!u4) then some false
 else ((F_laws_eqTempoMarkS v0.2.2.2.2.2.2.2.2.2.2.2.1 v1.2.2.2.2.2.2.2.2.2.2.2.1).bind fun u5 => (bif (!u5) then some false
 else ((F_laws_eqItemS v0.2.2.2.2.2.2.2.2.2.2.2.2.1 v1.2.2.2.2.2.2.2.2.2.2.2.2.1).bind fun u6 => (bif (!u6) then some false
 else ((F_laws_eqLessonS v0.2.2.2.2.2.2.2.2.2.2.2.2.2.1 v1.2.2.2.2.2.2.2.2.2.2.2.2.2.1).bind fun u7 => (bif (!u7) then some false
 else ((F_laws_eqPersonS v0.2.2.2.2.2.2.2.2.2.2.2.2.2.2 v1.2.2.2.2.2.2.2.2.2.2.2.2.2.2).bind fun u8 => (bif (!u8) then some false
 else some true))))))))))))))))))
@[simp] abbrev K5y (v0 : TDesk) : List (Nat × Root) := [(0, .box [AS v0.1, AL 1 (v0.2.1.map vI), AL 1 (v0.2.2.1.map vI), AI v0.2.2.2.1, AI v0.2.2.2.2.1, AL 1 (v0.2.2.2.2.2.1.map (eL 1 vI)), AL 2 (v0.2.2.2.2.2.2.1.map eNote), AS v0.2.2.2.2.2.2.2.1, AL 2 (v0.2.2.2.2.2.2.2.2.1.map eNote), AL 1 (v0.2.2.2.2.2.2.2.2.2.1.map (eL 1 vI)), AL 3 (v0.2.2.2.2.2.2.2.2.2.2.1.map eSyllable), AL 2 (v0.2.2.2.2.2.2.2.2.2.2.2.1.map eNote), AL 6 (v0.2.2.2.2.2.2.2.2.2.2.2.2.1.map eItem), AL 5 (v0.2.2.2.2.2.2.2.2.2.2.2.2.2.1.map eLesson), AL 3 (v0.2.2.2.2.2.2.2.2.2.2.2.2.2.2.map ePerson)])]
@[simp] abbrev K5z (v1 : TDesk) (v0 : TDesk) : List (Nat × Root) := ((64, .box [AS v1.1, AL 1 (v1.2.1.map vI), AL 1 (v1.2.2.1.map vI), AI v1.2.2.2.1, AI v1.2.2.2.2.1, AL 1 (v1.2.2.2.2.2.1.map (eL 1 vI)), AL 2 (v1.2.2.2.2.2.2.1.map eNote), AS v1.2.2.2.2.2.2.2.1, AL 2 (v1.2.2.2.2.2.2.2.2.1.map eNote), AL 1 (v1.2.2.2.2.2.2.2.2.2.1.map (eL 1 vI)), AL 3 (v1.2.2.2.2.2.2.2.2.2.2.1.map eSyllable), AL 2 (v1.2.2.2.2.2.2.2.2.2.2.2.1.map eNote), AL 6 (v1.2.2.2.2.2.2.2.2.2.2.2.2.1.map eItem), AL 5 (v1.2.2.2.2.2.2.2.2.2.2.2.2.2.1.map eLesson), AL 3 (v1.2.2.2.2.2.2.2.2.2.2.2.2.2.2.map ePerson)]) :: (K5y v0))
@[simp] def res_laws_eqDesk (r : Bool) : RV := .one (.one (.val (.bool r)))
theorem con_laws_eqDesk {v0 : TDesk} {v1 : TDesk} {r : Bool} (hF : F_laws_eqDesk v0 v1 = some r) : Con Tryz.prog 8 [eDesk v0, eDesk v1] (res_laws_eqDesk r) := by
 unfold F_laws_eqDesk at hF
 refine con_of c8_.1 fun N => ?_
 refine ws 0 192 (qf (.ptr 0 0 0) (K5y v0) (by simp) (qf (.ptr 64 0 0) (K5z v1 v0) (by simp) (qp (AB false) rfl (r_nil (w_seq (ws 192 576 (qp (.ptr 0 0 0) rfl (qp (.agg [AS v0.1, AL 1 (v0.2.1.map vI), AL 1 (v0.2.2.1.map vI), AI v0.2.2.2.1, AI v0.2.2.2.2.1, AL 1 (v0.2.2.2.2.2.1.map (eL 1 vI))]) rfl (qp (.ptr 64 0 0) rfl (qp (.agg [AS v1.1, AL 1 (v1.2.1.map vI), AL 1 (v1.2.2.1.map vI), AI v1.2.2.2.1, AI v1.2.2.2.2.1, AL 1 (v1.2.2.2.2.2.1.map (eL 1 vI))]) rfl (bk hF fun u0 e0 hF => qC (AB u0) (K5z v1 v0) (con_laws_eqRaga e0) c37_ (qp (AB (!u0)) rfl (r_nil ?_)))))))))))))
 refine cF hF (fun hF => ws 576 640 (qp (AB false) rfl (r_nil (w_ret (thenQ_r (eQ hF)))))) fun hF => w_skip (thenQ_n (w_seq (ws 576 960 (qp (.ptr 0 0 6) rfl (qp (AL 2 (v0.2.2.2.2.2.2.1.map eNote)) rfl (qp (.ptr 64 0 6) rfl (qp (AL 2 (v1.2.2.2.2.2.2.1.map eNote)) rfl (bk hF fun u1 e1 hF => qC (AB u1) (K5z v1 v0) (con_laws_eqNoteS e1) c38_ (qp (AB (!u1)) rfl (r_nil ?_))))))))))
 refine cF hF (fun hF => ws 960 1024 (qp (AB false) rfl (r_nil (w_ret (thenQ_r (eQ hF)))))) fun hF => w_skip (thenQ_n (w_seq (ws 960 1344 (qp (.ptr 0 0 7) rfl (qp (.agg [AS v0.2.2.2.2.2.2.2.1, AL 2 (v0.2.2.2.2.2.2.2.2.1.map eNote)]) rfl (qp (.ptr 64 0 7) rfl (qp (.agg [AS v1.2.2.2.2.2.2.2.1, AL 2 (v1.2.2.2.2.2.2.2.2.1.map eNote)]) rfl (bk hF fun u2 e2 hF => qC (AB u2) (K5z v1 v0) (con_laws_eqTuning e2) c39_ (qp (AB (!u2)) rfl (r_nil ?_))))))))))
 refine cF hF (fun hF => ws 1344 1408 (qp (AB false) rfl (r_nil (w_ret (thenQ_r (eQ hF)))))) fun hF => w_skip (thenQ_n (w_seq (ws 1344 1728 (qp (.ptr 0 0 9) rfl (qp (AL 1 (v0.2.2.2.2.2.2.2.2.2.1.map (eL 1 vI))) rfl (qp (.ptr 64 0 9) rfl (qp (AL 1 (v1.2.2.2.2.2.2.2.2.2.1.map (eL 1 vI))) rfl (bk hF fun u3 e3 hF => qC (AB u3) (K5z v1 v0) (con_laws_eqInt64SS e3) c40_ (qp (AB (!u3)) rfl (r_nil ?_))))))))))
 refine cF hF (fun hF => ws 1728 1792 (qp (AB false) rfl (r_nil (w_ret (thenQ_r (eQ hF)))))) fun hF => w_skip (thenQ_n (w_seq (ws 1728 2112 (qp (.ptr 0 0 10) rfl (qp (AL 3 (v0.2.2.2.2.2.2.2.2.2.2.1.map eSyllable)) rfl (qp (.ptr 64 0 10) rfl (qp (AL 3 (v1.2.2.2.2.2.2.2.2.2.2.1.map eSyllable)) rfl (bk hF fun u4 e4 hF => qC (AB u4) (K5z v1 v0) (con_laws_eqSyllableS e4) c41_ (qp (AB (!u4)) rfl (r_nil ?_))))))))))
 refine cF hF (fun hF => ws 2112 2176 (qp (AB false) rfl (r_nil (w_ret (thenQ_r (eQ hF)))))) fun hF => w_skip (thenQ_n (w_seq (ws 2112 2496 (qp (.ptr 0 0 11) rfl (qp (AL 2 (v0.2.2.2.2.2.2.2.2.2.2.2.1.map eNote)) rfl (qp (.ptr 64 0 11) rfl (qp (AL 2 (v1.2.2.2.2.2.2.2.2.2.2.2.1.map eNote)) rfl (bk hF fun u5 e5 hF => qC (AB u5) (K5z v1 v0) (con_laws_eqTempoMarkS e5) c42_ (qp (AB (!u5)) rfl (r_nil ?_))))))))))
 refine cF hF (fun hF => ws 2496 2560 (qp (AB false) rfl (r_nil (w_ret (thenQ_r (eQ hF)))))) fun hF => w_skip (thenQ_n (w_seq (ws 2496 2880 (qp (.ptr 0 0 12) rfl (qp (AL 6 (v0.2.2.2.2.2.2.2.2.2.2.2.2.1.map eItem)) rfl (qp (.ptr 64 0 12) rfl (qp (AL 6 (v1.2.2.2.2.2.2.2.2.2.2.2.2.1.map eItem)) rfl (bk hF fun u6 e6 hF => qC (AB u6) (K5z v1 v0) (con_laws_eqItemS e6) c43_ (qp (AB (!u6)) rfl (r_nil ?_))))))))))
 refine cF hF (fun hF => ws 2880 2944 (qp (AB false) rfl (r_nil (w_ret (thenQ_r (eQ hF)))))) fun hF => w_skip (thenQ_n (w_seq (ws 2880 3264 (qp (.ptr 0 0 13) rfl (qp (AL 5 (v0.2.2.2.2.2.2.2.2.2.2.2.2.2.1.map eLesson)) rfl (qp (.ptr 64 0 13) rfl (qp (AL 5 (v1.2.2.2.2.2.2.2.2.2.2.2.2.2.1.map eLesson)) rfl (bk hF fun u7 e7 hF => qC (AB u7) (K5z v1 v0) (con_laws_eqLessonS e7) c44_ (qp (AB (!u7)) rfl (r_nil ?_))))))))))
 refine cF hF (fun hF => ws 3264 3328 (qp (AB false) rfl (r_nil (w_ret (thenQ_r (eQ hF)))))) fun hF => w_skip (thenQ_n (w_seq (ws 3264 3648 (qp (.ptr 0 0 14) rfl (qp (AL 3 (v0.2.2.2.2.2.2.2.2.2.2.2.2.2.2.map ePerson)) rfl (qp (.ptr 64 0 14) rfl (qp (AL 3 (v1.2.2.2.2.2.2.2.2.2.2.2.2.2.2.map ePerson)) rfl (bk hF fun u8 e8 hF => qC (AB u8) (K5z v1 v0) (con_laws_eqPersonS e8) c45_ (qp (AB (!u8)) rfl (r_nil ?_))))))))))
 refine cF hF (fun hF => ws 3648 3712 (qp (AB false) rfl (r_nil (w_ret (thenQ_r (eQ hF)))))) fun hF => ?_
 exact w_skip (thenQ_n (ws 3648 3712 (qp (AB true) rfl (rR hF))))

end Go.Ab
