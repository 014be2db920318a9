/- Walks (printed by auto.py, a program of this session's own). -/
import Derived.Test.YtikfkniplbeeeaaGreatDoorU2
import Derived.Test.YtikfkniplbeeeaaGreatDoorProg
import Derived.KernelRfl
import Derived.Test.YtikfkniplbeeeaaGreatDoorSQ
set_option linter.unusedVariables false
set_option linter.unusedSimpArgs false
set_option maxRecDepth 8000
set_option maxHeartbeats 8000000
noncomputable section
namespace Go.Ab
open Go.RowKit Go.Proofs

def c106 : MC := (sr [rg 3 (.f (.box t0)), pT 6 (.mv (ci 0))] (sr [mvt 9 1, dT 10 105 [t9], mvt 11 2, dT 12 105 [t11], rg 7 (.f (.alloc [((.int .i64 0), (0, false))])), rg 8 (.f (.alloc [((.int .i64 0), (0, false))])), ⟨none, none, (.f (.st t7 t10 1))⟩, ⟨none, none, (.f (.st t8 t12 1))⟩] (.seq (.block 0 (sr [pT 14 (.ld t3 6 true), lT 15 7, dT 16 104 [t14, t15], pT 17 (.not t16), mvt 18 17, kF 19 18 (.ld t3 6 true), kF 20 18 (.ld t8 1 false), ⟨(some 21), (some (18, false)), (.call true 104 [t19, t20])⟩, kF 22 18 (.not t21), pT 23 (.pick t18 ct t22), mvt 13 23] (.cond t13 (sr [pT 6 (.mv (ci 1))] .ret) (sr [mvt 25 1, mvt 26 2, bT 27 .sub t25 t26, dT 28 133 [t27], bT 29 .gtr t28 (ci 12), mvt 24 29] (.cond t24 (sr [pT 6 (.mv (ci 2))] .ret) (sr [mvt 31 2, mvt 32 1, bT 33 .gtr t31 t32, mvt 34 33, kT 35 34 (.fad t3 1), kT 36 34 (.ld t35 1 false), kT 37 34 (.ld t8 1 false), ⟨(some 38), (some (34, true)), (.call true 132 [t36, t37])⟩, kT 39 34 (.not t38), pT 40 (.pick t34 t39 cf), mvt 30 40] (.cond t30 (sr [pT 6 (.mv (ci 3))] .ret) (sr [mvt 42 2, mvt 43 1, bT 44 .lss t42 t43, mvt 45 44, kT 46 45 (.fad t3 2), kT 47 45 (.ld t46 1 false), kT 48 45 (.ld t8 1 false), ⟨(some 49), (some (45, true)), (.call true 132 [t47, t48])⟩, kT 50 45 (.not t49), pT 51 (.pick t45 t50 cf), mvt 41 51] (.cond t41 (sr [pT 6 (.mv (ci 4))] .ret) (sr [pT 53 (.fad t3 5), lT 54 53, pT 55 (.mkf 135 [t7, t8]), dT 56 134 [t54, t55], mvt 52 56] (.cond t52 (sr [pT 6 (.mv (ci 5))] .ret) .skip))))))))))) (sr [pT 6 (.mv (ci 0))] .ret))))
theorem c106_ : IsF Tryz.prog 106 c106 [(.tmp 6)] := ⟨by kernel_rfl, by kernel_rfl⟩

def F_impl_Raga_reason_j2 (v0 : TRaga) (u0 : Int) (u1 : Int) (x9 : Bool) : Option (Int) :=
 (bif x9 then some 4
 else ((F_slices_ContainsFunc_SSint64_Sint64 v0.2.2.2.2.2 u0 u1).bind fun u10 => (bif u10 then some 5
 else some 0)))
def F_impl_Raga_reason_j1 (v0 : TRaga) (v1 : Int) (v2 : Int) (u0 : Int) (u1 : Int) (x8 : Bool) : Option (Int) :=
 (bif x8 then some 3
 else (bif (decide (v2 < v1)) then ((F_slices_Contains_Sint64_int64 v0.2.2.1 u1).bind fun u9 => F_impl_Raga_reason_j2 v0 u0 u1 (!u9))
 else F_impl_Raga_reason_j2 v0 u0 u1 false))
def F_impl_Raga_reason_j0 (v0 : TRaga) (v1 : Int) (v2 : Int) (u0 : Int) (u1 : Int) (x5 : Bool) : Option (Int) :=
 (bif x5 then some 1
 else ((F_impl_abs (w64 (v1 - v2))).bind fun u6 => (bif (decide ((12 : Int) < u6)) then some 2
 else (bif (decide (v1 < v2)) then ((F_slices_Contains_Sint64_int64 v0.2.1 u1).bind fun u8 => F_impl_Raga_reason_j1 v0 v1 v2 u0 u1 (!u8))
 else F_impl_Raga_reason_j1 v0 v1 v2 u0 u1 false))))
def F_impl_Raga_reason (v0 : TRaga) (v1 : Int) (v2 : Int) : Option (Int) :=
 ((F_impl_ToneOf v1).bind fun u0 => ((F_impl_ToneOf v2).bind fun u1 => ((F_impl_Raga_hasTone v0 u0).bind fun u4 => (bif (!u4) then F_impl_Raga_reason_j0 v0 v1 v2 u0 u1 true
 else ((F_impl_Raga_hasTone v0 u1).bind fun u5 => F_impl_Raga_reason_j0 v0 v1 v2 u0 u1 (!u5))))))
@[simp] abbrev K4k (v0 : TRaga) : List AV := [AS v0.1, AL 1 (v0.2.1.map vI), AL 1 (v0.2.2.1.map vI), AI v0.2.2.2.1, AI v0.2.2.2.2.1, AL 1 (v0.2.2.2.2.2.map (eL 1 vI))]
@[simp] abbrev K4e (v0 : TRaga) : List (Nat × Root) := [(0, .box (K4k v0))]
@[simp] abbrev K4g (v0 : TRaga) : List (Nat × Root) := ((448, .box [AI 0]) :: (384, .box [AI 0]) :: (K4e v0))
@[simp] abbrev K4j (u1 : Int) (u0 : Int) (v0 : TRaga) : List (Nat × Root) := ((448, .box [AI u1]) :: (384, .box [AI u0]) :: (K4g v0))
@[simp] def res_impl_Raga_reason (r : Int) : RV := .one (.one (.val (.int .i64 r)))
theorem con_impl_Raga_reason {v0 : TRaga} {v1 : Int} {v2 : Int} {r : Int} (hF : F_impl_Raga_reason v0 v1 v2 = some r) : Con Tryz.prog 106 [eRaga v0, .int .i64 v1, .int .i64 v2] (res_impl_Raga_reason r) := by
 unfold F_impl_Raga_reason at hF
 refine con_of c106_.1 fun N => ?_
 refine ws 0 128 (qf (.ptr 0 0 0) (K4e v0) (by simp) (qp (AI 0) rfl (r_nil (ws 128 640 (qp (AI v1) rfl (bk hF fun u0 e0 hF => qC (AI u0) (K4e v0) (con_impl_ToneOf e0) c105_ (qp (AI v2) rfl (bk hF fun u1 e1 hF => qC (AI u1) (K4e v0) (con_impl_ToneOf e1) c105_ (qf (.ptr 384 0 0) ((384, .box [AI 0]) :: (K4e v0)) (by simp) (qf (.ptr 448 0 0) (K4g v0) (by simp) (qf0 (.undef) ((384, .box [AI u0]) :: (K4g v0)) (by simp) (qf0 (.undef) (K4j u1 u0 v0) (by simp) (r_nil (w_seq (w_block ?_)))))))))))))))
 refine w_meet (fun s' => ∃ (x5 : Bool), s' = mkS [(1, AI v1), (2, AI v2), (3, .ptr 0 0 0), (7, .ptr 1 0 0), (8, .ptr 2 0 0), (13, AB x5)] (fo ((2, .box [AI u1]) :: (1, .box [AI u0]) :: (K4e v0))) 3 ∧ F_impl_Raga_reason_j0 v0 v1 v2 u0 u1 x5 = some r) ?_ ?_
 ·
  refine w_reg 640 1344 rfl rfl (qp (.agg (K4k v0)) rfl (qp (AI u0) rfl (bk hF fun u4 e4 hF => qC (AB u4) (K4j u1 u0 v0) (con_impl_Raga_hasTone e4) c104_ (qp (AB (!u4)) rfl (qp (AB (!u4)) rfl ?_)))))
  refine q_case 18 hF rfl (fun hF => ?_) (fun hF => ?_)
  ·
   refine qn4 (qp (AB true) rfl (qp (AB true) rfl (r_nil (thenQ_n ?_))))
   refine ar (l' := [(1, AI v1), (2, AI v2), (3, .ptr 0 0 0), (7, .ptr 1 0 0), (8, .ptr 2 0 0), (13, AB true)]) (L := ((2, .box [AI u1]) :: (1, .box [AI u0]) :: (K4e v0))) [1, 2, 3, 7, 8, 13] [(448, 2), (384, 1), (0, 0)] 3 ⟨_, rfl, hF⟩
  refine qg (.agg (K4k v0)) rfl rfl (qg (AI u1) rfl rfl (bk hF fun u5 e5 hF => qG (AB u5) (K4j u1 u0 v0) (con_impl_Raga_hasTone e5) c104_ (qg (AB (!u5)) rfl rfl (qp (AB (!u5)) rfl (qp (AB (!u5)) rfl (r_nil (thenQ_n ?_)))))))
  refine ar (l' := [(1, AI v1), (2, AI v2), (3, .ptr 0 0 0), (7, .ptr 1 0 0), (8, .ptr 2 0 0), (13, AB (!u5))]) (L := ((2, .box [AI u1]) :: (1, .box [AI u0]) :: (K4e v0))) [1, 2, 3, 7, 8, 13] [(448, 2), (384, 1), (0, 0)] 3 ⟨_, rfl, hF⟩
 rintro s' ⟨x5, rfl, hF⟩
 unfold F_impl_Raga_reason_j0 at hF
 refine cF hF (fun hF => ws 3 67 (qp (AI 1) rfl (r_nil (w_ret (blockQ_r (thenQ_r (eQ hF))))))) fun hF => ws 3 387 (qp (AI v1) rfl (qp (AI v2) rfl (qp (AI (w64 (v1 - v2))) rfl (bk hF fun u6 e6 hF => qC (AI u6) ((2, .box [AI u1]) :: (1, .box [AI u0]) :: (K4e v0)) (con_impl_abs e6) c133_ (qp (AB (decide ((12 : Int) < u6))) rfl (qp (AB (decide ((12 : Int) < u6))) rfl (r_nil ?_)))))))
 refine cF hF (fun hF => ws 387 451 (qp (AI 2) rfl (r_nil (w_ret (blockQ_r (thenQ_r (eQ hF))))))) fun hF => ?_
 refine w_meet (fun s' => ∃ (x8 : Bool), s' = mkS [(1, AI v1), (2, AI v2), (3, .ptr 0 0 0), (7, .ptr 1 0 0), (8, .ptr 2 0 0), (30, AB x8)] (fo ((2, .box [AI u1]) :: (1, .box [AI u0]) :: (K4e v0))) 3 ∧ F_impl_Raga_reason_j1 v0 v1 v2 u0 u1 x8 = some r) ?_ ?_
 ·
  refine w_reg 387 1091 rfl rfl (qp (AI v2) rfl (qp (AI v1) rfl (qp (AB (decide (v1 < v2))) rfl (qp (AB (decide (v1 < v2))) rfl ?_))))
  refine q_case 34 hF rfl (fun hF => ?_) (fun hF => ?_)
  ·
   refine qg (.ptr 0 0 1) rfl rfl (qg (AL 1 (v0.2.1.map vI)) rfl rfl (qg (AI u1) rfl rfl (bk hF fun u8 e8 hF => qG (AB u8) ((2, .box [AI u1]) :: (1, .box [AI u0]) :: (K4e v0)) (con_slices_Contains_Sint64_int64 e8) c132_ (qg (AB (!u8)) rfl rfl (qp (AB (!u8)) rfl (qp (AB (!u8)) rfl (r_nil (thenQ_n ?_))))))))
   refine ar (l' := [(1, AI v1), (2, AI v2), (3, .ptr 0 0 0), (7, .ptr 1 0 0), (8, .ptr 2 0 0), (30, AB (!u8))]) (L := ((2, .box [AI u1]) :: (1, .box [AI u0]) :: (K4e v0))) [1, 2, 3, 7, 8, 30] [(2, 2), (1, 1), (0, 0)] 3 ⟨_, rfl, hF⟩
  refine qn5 (qp (AB false) rfl (qp (AB false) rfl (r_nil (thenQ_n ?_))))
  refine ar (l' := [(1, AI v1), (2, AI v2), (3, .ptr 0 0 0), (7, .ptr 1 0 0), (8, .ptr 2 0 0), (30, AB false)]) (L := ((2, .box [AI u1]) :: (1, .box [AI u0]) :: (K4e v0))) [1, 2, 3, 7, 8, 30] [(2, 2), (1, 1), (0, 0)] 3 ⟨_, rfl, hF⟩
 rintro s' ⟨x8, rfl, hF⟩
 unfold F_impl_Raga_reason_j1 at hF
 refine cF hF (fun hF => ws 3 67 (qp (AI 3) rfl (r_nil (w_ret (blockQ_r (thenQ_r (eQ hF))))))) fun hF => ?_
 refine w_meet (fun s' => ∃ (x9 : Bool), s' = mkS [(3, .ptr 0 0 0), (7, .ptr 1 0 0), (8, .ptr 2 0 0), (41, AB x9)] (fo ((2, .box [AI u1]) :: (1, .box [AI u0]) :: (K4e v0))) 3 ∧ F_impl_Raga_reason_j2 v0 u0 u1 x9 = some r) ?_ ?_
 ·
  refine w_reg 3 707 rfl rfl (qp (AI v2) rfl (qp (AI v1) rfl (qp (AB (decide (v2 < v1))) rfl (qp (AB (decide (v2 < v1))) rfl ?_))))
  refine q_case 45 hF rfl (fun hF => ?_) (fun hF => ?_)
  ·
   refine qg (.ptr 0 0 2) rfl rfl (qg (AL 1 (v0.2.2.1.map vI)) rfl rfl (qg (AI u1) rfl rfl (bk hF fun u9 e9 hF => qG (AB u9) ((2, .box [AI u1]) :: (1, .box [AI u0]) :: (K4e v0)) (con_slices_Contains_Sint64_int64 e9) c132_ (qg (AB (!u9)) rfl rfl (qp (AB (!u9)) rfl (qp (AB (!u9)) rfl (r_nil (thenQ_n ?_))))))))
   refine ar (l' := [(3, .ptr 0 0 0), (7, .ptr 1 0 0), (8, .ptr 2 0 0), (41, AB (!u9))]) (L := ((2, .box [AI u1]) :: (1, .box [AI u0]) :: (K4e v0))) [3, 7, 8, 41] [(2, 2), (1, 1), (0, 0)] 3 ⟨_, rfl, hF⟩
  refine qn5 (qp (AB false) rfl (qp (AB false) rfl (r_nil (thenQ_n ?_))))
  refine ar (l' := [(3, .ptr 0 0 0), (7, .ptr 1 0 0), (8, .ptr 2 0 0), (41, AB false)]) (L := ((2, .box [AI u1]) :: (1, .box [AI u0]) :: (K4e v0))) [3, 7, 8, 41] [(2, 2), (1, 1), (0, 0)] 3 ⟨_, rfl, hF⟩
 rintro s' ⟨x9, rfl, hF⟩
 unfold F_impl_Raga_reason_j2 at hF
 refine cF hF (fun hF => ws 3 67 (qp (AI 4) rfl (r_nil (w_ret (blockQ_r (thenQ_r (eQ hF))))))) fun hF => ws 3 323 (qp (.ptr 0 0 5) rfl (qp (AL 1 (v0.2.2.2.2.2.map (eL 1 vI))) rfl (qp (.fn 135 [.ptr 1 0 0, .ptr 2 0 0]) rfl (bk hF fun u10 e10 hF => qc (AB u10) ((2, .box [AI u1]) :: (1, .box [AI u0]) :: (K4e v0)) true (con_slices_ContainsFunc_SSint64_Sint64 e10) c134_.2 (by simp [List.take_of_length_le]) rfl (qp (AB u10) rfl (r_nil ?_))))))
 refine cF hF (fun hF => ws 323 387 (qp (AI 5) rfl (r_nil (w_ret (blockQ_r (thenQ_r (eQ hF))))))) fun hF => ?_
 exact w_skip (blockQ_n (thenQ_n (ws 323 387 (qp (AI 0) rfl (rR hF)))))

def c76 : MC := (sr [rg 3 (.f (.box t0)), rg 6 (.f (.alloc [((.int .i64 0), (0, false)), ((.int .i64 0), (0, false)), ((.sl 0 []), (1, false)), ((.sl 0 []), (3, false))])), pT 7 (.mv (ci 0))] (.seq (.block 0 (sr [pT 16 (.ld t3 6 true), dT 17 102 [t16], pT 18 (.not t17), mvt 15 18] (.cond t15 (sr [rg 19 (.f (.bld [((.int .i64 0), (0, false)), ((.int .i64 0), (0, false)), ((.sl 0 []), (1, false)), ((.sl 0 []), (3, false))] [])), ⟨none, none, (.f (.st t6 t19 4))⟩, pT 7 (.mv (ci 1))] .ret) (sr [mvt 21 1, dT 22 103 [t21], pT 23 (.not t22), mvt 24 23, nF 25 24 t2, nF 26 24 t1, ⟨(some 27), (some (24, false)), (.call true 81 [t25, t26, (ci 23)])⟩, kF 28 24 (.not t27), pT 29 (.pick t24 ct t28), mvt 20 29] (.cond t20 (sr [rg 30 (.f (.bld [((.int .i64 0), (0, false)), ((.int .i64 0), (0, false)), ((.sl 0 []), (1, false)), ((.sl 0 []), (3, false))] [])), ⟨none, none, (.f (.st t6 t30 4))⟩, pT 7 (.mv (ci 2))] .ret) .skip))))) (sr [rg 31 (.f (.bld [((.int .i64 0), (0, true)), ((.int .i64 0), (0, false)), ((.sl 0 []), (1, false)), ((.sl 0 []), (3, false))] [(0, (1, (ci 1)))])), rg 8 (.f (.alloc [((.int .i64 0), (0, false)), ((.int .i64 0), (0, false)), ((.sl 0 []), (1, false)), ((.sl 0 []), (3, false))])), ⟨none, none, (.f (.st t8 t31 4))⟩] (sr [rg 9 (.f (.nilrow 1))] (.seq (sr [mvt 32 1, mvt 10 32] (.block 1 (.loop (.seq (sr [mvt 33 10, mvt 34 2, bT 35 .leq t33 t34] (cx t35 1)) (.seq (.block 2 (.seq (sr [pF 38 (.ld t3 6 true), mP 39 t10, dF 40 105 [t39], dF 41 104 [t38, t40], pF 42 (.not t41)] (.cond t42 (.exit 2) .skip)) (sr [mvt 43 9, mvt 44 10, rg 45 (.f (.bsl 1 [t44])), rg 46 (.f (.app t43 t45 1 8 true)), mvt 9 46] (.seq (sr [mvt 47 10, dT 48 105 [t47], bT 49 .eql t48 (ci 0)] (.cond t49 (.reg [pT 50 (.fad t8 2), lT 51 50, pT 52 (.fad t8 0), lT 53 52, rg 54 (.f (.bsl 1 [t53])), rg 55 (.f (.app t51 t54 1 8 true)), pT 56 (.fad t8 2), ⟨none, none, (.f (.st t56 t55 1))⟩]) .skip)) (sr [pT 57 (.fad t8 3), lT 58 57, mvt 59 10, pT 60 (.fad t8 0), lT 61 60, rg 62 (.f (.bld [((.int .i64 0), (0, true)), ((.int .i64 0), (0, true)), ((.int .i64 0), (0, true))] [(0, (1, (ci 0))), (1, (1, t59)), (2, (1, t61))])), rg 63 (.f (.bsl 3 [t62])), rg 64 (.f (.app t58 t63 3 24 true)), pT 65 (.fad t8 3), ⟨none, none, (.f (.st t65 t64 1))⟩] (.reg [pT 66 (.fad t8 0), lT 67 66, bT 68 .add t67 (ci 1), pT 69 (.fad t8 0), ⟨none, none, (.f (.st t69 t68 1))⟩])))))) (.reg [mvt 36 10, bT 37 .add t36 (ci 1), mvt 10 37])))))) (.seq (sr [mvt 70 9, zT 71 70, pT 72 (.mv (ci 0))] (.block 3 (.loop (sr [bT 73 .lss t72 t71] (.seq (cx t73 3) (.seq (.block 4 (sr [mvt 74 72, iT 75 70 72 1, lT 76 75, mvt 11 74, mvt 12 76] (sr [mvt 77 9, zT 78 77, pT 79 (.mv (ci 0))] (.block 5 (.loop (sr [bT 80 .lss t79 t78] (.seq (cx t80 5) (.seq (.block 6 (sr [mvt 81 79, iT 82 77 79 1, lT 83 82, mvt 13 81, mvt 14 83] (sr [pT 84 (.ld t3 6 true), mvt 85 12, mvt 86 14, dT 87 106 [t84, t85, t86], bT 88 .eql t87 (ci 0)] (.cond t88 (.reg [pT 89 (.fad t8 3), lT 90 89, mvt 91 11, bT 92 .add t91 (ci 1), mvt 93 14, mvt 94 13, bT 95 .add t94 (ci 1), rg 96 (.f (.bld [((.int .i64 0), (0, true)), ((.int .i64 0), (0, true)), ((.int .i64 0), (0, true))] [(0, (1, t92)), (1, (1, t93)), (2, (1, t95))])), rg 97 (.f (.bsl 3 [t96])), rg 98 (.f (.app t90 t97 3 24 true)), pT 99 (.fad t8 3), ⟨none, none, (.f (.st t99 t98 1))⟩]) .skip)))) (.reg [bT 100 .add t79 (ci 1), mvt 79 100]))))))))) (.reg [bT 101 .add t72 (ci 1), mvt 72 101]))))))) (.seq (sr [pT 102 (.fad t8 0), lT 103 102, bT 104 .gtr t103 (ci 32), mvt 105 104, kF 106 105 (.fad t8 3), kF 107 105 (.ld t106 1 false), kF 108 105 (.len t107), kF 109 105 (.bin .gtr t108 (ci 256)), pT 110 (.pick t105 ct t109)] (.cond t110 (sr [rg 111 (.f (.bld [((.int .i64 0), (0, false)), ((.int .i64 0), (0, false)), ((.sl 0 []), (1, false)), ((.sl 0 []), (3, false))] [])), ⟨none, none, (.f (.st t6 t111 4))⟩, pT 7 (.mv (ci 5))] .ret) .skip)) (sr [pT 112 (.ld t8 4 true), ⟨none, none, (.f (.st t6 t112 4))⟩, pT 7 (.mv (ci 0))] .ret))))))))
theorem c76_ : IsF Tryz.prog 76 c76 [(.cell (.ld (.t 6) 4 true)), (.tmp 7)] := ⟨by kernel_rfl, by kernel_rfl⟩

def F_impl_GrammarOf_j3 (x36 : Int) (x37 : Int) (x38 : List Int) (x40 : List TArc) (k5 : Int × Int × (List Int) × (List Int) × (List TArc) → Option (TGrammar × Int)) (x41 : List Int) : Option (TGrammar × Int) :=
 (need (room (x40.length + ([(0, x36, x37)] : List TArc).length) 24) (k5 (w64 (x36 + 1), w64 (x37 + 1), x38 ++ [x36], x41, x40 ++ ([(0, x36, x37)] : List TArc))))
def F_impl_GrammarOf_l7 (v0 : TRaga) (u47 : Int) (x38 : List Int) (x52 : Int) (k8 : Int × (List TArc) → Option (TGrammar × Int)) (k9 : Int × (List TArc) → Option (TGrammar × Int)) : Int × (List TArc) → Option (TGrammar × Int)
 | (x56, x57) => (bif (decide (x56 < (x38.length : Int))) then ((ix x38 x56).bind fun u54 => ((F_impl_Raga_reason v0 u47 u54).bind fun u55 => (bif (decide (u55 = (0 : Int))) then (need (room (x57.length + ([(w64 (x52 + 1), u54, w64 (x56 + 1))] : List TArc).length) 24) (k9 (w64 (x56 + 1), x57 ++ ([(w64 (x52 + 1), u54, w64 (x56 + 1))] : List TArc))))
 else k9 (w64 (x56 + 1), x57))))
 else k8 (w64 (x52 + 1), x57))
def F_impl_GrammarOf_l6 (v0 : TRaga) (x37 : Int) (x38 : List Int) (x39 : List Int) (k8 : Int × (List TArc) → Option (TGrammar × Int)) : Int × (List TArc) → Option (TGrammar × Int)
 | (x52, x53) => (bif (decide (x52 < (x38.length : Int))) then ((ix x38 x52).bind fun u47 => loop (F_impl_GrammarOf_l7 v0 u47 x38 x52 k8) (0, x53))
 else (bif (decide ((32 : Int) < x37)) then some ((0, 0, [], []), 5)
 else (bif (decide ((256 : Int) < (x53.length : Int))) then some ((0, 0, [], []), 5)
 else some ((x37, 0, x39, x53), 0))))
def F_impl_GrammarOf_l2 (v0 : TRaga) (v2 : Int) (k5 : Int × Int × (List Int) × (List Int) × (List TArc) → Option (TGrammar × Int)) : Int × Int × (List Int) × (List Int) × (List TArc) → Option (TGrammar × Int)
 | (x36, x37, x38, x39, x40) => (bif (decide (x36 ≤ v2)) then ((F_impl_ToneOf x36).bind fun u19 => ((F_impl_Raga_hasTone v0 u19).bind fun u20 => (bif (!u20) then k5 (w64 (x36 + 1), x37, x38, x39, x40)
 else (need (room (x38.length + [x36].length) 8) (((F_impl_ToneOf x36).bind fun u24 => (bif (decide (u24 = (0 : Int))) then (need (room (x39.length + [x37].length) 8) (F_impl_GrammarOf_j3 x36 x37 x38 x40 k5 (x39 ++ [x37])))
 else F_impl_GrammarOf_j3 x36 x37 x38 x40 k5 x39)))))))
 else loop (F_impl_GrammarOf_l6 v0 x37 x38 x39) (0, x40))
def F_impl_GrammarOf (v0 : TRaga) (v1 : Int) (v2 : Int) : Option (TGrammar × Int) :=
 ((F_impl_ValidRaga v0).bind fun u0 => (bif (!u0) then some ((0, 0, [], []), 1)
 else ((F_impl_pitchOk v1).bind fun u1 => (bif (!u1) then some ((0, 0, [], []), 2)
 else ((F_impl_within v2 v1 23).bind fun u2 => (bif (!u2) then some ((0, 0, [], []), 2)
 else loop (F_impl_GrammarOf_l2 v0 v2) (v1, 1, [], [], [])))))))
@[simp] abbrev K57 (v0 : TRaga) : List AV := [AS v0.1, AL 1 (v0.2.1.map vI), AL 1 (v0.2.2.1.map vI), AI v0.2.2.2.1, AI v0.2.2.2.2.1, AL 1 (v0.2.2.2.2.2.map (eL 1 vI))]
@[simp] abbrev K4l (v0 : TRaga) : List (Nat × Root) := [(0, .box (K57 v0))]
@[simp] abbrev K4m (v0 : TRaga) : List (Nat × Root) := ((64, .box [AI 0, AI 0, .sl 65 0 0, .sl 66 0 0]) :: (66, .row true 3 (([] : List Int).map vI)) :: (65, .row true 1 (([] : List Int).map vI)) :: (K4l v0))
@[simp] abbrev K4n (v0 : TRaga) : List (Nat × Root) := ((449, .row true 3 (([] : List TArc).map eArc)) :: (448, .row true 1 (([] : List Int).map vI)) :: (K4m v0))
@[simp] abbrev K4o (v0 : TRaga) : List (Nat × Root) := ((1089, .row true 3 (([] : List TArc).map eArc)) :: (1088, .row true 1 (([] : List Int).map vI)) :: (K4m v0))
@[simp] abbrev K5f : List AV := [AI 0, AI 0, .sl 1088 0 0, .sl 1089 0 0]
@[simp] abbrev K4p (v0 : TRaga) : List (Nat × Root) := ((64, .box K5f) :: (K4o v0))
@[simp] abbrev K5c (x39 : List Int) : Nat × Root := (6, .row true 1 (x39.map vI))
@[simp] abbrev K58 : Nat × Root := (5, .row true 3 (([] : List Int).map vI))
@[simp] abbrev K59 : Nat × Root := (4, .row true 1 (([] : List Int).map vI))
@[simp] abbrev K5e (x38 : List Int) : Nat × Root := (3, .row true 1 (x38.map vI))
@[simp] abbrev K5a : Nat × Root := (1, .box [AI 0, AI 0, .sl 4 0 0, .sl 5 0 0])
@[simp] abbrev K4q (x40 : List TArc) (x39 : List Int) (x38 : List Int) (x37 : Int) (v0 : TRaga) : List (Nat × Root) := ((7, .row true 3 (x40.map eArc)) :: (K5c x39) :: K58 :: K59 :: (K5e x38) :: (2, .box [AI x37, AI 0, .sl 6 0 x39.length, .sl 7 0 x40.length]) :: K5a :: (K4l v0))
@[simp] abbrev K4r (x40 : List TArc) (x41 : List Int) (x38 : List Int) (x36 : Int) (x37 : Int) (v0 : TRaga) : List (Nat × Root) := ((7, .row true 3 (x40.map eArc)) :: (6, .row true 1 (x41.map vI)) :: K58 :: K59 :: (3, .row true 1 ((x38 ++ [x36]).map vI)) :: (2, .box [AI x37, AI 0, .sl 6 0 x41.length, .sl 7 0 x40.length]) :: K5a :: (K4l v0))
@[simp] abbrev K4s (x53 : List TArc) (x39 : List Int) (x38 : List Int) (x37 : Int) (v0 : TRaga) : List (Nat × Root) := ((7, .row true 3 (x53.map eArc)) :: (K5c x39) :: K58 :: K59 :: (K5e x38) :: (2, .box [AI x37, AI 0, .sl 6 0 x39.length, .sl 7 0 x53.length]) :: K5a :: (K4l v0))
@[simp] abbrev K4t (x57 : List TArc) (x39 : List Int) (x38 : List Int) (x37 : Int) (v0 : TRaga) : List (Nat × Root) := ((7, .row true 3 (x57.map eArc)) :: (K5c x39) :: K58 :: K59 :: (K5e x38) :: (2, .box [AI x37, AI 0, .sl 6 0 x39.length, .sl 7 0 x57.length]) :: K5a :: (K4l v0))
@[simp] abbrev K4u (v0 : TRaga) : List (Nat × Root) := ((1152, .box [AI 0, AI 0, .sl 1153 0 0, .sl 1154 0 0]) :: (1154, .row true 3 (([] : List Int).map vI)) :: (1153, .row true 1 (([] : List Int).map vI)) :: (K4o v0))
@[simp] abbrev K4w (x36 : Int) (x37 : Int) (x40 : List TArc) (x41 : List Int) (x38 : List Int) (v0 : TRaga) : List (Nat × Root) := ((392, .row true 3 (([(0, x36, x37)] : List TArc).map eArc)) :: (K4r x40 x41 x38 x36 x37 v0))
@[simp] abbrev K4x (x52 : Int) (u54 : Int) (x56 : Int) (x57 : List TArc) (x39 : List Int) (x38 : List Int) (x37 : Int) (v0 : TRaga) : List (Nat × Root) := ((1224, .row true 3 (([(w64 (x52 + 1), u54, w64 (x56 + 1))] : List TArc).map eArc)) :: (K4t x57 x39 x38 x37 v0))
@[simp] abbrev K4y (v0 : TRaga) : List (Nat × Root) := ((1152, .box [AI 1, AI 0, .sl 1088 0 0, .sl 1089 0 0]) :: (K4u v0))
@[simp] abbrev K4z (x53 : List TArc) (x39 : List Int) (x38 : List Int) (x37 : Int) (v0 : TRaga) : List (Nat × Root) := ((649, .row true 3 (([] : List TArc).map eArc)) :: (648, .row true 1 (([] : List Int).map vI)) :: (K4s x53 x39 x38 x37 v0))
@[simp] abbrev K50 (x53 : List TArc) (x39 : List Int) (x38 : List Int) (x37 : Int) (v0 : TRaga) : List (Nat × Root) := ((1, .box [AI 0, AI 0, .sl 648 0 0, .sl 649 0 0]) :: (K4z x53 x39 x38 x37 v0))
@[simp] abbrev K51 (x38 : List Int) (x36 : Int) (x40 : List TArc) (x39 : List Int) (x37 : Int) (v0 : TRaga) : List (Nat × Root) := ((712, .row true 1 ((x38 ++ [x36]).map vI)) :: (3, .dead) :: (648, .dead) :: (648, .row true 1 ([x36].map vI)) :: (K4q x40 x39 x38 x37 v0))
@[simp] abbrev K52 (x40 : List TArc) (x36 : Int) (x37 : Int) (x41 : List Int) (x38 : List Int) (v0 : TRaga) : List (Nat × Root) := ((456, .row true 3 ((x40 ++ ([(0, x36, x37)] : List TArc)).map eArc)) :: (7, .dead) :: (392, .dead) :: (K4w x36 x37 x40 x41 x38 v0))
@[simp] abbrev K53 (x57 : List TArc) (x52 : Int) (u54 : Int) (x56 : Int) (x39 : List Int) (x38 : List Int) (x37 : Int) (v0 : TRaga) : List (Nat × Root) := ((1288, .row true 3 ((x57 ++ ([(w64 (x52 + 1), u54, w64 (x56 + 1))] : List TArc)).map eArc)) :: (7, .dead) :: (1224, .dead) :: (K4x x52 u54 x56 x57 x39 x38 x37 v0))
@[simp] abbrev K54 (x37 : Int) (x38 : List Int) (x36 : Int) (x40 : List TArc) (x39 : List Int) (v0 : TRaga) : List (Nat × Root) := ((1288, .row true 1 ([x37].map vI)) :: (K51 x38 x36 x40 x39 x37 v0))
@[simp] abbrev K55 (x37 : Int) (x41 : List Int) (x40 : List TArc) (x36 : Int) (x38 : List Int) (v0 : TRaga) : List (Nat × Root) := ((2, .box [AI x37, AI 0, .sl 6 0 x41.length, .sl 456 0 ((x40 ++ ([(0, x36, x37)] : List TArc)).length)]) :: (K52 x40 x36 x37 x41 x38 v0))
@[simp] abbrev K56 (x39 : List Int) (x37 : Int) (x38 : List Int) (x36 : Int) (x40 : List TArc) (v0 : TRaga) : List (Nat × Root) := ((1352, .row true 1 ((x39 ++ [x37]).map vI)) :: (6, .dead) :: (1288, .dead) :: (K54 x37 x38 x36 x40 x39 v0))
@[simp] abbrev K5b (x38 : List Int) (x52 : Int) (u47 : Int) (x56 : Int) : List (Nat × AV) := [(3, .ptr 0 0 0), (6, .ptr 1 0 0), (8, .ptr 2 0 0), (9, .sl 3 0 x38.length), (11, AI x52), (12, AI u47), (70, .sl 3 0 x38.length), (71, AI (x38.length : Int)), (72, AI x52), (77, .sl 3 0 x38.length), (78, AI (x38.length : Int)), (79, AI (w64 (x56 + 1)))]
@[simp] abbrev K5d (v2 : Int) (x38 : List Int) (x36 : Int) : List (Nat × AV) := [(2, AI v2), (3, .ptr 0 0 0), (6, .ptr 1 0 0), (8, .ptr 2 0 0), (9, .sl 3 0 ((x38 ++ [x36]).length)), (10, AI x36)]
@[simp] def res_impl_GrammarOf (r : TGrammar × Int) : RV := .tup [.agg [.val (.int .i64 r.1.1), .val (.int .i64 r.1.2.1), .row true 1 (r.1.2.2.1.map vI), .row true 3 (r.1.2.2.2.map eArc)], .one (.val (.int .i64 r.2))]
theorem con_impl_GrammarOf {v0 : TRaga} {v1 : Int} {v2 : Int} {r : TGrammar × Int} (hF : F_impl_GrammarOf v0 v1 v2 = some r) : Con Tryz.prog 76 [eRaga v0, .int .i64 v1, .int .i64 v2] (res_impl_GrammarOf r) := by
 unfold F_impl_GrammarOf at hF
 refine con_of c76_.1 fun N => ?_
 refine ws 0 192 (qf (.ptr 0 0 0) (K4l v0) (by simp) (qf (.ptr 64 0 0) (K4m v0) (by simp) (qp (AI 0) rfl (r_nil (w_seq (w_block (ws 192 448 (qp (.agg (K57 v0)) rfl (bk hF fun u0 e0 hF => qC (AB u0) (K4m v0) (con_impl_ValidRaga e0) c102_ (qp (AB (!u0)) rfl (qp (AB (!u0)) rfl (r_nil ?_))))))))))))
 refine cF hF (fun hF => ?_) fun hF => ?_
 ·
  exact ws 448 640 (qf (.agg [AI 0, AI 0, .sl 448 0 0, .sl 449 0 0]) (K4n v0) (by simp) (qf0 (.undef) ((64, .box [AI 0, AI 0, .sl 448 0 0, .sl 449 0 0]) :: (K4n v0)) (by simp) (qp (AI 1) rfl (r_nil (w_ret (blockQ_r (thenQ_r (eQ hF))))))))
 refine ws 448 1088 (qp (AI v1) rfl (bk hF fun u1 e1 hF => qC (AB u1) (K4m v0) (con_impl_pitchOk e1) c103_ (qp (AB (!u1)) rfl (qp (AB (!u1)) rfl ?_))))
 refine q_case 24 hF rfl (fun hF => ?_) (fun hF => ?_)
 ·
  exact qn4 (qp (AB true) rfl (qp (AB true) rfl (r_nil (w_true rfl (ws 1088 1280 (qf (.agg K5f) (K4o v0) (by simp) (qf0 (.undef) (K4p v0) (by simp) (qp (AI 2) rfl (r_nil (w_ret (blockQ_r (thenQ_r (eQ hF)))))))))))))
 refine qg (AI v2) rfl rfl (qg (AI v1) rfl rfl (bk hF fun u2 e2 hF => qG (AB u2) (K4m v0) (con_impl_within e2) c81_ (qg (AB (!u2)) rfl rfl (qp (AB (!u2)) rfl (qp (AB (!u2)) rfl (r_nil ?_))))))
 refine cF hF (fun hF => ?_) fun hF => ?_
 ·
  exact ws 1088 1280 (qf (.agg K5f) (K4o v0) (by simp) (qf0 (.undef) (K4p v0) (by simp) (qp (AI 2) rfl (r_nil (w_ret (blockQ_r (thenQ_r (eQ hF))))))))
 refine w_skip (blockQ_n (thenQ_n (ws 1088 1280 (qf (.agg [AI 1, AI 0, .sl 1088 0 0, .sl 1089 0 0]) (K4o v0) (by simp) (qf (.ptr 1152 0 0) (K4u v0) (by simp) (qf0 (.undef) (K4y v0) (by simp) (r_nil (ws 1280 1344 (qf (.sl 1280 0 0) ((1280, .row true 1 (([] : List Int).map vI)) :: (K4y v0)) (by simp) (r_nil (w_seq (ws 1344 1472 ?_))))))))))))
 refine qp (AI v1) rfl (qp (AI v1) rfl (r_nil (w_block ?_)))
 refine w_ren (l' := [(2, AI v2), (3, .ptr 0 0 0), (6, .ptr 1 0 0), (8, .ptr 2 0 0), (9, .sl 3 0 0), (10, AI v1)]) (L := ((7, .row true 3 (([] : List TArc).map eArc)) :: (6, .row true 1 (([] : List Int).map vI)) :: K58 :: K59 :: (3, .row true 1 (([] : List Int).map vI)) :: (2, .box [AI 1, AI 0, .sl 6 0 0, .sl 7 0 0]) :: K5a :: (K4l v0))) [2, 3, 6, 8, 9, 10] [(1089, 7), (1088, 6), (66, 5), (65, 4), (1280, 3), (1152, 2), (64, 1), (0, 0)] 8 (by first | rfl | simp) (by first | rfl | simp) (by decide) (by decide) (by decide) ?_
 refine w_loopF (F_impl_GrammarOf_l2 v0 v2) (fun s : Int × Int × (List Int) × (List Int) × (List TArc) => mkS [(2, AI v2), (3, .ptr 0 0 0), (6, .ptr 1 0 0), (8, .ptr 2 0 0), (9, .sl 3 0 s.2.2.1.length), (10, AI s.1)] (fo [(7, .row true 3 (s.2.2.2.2.map eArc)), (6, .row true 1 (s.2.2.2.1.map vI)), K58, K59, (3, .row true 1 (s.2.2.1.map vI)), (2, .box [AI s.2.1, AI 0, .sl 6 0 s.2.2.2.1.length, .sl 7 0 s.2.2.2.2.length]), K5a, (0, .box (K57 v0))]) 8) hF ?_
 rintro k5 ⟨x36, x37, x38, x39, x40⟩ hF
 rw [F_impl_GrammarOf_l2] at hF
 try dsimp only
 refine w_seq (ws 8 200 (qp (AI x36) rfl (qp (AI v2) rfl (qp (AB (decide (x36 ≤ v2))) rfl (r_nil ?_)))))
 refine cF hF (fun hF => ?_) fun hF => ?_
 ·
  refine w_skip (thenQ_n (w_seq (w_block (w_seq (ws 200 520 (qp (.agg (K57 v0)) rfl (qp (AI x36) rfl (bk hF fun u19 e19 hF => qC (AI u19) (K4q x40 x39 x38 x37 v0) (con_impl_ToneOf e19) c105_ (bk hF fun u20 e20 hF => qC (AB u20) (K4q x40 x39 x38 x37 v0) (con_impl_Raga_hasTone e20) c104_ (qp (AB (!u20)) rfl (r_nil ?_)))))))))))
  refine cF hF (fun hF => ?_) fun hF => ?_
  ·
   refine w_exit (thenQ_e (blockQ_e (thenQ_n (w_reg 520 712 rfl rfl (qp (AI x36) rfl (qp (AI (w64 (x36 + 1))) rfl (qp (AI (w64 (x36 + 1))) rfl (r_nil (thenQ_n ?_)))))))))
   refine ar (l' := [(2, AI v2), (3, .ptr 0 0 0), (6, .ptr 1 0 0), (8, .ptr 2 0 0), (9, .sl 3 0 x38.length), (10, AI (w64 (x36 + 1)))]) (L := (K4q x40 x39 x38 x37 v0)) [2, 3, 6, 8, 9, 10] [(7, 7), (6, 6), (5, 5), (4, 4), (3, 3), (2, 2), (1, 1), (0, 0)] 8 ⟨_, by rfl, hF⟩
  refine w_skip (thenQ_n (ws 520 840 (qp (.sl 3 0 x38.length) rfl (qp (AI x36) rfl (qf (.sl 648 0 ([x36].length)) ((648, .row true 1 ([x36].map vI)) :: (K4q x40 x39 x38 x37 v0)) (by simp [List.take_of_length_le]) (nk hF fun g21 hF => qf (.sl 712 0 ((x38 ++ [x36]).length)) (K51 x38 x36 x40 x39 x37 v0) (effT_app_l rfl (by simp) rfl rfl (by simp) rfl (by decide) g21 rfl) (qp (.sl 712 0 ((x38 ++ [x36]).length)) rfl (r_nil ?_))))))))
  refine w_meet (fun s' => ∃ (x41 : List Int), s' = mkS (K5d v2 x38 x36) (fo (K4r x40 x41 x38 x36 x37 v0)) 8 ∧ F_impl_GrammarOf_j3 x36 x37 x38 x40 k5 x41 = some r) ?_ ?_
  ·
   refine ws 840 1032 (qp (AI x36) rfl (bk hF fun u24 e24 hF => qC (AI u24) (K51 x38 x36 x40 x39 x37 v0) (con_impl_ToneOf e24) c105_ (qp (AB (decide (u24 = (0 : Int)))) rfl (r_nil ?_))))
   refine cF hF (fun hF => ?_) fun hF => ?_
   ·
    refine w_reg 1032 1544 rfl rfl (qp (.ptr 2 0 2) rfl (qp (.sl 6 0 x39.length) rfl (qp (.ptr 2 0 0) rfl (qp (AI x37) rfl (qf (.sl 1288 0 ([x37].length)) (K54 x37 x38 x36 x40 x39 v0) (by simp [List.take_of_length_le]) (nk hF fun g25 hF => qf (.sl 1352 0 ((x39 ++ [x37]).length)) (K56 x39 x37 x38 x36 x40 v0) (effT_app_l rfl (by simp) rfl rfl (by simp) rfl (by decide) g25 rfl) (qp (.ptr 2 0 2) rfl (qf0 (.undef) ((2, .box [AI x37, AI 0, .sl 1352 0 ((x39 ++ [x37]).length), .sl 7 0 x40.length]) :: (K56 x39 x37 x38 x36 x40 v0)) (by simp) (r_nil (thenQ_n ?_))))))))))
    refine ar (l' := (K5d v2 x38 x36)) (L := ((7, .row true 3 (x40.map eArc)) :: (6, .row true 1 ((x39 ++ [x37]).map vI)) :: K58 :: K59 :: (3, .row true 1 ((x38 ++ [x36]).map vI)) :: (2, .box [AI x37, AI 0, .sl 6 0 (x39 ++ [x37]).length, .sl 7 0 x40.length]) :: K5a :: (K4l v0))) [2, 3, 6, 8, 9, 10] [(7, 7), (1352, 6), (5, 5), (4, 4), (712, 3), (2, 2), (1, 1), (0, 0)] 8 ⟨_, rfl, hF⟩
   refine w_skip (thenQ_n ?_)
   refine ar (l' := (K5d v2 x38 x36)) (L := ((7, .row true 3 (x40.map eArc)) :: (K5c x39) :: K58 :: K59 :: (3, .row true 1 ((x38 ++ [x36]).map vI)) :: (2, .box [AI x37, AI 0, .sl 6 0 x39.length, .sl 7 0 x40.length]) :: K5a :: (K4l v0))) [2, 3, 6, 8, 9, 10] [(7, 7), (6, 6), (5, 5), (4, 4), (712, 3), (2, 2), (1, 1), (0, 0)] 8 ⟨_, rfl, hF⟩
  rintro s' ⟨x41, rfl, hF⟩
  unfold F_impl_GrammarOf_j3 at hF
  refine ws 8 648 (qp (.ptr 2 0 3) rfl (qp (.sl 7 0 x40.length) rfl (qp (AI x36) rfl (qp (.ptr 2 0 0) rfl (qp (AI x37) rfl (qf (.agg [AI 0, AI x36, AI x37]) (K4r x40 x41 x38 x36 x37 v0) (by simp) (qf (.sl 392 0 (([(0, x36, x37)] : List TArc).length)) (K4w x36 x37 x40 x41 x38 v0) (by simp [List.take_of_length_le]) (nk hF fun g26 hF => qf (.sl 456 0 ((x40 ++ ([(0, x36, x37)] : List TArc)).length)) (K52 x40 x36 x37 x41 x38 v0) (effT_app_l rfl (by simp) rfl rfl (by simp) rfl (by decide) g26 rfl) (qp (.ptr 2 0 3) rfl (qf0 (.undef) (K55 x37 x41 x40 x36 x38 v0) (by simp) (r_nil (w_reg 648 968 rfl rfl ?_))))))))))))
  refine qp (.ptr 2 0 0) rfl (qp (AI x37) rfl (qp (AI (w64 (x37 + 1))) rfl (qp (.ptr 2 0 0) rfl (qf0 (.undef) ((2, .box [AI (w64 (x37 + 1)), AI 0, .sl 6 0 x41.length, .sl 456 0 ((x40 ++ ([(0, x36, x37)] : List TArc)).length)]) :: (K55 x37 x41 x40 x36 x38 v0)) (by simp) (r_nil (blockQ_n (thenQ_n (w_reg 968 1160 rfl rfl ?_))))))))
  refine qp (AI x36) rfl (qp (AI (w64 (x36 + 1))) rfl (qp (AI (w64 (x36 + 1))) rfl (r_nil (thenQ_n ?_))))
  refine ar (l' := [(2, AI v2), (3, .ptr 0 0 0), (6, .ptr 1 0 0), (8, .ptr 2 0 0), (9, .sl 3 0 (x38 ++ [x36]).length), (10, AI (w64 (x36 + 1)))]) (L := ((7, .row true 3 ((x40 ++ ([(0, x36, x37)] : List TArc)).map eArc)) :: (6, .row true 1 (x41.map vI)) :: K58 :: K59 :: (3, .row true 1 ((x38 ++ [x36]).map vI)) :: (2, .box [AI (w64 (x37 + 1)), AI 0, .sl 6 0 x41.length, .sl 7 0 (x40 ++ ([(0, x36, x37)] : List TArc)).length]) :: K5a :: (K4l v0))) [2, 3, 6, 8, 9, 10] [(456, 7), (6, 6), (5, 5), (4, 4), (3, 3), (2, 2), (1, 1), (0, 0)] 8 ⟨_, by rfl, hF⟩
 refine w_exit (thenQ_e (thenQ_e (blockQ_e (thenQ_n (w_seq (ws 200 392 (qp (.sl 3 0 x38.length) rfl (qp (AI (x38.length : Int)) rfl (qp (AI 0) rfl (r_nil (w_block ?_)))))))))))
 refine w_ren (l' := [(3, .ptr 0 0 0), (6, .ptr 1 0 0), (8, .ptr 2 0 0), (9, .sl 3 0 x38.length), (70, .sl 3 0 x38.length), (71, AI (x38.length : Int)), (72, AI 0)]) (L := (K4q x40 x39 x38 x37 v0)) [3, 6, 8, 9, 70, 71, 72] [(7, 7), (6, 6), (5, 5), (4, 4), (3, 3), (2, 2), (1, 1), (0, 0)] 8 (by first | rfl | simp) (by first | rfl | simp) (by decide) (by decide) (by decide) ?_
 refine w_loopF (F_impl_GrammarOf_l6 v0 x37 x38 x39) (fun s : Int × (List TArc) => mkS [(3, .ptr 0 0 0), (6, .ptr 1 0 0), (8, .ptr 2 0 0), (9, .sl 3 0 x38.length), (70, .sl 3 0 x38.length), (71, AI (x38.length : Int)), (72, AI s.1)] (fo [(7, .row true 3 (s.2.map eArc)), (K5c x39), K58, K59, (K5e x38), (2, .box [AI x37, AI 0, .sl 6 0 x39.length, .sl 7 0 s.2.length]), K5a, (0, .box (K57 v0))]) 8) hF ?_
 rintro k8 ⟨x52, x53⟩ hF
 rw [F_impl_GrammarOf_l6] at hF
 try dsimp only
 refine ws 8 72 (qp (AB (decide (x52 < (x38.length : Int)))) rfl (r_nil (w_seq ?_)))
 refine cF hF (fun hF => ?_) fun hF => ?_
 ·
  refine w_skip (thenQ_n (w_seq (w_block (ws 72 392 (qp (AI x52) rfl (bk hF fun u47 e47 hF => qp (.ptr 3 x52.toNat 0) (ev_iad_r rfl (by simp) rfl rfl e47) (qp (AI u47) (ev_ld_r rfl rfl (ix_some e47).2 rfl rfl) (qp (AI x52) rfl (qp (AI u47) rfl (r_nil (ws 392 584 (qp (.sl 3 0 x38.length) rfl (qp (AI (x38.length : Int)) rfl (qp (AI 0) rfl ?_))))))))))))))
  refine r_nil (w_block ?_)
  refine w_ren (l' := [(3, .ptr 0 0 0), (6, .ptr 1 0 0), (8, .ptr 2 0 0), (9, .sl 3 0 x38.length), (11, AI x52), (12, AI u47), (70, .sl 3 0 x38.length), (71, AI (x38.length : Int)), (72, AI x52), (77, .sl 3 0 x38.length), (78, AI (x38.length : Int)), (79, AI 0)]) (L := (K4s x53 x39 x38 x37 v0)) [3, 6, 8, 9, 11, 12, 70, 71, 72, 77, 78, 79] [(7, 7), (6, 6), (5, 5), (4, 4), (3, 3), (2, 2), (1, 1), (0, 0)] 8 (by first | rfl | simp) (by first | rfl | simp) (by decide) (by decide) (by decide) ?_
  refine w_loopF (F_impl_GrammarOf_l7 v0 u47 x38 x52 k8) (fun s : Int × (List TArc) => mkS [(3, .ptr 0 0 0), (6, .ptr 1 0 0), (8, .ptr 2 0 0), (9, .sl 3 0 x38.length), (11, AI x52), (12, AI u47), (70, .sl 3 0 x38.length), (71, AI (x38.length : Int)), (72, AI x52), (77, .sl 3 0 x38.length), (78, AI (x38.length : Int)), (79, AI s.1)] (fo [(7, .row true 3 (s.2.map eArc)), (K5c x39), K58, K59, (K5e x38), (2, .box [AI x37, AI 0, .sl 6 0 x39.length, .sl 7 0 s.2.length]), K5a, (0, .box (K57 v0))]) 8) hF ?_
  rintro k9 ⟨x56, x57⟩ hF
  rw [F_impl_GrammarOf_l7] at hF
  try dsimp only
  refine ws 8 72 (qp (AB (decide (x56 < (x38.length : Int)))) rfl (r_nil (w_seq ?_)))
  refine cF hF (fun hF => ?_) fun hF => ?_
  ·
   refine w_skip (thenQ_n (w_seq (w_block (ws 72 392 (qp (AI x56) rfl (bk hF fun u54 e54 hF => qp (.ptr 3 x56.toNat 0) (ev_iad_r rfl (by simp) rfl rfl e54) (qp (AI u54) (ev_ld_r rfl rfl (ix_some e54).2 rfl rfl) (qp (AI x56) rfl (qp (AI u54) rfl (r_nil (ws 392 712 (qp (.agg (K57 v0)) rfl (qp (AI u47) rfl (qp (AI u54) rfl (bk hF fun u55 e55 hF => ?_)))))))))))))))
   refine qC (AI u55) (K4t x57 x39 x38 x37 v0) (con_impl_Raga_reason e55) c106_ (qp (AB (decide (u55 = (0 : Int)))) rfl (r_nil ?_))
   refine cF hF (fun hF => ?_) fun hF => ?_
   ·
    refine w_reg 712 1480 rfl rfl (qp (.ptr 2 0 3) rfl (qp (.sl 7 0 x57.length) rfl (qp (AI x52) rfl (qp (AI (w64 (x52 + 1))) rfl (qp (AI u54) rfl (qp (AI x56) rfl (qp (AI (w64 (x56 + 1))) rfl (qf (.agg [AI (w64 (x52 + 1)), AI u54, AI (w64 (x56 + 1))]) (K4t x57 x39 x38 x37 v0) (by simp) ?_))))))))
    refine qf (.sl 1224 0 (([(w64 (x52 + 1), u54, w64 (x56 + 1))] : List TArc).length)) (K4x x52 u54 x56 x57 x39 x38 x37 v0) (by simp [List.take_of_length_le]) (nk hF fun g56 hF => qf (.sl 1288 0 ((x57 ++ ([(w64 (x52 + 1), u54, w64 (x56 + 1))] : List TArc)).length)) (K53 x57 x52 u54 x56 x39 x38 x37 v0) (effT_app_l rfl (by simp) rfl rfl (by simp) rfl (by decide) g56 rfl) (qp (.ptr 2 0 3) rfl (qf0 (.undef) ((2, .box [AI x37, AI 0, .sl 6 0 x39.length, .sl 1288 0 ((x57 ++ ([(w64 (x52 + 1), u54, w64 (x56 + 1))] : List TArc)).length)]) :: (K53 x57 x52 u54 x56 x39 x38 x37 v0)) (by simp) (r_nil (blockQ_n (thenQ_n (w_reg 1480 1608 rfl rfl (qp (AI (w64 (x56 + 1))) rfl (qp (AI (w64 (x56 + 1))) rfl ?_)))))))))
    refine r_nil (thenQ_n ?_)
    refine ar (l' := (K5b x38 x52 u47 x56)) (L := ((7, .row true 3 ((x57 ++ ([(w64 (x52 + 1), u54, w64 (x56 + 1))] : List TArc)).map eArc)) :: (K5c x39) :: K58 :: K59 :: (K5e x38) :: (2, .box [AI x37, AI 0, .sl 6 0 x39.length, .sl 7 0 (x57 ++ ([(w64 (x52 + 1), u54, w64 (x56 + 1))] : List TArc)).length]) :: K5a :: (K4l v0))) [3, 6, 8, 9, 11, 12, 70, 71, 72, 77, 78, 79] [(1288, 7), (6, 6), (5, 5), (4, 4), (3, 3), (2, 2), (1, 1), (0, 0)] 8 ⟨_, by rfl, hF⟩
   refine w_skip (blockQ_n (thenQ_n (w_reg 712 840 rfl rfl (qp (AI (w64 (x56 + 1))) rfl (qp (AI (w64 (x56 + 1))) rfl (r_nil (thenQ_n ?_)))))))
   refine ar (l' := (K5b x38 x52 u47 x56)) (L := (K4t x57 x39 x38 x37 v0)) [3, 6, 8, 9, 11, 12, 70, 71, 72, 77, 78, 79] [(7, 7), (6, 6), (5, 5), (4, 4), (3, 3), (2, 2), (1, 1), (0, 0)] 8 ⟨_, by rfl, hF⟩
  refine w_exit (thenQ_e (thenQ_e (blockQ_e (blockQ_n (thenQ_n (w_reg 72 200 rfl rfl (qp (AI (w64 (x52 + 1))) rfl (qp (AI (w64 (x52 + 1))) rfl (r_nil (thenQ_n ?_))))))))))
  refine ar (l' := [(3, .ptr 0 0 0), (6, .ptr 1 0 0), (8, .ptr 2 0 0), (9, .sl 3 0 x38.length), (70, .sl 3 0 x38.length), (71, AI (x38.length : Int)), (72, AI (w64 (x52 + 1)))]) (L := (K4t x57 x39 x38 x37 v0)) [3, 6, 8, 9, 70, 71, 72] [(7, 7), (6, 6), (5, 5), (4, 4), (3, 3), (2, 2), (1, 1), (0, 0)] 8 ⟨_, by rfl, hF⟩
 refine w_exit (thenQ_e (thenQ_e (blockQ_e (thenQ_n (w_seq (ws 72 648 (qp (.ptr 2 0 0) rfl (qp (AI x37) rfl (qp (AB (decide ((32 : Int) < x37))) rfl (qp (AB (decide ((32 : Int) < x37))) rfl ?_))))))))))
 refine q_case 105 hF rfl (fun hF => ?_) (fun hF => ?_)
 ·
  exact qn4 (qp (AB true) rfl (r_nil (w_true rfl (ws 648 840 (qf (.agg [AI 0, AI 0, .sl 648 0 0, .sl 649 0 0]) (K4z x53 x39 x38 x37 v0) (by simp) (qf0 (.undef) (K50 x53 x39 x38 x37 v0) (by simp) (qp (AI 5) rfl (r_nil (w_ret (thenQ_r (eQ hF)))))))))))
 refine qg (.ptr 2 0 3) rfl rfl (qg (.sl 7 0 x53.length) rfl rfl (qg (AI (x53.length : Int)) rfl rfl (qg (AB (decide ((256 : Int) < (x53.length : Int)))) rfl rfl (qp (AB (decide ((256 : Int) < (x53.length : Int)))) rfl (r_nil ?_)))))
 refine cF hF (fun hF => ?_) fun hF => ?_
 ·
  exact ws 648 840 (qf (.agg [AI 0, AI 0, .sl 648 0 0, .sl 649 0 0]) (K4z x53 x39 x38 x37 v0) (by simp) (qf0 (.undef) (K50 x53 x39 x38 x37 v0) (by simp) (qp (AI 5) rfl (r_nil (w_ret (thenQ_r (eQ hF)))))))
 exact w_skip (thenQ_n (ws 648 840 (qp (.agg [AI x37, AI 0, .sl 6 0 x39.length, .sl 7 0 x53.length]) rfl (qf0 (.undef) ((1, .box [AI x37, AI 0, .sl 6 0 x39.length, .sl 7 0 x53.length]) :: (K4s x53 x39 x38 x37 v0)) (by simp) (qp (AI 0) rfl (rR hF))))))

def c107 : MC := (sr [pT 2 (.mv cf)] (sr [mvt 3 0, dT 4 81 [t3, (ci 1), (ci 64)], mvt 2 4] .ret))
theorem c107_ : IsF Tryz.prog 107 c107 [(.tmp 2)] := ⟨by kernel_rfl, by kernel_rfl⟩

def F_impl_lengthOk (v0 : Int) : Option (Bool) :=
 ((F_impl_within v0 1 64).bind fun u0 => some u0)
@[simp] def res_impl_lengthOk (r : Bool) : RV := .one (.one (.val (.bool r)))
theorem con_impl_lengthOk {v0 : Int} {r : Bool} (hF : F_impl_lengthOk v0 = some r) : Con Tryz.prog 107 [.int .i64 v0] (res_impl_lengthOk r) := by
 unfold F_impl_lengthOk at hF
 refine con_of c107_.1 fun N => ?_
 exact ws 0 64 (qp (AB false) rfl (r_nil (ws 64 256 (qp (AI v0) rfl (bk hF fun u0 e0 hF => qC (AB u0) [] (con_impl_within e0) c81_ (qp (AB u0) rfl (rR hF)))))))

def c77 : MC := (sr [pT 2 (.mv cf)] (.seq (sr [mvt 5 0, zT 6 5, bT 7 .gtr t6 (ci 48)] (.cond t7 (sr [pT 2 (.mv cf)] .ret) .skip)) (.seq (sr [mvt 8 0, zT 9 8, pT 10 (.mv (ci 0))] (.block 0 (.loop (sr [bT 11 .lss t10 t9] (.seq (cx t11 0) (.seq (.block 1 (sr [iT 12 8 10 2, pT 13 (.ld t12 2 true), rg 4 (.f (.alloc [((.int .i64 0), (0, false)), ((.int .i64 0), (0, false))])), ⟨none, none, (.f (.st t4 t13 2))⟩] (sr [pT 14 (.fad t4 0), lT 15 14, dT 16 103 [t15], pT 17 (.not t16), mvt 18 17, kF 19 18 (.fad t4 1), kF 20 18 (.ld t19 1 false), ⟨(some 21), (some (18, false)), (.call true 107 [t20])⟩, kF 22 18 (.not t21), pT 23 (.pick t18 ct t22)] (.cond t23 (sr [pT 2 (.mv cf)] .ret) .skip)))) (.reg [bT 24 .add t10 (ci 1), mvt 10 24]))))))) (sr [pT 2 (.mv ct)] .ret))))
theorem c77_ : IsF Tryz.prog 77 c77 [(.tmp 2)] := ⟨by kernel_rfl, by kernel_rfl⟩

def F_impl_ValidMelody_l0 (v0 : List TNote) (k0 : Int → Option (Bool)) : Int → Option (Bool)
 | x1 => (bif (decide (x1 < (v0.length : Int))) then ((ix v0 x1).bind fun u0 => ((F_impl_pitchOk u0.1).bind fun u1 => (bif (!u1) then some false
 else ((F_impl_lengthOk u0.2).bind fun u2 => (bif (!u2) then some false
 else k0 (w64 (x1 + 1)))))))
 else some true)
def F_impl_ValidMelody (v0 : List TNote) : Option (Bool) :=
 (bif (decide ((48 : Int) < (v0.length : Int))) then some false
 else loop (F_impl_ValidMelody_l0 v0) 0)
@[simp] abbrev K5g (u0 : TNote) : List (Nat × Root) := [(193, .box [AI u0.1, AI u0.2]), (193, .box [AI 0, AI 0])]
@[simp] def res_impl_ValidMelody (r : Bool) : RV := .one (.one (.val (.bool r)))
theorem con_impl_ValidMelody {v0 : List TNote} {r : Bool} (hF : F_impl_ValidMelody v0 = some r) : Con Tryz.prog 77 [.sl 2 (v0.map eNote)] (res_impl_ValidMelody r) := by
 unfold F_impl_ValidMelody at hF
 refine con_of c77_.1 fun N => ?_
 refine ws 0 64 (qp (AB false) rfl (r_nil (w_seq (ws 64 256 (qp (AL 2 (v0.map eNote)) rfl (qp (AI (v0.length : Int)) (ev_len_n rfl) (qp (AB (decide ((48 : Int) < (v0.length : Int)))) rfl (r_nil (cF hF (fun hF => ws 256 320 (qp (AB false) rfl (r_nil (w_ret (thenQ_r (eQ hF)))))) fun hF => ?_)))))))))
 refine w_skip (thenQ_n (w_seq (ws 256 448 (qp (AL 2 (v0.map eNote)) rfl (qp (AI (v0.length : Int)) (ev_len_n rfl) (qp (AI 0) rfl (r_nil (w_block ?_))))))))
 refine wr (l' := [(8, AL 2 (v0.map eNote)), (9, AI (v0.length : Int)), (10, AI 0)]) (L := []) [8, 9, 10] [] 1 ?_
 refine w_loopF (F_impl_ValidMelody_l0 v0) (fun s : Int => mkS [(8, AL 2 (v0.map eNote)), (9, AI (v0.length : Int)), (10, AI s)] (fo []) 1) hF ?_
 rintro k0 x1 hF
 rw [F_impl_ValidMelody_l0] at hF
 try dsimp only
 refine ws 1 65 (qp (AB (decide (x1 < (v0.length : Int)))) rfl (r_nil (w_seq ?_)))
 refine cF hF (fun hF => ?_) fun hF => ?_
 ·
  refine w_skip (thenQ_n (w_seq (w_block (ws 65 321 (bk hF fun u0 e0 hF => qp (.val none (.ptr [.int .i64 u0.1, .int .i64 u0.2])) (ev_iad_n rfl rfl e0 rfl) (qp (.val none (eNote u0)) rfl (qf (.ptr 193 0 0) [(193, .box [AI 0, AI 0])] (by simp) (qf0 (.undef) (K5g u0) (by simp) (r_nil (ws 321 961 (qp (.ptr 193 0 0) rfl (qp (AI u0.1) rfl (bk hF fun u1 e1 hF => qC (AB u1) (K5g u0) (con_impl_pitchOk e1) c103_ (qp (AB (!u1)) rfl (qp (AB (!u1)) rfl ?_)))))))))))))))
  refine q_case 18 hF rfl (fun hF => qn4 (qp (AB true) rfl (r_nil (w_true rfl (ws 961 1025 (qp (AB false) rfl (r_nil (w_ret (blockQ_r (thenQ_r (thenQ_r (blockQ_r (thenQ_r (eQ hF)))))))))))))) fun hF => ?_
  refine qg (.ptr 193 0 1) rfl rfl (qg (AI u0.2) rfl rfl (bk hF fun u2 e2 hF => qG (AB u2) (K5g u0) (con_impl_lengthOk e2) c107_ (qg (AB (!u2)) rfl rfl (qp (AB (!u2)) rfl (r_nil (cF hF (fun hF => ws 961 1025 (qp (AB false) rfl (r_nil (w_ret (blockQ_r (thenQ_r (thenQ_r (blockQ_r (thenQ_r (eQ hF)))))))))) fun hF => ?_))))))
  refine w_skip (blockQ_n (thenQ_n (w_reg 961 1089 rfl rfl (qp (AI (w64 (x1 + 1))) rfl (qp (AI (w64 (x1 + 1))) rfl (r_nil (thenQ_n ?_)))))))
  refine ar (l' := [(8, AL 2 (v0.map eNote)), (9, AI (v0.length : Int)), (10, AI (w64 (x1 + 1)))]) (L := []) [8, 9, 10] [] 1 ⟨_, by rfl, hF⟩
 exact w_exit (thenQ_e (thenQ_e (blockQ_e (thenQ_n (ws 65 129 (qp (AB true) rfl (rR hF)))))))

def c153 : MC := (sr [pT 4 (.mv cf)] (sr [mvt 5 0, lT 6 1, lT 7 2, dT 8 81 [t5, t6, t7], pT 9 (.not t8), mvt 4 9] .ret))
theorem c153_ : IsF Tryz.prog 153 c153 [(.tmp 4)] := ⟨by kernel_rfl, by kernel_rfl⟩

def F_impl_allWithin_1 (v0 : Int) (v1 : Int) (v2 : Int) : Option (Bool) :=
 ((F_impl_within v0 v1 v2).bind fun u0 => some (!u0))
@[simp] def res_impl_allWithin_1 (r : Bool) : RV := .one (.one (.val (.bool r)))
theorem con_impl_allWithin_1 {v0 : Int} {v1 : Int} {v2 : Int} {r : Bool} (hF : F_impl_allWithin_1 v0 v1 v2 = some r) : Con Tryz.prog 153 [.int .i64 v0, .ptr [.int .i64 v1], .ptr [.int .i64 v2]] (res_impl_allWithin_1 r) := by
 unfold F_impl_allWithin_1 at hF
 refine con_of c153_.1 fun N => ?_
 exact ws 0 64 (qp (AB false) rfl (r_nil (ws 64 448 (qp (AI v0) rfl (qp (AI v1) rfl (qp (AI v2) rfl (bk hF fun u0 e0 hF => qC (AB u0) [] (con_impl_within e0) c81_ (qp (AB (!u0)) rfl (qp (AB (!u0)) rfl (rR hF))))))))))

def c164 : MC := (sr [pT 4 (.mv (ci 0))] (.seq (sr [mvt 6 0, zT 7 6, pT 8 (.mv (ci 0))] (.block 0 (.loop (sr [bT 9 .lss t8 t7] (.seq (cx t9 0) (.seq (.block 1 (sr [mvt 10 8, mvt 5 10] (sr [mvt 11 1, mvt 12 0, mvt 13 5, iT 14 12 13 1, lT 15 14, rg 16 (.callv t11 [t15])] (.cond t16 (sr [mvt 17 5, mvt 4 17] .ret) .skip)))) (.reg [bT 18 .add t8 (ci 1), mvt 8 18]))))))) (sr [pT 4 (.mv (ci (-1)))] .ret)))
theorem c164_ : IsF Tryz.prog 164 c164 [(.tmp 4)] := ⟨by kernel_rfl, by kernel_rfl⟩

def F_slices_IndexFunc_Sint64_int64_l0 (v0 : List Int) (v1 : Int) (v2 : Int) (k0 : Int → Option (Int)) : Int → Option (Int)
 | x1 => (bif (decide (x1 < (v0.length : Int))) then ((ix v0 x1).bind fun u0 => ((F_impl_allWithin_1 u0 v1 v2).bind fun u1 => (bif u1 then some x1
 else k0 (w64 (x1 + 1)))))
 else some (-1))
def F_slices_IndexFunc_Sint64_int64 (v0 : List Int) (v1 : Int) (v2 : Int) : Option (Int) :=
 loop (F_slices_IndexFunc_Sint64_int64_l0 v0 v1 v2) 0
@[simp] abbrev K5h (v1 : Int) (v2 : Int) : Nat × AV := (1, .val none (.fn 153 [.ptr [.int .i64 v1], .ptr [.int .i64 v2]]))
@[simp] def res_slices_IndexFunc_Sint64_int64 (r : Int) : RV := .one (.one (.val (.int .i64 r)))
theorem con_slices_IndexFunc_Sint64_int64 {v0 : List Int} {v1 : Int} {v2 : Int} {r : Int} (hF : F_slices_IndexFunc_Sint64_int64 v0 v1 v2 = some r) : Con Tryz.prog 164 [.sl 1 (v0.map vI), .fn 153 [.ptr [.int .i64 v1], .ptr [.int .i64 v2]]] (res_slices_IndexFunc_Sint64_int64 r) := by
 unfold F_slices_IndexFunc_Sint64_int64 at hF
 refine con_of c164_.1 fun N => ?_
 refine ws 0 64 (qp (AI 0) rfl (r_nil (w_seq (ws 64 256 (qp (AL 1 (v0.map vI)) rfl (qp (AI (v0.length : Int)) (ev_len_n rfl) (qp (AI 0) rfl (r_nil (w_block ?_)))))))))
 refine wr (l' := [(0, AL 1 (v0.map vI)), (K5h v1 v2), (7, AI (v0.length : Int)), (8, AI 0)]) (L := []) [0, 1, 7, 8] [] 1 ?_
 refine w_loopF (F_slices_IndexFunc_Sint64_int64_l0 v0 v1 v2) (fun s : Int => mkS [(0, AL 1 (v0.map vI)), (K5h v1 v2), (7, AI (v0.length : Int)), (8, AI s)] (fo []) 1) hF ?_
 rintro k0 x1 hF
 rw [F_slices_IndexFunc_Sint64_int64_l0] at hF
 try dsimp only
 refine ws 1 65 (qp (AB (decide (x1 < (v0.length : Int)))) rfl (r_nil (w_seq ?_)))
 refine cF hF (fun hF => ?_) fun hF => ?_
 ·
  refine w_skip (thenQ_n (w_seq (w_block (ws 65 193 (qp (AI x1) rfl (qp (AI x1) rfl (r_nil (ws 193 577 (qp (.val none (.fn 153 [.ptr [.int .i64 v1], .ptr [.int .i64 v2]])) rfl (qp (AL 1 (v0.map vI)) rfl (qp (AI x1) rfl (bk hF fun u0 e0 hF => qp (.val none (.ptr [.int .i64 u0])) (ev_iad_n rfl rfl e0 rfl) (qp (AI u0) rfl (bk hF fun u1 e1 hF => qcv (AB u1) [] false rfl (con_impl_allWithin_1 e1) c153_.2 (by first | rfl | simp) rfl (r_nil ?_)))))))))))))))
  refine cF hF (fun hF => ws 577 705 (qp (AI x1) rfl (qp (AI x1) rfl (r_nil (w_ret (blockQ_r (thenQ_r (thenQ_r (blockQ_r (thenQ_r (eQ hF))))))))))) fun hF => ?_
  refine w_skip (blockQ_n (thenQ_n (w_reg 577 705 rfl rfl (qp (AI (w64 (x1 + 1))) rfl (qp (AI (w64 (x1 + 1))) rfl (r_nil (thenQ_n ?_)))))))
  refine ar (l' := [(0, AL 1 (v0.map vI)), (K5h v1 v2), (7, AI (v0.length : Int)), (8, AI (w64 (x1 + 1)))]) (L := []) [0, 1, 7, 8] [] 1 ⟨_, by rfl, hF⟩
 exact w_exit (thenQ_e (thenQ_e (blockQ_e (thenQ_n (ws 65 129 (qp (AI (-1)) rfl (rR hF)))))))

def c152 : MC := (sr [pT 4 (.mv cf)] (sr [mvt 5 0, mvt 6 1, dT 7 164 [t5, t6], bT 8 .geq t7 (ci 0), mvt 4 8] .ret))
theorem c152_ : IsF Tryz.prog 152 c152 [(.tmp 4)] := ⟨by kernel_rfl, by kernel_rfl⟩

def F_slices_ContainsFunc_Sint64_int64 (v0 : List Int) (v1 : Int) (v2 : Int) : Option (Bool) :=
 ((F_slices_IndexFunc_Sint64_int64 v0 v1 v2).bind fun u0 => some (decide ((0 : Int) ≤ u0)))
@[simp] def res_slices_ContainsFunc_Sint64_int64 (r : Bool) : RV := .one (.one (.val (.bool r)))
theorem con_slices_ContainsFunc_Sint64_int64 {v0 : List Int} {v1 : Int} {v2 : Int} {r : Bool} (hF : F_slices_ContainsFunc_Sint64_int64 v0 v1 v2 = some r) : Con Tryz.prog 152 [.sl 1 (v0.map vI), .fn 153 [.ptr [.int .i64 v1], .ptr [.int .i64 v2]]] (res_slices_ContainsFunc_Sint64_int64 r) := by
 unfold F_slices_ContainsFunc_Sint64_int64 at hF
 refine con_of c152_.1 fun N => ?_
 exact ws 0 64 (qp (AB false) rfl (r_nil (ws 64 384 (qp (AL 1 (v0.map vI)) rfl (qp (.val none (.fn 153 [.ptr [.int .i64 v1], .ptr [.int .i64 v2]])) rfl (bk hF fun u0 e0 hF => qC (AI u0) [] (con_slices_IndexFunc_Sint64_int64 e0) c164_ (qp (AB (decide ((0 : Int) ≤ u0))) rfl (qp (AB (decide ((0 : Int) ≤ u0))) rfl (rR hF)))))))))

def c136 : MC := (sr [rg 4 (.f (.box t1)), rg 5 (.f (.box t2)), pT 6 (.mv cf)] (sr [mvt 7 0, pT 8 (.mkf 153 [t4, t5]), dT 9 152 [t7, t8], pT 10 (.not t9), mvt 6 10] .ret))
theorem c136_ : IsF Tryz.prog 136 c136 [(.tmp 6)] := ⟨by kernel_rfl, by kernel_rfl⟩

def F_impl_allWithin (v0 : List Int) (v1 : Int) (v2 : Int) : Option (Bool) :=
 ((F_slices_ContainsFunc_Sint64_int64 v0 v1 v2).bind fun u0 => some (!u0))
@[simp] def res_impl_allWithin (r : Bool) : RV := .one (.one (.val (.bool r)))
theorem con_impl_allWithin {v0 : List Int} {v1 : Int} {v2 : Int} {r : Bool} (hF : F_impl_allWithin v0 v1 v2 = some r) : Con Tryz.prog 136 [.sl 1 (v0.map vI), .int .i64 v1, .int .i64 v2] (res_impl_allWithin r) := by
 unfold F_impl_allWithin at hF
 refine con_of c136_.1 fun N => ?_
 exact ws 0 192 (qf (.ptr 0 0 0) [(0, .box [AI v1])] (by simp) (qf (.ptr 64 0 0) [(64, .box [AI v2]), (0, .box [AI v1])] (by simp) (qp (AB false) rfl (r_nil (ws 192 512 (qp (AL 1 (v0.map vI)) rfl (qp (.fn 153 [.ptr 0 0 0, .ptr 64 0 0]) rfl (bk hF fun u0 e0 hF => qc (AB u0) [(64, .box [AI v2]), (0, .box [AI v1])] true (con_slices_ContainsFunc_Sint64_int64 e0) c152_.2 (by simp [List.take_of_length_le]) rfl (qp (AB (!u0)) rfl (qp (AB (!u0)) rfl (rR hF)))))))))))

def c137 : MC := (sr [pT 2 (.mv (ci 0))] (sr [pT 3 (.mv (ci 0))] (.seq (sr [mvt 6 0, zT 7 6, pT 8 (.mv (ci 0))] (.block 0 (.loop (sr [bT 9 .lss t8 t7] (.seq (cx t9 0) (.seq (.block 1 (sr [iT 10 6 8 1, lT 11 10, mvt 5 11] (.reg [mvt 12 3, mvt 13 5, bT 14 .add t12 t13, mvt 3 14]))) (.reg [bT 15 .add t8 (ci 1), mvt 8 15]))))))) (sr [mvt 16 3, mvt 2 16] .ret))))
theorem c137_ : IsF Tryz.prog 137 c137 [(.tmp 2)] := ⟨by kernel_rfl, by kernel_rfl⟩

def F_impl_sumOf_l0 (v0 : List Int) (k0 : Int × Int → Option (Int)) : Int × Int → Option (Int)
 | (x2, x3) => (bif (decide (x3 < (v0.length : Int))) then ((ix v0 x3).bind fun u0 => k0 (w64 (x2 + u0), w64 (x3 + 1)))
 else some x2)
def F_impl_sumOf (v0 : List Int) : Option (Int) :=
 loop (F_impl_sumOf_l0 v0) (0, 0)
@[simp] def res_impl_sumOf (r : Int) : RV := .one (.one (.val (.int .i64 r)))
theorem con_impl_sumOf {v0 : List Int} {r : Int} (hF : F_impl_sumOf v0 = some r) : Con Tryz.prog 137 [.sl 1 (v0.map vI)] (res_impl_sumOf r) := by
 unfold F_impl_sumOf at hF
 refine con_of c137_.1 fun N => ?_
 refine ws 0 64 (qp (AI 0) rfl (r_nil (ws 64 128 (qp (AI 0) rfl (r_nil (w_seq (ws 128 320 (qp (AL 1 (v0.map vI)) rfl (qp (AI (v0.length : Int)) (ev_len_n rfl) (qp (AI 0) rfl (r_nil (w_block ?_))))))))))))
 refine wr (l' := [(3, AI 0), (6, AL 1 (v0.map vI)), (7, AI (v0.length : Int)), (8, AI 0)]) (L := []) [3, 6, 7, 8] [] 1 ?_
 refine w_loopF (F_impl_sumOf_l0 v0) (fun s : Int × Int => mkS [(3, AI s.1), (6, AL 1 (v0.map vI)), (7, AI (v0.length : Int)), (8, AI s.2)] (fo []) 1) hF ?_
 rintro k0 ⟨x2, x3⟩ hF
 rw [F_impl_sumOf_l0] at hF
 try dsimp only
 refine ws 1 65 (qp (AB (decide (x3 < (v0.length : Int)))) rfl (r_nil (w_seq ?_)))
 refine cF hF (fun hF => ?_) fun hF => ?_
 ·
  refine w_skip (thenQ_n (w_seq (w_block (ws 65 257 (bk hF fun u0 e0 hF => qp (.val none (.ptr [.int .i64 u0])) (ev_iad_n rfl rfl e0 rfl) (qp (AI u0) rfl (qp (AI u0) rfl (r_nil (w_reg 257 513 rfl rfl ?_)))))))))
  refine qp (AI x2) rfl (qp (AI u0) rfl (qp (AI (w64 (x2 + u0))) rfl (qp (AI (w64 (x2 + u0))) rfl (r_nil (blockQ_n (thenQ_n (w_reg 513 641 rfl rfl (qp (AI (w64 (x3 + 1))) rfl (qp (AI (w64 (x3 + 1))) rfl ?_)))))))))
  refine r_nil (thenQ_n ?_)
  refine ar (l' := [(3, AI (w64 (x2 + u0))), (6, AL 1 (v0.map vI)), (7, AI (v0.length : Int)), (8, AI (w64 (x3 + 1)))]) (L := []) [3, 6, 7, 8] [] 1 ⟨_, by rfl, hF⟩
 exact w_exit (thenQ_e (thenQ_e (blockQ_e (thenQ_n (ws 65 193 (qp (AI x2) rfl (qp (AI x2) rfl (rR hF))))))))

def c109 : MC := (sr [rg 1 (.f (.box t0)), pT 2 (.mv (ci 0))] (sr [pT 3 (.fad t1 1), lT 4 3, dT 5 137 [t4], mvt 2 5] .ret))
theorem c109_ : IsF Tryz.prog 109 c109 [(.tmp 2)] := ⟨by kernel_rfl, by kernel_rfl⟩

def F_impl_Tala_beats (v0 : TTala) : Option (Int) :=
 ((F_impl_sumOf v0.2.1).bind fun u0 => some u0)
@[simp] abbrev K5i (v0 : TTala) : List (Nat × Root) := [(0, .box [AS v0.1, AL 1 (v0.2.1.map vI), AL 1 (v0.2.2.map vI)])]
@[simp] def res_impl_Tala_beats (r : Int) : RV := .one (.one (.val (.int .i64 r)))
theorem con_impl_Tala_beats {v0 : TTala} {r : Int} (hF : F_impl_Tala_beats v0 = some r) : Con Tryz.prog 109 [eTala v0] (res_impl_Tala_beats r) := by
 unfold F_impl_Tala_beats at hF
 refine con_of c109_.1 fun N => ?_
 exact ws 0 128 (qf (.ptr 0 0 0) (K5i v0) (by simp) (qp (AI 0) rfl (r_nil (ws 128 384 (qp (.ptr 0 0 1) rfl (qp (AL 1 (v0.2.1.map vI)) rfl (bk hF fun u0 e0 hF => qC (AI u0) (K5i v0) (con_impl_sumOf e0) c137_ (qp (AI u0) rfl (rR hF)))))))))

def c108 : MC := (sr [rg 1 (.f (.box t0)), pT 2 (.mv cf)] (.seq (sr [pT 3 (.fad t1 0), lT 4 3, dT 5 128 [t4], pT 6 (.not t5), mvt 7 6, kF 8 7 (.fad t1 1), kF 9 7 (.ld t8 1 false), kF 10 7 (.len t9), kF 11 7 (.bin .lss t10 (ci 1)), pT 12 (.pick t7 ct t11), mvt 13 12, kF 14 13 (.fad t1 1), kF 15 13 (.ld t14 1 false), kF 16 13 (.len t15), kF 17 13 (.bin .gtr t16 (ci 8)), pT 18 (.pick t13 ct t17), mvt 19 18, kF 20 19 (.fad t1 1), kF 21 19 (.ld t20 1 false), ⟨(some 22), (some (19, false)), (.call true 136 [t21, (ci 1), (ci 16)])⟩, kF 23 19 (.not t22), pT 24 (.pick t19 ct t23), mvt 25 24, kF 26 25 (.ld t1 3 true), ⟨(some 27), (some (25, false)), (.call true 109 [t26])⟩, kF 28 25 (.bin .gtr t27 (ci 32)), pT 29 (.pick t25 ct t28)] (.cond t29 (sr [pT 2 (.mv cf)] .ret) .skip)) (sr [pT 30 (.fad t1 2), lT 31 30, zT 32 31, pT 33 (.fad t1 1), lT 34 33, zT 35 34, bT 36 .eql t32 t35, mvt 37 36, kT 38 37 (.fad t1 2), kT 39 37 (.ld t38 1 false), kT 40 37 (.iad t39 (ci 0) 1), kT 41 37 (.ld t40 1 false), kT 42 37 (.bin .eql t41 (ci 1)), pT 43 (.pick t37 t42 cf), mvt 44 43, kT 45 44 (.fad t1 2), kT 46 44 (.ld t45 1 false), kT 47 44 (.slc t46 (some (ci 1)) none 1), ⟨(some 48), (some (44, true)), (.call true 136 [t47, (ci 2), (ci 3)])⟩, pT 49 (.pick t44 t48 cf), mvt 2 49] .ret)))
theorem c108_ : IsF Tryz.prog 108 c108 [(.tmp 2)] := ⟨by kernel_rfl, by kernel_rfl⟩

def F_impl_ValidTala (v0 : TTala) : Option (Bool) :=
 ((F_impl_IsName v0.1).bind fun u0 => (bif (!u0) then some false
 else (bif (decide ((v0.2.1.length : Int) < (1 : Int))) then some false
 else (bif (decide ((8 : Int) < (v0.2.1.length : Int))) then some false
 else ((F_impl_allWithin v0.2.1 1 16).bind fun u1 => (bif (!u1) then some false
 else ((F_impl_Tala_beats v0).bind fun u2 => (bif (decide ((32 : Int) < u2)) then some false
 else (bif (decide ((v0.2.2.length : Int) = (v0.2.1.length : Int))) then ((ix v0.2.2 0).bind fun u3 => (bif (decide (u3 = (1 : Int))) then (need (0 ≤ (1 : Int) ∧ (1 : Int) ≤ (v0.2.2.length : Int) ∧ (v0.2.2.length : Int) ≤ (v0.2.2.length : Int)) (((F_impl_allWithin (sub v0.2.2 1 (v0.2.2.length : Int)) 2 3).bind fun u5 => some u5)))
 else some false))
 else some false)))))))))
@[simp] abbrev K5k (v0 : TTala) : V := .sl 1 (v0.2.1.map vI)
@[simp] abbrev K5l (v0 : TTala) : V := .sl 1 (v0.2.2.map vI)
@[simp] abbrev K5j (v0 : TTala) : List (Nat × Root) := [(0, .box [AS v0.1, .val none (K5k v0), .val none (K5l v0)])]
@[simp] def res_impl_ValidTala (r : Bool) : RV := .one (.one (.val (.bool r)))
theorem con_impl_ValidTala {v0 : TTala} {r : Bool} (hF : F_impl_ValidTala v0 = some r) : Con Tryz.prog 108 [eTala v0] (res_impl_ValidTala r) := by
 unfold F_impl_ValidTala at hF
 refine con_of c108_.1 fun N => ?_
 refine ws 0 128 (qf (.ptr 0 0 0) (K5j v0) (by simp) (qp (AB false) rfl (r_nil (w_seq (ws 128 1856 (qp (.ptr 0 0 0) rfl (qp (AS v0.1) rfl (bk hF fun u0 e0 hF => qC (AB u0) (K5j v0) (con_impl_IsName e0) c128_ (qp (AB (!u0)) rfl (qp (AB (!u0)) rfl ?_))))))))))
 refine q_case 7 hF rfl (fun hF => ?_) (fun hF => ?_)
 ·
  refine qn4 (qp (AB true) rfl (qp (AB true) rfl (qn2 (qn2 (qp (AB true) rfl (qp (AB true) rfl (qn4 (qp (AB true) rfl (qp (AB true) rfl (qn3 (qp (AB true) rfl (r_nil (w_true rfl ?_)))))))))))))
  exact ws 1856 1920 (qp (AB false) rfl (r_nil (w_ret (thenQ_r (eQ hF)))))
 refine qg (.ptr 0 0 1) rfl rfl (qg (.val none (K5k v0)) rfl rfl (qg (AI (v0.2.1.length : Int)) rfl (ev_len_n rfl) (qg (AB (decide ((v0.2.1.length : Int) < (1 : Int)))) rfl rfl (qp (AB (decide ((v0.2.1.length : Int) < (1 : Int)))) rfl (qp (AB (decide ((v0.2.1.length : Int) < (1 : Int)))) rfl ?_)))))
 refine q_case 13 hF rfl (fun hF => ?_) (fun hF => ?_)
 ·
  refine qn4 (qp (AB true) rfl (qp (AB true) rfl (qn2 (qn2 (qp (AB true) rfl (qp (AB true) rfl (qn3 (qp (AB true) rfl (r_nil (w_true rfl (ws 1856 1920 (qp (AB false) rfl (r_nil ?_)))))))))))))
  exact w_ret (thenQ_r (eQ hF))
 refine qg (.ptr 0 0 1) rfl rfl (qg (.val none (K5k v0)) rfl rfl (qg (AI (v0.2.1.length : Int)) rfl (ev_len_n rfl) (qg (AB (decide ((8 : Int) < (v0.2.1.length : Int)))) rfl rfl (qp (AB (decide ((8 : Int) < (v0.2.1.length : Int)))) rfl (qp (AB (decide ((8 : Int) < (v0.2.1.length : Int)))) rfl ?_)))))
 refine q_case 19 hF rfl (fun hF => qn4 (qp (AB true) rfl (qp (AB true) rfl (qn2 (qn rfl (qp (AB true) rfl (r_nil (w_true rfl (ws 1856 1920 (qp (AB false) rfl (r_nil (w_ret (thenQ_r (eQ hF)))))))))))))) fun hF => ?_
 refine qg (.ptr 0 0 1) rfl rfl (qg (.val none (K5k v0)) rfl rfl (bk hF fun u1 e1 hF => qG (AB u1) (K5j v0) (con_impl_allWithin e1) c136_ (qg (AB (!u1)) rfl rfl (qp (AB (!u1)) rfl (qp (AB (!u1)) rfl (q_case 25 hF rfl (fun hF => qn3 (qp (AB true) rfl (r_nil (w_true rfl (ws 1856 1920 (qp (AB false) rfl (r_nil (w_ret (thenQ_r (eQ hF)))))))))) fun hF => ?_))))))
 refine qg (.agg [AS v0.1, .val none (K5k v0), .val none (K5l v0)]) rfl rfl (bk hF fun u2 e2 hF => qG (AI u2) (K5j v0) (con_impl_Tala_beats e2) c109_ (qg (AB (decide ((32 : Int) < u2))) rfl rfl (qp (AB (decide ((32 : Int) < u2))) rfl (r_nil (cF hF (fun hF => ws 1856 1920 (qp (AB false) rfl (r_nil (w_ret (thenQ_r (eQ hF)))))) fun hF => ?_)))))
 refine w_skip (thenQ_n (ws 1856 3200 (qp (.ptr 0 0 2) rfl (qp (.val none (K5l v0)) rfl (qp (AI (v0.2.2.length : Int)) (ev_len_n rfl) (qp (.ptr 0 0 1) rfl (qp (.val none (K5k v0)) rfl (qp (AI (v0.2.1.length : Int)) (ev_len_n rfl) (qp (AB (decide ((v0.2.2.length : Int) = (v0.2.1.length : Int)))) rfl (qp (AB (decide ((v0.2.2.length : Int) = (v0.2.1.length : Int)))) rfl ?_))))))))))
 refine q_case 37 hF rfl (fun hF => ?_) (fun hF => ?_)
 ·
  refine qg (.ptr 0 0 2) rfl rfl (qg (.val none (K5l v0)) rfl rfl (bk hF fun u3 e3 hF => qg (.val none (.ptr [.int .i64 u3])) rfl (ev_iad_n rfl rfl e3 rfl) (qg (AI u3) rfl rfl (qg (AB (decide (u3 = (1 : Int)))) rfl rfl (qp (AB (decide (u3 = (1 : Int)))) rfl (qp (AB (decide (u3 = (1 : Int)))) rfl (q_case 44 hF rfl (fun hF => qg (.ptr 0 0 2) rfl rfl (qg (.val none (K5l v0)) rfl rfl (nk hF fun g4 hF => qg (AL 1 ((sub v0.2.2 1 (v0.2.2.length : Int)).map vI)) rfl (ev_slc_n rfl rfl rfl g4) (bk hF fun u5 e5 hF => qG (AB u5) (K5j v0) (con_impl_allWithin e5) c136_ (qp (AB u5) rfl (qp (AB u5) rfl (rR hF))))))) fun hF => ?_)))))))
  exact qn4 (qp (AB false) rfl (qp (AB false) rfl (rR hF)))
 exact qn5 (qp (AB false) rfl (qp (AB false) rfl (qn rfl (qn3 (qp (AB false) rfl (qp (AB false) rfl (rR hF)))))))

def c78 : MC := (sr [rg 6 (.f (.box t0)), pT 12 (.mv (ci 0))] (.seq (.block 0 (sr [pT 14 (.ld t6 3 true), dT 15 108 [t14], pT 16 (.not t15), mvt 13 16] (.cond t13 (sr [pT 12 (.mv (ci 1))] .ret) (sr [mvt 18 1, dT 19 81 [t18, (ci 1), (ci 8)], pT 20 (.not t19), mvt 21 20, nF 22 21 t2, kF 23 21 (.ld t6 3 true), ⟨(some 24), (some (21, false)), (.call true 109 [t23])⟩, nF 25 21 t1, kF 26 21 (.bin .mul t24 t25), kF 27 21 (.bin .sub t26 (ci 1)), ⟨(some 28), (some (21, false)), (.call true 81 [t22, (ci 0), t27])⟩, kF 29 21 (.not t28), pT 30 (.pick t21 ct t29), mvt 31 30, nF 32 31 t3, ⟨(some 33), (some (31, false)), (.call true 81 [t32, (ci 1), (ci 64)])⟩, kF 34 31 (.not t33), pT 35 (.pick t31 ct t34), mvt 36 35, nF 37 36 t4, ⟨(some 38), (some (36, false)), (.call true 81 [t37, (ci 0), (ci 32)])⟩, kF 39 36 (.not t38), pT 40 (.pick t36 ct t39), mvt 41 40, nF 42 41 t5, ⟨(some 43), (some (41, false)), (.call true 81 [t42, (ci 0), (ci 64)])⟩, kF 44 41 (.not t43), pT 45 (.pick t41 ct t44), mvt 17 45] (.cond t17 (sr [pT 12 (.mv (ci 2))] .ret) .skip))))) (sr [pT 12 (.mv (ci 0))] .ret)))
theorem c78_ : IsF Tryz.prog 78 c78 [(.tmp 12)] := ⟨by kernel_rfl, by kernel_rfl⟩

def F_impl_cadenceCode (v0 : TTala) (v1 : Int) (v2 : Int) (v3 : Int) (v4 : Int) (v5 : Int) : Option (Int) :=
 ((F_impl_ValidTala v0).bind fun u0 => (bif (!u0) then some 1
 else ((F_impl_within v1 1 8).bind fun u1 => (bif (!u1) then some 2
 else ((F_impl_Tala_beats v0).bind fun u2 => ((F_impl_within v2 0 (w64 ((w64 (u2 * v1)) - 1))).bind fun u3 => (bif (!u3) then some 2
 else ((F_impl_within v3 1 64).bind fun u4 => (bif (!u4) then some 2
 else ((F_impl_within v4 0 32).bind fun u5 => (bif (!u5) then some 2
 else ((F_impl_within v5 0 64).bind fun u6 => (bif (!u6) then some 2
 else some 0)))))))))))))
@[simp] abbrev K5n (v0 : TTala) : List AV := [AS v0.1, AL 1 (v0.2.1.map vI), AL 1 (v0.2.2.map vI)]
@[simp] abbrev K5m (v0 : TTala) : List (Nat × Root) := [(0, .box (K5n v0))]
@[simp] def res_impl_cadenceCode (r : Int) : RV := .one (.one (.val (.int .i64 r)))
theorem con_impl_cadenceCode {v0 : TTala} {v1 : Int} {v2 : Int} {v3 : Int} {v4 : Int} {v5 : Int} {r : Int} (hF : F_impl_cadenceCode v0 v1 v2 v3 v4 v5 = some r) : Con Tryz.prog 78 [eTala v0, .int .i64 v1, .int .i64 v2, .int .i64 v3, .int .i64 v4, .int .i64 v5] (res_impl_cadenceCode r) := by
 unfold F_impl_cadenceCode at hF
 refine con_of c78_.1 fun N => ?_
 refine ws 0 128 (qf (.ptr 0 0 0) (K5m v0) (by simp) (qp (AI 0) rfl (r_nil (w_seq (w_block (ws 128 384 (qp (.agg (K5n v0)) rfl (bk hF fun u0 e0 hF => qC (AB u0) (K5m v0) (con_impl_ValidTala e0) c108_ (qp (AB (!u0)) rfl (qp (AB (!u0)) rfl (r_nil ?_)))))))))))
 refine cF hF (fun hF => ws 384 448 (qp (AI 1) rfl (r_nil (w_ret (blockQ_r (thenQ_r (eQ hF))))))) fun hF => ws 384 2240 (qp (AI v1) rfl (bk hF fun u1 e1 hF => qC (AB u1) (K5m v0) (con_impl_within e1) c81_ (qp (AB (!u1)) rfl (qp (AB (!u1)) rfl ?_))))
 refine q_case 21 hF rfl (fun hF => ?_) (fun hF => ?_)
 ·
  refine qn8 (qp (AB true) rfl (qp (AB true) rfl (qn3 (qp (AB true) rfl (qp (AB true) rfl (qn rfl (qn2 (qp (AB true) rfl (qp (AB true) rfl (qn3 (qp (AB true) rfl (qp (AB true) rfl (r_nil ?_)))))))))))))
  exact w_true rfl (ws 2240 2304 (qp (AI 2) rfl (r_nil (w_ret (blockQ_r (thenQ_r (eQ hF)))))))
 refine qg (AI v2) rfl rfl (qg (.agg (K5n v0)) rfl rfl (bk hF fun u2 e2 hF => qG (AI u2) (K5m v0) (con_impl_Tala_beats e2) c109_ (qg (AI v1) rfl rfl (qg (AI (w64 (u2 * v1))) rfl rfl (qg (AI (w64 ((w64 (u2 * v1)) - 1))) rfl rfl (bk hF fun u3 e3 hF => qG (AB u3) (K5m v0) (con_impl_within e3) c81_ (qg (AB (!u3)) rfl rfl (qp (AB (!u3)) rfl (qp (AB (!u3)) rfl ?_)))))))))
 refine q_case 31 hF rfl (fun hF => ?_) (fun hF => ?_)
 ·
  refine qn3 (qp (AB true) rfl (qp (AB true) rfl (qn3 (qp (AB true) rfl (qp (AB true) rfl (qn3 (qp (AB true) rfl (qp (AB true) rfl (r_nil (w_true rfl (ws 2240 2304 (qp (AI 2) rfl (r_nil ?_)))))))))))))
  exact w_ret (blockQ_r (thenQ_r (eQ hF)))
 refine qg (AI v3) rfl rfl (bk hF fun u4 e4 hF => qG (AB u4) (K5m v0) (con_impl_within e4) c81_ (qg (AB (!u4)) rfl rfl (qp (AB (!u4)) rfl (qp (AB (!u4)) rfl ?_))))
 refine q_case 36 hF rfl (fun hF => qn3 (qp (AB true) rfl (qp (AB true) rfl (qn3 (qp (AB true) rfl (qp (AB true) rfl (r_nil (w_true rfl (ws 2240 2304 (qp (AI 2) rfl (r_nil (w_ret (blockQ_r (thenQ_r (eQ hF))))))))))))))) fun hF => ?_
 refine qg (AI v4) rfl rfl (bk hF fun u5 e5 hF => qG (AB u5) (K5m v0) (con_impl_within e5) c81_ (qg (AB (!u5)) rfl rfl (qp (AB (!u5)) rfl (qp (AB (!u5)) rfl ?_))))
 refine q_case 41 hF rfl (fun hF => qn3 (qp (AB true) rfl (qp (AB true) rfl (r_nil (w_true rfl (ws 2240 2304 (qp (AI 2) rfl (r_nil (w_ret (blockQ_r (thenQ_r (eQ hF)))))))))))) fun hF => ?_
 refine qg (AI v5) rfl rfl (bk hF fun u6 e6 hF => qG (AB u6) (K5m v0) (con_impl_within e6) c81_ (qg (AB (!u6)) rfl rfl (qp (AB (!u6)) rfl (qp (AB (!u6)) rfl (r_nil (cF hF (fun hF => ws 2240 2304 (qp (AI 2) rfl (r_nil (w_ret (blockQ_r (thenQ_r (eQ hF))))))) fun hF => ?_))))))
 exact w_skip (blockQ_n (thenQ_n (ws 2240 2304 (qp (AI 0) rfl (rR hF)))))

def c110 : MC := (sr [rg 1 (.f (.box t0)), pT 2 (.mv cf)] (sr [pT 3 (.fad t1 0), lT 4 3, dT 5 128 [t4], mvt 6 5, kT 7 6 (.fad t1 1), kT 8 6 (.ld t7 1 false), ⟨(some 9), (some (6, true)), (.call true 81 [t8, (ci 0), (ci 10000)])⟩, pT 10 (.pick t6 t9 cf), mvt 11 10, kT 12 11 (.fad t1 2), kT 13 11 (.ld t12 1 false), ⟨(some 14), (some (11, true)), (.call true 81 [t13, (ci 1), (ci 10000)])⟩, pT 15 (.pick t11 t14 cf), mvt 2 15] .ret))
theorem c110_ : IsF Tryz.prog 110 c110 [(.tmp 2)] := ⟨by kernel_rfl, by kernel_rfl⟩

def F_impl_Turn_valid (v0 : TTurn) : Option (Bool) :=
 ((F_impl_IsName v0.1).bind fun u0 => (bif u0 then ((F_impl_within v0.2.1 0 10000).bind fun u1 => (bif u1 then ((F_impl_within v0.2.2 1 10000).bind fun u2 => some u2)
 else some false))
 else some false))
@[simp] abbrev K5o (v0 : TTurn) : List (Nat × Root) := [(0, .box [AS v0.1, AI v0.2.1, AI v0.2.2])]
@[simp] def res_impl_Turn_valid (r : Bool) : RV := .one (.one (.val (.bool r)))
theorem con_impl_Turn_valid {v0 : TTurn} {r : Bool} (hF : F_impl_Turn_valid v0 = some r) : Con Tryz.prog 110 [eTurn v0] (res_impl_Turn_valid r) := by
 unfold F_impl_Turn_valid at hF
 refine con_of c110_.1 fun N => ?_
 refine ws 0 128 (qf (.ptr 0 0 0) (K5o v0) (by simp) (qp (AB false) rfl (r_nil (ws 128 1024 (qp (.ptr 0 0 0) rfl (qp (AS v0.1) rfl (bk hF fun u0 e0 hF => qC (AB u0) (K5o v0) (con_impl_IsName e0) c128_ (qp (AB u0) rfl ?_))))))))
 refine q_case 6 hF rfl (fun hF => ?_) (fun hF => ?_)
 ·
  refine qg (.ptr 0 0 1) rfl rfl (qg (AI v0.2.1) rfl rfl (bk hF fun u1 e1 hF => qG (AB u1) (K5o v0) (con_impl_within e1) c81_ (qp (AB u1) rfl (qp (AB u1) rfl (q_case 11 hF rfl (fun hF => qg (.ptr 0 0 2) rfl rfl (qg (AI v0.2.2) rfl rfl (bk hF fun u2 e2 hF => qG (AB u2) (K5o v0) (con_impl_within e2) c81_ (qp (AB u2) rfl (qp (AB u2) rfl (rR hF)))))) fun hF => ?_)))))
  exact qn3 (qp (AB false) rfl (qp (AB false) rfl (rR hF)))
 exact qn3 (qp (AB false) rfl (qp (AB false) rfl (qn3 (qp (AB false) rfl (qp (AB false) rfl (rR hF))))))

def c155 : MC := (sr [pT 2 (.mv cf)] (sr [mvt 3 0, mvt 4 0, bT 5 .neq t3 t4, mvt 2 5] .ret))
theorem c155_ : IsF Tryz.prog 155 c155 [(.tmp 2)] := ⟨by kernel_rfl, by kernel_rfl⟩

def F_cmp_isNaN_string (v0 : List UInt8) : Option (Bool) :=
 some (decide (v0 ≠ v0))
@[simp] def res_cmp_isNaN_string (r : Bool) : RV := .one (.one (.val (.bool r)))
theorem con_cmp_isNaN_string {v0 : List UInt8} {r : Bool} (hF : F_cmp_isNaN_string v0 = some r) : Con Tryz.prog 155 [.str v0] (res_cmp_isNaN_string r) := by
 unfold F_cmp_isNaN_string at hF
 refine con_of c155_.1 fun N => ?_
 exact ws 0 64 (qp (AB false) rfl (r_nil (ws 64 320 (qp (AS v0) rfl (qp (AS v0) rfl (qp (AB (decide (v0 ≠ v0))) rfl (qp (AB (decide (v0 ≠ v0))) rfl (rR hF))))))))

def c140 : MC := (sr [pT 4 (.mv (ci 0))] (sr [mvt 7 0, dT 8 155 [t7], mvt 5 8] (sr [mvt 9 1, dT 10 155 [t9], mvt 6 10] (.seq (sr [mvt 11 5] (.cond t11 (.seq (sr [mvt 12 6] (.cond t12 (sr [pT 4 (.mv (ci 0))] .ret) .skip)) (sr [pT 4 (.mv (ci (-1)))] .ret)) .skip)) (.seq (sr [mvt 13 6] (.cond t13 (sr [pT 4 (.mv (ci 1))] .ret) .skip)) (.seq (sr [mvt 14 0, mvt 15 1, bT 16 .lss t14 t15] (.cond t16 (sr [pT 4 (.mv (ci (-1)))] .ret) .skip)) (.seq (sr [mvt 17 0, mvt 18 1, bT 19 .gtr t17 t18] (.cond t19 (sr [pT 4 (.mv (ci 1))] .ret) .skip)) (sr [pT 4 (.mv (ci 0))] .ret))))))))
theorem c140_ : IsF Tryz.prog 140 c140 [(.tmp 4)] := ⟨by kernel_rfl, by kernel_rfl⟩

def F_cmp_Compare_string (v0 : List UInt8) (v1 : List UInt8) : Option (Int) :=
 ((F_cmp_isNaN_string v0).bind fun u0 => ((F_cmp_isNaN_string v1).bind fun u1 => (bif u0 then (bif u1 then some 0
 else some (-1))
 else (bif u1 then some 1
 else (bif (Op.bytesLess v0 v1) then some (-1)
 else (bif (!(Op.bytesLess v0 v1 || decide (v0 = v1))) then some 1
 else some 0))))))
@[simp] def res_cmp_Compare_string (r : Int) : RV := .one (.one (.val (.int .i64 r)))
theorem con_cmp_Compare_string {v0 : List UInt8} {v1 : List UInt8} {r : Int} (hF : F_cmp_Compare_string v0 v1 = some r) : Con Tryz.prog 140 [.str v0, .str v1] (res_cmp_Compare_string r) := by
 unfold F_cmp_Compare_string at hF
 refine con_of c140_.1 fun N => ?_
 refine ws 0 64 (qp (AI 0) rfl (r_nil (ws 64 256 (qp (AS v0) rfl (bk hF fun u0 e0 hF => qC (AB u0) [] (con_cmp_isNaN_string e0) c155_ (qp (AB u0) rfl (r_nil (ws 256 448 (qp (AS v1) rfl (bk hF fun u1 e1 hF => qC (AB u1) [] (con_cmp_isNaN_string e1) c155_ (qp (AB u1) rfl (r_nil (w_seq (ws 448 512 (qp (AB u0) rfl ?_)))))))))))))))
 refine r_nil ?_
 refine cF hF (fun hF => ?_) fun hF => ?_
 ·
  refine w_seq (ws 512 576 (qp (AB u1) rfl (r_nil (cF hF (fun hF => ws 576 640 (qp (AI 0) rfl (r_nil (w_ret (thenQ_r (thenQ_r (eQ hF))))))) fun hF => ?_))))
  exact w_skip (thenQ_n (ws 576 640 (qp (AI (-1)) rfl (r_nil (w_ret (thenQ_r (eQ hF)))))))
 refine w_skip (thenQ_n (w_seq (ws 512 576 (qp (AB u1) rfl (r_nil (cF hF (fun hF => ws 576 640 (qp (AI 1) rfl (r_nil (w_ret (thenQ_r (eQ hF)))))) fun hF => ?_))))))
 refine w_skip (thenQ_n (w_seq (ws 576 768 (qp (AS v0) rfl (qp (AS v1) rfl (qp (AB (Op.bytesLess v0 v1)) rfl (r_nil (cF hF (fun hF => ws 768 832 (qp (AI (-1)) rfl (r_nil (w_ret (thenQ_r (eQ hF)))))) fun hF => ?_))))))))
 refine w_skip (thenQ_n (w_seq (ws 768 960 (qp (AS v0) rfl (qp (AS v1) rfl (qp (AB (!(Op.bytesLess v0 v1 || decide (v0 = v1)))) rfl (r_nil (cF hF (fun hF => ws 960 1024 (qp (AI 1) rfl (r_nil (w_ret (thenQ_r (eQ hF)))))) fun hF => ?_))))))))
 exact w_skip (thenQ_n (ws 960 1024 (qp (AI 0) rfl (rR hF))))

def c138 : MC := (sr [pT 2 (.mv (ci 0))] (sr [pT 3 (.mv (ci 0))] (.seq (sr [mvt 6 0, zT 7 6, pT 8 (.mv (ci 0))] (.block 0 (.loop (sr [bT 9 .lss t8 t7] (.seq (cx t9 0) (.seq (.block 1 (sr [iT 10 6 8 1, lT 11 10, mvt 5 11] (sr [mvt 12 5, mvt 13 3, bT 14 .neq t12 t13] (.cond t14 (sr [mvt 15 5, mvt 2 15] .ret) .skip)))) (.reg [bT 16 .add t8 (ci 1), mvt 8 16]))))))) (sr [mvt 17 3, mvt 2 17] .ret))))
theorem c138_ : IsF Tryz.prog 138 c138 [(.tmp 2)] := ⟨by kernel_rfl, by kernel_rfl⟩

def F_cmp_Or_int_l0 (v0 : List Int) (k0 : Int → Option (Int)) : Int → Option (Int)
 | x1 => (bif (decide (x1 < (v0.length : Int))) then ((ix v0 x1).bind fun u0 => (bif (decide (u0 ≠ (0 : Int))) then some u0
 else k0 (w64 (x1 + 1))))
 else some 0)
def F_cmp_Or_int (v0 : List Int) : Option (Int) :=
 loop (F_cmp_Or_int_l0 v0) 0
@[simp] def res_cmp_Or_int (r : Int) : RV := .one (.one (.val (.int .i64 r)))
theorem con_cmp_Or_int {v0 : List Int} {r : Int} (hF : F_cmp_Or_int v0 = some r) : Con Tryz.prog 138 [.sl 1 (v0.map vI)] (res_cmp_Or_int r) := by
 unfold F_cmp_Or_int at hF
 refine con_of c138_.1 fun N => ?_
 refine ws 0 64 (qp (AI 0) rfl (r_nil (ws 64 128 (qp (AI 0) rfl (r_nil (w_seq (ws 128 320 (qp (AL 1 (v0.map vI)) rfl (qp (AI (v0.length : Int)) (ev_len_n rfl) (qp (AI 0) rfl (r_nil (w_block ?_))))))))))))
 refine wr (l' := [(3, AI 0), (6, AL 1 (v0.map vI)), (7, AI (v0.length : Int)), (8, AI 0)]) (L := []) [3, 6, 7, 8] [] 1 ?_
 refine w_loopF (F_cmp_Or_int_l0 v0) (fun s : Int => mkS [(3, AI 0), (6, AL 1 (v0.map vI)), (7, AI (v0.length : Int)), (8, AI s)] (fo []) 1) hF ?_
 rintro k0 x1 hF
 rw [F_cmp_Or_int_l0] at hF
 try dsimp only
 refine ws 1 65 (qp (AB (decide (x1 < (v0.length : Int)))) rfl (r_nil (w_seq ?_)))
 refine cF hF (fun hF => ?_) fun hF => ?_
 ·
  refine w_skip (thenQ_n (w_seq (w_block (ws 65 257 (bk hF fun u0 e0 hF => qp (.val none (.ptr [.int .i64 u0])) (ev_iad_n rfl rfl e0 rfl) (qp (AI u0) rfl (qp (AI u0) rfl (r_nil (ws 257 449 (qp (AI u0) rfl (qp (AI 0) rfl (qp (AB (decide (u0 ≠ (0 : Int)))) rfl (r_nil ?_)))))))))))))
  refine cF hF (fun hF => ws 449 577 (qp (AI u0) rfl (qp (AI u0) rfl (r_nil (w_ret (blockQ_r (thenQ_r (thenQ_r (blockQ_r (thenQ_r (eQ hF))))))))))) fun hF => ?_
  refine w_skip (blockQ_n (thenQ_n (w_reg 449 577 rfl rfl (qp (AI (w64 (x1 + 1))) rfl (qp (AI (w64 (x1 + 1))) rfl (r_nil (thenQ_n ?_)))))))
  refine ar (l' := [(3, AI 0), (6, AL 1 (v0.map vI)), (7, AI (v0.length : Int)), (8, AI (w64 (x1 + 1)))]) (L := []) [3, 6, 7, 8] [] 1 ⟨_, by rfl, hF⟩
 exact w_exit (thenQ_e (thenQ_e (blockQ_e (thenQ_n (ws 65 193 (qp (AI 0) rfl (qp (AI 0) rfl (rR hF))))))))

def c111 : MC := (sr [rg 2 (.f (.box t0)), rg 3 (.f (.box t1)), pT 4 (.mv (ci 0))] (sr [pF 5 (.fad t2 1), lF 6 5, pF 7 (.fad t3 1), lF 8 7, dF 9 139 [t6, t8], pF 10 (.fad t2 0), lF 11 10, pF 12 (.fad t3 0), lF 13 12, dF 14 140 [t11, t13], pF 15 (.fad t2 2), lF 16 15, pF 17 (.fad t3 2), lF 18 17, dF 19 139 [t16, t18], rg 20 (.f (.bsl 1 [t9, t14, t19])), dF 21 138 [t20], mP 4 t21] .ret))
theorem c111_ : IsF Tryz.prog 111 c111 [(.tmp 4)] := ⟨by kernel_rfl, by kernel_rfl⟩

def F_impl_compareTurns (v0 : TTurn) (v1 : TTurn) : Option (Int) :=
 ((F_cmp_Compare_int64 v0.2.1 v1.2.1).bind fun u0 => ((F_cmp_Compare_string v0.1 v1.1).bind fun u1 => ((F_cmp_Compare_int64 v0.2.2 v1.2.2).bind fun u2 => ((F_cmp_Or_int [u0, u1, u2]).bind fun u3 => some u3))))
@[simp] abbrev K5p (v1 : TTurn) (v0 : TTurn) : List (Nat × Root) := [(64, .box [AS v1.1, AI v1.2.1, AI v1.2.2]), (0, .box [AS v0.1, AI v0.2.1, AI v0.2.2])]
@[simp] def res_impl_compareTurns (r : Int) : RV := .one (.one (.val (.int .i64 r)))
theorem con_impl_compareTurns {v0 : TTurn} {v1 : TTurn} {r : Int} (hF : F_impl_compareTurns v0 v1 = some r) : Con Tryz.prog 111 [eTurn v0, eTurn v1] (res_impl_compareTurns r) := by
 unfold F_impl_compareTurns at hF
 refine con_of c111_.1 fun N => ?_
 refine ws 0 192 (qf (.ptr 0 0 0) [(0, .box [AS v0.1, AI v0.2.1, AI v0.2.2])] (by simp) (qf (.ptr 64 0 0) (K5p v1 v0) (by simp) (qp (AI 0) rfl (r_nil (ws 192 1344 (qp (.ptr 0 0 1) rfl (qp (AI v0.2.1) rfl (qp (.ptr 64 0 1) rfl (qp (AI v1.2.1) rfl (bk hF fun u0 e0 hF => qC (AI u0) (K5p v1 v0) (con_cmp_Compare_int64 e0) c139_ (qp (.ptr 0 0 0) rfl (qp (AS v0.1) rfl (qp (.ptr 64 0 0) rfl (qp (AS v1.1) rfl (bk hF fun u1 e1 hF => ?_)))))))))))))))
 exact qC (AI u1) (K5p v1 v0) (con_cmp_Compare_string e1) c140_ (qp (.ptr 0 0 2) rfl (qp (AI v0.2.2) rfl (qp (.ptr 64 0 2) rfl (qp (AI v1.2.2) rfl (bk hF fun u2 e2 hF => qC (AI u2) (K5p v1 v0) (con_cmp_Compare_int64 e2) c139_ (qf (.sl 1152 0 ([u0, u1, u2].length)) ((1152, .row true 1 ([u0, u1, u2].map vI)) :: (K5p v1 v0)) (by simp [List.take_of_length_le]) (bk hF fun u3 e3 hF => qc (AI u3) ((1152, .row true 1 ([u0, u1, u2].map vI)) :: (K5p v1 v0)) true (con_cmp_Or_int e3) c138_.2 (by simp [List.take_of_length_le]) rfl (qp (AI u3) rfl (rR hF)))))))))

def c79 : MC := (sr [pT 2 (.mv cf)] (.seq (sr [mvt 5 0, zT 6 5, bT 7 .gtr t6 (ci 24)] (.cond t7 (sr [pT 2 (.mv cf)] .ret) .skip)) (.seq (sr [mvt 8 0, zT 9 8, pT 10 (.mv (ci 0))] (.block 0 (.loop (sr [bT 11 .lss t10 t9] (.seq (cx t11 0) (.seq (.block 1 (sr [mvt 12 10, iT 13 8 10 3, pT 14 (.ld t13 3 true), rg 4 (.f (.alloc [((.str []), (0, false)), ((.int .i64 0), (0, false)), ((.int .i64 0), (0, false))])), mvt 3 12, ⟨none, none, (.f (.st t4 t14 3))⟩] (sr [pF 15 (.ld t4 3 true), dF 16 110 [t15], pF 17 (.not t16), mP 18 t17, mF 19 18 t3, bH 20 18 .gtr t19 (ci 0), mF 21 18 t20, mT 22 21 t0, mT 23 21 t3, bG 24 21 .sub t23 (ci 1), iG 25 21 22 24 3, gT 26 21 (.ld t25 3 true), gT 27 21 (.ld t4 3 true), ⟨(some 28), (some (21, true)), (.call false 111 [t26, t27])⟩, bG 29 21 .geq t28 (ci 0), gF 30 18 (.pick t21 t29 cf), pF 31 (.pick t18 ct t30)] (.cond t31 (sr [pT 2 (.mv cf)] .ret) .skip)))) (.reg [bT 32 .add t10 (ci 1), mvt 10 32]))))))) (sr [pT 2 (.mv ct)] .ret))))
theorem c79_ : IsF Tryz.prog 79 c79 [(.tmp 2)] := ⟨by kernel_rfl, by kernel_rfl⟩

def F_impl_ValidTurns_l0 (v0 : List TTurn) (k0 : Int → Option (Bool)) : Int → Option (Bool)
 | x1 => (bif (decide (x1 < (v0.length : Int))) then ((ix v0 x1).bind fun u0 => ((F_impl_Turn_valid u0).bind fun u1 => (bif (!u1) then some false
 else (bif (decide ((0 : Int) < x1)) then ((ix v0 (w64 (x1 - 1))).bind fun u2 => ((F_impl_compareTurns u2 u0).bind fun u3 => (bif (decide ((0 : Int) ≤ u3)) then some false
 else k0 (w64 (x1 + 1)))))
 else k0 (w64 (x1 + 1))))))
 else some true)
def F_impl_ValidTurns (v0 : List TTurn) : Option (Bool) :=
 (bif (decide ((24 : Int) < (v0.length : Int))) then some false
 else loop (F_impl_ValidTurns_l0 v0) 0)
@[simp] abbrev K5r (u0 : TTurn) : List (Nat × Root) := [(257, .box [AS u0.1, AI u0.2.1, AI u0.2.2]), (257, .box [AS [], AI 0, AI 0])]
@[simp] abbrev K5s (v0 : List TTurn) : V := .sl 3 (v0.map eTurn)
@[simp] def res_impl_ValidTurns (r : Bool) : RV := .one (.one (.val (.bool r)))
theorem con_impl_ValidTurns {v0 : List TTurn} {r : Bool} (hF : F_impl_ValidTurns v0 = some r) : Con Tryz.prog 79 [.sl 3 (v0.map eTurn)] (res_impl_ValidTurns r) := by
 unfold F_impl_ValidTurns at hF
 refine con_of c79_.1 fun N => ?_
 refine ws 0 64 (qp (AB false) rfl (r_nil (w_seq (ws 64 256 (qp (.val none (K5s v0)) rfl (qp (AI (v0.length : Int)) (ev_len_n rfl) (qp (AB (decide ((24 : Int) < (v0.length : Int)))) rfl (r_nil (cF hF (fun hF => ws 256 320 (qp (AB false) rfl (r_nil (w_ret (thenQ_r (eQ hF)))))) fun hF => ?_)))))))))
 refine w_skip (thenQ_n (w_seq (ws 256 448 (qp (.val none (K5s v0)) rfl (qp (AI (v0.length : Int)) (ev_len_n rfl) (qp (AI 0) rfl (r_nil (w_block ?_))))))))
 refine wr (l' := [(0, .val none (K5s v0)), (8, .val none (K5s v0)), (9, AI (v0.length : Int)), (10, AI 0)]) (L := []) [0, 8, 9, 10] [] 1 ?_
 refine w_loopF (F_impl_ValidTurns_l0 v0) (fun s : Int => mkS [(0, .val none (K5s v0)), (8, .val none (K5s v0)), (9, AI (v0.length : Int)), (10, AI s)] (fo []) 1) hF ?_
 rintro k0 x1 hF
 rw [F_impl_ValidTurns_l0] at hF
 try dsimp only
 refine ws 1 65 (qp (AB (decide (x1 < (v0.length : Int)))) rfl (r_nil (w_seq ?_)))
 refine cF hF (fun hF => ?_) fun hF => ?_
 ·
  refine w_skip (thenQ_n (w_seq (w_block (ws 65 449 (qp (AI x1) rfl (bk hF fun u0 e0 hF => qp (.val none (.ptr [.str u0.1, .int .i64 u0.2.1, .int .i64 u0.2.2])) (ev_iad_n rfl rfl e0 rfl) (qp (.val none (eTurn u0)) rfl (qf (.ptr 257 0 0) [(257, .box [AS [], AI 0, AI 0])] (by simp) (qp (AI x1) rfl (qf0 (.undef) (K5r u0) (by simp) (r_nil (ws 449 1537 (qp (.agg [AS u0.1, AI u0.2.1, AI u0.2.2]) rfl (bk hF fun u1 e1 hF => qC (AB u1) (K5r u0) (con_impl_Turn_valid e1) c110_ ?_))))))))))))))
  refine qp (AB (!u1)) rfl (qp (AB (!u1)) rfl ?_)
  refine q_case 18 hF rfl (fun hF => ?_) (fun hF => ?_)
  ·
   refine qn3 (qu rfl (qu rfl (qu rfl (qu rfl (qu rfl (qu rfl (qu rfl (qu rfl (qn rfl (qp (AB true) rfl (r_nil (w_true rfl (ws 1537 1601 ?_)))))))))))))
   exact qp (AB false) rfl (r_nil (w_ret (blockQ_r (thenQ_r (thenQ_r (blockQ_r (thenQ_r (eQ hF))))))))
  refine qg (AI x1) rfl rfl (qg (AB (decide ((0 : Int) < x1))) rfl rfl (qg (AB (decide ((0 : Int) < x1))) rfl rfl ?_))
  refine q_case 21 hF rfl (fun hF => ?_) (fun hF => ?_)
  ·
   refine qg (.val none (K5s v0)) rfl rfl (qg (AI x1) rfl rfl (qg (AI (w64 (x1 - 1))) rfl rfl (bk hF fun u2 e2 hF => qg (.val none (.ptr [.str u2.1, .int .i64 u2.2.1, .int .i64 u2.2.2])) rfl (ev_iad_n rfl rfl e2 rfl) (qg (.val none (eTurn u2)) rfl rfl (qg (.agg [AS u0.1, AI u0.2.1, AI u0.2.2]) rfl rfl (bk hF fun u3 e3 hF => qG (AI u3) (K5r u0) (con_impl_compareTurns e3) c111_ (qg (AB (decide ((0 : Int) ≤ u3))) rfl rfl (qg (AB (decide ((0 : Int) ≤ u3))) rfl rfl (qp (AB (decide ((0 : Int) ≤ u3))) rfl (r_nil ?_))))))))))
   refine cF hF (fun hF => ws 1537 1601 (qp (AB false) rfl (r_nil (w_ret (blockQ_r (thenQ_r (thenQ_r (blockQ_r (thenQ_r (eQ hF)))))))))) fun hF => ?_
   refine w_skip (blockQ_n (thenQ_n (w_reg 1537 1665 rfl rfl (qp (AI (w64 (x1 + 1))) rfl (qp (AI (w64 (x1 + 1))) rfl (r_nil (thenQ_n ?_)))))))
   refine ar (l' := [(0, .val none (K5s v0)), (8, .val none (K5s v0)), (9, AI (v0.length : Int)), (10, AI (w64 (x1 + 1)))]) (L := []) [0, 8, 9, 10] [] 1 ⟨_, by rfl, hF⟩
  refine qn8 (qg (AB false) rfl rfl (qp (AB false) rfl (r_nil (w_false rfl (w_skip (blockQ_n (thenQ_n (w_reg 1537 1665 rfl rfl (qp (AI (w64 (x1 + 1))) rfl (qp (AI (w64 (x1 + 1))) rfl (r_nil ?_)))))))))))
  refine thenQ_n ?_
  refine ar (l' := [(0, .val none (K5s v0)), (8, .val none (K5s v0)), (9, AI (v0.length : Int)), (10, AI (w64 (x1 + 1)))]) (L := []) [0, 8, 9, 10] [] 1 ⟨_, by rfl, hF⟩
 exact w_exit (thenQ_e (thenQ_e (blockQ_e (thenQ_n (ws 65 129 (qp (AB true) rfl (rR hF)))))))

def c45 : MC := (sr [rg 1 (.f (.box t0)), pT 2 (.mv cf)] (sr [pT 6 (.fad t1 0), pT 7 (.ld t6 6 true), pT 8 (.fad t1 6), lT 9 8, pT 10 (.fad t1 7), lT 11 10, dT 12 76 [t7, t9, t11], mvt 5 12, pT 13 (.ext t5 0), pT 14 (.ext t5 1), rg 3 (.f (.alloc [((.int .i64 0), (0, false)), ((.int .i64 0), (0, false)), ((.sl 0 []), (1, false)), ((.sl 0 []), (3, false))])), ⟨none, none, (.f (.st t3 t13 4))⟩, mvt 4 14] (sr [mvt 15 4, bT 16 .eql t15 (ci 0), mvt 17 16, kT 18 17 (.fad t1 8), kT 19 17 (.ld t18 1 false), ⟨(some 20), (some (17, true)), (.call true 77 [t19])⟩, pT 21 (.pick t17 t20 cf), mvt 22 21, kT 23 22 (.fad t1 9), kT 24 22 (.ld t23 3 true), kT 25 22 (.fad t1 12), kT 26 22 (.ld t25 1 false), kT 27 22 (.fad t1 14), kT 28 22 (.ld t27 1 false), kT 29 22 (.fad t1 15), kT 30 22 (.ld t29 1 false), kT 31 22 (.fad t1 16), kT 32 22 (.ld t31 1 false), ⟨(some 33), (some (22, true)), (.call true 78 [t24, t26, t28, t30, t32, (ci 0)])⟩, kT 34 22 (.bin .eql t33 (ci 0)), pT 35 (.pick t22 t34 cf), mvt 36 35, kT 37 36 (.fad t1 17), kT 38 36 (.ld t37 1 false), ⟨(some 39), (some (36, true)), (.call true 79 [t38])⟩, pT 40 (.pick t36 t39 cf), mvt 2 40] .ret)))
theorem c45_ : IsF Tryz.prog 45 c45 [(.tmp 2)] := ⟨by kernel_rfl, by kernel_rfl⟩

def F_impl_ValidWork (v0 : TWork) : Option (Bool) :=
 ((F_impl_GrammarOf (v0.1, v0.2.1, v0.2.2.1, v0.2.2.2.1, v0.2.2.2.2.1, v0.2.2.2.2.2.1) v0.2.2.2.2.2.2.1 v0.2.2.2.2.2.2.2.1).bind fun u0 => (bif (decide (u0.2 = (0 : Int))) then ((F_impl_ValidMelody v0.2.2.2.2.2.2.2.2.1).bind fun u1 => (bif u1 then ((F_impl_cadenceCode (v0.2.2.2.2.2.2.2.2.2.1, v0.2.2.2.2.2.2.2.2.2.2.1, v0.2.2.2.2.2.2.2.2.2.2.2.1) v0.2.2.2.2.2.2.2.2.2.2.2.2.1 v0.2.2.2.2.2.2.2.2.2.2.2.2.2.2.1 v0.2.2.2.2.2.2.2.2.2.2.2.2.2.2.2.1 v0.2.2.2.2.2.2.2.2.2.2.2.2.2.2.2.2.1 0).bind fun u2 => (bif (decide (u2 = (0 : Int))) then ((F_impl_ValidTurns v0.2.2.2.2.2.2.2.2.2.2.2.2.2.2.2.2.2).bind fun u3 => some u3)
 else some false))
 else some false))
 else some false))
@[simp] abbrev K5t (v0 : TWork) : List (Nat × Root) := [(0, .box [AS v0.1, AL 1 (v0.2.1.map vI), AL 1 (v0.2.2.1.map vI), AI v0.2.2.2.1, AI v0.2.2.2.2.1, AL 1 (v0.2.2.2.2.2.1.map (eL 1 vI)), AI v0.2.2.2.2.2.2.1, AI v0.2.2.2.2.2.2.2.1, AL 2 (v0.2.2.2.2.2.2.2.2.1.map eNote), AS v0.2.2.2.2.2.2.2.2.2.1, AL 1 (v0.2.2.2.2.2.2.2.2.2.2.1.map vI), AL 1 (v0.2.2.2.2.2.2.2.2.2.2.2.1.map vI), AI v0.2.2.2.2.2.2.2.2.2.2.2.2.1, AS v0.2.2.2.2.2.2.2.2.2.2.2.2.2.1, AI v0.2.2.2.2.2.2.2.2.2.2.2.2.2.2.1, AI v0.2.2.2.2.2.2.2.2.2.2.2.2.2.2.2.1, AI v0.2.2.2.2.2.2.2.2.2.2.2.2.2.2.2.2.1, AL 3 (v0.2.2.2.2.2.2.2.2.2.2.2.2.2.2.2.2.2.map eTurn)])]
@[simp] abbrev K5u (u0 : TGrammar × Int) (v0 : TWork) : List (Nat × Root) := ((515, .row true 3 (u0.1.2.2.2.map eArc)) :: (514, .row true 1 (u0.1.2.2.1.map vI)) :: (K5t v0))
@[simp] abbrev K5v (u0 : TGrammar × Int) (v0 : TWork) : List (Nat × Root) := ((768, .box [AI 0, AI 0, .sl 769 0 0, .sl 770 0 0]) :: (770, .row true 3 (([] : List Int).map vI)) :: (769, .row true 1 (([] : List Int).map vI)) :: (K5u u0 v0))
@[simp] abbrev K5x (u0 : TGrammar × Int) : List AV := [AI u0.1.1, AI u0.1.2.1, .sl 514 0 u0.1.2.2.1.length, .sl 515 0 u0.1.2.2.2.length]
@[simp] abbrev K5w (u0 : TGrammar × Int) (v0 : TWork) : List (Nat × Root) := ((768, .box (K5x u0)) :: (K5v u0 v0))
@[simp] def res_impl_ValidWork (r : Bool) : RV := .one (.one (.val (.bool r)))
theorem con_impl_ValidWork {v0 : TWork} {r : Bool} (hF : F_impl_ValidWork v0 = some r) : Con Tryz.prog 45 [eWork v0] (res_impl_ValidWork r) := by
 unfold F_impl_ValidWork at hF
 refine con_of c45_.1 fun N => ?_
 refine ws 0 128 (qf (.ptr 0 0 0) (K5t v0) (by simp) (qp (AB false) rfl (r_nil (ws 128 960 (qp (.ptr 0 0 0) rfl (qp (.agg [AS v0.1, AL 1 (v0.2.1.map vI), AL 1 (v0.2.2.1.map vI), AI v0.2.2.2.1, AI v0.2.2.2.2.1, AL 1 (v0.2.2.2.2.2.1.map (eL 1 vI))]) rfl (qp (.ptr 0 0 6) rfl (qp (AI v0.2.2.2.2.2.2.1) rfl (qp (.ptr 0 0 7) rfl (qp (AI v0.2.2.2.2.2.2.2.1) rfl (bk hF fun u0 e0 hF => qc (.tup [.agg (K5x u0), AI u0.2]) (K5u u0 v0) false (con_impl_GrammarOf e0) c76_.2 (by first | rfl | simp) (by simp [res_impl_GrammarOf]) (qp (.tup [.agg (K5x u0), AI u0.2]) rfl (qp (.agg (K5x u0)) rfl (qp (AI u0.2) rfl ?_))))))))))))))
 refine qf (.ptr 768 0 0) (K5v u0 v0) (by simp) (qf0 (.undef) (K5w u0 v0) (by simp) (qp (AI u0.2) rfl (r_nil (ws 960 2688 (qp (AI u0.2) rfl (qp (AB (decide (u0.2 = (0 : Int)))) rfl (qp (AB (decide (u0.2 = (0 : Int)))) rfl ?_)))))))
 refine q_case 17 hF rfl (fun hF => ?_) (fun hF => ?_)
 ·
  refine qg (.ptr 0 0 8) rfl rfl (qg (AL 2 (v0.2.2.2.2.2.2.2.2.1.map eNote)) rfl rfl (bk hF fun u1 e1 hF => qG (AB u1) (K5w u0 v0) (con_impl_ValidMelody e1) c77_ (qp (AB u1) rfl (qp (AB u1) rfl ?_))))
  refine q_case 22 hF rfl (fun hF => ?_) (fun hF => ?_)
  ·
   refine qg (.ptr 0 0 9) rfl rfl (qg (.agg [AS v0.2.2.2.2.2.2.2.2.2.1, AL 1 (v0.2.2.2.2.2.2.2.2.2.2.1.map vI), AL 1 (v0.2.2.2.2.2.2.2.2.2.2.2.1.map vI)]) rfl rfl (qg (.ptr 0 0 12) rfl rfl (qg (AI v0.2.2.2.2.2.2.2.2.2.2.2.2.1) rfl rfl (qg (.ptr 0 0 14) rfl rfl (qg (AI v0.2.2.2.2.2.2.2.2.2.2.2.2.2.2.1) rfl rfl (qg (.ptr 0 0 15) rfl rfl (qg (AI v0.2.2.2.2.2.2.2.2.2.2.2.2.2.2.2.1) rfl rfl (qg (.ptr 0 0 16) rfl rfl (qg (AI v0.2.2.2.2.2.2.2.2.2.2.2.2.2.2.2.2.1) rfl rfl (bk hF fun u2 e2 hF => qG (AI u2) (K5w u0 v0) (con_impl_cadenceCode e2) c78_ (qg (AB (decide (u2 = (0 : Int)))) rfl rfl (qp (AB (decide (u2 = (0 : Int)))) rfl (qp (AB (decide (u2 = (0 : Int)))) rfl ?_)))))))))))))
   refine q_case 36 hF rfl (fun hF => qg (.ptr 0 0 17) rfl rfl (qg (AL 3 (v0.2.2.2.2.2.2.2.2.2.2.2.2.2.2.2.2.2.map eTurn)) rfl rfl (bk hF fun u3 e3 hF => qG (AB u3) (K5w u0 v0) (con_impl_ValidTurns e3) c79_ (qp (AB u3) rfl (qp (AB u3) rfl (rR hF)))))) fun hF => ?_
   exact qn3 (qp (AB false) rfl (qp (AB false) rfl (rR hF)))
  exact qn8 (qn4 (qp (AB false) rfl (qp (AB false) rfl (qn2 (qn rfl (qp (AB false) rfl (qp (AB false) rfl (rR hF))))))))
 exact qn3 (qp (AB false) rfl (qp (AB false) rfl (qn3 (qn8 (qn rfl (qp (AB false) rfl (qp (AB false) rfl (qn rfl (qn rfl (qn rfl (qp (AB false) rfl (qp (AB false) rfl (rR hF)))))))))))))

def c80 : MC := (sr [rg 1 (.f (.box t0)), pT 2 (.mv (ci 0))] (sr [pT 3 (.fad t1 1), lT 4 3, pT 5 (.fad t1 2), lT 6 5, bT 7 .add t4 t6, mvt 2 7] .ret))
theorem c80_ : IsF Tryz.prog 80 c80 [(.tmp 2)] := ⟨by kernel_rfl, by kernel_rfl⟩

def F_impl_Turn_end (v0 : TTurn) : Option (Int) :=
 some (w64 (v0.2.1 + v0.2.2))
@[simp] def res_impl_Turn_end (r : Int) : RV := .one (.one (.val (.int .i64 r)))
theorem con_impl_Turn_end {v0 : TTurn} {r : Int} (hF : F_impl_Turn_end v0 = some r) : Con Tryz.prog 80 [eTurn v0] (res_impl_Turn_end r) := by
 unfold F_impl_Turn_end at hF
 refine con_of c80_.1 fun N => ?_
 exact ws 0 128 (qf (.ptr 0 0 0) [(0, .box [AS v0.1, AI v0.2.1, AI v0.2.2])] (by simp) (qp (AI 0) rfl (r_nil (ws 128 512 (qp (.ptr 0 0 1) rfl (qp (AI v0.2.1) rfl (qp (.ptr 0 0 2) rfl (qp (AI v0.2.2) rfl (qp (AI (w64 (v0.2.1 + v0.2.2))) rfl (qp (AI (w64 (v0.2.1 + v0.2.2))) rfl (rR hF)))))))))))

def c46 : MC := (sr [rg 2 (.f (.nilrow 1)), pT 3 (.mv (ci 0))] (.seq (sr [mvt 9 0, dT 10 79 [t9], pT 11 (.not t10)] (.cond t11 (sr [rg 2 (.f (.nilrow 1)), pT 3 (.mv (ci 1))] .ret) .skip)) (sr [rg 4 (.f (.nilrow 1))] (.seq (sr [mvt 12 0, zT 13 12, pT 14 (.mv (ci 0))] (.block 0 (.loop (sr [bT 15 .lss t14 t13] (.seq (cx t15 0) (.seq (.block 1 (sr [mvt 16 14, iT 17 12 14 3, pT 18 (.ld t17 3 true), rg 6 (.f (.alloc [((.str []), (0, false)), ((.int .i64 0), (0, false)), ((.int .i64 0), (0, false))])), mvt 5 16, ⟨none, none, (.f (.st t6 t18 3))⟩] (sr [mvt 19 5, bT 20 .add t19 (ci 1), mvt 7 20] (.block 2 (.loop (.seq (sr [mvt 21 7, mvt 22 0, zT 23 22, bT 24 .lss t21 t23] (cx t24 2)) (.seq (.block 3 (sr [mvt 27 0, mvt 28 7, iT 29 27 28 3, pT 30 (.ld t29 3 true), rg 8 (.f (.alloc [((.str []), (0, false)), ((.int .i64 0), (0, false)), ((.int .i64 0), (0, false))])), ⟨none, none, (.f (.st t8 t30 3))⟩] (sr [pF 31 (.fad t6 0), lF 32 31, pF 33 (.fad t8 0), lF 34 33, bF 35 .eql t32 t34, mP 36 t35, gT 37 36 (.fad t8 1), lG 38 36 37, gT 39 36 (.ld t6 3 true), ⟨(some 40), (some (36, true)), (.call false 80 [t39])⟩, bG 41 36 .lss t38 t40, pF 42 (.pick t36 t41 cf)] (.cond t42 (.reg [mvt 43 4, mvt 44 5, mvt 45 7, rg 46 (.f (.bsl 1 [t44, t45])), rg 47 (.f (.bsl 1 [t46])), rg 48 (.f (.app t43 t47 1 24 true)), mvt 4 48]) .skip)))) (.reg [mvt 25 7, bT 26 .add t25 (ci 1), mvt 7 26])))))))) (.reg [bT 49 .add t14 (ci 1), mvt 14 49]))))))) (sr [mvt 50 4, mvt 2 50, pT 3 (.mv (ci 0))] .ret)))))
theorem c46_ : IsF Tryz.prog 46 c46 [(.tmp 2), (.tmp 3)] := ⟨by kernel_rfl, by kernel_rfl⟩

def F_impl_ClashesOf_l3 (v0 : List TTurn) (u21 : TTurn) (x26 : Int) (k6 : Int × (List (List Int)) → Option ((List (List Int)) × Int)) (k7 : Int × (List (List Int)) → Option ((List (List Int)) × Int)) : Int × (List (List Int)) → Option ((List (List Int)) × Int)
 | (x30, x31) => (bif (decide (x30 < (v0.length : Int))) then ((ix v0 x30).bind fun u28 => (bif (decide (u21.1 = u28.1)) then ((F_impl_Turn_end u21).bind fun u29 => (bif (decide (u28.2.1 < u29)) then (need (room (x31.length + [[x26, x30]].length) 24) (k7 (w64 (x30 + 1), x31 ++ [[x26, x30]])))
 else k7 (w64 (x30 + 1), x31)))
 else k7 (w64 (x30 + 1), x31)))
 else k6 (w64 (x26 + 1), x31))
def F_impl_ClashesOf_l2 (v0 : List TTurn) (k6 : Int × (List (List Int)) → Option ((List (List Int)) × Int)) : Int × (List (List Int)) → Option ((List (List Int)) × Int)
 | (x26, x27) => (bif (decide (x26 < (v0.length : Int))) then ((ix v0 x26).bind fun u21 => loop (F_impl_ClashesOf_l3 v0 u21 x26 k6) (w64 (x26 + 1), x27))
 else some (x27, 0))
def F_impl_ClashesOf (v0 : List TTurn) : Option ((List (List Int)) × Int) :=
 ((F_impl_ValidTurns v0).bind fun u0 => (bif (!u0) then some ([], 1)
 else loop (F_impl_ClashesOf_l2 v0) (0, [])))
@[simp] abbrev K5y : List (Nat × Root) := [(0, .row true 1 (([] : List Int).map vI))]
@[simp] abbrev K5z (x31 : List (List Int)) : List (Nat × Root) := [(0, .row true 1 (x31.map (eL 1 vI)))]
@[simp] abbrev K60 : List (Nat × Root) := ((320, .row true 1 (([] : List (List Int)).map (eL 1 vI))) :: K5y)
@[simp] abbrev K61 (x27 : List (List Int)) : List (Nat × Root) := [(257, .box [AS [], AI 0, AI 0]), (0, .row true 1 (x27.map (eL 1 vI)))]
@[simp] abbrev K68 (u21 : TTurn) : List AV := [AS u21.1, AI u21.2.1, AI u21.2.2]
@[simp] abbrev K62 (u21 : TTurn) (x31 : List (List Int)) : List (Nat × Root) := ((1, .box (K68 u21)) :: (K5z x31))
@[simp] abbrev K63 (u21 : TTurn) (x31 : List (List Int)) : List (Nat × Root) := ((514, .box [AS [], AI 0, AI 0]) :: (K62 u21 x31))
@[simp] abbrev K64 (u28 : TTurn) (u21 : TTurn) (x31 : List (List Int)) : List (Nat × Root) := ((514, .box [AS u28.1, AI u28.2.1, AI u28.2.2]) :: (K63 u21 x31))
@[simp] abbrev K65 (x26 : Int) (x30 : Int) (u28 : TTurn) (u21 : TTurn) (x31 : List (List Int)) : List (Nat × Root) := ((1602, .row true 1 ([x26, x30].map vI)) :: (K64 u28 u21 x31))
@[simp] abbrev K66 (x26 : Int) (x30 : Int) (u28 : TTurn) (u21 : TTurn) (x31 : List (List Int)) : List (Nat × Root) := ((1666, .row true 1 ([[x26, x30]].map (eL 1 vI))) :: (1602, .dead) :: (K65 x26 x30 u28 u21 x31))
@[simp] abbrev K67 (v0 : List TTurn) : V := .sl 3 (v0.map eTurn)
@[simp] abbrev K69 (v0 : List TTurn) : Nat × AV := (13, AI (v0.length : Int))
@[simp] abbrev K6a (v0 : List TTurn) : Nat × AV := (12, .val none (K67 v0))
@[simp] abbrev K6b (v0 : List TTurn) : Nat × AV := (0, .val none (K67 v0))
@[simp] def res_impl_ClashesOf (r : (List (List Int)) × Int) : RV := .tup [.one (.row true 1 (r.1.map (eL 1 vI))), .one (.val (.int .i64 r.2))]
theorem con_impl_ClashesOf {v0 : List TTurn} {r : (List (List Int)) × Int} (hF : F_impl_ClashesOf v0 = some r) : Con Tryz.prog 46 [.sl 3 (v0.map eTurn)] (res_impl_ClashesOf r) := by
 unfold F_impl_ClashesOf at hF
 refine con_of c46_.1 fun N => ?_
 refine ws 0 128 (qf (.sl 0 0 0) K5y (by simp) (qp (AI 0) rfl (r_nil (w_seq (ws 128 320 (qp (.val none (K67 v0)) rfl (bk hF fun u0 e0 hF => qC (AB u0) K5y (con_impl_ValidTurns e0) c79_ (qp (AB (!u0)) rfl (r_nil ?_)))))))))
 refine cF hF (fun hF => ?_) fun hF => ?_
 ·
  exact ws 320 448 (qf (.sl 320 0 0) K60 (by simp) (qp (AI 1) rfl (r_nil (w_ret (thenQ_r (eQ hF))))))
 refine w_skip (thenQ_n (ws 320 384 (qf (.sl 320 0 0) K60 (by simp) (r_nil (w_seq (ws 384 576 (qp (.val none (K67 v0)) rfl (qp (AI (v0.length : Int)) (ev_len_n rfl) (qp (AI 0) rfl (r_nil (w_block ?_)))))))))))
 refine wr (l' := [(K6b v0), (4, .sl 0 0 0), (K6a v0), (K69 v0), (14, AI 0)]) (L := [(0, .row true 1 (([] : List (List Int)).map (eL 1 vI)))]) [0, 4, 12, 13, 14] [(320, 0)] 1 ?_
 refine w_loopF (F_impl_ClashesOf_l2 v0) (fun s : Int × (List (List Int)) => mkS [(K6b v0), (4, .sl 0 0 s.2.length), (K6a v0), (K69 v0), (14, AI s.1)] (fo [(0, .row true 1 (s.2.map (eL 1 vI)))]) 1) hF ?_
 rintro k6 ⟨x26, x27⟩ hF
 rw [F_impl_ClashesOf_l2] at hF
 try dsimp only
 refine ws 1 65 (qp (AB (decide (x26 < (v0.length : Int)))) rfl (r_nil (w_seq ?_)))
 refine cF hF (fun hF => ?_) fun hF => ?_
 ·
  refine w_skip (thenQ_n (w_seq (w_block (ws 65 449 (qp (AI x26) rfl (bk hF fun u21 e21 hF => qp (.val none (.ptr [.str u21.1, .int .i64 u21.2.1, .int .i64 u21.2.2])) (ev_iad_n rfl rfl e21 rfl) (qp (.val none (eTurn u21)) rfl (qf (.ptr 257 0 0) (K61 x27) (by simp) (qp (AI x26) rfl (qf0 (.undef) ((257, .box (K68 u21)) :: (K61 x27)) (by simp) (r_nil (ws 449 641 ?_))))))))))))
  refine qp (AI x26) rfl (qp (AI (w64 (x26 + 1))) rfl (qp (AI (w64 (x26 + 1))) rfl (r_nil (w_block ?_))))
  refine wr (l' := [(K6b v0), (4, .sl 0 0 x27.length), (5, AI x26), (6, .ptr 1 0 0), (7, AI (w64 (x26 + 1))), (K6a v0), (K69 v0), (14, AI x26)]) (L := [(1, .box (K68 u21)), (0, .row true 1 (x27.map (eL 1 vI)))]) [0, 4, 5, 6, 7, 12, 13, 14] [(257, 1), (0, 0)] 2 ?_
  refine w_loopF (F_impl_ClashesOf_l3 v0 u21 x26 k6) (fun s : Int × (List (List Int)) => mkS [(K6b v0), (4, .sl 0 0 s.2.length), (5, AI x26), (6, .ptr 1 0 0), (7, AI s.1), (K6a v0), (K69 v0), (14, AI x26)] (fo [(1, .box (K68 u21)), (0, .row true 1 (s.2.map (eL 1 vI)))]) 2) hF ?_
  rintro k7 ⟨x30, x31⟩ hF
  rw [F_impl_ClashesOf_l3] at hF
  try dsimp only
  refine w_seq (ws 2 258 (qp (AI x30) rfl (qp (.val none (K67 v0)) rfl (qp (AI (v0.length : Int)) (ev_len_n rfl) (qp (AB (decide (x30 < (v0.length : Int)))) rfl (r_nil ?_))))))
  refine cF hF (fun hF => ?_) fun hF => ?_
  ·
   refine w_skip (thenQ_n (w_seq (w_block (ws 258 642 (qp (.val none (K67 v0)) rfl (qp (AI x30) rfl (bk hF fun u28 e28 hF => qp (.val none (.ptr [.str u28.1, .int .i64 u28.2.1, .int .i64 u28.2.2])) (ev_iad_n rfl rfl e28 rfl) (qp (.val none (eTurn u28)) rfl (qf (.ptr 514 0 0) (K63 u21 x31) (by simp) (qf0 (.undef) (K64 u28 u21 x31) (by simp) (r_nil (ws 642 1410 ?_))))))))))))
   refine qp (.ptr 1 0 0) rfl (qp (AS u21.1) rfl (qp (.ptr 514 0 0) rfl (qp (AS u28.1) rfl (qp (AB (decide (u21.1 = u28.1))) rfl (qp (AB (decide (u21.1 = u28.1))) rfl ?_)))))
   refine q_case 36 hF rfl (fun hF => ?_) (fun hF => ?_)
   ·
    refine qg (.ptr 514 0 1) rfl rfl (qg (AI u28.2.1) rfl rfl (qg (.agg (K68 u21)) rfl rfl (bk hF fun u29 e29 hF => qG (AI u29) (K64 u28 u21 x31) (con_impl_Turn_end e29) c80_ (qg (AB (decide (u28.2.1 < u29))) rfl rfl (qp (AB (decide (u28.2.1 < u29))) rfl (r_nil ?_))))))
    refine cF hF (fun hF => ?_) fun hF => ?_
    ·
     refine w_reg 1410 1858 rfl rfl (qp (.sl 0 0 x31.length) rfl (qp (AI x26) rfl (qp (AI x30) rfl (qf (.sl 1602 0 ([x26, x30].length)) (K65 x26 x30 u28 u21 x31) (by simp [List.take_of_length_le]) (qf (.sl 1666 0 ([[x26, x30]].length)) (K66 x26 x30 u28 u21 x31) (by simp [List.take_of_length_le]) (nk hF fun g30 hF => qf (.sl 1730 0 ((x31 ++ [[x26, x30]]).length)) ((1730, .row true 1 ((x31 ++ [[x26, x30]]).map (eL 1 vI))) :: (0, .dead) :: (1666, .dead) :: (K66 x26 x30 u28 u21 x31)) (effT_app_l rfl (by simp) rfl rfl (by simp) rfl (by decide) g30 rfl) (qp (.sl 1730 0 ((x31 ++ [[x26, x30]]).length)) rfl (r_nil (blockQ_n (thenQ_n (w_reg 1858 2050 rfl rfl ?_)))))))))))
     refine qp (AI x30) rfl (qp (AI (w64 (x30 + 1))) rfl (qp (AI (w64 (x30 + 1))) rfl (r_nil (thenQ_n ?_))))
     refine ar (l' := [(K6b v0), (4, .sl 0 0 (x31 ++ [[x26, x30]]).length), (5, AI x26), (6, .ptr 1 0 0), (7, AI (w64 (x30 + 1))), (K6a v0), (K69 v0), (14, AI x26)]) (L := [(1, .box (K68 u21)), (0, .row true 1 ((x31 ++ [[x26, x30]]).map (eL 1 vI)))]) [0, 4, 5, 6, 7, 12, 13, 14] [(1, 1), (1730, 0)] 2 ⟨_, by rfl, hF⟩
    refine w_skip (blockQ_n (thenQ_n (w_reg 1410 1602 rfl rfl (qp (AI x30) rfl (qp (AI (w64 (x30 + 1))) rfl (qp (AI (w64 (x30 + 1))) rfl (r_nil (thenQ_n ?_))))))))
    refine ar (l' := [(K6b v0), (4, .sl 0 0 x31.length), (5, AI x26), (6, .ptr 1 0 0), (7, AI (w64 (x30 + 1))), (K6a v0), (K69 v0), (14, AI x26)]) (L := (K62 u21 x31)) [0, 4, 5, 6, 7, 12, 13, 14] [(1, 1), (0, 0)] 2 ⟨_, by rfl, hF⟩
   refine qn5 (qp (AB false) rfl (r_nil (w_false rfl (w_skip (blockQ_n (thenQ_n (w_reg 1410 1602 rfl rfl (qp (AI x30) rfl (qp (AI (w64 (x30 + 1))) rfl (qp (AI (w64 (x30 + 1))) rfl (r_nil ?_)))))))))))
   refine thenQ_n ?_
   refine ar (l' := [(K6b v0), (4, .sl 0 0 x31.length), (5, AI x26), (6, .ptr 1 0 0), (7, AI (w64 (x30 + 1))), (K6a v0), (K69 v0), (14, AI x26)]) (L := (K62 u21 x31)) [0, 4, 5, 6, 7, 12, 13, 14] [(1, 1), (0, 0)] 2 ⟨_, by rfl, hF⟩
  refine w_exit (thenQ_e (thenQ_e (blockQ_e (blockQ_n (thenQ_n (w_reg 258 386 rfl rfl (qp (AI (w64 (x26 + 1))) rfl (qp (AI (w64 (x26 + 1))) rfl (r_nil (thenQ_n ?_))))))))))
  refine ar (l' := [(K6b v0), (4, .sl 0 0 x31.length), (K6a v0), (K69 v0), (14, AI (w64 (x26 + 1)))]) (L := (K5z x31)) [0, 4, 12, 13, 14] [(0, 0)] 1 ⟨_, by rfl, hF⟩
 exact w_exit (thenQ_e (thenQ_e (blockQ_e (thenQ_n (ws 65 257 (qp (.sl 0 0 x27.length) rfl (qp (.sl 0 0 x27.length) rfl (qp (AI 0) rfl (rR hF)))))))))

theorem c112_ok : okFn Tryz.prog 112 = true := by kernel_rfl




def c82 : MC := (sr [pT 2 (.mv (.c (.str [])))] (sr [mvt 3 0, dT 4 112 [t3, (ci 10)], mvt 2 4] .ret))
theorem c82_ : IsF Tryz.prog 82 c82 [(.tmp 2)] := ⟨by kernel_rfl, by kernel_rfl⟩

def F_impl_Decimal (v0 : Int) : Option (List UInt8) :=
 ((F_formatInt v0 10).bind fun u0 => some u0)
@[simp] def res_impl_Decimal (r : List UInt8) : RV := .one (.one (.val (.str r)))
theorem con_impl_Decimal {v0 : Int} {r : List UInt8} (hF : F_impl_Decimal v0 = some r) : Con Tryz.prog 82 [.int .i64 v0] (res_impl_Decimal r) := by
 unfold F_impl_Decimal at hF
 refine con_of c82_.1 fun N => ?_
 exact ws 0 64 (qp (AS []) rfl (r_nil (ws 64 256 (qp (AI v0) rfl (bk hF fun u0 e0 hF => qc (AS u0) [] false (con_formatInt e0) c112_ok (by first | rfl | simp) rfl (qp (AS u0) rfl (rR hF)))))))

theorem c83_ok : okFn Tryz.prog 83 = true := by kernel_rfl




def c47 : MC := (sr [pT 2 (.mv (.c (.str [])))] (.seq (sr [mvt 6 0, zT 7 6, bT 8 .gtr t7 (ci 64)] (.cond t8 (sr [pT 2 (.mv (.c (.str [])))] .ret) .skip)) (.seq (sr [mvt 9 0, zT 10 9, bT 11 .eql t10 (ci 0)] (.cond t11 (sr [pT 2 (.mv (.c (.str [45])))] .ret) .skip)) (sr [mvt 12 0, zT 13 12, rg 14 (.f (.mks 1 16 (.str []) (ci 0) t13)), mvt 3 14] (.seq (sr [mvt 15 0, zT 16 15, pT 17 (.mv (ci 0))] (.block 0 (.loop (sr [bT 18 .lss t17 t16] (.seq (cx t18 0) (.seq (.block 1 (sr [iT 19 15 17 1, lT 20 19, mvt 5 20] (.seq (sr [mvt 21 5, dT 22 81 [t21, (ci (-1000000000000)), (ci 1000000000000)], pT 23 (.not t22)] (.cond t23 (sr [pT 2 (.mv (.c (.str [])))] .ret) .skip)) (.reg [mvt 24 3, mvt 25 5, dT 26 82 [t25], rg 27 (.f (.bsl 1 [t26])), rg 28 (.f (.app t24 t27 1 16 true)), mvt 3 28])))) (.reg [bT 29 .add t17 (ci 1), mvt 17 29]))))))) (sr [mvt 30 3, rg 31 (.call true 83 [t30, (.c (.str [44]))]), mvt 2 31] .ret))))))
theorem c47_ : IsF Tryz.prog 47 c47 [(.tmp 2)] := ⟨by kernel_rfl, by kernel_rfl⟩

def F_impl_ListText_l0 (v0 : List Int) (k1 : Int × (List (List UInt8)) → Option (List UInt8)) : Int × (List (List UInt8)) → Option (List UInt8)
 | (x6, x7) => (bif (decide (x6 < (v0.length : Int))) then ((ix v0 x6).bind fun u9 => ((F_impl_within u9 (-1000000000000) 1000000000000).bind fun u10 => (bif (!u10) then some []
 else ((F_impl_Decimal u9).bind fun u11 => (need (room (x7.length + [u11].length) 16) (k1 (w64 (x6 + 1), x7 ++ [u11])))))))
 else ((F_join x7 [44]).bind fun u13 => some u13))
def F_impl_ListText (v0 : List Int) : Option (List UInt8) :=
 (bif (decide ((64 : Int) < (v0.length : Int))) then some []
 else (bif (decide ((v0.length : Int) = (0 : Int))) then some [45]
 else (need (0 ≤ (0 : Int) ∧ (0 : Int) ≤ (v0.length : Int) ∧ (v0.length : Int) ≤ 9223372036854775807 ∧ 16 * (v0.length : Int) ≤ 281474976710656) (loop (F_impl_ListText_l0 v0) (0, List.replicate ((0 : Int)).toNat ([] : List UInt8))))))
@[simp] abbrev K6c (u11 : List UInt8) (x7 : List (List UInt8)) : List (Nat × Root) := [(641, .row true 1 ([u11].map V.str)), (0, .row true 1 (x7.map V.str))]
@[simp] abbrev K6d (v0 : List Int) : V := .sl 1 (v0.map vI)
@[simp] def res_impl_ListText (r : List UInt8) : RV := .one (.one (.val (.str r)))
theorem con_impl_ListText {v0 : List Int} {r : List UInt8} (hF : F_impl_ListText v0 = some r) : Con Tryz.prog 47 [.sl 1 (v0.map vI)] (res_impl_ListText r) := by
 unfold F_impl_ListText at hF
 refine con_of c47_.1 fun N => ?_
 refine ws 0 64 (qp (AS []) rfl (r_nil (w_seq (ws 64 256 (qp (.val none (K6d v0)) rfl (qp (AI (v0.length : Int)) (ev_len_n rfl) (qp (AB (decide ((64 : Int) < (v0.length : Int)))) rfl (r_nil (cF hF (fun hF => ws 256 320 (qp (AS []) rfl (r_nil (w_ret (thenQ_r (eQ hF)))))) fun hF => ?_)))))))))
 refine w_skip (thenQ_n (w_seq (ws 256 448 (qp (.val none (K6d v0)) rfl (qp (AI (v0.length : Int)) (ev_len_n rfl) (qp (AB (decide ((v0.length : Int) = (0 : Int)))) rfl (r_nil (cF hF (fun hF => ws 448 512 (qp (AS [45]) rfl (r_nil (w_ret (thenQ_r (eQ hF)))))) fun hF => ?_))))))))
 refine w_skip (thenQ_n (ws 448 704 (qp (.val none (K6d v0)) rfl (qp (AI (v0.length : Int)) (ev_len_n rfl) (nk hF fun g0 hF => qf (.sl 576 0 ((List.replicate ((0 : Int)).toNat ([] : List UInt8)).length)) [(576, .row true 1 ((List.replicate ((0 : Int)).toNat ([] : List UInt8)).map V.str))] (effT_mks rfl rfl g0 rfl) (qp (.sl 576 0 ((List.replicate ((0 : Int)).toNat ([] : List UInt8)).length)) rfl (r_nil (w_seq (ws 704 896 (qp (.val none (K6d v0)) rfl (qp (AI (v0.length : Int)) (ev_len_n rfl) (qp (AI 0) rfl (r_nil (w_block ?_))))))))))))))
 refine wr (l' := [(3, .sl 0 0 (List.replicate ((0 : Int)).toNat ([] : List UInt8)).length), (15, .val none (K6d v0)), (16, AI (v0.length : Int)), (17, AI 0)]) (L := [(0, .row true 1 ((List.replicate ((0 : Int)).toNat ([] : List UInt8)).map V.str))]) [3, 15, 16, 17] [(576, 0)] 1 ?_
 refine w_loopF (F_impl_ListText_l0 v0) (fun s : Int × (List (List UInt8)) => mkS [(3, .sl 0 0 s.2.length), (15, .val none (K6d v0)), (16, AI (v0.length : Int)), (17, AI s.1)] (fo [(0, .row true 1 (s.2.map V.str))]) 1) hF ?_
 rintro k1 ⟨x6, x7⟩ hF
 rw [F_impl_ListText_l0] at hF
 try dsimp only
 refine ws 1 65 (qp (AB (decide (x6 < (v0.length : Int)))) rfl (r_nil (w_seq ?_)))
 refine cF hF (fun hF => ?_) fun hF => ?_
 ·
  refine w_skip (thenQ_n (w_seq (w_block (ws 65 257 (bk hF fun u9 e9 hF => qp (.val none (.ptr [.int .i64 u9])) (ev_iad_n rfl rfl e9 rfl) (qp (AI u9) rfl (qp (AI u9) rfl (r_nil (w_seq (ws 257 449 (qp (AI u9) rfl (bk hF fun u10 e10 hF => qC (AB u10) [(0, .row true 1 (x7.map V.str))] (con_impl_within e10) c81_ (qp (AB (!u10)) rfl (r_nil ?_))))))))))))))
  refine cF hF (fun hF => ws 449 513 (qp (AS []) rfl (r_nil (w_ret (thenQ_r (blockQ_r (thenQ_r (thenQ_r (blockQ_r (thenQ_r (eQ hF))))))))))) fun hF => ?_
  refine w_skip (thenQ_n (w_reg 449 833 rfl rfl (qp (.sl 0 0 x7.length) rfl (qp (AI u9) rfl (bk hF fun u11 e11 hF => qC (AS u11) [(0, .row true 1 (x7.map V.str))] (con_impl_Decimal e11) c82_ (qf (.sl 641 0 ([u11].length)) (K6c u11 x7) (by simp [List.take_of_length_le]) (nk hF fun g12 hF => qf (.sl 705 0 ((x7 ++ [u11]).length)) ((705, .row true 1 ((x7 ++ [u11]).map V.str)) :: (0, .dead) :: (641, .dead) :: (K6c u11 x7)) (effT_app_l rfl (by simp) rfl rfl (by simp) rfl (by decide) g12 rfl) (qp (.sl 705 0 ((x7 ++ [u11]).length)) rfl (r_nil (blockQ_n (thenQ_n (w_reg 833 961 rfl rfl ?_))))))))))))
  refine qp (AI (w64 (x6 + 1))) rfl (qp (AI (w64 (x6 + 1))) rfl (r_nil (thenQ_n ?_)))
  refine ar (l' := [(3, .sl 0 0 (x7 ++ [u11]).length), (15, .val none (K6d v0)), (16, AI (v0.length : Int)), (17, AI (w64 (x6 + 1)))]) (L := [(0, .row true 1 ((x7 ++ [u11]).map V.str))]) [3, 15, 16, 17] [(705, 0)] 1 ⟨_, by rfl, hF⟩
 exact w_exit (thenQ_e (thenQ_e (blockQ_e (thenQ_n (ws 65 257 (qp (.sl 0 0 x7.length) rfl (bk hF fun u13 e13 hF => qc (AS u13) [(0, .row true 1 (x7.map V.str))] true (con_join e13) c83_ok (by simp [List.take_of_length_le]) rfl (qp (AS u13) rfl (rR hF)))))))))

end Go.Ab
