/- Walks (printed by auto.py, a program of this session's own). -/
import Derived.Test.YtikfkniplbeeeaaGreatDoorU1
import Derived.Test.YtikfkniplbeeeaaGreatDoorProg
import Derived.KernelRfl
import Derived.Test.YtikfkniplbeeeaaGreatDoorSQ
set_option linter.unusedVariables false
set_option linter.unusedSimpArgs false
set_option maxRecDepth 8000
set_option maxHeartbeats 8000000
noncomputable section
namespace Go.Ab
open Go.RowKit Go.Proofs

def c37 : MC := (sr [pT 2 (.mv cf)] (.seq (sr [mP 4 t0, pF 5 (.nck t4), pF 6 (.fad t5 0), dF 7 54 [t6], pF 8 (.not t7), mP 9 t8, mF 10 9 t0, gF 11 9 (.nck t10), gF 12 9 (.fad t11 6), lH 13 9 12, ⟨(some 14), (some (9, false)), (.call false 55 [t13])⟩, gF 15 9 (.not t14), pF 16 (.pick t9 ct t15), mP 17 t16, mF 18 17 t0, gF 19 17 (.nck t18), gF 20 17 (.fad t19 7), lH 21 17 20, mF 22 17 t0, gF 23 17 (.nck t22), gF 24 17 (.fad t23 6), lH 25 17 24, ⟨(some 26), (some (17, false)), (.call false 56 [t21, t25, (ci 23)])⟩, gF 27 17 (.not t26), pF 28 (.pick t17 ct t27), mP 29 t28, mF 30 29 t0, gF 31 29 (.nck t30), gF 32 29 (.fad t31 8), lH 33 29 32, ⟨(some 34), (some (29, false)), (.call false 57 [t33])⟩, gF 35 29 (.not t34), pF 36 (.pick t29 ct t35), mP 37 t36, mF 38 37 t0, gF 39 37 (.nck t38), gF 40 37 (.fad t39 17), lH 41 37 40, ⟨(some 42), (some (37, false)), (.call false 58 [t41])⟩, gF 43 37 (.not t42), pF 44 (.pick t37 ct t43)] (.cond t44 (sr [pT 2 (.mv cf)] .ret) .skip)) (sr [mP 45 t0, pF 46 (.nck t45), pF 47 (.fad t46 0), mP 48 t0, pF 49 (.nck t48), pF 50 (.fad t49 6), lF 51 50, mP 52 t0, pF 53 (.nck t52), pF 54 (.fad t53 7), lF 55 54, dF 56 59 [t47, t51, t55], rg 3 (.f (.alloc [((.int .i64 0), (0, false)), ((.int .i64 0), (0, false)), ((.sl 0 []), (1, false)), ((.sl 0 []), (3, false))])), ⟨none, none, (.f (.st t3 t56 4))⟩] (sr [dF 57 60 [t3], mP 58 t57, mT 59 58 t0, gT 60 58 (.nck t59), gT 61 58 (.fad t60 9), mT 62 58 t0, gT 63 58 (.nck t62), gT 64 58 (.fad t63 12), lG 65 58 64, mT 66 58 t0, gT 67 58 (.nck t66), gT 68 58 (.fad t67 14), lG 69 58 68, ⟨(some 70), (some (58, true)), (.call false 61 [t61, t65, t69])⟩, bG 71 58 .eql t70 (ci 0), pF 72 (.pick t58 t71 cf), mP 73 t72, mT 74 73 t0, gT 75 73 (.nck t74), gT 76 73 (.fad t75 15), lG 77 73 76, ⟨(some 78), (some (73, true)), (.call false 62 [t77])⟩, pF 79 (.pick t73 t78 cf), mP 80 t79, mT 81 80 t0, gT 82 80 (.nck t81), gT 83 80 (.fad t82 16), lG 84 80 83, ⟨(some 85), (some (80, true)), (.call false 63 [t84])⟩, pF 86 (.pick t80 t85 cf), mP 2 t86] .ret))))
theorem c37_ : IsF Tryz.prog 37 c37 [(.tmp 2)] := ⟨by kernel_rfl, by kernel_rfl⟩

def F_spec_l31Ok (v0 : TWork) : Option (Bool) :=
 ((F_spec_l05Ok (v0.1, v0.2.1, v0.2.2.1, v0.2.2.2.1, v0.2.2.2.2.1, v0.2.2.2.2.2.1)).bind fun u0 => (bif (!u0) then some false
 else ((F_spec_l03Pitch v0.2.2.2.2.2.2.1).bind fun u1 => (bif (!u1) then some false
 else ((F_spec_l00In v0.2.2.2.2.2.2.2.1 v0.2.2.2.2.2.2.1 23).bind fun u2 => (bif (!u2) then some false
 else ((F_spec_l09Ok v0.2.2.2.2.2.2.2.2.1).bind fun u3 => (bif (!u3) then some false
 else ((F_spec_l23Ok v0.2.2.2.2.2.2.2.2.2.2.2.2.2.2.2.2.2).bind fun u4 => (bif (!u4) then some false
 else ((F_spec_l07Of (v0.1, v0.2.1, v0.2.2.1, v0.2.2.2.1, v0.2.2.2.2.1, v0.2.2.2.2.2.1) v0.2.2.2.2.2.2.1 v0.2.2.2.2.2.2.2.1).bind fun u5 => ((F_spec_l07Ok u5).bind fun u6 => (bif u6 then ((F_spec_l19Start (v0.2.2.2.2.2.2.2.2.2.1, v0.2.2.2.2.2.2.2.2.2.2.1, v0.2.2.2.2.2.2.2.2.2.2.2.1) v0.2.2.2.2.2.2.2.2.2.2.2.2.1 v0.2.2.2.2.2.2.2.2.2.2.2.2.2.2.1).bind fun u7 => (bif (decide (u7 = (0 : Int))) then ((F_spec_l19Phrase v0.2.2.2.2.2.2.2.2.2.2.2.2.2.2.2.1).bind fun u8 => (bif u8 then ((F_spec_l19Gap v0.2.2.2.2.2.2.2.2.2.2.2.2.2.2.2.2.1).bind fun u9 => some u9)
 else some false))
 else some false))
 else some false)))))))))))))
@[simp] abbrev K38 (u5 : TGrammar) : List (Nat × Root) := [(3395, .row true 3 (u5.2.2.2.map eArc)), (3394, .row true 1 (u5.2.2.1.map vI))]
@[simp] abbrev K39 (u5 : TGrammar) : List (Nat × Root) := ((3456, .box [AI 0, AI 0, .sl 3457 0 0, .sl 3458 0 0]) :: (3458, .row true 3 (([] : List Int).map vI)) :: (3457, .row true 1 (([] : List Int).map vI)) :: (K38 u5))
@[simp] abbrev K3a (u5 : TGrammar) : List (Nat × Root) := ((3456, .box [AI u5.1, AI u5.2.1, .sl 3394 0 u5.2.2.1.length, .sl 3395 0 u5.2.2.2.length]) :: (K39 u5))
@[simp] abbrev K3b (v0 : TWork) : AV := .val none (.ptr [.str v0.1, .sl 1 (v0.2.1.map vI), .sl 1 (v0.2.2.1.map vI), .int .i64 v0.2.2.2.1, .int .i64 v0.2.2.2.2.1, .sl 1 (v0.2.2.2.2.2.1.map (eL 1 vI)), .int .i64 v0.2.2.2.2.2.2.1, .int .i64 v0.2.2.2.2.2.2.2.1, .sl 2 (v0.2.2.2.2.2.2.2.2.1.map eNote), .str v0.2.2.2.2.2.2.2.2.2.1, .sl 1 (v0.2.2.2.2.2.2.2.2.2.2.1.map vI), .sl 1 (v0.2.2.2.2.2.2.2.2.2.2.2.1.map vI), .int .i64 v0.2.2.2.2.2.2.2.2.2.2.2.2.1, .str v0.2.2.2.2.2.2.2.2.2.2.2.2.2.1, .int .i64 v0.2.2.2.2.2.2.2.2.2.2.2.2.2.2.1, .int .i64 v0.2.2.2.2.2.2.2.2.2.2.2.2.2.2.2.1, .int .i64 v0.2.2.2.2.2.2.2.2.2.2.2.2.2.2.2.2.1, .sl 3 (v0.2.2.2.2.2.2.2.2.2.2.2.2.2.2.2.2.2.map eTurn)])
@[simp] abbrev K3c (v0 : TWork) : List V := [.int .i64 v0.2.2.2.2.2.2.1, .int .i64 v0.2.2.2.2.2.2.2.1, .sl 2 (v0.2.2.2.2.2.2.2.2.1.map eNote), .str v0.2.2.2.2.2.2.2.2.2.1, .sl 1 (v0.2.2.2.2.2.2.2.2.2.2.1.map vI), .sl 1 (v0.2.2.2.2.2.2.2.2.2.2.2.1.map vI), .int .i64 v0.2.2.2.2.2.2.2.2.2.2.2.2.1, .str v0.2.2.2.2.2.2.2.2.2.2.2.2.2.1, .int .i64 v0.2.2.2.2.2.2.2.2.2.2.2.2.2.2.1, .int .i64 v0.2.2.2.2.2.2.2.2.2.2.2.2.2.2.2.1, .int .i64 v0.2.2.2.2.2.2.2.2.2.2.2.2.2.2.2.2.1, .sl 3 (v0.2.2.2.2.2.2.2.2.2.2.2.2.2.2.2.2.2.map eTurn)]
@[simp] abbrev K3d (v0 : TWork) : AV := .val none (.ptr [.int .i64 v0.2.2.2.2.2.2.2.1, .sl 2 (v0.2.2.2.2.2.2.2.2.1.map eNote), .str v0.2.2.2.2.2.2.2.2.2.1, .sl 1 (v0.2.2.2.2.2.2.2.2.2.2.1.map vI), .sl 1 (v0.2.2.2.2.2.2.2.2.2.2.2.1.map vI), .int .i64 v0.2.2.2.2.2.2.2.2.2.2.2.2.1, .str v0.2.2.2.2.2.2.2.2.2.2.2.2.2.1, .int .i64 v0.2.2.2.2.2.2.2.2.2.2.2.2.2.2.1, .int .i64 v0.2.2.2.2.2.2.2.2.2.2.2.2.2.2.2.1, .int .i64 v0.2.2.2.2.2.2.2.2.2.2.2.2.2.2.2.2.1, .sl 3 (v0.2.2.2.2.2.2.2.2.2.2.2.2.2.2.2.2.2.map eTurn)])
@[simp] abbrev K3e (v0 : TWork) : List V := [.int .i64 v0.2.2.2.2.2.2.2.2.2.2.2.2.1, .str v0.2.2.2.2.2.2.2.2.2.2.2.2.2.1, .int .i64 v0.2.2.2.2.2.2.2.2.2.2.2.2.2.2.1, .int .i64 v0.2.2.2.2.2.2.2.2.2.2.2.2.2.2.2.1, .int .i64 v0.2.2.2.2.2.2.2.2.2.2.2.2.2.2.2.2.1, .sl 3 (v0.2.2.2.2.2.2.2.2.2.2.2.2.2.2.2.2.2.map eTurn)]
@[simp] def res_spec_l31Ok (r : Bool) : RV := .one (.one (.val (.bool r)))
theorem con_spec_l31Ok {v0 : TWork} {r : Bool} (hF : F_spec_l31Ok v0 = some r) : Con Tryz.prog 37 [.ptr [.str v0.1, .sl 1 (v0.2.1.map vI), .sl 1 (v0.2.2.1.map vI), .int .i64 v0.2.2.2.1, .int .i64 v0.2.2.2.2.1, .sl 1 (v0.2.2.2.2.2.1.map (eL 1 vI)), .int .i64 v0.2.2.2.2.2.2.1, .int .i64 v0.2.2.2.2.2.2.2.1, .sl 2 (v0.2.2.2.2.2.2.2.2.1.map eNote), .str v0.2.2.2.2.2.2.2.2.2.1, .sl 1 (v0.2.2.2.2.2.2.2.2.2.2.1.map vI), .sl 1 (v0.2.2.2.2.2.2.2.2.2.2.2.1.map vI), .int .i64 v0.2.2.2.2.2.2.2.2.2.2.2.2.1, .str v0.2.2.2.2.2.2.2.2.2.2.2.2.2.1, .int .i64 v0.2.2.2.2.2.2.2.2.2.2.2.2.2.2.1, .int .i64 v0.2.2.2.2.2.2.2.2.2.2.2.2.2.2.2.1, .int .i64 v0.2.2.2.2.2.2.2.2.2.2.2.2.2.2.2.2.1, .sl 3 (v0.2.2.2.2.2.2.2.2.2.2.2.2.2.2.2.2.2.map eTurn)]] (res_spec_l31Ok r) := by
 unfold F_spec_l31Ok at hF
 refine con_of c37_.1 fun N => ?_
 refine ws 0 64 (qp (AB false) rfl (r_nil (w_seq (ws 64 2688 (qp (K3b v0) rfl (qp (K3b v0) rfl (qp (K3b v0) rfl (bk hF fun u0 e0 hF => qC (AB u0) [] (con_pre0 (K3c v0) (con_spec_l05Ok e0)) c54_ (qp (AB (!u0)) rfl (qp (AB (!u0)) rfl ?_))))))))))
 refine q_case 9 hF rfl (fun hF => ?_) (fun hF => ?_)
 ·
  refine qn6 (qp (AB true) rfl (qp (AB true) rfl (qn8 (qn2 (qp (AB true) rfl (qp (AB true) rfl (qn4 (qn2 (qp (AB true) rfl (qp (AB true) rfl (qn4 (qn2 (qp (AB true) rfl ?_)))))))))))))
  exact r_nil (w_true rfl (ws 2688 2752 (qp (AB false) rfl (r_nil (w_ret (thenQ_r (eQ hF)))))))
 refine qg (K3b v0) rfl rfl (qg (K3b v0) rfl rfl (qg (.val none (.ptr (K3c v0))) rfl rfl (qg (AI v0.2.2.2.2.2.2.1) rfl rfl (bk hF fun u1 e1 hF => qG (AB u1) [] (con_spec_l03Pitch e1) c55_ (qg (AB (!u1)) rfl rfl (qp (AB (!u1)) rfl (qp (AB (!u1)) rfl ?_)))))))
 refine q_case 17 hF rfl (fun hF => ?_) (fun hF => ?_)
 ·
  refine qn8 (qn2 (qp (AB true) rfl (qp (AB true) rfl (qn4 (qn2 (qp (AB true) rfl (qp (AB true) rfl (qn4 (qn2 (qp (AB true) rfl (r_nil (w_true rfl (ws 2688 2752 ?_)))))))))))))
  exact qp (AB false) rfl (r_nil (w_ret (thenQ_r (eQ hF))))
 refine qg (K3b v0) rfl rfl (qg (K3b v0) rfl rfl (qg (K3d v0) rfl rfl (qg (AI v0.2.2.2.2.2.2.2.1) rfl rfl (qg (K3b v0) rfl rfl (qg (K3b v0) rfl rfl (qg (.val none (.ptr (K3c v0))) rfl rfl (qg (AI v0.2.2.2.2.2.2.1) rfl rfl (bk hF fun u2 e2 hF => qG (AB u2) [] (con_spec_l00In e2) c56_ (qg (AB (!u2)) rfl rfl (qp (AB (!u2)) rfl (qp (AB (!u2)) rfl ?_)))))))))))
 refine q_case 29 hF rfl (fun hF => qn6 (qp (AB true) rfl (qp (AB true) rfl (qn6 (qp (AB true) rfl (r_nil (w_true rfl (ws 2688 2752 (qp (AB false) rfl (r_nil (w_ret (thenQ_r (eQ hF))))))))))))) fun hF => ?_
 refine qg (K3b v0) rfl rfl (qg (K3b v0) rfl rfl (qg (.val none (.ptr [.sl 2 (v0.2.2.2.2.2.2.2.2.1.map eNote), .str v0.2.2.2.2.2.2.2.2.2.1, .sl 1 (v0.2.2.2.2.2.2.2.2.2.2.1.map vI), .sl 1 (v0.2.2.2.2.2.2.2.2.2.2.2.1.map vI), .int .i64 v0.2.2.2.2.2.2.2.2.2.2.2.2.1, .str v0.2.2.2.2.2.2.2.2.2.2.2.2.2.1, .int .i64 v0.2.2.2.2.2.2.2.2.2.2.2.2.2.2.1, .int .i64 v0.2.2.2.2.2.2.2.2.2.2.2.2.2.2.2.1, .int .i64 v0.2.2.2.2.2.2.2.2.2.2.2.2.2.2.2.2.1, .sl 3 (v0.2.2.2.2.2.2.2.2.2.2.2.2.2.2.2.2.2.map eTurn)])) rfl rfl (qg (AL 2 (v0.2.2.2.2.2.2.2.2.1.map eNote)) rfl rfl (bk hF fun u3 e3 hF => qG (AB u3) [] (con_spec_l09Ok e3) c57_ (qg (AB (!u3)) rfl rfl (qp (AB (!u3)) rfl (qp (AB (!u3)) rfl ?_)))))))
 refine q_case 37 hF rfl (fun hF => qn6 (qp (AB true) rfl (r_nil (w_true rfl (ws 2688 2752 (qp (AB false) rfl (r_nil (w_ret (thenQ_r (eQ hF)))))))))) fun hF => ?_
 refine qg (K3b v0) rfl rfl (qg (K3b v0) rfl rfl (qg (.val none (.ptr [.sl 3 (v0.2.2.2.2.2.2.2.2.2.2.2.2.2.2.2.2.2.map eTurn)])) rfl rfl (qg (AL 3 (v0.2.2.2.2.2.2.2.2.2.2.2.2.2.2.2.2.2.map eTurn)) rfl rfl (bk hF fun u4 e4 hF => qG (AB u4) [] (con_spec_l23Ok e4) c58_ (qg (AB (!u4)) rfl rfl (qp (AB (!u4)) rfl (r_nil (cF hF (fun hF => ws 2688 2752 (qp (AB false) rfl (r_nil (w_ret (thenQ_r (eQ hF)))))) fun hF => ?_))))))))
 refine w_skip (thenQ_n (ws 2688 3584 (qp (K3b v0) rfl (qp (K3b v0) rfl (qp (K3b v0) rfl (qp (K3b v0) rfl (qp (K3b v0) rfl (qp (.val none (.ptr (K3c v0))) rfl (qp (AI v0.2.2.2.2.2.2.1) rfl (qp (K3b v0) rfl (qp (K3b v0) rfl (qp (K3d v0) rfl (qp (AI v0.2.2.2.2.2.2.2.1) rfl (bk hF fun u5 e5 hF => ?_))))))))))))))
 refine qc (.agg [AI u5.1, AI u5.2.1, .sl 3394 0 u5.2.2.1.length, .sl 3395 0 u5.2.2.2.length]) (K38 u5) false (con_pre0 (K3c v0) (con_spec_l07Of e5)) c59_.2 (by first | rfl | simp) (by simp [res_spec_l07Of]) (qf (.ptr 3456 0 0) (K39 u5) (by simp) (qf0 (.undef) (K3a u5) (by simp) (r_nil (ws 3584 5568 (bk hF fun u6 e6 hF => qc (AB u6) (K3a u5) true (con_spec_l07Ok e6) c60_.2 (by simp [List.take_of_length_le]) rfl (qp (AB u6) rfl ?_))))))
 refine q_case 58 hF rfl (fun hF => ?_) (fun hF => ?_)
 ·
  refine qg (K3b v0) rfl rfl (qg (K3b v0) rfl rfl (qg (.val none (.ptr [.str v0.2.2.2.2.2.2.2.2.2.1, .sl 1 (v0.2.2.2.2.2.2.2.2.2.2.1.map vI), .sl 1 (v0.2.2.2.2.2.2.2.2.2.2.2.1.map vI), .int .i64 v0.2.2.2.2.2.2.2.2.2.2.2.2.1, .str v0.2.2.2.2.2.2.2.2.2.2.2.2.2.1, .int .i64 v0.2.2.2.2.2.2.2.2.2.2.2.2.2.2.1, .int .i64 v0.2.2.2.2.2.2.2.2.2.2.2.2.2.2.2.1, .int .i64 v0.2.2.2.2.2.2.2.2.2.2.2.2.2.2.2.2.1, .sl 3 (v0.2.2.2.2.2.2.2.2.2.2.2.2.2.2.2.2.2.map eTurn)])) rfl rfl (qg (K3b v0) rfl rfl (qg (K3b v0) rfl rfl (qg (.val none (.ptr (K3e v0))) rfl rfl (qg (AI v0.2.2.2.2.2.2.2.2.2.2.2.2.1) rfl rfl (qg (K3b v0) rfl rfl (qg (K3b v0) rfl rfl (qg (.val none (.ptr [.int .i64 v0.2.2.2.2.2.2.2.2.2.2.2.2.2.2.1, .int .i64 v0.2.2.2.2.2.2.2.2.2.2.2.2.2.2.2.1, .int .i64 v0.2.2.2.2.2.2.2.2.2.2.2.2.2.2.2.2.1, .sl 3 (v0.2.2.2.2.2.2.2.2.2.2.2.2.2.2.2.2.2.map eTurn)])) rfl rfl (qg (AI v0.2.2.2.2.2.2.2.2.2.2.2.2.2.2.1) rfl rfl (bk hF fun u7 e7 hF => qG (AI u7) (K3a u5) (con_pre0 (K3e v0) (con_spec_l19Start e7)) c61_ (qg (AB (decide (u7 = (0 : Int)))) rfl rfl (qp (AB (decide (u7 = (0 : Int)))) rfl (qp (AB (decide (u7 = (0 : Int)))) rfl ?_))))))))))))))
  refine q_case 73 hF rfl (fun hF => ?_) (fun hF => ?_)
  ·
   refine qg (K3b v0) rfl rfl (qg (K3b v0) rfl rfl (qg (.val none (.ptr [.int .i64 v0.2.2.2.2.2.2.2.2.2.2.2.2.2.2.2.1, .int .i64 v0.2.2.2.2.2.2.2.2.2.2.2.2.2.2.2.2.1, .sl 3 (v0.2.2.2.2.2.2.2.2.2.2.2.2.2.2.2.2.2.map eTurn)])) rfl rfl (qg (AI v0.2.2.2.2.2.2.2.2.2.2.2.2.2.2.2.1) rfl rfl (bk hF fun u8 e8 hF => qG (AB u8) (K3a u5) (con_spec_l19Phrase e8) c62_ (qp (AB u8) rfl (qp (AB u8) rfl (q_case 80 hF rfl (fun hF => qg (K3b v0) rfl rfl (qg (K3b v0) rfl rfl (qg (.val none (.ptr [.int .i64 v0.2.2.2.2.2.2.2.2.2.2.2.2.2.2.2.2.1, .sl 3 (v0.2.2.2.2.2.2.2.2.2.2.2.2.2.2.2.2.2.map eTurn)])) rfl rfl (qg (AI v0.2.2.2.2.2.2.2.2.2.2.2.2.2.2.2.2.1) rfl rfl (bk hF fun u9 e9 hF => qG (AB u9) (K3a u5) (con_spec_l19Gap e9) c63_ (qp (AB u9) rfl (qp (AB u9) rfl (rR hF)))))))) fun hF => ?_)))))))
   exact qn5 (qp (AB false) rfl (qp (AB false) rfl (rR hF)))
  exact qn5 (qp (AB false) rfl (qp (AB false) rfl (qn rfl (qn4 (qp (AB false) rfl (qp (AB false) rfl (rR hF)))))))
 exact qn8 (qn5 (qp (AB false) rfl (qp (AB false) rfl (qn rfl (qn4 (qp (AB false) rfl (qp (AB false) rfl (qn2 (qn3 (qp (AB false) rfl (qp (AB false) rfl (rR hF))))))))))))

def c74 : MC := (sr [rg 2 (.f (.nilrow 1)), pT 3 (.mv (ci 0))] (.seq (sr [mvt 7 0, dT 8 58 [t7], pT 9 (.not t8)] (.cond t9 (sr [rg 2 (.f (.nilrow 1)), pT 3 (.mv (ci 1))] .ret) .skip)) (sr [rg 10 (.f (.bsl 1 [])), mvt 4 10] (.seq (sr [pT 5 (.mv (ci 0))] (.block 0 (.loop (.seq (sr [mvt 11 5, mvt 12 0, zT 13 12, bT 14 .lss t11 t13] (cx t14 0)) (.seq (.block 1 (sr [mvt 17 5, bT 18 .add t17 (ci 1), mvt 6 18] (.block 2 (.loop (.seq (sr [mvt 19 6, mvt 20 0, zT 21 20, bT 22 .lss t19 t21] (cx t22 2)) (.seq (.block 3 (sr [mP 25 t0, mP 26 t5, iF 27 25 26 3, pF 28 (.fad t27 0), lF 29 28, mP 30 t0, mP 31 t6, iF 32 30 31 3, pF 33 (.fad t32 0), lF 34 33, bF 35 .eql t29 t34, mP 36 t35, mT 37 36 t0, mT 38 36 t6, iG 39 36 37 38 3, gT 40 36 (.fad t39 1), lG 41 36 40, mT 42 36 t0, mT 43 36 t5, iG 44 36 42 43 3, gT 45 36 (.fad t44 1), lG 46 36 45, mT 47 36 t0, mT 48 36 t5, iG 49 36 47 48 3, gT 50 36 (.fad t49 2), lG 51 36 50, bG 52 36 .add t46 t51, bG 53 36 .lss t41 t52, pF 54 (.pick t36 t53 cf)] (.cond t54 (.reg [mvt 55 4, mvt 56 5, mvt 57 6, rg 58 (.f (.bsl 1 [t56, t57])), rg 59 (.f (.bsl 1 [t58])), rg 60 (.f (.app t55 t59 1 24 true)), mvt 4 60]) .skip))) (.reg [mvt 23 6, bT 24 .add t23 (ci 1), mvt 6 24]))))))) (.reg [mvt 15 5, bT 16 .add t15 (ci 1), mvt 5 16])))))) (sr [mvt 61 4, mvt 2 61, pT 3 (.mv (ci 0))] .ret)))))
theorem c74_ : IsF Tryz.prog 74 c74 [(.tmp 2), (.tmp 3)] := ⟨by kernel_rfl, by kernel_rfl⟩

def F_spec_ClashesOf_l3 (v0 : List TTurn) (x26 : Int) (k6 : Int × (List (List Int)) → Option ((List (List Int)) × Int)) (k7 : Int × (List (List Int)) → Option ((List (List Int)) × Int)) : Int × (List (List Int)) → Option ((List (List Int)) × Int)
 | (x30, x31) => (bif (decide (x30 < (v0.length : Int))) then ((ix v0 x26).bind fun u49 => ((ix v0 x30).bind fun u50 => (bif (decide (u49.1 = u50.1)) then ((ix v0 x30).bind fun u51 => ((ix v0 x26).bind fun u52 => ((ix v0 x26).bind fun u53 => (bif (decide (u51.2.1 < w64 (u52.2.1 + u53.2.2))) then (need (room (x31.length + [[x26, x30]].length) 24) (k7 (w64 (x30 + 1), x31 ++ [[x26, x30]])))
 else k7 (w64 (x30 + 1), x31)))))
 else k7 (w64 (x30 + 1), x31))))
 else k6 (w64 (x26 + 1), x31))
def F_spec_ClashesOf_l2 (v0 : List TTurn) (k6 : Int × (List (List Int)) → Option ((List (List Int)) × Int)) : Int × (List (List Int)) → Option ((List (List Int)) × Int)
 | (x26, x27) => (bif (decide (x26 < (v0.length : Int))) then loop (F_spec_ClashesOf_l3 v0 x26 k6) (w64 (x26 + 1), x27)
 else some (x27, 0))
def F_spec_ClashesOf (v0 : List TTurn) : Option ((List (List Int)) × Int) :=
 ((F_spec_l23Ok v0).bind fun u0 => (bif (!u0) then some ([], 1)
 else loop (F_spec_ClashesOf_l2 v0) (0, [])))
@[simp] abbrev K3f : List (Nat × Root) := [(0, .row true 1 (([] : List Int).map vI))]
@[simp] abbrev K3g (x31 : List (List Int)) : List (Nat × Root) := [(0, .row true 1 (x31.map (eL 1 vI)))]
@[simp] abbrev K3h : List (Nat × Root) := ((320, .row true 1 (([] : List (List Int)).map (eL 1 vI))) :: K3f)
@[simp] abbrev K3i (x26 : Int) (x30 : Int) (x31 : List (List Int)) : List (Nat × Root) := ((2369, .row true 1 ([x26, x30].map vI)) :: (K3g x31))
@[simp] abbrev K3j (x26 : Int) (x30 : Int) (x31 : List (List Int)) : List (Nat × Root) := ((2433, .row true 1 ([[x26, x30]].map (eL 1 vI))) :: (2369, .dead) :: (K3i x26 x30 x31))
@[simp] abbrev K3k (v0 : List TTurn) : Nat × AV := (0, AL 3 (v0.map eTurn))
@[simp] abbrev K3l (v0 : List TTurn) : AV := AL 3 (v0.map eTurn)
@[simp] def res_spec_ClashesOf (r : (List (List Int)) × Int) : RV := .tup [.one (.row true 1 (r.1.map (eL 1 vI))), .one (.val (.int .i64 r.2))]
theorem con_spec_ClashesOf {v0 : List TTurn} {r : (List (List Int)) × Int} (hF : F_spec_ClashesOf v0 = some r) : Con Tryz.prog 74 [.sl 3 (v0.map eTurn)] (res_spec_ClashesOf r) := by
 unfold F_spec_ClashesOf at hF
 refine con_of c74_.1 fun N => ?_
 refine ws 0 128 (qf (.sl 0 0 0) K3f (by simp) (qp (AI 0) rfl (r_nil (w_seq (ws 128 320 (qp (K3l v0) rfl (bk hF fun u0 e0 hF => qC (AB u0) K3f (con_spec_l23Ok e0) c58_ (qp (AB (!u0)) rfl (r_nil ?_)))))))))
 refine cF hF (fun hF => ?_) fun hF => ?_
 ·
  exact ws 320 448 (qf (.sl 320 0 0) K3h (by simp) (qp (AI 1) rfl (r_nil (w_ret (thenQ_r (eQ hF))))))
 refine w_skip (thenQ_n (ws 320 448 (qf (.sl 320 0 0) K3h (by simp [List.take_of_length_le]) (qp (.sl 320 0 0) rfl (r_nil (w_seq (ws 448 512 (qp (AI 0) rfl (r_nil (w_block ?_))))))))))
 refine wr (l' := [(K3k v0), (4, .sl 0 0 0), (5, AI 0)]) (L := [(0, .row true 1 (([] : List (List Int)).map (eL 1 vI)))]) [0, 4, 5] [(320, 0)] 1 ?_
 refine w_loopF (F_spec_ClashesOf_l2 v0) (fun s : Int × (List (List Int)) => mkS [(K3k v0), (4, .sl 0 0 s.2.length), (5, AI s.1)] (fo [(0, .row true 1 (s.2.map (eL 1 vI)))]) 1) hF ?_
 rintro k6 ⟨x26, x27⟩ hF
 rw [F_spec_ClashesOf_l2] at hF
 try dsimp only
 refine w_seq (ws 1 257 (qp (AI x26) rfl (qp (K3l v0) rfl (qp (AI (v0.length : Int)) (ev_len_n rfl) (qp (AB (decide (x26 < (v0.length : Int)))) rfl (r_nil ?_))))))
 refine cF hF (fun hF => ?_) fun hF => ?_
 ·
  refine w_skip (thenQ_n (w_seq (w_block (ws 257 449 (qp (AI x26) rfl (qp (AI (w64 (x26 + 1))) rfl (qp (AI (w64 (x26 + 1))) rfl (r_nil (w_block ?_)))))))))
  refine wr (l' := [(K3k v0), (4, .sl 0 0 x27.length), (5, AI x26), (6, AI (w64 (x26 + 1)))]) (L := [(0, .row true 1 (x27.map (eL 1 vI)))]) [0, 4, 5, 6] [(0, 0)] 1 ?_
  refine w_loopF (F_spec_ClashesOf_l3 v0 x26 k6) (fun s : Int × (List (List Int)) => mkS [(K3k v0), (4, .sl 0 0 s.2.length), (5, AI x26), (6, AI s.1)] (fo [(0, .row true 1 (s.2.map (eL 1 vI)))]) 1) hF ?_
  rintro k7 ⟨x30, x31⟩ hF
  rw [F_spec_ClashesOf_l3] at hF
  try dsimp only
  refine w_seq (ws 1 257 (qp (AI x30) rfl (qp (K3l v0) rfl (qp (AI (v0.length : Int)) (ev_len_n rfl) (qp (AB (decide (x30 < (v0.length : Int)))) rfl (r_nil ?_))))))
  refine cF hF (fun hF => ?_) fun hF => ?_
  ·
   refine w_skip (thenQ_n (w_seq (w_block (ws 257 2177 (qp (K3l v0) rfl (qp (AI x26) rfl (bk hF fun u49 e49 hF => qp (.val none (.ptr [.str u49.1, .int .i64 u49.2.1, .int .i64 u49.2.2])) (ev_iad_n rfl rfl e49 rfl) (qp (.val none (.ptr [.str u49.1, .int .i64 u49.2.1, .int .i64 u49.2.2])) rfl (qp (AS u49.1) rfl (qp (K3l v0) rfl (qp (AI x30) rfl (bk hF fun u50 e50 hF => ?_))))))))))))
   refine qp (.val none (.ptr [.str u50.1, .int .i64 u50.2.1, .int .i64 u50.2.2])) (ev_iad_n rfl rfl e50 rfl) (qp (.val none (.ptr [.str u50.1, .int .i64 u50.2.1, .int .i64 u50.2.2])) rfl (qp (AS u50.1) rfl (qp (AB (decide (u49.1 = u50.1))) rfl (qp (AB (decide (u49.1 = u50.1))) rfl ?_))))
   refine q_case 36 hF rfl (fun hF => ?_) (fun hF => ?_)
   ·
    refine qg (K3l v0) rfl rfl (qg (AI x30) rfl rfl (bk hF fun u51 e51 hF => qg (.val none (.ptr [.str u51.1, .int .i64 u51.2.1, .int .i64 u51.2.2])) rfl (ev_iad_n rfl rfl e51 rfl) (qg (.val none (.ptr [.int .i64 u51.2.1, .int .i64 u51.2.2])) rfl rfl (qg (AI u51.2.1) rfl rfl (qg (K3l v0) rfl rfl (qg (AI x26) rfl rfl (bk hF fun u52 e52 hF => qg (.val none (.ptr [.str u52.1, .int .i64 u52.2.1, .int .i64 u52.2.2])) rfl (ev_iad_n rfl rfl e52 rfl) (qg (.val none (.ptr [.int .i64 u52.2.1, .int .i64 u52.2.2])) rfl rfl (qg (AI u52.2.1) rfl rfl (qg (K3l v0) rfl rfl (qg (AI x26) rfl rfl (bk hF fun u53 e53 hF => ?_))))))))))))
    refine qg (.val none (.ptr [.str u53.1, .int .i64 u53.2.1, .int .i64 u53.2.2])) rfl (ev_iad_n rfl rfl e53 rfl) (qg (.val none (.ptr [.int .i64 u53.2.2])) rfl rfl (qg (AI u53.2.2) rfl rfl (qg (AI (w64 (u52.2.1 + u53.2.2))) rfl rfl (qg (AB (decide (u51.2.1 < w64 (u52.2.1 + u53.2.2)))) rfl rfl (qp (AB (decide (u51.2.1 < w64 (u52.2.1 + u53.2.2)))) rfl (r_nil ?_))))))
    refine cF hF (fun hF => ?_) fun hF => ?_
    ·
     refine w_reg 2177 2625 rfl rfl (qp (.sl 0 0 x31.length) rfl (qp (AI x26) rfl (qp (AI x30) rfl (qf (.sl 2369 0 ([x26, x30].length)) (K3i x26 x30 x31) (by simp [List.take_of_length_le]) (qf (.sl 2433 0 ([[x26, x30]].length)) (K3j x26 x30 x31) (by simp [List.take_of_length_le]) (nk hF fun g54 hF => qf (.sl 2497 0 ((x31 ++ [[x26, x30]]).length)) ((2497, .row true 1 ((x31 ++ [[x26, x30]]).map (eL 1 vI))) :: (0, .dead) :: (2433, .dead) :: (K3j x26 x30 x31)) (effT_app_l rfl (by simp) rfl rfl (by simp) rfl (by decide) g54 rfl) (qp (.sl 2497 0 ((x31 ++ [[x26, x30]]).length)) rfl (r_nil (blockQ_n (thenQ_n (w_reg 2625 2817 rfl rfl ?_)))))))))))
     refine qp (AI x30) rfl (qp (AI (w64 (x30 + 1))) rfl (qp (AI (w64 (x30 + 1))) rfl (r_nil (thenQ_n ?_))))
     refine ar (l' := [(K3k v0), (4, .sl 0 0 (x31 ++ [[x26, x30]]).length), (5, AI x26), (6, AI (w64 (x30 + 1)))]) (L := [(0, .row true 1 ((x31 ++ [[x26, x30]]).map (eL 1 vI)))]) [0, 4, 5, 6] [(2497, 0)] 1 ⟨_, by rfl, hF⟩
    refine w_skip (blockQ_n (thenQ_n (w_reg 2177 2369 rfl rfl (qp (AI x30) rfl (qp (AI (w64 (x30 + 1))) rfl (qp (AI (w64 (x30 + 1))) rfl (r_nil (thenQ_n ?_))))))))
    refine ar (l' := [(K3k v0), (4, .sl 0 0 x31.length), (5, AI x26), (6, AI (w64 (x30 + 1)))]) (L := (K3g x31)) [0, 4, 5, 6] [(0, 0)] 1 ⟨_, by rfl, hF⟩
   refine qn8 (qn8 (qn rfl (qp (AB false) rfl (r_nil (w_false rfl (w_skip (blockQ_n (thenQ_n (w_reg 2177 2369 rfl rfl ?_)))))))))
   refine qp (AI x30) rfl (qp (AI (w64 (x30 + 1))) rfl (qp (AI (w64 (x30 + 1))) rfl (r_nil (thenQ_n ?_))))
   refine ar (l' := [(K3k v0), (4, .sl 0 0 x31.length), (5, AI x26), (6, AI (w64 (x30 + 1)))]) (L := (K3g x31)) [0, 4, 5, 6] [(0, 0)] 1 ⟨_, by rfl, hF⟩
  refine w_exit (thenQ_e (thenQ_e (blockQ_e (blockQ_n (thenQ_n (w_reg 257 449 rfl rfl (qp (AI x26) rfl (qp (AI (w64 (x26 + 1))) rfl (qp (AI (w64 (x26 + 1))) rfl (r_nil (thenQ_n ?_)))))))))))
  refine ar (l' := [(K3k v0), (4, .sl 0 0 x31.length), (5, AI (w64 (x26 + 1)))]) (L := (K3g x31)) [0, 4, 5] [(0, 0)] 1 ⟨_, by rfl, hF⟩
 exact w_exit (thenQ_e (thenQ_e (blockQ_e (thenQ_n (ws 257 449 (qp (.sl 0 0 x27.length) rfl (qp (.sl 0 0 x27.length) rfl (qp (AI 0) rfl (rR hF)))))))))

def c66 : MC := (sr [pT 2 (.mv (.c (.str [])))] (.seq (sr [mvt 8 0, bT 9 .eql t8 (ci 0)] (.cond t9 (sr [pT 2 (.mv (.c (.str [48])))] .ret) .skip)) (sr [rg 10 (.f (.bsl 1 [])), mvt 3 10] (.seq (sr [mvt 11 0, mvt 4 11] (.block 0 (.loop (.seq (sr [mvt 12 4, bT 13 .neq t12 (ci 0)] (cx t13 0)) (.seq (.block 1 (sr [mvt 16 4, bT 17 .rem t16 (ci 10), mvt 5 17] (.seq (sr [mvt 18 5, bT 19 .lss t18 (ci 0)] (.cond t19 (.reg [mvt 20 5, pT 21 (.neg t20), mvt 5 21]) .skip)) (.reg [mvt 22 3, mvt 23 5, bT 24 .add (ci 48) t23, pT 25 (.conv .u8 t24), rg 26 (.f (.bsl 1 [t25])), rg 27 (.f (.app t22 t26 1 1 true)), mvt 3 27])))) (.reg [mvt 14 4, bT 15 .quo t14 (ci 10), mvt 4 15])))))) (.seq (sr [mvt 28 0, bT 29 .lss t28 (ci 0)] (.cond t29 (.reg [mvt 30 3, rg 31 (.f (.bsl 1 [(.c (.int .u8 45))])), rg 32 (.f (.app t30 t31 1 1 true)), mvt 3 32]) .skip)) (sr [rg 33 (.f (.bsl 1 [])), mvt 6 33] (.seq (sr [mvt 34 3, zT 35 34, bT 36 .sub t35 (ci 1), mvt 7 36] (.block 2 (.loop (.seq (sr [mvt 37 7, bT 38 .geq t37 (ci 0)] (cx t38 2)) (.seq (.block 3 (.reg [mvt 41 6, mvt 42 3, mvt 43 7, iT 44 42 43 1, lT 45 44, rg 46 (.f (.bsl 1 [t45])), rg 47 (.f (.app t41 t46 1 1 true)), mvt 6 47])) (.reg [mvt 39 7, bT 40 .sub t39 (ci 1), mvt 7 40])))))) (sr [mvt 48 6, pT 49 (.bts t48), mvt 2 49] .ret))))))))
theorem c66_ : IsF Tryz.prog 66 c66 [(.tmp 2)] := ⟨by kernel_rfl, by kernel_rfl⟩

def F_spec_l01Dec_j1 (x4 : Int) (x5 : List Int) (k0 : Int × (List Int) → Option (List UInt8)) (x6 : Int) : Option (List UInt8) :=
 (need (room (x5.length + [IntKind.wrap .u8 (w64 (48 + x6))].length) 1) (k0 (w64 (Int.tdiv x4 10), x5 ++ [IntKind.wrap .u8 (w64 (48 + x6))])))
def F_spec_l01Dec_l3 (x7 : List Int) (k1 : Int × (List Int) → Option (List UInt8)) : Int × (List Int) → Option (List UInt8)
 | (x10, x11) => (bif (decide ((0 : Int) ≤ x10)) then ((ix x7 x10).bind fun u2 => (need (room (x11.length + [u2].length) 1) (k1 (w64 (x10 - 1), x11 ++ [u2]))))
 else some (bytesI x11))
def F_spec_l01Dec_j2 (x7 : List Int) : Option (List UInt8) :=
 loop (F_spec_l01Dec_l3 x7) (w64 ((x7.length : Int) - 1), [])
def F_spec_l01Dec_l0 (v0 : Int) (k0 : Int × (List Int) → Option (List UInt8)) : Int × (List Int) → Option (List UInt8)
 | (x4, x5) => (bif (decide (x4 ≠ (0 : Int))) then (bif (decide (Int.tmod x4 10 < (0 : Int))) then F_spec_l01Dec_j1 x4 x5 k0 (w64 (0 - (Int.tmod x4 10)))
 else F_spec_l01Dec_j1 x4 x5 k0 (Int.tmod x4 10))
 else (bif (decide (v0 < (0 : Int))) then (need (room (x5.length + [(45 : Int)].length) 1) (F_spec_l01Dec_j2 (x5 ++ [(45 : Int)])))
 else F_spec_l01Dec_j2 x5))
def F_spec_l01Dec (v0 : Int) : Option (List UInt8) :=
 (bif (decide (v0 = (0 : Int))) then some [48]
 else loop (F_spec_l01Dec_l0 v0) (v0, []))
@[simp] abbrev K3q (x5 : List Int) : Nat × Root := (0, .row true 1 (x5.map (V.int .u8)))
@[simp] abbrev K3m (x6 : Int) (x5 : List Int) : List (Nat × Root) := [(257, .row true 1 ([IntKind.wrap .u8 (w64 (48 + x6))].map (V.int .u8))), (K3q x5)]
@[simp] abbrev K3n (x5 : List Int) : List (Nat × Root) := [(321, .row true 1 ([(45 : Int)].map (V.int .u8))), (K3q x5)]
@[simp] abbrev K3r (x7 : List Int) : Nat × Root := (0, .row true 1 (x7.map (V.int .u8)))
@[simp] abbrev K3o (x7 : List Int) : List (Nat × Root) := [(1, .row true 1 (([] : List Int).map (V.int .u8))), (K3r x7)]
@[simp] abbrev K3p (u2 : Int) (x11 : List Int) (x7 : List Int) : List (Nat × Root) := [(450, .row true 1 ([u2].map (V.int .u8))), (1, .row true 1 (x11.map (V.int .u8))), (K3r x7)]
@[simp] def res_spec_l01Dec (r : List UInt8) : RV := .one (.one (.val (.str r)))
theorem con_spec_l01Dec {v0 : Int} {r : List UInt8} (hF : F_spec_l01Dec v0 = some r) : Con Tryz.prog 66 [.int .i64 v0] (res_spec_l01Dec r) := by
 unfold F_spec_l01Dec at hF
 refine con_of c66_.1 fun N => ?_
 refine ws 0 64 (qp (AS []) rfl (r_nil (w_seq (ws 64 192 (qp (AI v0) rfl (qp (AB (decide (v0 = (0 : Int)))) rfl (r_nil (cF hF (fun hF => ws 192 256 (qp (AS [48]) rfl (r_nil (w_ret (thenQ_r (eQ hF)))))) fun hF => ?_))))))))
 refine w_skip (thenQ_n (ws 192 320 (qf (.sl 192 0 0) [(192, .row true 1 (([] : List Int).map (V.int .u8)))] (by simp [List.take_of_length_le]) (qp (.sl 192 0 0) rfl (r_nil (w_seq (ws 320 448 (qp (AI v0) rfl (qp (AI v0) rfl (r_nil (w_block ?_)))))))))))
 refine wr (l' := [(0, AI v0), (3, .sl 0 0 0), (4, AI v0)]) (L := [(0, .row true 1 (([] : List Int).map (V.int .u8)))]) [0, 3, 4] [(192, 0)] 1 ?_
 refine w_loopF (F_spec_l01Dec_l0 v0) (fun s : Int × (List Int) => mkS [(0, AI v0), (3, .sl 0 0 s.2.length), (4, AI s.1)] (fo [(0, .row true 1 (s.2.map (V.int .u8)))]) 1) hF ?_
 rintro k0 ⟨x4, x5⟩ hF
 rw [F_spec_l01Dec_l0] at hF
 try dsimp only
 refine w_seq (ws 1 129 (qp (AI x4) rfl (qp (AB (decide (x4 ≠ (0 : Int)))) rfl (r_nil ?_))))
 refine cF hF (fun hF => ?_) fun hF => ?_
 ·
  refine w_skip (thenQ_n (w_seq (w_block (ws 129 321 (qp (AI x4) rfl (qp (AI (Int.tmod x4 10)) (ev_rem rfl rfl (by decide)) (qp (AI (Int.tmod x4 10)) rfl (r_nil ?_))))))))
  refine w_meet (fun s' => ∃ (x6 : Int), s' = mkS [(0, AI v0), (3, .sl 0 0 x5.length), (4, AI x4), (5, AI x6)] (fo [(K3q x5)]) 1 ∧ F_spec_l01Dec_j1 x4 x5 k0 x6 = some r) ?_ ?_
  ·
   refine ws 321 449 (qp (AI (Int.tmod x4 10)) rfl (qp (AB (decide (Int.tmod x4 10 < (0 : Int)))) rfl (r_nil ?_)))
   refine cF hF (fun hF => ?_) fun hF => ?_
   ·
    refine w_reg 449 641 rfl rfl (qp (AI (Int.tmod x4 10)) rfl (qp (AI (w64 (0 - (Int.tmod x4 10)))) rfl (qp (AI (w64 (0 - (Int.tmod x4 10)))) rfl (r_nil (thenQ_n ?_)))))
    refine ar (l' := [(0, AI v0), (3, .sl 0 0 x5.length), (4, AI x4), (5, AI (w64 (0 - (Int.tmod x4 10))))]) (L := [(K3q x5)]) [0, 3, 4, 5] [(0, 0)] 1 ⟨_, rfl, hF⟩
   refine w_skip (thenQ_n ?_)
   refine ar (l' := [(0, AI v0), (3, .sl 0 0 x5.length), (4, AI x4), (5, AI (Int.tmod x4 10))]) (L := [(K3q x5)]) [0, 3, 4, 5] [(0, 0)] 1 ⟨_, rfl, hF⟩
  rintro s' ⟨x6, rfl, hF⟩
  unfold F_spec_l01Dec_j1 at hF
  refine w_reg 1 449 rfl rfl (qp (.sl 0 0 x5.length) rfl (qp (AI x6) rfl (qp (AI (w64 (48 + x6))) rfl (qp (.val none (.int .u8 (IntKind.wrap .u8 (w64 (48 + x6))))) rfl (qf (.sl 257 0 ([IntKind.wrap .u8 (w64 (48 + x6))].length)) (K3m x6 x5) (by simp [List.take_of_length_le]) (nk hF fun g0 hF => qf (.sl 321 0 ((x5 ++ [IntKind.wrap .u8 (w64 (48 + x6))]).length)) ((321, .row true 1 ((x5 ++ [IntKind.wrap .u8 (w64 (48 + x6))]).map (V.int .u8))) :: (0, .dead) :: (257, .dead) :: (K3m x6 x5)) (effT_app_l rfl (by simp) rfl rfl (by simp) rfl (by decide) g0 rfl) (qp (.sl 321 0 ((x5 ++ [IntKind.wrap .u8 (w64 (48 + x6))]).length)) rfl (r_nil ?_))))))))
  refine blockQ_n (thenQ_n (w_reg 449 641 rfl rfl (qp (AI x4) rfl (qp (AI (w64 (Int.tdiv x4 10))) (ev_quo rfl rfl (by decide)) (qp (AI (w64 (Int.tdiv x4 10))) rfl (r_nil (thenQ_n ?_)))))))
  refine ar (l' := [(0, AI v0), (3, .sl 0 0 (x5 ++ [IntKind.wrap .u8 (w64 (48 + x6))]).length), (4, AI (w64 (Int.tdiv x4 10)))]) (L := [(0, .row true 1 ((x5 ++ [IntKind.wrap .u8 (w64 (48 + x6))]).map (V.int .u8)))]) [0, 3, 4] [(321, 0)] 1 ⟨_, by rfl, hF⟩
 refine w_exit (thenQ_e (thenQ_e (blockQ_e (thenQ_n ?_))))
 refine w_meet (fun s' => ∃ (x7 : List Int), s' = mkS [(3, .sl 0 0 x7.length)] (fo [(K3r x7)]) 1 ∧ F_spec_l01Dec_j2 x7 = some r) ?_ ?_
 ·
  refine ws 129 257 (qp (AI v0) rfl (qp (AB (decide (v0 < (0 : Int)))) rfl (r_nil ?_)))
  refine cF hF (fun hF => ?_) fun hF => ?_
  ·
   refine w_reg 257 513 rfl rfl (qp (.sl 0 0 x5.length) rfl (qf (.sl 321 0 ([(45 : Int)].length)) (K3n x5) (by simp [List.take_of_length_le]) (nk hF fun g1 hF => qf (.sl 385 0 ((x5 ++ [(45 : Int)]).length)) ((385, .row true 1 ((x5 ++ [(45 : Int)]).map (V.int .u8))) :: (0, .dead) :: (321, .dead) :: (K3n x5)) (effT_app_l rfl (by simp) rfl rfl (by simp) rfl (by decide) g1 rfl) (qp (.sl 385 0 ((x5 ++ [(45 : Int)]).length)) rfl (r_nil (thenQ_n ?_))))))
   refine ar (l' := [(3, .sl 0 0 (x5 ++ [(45 : Int)]).length)]) (L := [(0, .row true 1 ((x5 ++ [(45 : Int)]).map (V.int .u8)))]) [3] [(385, 0)] 1 ⟨_, rfl, hF⟩
  refine w_skip (thenQ_n ?_)
  refine ar (l' := [(3, .sl 0 0 x5.length)]) (L := [(K3q x5)]) [3] [(0, 0)] 1 ⟨_, rfl, hF⟩
 rintro s' ⟨x7, rfl, hF⟩
 unfold F_spec_l01Dec_j2 at hF
 refine ws 1 129 (qf (.sl 1 0 0) (K3o x7) (by simp [List.take_of_length_le]) (qp (.sl 1 0 0) rfl (r_nil (w_seq (ws 129 385 (qp (.sl 0 0 x7.length) rfl (qp (AI (x7.length : Int)) rfl (qp (AI (w64 ((x7.length : Int) - 1))) rfl (qp (AI (w64 ((x7.length : Int) - 1))) rfl (r_nil (w_block ?_)))))))))))
 refine w_ren (l' := [(3, .sl 0 0 x7.length), (6, .sl 1 0 0), (7, AI (w64 ((x7.length : Int) - 1)))]) (L := (K3o x7)) [3, 6, 7] [(1, 1), (0, 0)] 2 (by first | rfl | simp) (by first | rfl | simp) (by decide) (by decide) (by decide) ?_
 refine w_loopF (F_spec_l01Dec_l3 x7) (fun s : Int × (List Int) => mkS [(3, .sl 0 0 x7.length), (6, .sl 1 0 s.2.length), (7, AI s.1)] (fo [(1, .row true 1 (s.2.map (V.int .u8))), (K3r x7)]) 2) hF ?_
 rintro k1 ⟨x10, x11⟩ hF
 rw [F_spec_l01Dec_l3] at hF
 try dsimp only
 refine w_seq (ws 2 130 (qp (AI x10) rfl (qp (AB (decide ((0 : Int) ≤ x10))) rfl (r_nil ?_))))
 refine cF hF (fun hF => ?_) fun hF => ?_
 ·
  refine w_skip (thenQ_n (w_seq (w_block (w_reg 130 642 rfl rfl (qp (.sl 1 0 x11.length) rfl (qp (.sl 0 0 x7.length) rfl (qp (AI x10) rfl (bk hF fun u2 e2 hF => qp (.ptr 0 x10.toNat 0) (ev_iad_r rfl (by simp) rfl rfl e2) (qp (.val none (.int .u8 u2)) (ev_ld_r rfl rfl (ix_some e2).2 rfl rfl) (qf (.sl 450 0 ([u2].length)) (K3p u2 x11 x7) (by simp [List.take_of_length_le]) (nk hF fun g3 hF => qf (.sl 514 0 ((x11 ++ [u2]).length)) ((514, .row true 1 ((x11 ++ [u2]).map (V.int .u8))) :: (1, .dead) :: (450, .dead) :: (K3p u2 x11 x7)) (effT_app_l rfl (by simp) rfl rfl (by simp) rfl (by decide) g3 rfl) (qp (.sl 514 0 ((x11 ++ [u2]).length)) rfl (r_nil (blockQ_n (thenQ_n ?_)))))))))))))))
  refine w_reg 642 834 rfl rfl (qp (AI x10) rfl (qp (AI (w64 (x10 - 1))) rfl (qp (AI (w64 (x10 - 1))) rfl (r_nil (thenQ_n ?_)))))
  refine ar (l' := [(3, .sl 0 0 x7.length), (6, .sl 1 0 (x11 ++ [u2]).length), (7, AI (w64 (x10 - 1)))]) (L := [(1, .row true 1 ((x11 ++ [u2]).map (V.int .u8))), (K3r x7)]) [3, 6, 7] [(514, 1), (0, 0)] 2 ⟨_, by rfl, hF⟩
 exact w_exit (thenQ_e (thenQ_e (blockQ_e (thenQ_n (ws 130 322 (qp (.sl 1 0 x11.length) rfl (qp (AS (bytesI x11)) (ev_bts_r rfl (by simp) rfl) (qp (AS (bytesI x11)) rfl (rR hF)))))))))

def c75 : MC := (sr [pT 2 (.mv (.c (.str [])))] (.seq (sr [mvt 5 0, zT 6 5, bT 7 .eql t6 (ci 0)] (.cond t7 (sr [pT 2 (.mv (.c (.str [45])))] .ret) .skip)) (sr [pT 3 (.mv (.c (.str [])))] (.seq (sr [pT 4 (.mv (ci 0))] (.block 0 (.loop (.seq (sr [mvt 8 4, mvt 9 0, zT 10 9, bT 11 .lss t8 t10] (cx t11 0)) (.seq (.block 1 (.seq (sr [mvt 14 4, bT 15 .gtr t14 (ci 0)] (.cond t15 (.reg [mvt 16 3, pT 17 (.bin .add t16 (.c (.str [44]))), mvt 3 17]) .skip)) (.reg [mvt 18 3, mvt 19 0, mvt 20 4, iT 21 19 20 1, lT 22 21, dT 23 66 [t22], bT 24 .add t18 t23, mvt 3 24]))) (.reg [mvt 12 4, bT 13 .add t12 (ci 1), mvt 4 13])))))) (sr [mvt 25 3, mvt 2 25] .ret)))))
theorem c75_ : IsF Tryz.prog 75 c75 [(.tmp 2)] := ⟨by kernel_rfl, by kernel_rfl⟩

def F_spec_l01List_j1 (v0 : List Int) (x5 : Int) (k0 : (List UInt8) × Int → Option (List UInt8)) (x6 : List UInt8) : Option (List UInt8) :=
 ((ix v0 x5).bind fun u1 => ((F_spec_l01Dec u1).bind fun u2 => (need (x6.length + u2.length < 9223372036854775808) (k0 (x6 ++ u2, w64 (x5 + 1))))))
def F_spec_l01List_l0 (v0 : List Int) (k0 : (List UInt8) × Int → Option (List UInt8)) : (List UInt8) × Int → Option (List UInt8)
 | (x4, x5) => (bif (decide (x5 < (v0.length : Int))) then (bif (decide ((0 : Int) < x5)) then (need (x4.length + [44].length < 9223372036854775808) (F_spec_l01List_j1 v0 x5 k0 (x4 ++ [44])))
 else F_spec_l01List_j1 v0 x5 k0 x4)
 else some x4)
def F_spec_l01List (v0 : List Int) : Option (List UInt8) :=
 (bif (decide ((v0.length : Int) = (0 : Int))) then some [45]
 else loop (F_spec_l01List_l0 v0) ([], 0))
@[simp] abbrev K3s (v0 : List Int) : Nat × AV := (0, AL 1 (v0.map vI))
@[simp] def res_spec_l01List (r : List UInt8) : RV := .one (.one (.val (.str r)))
theorem con_spec_l01List {v0 : List Int} {r : List UInt8} (hF : F_spec_l01List v0 = some r) : Con Tryz.prog 75 [.sl 1 (v0.map vI)] (res_spec_l01List r) := by
 unfold F_spec_l01List at hF
 refine con_of c75_.1 fun N => ?_
 refine ws 0 64 (qp (AS []) rfl (r_nil (w_seq (ws 64 256 (qp (AL 1 (v0.map vI)) rfl (qp (AI (v0.length : Int)) (ev_len_n rfl) (qp (AB (decide ((v0.length : Int) = (0 : Int)))) rfl (r_nil (cF hF (fun hF => ws 256 320 (qp (AS [45]) rfl (r_nil (w_ret (thenQ_r (eQ hF)))))) fun hF => ?_)))))))))
 refine w_skip (thenQ_n (ws 256 320 (qp (AS []) rfl (r_nil (w_seq (ws 320 384 (qp (AI 0) rfl (r_nil (w_block ?_)))))))))
 refine wr (l' := [(K3s v0), (3, AS ([] : List UInt8)), (4, AI 0)]) (L := []) [0, 3, 4] [] 1 ?_
 refine w_loopF (F_spec_l01List_l0 v0) (fun s : (List UInt8) × Int => mkS [(K3s v0), (3, AS s.1), (4, AI s.2)] (fo []) 1) hF ?_
 rintro k0 ⟨x4, x5⟩ hF
 rw [F_spec_l01List_l0] at hF
 try dsimp only
 refine w_seq (ws 1 257 (qp (AI x5) rfl (qp (AL 1 (v0.map vI)) rfl (qp (AI (v0.length : Int)) (ev_len_n rfl) (qp (AB (decide (x5 < (v0.length : Int)))) rfl (r_nil ?_))))))
 refine cF hF (fun hF => ?_) fun hF => ?_
 ·
  refine w_skip (thenQ_n (w_seq (w_block ?_)))
  refine w_meet (fun s' => ∃ (x6 : List UInt8), s' = mkS [(K3s v0), (3, AS x6), (4, AI x5)] (fo []) 1 ∧ F_spec_l01List_j1 v0 x5 k0 x6 = some r) ?_ ?_
  ·
   refine ws 257 385 (qp (AI x5) rfl (qp (AB (decide ((0 : Int) < x5))) rfl (r_nil ?_)))
   refine cF hF (fun hF => ?_) fun hF => ?_
   ·
    refine w_reg 385 577 rfl rfl (qp (AS x4) rfl (nk hF fun g0 hF => qp (AS (x4 ++ [44])) (ev_add_s rfl rfl g0) (qp (AS (x4 ++ [44])) rfl (r_nil (thenQ_n ?_)))))
    refine ar (l' := [(K3s v0), (3, AS (x4 ++ [44])), (4, AI x5)]) (L := []) [0, 3, 4] [] 1 ⟨_, rfl, hF⟩
   refine w_skip (thenQ_n ?_)
   refine ar (l' := [(K3s v0), (3, AS x4), (4, AI x5)]) (L := []) [0, 3, 4] [] 1 ⟨_, rfl, hF⟩
  rintro s' ⟨x6, rfl, hF⟩
  unfold F_spec_l01List_j1 at hF
  refine w_reg 1 513 rfl rfl (qp (AS x6) rfl (qp (AL 1 (v0.map vI)) rfl (qp (AI x5) rfl (bk hF fun u1 e1 hF => qp (.val none (.ptr [.int .i64 u1])) (ev_iad_n rfl rfl e1 rfl) (qp (AI u1) rfl (bk hF fun u2 e2 hF => qC (AS u2) [] (con_spec_l01Dec e2) c66_ (nk hF fun g3 hF => qp (AS (x6 ++ u2)) (ev_add_s rfl rfl g3) (qp (AS (x6 ++ u2)) rfl (r_nil (blockQ_n (thenQ_n (w_reg 513 705 rfl rfl ?_))))))))))))
  refine qp (AI x5) rfl (qp (AI (w64 (x5 + 1))) rfl (qp (AI (w64 (x5 + 1))) rfl (r_nil (thenQ_n ?_))))
  refine ar (l' := [(K3s v0), (3, AS (x6 ++ u2)), (4, AI (w64 (x5 + 1)))]) (L := []) [0, 3, 4] [] 1 ⟨_, by rfl, hF⟩
 exact w_exit (thenQ_e (thenQ_e (blockQ_e (thenQ_n (ws 257 385 (qp (AS x4) rfl (qp (AS x4) rfl (rR hF))))))))

def c40 : MC := (sr [rg 2 (.f (.nilrow 3))] (sr [rg 7 (.f (.bsl 3 [])), mvt 3 7] (sr [mvt 9 0, pT 10 (.nck t9), pT 11 (.fad t10 17), lT 12 11, dT 13 74 [t12], mvt 8 13, pT 14 (.ext t8 0), pT 15 (.ext t8 1), mvt 4 14, mvt 5 15] (.seq (sr [pT 6 (.mv (ci 0))] (.block 0 (.loop (.seq (sr [mvt 16 6, mvt 17 4, zT 18 17, bT 19 .lss t16 t18] (cx t19 0)) (.seq (.block 1 (.reg [mP 22 t3, mP 23 t0, pF 24 (.nck t23), pF 25 (.fad t24 17), lF 26 25, mP 27 t4, mP 28 t6, iF 29 27 28 1, lF 30 29, jF 31 30 0 1, lF 32 31, iF 33 26 32 3, pF 34 (.fad t33 0), lF 35 34, mP 36 t4, mP 37 t6, iF 38 36 37 1, lF 39 38, dF 40 75 [t39], rg 41 (.f (.bld [((.int .i64 0), (0, true)), ((.str []), (0, true)), ((.str []), (0, true))] [(0, (1, (ci 5))), (1, (1, t35)), (2, (1, t40))])), rg 42 (.f (.bsl 3 [t41])), rg 43 (.f (.app t22 t42 3 40 true)), mP 3 t43])) (.reg [mvt 20 6, bT 21 .add t20 (ci 1), mvt 6 21])))))) (sr [mvt 44 3, mvt 2 44] .ret)))))
theorem c40_ : IsF Tryz.prog 40 c40 [(.tmp 2)] := ⟨by kernel_rfl, by kernel_rfl⟩

def F_spec_l31Players_l0 (v0 : TWork) (u0 : (List (List Int)) × Int) (k1 : Int × (List TProblem) → Option (List TProblem)) : Int × (List TProblem) → Option (List TProblem)
 | (x6, x7) => (bif (decide (x6 < (u0.1.length : Int))) then ((ix u0.1 x6).bind fun u13 => ((ix u13 0).bind fun u14 => ((ix v0.2.2.2.2.2.2.2.2.2.2.2.2.2.2.2.2.2 u14).bind fun u15 => ((ix u0.1 x6).bind fun u16 => ((F_spec_l01List u16).bind fun u17 => (need (room (x7.length + ([(5, u15.1, u17)] : List TProblem).length) 40) (k1 (w64 (x6 + 1), x7 ++ ([(5, u15.1, u17)] : List TProblem)))))))))
 else some x7)
def F_spec_l31Players (v0 : TWork) : Option (List TProblem) :=
 ((F_spec_ClashesOf v0.2.2.2.2.2.2.2.2.2.2.2.2.2.2.2.2.2).bind fun u0 => loop (F_spec_l31Players_l0 v0 u0) (0, []))
@[simp] abbrev K3t : List (Nat × Root) := [(0, .row true 3 (([] : List Int).map vI))]
@[simp] abbrev K3u : List (Nat × Root) := ((64, .row true 3 (([] : List TProblem).map eProblem)) :: K3t)
@[simp] abbrev K3y (u0 : (List (List Int)) × Int) : Nat × Root := (1, .row true 1 (u0.1.map (eL 1 vI)))
@[simp] abbrev K3v (u0 : (List (List Int)) × Int) (x7 : List TProblem) : List (Nat × Root) := [(K3y u0), (0, .row true 3 (x7.map eProblem))]
@[simp] abbrev K3w (u15 : TTurn) (u17 : List UInt8) (u0 : (List (List Int)) × Int) (x7 : List TProblem) : List (Nat × Root) := ((1538, .row true 3 (([(5, u15.1, u17)] : List TProblem).map eProblem)) :: (K3v u0 x7))
@[simp] abbrev K3x (v0 : TWork) : V := .ptr [.str v0.1, .sl 1 (v0.2.1.map vI), .sl 1 (v0.2.2.1.map vI), .int .i64 v0.2.2.2.1, .int .i64 v0.2.2.2.2.1, .sl 1 (v0.2.2.2.2.2.1.map (eL 1 vI)), .int .i64 v0.2.2.2.2.2.2.1, .int .i64 v0.2.2.2.2.2.2.2.1, .sl 2 (v0.2.2.2.2.2.2.2.2.1.map eNote), .str v0.2.2.2.2.2.2.2.2.2.1, .sl 1 (v0.2.2.2.2.2.2.2.2.2.2.1.map vI), .sl 1 (v0.2.2.2.2.2.2.2.2.2.2.2.1.map vI), .int .i64 v0.2.2.2.2.2.2.2.2.2.2.2.2.1, .str v0.2.2.2.2.2.2.2.2.2.2.2.2.2.1, .int .i64 v0.2.2.2.2.2.2.2.2.2.2.2.2.2.2.1, .int .i64 v0.2.2.2.2.2.2.2.2.2.2.2.2.2.2.2.1, .int .i64 v0.2.2.2.2.2.2.2.2.2.2.2.2.2.2.2.2.1, .sl 3 (v0.2.2.2.2.2.2.2.2.2.2.2.2.2.2.2.2.2.map eTurn)]
@[simp] def res_spec_l31Players (r : List TProblem) : RV := .one (.one (.row true 3 (r.map eProblem)))
theorem con_spec_l31Players {v0 : TWork} {r : List TProblem} (hF : F_spec_l31Players v0 = some r) : Con Tryz.prog 40 [.ptr [.str v0.1, .sl 1 (v0.2.1.map vI), .sl 1 (v0.2.2.1.map vI), .int .i64 v0.2.2.2.1, .int .i64 v0.2.2.2.2.1, .sl 1 (v0.2.2.2.2.2.1.map (eL 1 vI)), .int .i64 v0.2.2.2.2.2.2.1, .int .i64 v0.2.2.2.2.2.2.2.1, .sl 2 (v0.2.2.2.2.2.2.2.2.1.map eNote), .str v0.2.2.2.2.2.2.2.2.2.1, .sl 1 (v0.2.2.2.2.2.2.2.2.2.2.1.map vI), .sl 1 (v0.2.2.2.2.2.2.2.2.2.2.2.1.map vI), .int .i64 v0.2.2.2.2.2.2.2.2.2.2.2.2.1, .str v0.2.2.2.2.2.2.2.2.2.2.2.2.2.1, .int .i64 v0.2.2.2.2.2.2.2.2.2.2.2.2.2.2.1, .int .i64 v0.2.2.2.2.2.2.2.2.2.2.2.2.2.2.2.1, .int .i64 v0.2.2.2.2.2.2.2.2.2.2.2.2.2.2.2.2.1, .sl 3 (v0.2.2.2.2.2.2.2.2.2.2.2.2.2.2.2.2.2.map eTurn)]] (res_spec_l31Players r) := by
 unfold F_spec_l31Players at hF
 refine con_of c40_.1 fun N => ?_
 refine ws 0 64 (qf (.sl 0 0 0) K3t (by simp) (r_nil (ws 64 192 (qf (.sl 64 0 0) K3u (by simp [List.take_of_length_le]) (qp (.sl 64 0 0) rfl (r_nil (ws 192 832 (qp (.val none (K3x v0)) rfl (qp (.val none (K3x v0)) rfl (qp (.val none (.ptr [.sl 3 (v0.2.2.2.2.2.2.2.2.2.2.2.2.2.2.2.2.2.map eTurn)])) rfl (qp (AL 3 (v0.2.2.2.2.2.2.2.2.2.2.2.2.2.2.2.2.2.map eTurn)) rfl (bk hF fun u0 e0 hF => qc (.tup [.sl 448 0 u0.1.length, AI u0.2]) ((448, .row true 1 (u0.1.map (eL 1 vI))) :: K3u) false (con_spec_ClashesOf e0) c74_.2 (by first | rfl | simp) (by simp [res_spec_ClashesOf]) ?_))))))))))))
 refine qp (.tup [.sl 448 0 u0.1.length, AI u0.2]) rfl (qp (.sl 448 0 u0.1.length) rfl (qp (AI u0.2) rfl (qp (.sl 448 0 u0.1.length) rfl (qp (AI u0.2) rfl (r_nil (w_seq (ws 832 896 (qp (AI 0) rfl (r_nil (w_block ?_))))))))))
 refine wr (l' := [(0, .val none (K3x v0)), (3, .sl 0 0 0), (4, .sl 1 0 u0.1.length), (6, AI 0)]) (L := [(K3y u0), (0, .row true 3 (([] : List TProblem).map eProblem))]) [0, 3, 4, 6] [(448, 1), (64, 0)] 2 ?_
 refine w_loopF (F_spec_l31Players_l0 v0 u0) (fun s : Int × (List TProblem) => mkS [(0, .val none (K3x v0)), (3, .sl 0 0 s.2.length), (4, .sl 1 0 u0.1.length), (6, AI s.1)] (fo [(K3y u0), (0, .row true 3 (s.2.map eProblem))]) 2) hF ?_
 rintro k1 ⟨x6, x7⟩ hF
 rw [F_spec_l31Players_l0] at hF
 try dsimp only
 refine w_seq (ws 2 258 (qp (AI x6) rfl (qp (.sl 1 0 u0.1.length) rfl (qp (AI (u0.1.length : Int)) rfl (qp (AB (decide (x6 < (u0.1.length : Int)))) rfl (r_nil ?_))))))
 refine cF hF (fun hF => ?_) fun hF => ?_
 ·
  refine w_skip (thenQ_n (w_seq (w_block (w_reg 258 1730 rfl rfl (qp (.sl 0 0 x7.length) rfl (qp (.val none (K3x v0)) rfl (qp (.val none (K3x v0)) rfl (qp (.val none (.ptr [.sl 3 (v0.2.2.2.2.2.2.2.2.2.2.2.2.2.2.2.2.2.map eTurn)])) rfl (qp (AL 3 (v0.2.2.2.2.2.2.2.2.2.2.2.2.2.2.2.2.2.map eTurn)) rfl (qp (.sl 1 0 u0.1.length) rfl (qp (AI x6) rfl (bk hF fun u13 e13 hF => qp (.ptr 1 x6.toNat 0) (ev_iad_r rfl (by simp) rfl rfl e13) (qp (.val (some 1) (.sl 1 (u13.map vI))) (ev_ld_r rfl rfl (ix_some e13).2 rfl rfl) (bk hF fun u14 e14 hF => ?_))))))))))))))
  refine qp (.val (some 1) (.ptr [.int .i64 u14])) (ev_iad_s rfl rfl rfl e14 rfl) (qp (AI u14) rfl (bk hF fun u15 e15 hF => qp (.val none (.ptr [.str u15.1, .int .i64 u15.2.1, .int .i64 u15.2.2])) (ev_iad_n rfl rfl e15 rfl) (qp (.val none (.ptr [.str u15.1, .int .i64 u15.2.1, .int .i64 u15.2.2])) rfl (qp (AS u15.1) rfl (qp (.sl 1 0 u0.1.length) rfl (qp (AI x6) rfl (bk hF fun u16 e16 hF => qp (.ptr 1 x6.toNat 0) (ev_iad_r rfl (by simp) rfl rfl e16) (qp (.val (some 1) (.sl 1 (u16.map vI))) (ev_ld_r rfl rfl (ix_some e16).2 rfl rfl) (bk hF fun u17 e17 hF => qc (AS u17) (K3v u0 x7) true (con_spec_l01List e17) c75_.2 (by simp [List.take_of_length_le]) rfl (qf (.agg [AI 5, AS u15.1, AS u17]) (K3v u0 x7) (by simp) (qf (.sl 1538 0 (([(5, u15.1, u17)] : List TProblem).length)) (K3w u15 u17 u0 x7) (by simp [List.take_of_length_le]) (nk hF fun g18 hF => qf (.sl 1602 0 ((x7 ++ ([(5, u15.1, u17)] : List TProblem)).length)) ((1602, .row true 3 ((x7 ++ ([(5, u15.1, u17)] : List TProblem)).map eProblem)) :: (0, .dead) :: (1538, .dead) :: (K3w u15 u17 u0 x7)) (effT_app_l rfl (by simp) rfl rfl (by simp) rfl (by decide) g18 rfl) (qp (.sl 1602 0 ((x7 ++ ([(5, u15.1, u17)] : List TProblem)).length)) rfl (r_nil (blockQ_n (thenQ_n (w_reg 1730 1922 rfl rfl ?_)))))))))))))))))
  refine qp (AI x6) rfl (qp (AI (w64 (x6 + 1))) rfl (qp (AI (w64 (x6 + 1))) rfl (r_nil (thenQ_n ?_))))
  refine ar (l' := [(0, .val none (K3x v0)), (3, .sl 0 0 (x7 ++ ([(5, u15.1, u17)] : List TProblem)).length), (4, .sl 1 0 u0.1.length), (6, AI (w64 (x6 + 1)))]) (L := [(K3y u0), (0, .row true 3 ((x7 ++ ([(5, u15.1, u17)] : List TProblem)).map eProblem))]) [0, 3, 4, 6] [(1, 1), (1602, 0)] 2 ⟨_, by rfl, hF⟩
 exact w_exit (thenQ_e (thenQ_e (blockQ_e (thenQ_n (ws 258 386 (qp (.sl 0 0 x7.length) rfl (qp (.sl 0 0 x7.length) rfl (rR hF))))))))

def c17 : MC := (sr [rg 4 (.f (.nilrow 3)), pT 5 (.mv (ci 0))] (.seq (sr [mvt 6 0, dT 7 37 [t6], pT 8 (.not t7)] (.cond t8 (sr [rg 4 (.f (.nilrow 3)), pT 5 (.mv (ci 1))] .ret) .skip)) (.seq (sr [mvt 9 1] (.block 0 (sr [bT 11 .eql t9 (ci 1), mvt 10 11] (.cond t10 (sr [mvt 12 0, dT 13 38 [t12], mvt 4 13, pT 5 (.mv (ci 0))] .ret) (sr [bT 15 .eql t9 (ci 2), mvt 14 15] (.cond t14 (sr [mvt 16 0, dT 17 39 [t16], mvt 4 17, pT 5 (.mv (ci 0))] .ret) .skip)))))) (sr [mvt 18 0, dT 19 40 [t18], mvt 4 19, pT 5 (.mv (ci 0))] .ret))))
theorem c17_ : IsF Tryz.prog 17 c17 [(.tmp 4), (.tmp 5)] := ⟨by kernel_rfl, by kernel_rfl⟩

def F_spec_l31Part (v0 : TWork) (v1 : Int) : Option ((List TProblem) × Int) :=
 ((F_spec_l31Ok v0).bind fun u0 => (bif (!u0) then some ([], 1)
 else (bif (decide (v1 = (1 : Int))) then none
 else (bif (decide (v1 = (2 : Int))) then none
 else ((F_spec_l31Players v0).bind fun u1 => some (u1, 0))))))
@[simp] abbrev K3z : List (Nat × Root) := [(0, .row true 3 (([] : List Int).map vI))]
@[simp] abbrev K40 (v0 : TWork) : AV := .val none (.ptr [.str v0.1, .sl 1 (v0.2.1.map vI), .sl 1 (v0.2.2.1.map vI), .int .i64 v0.2.2.2.1, .int .i64 v0.2.2.2.2.1, .sl 1 (v0.2.2.2.2.2.1.map (eL 1 vI)), .int .i64 v0.2.2.2.2.2.2.1, .int .i64 v0.2.2.2.2.2.2.2.1, .sl 2 (v0.2.2.2.2.2.2.2.2.1.map eNote), .str v0.2.2.2.2.2.2.2.2.2.1, .sl 1 (v0.2.2.2.2.2.2.2.2.2.2.1.map vI), .sl 1 (v0.2.2.2.2.2.2.2.2.2.2.2.1.map vI), .int .i64 v0.2.2.2.2.2.2.2.2.2.2.2.2.1, .str v0.2.2.2.2.2.2.2.2.2.2.2.2.2.1, .int .i64 v0.2.2.2.2.2.2.2.2.2.2.2.2.2.2.1, .int .i64 v0.2.2.2.2.2.2.2.2.2.2.2.2.2.2.2.1, .int .i64 v0.2.2.2.2.2.2.2.2.2.2.2.2.2.2.2.2.1, .sl 3 (v0.2.2.2.2.2.2.2.2.2.2.2.2.2.2.2.2.2.map eTurn)])
@[simp] def res_spec_l31Part (r : (List TProblem) × Int) : RV := .tup [.one (.row true 3 (r.1.map eProblem)), .one (.val (.int .i64 r.2))]
theorem con_spec_l31Part {v0 : TWork} {v1 : Int} {r : (List TProblem) × Int} (hF : F_spec_l31Part v0 v1 = some r) : Con Tryz.prog 17 [.ptr [.str v0.1, .sl 1 (v0.2.1.map vI), .sl 1 (v0.2.2.1.map vI), .int .i64 v0.2.2.2.1, .int .i64 v0.2.2.2.2.1, .sl 1 (v0.2.2.2.2.2.1.map (eL 1 vI)), .int .i64 v0.2.2.2.2.2.2.1, .int .i64 v0.2.2.2.2.2.2.2.1, .sl 2 (v0.2.2.2.2.2.2.2.2.1.map eNote), .str v0.2.2.2.2.2.2.2.2.2.1, .sl 1 (v0.2.2.2.2.2.2.2.2.2.2.1.map vI), .sl 1 (v0.2.2.2.2.2.2.2.2.2.2.2.1.map vI), .int .i64 v0.2.2.2.2.2.2.2.2.2.2.2.2.1, .str v0.2.2.2.2.2.2.2.2.2.2.2.2.2.1, .int .i64 v0.2.2.2.2.2.2.2.2.2.2.2.2.2.2.1, .int .i64 v0.2.2.2.2.2.2.2.2.2.2.2.2.2.2.2.1, .int .i64 v0.2.2.2.2.2.2.2.2.2.2.2.2.2.2.2.2.1, .sl 3 (v0.2.2.2.2.2.2.2.2.2.2.2.2.2.2.2.2.2.map eTurn)], .int .i64 v1] (res_spec_l31Part r) := by
 unfold F_spec_l31Part at hF
 refine con_of c17_.1 fun N => ?_
 refine ws 0 128 (qf (.sl 0 0 0) K3z (by simp) (qp (AI 0) rfl (r_nil (w_seq (ws 128 320 (qp (K40 v0) rfl (bk hF fun u0 e0 hF => qC (AB u0) K3z (con_spec_l31Ok e0) c37_ (qp (AB (!u0)) rfl (r_nil ?_)))))))))
 refine cF hF (fun hF => ?_) fun hF => ?_
 ·
  exact ws 320 448 (qf (.sl 320 0 0) ((320, .row true 3 (([] : List TProblem).map eProblem)) :: K3z) (by simp) (qp (AI 1) rfl (r_nil (w_ret (thenQ_r (eQ hF))))))
 refine w_skip (thenQ_n (w_seq (ws 320 384 (qp (AI v1) rfl (r_nil (w_block (ws 384 512 (qp (AB (decide (v1 = (1 : Int)))) rfl (qp (AB (decide (v1 = (1 : Int)))) rfl (r_nil ?_))))))))))
 refine cF hF (fun hF => ?_) fun hF => ?_
 ·
  cases hF
 refine ws 512 640 (qp (AB (decide (v1 = (2 : Int)))) rfl (qp (AB (decide (v1 = (2 : Int)))) rfl (r_nil ?_)))
 refine cF hF (fun hF => ?_) fun hF => ?_
 ·
  cases hF
 exact w_skip (blockQ_n (thenQ_n (ws 640 896 (qp (K40 v0) rfl (bk hF fun u1 e1 hF => qc (.sl 704 0 u1.length) ((704, .row true 3 (u1.map eProblem)) :: K3z) false (con_spec_l31Players e1) c40_.2 (by first | rfl | simp) (by simp [res_spec_l31Players]) (qp (.sl 704 0 u1.length) rfl (qp (AI 0) rfl (rR hF))))))))

def c5 : MC := (sr [rg 1 (.f (.box t0)), rg 2 (.f (.nilrow 3)), pT 3 (.mv (ci 0))] (sr [dT 4 17 [t1, (ci 3)], pT 5 (.ext t4 0), pT 6 (.ext t4 1), mvt 2 5, mvt 3 6] .ret))
theorem c5_ : IsF Tryz.prog 5 c5 [(.tmp 2), (.tmp 3)] := ⟨by kernel_rfl, by kernel_rfl⟩

def F_spec_PlayerProblems (v0 : TWork) : Option ((List TProblem) × Int) :=
 ((F_spec_l31Part v0 3).bind fun u0 => some (u0.1, u0.2))
@[simp] abbrev K41 (v0 : TWork) : List (Nat × Root) := [(0, .box [AS v0.1, AL 1 (v0.2.1.map vI), AL 1 (v0.2.2.1.map vI), AI v0.2.2.2.1, AI v0.2.2.2.2.1, AL 1 (v0.2.2.2.2.2.1.map (eL 1 vI)), AI v0.2.2.2.2.2.2.1, AI v0.2.2.2.2.2.2.2.1, AL 2 (v0.2.2.2.2.2.2.2.2.1.map eNote), AS v0.2.2.2.2.2.2.2.2.2.1, AL 1 (v0.2.2.2.2.2.2.2.2.2.2.1.map vI), AL 1 (v0.2.2.2.2.2.2.2.2.2.2.2.1.map vI), AI v0.2.2.2.2.2.2.2.2.2.2.2.2.1, AS v0.2.2.2.2.2.2.2.2.2.2.2.2.2.1, AI v0.2.2.2.2.2.2.2.2.2.2.2.2.2.2.1, AI v0.2.2.2.2.2.2.2.2.2.2.2.2.2.2.2.1, AI v0.2.2.2.2.2.2.2.2.2.2.2.2.2.2.2.2.1, AL 3 (v0.2.2.2.2.2.2.2.2.2.2.2.2.2.2.2.2.2.map eTurn)])]
@[simp] abbrev K42 (v0 : TWork) : List (Nat × Root) := ((64, .row true 3 (([] : List Int).map vI)) :: (K41 v0))
@[simp] def res_spec_PlayerProblems (r : (List TProblem) × Int) : RV := .tup [.one (.row true 3 (r.1.map eProblem)), .one (.val (.int .i64 r.2))]
theorem con_spec_PlayerProblems {v0 : TWork} {r : (List TProblem) × Int} (hF : F_spec_PlayerProblems v0 = some r) : Con Tryz.prog 5 [eWork v0] (res_spec_PlayerProblems r) := by
 unfold F_spec_PlayerProblems at hF
 refine con_of c5_.1 fun N => ?_
 exact ws 0 192 (qf (.ptr 0 0 0) (K41 v0) (by simp) (qf (.sl 64 0 0) (K42 v0) (by simp) (qp (AI 0) rfl (r_nil (ws 192 512 (bk hF fun u0 e0 hF => qc (.tup [.sl 192 0 u0.1.length, AI u0.2]) ((192, .row true 3 (u0.1.map eProblem)) :: (K42 v0)) true (con_spec_l31Part e0) c17_.2 (by simp [List.take_of_length_le]) (by simp [res_spec_l31Part]) (qp (.sl 192 0 u0.1.length) rfl (qp (AI u0.2) rfl (qp (.sl 192 0 u0.1.length) rfl (qp (AI u0.2) rfl (rR hF)))))))))))

def c148 : MC := (sr [pT 2 (.mv cf)] (.seq (sr [mvt 5 0, pT 6 (.lens t5), pT 7 (.mv (ci 0))] (.block 0 (.loop (sr [bT 8 .lss t7 t6] (.seq (cx t8 0) (.seq (.block 1 (sr [mvt 9 7, mvt 3 9] (sr [mvt 10 0, mvt 11 3, pT 12 (.ixs t10 t11), mvt 4 12] (sr [mvt 13 4, pT 14 (.bin .lss t13 (.c (.int .u8 97))), mvt 15 14, nF 16 15 t4, kF 17 15 (.bin .gtr t16 (.c (.int .u8 122))), pT 18 (.pick t15 ct t17), mvt 19 18, nT 20 19 t4, kT 21 19 (.bin .lss t20 (.c (.int .u8 48))), nT 22 19 t21, nF 23 22 t4, kF 24 22 (.bin .gtr t23 (.c (.int .u8 57))), kT 25 19 (.pick t22 ct t24), pT 26 (.pick t19 t25 cf)] (.cond t26 (sr [pT 2 (.mv cf)] .ret) .skip))))) (.reg [bT 27 .add t7 (ci 1), mvt 7 27]))))))) (sr [pT 2 (.mv ct)] .ret)))
theorem c148_ : IsF Tryz.prog 148 c148 [(.tmp 2)] := ⟨by kernel_rfl, by kernel_rfl⟩

def F_impl_onlyNameBytes_l0 (v0 : List UInt8) (k0 : Int → Option (Bool)) : Int → Option (Bool)
 | x1 => (bif (decide (x1 < (v0.length : Int))) then ((ix v0 x1).bind fun u0 => (bif (decide ((u0.toNat : Int) < (97 : Int))) then (bif (decide ((u0.toNat : Int) < (48 : Int))) then some false
 else (bif (decide ((57 : Int) < (u0.toNat : Int))) then some false
 else k0 (w64 (x1 + 1))))
 else (bif (decide ((122 : Int) < (u0.toNat : Int))) then (bif (decide ((u0.toNat : Int) < (48 : Int))) then some false
 else (bif (decide ((57 : Int) < (u0.toNat : Int))) then some false
 else k0 (w64 (x1 + 1))))
 else k0 (w64 (x1 + 1)))))
 else some true)
def F_impl_onlyNameBytes (v0 : List UInt8) : Option (Bool) :=
 loop (F_impl_onlyNameBytes_l0 v0) 0
@[simp] def res_impl_onlyNameBytes (r : Bool) : RV := .one (.one (.val (.bool r)))
theorem con_impl_onlyNameBytes {v0 : List UInt8} {r : Bool} (hF : F_impl_onlyNameBytes v0 = some r) : Con Tryz.prog 148 [.str v0] (res_impl_onlyNameBytes r) := by
 unfold F_impl_onlyNameBytes at hF
 refine con_of c148_.1 fun N => ?_
 refine ws 0 64 (qp (AB false) rfl (r_nil (w_seq (ws 64 256 (qp (AS v0) rfl (qp (AI (v0.length : Int)) rfl (qp (AI 0) rfl (r_nil (w_block ?_)))))))))
 refine wr (l' := [(0, AS v0), (6, AI (v0.length : Int)), (7, AI 0)]) (L := []) [0, 6, 7] [] 1 ?_
 refine w_loopF (F_impl_onlyNameBytes_l0 v0) (fun s : Int => mkS [(0, AS v0), (6, AI (v0.length : Int)), (7, AI s)] (fo []) 1) hF ?_
 rintro k0 x1 hF
 rw [F_impl_onlyNameBytes_l0] at hF
 try dsimp only
 refine ws 1 65 (qp (AB (decide (x1 < (v0.length : Int)))) rfl (r_nil (w_seq ?_)))
 refine cF hF (fun hF => ?_) fun hF => ?_
 ·
  refine w_skip (thenQ_n (w_seq (w_block (ws 65 193 (qp (AI x1) rfl (qp (AI x1) rfl (r_nil (ws 193 449 (qp (AS v0) rfl (qp (AI x1) rfl (bk hF fun u0 e0 hF => qp (.val none (.int .u8 (u0.toNat : Int))) (ev_ixs rfl rfl e0) (qp (.val none (.int .u8 (u0.toNat : Int))) rfl (r_nil (ws 449 1345 ?_))))))))))))))
  refine qp (.val none (.int .u8 (u0.toNat : Int))) rfl (qp (AB (decide ((u0.toNat : Int) < (97 : Int)))) rfl (qp (AB (decide ((u0.toNat : Int) < (97 : Int)))) rfl ?_))
  refine q_case 15 hF rfl (fun hF => ?_) (fun hF => ?_)
  ·
   refine qn2 (qp (AB true) rfl (qp (AB true) rfl (qg (.val none (.int .u8 (u0.toNat : Int))) rfl rfl (qg (AB (decide ((u0.toNat : Int) < (48 : Int)))) rfl rfl (qg (AB (decide ((u0.toNat : Int) < (48 : Int)))) rfl rfl ?_)))))
   refine q_case 22 hF rfl (fun hF => qn2 (qg (AB true) rfl rfl (qp (AB true) rfl (r_nil (w_true rfl (ws 1345 1409 (qp (AB false) rfl (r_nil (w_ret (blockQ_r (thenQ_r (thenQ_r (blockQ_r (thenQ_r (eQ hF))))))))))))))) fun hF => ?_
   refine qg (.val none (.int .u8 (u0.toNat : Int))) rfl rfl (qg (AB (decide ((57 : Int) < (u0.toNat : Int)))) rfl rfl (qg (AB (decide ((57 : Int) < (u0.toNat : Int)))) rfl rfl (qp (AB (decide ((57 : Int) < (u0.toNat : Int)))) rfl (r_nil (cF hF (fun hF => ws 1345 1409 (qp (AB false) rfl (r_nil (w_ret (blockQ_r (thenQ_r (thenQ_r (blockQ_r (thenQ_r (eQ hF)))))))))) fun hF => ?_)))))
   refine w_skip (blockQ_n (thenQ_n (w_reg 1345 1473 rfl rfl (qp (AI (w64 (x1 + 1))) rfl (qp (AI (w64 (x1 + 1))) rfl (r_nil (thenQ_n ?_)))))))
   refine ar (l' := [(0, AS v0), (6, AI (v0.length : Int)), (7, AI (w64 (x1 + 1)))]) (L := []) [0, 6, 7] [] 1 ⟨_, by rfl, hF⟩
  refine qg (.val none (.int .u8 (u0.toNat : Int))) rfl rfl (qg (AB (decide ((122 : Int) < (u0.toNat : Int)))) rfl rfl (qp (AB (decide ((122 : Int) < (u0.toNat : Int)))) rfl (qp (AB (decide ((122 : Int) < (u0.toNat : Int)))) rfl ?_)))
  refine q_case 19 hF rfl (fun hF => ?_) (fun hF => ?_)
  ·
   refine qg (.val none (.int .u8 (u0.toNat : Int))) rfl rfl (qg (AB (decide ((u0.toNat : Int) < (48 : Int)))) rfl rfl (qg (AB (decide ((u0.toNat : Int) < (48 : Int)))) rfl rfl ?_))
   refine q_case 22 hF rfl (fun hF => qn2 (qg (AB true) rfl rfl (qp (AB true) rfl (r_nil (w_true rfl (ws 1345 1409 (qp (AB false) rfl (r_nil (w_ret (blockQ_r (thenQ_r (thenQ_r (blockQ_r (thenQ_r (eQ hF))))))))))))))) fun hF => ?_
   refine qg (.val none (.int .u8 (u0.toNat : Int))) rfl rfl (qg (AB (decide ((57 : Int) < (u0.toNat : Int)))) rfl rfl (qg (AB (decide ((57 : Int) < (u0.toNat : Int)))) rfl rfl (qp (AB (decide ((57 : Int) < (u0.toNat : Int)))) rfl (r_nil (cF hF (fun hF => ws 1345 1409 (qp (AB false) rfl (r_nil (w_ret (blockQ_r (thenQ_r (thenQ_r (blockQ_r (thenQ_r (eQ hF)))))))))) fun hF => ?_)))))
   refine w_skip (blockQ_n (thenQ_n (w_reg 1345 1473 rfl rfl (qp (AI (w64 (x1 + 1))) rfl (qp (AI (w64 (x1 + 1))) rfl (r_nil (thenQ_n ?_)))))))
   refine ar (l' := [(0, AS v0), (6, AI (v0.length : Int)), (7, AI (w64 (x1 + 1)))]) (L := []) [0, 6, 7] [] 1 ⟨_, by rfl, hF⟩
  refine qn3 (qu rfl (qu rfl (qn rfl (qp (AB false) rfl (r_nil (w_false rfl (w_skip (blockQ_n (thenQ_n (w_reg 1345 1473 rfl rfl ?_))))))))))
  refine qp (AI (w64 (x1 + 1))) rfl (qp (AI (w64 (x1 + 1))) rfl (r_nil (thenQ_n ?_)))
  refine ar (l' := [(0, AS v0), (6, AI (v0.length : Int)), (7, AI (w64 (x1 + 1)))]) (L := []) [0, 6, 7] [] 1 ⟨_, by rfl, hF⟩
 exact w_exit (thenQ_e (thenQ_e (blockQ_e (thenQ_n (ws 65 129 (qp (AB true) rfl (rR hF)))))))

def c128 : MC := (sr [pT 2 (.mv cf)] (.seq (sr [mvt 3 0, pT 4 (.lens t3), bT 5 .lss t4 (ci 1), mvt 6 5, nF 7 6 t0, kF 8 6 (.lens t7), kF 9 6 (.bin .gtr t8 (ci 10)), pT 10 (.pick t6 ct t9), mvt 11 10, nF 12 11 t0, kF 13 11 (.ixs t12 (ci 0)), kF 14 11 (.bin .lss t13 (.c (.int .u8 97))), pT 15 (.pick t11 ct t14), mvt 16 15, nF 17 16 t0, kF 18 16 (.ixs t17 (ci 0)), kF 19 16 (.bin .gtr t18 (.c (.int .u8 122))), pT 20 (.pick t16 ct t19)] (.cond t20 (sr [pT 2 (.mv cf)] .ret) .skip)) (sr [mvt 21 0, dT 22 148 [t21], mvt 2 22] .ret)))
theorem c128_ : IsF Tryz.prog 128 c128 [(.tmp 2)] := ⟨by kernel_rfl, by kernel_rfl⟩

def F_impl_IsName (v0 : List UInt8) : Option (Bool) :=
 (bif (decide ((v0.length : Int) < (1 : Int))) then some false
 else (bif (decide ((10 : Int) < (v0.length : Int))) then some false
 else ((ix v0 0).bind fun u0 => (bif (decide ((u0.toNat : Int) < (97 : Int))) then some false
 else ((ix v0 0).bind fun u1 => (bif (decide ((122 : Int) < (u1.toNat : Int))) then some false
 else ((F_impl_onlyNameBytes v0).bind fun u2 => some u2)))))))
@[simp] def res_impl_IsName (r : Bool) : RV := .one (.one (.val (.bool r)))
theorem con_impl_IsName {v0 : List UInt8} {r : Bool} (hF : F_impl_IsName v0 = some r) : Con Tryz.prog 128 [.str v0] (res_impl_IsName r) := by
 unfold F_impl_IsName at hF
 refine con_of c128_.1 fun N => ?_
 refine ws 0 64 (qp (AB false) rfl (r_nil (w_seq (ws 64 1216 (qp (AS v0) rfl (qp (AI (v0.length : Int)) rfl (qp (AB (decide ((v0.length : Int) < (1 : Int)))) rfl (qp (AB (decide ((v0.length : Int) < (1 : Int)))) rfl ?_))))))))
 refine q_case 6 hF rfl (fun hF => ?_) (fun hF => ?_)
 ·
  refine qn3 (qp (AB true) rfl (qp (AB true) rfl (qn3 (qp (AB true) rfl (qp (AB true) rfl (qn3 (qp (AB true) rfl (r_nil (w_true rfl (ws 1216 1280 (qp (AB false) rfl (r_nil (w_ret ?_)))))))))))))
  exact thenQ_r (eQ hF)
 refine qg (AS v0) rfl rfl (qg (AI (v0.length : Int)) rfl rfl (qg (AB (decide ((10 : Int) < (v0.length : Int)))) rfl rfl (qp (AB (decide ((10 : Int) < (v0.length : Int)))) rfl (qp (AB (decide ((10 : Int) < (v0.length : Int)))) rfl ?_))))
 refine q_case 11 hF rfl (fun hF => qn3 (qp (AB true) rfl (qp (AB true) rfl (qn3 (qp (AB true) rfl (r_nil (w_true rfl (ws 1216 1280 (qp (AB false) rfl (r_nil (w_ret (thenQ_r (eQ hF))))))))))))) fun hF => ?_
 refine qg (AS v0) rfl rfl (bk hF fun u0 e0 hF => qg (.val none (.int .u8 (u0.toNat : Int))) rfl (ev_ixs rfl rfl e0) (qg (AB (decide ((u0.toNat : Int) < (97 : Int)))) rfl rfl (qp (AB (decide ((u0.toNat : Int) < (97 : Int)))) rfl (qp (AB (decide ((u0.toNat : Int) < (97 : Int)))) rfl (q_case 16 hF rfl (fun hF => qn3 (qp (AB true) rfl (r_nil (w_true rfl (ws 1216 1280 (qp (AB false) rfl (r_nil (w_ret (thenQ_r (eQ hF)))))))))) fun hF => ?_)))))
 refine qg (AS v0) rfl rfl (bk hF fun u1 e1 hF => qg (.val none (.int .u8 (u1.toNat : Int))) rfl (ev_ixs rfl rfl e1) (qg (AB (decide ((122 : Int) < (u1.toNat : Int)))) rfl rfl (qp (AB (decide ((122 : Int) < (u1.toNat : Int)))) rfl (r_nil (cF hF (fun hF => ws 1216 1280 (qp (AB false) rfl (r_nil (w_ret (thenQ_r (eQ hF)))))) fun hF => ?_)))))
 exact w_skip (thenQ_n (ws 1216 1408 (qp (AS v0) rfl (bk hF fun u2 e2 hF => qC (AB u2) [] (con_impl_onlyNameBytes e2) c148_ (qp (AB u2) rfl (rR hF))))))

def c149 : MC := (sr [pT 2 (.mv cf)] (.seq (sr [pT 3 (.mv (ci 1))] (.block 0 (.loop (.seq (sr [mvt 4 3, mvt 5 0, zT 6 5, bT 7 .lss t4 t6] (cx t7 0)) (.seq (.block 1 (sr [mP 10 t0, mP 11 t3, iF 12 10 11 1, lF 13 12, mP 14 t0, mP 15 t3, bF 16 .sub t15 (ci 1), iF 17 14 16 1, lF 18 17, bF 19 .leq t13 t18] (.cond t19 (sr [pT 2 (.mv cf)] .ret) .skip))) (.reg [mvt 8 3, bT 9 .add t8 (ci 1), mvt 3 9])))))) (sr [pT 2 (.mv ct)] .ret)))
theorem c149_ : IsF Tryz.prog 149 c149 [(.tmp 2)] := ⟨by kernel_rfl, by kernel_rfl⟩

def F_impl_increasing_l0 (v0 : List Int) (k0 : Int → Option (Bool)) : Int → Option (Bool)
 | x1 => (bif (decide (x1 < (v0.length : Int))) then ((ix v0 x1).bind fun u0 => ((ix v0 (w64 (x1 - 1))).bind fun u1 => (bif (decide (u0 ≤ u1)) then some false
 else k0 (w64 (x1 + 1)))))
 else some true)
def F_impl_increasing (v0 : List Int) : Option (Bool) :=
 loop (F_impl_increasing_l0 v0) 1
@[simp] abbrev K43 (v0 : List Int) : V := .sl 1 (v0.map vI)
@[simp] def res_impl_increasing (r : Bool) : RV := .one (.one (.val (.bool r)))
theorem con_impl_increasing {v0 : List Int} {r : Bool} (hF : F_impl_increasing v0 = some r) : Con Tryz.prog 149 [.sl 1 (v0.map vI)] (res_impl_increasing r) := by
 unfold F_impl_increasing at hF
 refine con_of c149_.1 fun N => ?_
 refine ws 0 64 (qp (AB false) rfl (r_nil (w_seq (ws 64 128 (qp (AI 1) rfl (r_nil (w_block ?_)))))))
 refine wr (l' := [(0, .val none (K43 v0)), (3, AI 1)]) (L := []) [0, 3] [] 1 ?_
 refine w_loopF (F_impl_increasing_l0 v0) (fun s : Int => mkS [(0, .val none (K43 v0)), (3, AI s)] (fo []) 1) hF ?_
 rintro k0 x1 hF
 rw [F_impl_increasing_l0] at hF
 try dsimp only
 refine w_seq (ws 1 257 (qp (AI x1) rfl (qp (.val none (K43 v0)) rfl (qp (AI (v0.length : Int)) (ev_len_n rfl) (qp (AB (decide (x1 < (v0.length : Int)))) rfl (r_nil ?_))))))
 refine cF hF (fun hF => ?_) fun hF => ?_
 ·
  refine w_skip (thenQ_n (w_seq (w_block (ws 257 897 (qp (.val none (K43 v0)) rfl (qp (AI x1) rfl (bk hF fun u0 e0 hF => qp (.val none (.ptr [.int .i64 u0])) (ev_iad_n rfl rfl e0 rfl) (qp (AI u0) rfl (qp (.val none (K43 v0)) rfl (qp (AI x1) rfl (qp (AI (w64 (x1 - 1))) rfl (bk hF fun u1 e1 hF => ?_))))))))))))
  refine qp (.val none (.ptr [.int .i64 u1])) (ev_iad_n rfl rfl e1 rfl) (qp (AI u1) rfl (qp (AB (decide (u0 ≤ u1))) rfl (r_nil (cF hF (fun hF => ws 897 961 (qp (AB false) rfl (r_nil (w_ret (blockQ_r (thenQ_r (thenQ_r (blockQ_r (thenQ_r (eQ hF)))))))))) fun hF => ?_))))
  refine w_skip (blockQ_n (thenQ_n (w_reg 897 1089 rfl rfl (qp (AI x1) rfl (qp (AI (w64 (x1 + 1))) rfl (qp (AI (w64 (x1 + 1))) rfl (r_nil (thenQ_n ?_))))))))
  refine ar (l' := [(0, .val none (K43 v0)), (3, AI (w64 (x1 + 1)))]) (L := []) [0, 3] [] 1 ⟨_, by rfl, hF⟩
 exact w_exit (thenQ_e (thenQ_e (blockQ_e (thenQ_n (ws 257 321 (qp (AB true) rfl (rR hF)))))))

def c129 : MC := (sr [pT 2 (.mv cf)] (sr [mvt 3 0, zT 4 3, bT 5 .geq t4 (ci 5), mvt 6 5, nT 7 6 t0, kT 8 6 (.iad t7 (ci 0) 1), kT 9 6 (.ld t8 1 false), kT 10 6 (.bin .eql t9 (ci 0)), pT 11 (.pick t6 t10 cf), mvt 12 11, nT 13 12 t0, ⟨(some 14), (some (12, true)), (.call true 149 [t13])⟩, pT 15 (.pick t12 t14 cf), mvt 16 15, nT 17 16 t0, nT 18 16 t0, kT 19 16 (.len t18), kT 20 16 (.bin .sub t19 (ci 1)), kT 21 16 (.iad t17 t20 1), kT 22 16 (.ld t21 1 false), kT 23 16 (.bin .lss t22 (ci 12)), pT 24 (.pick t16 t23 cf), mvt 2 24] .ret))
theorem c129_ : IsF Tryz.prog 129 c129 [(.tmp 2)] := ⟨by kernel_rfl, by kernel_rfl⟩

def F_impl_ValidScale (v0 : List Int) : Option (Bool) :=
 (bif (decide ((5 : Int) ≤ (v0.length : Int))) then ((ix v0 0).bind fun u0 => (bif (decide (u0 = (0 : Int))) then ((F_impl_increasing v0).bind fun u1 => (bif u1 then ((ix v0 (w64 ((v0.length : Int) - 1))).bind fun u2 => some (decide (u2 < (12 : Int))))
 else some false))
 else some false))
 else some false)
@[simp] abbrev K44 (v0 : List Int) : AV := AL 1 (v0.map vI)
@[simp] def res_impl_ValidScale (r : Bool) : RV := .one (.one (.val (.bool r)))
theorem con_impl_ValidScale {v0 : List Int} {r : Bool} (hF : F_impl_ValidScale v0 = some r) : Con Tryz.prog 129 [.sl 1 (v0.map vI)] (res_impl_ValidScale r) := by
 unfold F_impl_ValidScale at hF
 refine con_of c129_.1 fun N => ?_
 refine ws 0 64 (qp (AB false) rfl (r_nil (ws 64 1536 (qp (K44 v0) rfl (qp (AI (v0.length : Int)) (ev_len_n rfl) (qp (AB (decide ((5 : Int) ≤ (v0.length : Int)))) rfl (qp (AB (decide ((5 : Int) ≤ (v0.length : Int)))) rfl ?_)))))))
 refine q_case 6 hF rfl (fun hF => ?_) (fun hF => ?_)
 ·
  refine qg (K44 v0) rfl rfl (bk hF fun u0 e0 hF => qg (.val none (.ptr [.int .i64 u0])) rfl (ev_iad_n rfl rfl e0 rfl) (qg (AI u0) rfl rfl (qg (AB (decide (u0 = (0 : Int)))) rfl rfl (qp (AB (decide (u0 = (0 : Int)))) rfl (qp (AB (decide (u0 = (0 : Int)))) rfl ?_)))))
  refine q_case 12 hF rfl (fun hF => ?_) (fun hF => ?_)
  ·
   refine qg (K44 v0) rfl rfl (bk hF fun u1 e1 hF => qG (AB u1) [] (con_impl_increasing e1) c149_ (qp (AB u1) rfl (qp (AB u1) rfl (q_case 16 hF rfl (fun hF => qg (K44 v0) rfl rfl (qg (K44 v0) rfl rfl (qg (AI (v0.length : Int)) rfl (ev_len_n rfl) (qg (AI (w64 ((v0.length : Int) - 1))) rfl rfl (bk hF fun u2 e2 hF => qg (.val none (.ptr [.int .i64 u2])) rfl (ev_iad_n rfl rfl e2 rfl) (qg (AI u2) rfl rfl (qg (AB (decide (u2 < (12 : Int)))) rfl rfl (qp (AB (decide (u2 < (12 : Int)))) rfl (qp (AB (decide (u2 < (12 : Int)))) rfl (rR hF)))))))))) fun hF => ?_))))
   exact qn7 (qp (AB false) rfl (qp (AB false) rfl (rR hF)))
  exact qn2 (qp (AB false) rfl (qp (AB false) rfl (qn4 (qn3 (qp (AB false) rfl (qp (AB false) rfl (rR hF)))))))
 exact qn4 (qp (AB false) rfl (qp (AB false) rfl (qn2 (qp (AB false) rfl (qp (AB false) rfl (qn6 (qn rfl (qp (AB false) rfl (qp (AB false) rfl (rR hF))))))))))

def c150 : MC := (sr [pT 4 (.mv (ci 0))] (.seq (sr [mvt 6 0, zT 7 6, pT 8 (.mv (ci 0))] (.block 0 (.loop (sr [bT 9 .lss t8 t7] (.seq (cx t9 0) (.seq (.block 1 (sr [mvt 10 8, mvt 5 10] (sr [mvt 11 1, mvt 12 0, mvt 13 5, iT 14 12 13 1, lT 15 14, bT 16 .eql t11 t15] (.cond t16 (sr [mvt 17 5, mvt 4 17] .ret) .skip)))) (.reg [bT 18 .add t8 (ci 1), mvt 8 18]))))))) (sr [pT 4 (.mv (ci (-1)))] .ret)))
theorem c150_ : IsF Tryz.prog 150 c150 [(.tmp 4)] := ⟨by kernel_rfl, by kernel_rfl⟩

def F_slices_Index_Sint64_int64_l0 (v0 : List Int) (v1 : Int) (k0 : Int → Option (Int)) : Int → Option (Int)
 | x1 => (bif (decide (x1 < (v0.length : Int))) then ((ix v0 x1).bind fun u0 => (bif (decide (v1 = u0)) then some x1
 else k0 (w64 (x1 + 1))))
 else some (-1))
def F_slices_Index_Sint64_int64 (v0 : List Int) (v1 : Int) : Option (Int) :=
 loop (F_slices_Index_Sint64_int64_l0 v0 v1) 0
@[simp] def res_slices_Index_Sint64_int64 (r : Int) : RV := .one (.one (.val (.int .i64 r)))
theorem con_slices_Index_Sint64_int64 {v0 : List Int} {v1 : Int} {r : Int} (hF : F_slices_Index_Sint64_int64 v0 v1 = some r) : Con Tryz.prog 150 [.sl 1 (v0.map vI), .int .i64 v1] (res_slices_Index_Sint64_int64 r) := by
 unfold F_slices_Index_Sint64_int64 at hF
 refine con_of c150_.1 fun N => ?_
 refine ws 0 64 (qp (AI 0) rfl (r_nil (w_seq (ws 64 256 (qp (AL 1 (v0.map vI)) rfl (qp (AI (v0.length : Int)) (ev_len_n rfl) (qp (AI 0) rfl (r_nil (w_block ?_)))))))))
 refine wr (l' := [(0, AL 1 (v0.map vI)), (1, AI v1), (7, AI (v0.length : Int)), (8, AI 0)]) (L := []) [0, 1, 7, 8] [] 1 ?_
 refine w_loopF (F_slices_Index_Sint64_int64_l0 v0 v1) (fun s : Int => mkS [(0, AL 1 (v0.map vI)), (1, AI v1), (7, AI (v0.length : Int)), (8, AI s)] (fo []) 1) hF ?_
 rintro k0 x1 hF
 rw [F_slices_Index_Sint64_int64_l0] at hF
 try dsimp only
 refine ws 1 65 (qp (AB (decide (x1 < (v0.length : Int)))) rfl (r_nil (w_seq ?_)))
 refine cF hF (fun hF => ?_) fun hF => ?_
 ·
  refine w_skip (thenQ_n (w_seq (w_block (ws 65 193 (qp (AI x1) rfl (qp (AI x1) rfl (r_nil (ws 193 577 (qp (AI v1) rfl (qp (AL 1 (v0.map vI)) rfl (qp (AI x1) rfl (bk hF fun u0 e0 hF => ?_))))))))))))
  refine qp (.val none (.ptr [.int .i64 u0])) (ev_iad_n rfl rfl e0 rfl) (qp (AI u0) rfl (qp (AB (decide (v1 = u0))) rfl (r_nil (cF hF (fun hF => ws 577 705 (qp (AI x1) rfl (qp (AI x1) rfl (r_nil (w_ret (blockQ_r (thenQ_r (thenQ_r (blockQ_r (thenQ_r (eQ hF))))))))))) fun hF => ?_))))
  refine w_skip (blockQ_n (thenQ_n (w_reg 577 705 rfl rfl (qp (AI (w64 (x1 + 1))) rfl (qp (AI (w64 (x1 + 1))) rfl (r_nil (thenQ_n ?_)))))))
  refine ar (l' := [(0, AL 1 (v0.map vI)), (1, AI v1), (7, AI (v0.length : Int)), (8, AI (w64 (x1 + 1)))]) (L := []) [0, 1, 7, 8] [] 1 ⟨_, by rfl, hF⟩
 exact w_exit (thenQ_e (thenQ_e (blockQ_e (thenQ_n (ws 65 129 (qp (AI (-1)) rfl (rR hF)))))))

def c132 : MC := (sr [pT 4 (.mv cf)] (sr [mvt 5 0, mvt 6 1, dT 7 150 [t5, t6], bT 8 .geq t7 (ci 0), mvt 4 8] .ret))
theorem c132_ : IsF Tryz.prog 132 c132 [(.tmp 4)] := ⟨by kernel_rfl, by kernel_rfl⟩

def F_slices_Contains_Sint64_int64 (v0 : List Int) (v1 : Int) : Option (Bool) :=
 ((F_slices_Index_Sint64_int64 v0 v1).bind fun u0 => some (decide ((0 : Int) ≤ u0)))
@[simp] def res_slices_Contains_Sint64_int64 (r : Bool) : RV := .one (.one (.val (.bool r)))
theorem con_slices_Contains_Sint64_int64 {v0 : List Int} {v1 : Int} {r : Bool} (hF : F_slices_Contains_Sint64_int64 v0 v1 = some r) : Con Tryz.prog 132 [.sl 1 (v0.map vI), .int .i64 v1] (res_slices_Contains_Sint64_int64 r) := by
 unfold F_slices_Contains_Sint64_int64 at hF
 refine con_of c132_.1 fun N => ?_
 exact ws 0 64 (qp (AB false) rfl (r_nil (ws 64 384 (qp (AL 1 (v0.map vI)) rfl (qp (AI v1) rfl (bk hF fun u0 e0 hF => qC (AI u0) [] (con_slices_Index_Sint64_int64 e0) c150_ (qp (AB (decide ((0 : Int) ≤ u0))) rfl (qp (AB (decide ((0 : Int) ≤ u0))) rfl (rR hF)))))))))

def c104 : MC := (sr [rg 2 (.f (.box t0)), pT 4 (.mv cf)] (sr [pT 5 (.fad t2 1), lT 6 5, mvt 7 1, dT 8 132 [t6, t7], mvt 9 8, kF 10 9 (.fad t2 2), kF 11 9 (.ld t10 1 false), nF 12 9 t1, ⟨(some 13), (some (9, false)), (.call true 132 [t11, t12])⟩, pT 14 (.pick t9 ct t13), mvt 4 14] .ret))
theorem c104_ : IsF Tryz.prog 104 c104 [(.tmp 4)] := ⟨by kernel_rfl, by kernel_rfl⟩

def F_impl_Raga_hasTone (v0 : TRaga) (v1 : Int) : Option (Bool) :=
 ((F_slices_Contains_Sint64_int64 v0.2.1 v1).bind fun u0 => (bif u0 then some true
 else ((F_slices_Contains_Sint64_int64 v0.2.2.1 v1).bind fun u1 => some u1)))
@[simp] abbrev K45 (v0 : TRaga) : List (Nat × Root) := [(0, .box [AS v0.1, AL 1 (v0.2.1.map vI), AL 1 (v0.2.2.1.map vI), AI v0.2.2.2.1, AI v0.2.2.2.2.1, AL 1 (v0.2.2.2.2.2.map (eL 1 vI))])]
@[simp] def res_impl_Raga_hasTone (r : Bool) : RV := .one (.one (.val (.bool r)))
theorem con_impl_Raga_hasTone {v0 : TRaga} {v1 : Int} {r : Bool} (hF : F_impl_Raga_hasTone v0 v1 = some r) : Con Tryz.prog 104 [eRaga v0, .int .i64 v1] (res_impl_Raga_hasTone r) := by
 unfold F_impl_Raga_hasTone at hF
 refine con_of c104_.1 fun N => ?_
 refine ws 0 128 (qf (.ptr 0 0 0) (K45 v0) (by simp) (qp (AB false) rfl (r_nil (ws 128 832 (qp (.ptr 0 0 1) rfl (qp (AL 1 (v0.2.1.map vI)) rfl (qp (AI v1) rfl (bk hF fun u0 e0 hF => qC (AB u0) (K45 v0) (con_slices_Contains_Sint64_int64 e0) c132_ (qp (AB u0) rfl (q_case 9 hF rfl (fun hF => qn4 (qp (AB true) rfl (qp (AB true) rfl (rR hF)))) fun hF => ?_))))))))))
 exact qg (.ptr 0 0 2) rfl rfl (qg (AL 1 (v0.2.2.1.map vI)) rfl rfl (qg (AI v1) rfl rfl (bk hF fun u1 e1 hF => qG (AB u1) (K45 v0) (con_slices_Contains_Sint64_int64 e1) c132_ (qp (AB u1) rfl (qp (AB u1) rfl (rR hF))))))

def c81 : MC := (sr [pT 6 (.mv cf)] (sr [mvt 7 0, mvt 8 1, bT 9 .geq t7 t8, mvt 10 9, nT 11 10 t0, nT 12 10 t2, kT 13 10 (.bin .leq t11 t12), pT 14 (.pick t10 t13 cf), mvt 6 14] .ret))
theorem c81_ : IsF Tryz.prog 81 c81 [(.tmp 6)] := ⟨by kernel_rfl, by kernel_rfl⟩

def F_impl_within (v0 : Int) (v1 : Int) (v2 : Int) : Option (Bool) :=
 (bif (decide (v1 ≤ v0)) then some (decide (v0 ≤ v2))
 else some false)
@[simp] def res_impl_within (r : Bool) : RV := .one (.one (.val (.bool r)))
theorem con_impl_within {v0 : Int} {v1 : Int} {v2 : Int} {r : Bool} (hF : F_impl_within v0 v1 v2 = some r) : Con Tryz.prog 81 [.int .i64 v0, .int .i64 v1, .int .i64 v2] (res_impl_within r) := by
 unfold F_impl_within at hF
 refine con_of c81_.1 fun N => ?_
 refine ws 0 64 (qp (AB false) rfl (r_nil (ws 64 640 (qp (AI v0) rfl (qp (AI v1) rfl (qp (AB (decide (v1 ≤ v0))) rfl (qp (AB (decide (v1 ≤ v0))) rfl (q_case 10 hF rfl (fun hF => qg (AI v0) rfl rfl (qg (AI v2) rfl rfl (qg (AB (decide (v0 ≤ v2))) rfl rfl (qp (AB (decide (v0 ≤ v2))) rfl (qp (AB (decide (v0 ≤ v2))) rfl (rR hF)))))) fun hF => ?_))))))))
 exact qn3 (qp (AB false) rfl (qp (AB false) rfl (rR hF)))

def c130 : MC := (sr [pT 2 (.mv cf)] (sr [mvt 3 0, dT 4 81 [t3, (ci 0), (ci 11)], mvt 2 4] .ret))
theorem c130_ : IsF Tryz.prog 130 c130 [(.tmp 2)] := ⟨by kernel_rfl, by kernel_rfl⟩

def F_impl_toneOk (v0 : Int) : Option (Bool) :=
 ((F_impl_within v0 0 11).bind fun u0 => some u0)
@[simp] def res_impl_toneOk (r : Bool) : RV := .one (.one (.val (.bool r)))
theorem con_impl_toneOk {v0 : Int} {r : Bool} (hF : F_impl_toneOk v0 = some r) : Con Tryz.prog 130 [.int .i64 v0] (res_impl_toneOk r) := by
 unfold F_impl_toneOk at hF
 refine con_of c130_.1 fun N => ?_
 exact ws 0 64 (qp (AB false) rfl (r_nil (ws 64 256 (qp (AI v0) rfl (bk hF fun u0 e0 hF => qC (AB u0) [] (con_impl_within e0) c81_ (qp (AB u0) rfl (rR hF)))))))

def c154 : MC := (sr [pT 2 (.mv cf)] (sr [mvt 3 0, mvt 4 0, bT 5 .neq t3 t4, mvt 2 5] .ret))
theorem c154_ : IsF Tryz.prog 154 c154 [(.tmp 2)] := ⟨by kernel_rfl, by kernel_rfl⟩

def F_cmp_isNaN_int64 (v0 : Int) : Option (Bool) :=
 some (decide (v0 ≠ v0))
@[simp] def res_cmp_isNaN_int64 (r : Bool) : RV := .one (.one (.val (.bool r)))
theorem con_cmp_isNaN_int64 {v0 : Int} {r : Bool} (hF : F_cmp_isNaN_int64 v0 = some r) : Con Tryz.prog 154 [.int .i64 v0] (res_cmp_isNaN_int64 r) := by
 unfold F_cmp_isNaN_int64 at hF
 refine con_of c154_.1 fun N => ?_
 exact ws 0 64 (qp (AB false) rfl (r_nil (ws 64 320 (qp (AI v0) rfl (qp (AI v0) rfl (qp (AB (decide (v0 ≠ v0))) rfl (qp (AB (decide (v0 ≠ v0))) rfl (rR hF))))))))

def c139 : MC := (sr [pT 4 (.mv (ci 0))] (sr [mvt 7 0, dT 8 154 [t7], mvt 5 8] (sr [mvt 9 1, dT 10 154 [t9], mvt 6 10] (.seq (sr [mvt 11 5] (.cond t11 (.seq (sr [mvt 12 6] (.cond t12 (sr [pT 4 (.mv (ci 0))] .ret) .skip)) (sr [pT 4 (.mv (ci (-1)))] .ret)) .skip)) (.seq (sr [mvt 13 6] (.cond t13 (sr [pT 4 (.mv (ci 1))] .ret) .skip)) (.seq (sr [mvt 14 0, mvt 15 1, bT 16 .lss t14 t15] (.cond t16 (sr [pT 4 (.mv (ci (-1)))] .ret) .skip)) (.seq (sr [mvt 17 0, mvt 18 1, bT 19 .gtr t17 t18] (.cond t19 (sr [pT 4 (.mv (ci 1))] .ret) .skip)) (sr [pT 4 (.mv (ci 0))] .ret))))))))
theorem c139_ : IsF Tryz.prog 139 c139 [(.tmp 4)] := ⟨by kernel_rfl, by kernel_rfl⟩

def F_cmp_Compare_int64 (v0 : Int) (v1 : Int) : Option (Int) :=
 ((F_cmp_isNaN_int64 v0).bind fun u0 => ((F_cmp_isNaN_int64 v1).bind fun u1 => (bif u0 then (bif u1 then some 0
 else some (-1))
 else (bif u1 then some 1
 else (bif (decide (v0 < v1)) then some (-1)
 else (bif (decide (v1 < v0)) then some 1
 else some 0))))))
@[simp] def res_cmp_Compare_int64 (r : Int) : RV := .one (.one (.val (.int .i64 r)))
theorem con_cmp_Compare_int64 {v0 : Int} {v1 : Int} {r : Int} (hF : F_cmp_Compare_int64 v0 v1 = some r) : Con Tryz.prog 139 [.int .i64 v0, .int .i64 v1] (res_cmp_Compare_int64 r) := by
 unfold F_cmp_Compare_int64 at hF
 refine con_of c139_.1 fun N => ?_
 refine ws 0 64 (qp (AI 0) rfl (r_nil (ws 64 256 (qp (AI v0) rfl (bk hF fun u0 e0 hF => qC (AB u0) [] (con_cmp_isNaN_int64 e0) c154_ (qp (AB u0) rfl (r_nil (ws 256 448 (qp (AI v1) rfl (bk hF fun u1 e1 hF => qC (AB u1) [] (con_cmp_isNaN_int64 e1) c154_ (qp (AB u1) rfl (r_nil (w_seq (ws 448 512 (qp (AB u0) rfl ?_)))))))))))))))
 refine r_nil ?_
 refine cF hF (fun hF => ?_) fun hF => ?_
 ·
  refine w_seq (ws 512 576 (qp (AB u1) rfl (r_nil (cF hF (fun hF => ws 576 640 (qp (AI 0) rfl (r_nil (w_ret (thenQ_r (thenQ_r (eQ hF))))))) fun hF => ?_))))
  exact w_skip (thenQ_n (ws 576 640 (qp (AI (-1)) rfl (r_nil (w_ret (thenQ_r (eQ hF)))))))
 refine w_skip (thenQ_n (w_seq (ws 512 576 (qp (AB u1) rfl (r_nil (cF hF (fun hF => ws 576 640 (qp (AI 1) rfl (r_nil (w_ret (thenQ_r (eQ hF)))))) fun hF => ?_))))))
 refine w_skip (thenQ_n (w_seq (ws 576 768 (qp (AI v0) rfl (qp (AI v1) rfl (qp (AB (decide (v0 < v1))) rfl (r_nil (cF hF (fun hF => ws 768 832 (qp (AI (-1)) rfl (r_nil (w_ret (thenQ_r (eQ hF)))))) fun hF => ?_))))))))
 refine w_skip (thenQ_n (w_seq (ws 768 960 (qp (AI v0) rfl (qp (AI v1) rfl (qp (AB (decide (v1 < v0))) rfl (r_nil (cF hF (fun hF => ws 960 1024 (qp (AI 1) rfl (r_nil (w_ret (thenQ_r (eQ hF)))))) fun hF => ?_))))))))
 exact w_skip (thenQ_n (ws 960 1024 (qp (AI 0) rfl (rR hF))))

def c131 : MC := (sr [pT 4 (.mv (ci 0))] (.seq (sr [mvt 9 0, zT 10 9, pT 11 (.mv (ci 0))] (.block 0 (.loop (sr [bT 12 .lss t11 t10] (.seq (cx t12 0) (.seq (.block 1 (sr [mvt 13 11, iT 14 9 11 1, lT 15 14, mvt 5 13, mvt 6 15] (.seq (sr [mvt 16 5, mvt 17 1, zT 18 17, bT 19 .geq t16 t18] (.cond t19 (sr [pT 4 (.mv (ci 1))] .ret) .skip)) (sr [mvt 20 1, mvt 21 5, iT 22 20 21 1, lT 23 22, mvt 7 23] (sr [mvt 24 6, mvt 25 7, dT 26 139 [t24, t25], mvt 8 26] (sr [mvt 27 8, bT 28 .neq t27 (ci 0)] (.cond t28 (sr [mvt 29 8, mvt 4 29] .ret) .skip))))))) (.reg [bT 30 .add t11 (ci 1), mvt 11 30]))))))) (.seq (sr [mvt 31 0, zT 32 31, mvt 33 1, zT 34 33, bT 35 .lss t32 t34] (.cond t35 (sr [pT 4 (.mv (ci (-1)))] .ret) .skip)) (sr [pT 4 (.mv (ci 0))] .ret))))
theorem c131_ : IsF Tryz.prog 131 c131 [(.tmp 4)] := ⟨by kernel_rfl, by kernel_rfl⟩

def F_slices_Compare_Sint64_int64_l0 (v0 : List Int) (v1 : List Int) (k0 : Int → Option (Int)) : Int → Option (Int)
 | x1 => (bif (decide (x1 < (v0.length : Int))) then ((ix v0 x1).bind fun u0 => (bif (decide ((v1.length : Int) ≤ x1)) then some 1
 else ((ix v1 x1).bind fun u1 => ((F_cmp_Compare_int64 u0 u1).bind fun u2 => (bif (decide (u2 ≠ (0 : Int))) then some u2
 else k0 (w64 (x1 + 1)))))))
 else (bif (decide ((v0.length : Int) < (v1.length : Int))) then some (-1)
 else some 0))
def F_slices_Compare_Sint64_int64 (v0 : List Int) (v1 : List Int) : Option (Int) :=
 loop (F_slices_Compare_Sint64_int64_l0 v0 v1) 0
@[simp] abbrev K46 (v0 : List Int) : V := .sl 1 (v0.map vI)
@[simp] abbrev K47 (v1 : List Int) : V := .sl 1 (v1.map vI)
@[simp] def res_slices_Compare_Sint64_int64 (r : Int) : RV := .one (.one (.val (.int .i64 r)))
theorem con_slices_Compare_Sint64_int64 {v0 : List Int} {v1 : List Int} {r : Int} (hF : F_slices_Compare_Sint64_int64 v0 v1 = some r) : Con Tryz.prog 131 [.sl 1 (v0.map vI), .sl 1 (v1.map vI)] (res_slices_Compare_Sint64_int64 r) := by
 unfold F_slices_Compare_Sint64_int64 at hF
 refine con_of c131_.1 fun N => ?_
 refine ws 0 64 (qp (AI 0) rfl (r_nil (w_seq (ws 64 256 (qp (.val none (K46 v0)) rfl (qp (AI (v0.length : Int)) (ev_len_n rfl) (qp (AI 0) rfl (r_nil (w_block ?_)))))))))
 refine wr (l' := [(0, .val none (K46 v0)), (1, .val none (K47 v1)), (9, .val none (K46 v0)), (10, AI (v0.length : Int)), (11, AI 0)]) (L := []) [0, 1, 9, 10, 11] [] 1 ?_
 refine w_loopF (F_slices_Compare_Sint64_int64_l0 v0 v1) (fun s : Int => mkS [(0, .val none (K46 v0)), (1, .val none (K47 v1)), (9, .val none (K46 v0)), (10, AI (v0.length : Int)), (11, AI s)] (fo []) 1) hF ?_
 rintro k0 x1 hF
 rw [F_slices_Compare_Sint64_int64_l0] at hF
 try dsimp only
 refine ws 1 65 (qp (AB (decide (x1 < (v0.length : Int)))) rfl (r_nil (w_seq ?_)))
 refine cF hF (fun hF => ?_) fun hF => ?_
 ·
  refine w_skip (thenQ_n (w_seq (w_block (ws 65 385 (qp (AI x1) rfl (bk hF fun u0 e0 hF => qp (.val none (.ptr [.int .i64 u0])) (ev_iad_n rfl rfl e0 rfl) (qp (AI u0) rfl (qp (AI x1) rfl (qp (AI u0) rfl (r_nil (w_seq (ws 385 641 ?_))))))))))))
  refine qp (AI x1) rfl (qp (.val none (K47 v1)) rfl (qp (AI (v1.length : Int)) (ev_len_n rfl) (qp (AB (decide ((v1.length : Int) ≤ x1))) rfl (r_nil (cF hF (fun hF => ws 641 705 (qp (AI 1) rfl (r_nil (w_ret (thenQ_r (blockQ_r (thenQ_r (thenQ_r (blockQ_r (thenQ_r (eQ hF))))))))))) fun hF => ?_)))))
  refine w_skip (thenQ_n (ws 641 961 (qp (.val none (K47 v1)) rfl (qp (AI x1) rfl (bk hF fun u1 e1 hF => qp (.val none (.ptr [.int .i64 u1])) (ev_iad_n rfl rfl e1 rfl) (qp (AI u1) rfl (qp (AI u1) rfl (r_nil (ws 961 1217 (qp (AI u0) rfl (qp (AI u1) rfl (bk hF fun u2 e2 hF => qC (AI u2) [] (con_cmp_Compare_int64 e2) c139_ (qp (AI u2) rfl (r_nil (ws 1217 1345 ?_)))))))))))))))
  refine qp (AI u2) rfl (qp (AB (decide (u2 ≠ (0 : Int)))) rfl (r_nil (cF hF (fun hF => ws 1345 1473 (qp (AI u2) rfl (qp (AI u2) rfl (r_nil (w_ret (blockQ_r (thenQ_r (thenQ_r (blockQ_r (thenQ_r (eQ hF))))))))))) fun hF => ?_)))
  refine w_skip (blockQ_n (thenQ_n (w_reg 1345 1473 rfl rfl (qp (AI (w64 (x1 + 1))) rfl (qp (AI (w64 (x1 + 1))) rfl (r_nil (thenQ_n ?_)))))))
  refine ar (l' := [(0, .val none (K46 v0)), (1, .val none (K47 v1)), (9, .val none (K46 v0)), (10, AI (v0.length : Int)), (11, AI (w64 (x1 + 1)))]) (L := []) [0, 1, 9, 10, 11] [] 1 ⟨_, by rfl, hF⟩
 refine w_exit (thenQ_e (thenQ_e (blockQ_e (thenQ_n (w_seq (ws 65 385 (qp (.val none (K46 v0)) rfl (qp (AI (v0.length : Int)) (ev_len_n rfl) (qp (.val none (K47 v1)) rfl (qp (AI (v1.length : Int)) (ev_len_n rfl) (qp (AB (decide ((v0.length : Int) < (v1.length : Int)))) rfl (r_nil ?_))))))))))))
 refine cF hF (fun hF => ws 385 449 (qp (AI (-1)) rfl (r_nil (w_ret (thenQ_r (eQ hF)))))) fun hF => ?_
 exact w_skip (thenQ_n (ws 385 449 (qp (AI 0) rfl (rR hF))))

def c102 : MC := (sr [rg 1 (.f (.box t0)), pT 2 (.mv cf)] (.seq (sr [pT 5 (.fad t1 0), lT 6 5, dT 7 128 [t6], pT 8 (.not t7), mvt 9 8, kF 10 9 (.fad t1 1), kF 11 9 (.ld t10 1 false), ⟨(some 12), (some (9, false)), (.call true 129 [t11])⟩, kF 13 9 (.not t12), pT 14 (.pick t9 ct t13), mvt 15 14, kF 16 15 (.fad t1 2), kF 17 15 (.ld t16 1 false), ⟨(some 18), (some (15, false)), (.call true 129 [t17])⟩, kF 19 15 (.not t18), pT 20 (.pick t15 ct t19), mvt 21 20, kF 22 21 (.fad t1 3), kF 23 21 (.ld t22 1 false), kF 24 21 (.fad t1 4), kF 25 21 (.ld t24 1 false), kF 26 21 (.bin .eql t23 t25), pT 27 (.pick t21 ct t26), mvt 28 27, kF 29 28 (.ld t1 6 true), kF 30 28 (.fad t1 3), kF 31 28 (.ld t30 1 false), ⟨(some 32), (some (28, false)), (.call true 104 [t29, t31])⟩, kF 33 28 (.not t32), pT 34 (.pick t28 ct t33), mvt 35 34, kF 36 35 (.ld t1 6 true), kF 37 35 (.fad t1 4), kF 38 35 (.ld t37 1 false), ⟨(some 39), (some (35, false)), (.call true 104 [t36, t38])⟩, kF 40 35 (.not t39), pT 41 (.pick t35 ct t40), mvt 42 41, kF 43 42 (.fad t1 5), kF 44 42 (.ld t43 1 false), kF 45 42 (.len t44), kF 46 42 (.bin .gtr t45 (ci 8)), pT 47 (.pick t42 ct t46)] (.cond t47 (sr [pT 2 (.mv cf)] .ret) .skip)) (.seq (sr [pT 48 (.fad t1 5), lT 49 48, zT 50 49, pT 51 (.mv (ci 0))] (.block 0 (.loop (sr [bT 52 .lss t51 t50] (.seq (cx t52 0) (.seq (.block 1 (sr [mvt 53 51, iT 54 49 51 1, lT 55 54, mvt 3 53, mvt 4 55] (sr [mP 56 t4, zF 57 56, bF 58 .neq t57 (ci 2), mP 59 t58, mF 60 59 t4, jH 61 59 60 0 1, lH 62 59 61, ⟨(some 63), (some (59, false)), (.call false 130 [t62])⟩, gF 64 59 (.not t63), pF 65 (.pick t59 ct t64), mP 66 t65, mF 67 66 t4, jH 68 66 67 1 1, lH 69 66 68, ⟨(some 70), (some (66, false)), (.call false 130 [t69])⟩, gF 71 66 (.not t70), pF 72 (.pick t66 ct t71), mP 73 t72, mF 74 73 t4, jH 75 73 74 0 1, lH 76 73 75, mF 77 73 t4, jH 78 73 77 1 1, lH 79 73 78, bH 80 73 .eql t76 t79, pF 81 (.pick t73 ct t80), mP 82 t81, mF 83 82 t3, bH 84 82 .gtr t83 (ci 0), mF 85 82 t84, gT 86 85 (.fad t1 5), lG 87 85 86, mT 88 85 t3, bG 89 85 .sub t88 (ci 1), iG 90 85 87 89 1, lG 91 85 90, mT 92 85 t4, ⟨(some 93), (some (85, true)), (.call false 131 [t91, t92])⟩, bG 94 85 .geq t93 (ci 0), gF 95 82 (.pick t85 t94 cf), pF 96 (.pick t82 ct t95)] (.cond t96 (sr [pT 2 (.mv cf)] .ret) .skip)))) (.reg [bT 97 .add t51 (ci 1), mvt 51 97]))))))) (sr [pT 2 (.mv ct)] .ret))))
theorem c102_ : IsF Tryz.prog 102 c102 [(.tmp 2)] := ⟨by kernel_rfl, by kernel_rfl⟩

def F_impl_ValidRaga_l0 (v0 : TRaga) (k1 : Int → Option (Bool)) : Int → Option (Bool)
 | x3 => (bif (decide (x3 < (v0.2.2.2.2.2.length : Int))) then ((ix v0.2.2.2.2.2 x3).bind fun u23 => (bif (decide ((u23.length : Int) ≠ (2 : Int))) then some false
 else ((ix u23 0).bind fun u24 => ((F_impl_toneOk u24).bind fun u25 => (bif (!u25) then some false
 else ((ix u23 1).bind fun u26 => ((F_impl_toneOk u26).bind fun u27 => (bif (!u27) then some false
 else ((ix u23 0).bind fun u28 => ((ix u23 1).bind fun u29 => (bif (decide (u28 = u29)) then some false
 else (bif (decide ((0 : Int) < x3)) then ((ix v0.2.2.2.2.2 (w64 (x3 - 1))).bind fun u30 => ((F_slices_Compare_Sint64_int64 u30 u23).bind fun u31 => (bif (decide ((0 : Int) ≤ u31)) then some false
 else k1 (w64 (x3 + 1)))))
 else k1 (w64 (x3 + 1))))))))))))))
 else some true)
def F_impl_ValidRaga (v0 : TRaga) : Option (Bool) :=
 ((F_impl_IsName v0.1).bind fun u0 => (bif (!u0) then some false
 else ((F_impl_ValidScale v0.2.1).bind fun u1 => (bif (!u1) then some false
 else ((F_impl_ValidScale v0.2.2.1).bind fun u2 => (bif (!u2) then some false
 else (bif (decide (v0.2.2.2.1 = v0.2.2.2.2.1)) then some false
 else ((F_impl_Raga_hasTone v0 v0.2.2.2.1).bind fun u3 => (bif (!u3) then some false
 else ((F_impl_Raga_hasTone v0 v0.2.2.2.2.1).bind fun u4 => (bif (!u4) then some false
 else (bif (decide ((8 : Int) < (v0.2.2.2.2.2.length : Int))) then some false
 else loop (F_impl_ValidRaga_l0 v0) 0))))))))))))
@[simp] abbrev K4a (v0 : TRaga) : V := .sl 1 (v0.2.2.2.2.2.map (eL 1 vI))
@[simp] abbrev K49 (v0 : TRaga) : List AV := [AS v0.1, AL 1 (v0.2.1.map vI), AL 1 (v0.2.2.1.map vI), AI v0.2.2.2.1, AI v0.2.2.2.2.1, .val none (K4a v0)]
@[simp] abbrev K48 (v0 : TRaga) : List (Nat × Root) := [(0, .box (K49 v0))]
@[simp] abbrev K4b (u23 : List Int) : AV := AL 1 (u23.map vI)
@[simp] def res_impl_ValidRaga (r : Bool) : RV := .one (.one (.val (.bool r)))
theorem con_impl_ValidRaga {v0 : TRaga} {r : Bool} (hF : F_impl_ValidRaga v0 = some r) : Con Tryz.prog 102 [eRaga v0] (res_impl_ValidRaga r) := by
 unfold F_impl_ValidRaga at hF
 refine con_of c102_.1 fun N => ?_
 refine ws 0 128 (qf (.ptr 0 0 0) (K48 v0) (by simp) (qp (AB false) rfl (r_nil (w_seq (ws 128 2880 (qp (.ptr 0 0 0) rfl (qp (AS v0.1) rfl (bk hF fun u0 e0 hF => qC (AB u0) (K48 v0) (con_impl_IsName e0) c128_ (qp (AB (!u0)) rfl (qp (AB (!u0)) rfl ?_))))))))))
 refine q_case 9 hF rfl (fun hF => ?_) (fun hF => ?_)
 ·
  refine qn4 (qp (AB true) rfl (qp (AB true) rfl (qn2 (qn2 (qp (AB true) rfl (qp (AB true) rfl (qn4 ?_)))))))
  refine qn rfl (qp (AB true) rfl (qp (AB true) rfl (qn rfl (qn rfl (qn rfl (qn rfl (qn rfl (qp (AB true) rfl (qp (AB true) rfl (qn5 (qp (AB true) rfl ?_)))))))))))
  exact qp (AB true) rfl (qn4 (qp (AB true) rfl (r_nil (w_true rfl (ws 2880 2944 (qp (AB false) rfl (r_nil (w_ret (thenQ_r (eQ hF))))))))))
 refine qg (.ptr 0 0 1) rfl rfl (qg (AL 1 (v0.2.1.map vI)) rfl rfl (bk hF fun u1 e1 hF => qG (AB u1) (K48 v0) (con_impl_ValidScale e1) c129_ (qg (AB (!u1)) rfl rfl (qp (AB (!u1)) rfl (qp (AB (!u1)) rfl ?_)))))
 refine q_case 15 hF rfl (fun hF => ?_) (fun hF => ?_)
 ·
  refine qn4 (qp (AB true) rfl (qp (AB true) rfl (qn2 (qn3 (qp (AB true) rfl (qp (AB true) rfl (qn3 (qn2 (qp (AB true) rfl (qp (AB true) rfl (qn4 ?_)))))))))))
  refine qn rfl (qp (AB true) rfl (qp (AB true) rfl (qn rfl (qn rfl (qn rfl (qn rfl (qp (AB true) rfl (r_nil (w_true rfl (ws 2880 2944 (qp (AB false) rfl (r_nil (w_ret ?_)))))))))))))
  exact thenQ_r (eQ hF)
 refine qg (.ptr 0 0 2) rfl rfl (qg (AL 1 (v0.2.2.1.map vI)) rfl rfl (bk hF fun u2 e2 hF => qG (AB u2) (K48 v0) (con_impl_ValidScale e2) c129_ (qg (AB (!u2)) rfl rfl (qp (AB (!u2)) rfl (qp (AB (!u2)) rfl ?_)))))
 refine q_case 21 hF rfl (fun hF => ?_) (fun hF => ?_)
 ·
  refine qn5 (qp (AB true) rfl (qp (AB true) rfl (qn rfl (qn4 (qp (AB true) rfl (qp (AB true) rfl (qn2 (qn3 (qp (AB true) rfl (qp (AB true) rfl (qn3 (qn rfl (qp (AB true) rfl ?_)))))))))))))
  exact r_nil (w_true rfl (ws 2880 2944 (qp (AB false) rfl (r_nil (w_ret (thenQ_r (eQ hF)))))))
 refine qg (.ptr 0 0 3) rfl rfl (qg (AI v0.2.2.2.1) rfl rfl (qg (.ptr 0 0 4) rfl rfl (qg (AI v0.2.2.2.2.1) rfl rfl (qg (AB (decide (v0.2.2.2.1 = v0.2.2.2.2.1))) rfl rfl (qp (AB (decide (v0.2.2.2.1 = v0.2.2.2.2.1))) rfl (qp (AB (decide (v0.2.2.2.1 = v0.2.2.2.2.1))) rfl ?_))))))
 refine q_case 28 hF rfl (fun hF => ?_) (fun hF => ?_)
 ·
  refine qn5 (qp (AB true) rfl (qp (AB true) rfl (qn rfl (qn4 (qp (AB true) rfl (qp (AB true) rfl (qn2 (qn2 (qp (AB true) rfl (r_nil (w_true rfl (ws 2880 2944 (qp (AB false) rfl ?_)))))))))))))
  exact r_nil (w_ret (thenQ_r (eQ hF)))
 refine qg (.agg (K49 v0)) rfl rfl (qg (.ptr 0 0 3) rfl rfl (qg (AI v0.2.2.2.1) rfl rfl (bk hF fun u3 e3 hF => qG (AB u3) (K48 v0) (con_impl_Raga_hasTone e3) c104_ (qg (AB (!u3)) rfl rfl (qp (AB (!u3)) rfl (qp (AB (!u3)) rfl ?_))))))
 refine q_case 35 hF rfl (fun hF => qn5 (qp (AB true) rfl (qp (AB true) rfl (qn rfl (qn3 (qp (AB true) rfl (r_nil (w_true rfl (ws 2880 2944 (qp (AB false) rfl (r_nil (w_ret (thenQ_r (eQ hF)))))))))))))) fun hF => ?_
 refine qg (.agg (K49 v0)) rfl rfl (qg (.ptr 0 0 4) rfl rfl (qg (AI v0.2.2.2.2.1) rfl rfl (bk hF fun u4 e4 hF => qG (AB u4) (K48 v0) (con_impl_Raga_hasTone e4) c104_ (qg (AB (!u4)) rfl rfl (qp (AB (!u4)) rfl (qp (AB (!u4)) rfl ?_))))))
 refine q_case 42 hF rfl (fun hF => qn4 (qp (AB true) rfl (r_nil (w_true rfl (ws 2880 2944 (qp (AB false) rfl (r_nil (w_ret (thenQ_r (eQ hF)))))))))) fun hF => ?_
 refine qg (.ptr 0 0 5) rfl rfl (qg (.val none (K4a v0)) rfl rfl (qg (AI (v0.2.2.2.2.2.length : Int)) rfl (ev_len_n rfl) (qg (AB (decide ((8 : Int) < (v0.2.2.2.2.2.length : Int)))) rfl rfl (qp (AB (decide ((8 : Int) < (v0.2.2.2.2.2.length : Int)))) rfl (r_nil (cF hF (fun hF => ws 2880 2944 (qp (AB false) rfl (r_nil (w_ret (thenQ_r (eQ hF)))))) fun hF => ?_))))))
 refine w_skip (thenQ_n (w_seq (ws 2880 3136 (qp (.ptr 0 0 5) rfl (qp (.val none (K4a v0)) rfl (qp (AI (v0.2.2.2.2.2.length : Int)) (ev_len_n rfl) (qp (AI 0) rfl (r_nil (w_block ?_)))))))))
 refine w_ren (l' := [(1, .ptr 0 0 0), (49, .val none (K4a v0)), (50, AI (v0.2.2.2.2.2.length : Int)), (51, AI 0)]) (L := (K48 v0)) [1, 49, 50, 51] [(0, 0)] 1 (by first | rfl | simp) (by first | rfl | simp) (by decide) (by decide) (by decide) ?_
 refine w_loopF (F_impl_ValidRaga_l0 v0) (fun s : Int => mkS [(1, .ptr 0 0 0), (49, .val none (K4a v0)), (50, AI (v0.2.2.2.2.2.length : Int)), (51, AI s)] (fo (K48 v0)) 1) hF ?_
 rintro k1 x3 hF
 rw [F_impl_ValidRaga_l0] at hF
 try dsimp only
 refine ws 1 65 (qp (AB (decide (x3 < (v0.2.2.2.2.2.length : Int)))) rfl (r_nil (w_seq ?_)))
 refine cF hF (fun hF => ?_) fun hF => ?_
 ·
  refine w_skip (thenQ_n (w_seq (w_block (ws 65 385 (qp (AI x3) rfl (bk hF fun u23 e23 hF => qp (.val none (.ptr [.sl 1 (u23.map vI)])) (ev_iad_n rfl rfl e23 rfl) (qp (K4b u23) rfl (qp (AI x3) rfl (qp (K4b u23) rfl (r_nil (ws 385 3009 ?_)))))))))))
  refine qp (K4b u23) rfl (qp (AI (u23.length : Int)) (ev_len_n rfl) (qp (AB (decide ((u23.length : Int) ≠ (2 : Int)))) rfl (qp (AB (decide ((u23.length : Int) ≠ (2 : Int)))) rfl ?_)))
  refine q_case 59 hF rfl (fun hF => ?_) (fun hF => ?_)
  ·
   refine qn5 (qp (AB true) rfl (qp (AB true) rfl (qn rfl (qn4 (qp (AB true) rfl (qp (AB true) rfl (qn2 (qn5 (qp (AB true) rfl (qp (AB true) rfl (qn rfl ?_)))))))))))
   refine qn2 (qu rfl (qu rfl (qu rfl (qu rfl (qu rfl (qu rfl (qu rfl (qu rfl (qu rfl (qn rfl (qp (AB true) rfl (r_nil (w_true rfl ?_)))))))))))))
   exact ws 3009 3073 (qp (AB false) rfl (r_nil (w_ret (blockQ_r (thenQ_r (thenQ_r (blockQ_r (thenQ_r (eQ hF)))))))))
  refine qg (K4b u23) rfl rfl (bk hF fun u24 e24 hF => qg (.val none (.ptr [.int .i64 u24])) rfl (ev_iad_n rfl rfl e24 rfl) (qg (AI u24) rfl rfl (bk hF fun u25 e25 hF => qG (AB u25) (K48 v0) (con_impl_toneOk e25) c130_ (qg (AB (!u25)) rfl rfl (qp (AB (!u25)) rfl (qp (AB (!u25)) rfl ?_))))))
  refine q_case 66 hF rfl (fun hF => ?_) (fun hF => ?_)
  ·
   refine qn5 (qp (AB true) rfl (qp (AB true) rfl (qn rfl (qn6 (qp (AB true) rfl (qp (AB true) rfl (qn3 (qu rfl (qu rfl (qu rfl (qu rfl (qu rfl ?_))))))))))))
   refine qu rfl (qu rfl (qu rfl (qu rfl (qn rfl (qp (AB true) rfl (r_nil (w_true rfl (ws 3009 3073 (qp (AB false) rfl (r_nil (w_ret (blockQ_r (thenQ_r ?_)))))))))))))
   exact thenQ_r (blockQ_r (thenQ_r (eQ hF)))
  refine qg (K4b u23) rfl rfl (bk hF fun u26 e26 hF => qg (.val none (.ptr [.int .i64 u26])) rfl (ev_iad_n rfl rfl e26 rfl) (qg (AI u26) rfl rfl (bk hF fun u27 e27 hF => qG (AB u27) (K48 v0) (con_impl_toneOk e27) c130_ (qg (AB (!u27)) rfl rfl (qp (AB (!u27)) rfl (qp (AB (!u27)) rfl ?_))))))
  refine q_case 73 hF rfl (fun hF => ?_) (fun hF => ?_)
  ·
   refine qn7 (qp (AB true) rfl (qp (AB true) rfl (qn3 (qu rfl (qu rfl (qu rfl (qu rfl ?_)))))))
   refine qu rfl (qu rfl (qu rfl (qu rfl (qu rfl (qn rfl (qp (AB true) rfl (r_nil (w_true rfl (ws 3009 3073 (qp (AB false) rfl (r_nil (w_ret (blockQ_r ?_)))))))))))))
   exact thenQ_r (thenQ_r (blockQ_r (thenQ_r (eQ hF))))
  refine qg (K4b u23) rfl rfl (bk hF fun u28 e28 hF => qg (.val none (.ptr [.int .i64 u28])) rfl (ev_iad_n rfl rfl e28 rfl) (qg (AI u28) rfl rfl (qg (K4b u23) rfl rfl (bk hF fun u29 e29 hF => qg (.val none (.ptr [.int .i64 u29])) rfl (ev_iad_n rfl rfl e29 rfl) (qg (AI u29) rfl rfl (qg (AB (decide (u28 = u29))) rfl rfl (qp (AB (decide (u28 = u29))) rfl (qp (AB (decide (u28 = u29))) rfl ?_))))))))
  refine q_case 82 hF rfl (fun hF => ?_) (fun hF => ?_)
  ·
   refine qn3 (qu rfl (qu rfl (qu rfl (qu rfl (qu rfl (qu rfl (qu rfl (qu rfl (qu rfl (qn rfl (qp (AB true) rfl (r_nil (w_true rfl ?_)))))))))))))
   exact ws 3009 3073 (qp (AB false) rfl (r_nil (w_ret (blockQ_r (thenQ_r (thenQ_r (blockQ_r (thenQ_r (eQ hF)))))))))
  refine qg (AI x3) rfl rfl (qg (AB (decide ((0 : Int) < x3))) rfl rfl (qg (AB (decide ((0 : Int) < x3))) rfl rfl ?_))
  refine q_case 85 hF rfl (fun hF => ?_) (fun hF => ?_)
  ·
   refine qg (.ptr 0 0 5) rfl rfl (qg (.val none (K4a v0)) rfl rfl (qg (AI x3) rfl rfl (qg (AI (w64 (x3 - 1))) rfl rfl (bk hF fun u30 e30 hF => qg (.val none (.ptr [.sl 1 (u30.map vI)])) rfl (ev_iad_n rfl rfl e30 rfl) (qg (AL 1 (u30.map vI)) rfl rfl (qg (K4b u23) rfl rfl (bk hF fun u31 e31 hF => qG (AI u31) (K48 v0) (con_slices_Compare_Sint64_int64 e31) c131_ (qg (AB (decide ((0 : Int) ≤ u31))) rfl rfl (qg (AB (decide ((0 : Int) ≤ u31))) rfl rfl (qp (AB (decide ((0 : Int) ≤ u31))) rfl (r_nil ?_)))))))))))
   refine cF hF (fun hF => ws 3009 3073 (qp (AB false) rfl (r_nil (w_ret (blockQ_r (thenQ_r (thenQ_r (blockQ_r (thenQ_r (eQ hF)))))))))) fun hF => ?_
   refine w_skip (blockQ_n (thenQ_n (w_reg 3009 3137 rfl rfl (qp (AI (w64 (x3 + 1))) rfl (qp (AI (w64 (x3 + 1))) rfl (r_nil (thenQ_n ?_)))))))
   refine ar (l' := [(1, .ptr 0 0 0), (49, .val none (K4a v0)), (50, AI (v0.2.2.2.2.2.length : Int)), (51, AI (w64 (x3 + 1)))]) (L := (K48 v0)) [1, 49, 50, 51] [(0, 0)] 1 ⟨_, by rfl, hF⟩
  refine qn8 (qn rfl (qg (AB false) rfl rfl (qp (AB false) rfl (r_nil (w_false rfl (w_skip (blockQ_n (thenQ_n (w_reg 3009 3137 rfl rfl (qp (AI (w64 (x3 + 1))) rfl (qp (AI (w64 (x3 + 1))) rfl ?_)))))))))))
  refine r_nil (thenQ_n ?_)
  refine ar (l' := [(1, .ptr 0 0 0), (49, .val none (K4a v0)), (50, AI (v0.2.2.2.2.2.length : Int)), (51, AI (w64 (x3 + 1)))]) (L := (K48 v0)) [1, 49, 50, 51] [(0, 0)] 1 ⟨_, by rfl, hF⟩
 exact w_exit (thenQ_e (thenQ_e (blockQ_e (thenQ_n (ws 65 129 (qp (AB true) rfl (rR hF)))))))

def c103 : MC := (sr [pT 2 (.mv cf)] (sr [mvt 3 0, dT 4 81 [t3, (ci (-12)), (ci 23)], mvt 2 4] .ret))
theorem c103_ : IsF Tryz.prog 103 c103 [(.tmp 2)] := ⟨by kernel_rfl, by kernel_rfl⟩

def F_impl_pitchOk (v0 : Int) : Option (Bool) :=
 ((F_impl_within v0 (-12) 23).bind fun u0 => some u0)
@[simp] def res_impl_pitchOk (r : Bool) : RV := .one (.one (.val (.bool r)))
theorem con_impl_pitchOk {v0 : Int} {r : Bool} (hF : F_impl_pitchOk v0 = some r) : Con Tryz.prog 103 [.int .i64 v0] (res_impl_pitchOk r) := by
 unfold F_impl_pitchOk at hF
 refine con_of c103_.1 fun N => ?_
 exact ws 0 64 (qp (AB false) rfl (r_nil (ws 64 256 (qp (AI v0) rfl (bk hF fun u0 e0 hF => qC (AB u0) [] (con_impl_within e0) c81_ (qp (AB u0) rfl (rR hF)))))))

def c105 : MC := (sr [pT 2 (.mv (ci 0))] (sr [mvt 3 0, bT 4 .rem t3 (ci 12), bT 5 .add t4 (ci 12), bT 6 .rem t5 (ci 12), mvt 2 6] .ret))
theorem c105_ : IsF Tryz.prog 105 c105 [(.tmp 2)] := ⟨by kernel_rfl, by kernel_rfl⟩

def F_impl_ToneOf (v0 : Int) : Option (Int) :=
 some (Int.tmod (w64 ((Int.tmod v0 12) + 12)) 12)
@[simp] def res_impl_ToneOf (r : Int) : RV := .one (.one (.val (.int .i64 r)))
theorem con_impl_ToneOf {v0 : Int} {r : Int} (hF : F_impl_ToneOf v0 = some r) : Con Tryz.prog 105 [.int .i64 v0] (res_impl_ToneOf r) := by
 unfold F_impl_ToneOf at hF
 refine con_of c105_.1 fun N => ?_
 exact ws 0 64 (qp (AI 0) rfl (r_nil (ws 64 384 (qp (AI v0) rfl (qp (AI (Int.tmod v0 12)) (ev_rem rfl rfl (by decide)) (qp (AI (w64 ((Int.tmod v0 12) + 12))) rfl (qp (AI (Int.tmod (w64 ((Int.tmod v0 12) + 12)) 12)) (ev_rem rfl rfl (by decide)) (qp (AI (Int.tmod (w64 ((Int.tmod v0 12) + 12)) 12)) rfl (rR hF)))))))))

def c133 : MC := (sr [pT 2 (.mv (ci 0))] (sr [mvt 3 0, mvt 4 0, pT 5 (.neg t4), pT 6 (.mnx true t3 t5), mvt 2 6] .ret))
theorem c133_ : IsF Tryz.prog 133 c133 [(.tmp 2)] := ⟨by kernel_rfl, by kernel_rfl⟩

def F_impl_abs (v0 : Int) : Option (Int) :=
 some (if w64 (0 - v0) > v0 then w64 (0 - v0) else v0)
@[simp] def res_impl_abs (r : Int) : RV := .one (.one (.val (.int .i64 r)))
theorem con_impl_abs {v0 : Int} {r : Int} (hF : F_impl_abs v0 = some r) : Con Tryz.prog 133 [.int .i64 v0] (res_impl_abs r) := by
 unfold F_impl_abs at hF
 refine con_of c133_.1 fun N => ?_
 exact ws 0 64 (qp (AI 0) rfl (r_nil (ws 64 384 (qp (AI v0) rfl (qp (AI v0) rfl (qp (AI (w64 (0 - v0))) rfl (qp (AI (if w64 (0 - v0) > v0 then w64 (0 - v0) else v0)) rfl (qp (AI (if w64 (0 - v0) > v0 then w64 (0 - v0) else v0)) rfl (rR hF)))))))))

def c135 : MC := (sr [pT 4 (.mv cf)] (sr [mP 5 t0, jF 6 5 0 1, lF 7 6, lF 8 1, bF 9 .eql t7 t8, mP 10 t9, mT 11 10 t0, jG 12 10 11 1 1, lG 13 10 12, lG 14 10 2, bG 15 10 .eql t13 t14, pF 16 (.pick t10 t15 cf), mP 4 t16] .ret))
theorem c135_ : IsF Tryz.prog 135 c135 [(.tmp 4)] := ⟨by kernel_rfl, by kernel_rfl⟩

def F_impl_Raga_reason_1 (v0 : List Int) (v1 : Int) (v2 : Int) : Option (Bool) :=
 ((ix v0 0).bind fun u0 => (bif (decide (u0 = v1)) then ((ix v0 1).bind fun u1 => some (decide (u1 = v2)))
 else some false))
@[simp] def res_impl_Raga_reason_1 (r : Bool) : RV := .one (.one (.val (.bool r)))
theorem con_impl_Raga_reason_1 {v0 : List Int} {v1 : Int} {v2 : Int} {r : Bool} (hF : F_impl_Raga_reason_1 v0 v1 v2 = some r) : Con Tryz.prog 135 [.sl 1 (v0.map vI), .ptr [.int .i64 v1], .ptr [.int .i64 v2]] (res_impl_Raga_reason_1 r) := by
 unfold F_impl_Raga_reason_1 at hF
 refine con_of c135_.1 fun N => ?_
 refine ws 0 64 (qp (AB false) rfl (r_nil (ws 64 896 (qp (AL 1 (v0.map vI)) rfl (bk hF fun u0 e0 hF => qp (.val none (.ptr [.int .i64 u0])) (ev_iad_n rfl rfl e0 rfl) (qp (AI u0) rfl (qp (AI v1) rfl (qp (AB (decide (u0 = v1))) rfl (qp (AB (decide (u0 = v1))) rfl ?_)))))))))
 refine q_case 10 hF rfl (fun hF => qg (AL 1 (v0.map vI)) rfl rfl (bk hF fun u1 e1 hF => qg (.val none (.ptr [.int .i64 u1])) rfl (ev_iad_n rfl rfl e1 rfl) (qg (AI u1) rfl rfl (qg (AI v2) rfl rfl (qg (AB (decide (u1 = v2))) rfl rfl (qp (AB (decide (u1 = v2))) rfl (qp (AB (decide (u1 = v2))) rfl (rR hF)))))))) fun hF => ?_
 exact qn5 (qp (AB false) rfl (qp (AB false) rfl (rR hF)))

def c151 : MC := (sr [pT 4 (.mv (ci 0))] (.seq (sr [mvt 6 0, zT 7 6, pT 8 (.mv (ci 0))] (.block 0 (.loop (sr [bT 9 .lss t8 t7] (.seq (cx t9 0) (.seq (.block 1 (sr [mvt 10 8, mvt 5 10] (sr [mvt 11 1, mvt 12 0, mvt 13 5, iT 14 12 13 1, lT 15 14, rg 16 (.callv t11 [t15])] (.cond t16 (sr [mvt 17 5, mvt 4 17] .ret) .skip)))) (.reg [bT 18 .add t8 (ci 1), mvt 8 18]))))))) (sr [pT 4 (.mv (ci (-1)))] .ret)))
theorem c151_ : IsF Tryz.prog 151 c151 [(.tmp 4)] := ⟨by kernel_rfl, by kernel_rfl⟩

def F_slices_IndexFunc_SSint64_Sint64_l0 (v0 : List (List Int)) (v1 : Int) (v2 : Int) (k0 : Int → Option (Int)) : Int → Option (Int)
 | x1 => (bif (decide (x1 < (v0.length : Int))) then ((ix v0 x1).bind fun u0 => ((F_impl_Raga_reason_1 u0 v1 v2).bind fun u1 => (bif u1 then some x1
 else k0 (w64 (x1 + 1)))))
 else some (-1))
def F_slices_IndexFunc_SSint64_Sint64 (v0 : List (List Int)) (v1 : Int) (v2 : Int) : Option (Int) :=
 loop (F_slices_IndexFunc_SSint64_Sint64_l0 v0 v1 v2) 0
@[simp] abbrev K4c (v1 : Int) (v2 : Int) : Nat × AV := (1, .val none (.fn 135 [.ptr [.int .i64 v1], .ptr [.int .i64 v2]]))
@[simp] abbrev K4d (v0 : List (List Int)) : V := .sl 1 (v0.map (eL 1 vI))
@[simp] def res_slices_IndexFunc_SSint64_Sint64 (r : Int) : RV := .one (.one (.val (.int .i64 r)))
theorem con_slices_IndexFunc_SSint64_Sint64 {v0 : List (List Int)} {v1 : Int} {v2 : Int} {r : Int} (hF : F_slices_IndexFunc_SSint64_Sint64 v0 v1 v2 = some r) : Con Tryz.prog 151 [.sl 1 (v0.map (eL 1 vI)), .fn 135 [.ptr [.int .i64 v1], .ptr [.int .i64 v2]]] (res_slices_IndexFunc_SSint64_Sint64 r) := by
 unfold F_slices_IndexFunc_SSint64_Sint64 at hF
 refine con_of c151_.1 fun N => ?_
 refine ws 0 64 (qp (AI 0) rfl (r_nil (w_seq (ws 64 256 (qp (.val none (K4d v0)) rfl (qp (AI (v0.length : Int)) (ev_len_n rfl) (qp (AI 0) rfl (r_nil (w_block ?_)))))))))
 refine wr (l' := [(0, .val none (K4d v0)), (K4c v1 v2), (7, AI (v0.length : Int)), (8, AI 0)]) (L := []) [0, 1, 7, 8] [] 1 ?_
 refine w_loopF (F_slices_IndexFunc_SSint64_Sint64_l0 v0 v1 v2) (fun s : Int => mkS [(0, .val none (K4d v0)), (K4c v1 v2), (7, AI (v0.length : Int)), (8, AI s)] (fo []) 1) hF ?_
 rintro k0 x1 hF
 rw [F_slices_IndexFunc_SSint64_Sint64_l0] at hF
 try dsimp only
 refine ws 1 65 (qp (AB (decide (x1 < (v0.length : Int)))) rfl (r_nil (w_seq ?_)))
 refine cF hF (fun hF => ?_) fun hF => ?_
 ·
  refine w_skip (thenQ_n (w_seq (w_block (ws 65 193 (qp (AI x1) rfl (qp (AI x1) rfl (r_nil (ws 193 577 (qp (.val none (.fn 135 [.ptr [.int .i64 v1], .ptr [.int .i64 v2]])) rfl (qp (.val none (K4d v0)) rfl (qp (AI x1) rfl (bk hF fun u0 e0 hF => qp (.val none (.ptr [.sl 1 (u0.map vI)])) (ev_iad_n rfl rfl e0 rfl) (qp (AL 1 (u0.map vI)) rfl (bk hF fun u1 e1 hF => qcv (AB u1) [] false rfl (con_impl_Raga_reason_1 e1) c135_.2 (by first | rfl | simp) rfl (r_nil ?_)))))))))))))))
  refine cF hF (fun hF => ws 577 705 (qp (AI x1) rfl (qp (AI x1) rfl (r_nil (w_ret (blockQ_r (thenQ_r (thenQ_r (blockQ_r (thenQ_r (eQ hF))))))))))) fun hF => ?_
  refine w_skip (blockQ_n (thenQ_n (w_reg 577 705 rfl rfl (qp (AI (w64 (x1 + 1))) rfl (qp (AI (w64 (x1 + 1))) rfl (r_nil (thenQ_n ?_)))))))
  refine ar (l' := [(0, .val none (K4d v0)), (K4c v1 v2), (7, AI (v0.length : Int)), (8, AI (w64 (x1 + 1)))]) (L := []) [0, 1, 7, 8] [] 1 ⟨_, by rfl, hF⟩
 exact w_exit (thenQ_e (thenQ_e (blockQ_e (thenQ_n (ws 65 129 (qp (AI (-1)) rfl (rR hF)))))))

def c134 : MC := (sr [pT 4 (.mv cf)] (sr [mvt 5 0, mvt 6 1, dT 7 151 [t5, t6], bT 8 .geq t7 (ci 0), mvt 4 8] .ret))
theorem c134_ : IsF Tryz.prog 134 c134 [(.tmp 4)] := ⟨by kernel_rfl, by kernel_rfl⟩

def F_slices_ContainsFunc_SSint64_Sint64 (v0 : List (List Int)) (v1 : Int) (v2 : Int) : Option (Bool) :=
 ((F_slices_IndexFunc_SSint64_Sint64 v0 v1 v2).bind fun u0 => some (decide ((0 : Int) ≤ u0)))
@[simp] def res_slices_ContainsFunc_SSint64_Sint64 (r : Bool) : RV := .one (.one (.val (.bool r)))
theorem con_slices_ContainsFunc_SSint64_Sint64 {v0 : List (List Int)} {v1 : Int} {v2 : Int} {r : Bool} (hF : F_slices_ContainsFunc_SSint64_Sint64 v0 v1 v2 = some r) : Con Tryz.prog 134 [.sl 1 (v0.map (eL 1 vI)), .fn 135 [.ptr [.int .i64 v1], .ptr [.int .i64 v2]]] (res_slices_ContainsFunc_SSint64_Sint64 r) := by
 unfold F_slices_ContainsFunc_SSint64_Sint64 at hF
 refine con_of c134_.1 fun N => ?_
 exact ws 0 64 (qp (AB false) rfl (r_nil (ws 64 384 (qp (AL 1 (v0.map (eL 1 vI))) rfl (qp (.val none (.fn 135 [.ptr [.int .i64 v1], .ptr [.int .i64 v2]])) rfl (bk hF fun u0 e0 hF => qC (AI u0) [] (con_slices_IndexFunc_SSint64_Sint64 e0) c151_ (qp (AB (decide ((0 : Int) ≤ u0))) rfl (qp (AB (decide ((0 : Int) ≤ u0))) rfl (rR hF)))))))))

end Go.Ab
