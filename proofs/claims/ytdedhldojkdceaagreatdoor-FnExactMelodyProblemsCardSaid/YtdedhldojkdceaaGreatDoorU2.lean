/- Walks (printed by auto.py, a program of this session's own). -/
import Derived.Test.YtdedhldojkdceaaGreatDoorU1
import Derived.Test.YtdedhldojkdceaaGreatDoorProg
import Derived.KernelRfl
import Derived.Test.YtdedhldojkdceaaGreatDoorSQ
set_option linter.unusedVariables false
set_option linter.unusedSimpArgs false
set_option maxRecDepth 8000
set_option maxHeartbeats 8000000
noncomputable section
namespace Go.Ab
open Go.RowKit Go.Proofs

def c68 : MC := (sr [pT 2 (.mv cf)] (.seq (sr [mP 4 t0, pF 5 (.nck t4), pF 6 (.fad t5 0), dF 7 109 [t6], pF 8 (.not t7), mP 9 t8, mF 10 9 t0, gF 11 9 (.nck t10), gF 12 9 (.fad t11 6), lH 13 9 12, ⟨(some 14), (some (9, false)), (.call false 92 [t13])⟩, gF 15 9 (.not t14), pF 16 (.pick t9 ct t15), mP 17 t16, mF 18 17 t0, gF 19 17 (.nck t18), gF 20 17 (.fad t19 7), lH 21 17 20, mF 22 17 t0, gF 23 17 (.nck t22), gF 24 17 (.fad t23 6), lH 25 17 24, ⟨(some 26), (some (17, false)), (.call false 110 [t21, t25, (ci 23)])⟩, gF 27 17 (.not t26), pF 28 (.pick t17 ct t27), mP 29 t28, mF 30 29 t0, gF 31 29 (.nck t30), gF 32 29 (.fad t31 8), lH 33 29 32, ⟨(some 34), (some (29, false)), (.call false 57 [t33])⟩, gF 35 29 (.not t34), pF 36 (.pick t29 ct t35), mP 37 t36, mF 38 37 t0, gF 39 37 (.nck t38), gF 40 37 (.fad t39 17), lH 41 37 40, ⟨(some 42), (some (37, false)), (.call false 111 [t41])⟩, gF 43 37 (.not t42), pF 44 (.pick t37 ct t43)] (.cond t44 (sr [pT 2 (.mv cf)] .ret) .skip)) (sr [mP 45 t0, pF 46 (.nck t45), pF 47 (.fad t46 0), mP 48 t0, pF 49 (.nck t48), pF 50 (.fad t49 6), lF 51 50, mP 52 t0, pF 53 (.nck t52), pF 54 (.fad t53 7), lF 55 54, dF 56 112 [t47, t51, t55], rg 3 (.f (.alloc [((.int .i64 0), (0, false)), ((.int .i64 0), (0, false)), ((.sl 0 []), (1, false)), ((.sl 0 []), (3, false))])), ⟨none, none, (.f (.st t3 t56 4))⟩] (sr [dF 57 113 [t3], mP 58 t57, mT 59 58 t0, gT 60 58 (.nck t59), gT 61 58 (.fad t60 9), mT 62 58 t0, gT 63 58 (.nck t62), gT 64 58 (.fad t63 12), lG 65 58 64, mT 66 58 t0, gT 67 58 (.nck t66), gT 68 58 (.fad t67 14), lG 69 58 68, ⟨(some 70), (some (58, true)), (.call false 114 [t61, t65, t69])⟩, bG 71 58 .eql t70 (ci 0), pF 72 (.pick t58 t71 cf), mP 73 t72, mT 74 73 t0, gT 75 73 (.nck t74), gT 76 73 (.fad t75 15), lG 77 73 76, ⟨(some 78), (some (73, true)), (.call false 115 [t77])⟩, pF 79 (.pick t73 t78 cf), mP 80 t79, mT 81 80 t0, gT 82 80 (.nck t81), gT 83 80 (.fad t82 16), lG 84 80 83, ⟨(some 85), (some (80, true)), (.call false 116 [t84])⟩, pF 86 (.pick t80 t85 cf), mP 2 t86] .ret))))
theorem c68_ : IsF Tryz.prog 68 c68 [(.tmp 2)] := ⟨by kernel_rfl, by kernel_rfl⟩

def F_spec_l31Ok (v0 : TWork) : Option (Bool) :=
 ((F_spec_l05Ok (v0.1, v0.2.1, v0.2.2.1, v0.2.2.2.1, v0.2.2.2.2.1, v0.2.2.2.2.2.1)).bind fun u0 => (bif (!u0) then some false
 else ((F_spec_l03Pitch v0.2.2.2.2.2.2.1).bind fun u1 => (bif (!u1) then some false
 else ((F_spec_l00In v0.2.2.2.2.2.2.2.1 v0.2.2.2.2.2.2.1 23).bind fun u2 => (bif (!u2) then some false
 else ((F_spec_l09Ok v0.2.2.2.2.2.2.2.2.1).bind fun u3 => (bif (!u3) then some false
 else ((F_spec_l23Ok v0.2.2.2.2.2.2.2.2.2.2.2.2.2.2.2.2.2).bind fun u4 => (bif (!u4) then some false
 else ((F_spec_l07Of (v0.1, v0.2.1, v0.2.2.1, v0.2.2.2.1, v0.2.2.2.2.1, v0.2.2.2.2.2.1) v0.2.2.2.2.2.2.1 v0.2.2.2.2.2.2.2.1).bind fun u5 => ((F_spec_l07Ok u5).bind fun u6 => (bif u6 then ((F_spec_l19Start (v0.2.2.2.2.2.2.2.2.2.1, v0.2.2.2.2.2.2.2.2.2.2.1, v0.2.2.2.2.2.2.2.2.2.2.2.1) v0.2.2.2.2.2.2.2.2.2.2.2.2.1 v0.2.2.2.2.2.2.2.2.2.2.2.2.2.2.1).bind fun u7 => (bif (decide (u7 = (0 : Int))) then ((F_spec_l19Phrase v0.2.2.2.2.2.2.2.2.2.2.2.2.2.2.2.1).bind fun u8 => (bif u8 then ((F_spec_l19Gap v0.2.2.2.2.2.2.2.2.2.2.2.2.2.2.2.2.1).bind fun u9 => some u9)
 else some false))
 else some false))
 else some false)))))))))))))
@[simp] abbrev K38 (u5 : TGrammar) : List (Nat × Root) := [(3395, .row true 3 (u5.2.2.2.map eArc)), (3394, .row true 1 (u5.2.2.1.map vI))]
@[simp] abbrev K39 (u5 : TGrammar) : List (Nat × Root) := ((3456, .box [AI 0, AI 0, .sl 3457 0 0, .sl 3458 0 0]) :: (3458, .row true 3 (([] : List Int).map vI)) :: (3457, .row true 1 (([] : List Int).map vI)) :: (K38 u5))
@[simp] abbrev K3a (u5 : TGrammar) : List (Nat × Root) := ((3456, .box [AI u5.1, AI u5.2.1, .sl 3394 0 u5.2.2.1.length, .sl 3395 0 u5.2.2.2.length]) :: (K39 u5))
@[simp] abbrev K3b (v0 : TWork) : AV := .val none (.ptr [.str v0.1, .sl 1 (v0.2.1.map vI), .sl 1 (v0.2.2.1.map vI), .int .i64 v0.2.2.2.1, .int .i64 v0.2.2.2.2.1, .sl 1 (v0.2.2.2.2.2.1.map (eL 1 vI)), .int .i64 v0.2.2.2.2.2.2.1, .int .i64 v0.2.2.2.2.2.2.2.1, .sl 2 (v0.2.2.2.2.2.2.2.2.1.map eNote), .str v0.2.2.2.2.2.2.2.2.2.1, .sl 1 (v0.2.2.2.2.2.2.2.2.2.2.1.map vI), .sl 1 (v0.2.2.2.2.2.2.2.2.2.2.2.1.map vI), .int .i64 v0.2.2.2.2.2.2.2.2.2.2.2.2.1, .str v0.2.2.2.2.2.2.2.2.2.2.2.2.2.1, .int .i64 v0.2.2.2.2.2.2.2.2.2.2.2.2.2.2.1, .int .i64 v0.2.2.2.2.2.2.2.2.2.2.2.2.2.2.2.1, .int .i64 v0.2.2.2.2.2.2.2.2.2.2.2.2.2.2.2.2.1, .sl 3 (v0.2.2.2.2.2.2.2.2.2.2.2.2.2.2.2.2.2.map eTurn)])
@[simp] abbrev K3c (v0 : TWork) : List V := [.int .i64 v0.2.2.2.2.2.2.1, .int .i64 v0.2.2.2.2.2.2.2.1, .sl 2 (v0.2.2.2.2.2.2.2.2.1.map eNote), .str v0.2.2.2.2.2.2.2.2.2.1, .sl 1 (v0.2.2.2.2.2.2.2.2.2.2.1.map vI), .sl 1 (v0.2.2.2.2.2.2.2.2.2.2.2.1.map vI), .int .i64 v0.2.2.2.2.2.2.2.2.2.2.2.2.1, .str v0.2.2.2.2.2.2.2.2.2.2.2.2.2.1, .int .i64 v0.2.2.2.2.2.2.2.2.2.2.2.2.2.2.1, .int .i64 v0.2.2.2.2.2.2.2.2.2.2.2.2.2.2.2.1, .int .i64 v0.2.2.2.2.2.2.2.2.2.2.2.2.2.2.2.2.1, .sl 3 (v0.2.2.2.2.2.2.2.2.2.2.2.2.2.2.2.2.2.map eTurn)]
@[simp] abbrev K3d (v0 : TWork) : AV := .val none (.ptr [.int .i64 v0.2.2.2.2.2.2.2.1, .sl 2 (v0.2.2.2.2.2.2.2.2.1.map eNote), .str v0.2.2.2.2.2.2.2.2.2.1, .sl 1 (v0.2.2.2.2.2.2.2.2.2.2.1.map vI), .sl 1 (v0.2.2.2.2.2.2.2.2.2.2.2.1.map vI), .int .i64 v0.2.2.2.2.2.2.2.2.2.2.2.2.1, .str v0.2.2.2.2.2.2.2.2.2.2.2.2.2.1, .int .i64 v0.2.2.2.2.2.2.2.2.2.2.2.2.2.2.1, .int .i64 v0.2.2.2.2.2.2.2.2.2.2.2.2.2.2.2.1, .int .i64 v0.2.2.2.2.2.2.2.2.2.2.2.2.2.2.2.2.1, .sl 3 (v0.2.2.2.2.2.2.2.2.2.2.2.2.2.2.2.2.2.map eTurn)])
@[simp] abbrev K3e (v0 : TWork) : List V := [.int .i64 v0.2.2.2.2.2.2.2.2.2.2.2.2.1, .str v0.2.2.2.2.2.2.2.2.2.2.2.2.2.1, .int .i64 v0.2.2.2.2.2.2.2.2.2.2.2.2.2.2.1, .int .i64 v0.2.2.2.2.2.2.2.2.2.2.2.2.2.2.2.1, .int .i64 v0.2.2.2.2.2.2.2.2.2.2.2.2.2.2.2.2.1, .sl 3 (v0.2.2.2.2.2.2.2.2.2.2.2.2.2.2.2.2.2.map eTurn)]
@[simp] def res_spec_l31Ok (r : Bool) : RV := .one (.one (.val (.bool r)))
theorem con_spec_l31Ok {v0 : TWork} {r : Bool} (hF : F_spec_l31Ok v0 = some r) : Con Tryz.prog 68 [.ptr [.str v0.1, .sl 1 (v0.2.1.map vI), .sl 1 (v0.2.2.1.map vI), .int .i64 v0.2.2.2.1, .int .i64 v0.2.2.2.2.1, .sl 1 (v0.2.2.2.2.2.1.map (eL 1 vI)), .int .i64 v0.2.2.2.2.2.2.1, .int .i64 v0.2.2.2.2.2.2.2.1, .sl 2 (v0.2.2.2.2.2.2.2.2.1.map eNote), .str v0.2.2.2.2.2.2.2.2.2.1, .sl 1 (v0.2.2.2.2.2.2.2.2.2.2.1.map vI), .sl 1 (v0.2.2.2.2.2.2.2.2.2.2.2.1.map vI), .int .i64 v0.2.2.2.2.2.2.2.2.2.2.2.2.1, .str v0.2.2.2.2.2.2.2.2.2.2.2.2.2.1, .int .i64 v0.2.2.2.2.2.2.2.2.2.2.2.2.2.2.1, .int .i64 v0.2.2.2.2.2.2.2.2.2.2.2.2.2.2.2.1, .int .i64 v0.2.2.2.2.2.2.2.2.2.2.2.2.2.2.2.2.1, .sl 3 (v0.2.2.2.2.2.2.2.2.2.2.2.2.2.2.2.2.2.map eTurn)]] (res_spec_l31Ok r) := by
 unfold F_spec_l31Ok at hF
 refine con_of c68_.1 fun N => ?_
 refine ws 0 64 (qp (AB false) rfl (r_nil (w_seq (ws 64 2688 (qp (K3b v0) rfl (qp (K3b v0) rfl (qp (K3b v0) rfl (bk hF fun u0 e0 hF => qC (AB u0) [] (con_pre0 (K3c v0) (con_spec_l05Ok e0)) c109_ (qp (AB (!u0)) rfl (qp (AB (!u0)) rfl ?_))))))))))
 refine q_case 9 hF rfl (fun hF => ?_) (fun hF => ?_)
 ·
  refine qn6 (qp (AB true) rfl (qp (AB true) rfl (qn8 (qn2 (qp (AB true) rfl (qp (AB true) rfl (qn4 (qn2 (qp (AB true) rfl (qp (AB true) rfl (qn4 (qn2 (qp (AB true) rfl ?_)))))))))))))
  exact r_nil (w_true rfl (ws 2688 2752 (qp (AB false) rfl (r_nil (w_ret (thenQ_r (eQ hF)))))))
 refine qg (K3b v0) rfl rfl (qg (K3b v0) rfl rfl (qg (.val none (.ptr (K3c v0))) rfl rfl (qg (AI v0.2.2.2.2.2.2.1) rfl rfl (bk hF fun u1 e1 hF => qG (AB u1) [] (con_spec_l03Pitch e1) c92_ (qg (AB (!u1)) rfl rfl (qp (AB (!u1)) rfl (qp (AB (!u1)) rfl ?_)))))))
 refine q_case 17 hF rfl (fun hF => ?_) (fun hF => ?_)
 ·
  refine qn8 (qn2 (qp (AB true) rfl (qp (AB true) rfl (qn4 (qn2 (qp (AB true) rfl (qp (AB true) rfl (qn4 (qn2 (qp (AB true) rfl (r_nil (w_true rfl (ws 2688 2752 ?_)))))))))))))
  exact qp (AB false) rfl (r_nil (w_ret (thenQ_r (eQ hF))))
 refine qg (K3b v0) rfl rfl (qg (K3b v0) rfl rfl (qg (K3d v0) rfl rfl (qg (AI v0.2.2.2.2.2.2.2.1) rfl rfl (qg (K3b v0) rfl rfl (qg (K3b v0) rfl rfl (qg (.val none (.ptr (K3c v0))) rfl rfl (qg (AI v0.2.2.2.2.2.2.1) rfl rfl (bk hF fun u2 e2 hF => qG (AB u2) [] (con_spec_l00In e2) c110_ (qg (AB (!u2)) rfl rfl (qp (AB (!u2)) rfl (qp (AB (!u2)) rfl ?_)))))))))))
 refine q_case 29 hF rfl (fun hF => qn6 (qp (AB true) rfl (qp (AB true) rfl (qn6 (qp (AB true) rfl (r_nil (w_true rfl (ws 2688 2752 (qp (AB false) rfl (r_nil (w_ret (thenQ_r (eQ hF))))))))))))) fun hF => ?_
 refine qg (K3b v0) rfl rfl (qg (K3b v0) rfl rfl (qg (.val none (.ptr [.sl 2 (v0.2.2.2.2.2.2.2.2.1.map eNote), .str v0.2.2.2.2.2.2.2.2.2.1, .sl 1 (v0.2.2.2.2.2.2.2.2.2.2.1.map vI), .sl 1 (v0.2.2.2.2.2.2.2.2.2.2.2.1.map vI), .int .i64 v0.2.2.2.2.2.2.2.2.2.2.2.2.1, .str v0.2.2.2.2.2.2.2.2.2.2.2.2.2.1, .int .i64 v0.2.2.2.2.2.2.2.2.2.2.2.2.2.2.1, .int .i64 v0.2.2.2.2.2.2.2.2.2.2.2.2.2.2.2.1, .int .i64 v0.2.2.2.2.2.2.2.2.2.2.2.2.2.2.2.2.1, .sl 3 (v0.2.2.2.2.2.2.2.2.2.2.2.2.2.2.2.2.2.map eTurn)])) rfl rfl (qg (AL 2 (v0.2.2.2.2.2.2.2.2.1.map eNote)) rfl rfl (bk hF fun u3 e3 hF => qG (AB u3) [] (con_spec_l09Ok e3) c57_ (qg (AB (!u3)) rfl rfl (qp (AB (!u3)) rfl (qp (AB (!u3)) rfl ?_)))))))
 refine q_case 37 hF rfl (fun hF => qn6 (qp (AB true) rfl (r_nil (w_true rfl (ws 2688 2752 (qp (AB false) rfl (r_nil (w_ret (thenQ_r (eQ hF)))))))))) fun hF => ?_
 refine qg (K3b v0) rfl rfl (qg (K3b v0) rfl rfl (qg (.val none (.ptr [.sl 3 (v0.2.2.2.2.2.2.2.2.2.2.2.2.2.2.2.2.2.map eTurn)])) rfl rfl (qg (AL 3 (v0.2.2.2.2.2.2.2.2.2.2.2.2.2.2.2.2.2.map eTurn)) rfl rfl (bk hF fun u4 e4 hF => qG (AB u4) [] (con_spec_l23Ok e4) c111_ (qg (AB (!u4)) rfl rfl (qp (AB (!u4)) rfl (r_nil (cF hF (fun hF => ws 2688 2752 (qp (AB false) rfl (r_nil (w_ret (thenQ_r (eQ hF)))))) fun hF => ?_))))))))
 refine w_skip (thenQ_n (ws 2688 3584 (qp (K3b v0) rfl (qp (K3b v0) rfl (qp (K3b v0) rfl (qp (K3b v0) rfl (qp (K3b v0) rfl (qp (.val none (.ptr (K3c v0))) rfl (qp (AI v0.2.2.2.2.2.2.1) rfl (qp (K3b v0) rfl (qp (K3b v0) rfl (qp (K3d v0) rfl (qp (AI v0.2.2.2.2.2.2.2.1) rfl (bk hF fun u5 e5 hF => ?_))))))))))))))
 refine qc (.agg [AI u5.1, AI u5.2.1, .sl 3394 0 u5.2.2.1.length, .sl 3395 0 u5.2.2.2.length]) (K38 u5) false (con_pre0 (K3c v0) (con_spec_l07Of e5)) c112_.2 (by first | rfl | simp) (by simp [res_spec_l07Of]) (qf (.ptr 3456 0 0) (K39 u5) (by simp) (qf0 (.undef) (K3a u5) (by simp) (r_nil (ws 3584 5568 (bk hF fun u6 e6 hF => qc (AB u6) (K3a u5) true (con_spec_l07Ok e6) c113_.2 (by simp [List.take_of_length_le]) rfl (qp (AB u6) rfl ?_))))))
 refine q_case 58 hF rfl (fun hF => ?_) (fun hF => ?_)
 ·
  refine qg (K3b v0) rfl rfl (qg (K3b v0) rfl rfl (qg (.val none (.ptr [.str v0.2.2.2.2.2.2.2.2.2.1, .sl 1 (v0.2.2.2.2.2.2.2.2.2.2.1.map vI), .sl 1 (v0.2.2.2.2.2.2.2.2.2.2.2.1.map vI), .int .i64 v0.2.2.2.2.2.2.2.2.2.2.2.2.1, .str v0.2.2.2.2.2.2.2.2.2.2.2.2.2.1, .int .i64 v0.2.2.2.2.2.2.2.2.2.2.2.2.2.2.1, .int .i64 v0.2.2.2.2.2.2.2.2.2.2.2.2.2.2.2.1, .int .i64 v0.2.2.2.2.2.2.2.2.2.2.2.2.2.2.2.2.1, .sl 3 (v0.2.2.2.2.2.2.2.2.2.2.2.2.2.2.2.2.2.map eTurn)])) rfl rfl (qg (K3b v0) rfl rfl (qg (K3b v0) rfl rfl (qg (.val none (.ptr (K3e v0))) rfl rfl (qg (AI v0.2.2.2.2.2.2.2.2.2.2.2.2.1) rfl rfl (qg (K3b v0) rfl rfl (qg (K3b v0) rfl rfl (qg (.val none (.ptr [.int .i64 v0.2.2.2.2.2.2.2.2.2.2.2.2.2.2.1, .int .i64 v0.2.2.2.2.2.2.2.2.2.2.2.2.2.2.2.1, .int .i64 v0.2.2.2.2.2.2.2.2.2.2.2.2.2.2.2.2.1, .sl 3 (v0.2.2.2.2.2.2.2.2.2.2.2.2.2.2.2.2.2.map eTurn)])) rfl rfl (qg (AI v0.2.2.2.2.2.2.2.2.2.2.2.2.2.2.1) rfl rfl (bk hF fun u7 e7 hF => qG (AI u7) (K3a u5) (con_pre0 (K3e v0) (con_spec_l19Start e7)) c114_ (qg (AB (decide (u7 = (0 : Int)))) rfl rfl (qp (AB (decide (u7 = (0 : Int)))) rfl (qp (AB (decide (u7 = (0 : Int)))) rfl ?_))))))))))))))
  refine q_case 73 hF rfl (fun hF => ?_) (fun hF => ?_)
  ·
   refine qg (K3b v0) rfl rfl (qg (K3b v0) rfl rfl (qg (.val none (.ptr [.int .i64 v0.2.2.2.2.2.2.2.2.2.2.2.2.2.2.2.1, .int .i64 v0.2.2.2.2.2.2.2.2.2.2.2.2.2.2.2.2.1, .sl 3 (v0.2.2.2.2.2.2.2.2.2.2.2.2.2.2.2.2.2.map eTurn)])) rfl rfl (qg (AI v0.2.2.2.2.2.2.2.2.2.2.2.2.2.2.2.1) rfl rfl (bk hF fun u8 e8 hF => qG (AB u8) (K3a u5) (con_spec_l19Phrase e8) c115_ (qp (AB u8) rfl (qp (AB u8) rfl (q_case 80 hF rfl (fun hF => qg (K3b v0) rfl rfl (qg (K3b v0) rfl rfl (qg (.val none (.ptr [.int .i64 v0.2.2.2.2.2.2.2.2.2.2.2.2.2.2.2.2.1, .sl 3 (v0.2.2.2.2.2.2.2.2.2.2.2.2.2.2.2.2.2.map eTurn)])) rfl rfl (qg (AI v0.2.2.2.2.2.2.2.2.2.2.2.2.2.2.2.2.1) rfl rfl (bk hF fun u9 e9 hF => qG (AB u9) (K3a u5) (con_spec_l19Gap e9) c116_ (qp (AB u9) rfl (qp (AB u9) rfl (rR hF)))))))) fun hF => ?_)))))))
   exact qn5 (qp (AB false) rfl (qp (AB false) rfl (rR hF)))
  exact qn5 (qp (AB false) rfl (qp (AB false) rfl (qn rfl (qn4 (qp (AB false) rfl (qp (AB false) rfl (rR hF)))))))
 exact qn8 (qn5 (qp (AB false) rfl (qp (AB false) rfl (qn rfl (qn4 (qp (AB false) rfl (qp (AB false) rfl (qn2 (qn3 (qp (AB false) rfl (qp (AB false) rfl (rR hF))))))))))))

def c117 : MC := (sr [rg 2 (.f (.nilrow 1))] (sr [rg 5 (.f (.bsl 1 [])), mvt 3 5] (.seq (sr [pT 4 (.mv (ci 0))] (.block 0 (.loop (.seq (sr [mvt 6 4, mvt 7 0, zT 8 7, bT 9 .lss t6 t8] (cx t9 0)) (.seq (.block 1 (.reg [mvt 12 3, mvt 13 0, mvt 14 4, iT 15 13 14 2, pT 16 (.fad t15 0), lT 17 16, rg 18 (.f (.bsl 1 [t17])), rg 19 (.f (.app t12 t18 1 8 true)), mvt 3 19])) (.reg [mvt 10 4, bT 11 .add t10 (ci 1), mvt 4 11])))))) (sr [mvt 20 3, mvt 2 20] .ret))))
theorem c117_ : IsF Tryz.prog 117 c117 [(.tmp 2)] := ⟨by kernel_rfl, by kernel_rfl⟩

def F_spec_l09Pitches_l0 (v0 : List TNote) (k0 : Int × (List Int) → Option (List Int)) : Int × (List Int) → Option (List Int)
 | (x2, x3) => (bif (decide (x2 < (v0.length : Int))) then ((ix v0 x2).bind fun u0 => (need (room (x3.length + [u0.1].length) 8) (k0 (w64 (x2 + 1), x3 ++ [u0.1]))))
 else some x3)
def F_spec_l09Pitches (v0 : List TNote) : Option (List Int) :=
 loop (F_spec_l09Pitches_l0 v0) (0, [])
@[simp] abbrev K3f : List (Nat × Root) := [(0, .row true 1 (([] : List Int).map vI))]
@[simp] abbrev K3g (u0 : TNote) (x3 : List Int) : List (Nat × Root) := [(641, .row true 1 ([u0.1].map vI)), (0, .row true 1 (x3.map vI))]
@[simp] def res_spec_l09Pitches (r : List Int) : RV := .one (.one (.row true 1 (r.map vI)))
theorem con_spec_l09Pitches {v0 : List TNote} {r : List Int} (hF : F_spec_l09Pitches v0 = some r) : Con Tryz.prog 117 [.sl 2 (v0.map eNote)] (res_spec_l09Pitches r) := by
 unfold F_spec_l09Pitches at hF
 refine con_of c117_.1 fun N => ?_
 refine ws 0 64 (qf (.sl 0 0 0) K3f (by simp) (r_nil (ws 64 192 (qf (.sl 64 0 0) ((64, .row true 1 (([] : List Int).map vI)) :: K3f) (by simp [List.take_of_length_le]) (qp (.sl 64 0 0) rfl (r_nil (w_seq (ws 192 256 (qp (AI 0) rfl (r_nil (w_block ?_)))))))))))
 refine w_ren (l' := [(0, AL 2 (v0.map eNote)), (3, .sl 0 0 0), (4, AI 0)]) (L := K3f) [0, 3, 4] [(64, 0)] 1 (by first | rfl | simp) (by first | rfl | simp) (by decide) (by decide) (by decide) ?_
 refine w_loopF (F_spec_l09Pitches_l0 v0) (fun s : Int × (List Int) => mkS [(0, AL 2 (v0.map eNote)), (3, .sl 0 0 s.2.length), (4, AI s.1)] (fo [(0, .row true 1 (s.2.map vI))]) 1) hF ?_
 rintro k0 ⟨x2, x3⟩ hF
 rw [F_spec_l09Pitches_l0] at hF
 try dsimp only
 refine w_seq (ws 1 257 (qp (AI x2) rfl (qp (AL 2 (v0.map eNote)) rfl (qp (AI (v0.length : Int)) (ev_len_n rfl) (qp (AB (decide (x2 < (v0.length : Int)))) rfl (r_nil ?_))))))
 refine cF hF (fun hF => ?_) fun hF => ?_
 ·
  refine w_skip (thenQ_n (w_seq (w_block (w_reg 257 833 rfl rfl (qp (.sl 0 0 x3.length) rfl (qp (AL 2 (v0.map eNote)) rfl (qp (AI x2) rfl (bk hF fun u0 e0 hF => qp (.val none (.ptr [.int .i64 u0.1, .int .i64 u0.2])) (ev_iad_n rfl rfl e0 rfl) (qp (.val none (.ptr [.int .i64 u0.1, .int .i64 u0.2])) rfl (qp (AI u0.1) rfl (qf (.sl 641 0 ([u0.1].length)) (K3g u0 x3) (by simp [List.take_of_length_le]) (nk hF fun g1 hF => qf (.sl 705 0 ((x3 ++ [u0.1]).length)) ((705, .row true 1 ((x3 ++ [u0.1]).map vI)) :: (0, .dead) :: (641, .dead) :: (K3g u0 x3)) (effT_app_l rfl (by simp) rfl rfl (by simp) rfl (by decide) g1 rfl) (qp (.sl 705 0 ((x3 ++ [u0.1]).length)) rfl (r_nil (blockQ_n ?_)))))))))))))))
  refine thenQ_n (w_reg 833 1025 rfl rfl (qp (AI x2) rfl (qp (AI (w64 (x2 + 1))) rfl (qp (AI (w64 (x2 + 1))) rfl (r_nil (thenQ_n ?_))))))
  refine ar (l' := [(0, AL 2 (v0.map eNote)), (3, .sl 0 0 (x3 ++ [u0.1]).length), (4, AI (w64 (x2 + 1)))]) (L := [(0, .row true 1 ((x3 ++ [u0.1]).map vI))]) [0, 3, 4] [(705, 0)] 1 ⟨_, by rfl, hF⟩
 exact w_exit (thenQ_e (thenQ_e (blockQ_e (thenQ_n (ws 257 385 (qp (.sl 0 0 x3.length) rfl (qp (.sl 0 0 x3.length) rfl (rR hF))))))))

def c118 : MC := (sr [pT 4 (.mv (ci 0)), pT 5 (.mv (ci 0))] (.seq (sr [pT 6 (.mv (ci 0))] (.block 0 (.loop (.seq (sr [mvt 8 6, mvt 9 1, zT 10 9, bT 11 .lss t8 t10] (cx t11 0)) (.seq (.block 1 (sr [pT 7 (.mv (ci 0))] (.seq (sr [mvt 14 6, bT 15 .gtr t14 (ci 0)] (.cond t15 (.reg [mP 16 t0, mP 17 t1, mP 18 t6, bF 19 .sub t18 (ci 1), iF 20 17 19 1, lF 21 20, mP 22 t1, mP 23 t6, iF 24 22 23 1, lF 25 24, dF 26 168 [t16, t21, t25], mP 7 t26]) (sr [mvt 27 0, mvt 28 1, jT 29 28 0 1, lT 30 29, dT 31 167 [t30], dT 32 163 [t27, t31], pT 33 (.not t32)] (.cond t33 (.reg [pT 7 (.mv (ci 1))]) .skip)))) (sr [mvt 34 7, bT 35 .gtr t34 (ci 0)] (.cond t35 (sr [mvt 36 6, mvt 37 7, mvt 4 36, mvt 5 37] .ret) .skip))))) (.reg [mvt 12 6, bT 13 .add t12 (ci 1), mvt 6 13])))))) (sr [pT 4 (.mv (ci (-1))), pT 5 (.mv (ci 0))] .ret)))
theorem c118_ : IsF Tryz.prog 118 c118 [(.tmp 4), (.tmp 5)] := ⟨by kernel_rfl, by kernel_rfl⟩

def F_spec_l05Wrong_j1 (x3 : Int) (k0 : Int → Option (TNote)) (x4 : Int) : Option (TNote) :=
 (bif (decide ((0 : Int) < x4)) then some (x3, x4)
 else k0 (w64 (x3 + 1)))
def F_spec_l05Wrong_l0 (v0 : TRaga) (v1 : List Int) (k0 : Int → Option (TNote)) : Int → Option (TNote)
 | x3 => (bif (decide (x3 < (v1.length : Int))) then (bif (decide ((0 : Int) < x3)) then ((ix v1 (w64 (x3 - 1))).bind fun u0 => ((ix v1 x3).bind fun u1 => ((F_spec_l05Reason v0 u0 u1).bind fun u2 => F_spec_l05Wrong_j1 x3 k0 u2)))
 else ((ix v1 0).bind fun u3 => ((F_spec_l03Tone u3).bind fun u4 => ((F_spec_l05Tone v0 u4).bind fun u5 => (bif (!u5) then F_spec_l05Wrong_j1 x3 k0 1
 else F_spec_l05Wrong_j1 x3 k0 0)))))
 else some ((-1), 0))
def F_spec_l05Wrong (v0 : TRaga) (v1 : List Int) : Option (TNote) :=
 loop (F_spec_l05Wrong_l0 v0 v1) 0
@[simp] abbrev K3h (v0 : TRaga) : V := .ptr [.str v0.1, .sl 1 (v0.2.1.map vI), .sl 1 (v0.2.2.1.map vI), .int .i64 v0.2.2.2.1, .int .i64 v0.2.2.2.2.1, .sl 1 (v0.2.2.2.2.2.map (eL 1 vI))]
@[simp] abbrev K3i (v1 : List Int) : Nat × AV := (1, AL 1 (v1.map vI))
@[simp] abbrev K3j (v1 : List Int) : AV := AL 1 (v1.map vI)
@[simp] def res_spec_l05Wrong (r : TNote) : RV := .tup [.one (.val (.int .i64 r.1)), .one (.val (.int .i64 r.2))]
theorem con_spec_l05Wrong {v0 : TRaga} {v1 : List Int} {r : TNote} (hF : F_spec_l05Wrong v0 v1 = some r) : Con Tryz.prog 118 [.ptr [.str v0.1, .sl 1 (v0.2.1.map vI), .sl 1 (v0.2.2.1.map vI), .int .i64 v0.2.2.2.1, .int .i64 v0.2.2.2.2.1, .sl 1 (v0.2.2.2.2.2.map (eL 1 vI))], .sl 1 (v1.map vI)] (res_spec_l05Wrong r) := by
 unfold F_spec_l05Wrong at hF
 refine con_of c118_.1 fun N => ?_
 refine ws 0 128 (qp (AI 0) rfl (qp (AI 0) rfl (r_nil (w_seq (ws 128 192 (qp (AI 0) rfl (r_nil (w_block ?_))))))))
 refine wr (l' := [(0, .val none (K3h v0)), (K3i v1), (6, AI 0)]) (L := []) [0, 1, 6] [] 1 ?_
 refine w_loopF (F_spec_l05Wrong_l0 v0 v1) (fun s : Int => mkS [(0, .val none (K3h v0)), (K3i v1), (6, AI s)] (fo []) 1) hF ?_
 rintro k0 x3 hF
 rw [F_spec_l05Wrong_l0] at hF
 try dsimp only
 refine w_seq (ws 1 257 (qp (AI x3) rfl (qp (K3j v1) rfl (qp (AI (v1.length : Int)) (ev_len_n rfl) (qp (AB (decide (x3 < (v1.length : Int)))) rfl (r_nil ?_))))))
 refine cF hF (fun hF => ?_) fun hF => ?_
 ·
  refine w_skip (thenQ_n (w_seq (w_block (ws 257 321 (qp (AI 0) rfl (r_nil ?_))))))
  refine w_meet (fun s' => ∃ (x4 : Int), s' = mkS [(0, .val none (K3h v0)), (K3i v1), (6, AI x3), (7, AI x4)] (fo []) 1 ∧ F_spec_l05Wrong_j1 x3 k0 x4 = some r) ?_ ?_
  ·
   refine ws 321 449 (qp (AI x3) rfl (qp (AB (decide ((0 : Int) < x3))) rfl (r_nil ?_)))
   refine cF hF (fun hF => ?_) fun hF => ?_
   ·
    refine w_reg 449 1217 rfl rfl (qp (.val none (K3h v0)) rfl (qp (K3j v1) rfl (qp (AI x3) rfl (qp (AI (w64 (x3 - 1))) rfl (bk hF fun u0 e0 hF => qp (.val none (.ptr [.int .i64 u0])) (ev_iad_n rfl rfl e0 rfl) (qp (AI u0) rfl (qp (K3j v1) rfl (qp (AI x3) rfl (bk hF fun u1 e1 hF => qp (.val none (.ptr [.int .i64 u1])) (ev_iad_n rfl rfl e1 rfl) (qp (AI u1) rfl (bk hF fun u2 e2 hF => qC (AI u2) [] (con_spec_l05Reason e2) c168_ (qp (AI u2) rfl (r_nil (thenQ_n ?_))))))))))))))
    refine ar (l' := [(0, .val none (K3h v0)), (K3i v1), (6, AI x3), (7, AI u2)]) (L := []) [0, 1, 6, 7] [] 1 ⟨_, rfl, hF⟩
   refine ws 449 897 (qp (.val none (K3h v0)) rfl (qp (K3j v1) rfl (bk hF fun u3 e3 hF => qp (.val none (.ptr [.int .i64 u3])) (ev_iad_n rfl rfl e3 rfl) (qp (AI u3) rfl (bk hF fun u4 e4 hF => qC (AI u4) [] (con_spec_l03Tone e4) c167_ (bk hF fun u5 e5 hF => qC (AB u5) [] (con_spec_l05Tone e5) c163_ (qp (AB (!u5)) rfl (r_nil ?_))))))))
   refine cF hF (fun hF => ?_) fun hF => ?_
   ·
    refine w_reg 897 961 rfl rfl (qp (AI 1) rfl (r_nil (thenQ_n ?_)))
    refine ar (l' := [(0, .val none (K3h v0)), (K3i v1), (6, AI x3), (7, AI 1)]) (L := []) [0, 1, 6, 7] [] 1 ⟨_, rfl, hF⟩
   refine w_skip (thenQ_n ?_)
   refine ar (l' := [(0, .val none (K3h v0)), (K3i v1), (6, AI x3), (7, AI 0)]) (L := []) [0, 1, 6, 7] [] 1 ⟨_, rfl, hF⟩
  rintro s' ⟨x4, rfl, hF⟩
  unfold F_spec_l05Wrong_j1 at hF
  refine ws 1 129 (qp (AI x4) rfl (qp (AB (decide ((0 : Int) < x4))) rfl (r_nil ?_)))
  refine cF hF (fun hF => ws 129 385 (qp (AI x3) rfl (qp (AI x4) rfl (qp (AI x3) rfl (qp (AI x4) rfl (r_nil (w_ret (blockQ_r (thenQ_r (thenQ_r (blockQ_r (thenQ_r (eQ hF))))))))))))) fun hF => ?_
  refine w_skip (blockQ_n (thenQ_n (w_reg 129 321 rfl rfl (qp (AI x3) rfl (qp (AI (w64 (x3 + 1))) rfl (qp (AI (w64 (x3 + 1))) rfl (r_nil (thenQ_n ?_))))))))
  refine ar (l' := [(0, .val none (K3h v0)), (K3i v1), (6, AI (w64 (x3 + 1)))]) (L := []) [0, 1, 6] [] 1 ⟨_, by rfl, hF⟩
 exact w_exit (thenQ_e (thenQ_e (blockQ_e (thenQ_n (ws 257 385 (qp (AI (-1)) rfl (qp (AI 0) rfl (rR hF))))))))

def c119 : MC := (sr [pT 2 (.mv (.c (.str [])))] (.seq (sr [mvt 8 0, bT 9 .eql t8 (ci 0)] (.cond t9 (sr [pT 2 (.mv (.c (.str [48])))] .ret) .skip)) (sr [rg 10 (.f (.bsl 1 [])), mvt 3 10] (.seq (sr [mvt 11 0, mvt 4 11] (.block 0 (.loop (.seq (sr [mvt 12 4, bT 13 .neq t12 (ci 0)] (cx t13 0)) (.seq (.block 1 (sr [mvt 16 4, bT 17 .rem t16 (ci 10), mvt 5 17] (.seq (sr [mvt 18 5, bT 19 .lss t18 (ci 0)] (.cond t19 (.reg [mvt 20 5, pT 21 (.neg t20), mvt 5 21]) .skip)) (.reg [mvt 22 3, mvt 23 5, bT 24 .add (ci 48) t23, pT 25 (.conv .u8 t24), rg 26 (.f (.bsl 1 [t25])), rg 27 (.f (.app t22 t26 1 1 true)), mvt 3 27])))) (.reg [mvt 14 4, bT 15 .quo t14 (ci 10), mvt 4 15])))))) (.seq (sr [mvt 28 0, bT 29 .lss t28 (ci 0)] (.cond t29 (.reg [mvt 30 3, rg 31 (.f (.bsl 1 [(.c (.int .u8 45))])), rg 32 (.f (.app t30 t31 1 1 true)), mvt 3 32]) .skip)) (sr [rg 33 (.f (.bsl 1 [])), mvt 6 33] (.seq (sr [mvt 34 3, zT 35 34, bT 36 .sub t35 (ci 1), mvt 7 36] (.block 2 (.loop (.seq (sr [mvt 37 7, bT 38 .geq t37 (ci 0)] (cx t38 2)) (.seq (.block 3 (.reg [mvt 41 6, mvt 42 3, mvt 43 7, iT 44 42 43 1, lT 45 44, rg 46 (.f (.bsl 1 [t45])), rg 47 (.f (.app t41 t46 1 1 true)), mvt 6 47])) (.reg [mvt 39 7, bT 40 .sub t39 (ci 1), mvt 7 40])))))) (sr [mvt 48 6, pT 49 (.bts t48), mvt 2 49] .ret))))))))
theorem c119_ : IsF Tryz.prog 119 c119 [(.tmp 2)] := ⟨by kernel_rfl, by kernel_rfl⟩

def F_spec_l01Dec_j1 (x4 : Int) (x5 : List Int) (k0 : Int × (List Int) → Option (List UInt8)) (x6 : Int) : Option (List UInt8) :=
 (need (room (x5.length + [IntKind.wrap .u8 (w64 (48 + x6))].length) 1) (k0 (w64 (Int.tdiv x4 10), x5 ++ [IntKind.wrap .u8 (w64 (48 + x6))])))
def F_spec_l01Dec_l3 (x7 : List Int) (k1 : Int × (List Int) → Option (List UInt8)) : Int × (List Int) → Option (List UInt8)
 | (x10, x11) => (bif (decide ((0 : Int) ≤ x10)) then ((ix x7 x10).bind fun u2 => (need (room (x11.length + [u2].length) 1) (k1 (w64 (x10 - 1), x11 ++ [u2]))))
 else some (bytesI x11))
def F_spec_l01Dec_j2 (x7 : List Int) : Option (List UInt8) :=
 loop (F_spec_l01Dec_l3 x7) (w64 ((x7.length : Int) - 1), [])
def F_spec_l01Dec_l0 (v0 : Int) (k0 : Int × (List Int) → Option (List UInt8)) : Int × (List Int) → Option (List UInt8)
 | (x4, x5) => (bif (decide (x4 ≠ (0 : Int))) then (bif (decide (Int.tmod x4 10 < (0 : Int))) then F_spec_l01Dec_j1 x4 x5 k0 (w64 (0 - (Int.tmod x4 10)))
 else F_spec_l01Dec_j1 x4 x5 k0 (Int.tmod x4 10))
 else (bif (decide (v0 < (0 : Int))) then (need (room (x5.length + [(45 : Int)].length) 1) (F_spec_l01Dec_j2 (x5 ++ [(45 : Int)])))
 else F_spec_l01Dec_j2 x5))
def F_spec_l01Dec (v0 : Int) : Option (List UInt8) :=
 (bif (decide (v0 = (0 : Int))) then some [48]
 else loop (F_spec_l01Dec_l0 v0) (v0, []))
@[simp] abbrev K3o (x5 : List Int) : Nat × Root := (0, .row true 1 (x5.map (V.int .u8)))
@[simp] abbrev K3k (x6 : Int) (x5 : List Int) : List (Nat × Root) := [(257, .row true 1 ([IntKind.wrap .u8 (w64 (48 + x6))].map (V.int .u8))), (K3o x5)]
@[simp] abbrev K3l (x5 : List Int) : List (Nat × Root) := [(321, .row true 1 ([(45 : Int)].map (V.int .u8))), (K3o x5)]
@[simp] abbrev K3p (x7 : List Int) : Nat × Root := (0, .row true 1 (x7.map (V.int .u8)))
@[simp] abbrev K3m (x7 : List Int) : List (Nat × Root) := [(1, .row true 1 (([] : List Int).map (V.int .u8))), (K3p x7)]
@[simp] abbrev K3n (u2 : Int) (x11 : List Int) (x7 : List Int) : List (Nat × Root) := [(450, .row true 1 ([u2].map (V.int .u8))), (1, .row true 1 (x11.map (V.int .u8))), (K3p x7)]
@[simp] def res_spec_l01Dec (r : List UInt8) : RV := .one (.one (.val (.str r)))
theorem con_spec_l01Dec {v0 : Int} {r : List UInt8} (hF : F_spec_l01Dec v0 = some r) : Con Tryz.prog 119 [.int .i64 v0] (res_spec_l01Dec r) := by
 unfold F_spec_l01Dec at hF
 refine con_of c119_.1 fun N => ?_
 refine ws 0 64 (qp (AS []) rfl (r_nil (w_seq (ws 64 192 (qp (AI v0) rfl (qp (AB (decide (v0 = (0 : Int)))) rfl (r_nil (cF hF (fun hF => ws 192 256 (qp (AS [48]) rfl (r_nil (w_ret (thenQ_r (eQ hF)))))) fun hF => ?_))))))))
 refine w_skip (thenQ_n (ws 192 320 (qf (.sl 192 0 0) [(192, .row true 1 (([] : List Int).map (V.int .u8)))] (by simp [List.take_of_length_le]) (qp (.sl 192 0 0) rfl (r_nil (w_seq (ws 320 448 (qp (AI v0) rfl (qp (AI v0) rfl (r_nil (w_block ?_)))))))))))
 refine wr (l' := [(0, AI v0), (3, .sl 0 0 0), (4, AI v0)]) (L := [(0, .row true 1 (([] : List Int).map (V.int .u8)))]) [0, 3, 4] [(192, 0)] 1 ?_
 refine w_loopF (F_spec_l01Dec_l0 v0) (fun s : Int × (List Int) => mkS [(0, AI v0), (3, .sl 0 0 s.2.length), (4, AI s.1)] (fo [(0, .row true 1 (s.2.map (V.int .u8)))]) 1) hF ?_
 rintro k0 ⟨x4, x5⟩ hF
 rw [F_spec_l01Dec_l0] at hF
 try dsimp only
 refine w_seq (ws 1 129 (qp (AI x4) rfl (qp (AB (decide (x4 ≠ (0 : Int)))) rfl (r_nil ?_))))
 refine cF hF (fun hF => ?_) fun hF => ?_
 ·
  refine w_skip (thenQ_n (w_seq (w_block (ws 129 321 (qp (AI x4) rfl (qp (AI (Int.tmod x4 10)) (ev_rem rfl rfl (by decide)) (qp (AI (Int.tmod x4 10)) rfl (r_nil ?_))))))))
  refine w_meet (fun s' => ∃ (x6 : Int), s' = mkS [(0, AI v0), (3, .sl 0 0 x5.length), (4, AI x4), (5, AI x6)] (fo [(K3o x5)]) 1 ∧ F_spec_l01Dec_j1 x4 x5 k0 x6 = some r) ?_ ?_
  ·
   refine ws 321 449 (qp (AI (Int.tmod x4 10)) rfl (qp (AB (decide (Int.tmod x4 10 < (0 : Int)))) rfl (r_nil ?_)))
   refine cF hF (fun hF => ?_) fun hF => ?_
   ·
    refine w_reg 449 641 rfl rfl (qp (AI (Int.tmod x4 10)) rfl (qp (AI (w64 (0 - (Int.tmod x4 10)))) rfl (qp (AI (w64 (0 - (Int.tmod x4 10)))) rfl (r_nil (thenQ_n ?_)))))
    refine ar (l' := [(0, AI v0), (3, .sl 0 0 x5.length), (4, AI x4), (5, AI (w64 (0 - (Int.tmod x4 10))))]) (L := [(K3o x5)]) [0, 3, 4, 5] [(0, 0)] 1 ⟨_, rfl, hF⟩
   refine w_skip (thenQ_n ?_)
   refine ar (l' := [(0, AI v0), (3, .sl 0 0 x5.length), (4, AI x4), (5, AI (Int.tmod x4 10))]) (L := [(K3o x5)]) [0, 3, 4, 5] [(0, 0)] 1 ⟨_, rfl, hF⟩
  rintro s' ⟨x6, rfl, hF⟩
  unfold F_spec_l01Dec_j1 at hF
  refine w_reg 1 449 rfl rfl (qp (.sl 0 0 x5.length) rfl (qp (AI x6) rfl (qp (AI (w64 (48 + x6))) rfl (qp (.val none (.int .u8 (IntKind.wrap .u8 (w64 (48 + x6))))) rfl (qf (.sl 257 0 ([IntKind.wrap .u8 (w64 (48 + x6))].length)) (K3k x6 x5) (by simp [List.take_of_length_le]) (nk hF fun g0 hF => qf (.sl 321 0 ((x5 ++ [IntKind.wrap .u8 (w64 (48 + x6))]).length)) ((321, .row true 1 ((x5 ++ [IntKind.wrap .u8 (w64 (48 + x6))]).map (V.int .u8))) :: (0, .dead) :: (257, .dead) :: (K3k x6 x5)) (effT_app_l rfl (by simp) rfl rfl (by simp) rfl (by decide) g0 rfl) (qp (.sl 321 0 ((x5 ++ [IntKind.wrap .u8 (w64 (48 + x6))]).length)) rfl (r_nil ?_))))))))
  refine blockQ_n (thenQ_n (w_reg 449 641 rfl rfl (qp (AI x4) rfl (qp (AI (w64 (Int.tdiv x4 10))) (ev_quo rfl rfl (by decide)) (qp (AI (w64 (Int.tdiv x4 10))) rfl (r_nil (thenQ_n ?_)))))))
  refine ar (l' := [(0, AI v0), (3, .sl 0 0 (x5 ++ [IntKind.wrap .u8 (w64 (48 + x6))]).length), (4, AI (w64 (Int.tdiv x4 10)))]) (L := [(0, .row true 1 ((x5 ++ [IntKind.wrap .u8 (w64 (48 + x6))]).map (V.int .u8)))]) [0, 3, 4] [(321, 0)] 1 ⟨_, by rfl, hF⟩
 refine w_exit (thenQ_e (thenQ_e (blockQ_e (thenQ_n ?_))))
 refine w_meet (fun s' => ∃ (x7 : List Int), s' = mkS [(3, .sl 0 0 x7.length)] (fo [(K3p x7)]) 1 ∧ F_spec_l01Dec_j2 x7 = some r) ?_ ?_
 ·
  refine ws 129 257 (qp (AI v0) rfl (qp (AB (decide (v0 < (0 : Int)))) rfl (r_nil ?_)))
  refine cF hF (fun hF => ?_) fun hF => ?_
  ·
   refine w_reg 257 513 rfl rfl (qp (.sl 0 0 x5.length) rfl (qf (.sl 321 0 ([(45 : Int)].length)) (K3l x5) (by simp [List.take_of_length_le]) (nk hF fun g1 hF => qf (.sl 385 0 ((x5 ++ [(45 : Int)]).length)) ((385, .row true 1 ((x5 ++ [(45 : Int)]).map (V.int .u8))) :: (0, .dead) :: (321, .dead) :: (K3l x5)) (effT_app_l rfl (by simp) rfl rfl (by simp) rfl (by decide) g1 rfl) (qp (.sl 385 0 ((x5 ++ [(45 : Int)]).length)) rfl (r_nil (thenQ_n ?_))))))
   refine ar (l' := [(3, .sl 0 0 (x5 ++ [(45 : Int)]).length)]) (L := [(0, .row true 1 ((x5 ++ [(45 : Int)]).map (V.int .u8)))]) [3] [(385, 0)] 1 ⟨_, rfl, hF⟩
  refine w_skip (thenQ_n ?_)
  refine ar (l' := [(3, .sl 0 0 x5.length)]) (L := [(K3o x5)]) [3] [(0, 0)] 1 ⟨_, rfl, hF⟩
 rintro s' ⟨x7, rfl, hF⟩
 unfold F_spec_l01Dec_j2 at hF
 refine ws 1 129 (qf (.sl 1 0 0) (K3m x7) (by simp [List.take_of_length_le]) (qp (.sl 1 0 0) rfl (r_nil (w_seq (ws 129 385 (qp (.sl 0 0 x7.length) rfl (qp (AI (x7.length : Int)) rfl (qp (AI (w64 ((x7.length : Int) - 1))) rfl (qp (AI (w64 ((x7.length : Int) - 1))) rfl (r_nil (w_block ?_)))))))))))
 refine w_ren (l' := [(3, .sl 0 0 x7.length), (6, .sl 1 0 0), (7, AI (w64 ((x7.length : Int) - 1)))]) (L := (K3m x7)) [3, 6, 7] [(1, 1), (0, 0)] 2 (by first | rfl | simp) (by first | rfl | simp) (by decide) (by decide) (by decide) ?_
 refine w_loopF (F_spec_l01Dec_l3 x7) (fun s : Int × (List Int) => mkS [(3, .sl 0 0 x7.length), (6, .sl 1 0 s.2.length), (7, AI s.1)] (fo [(1, .row true 1 (s.2.map (V.int .u8))), (K3p x7)]) 2) hF ?_
 rintro k1 ⟨x10, x11⟩ hF
 rw [F_spec_l01Dec_l3] at hF
 try dsimp only
 refine w_seq (ws 2 130 (qp (AI x10) rfl (qp (AB (decide ((0 : Int) ≤ x10))) rfl (r_nil ?_))))
 refine cF hF (fun hF => ?_) fun hF => ?_
 ·
  refine w_skip (thenQ_n (w_seq (w_block (w_reg 130 642 rfl rfl (qp (.sl 1 0 x11.length) rfl (qp (.sl 0 0 x7.length) rfl (qp (AI x10) rfl (bk hF fun u2 e2 hF => qp (.ptr 0 x10.toNat 0) (ev_iad_r rfl (by simp) rfl rfl e2) (qp (.val none (.int .u8 u2)) (ev_ld_r rfl rfl (ix_some e2).2 rfl rfl) (qf (.sl 450 0 ([u2].length)) (K3n u2 x11 x7) (by simp [List.take_of_length_le]) (nk hF fun g3 hF => qf (.sl 514 0 ((x11 ++ [u2]).length)) ((514, .row true 1 ((x11 ++ [u2]).map (V.int .u8))) :: (1, .dead) :: (450, .dead) :: (K3n u2 x11 x7)) (effT_app_l rfl (by simp) rfl rfl (by simp) rfl (by decide) g3 rfl) (qp (.sl 514 0 ((x11 ++ [u2]).length)) rfl (r_nil (blockQ_n (thenQ_n ?_)))))))))))))))
  refine w_reg 642 834 rfl rfl (qp (AI x10) rfl (qp (AI (w64 (x10 - 1))) rfl (qp (AI (w64 (x10 - 1))) rfl (r_nil (thenQ_n ?_)))))
  refine ar (l' := [(3, .sl 0 0 x7.length), (6, .sl 1 0 (x11 ++ [u2]).length), (7, AI (w64 (x10 - 1)))]) (L := [(1, .row true 1 ((x11 ++ [u2]).map (V.int .u8))), (K3p x7)]) [3, 6, 7] [(514, 1), (0, 0)] 2 ⟨_, by rfl, hF⟩
 exact w_exit (thenQ_e (thenQ_e (blockQ_e (thenQ_n (ws 130 322 (qp (.sl 1 0 x11.length) rfl (qp (AS (bytesI x11)) (ev_bts_r rfl (by simp) rfl) (qp (AS (bytesI x11)) rfl (rR hF)))))))))

def c172 : MC := (sr [pT 6 (.mv (ci 0))] (.seq (sr [pT 7 (.mv (ci 0))] (.block 0 (.loop (.seq (sr [mvt 8 7, mvt 9 0, pT 10 (.nck t9), pT 11 (.fad t10 3), lT 12 11, zT 13 12, bT 14 .lss t8 t13] (cx t14 0)) (.seq (.block 1 (sr [mvt 17 0, pT 18 (.nck t17), pT 19 (.fad t18 3), lT 20 19, mvt 21 7, iT 22 20 21 3, pT 23 (.fad t22 0), lT 24 23, mvt 25 1, bT 26 .eql t24 t25, mvt 27 26, nT 28 27 t0, kT 29 27 (.nck t28), kT 30 27 (.fad t29 3), kT 31 27 (.ld t30 1 false), nT 32 27 t7, kT 33 27 (.iad t31 t32 3), kT 34 27 (.fad t33 1), kT 35 27 (.ld t34 1 false), nT 36 27 t2, kT 37 27 (.bin .eql t35 t36), pT 38 (.pick t27 t37 cf)] (.cond t38 (sr [mvt 39 0, pT 40 (.nck t39), pT 41 (.fad t40 3), lT 42 41, mvt 43 7, iT 44 42 43 3, pT 45 (.fad t44 2), lT 46 45, mvt 6 46] .ret) .skip))) (.reg [mvt 15 7, bT 16 .add t15 (ci 1), mvt 7 16])))))) (sr [pT 6 (.mv (ci (-1)))] .ret)))
theorem c172_ : IsF Tryz.prog 172 c172 [(.tmp 6)] := ⟨by kernel_rfl, by kernel_rfl⟩

def F_spec_l07Step_j1 (v0 : TGrammar) (x3 : Int) (k0 : Int → Option (Int)) (x4 : Bool) : Option (Int) :=
 (bif x4 then ((ix v0.2.2.2 x3).bind fun u2 => some u2.2.2)
 else k0 (w64 (x3 + 1)))
def F_spec_l07Step_l0 (v0 : TGrammar) (v1 : Int) (v2 : Int) (k0 : Int → Option (Int)) : Int → Option (Int)
 | x3 => (bif (decide (x3 < (v0.2.2.2.length : Int))) then ((ix v0.2.2.2 x3).bind fun u0 => (bif (decide (u0.1 = v1)) then ((ix v0.2.2.2 x3).bind fun u1 => F_spec_l07Step_j1 v0 x3 k0 (decide (u1.2.1 = v2)))
 else F_spec_l07Step_j1 v0 x3 k0 false))
 else some (-1))
def F_spec_l07Step (v0 : TGrammar) (v1 : Int) (v2 : Int) : Option (Int) :=
 loop (F_spec_l07Step_l0 v0 v1 v2) 0
@[simp] abbrev K3q (v0 : TGrammar) : V := .ptr [.int .i64 v0.1, .int .i64 v0.2.1, .sl 1 (v0.2.2.1.map vI), .sl 3 (v0.2.2.2.map eArc)]
@[simp] abbrev K3r (v0 : TGrammar) : AV := .val none (.ptr [.sl 3 (v0.2.2.2.map eArc)])
@[simp] abbrev K3s (v0 : TGrammar) : AV := AL 3 (v0.2.2.2.map eArc)
@[simp] def res_spec_l07Step (r : Int) : RV := .one (.one (.val (.int .i64 r)))
theorem con_spec_l07Step {v0 : TGrammar} {v1 : Int} {v2 : Int} {r : Int} (hF : F_spec_l07Step v0 v1 v2 = some r) : Con Tryz.prog 172 [.ptr [.int .i64 v0.1, .int .i64 v0.2.1, .sl 1 (v0.2.2.1.map vI), .sl 3 (v0.2.2.2.map eArc)], .int .i64 v1, .int .i64 v2] (res_spec_l07Step r) := by
 unfold F_spec_l07Step at hF
 refine con_of c172_.1 fun N => ?_
 refine ws 0 64 (qp (AI 0) rfl (r_nil (w_seq (ws 64 128 (qp (AI 0) rfl (r_nil (w_block ?_)))))))
 refine wr (l' := [(0, .val none (K3q v0)), (1, AI v1), (2, AI v2), (7, AI 0)]) (L := []) [0, 1, 2, 7] [] 1 ?_
 refine w_loopF (F_spec_l07Step_l0 v0 v1 v2) (fun s : Int => mkS [(0, .val none (K3q v0)), (1, AI v1), (2, AI v2), (7, AI s)] (fo []) 1) hF ?_
 rintro k0 x3 hF
 rw [F_spec_l07Step_l0] at hF
 try dsimp only
 refine w_seq (ws 1 449 (qp (AI x3) rfl (qp (.val none (K3q v0)) rfl (qp (.val none (K3q v0)) rfl (qp (K3r v0) rfl (qp (K3s v0) rfl (qp (AI (v0.2.2.2.length : Int)) (ev_len_n rfl) (qp (AB (decide (x3 < (v0.2.2.2.length : Int)))) rfl (r_nil ?_)))))))))
 refine cF hF (fun hF => ?_) fun hF => ?_
 ·
  refine w_skip (thenQ_n (w_seq (w_block ?_)))
  refine w_meet (fun s' => ∃ (x4 : Bool), s' = mkS [(0, .val none (K3q v0)), (1, AI v1), (2, AI v2), (7, AI x3), (38, AB x4)] (fo []) 1 ∧ F_spec_l07Step_j1 v0 x3 k0 x4 = some r) ?_ ?_
  ·
   refine w_reg 449 1857 rfl rfl (qp (.val none (K3q v0)) rfl (qp (.val none (K3q v0)) rfl (qp (K3r v0) rfl (qp (K3s v0) rfl (qp (AI x3) rfl (bk hF fun u0 e0 hF => qp (.val none (.ptr [.int .i64 u0.1, .int .i64 u0.2.1, .int .i64 u0.2.2])) (ev_iad_n rfl rfl e0 rfl) (qp (.val none (.ptr [.int .i64 u0.1, .int .i64 u0.2.1, .int .i64 u0.2.2])) rfl (qp (AI u0.1) rfl (qp (AI v1) rfl (qp (AB (decide (u0.1 = v1))) rfl (qp (AB (decide (u0.1 = v1))) rfl ?_)))))))))))
   refine q_case 27 hF rfl (fun hF => ?_) (fun hF => ?_)
   ·
    refine qg (.val none (K3q v0)) rfl rfl (qg (.val none (K3q v0)) rfl rfl (qg (K3r v0) rfl rfl (qg (K3s v0) rfl rfl (qg (AI x3) rfl rfl (bk hF fun u1 e1 hF => qg (.val none (.ptr [.int .i64 u1.1, .int .i64 u1.2.1, .int .i64 u1.2.2])) rfl (ev_iad_n rfl rfl e1 rfl) (qg (.val none (.ptr [.int .i64 u1.2.1, .int .i64 u1.2.2])) rfl rfl (qg (AI u1.2.1) rfl rfl (qg (AI v2) rfl rfl (qg (AB (decide (u1.2.1 = v2))) rfl rfl (qp (AB (decide (u1.2.1 = v2))) rfl (r_nil (thenQ_n ?_))))))))))))
    refine ar (l' := [(0, .val none (K3q v0)), (1, AI v1), (2, AI v2), (7, AI x3), (38, AB (decide (u1.2.1 = v2)))]) (L := []) [0, 1, 2, 7, 38] [] 1 ⟨_, rfl, hF⟩
   refine qn8 (qn2 (qp (AB false) rfl (r_nil (thenQ_n ?_))))
   refine ar (l' := [(0, .val none (K3q v0)), (1, AI v1), (2, AI v2), (7, AI x3), (38, AB false)]) (L := []) [0, 1, 2, 7, 38] [] 1 ⟨_, rfl, hF⟩
  rintro s' ⟨x4, rfl, hF⟩
  unfold F_spec_l07Step_j1 at hF
  refine cF hF (fun hF => ?_) fun hF => ?_
  ·
   refine ws 1 577 (qp (.val none (K3q v0)) rfl (qp (.val none (K3q v0)) rfl (qp (K3r v0) rfl (qp (K3s v0) rfl (qp (AI x3) rfl (bk hF fun u2 e2 hF => qp (.val none (.ptr [.int .i64 u2.1, .int .i64 u2.2.1, .int .i64 u2.2.2])) (ev_iad_n rfl rfl e2 rfl) (qp (.val none (.ptr [.int .i64 u2.2.2])) rfl (qp (AI u2.2.2) rfl (qp (AI u2.2.2) rfl (r_nil (w_ret (blockQ_r (thenQ_r (thenQ_r ?_))))))))))))))
   exact blockQ_r (thenQ_r (eQ hF))
  refine w_skip (blockQ_n (thenQ_n (w_reg 1 193 rfl rfl (qp (AI x3) rfl (qp (AI (w64 (x3 + 1))) rfl (qp (AI (w64 (x3 + 1))) rfl (r_nil (thenQ_n ?_))))))))
  refine ar (l' := [(0, .val none (K3q v0)), (1, AI v1), (2, AI v2), (7, AI (w64 (x3 + 1)))]) (L := []) [0, 1, 2, 7] [] 1 ⟨_, by rfl, hF⟩
 exact w_exit (thenQ_e (thenQ_e (blockQ_e (thenQ_n (ws 449 513 (qp (AI (-1)) rfl (rR hF)))))))

def c121 : MC := (sr [pT 4 (.mv (ci 0)), pT 5 (.mv (ci 0))] (sr [mvt 9 0, pT 10 (.nck t9), pT 11 (.fad t10 1), lT 12 11, mvt 6 12] (.seq (sr [pT 7 (.mv (ci 0))] (.block 0 (.loop (.seq (sr [mvt 13 7, mvt 14 1, zT 15 14, bT 16 .lss t13 t15] (cx t16 0)) (.seq (.block 1 (sr [mvt 19 0, mvt 20 6, mvt 21 1, mvt 22 7, iT 23 21 22 1, lT 24 23, dT 25 172 [t19, t20, t24], mvt 8 25] (.seq (sr [mvt 26 8, bT 27 .lss t26 (ci 0)] (.cond t27 (sr [mvt 28 6, mvt 29 7, mvt 4 28, mvt 5 29] .ret) .skip)) (.reg [mvt 30 8, mvt 6 30])))) (.reg [mvt 17 7, bT 18 .add t17 (ci 1), mvt 7 18])))))) (sr [mvt 31 6, mvt 32 1, zT 33 32, mvt 4 31, mvt 5 33] .ret))))
theorem c121_ : IsF Tryz.prog 121 c121 [(.tmp 4), (.tmp 5)] := ⟨by kernel_rfl, by kernel_rfl⟩

def F_spec_l07Run_l0 (v0 : TGrammar) (v1 : List Int) (k0 : Int × Int → Option (TNote)) : Int × Int → Option (TNote)
 | (x2, x3) => (bif (decide (x3 < (v1.length : Int))) then ((ix v1 x3).bind fun u0 => ((F_spec_l07Step v0 x2 u0).bind fun u1 => (bif (decide (u1 < (0 : Int))) then some (x2, x3)
 else k0 (u1, w64 (x3 + 1)))))
 else some (x2, (v1.length : Int)))
def F_spec_l07Run (v0 : TGrammar) (v1 : List Int) : Option (TNote) :=
 loop (F_spec_l07Run_l0 v0 v1) (v0.2.1, 0)
@[simp] abbrev K3t (v0 : TGrammar) : V := .ptr [.int .i64 v0.1, .int .i64 v0.2.1, .sl 1 (v0.2.2.1.map vI), .sl 3 (v0.2.2.2.map eArc)]
@[simp] abbrev K3u (v1 : List Int) : V := .sl 1 (v1.map vI)
@[simp] def res_spec_l07Run (r : TNote) : RV := .tup [.one (.val (.int .i64 r.1)), .one (.val (.int .i64 r.2))]
theorem con_spec_l07Run {v0 : TGrammar} {v1 : List Int} {r : TNote} (hF : F_spec_l07Run v0 v1 = some r) : Con Tryz.prog 121 [.ptr [.int .i64 v0.1, .int .i64 v0.2.1, .sl 1 (v0.2.2.1.map vI), .sl 3 (v0.2.2.2.map eArc)], .sl 1 (v1.map vI)] (res_spec_l07Run r) := by
 unfold F_spec_l07Run at hF
 refine con_of c121_.1 fun N => ?_
 refine ws 0 128 (qp (AI 0) rfl (qp (AI 0) rfl (r_nil (ws 128 448 (qp (.val none (K3t v0)) rfl (qp (.val none (K3t v0)) rfl (qp (.val none (.ptr [.int .i64 v0.2.1, .sl 1 (v0.2.2.1.map vI), .sl 3 (v0.2.2.2.map eArc)])) rfl (qp (AI v0.2.1) rfl (qp (AI v0.2.1) rfl (r_nil (w_seq (ws 448 512 (qp (AI 0) rfl ?_)))))))))))))
 refine r_nil (w_block ?_)
 refine wr (l' := [(0, .val none (K3t v0)), (1, .val none (K3u v1)), (6, AI v0.2.1), (7, AI 0)]) (L := []) [0, 1, 6, 7] [] 1 ?_
 refine w_loopF (F_spec_l07Run_l0 v0 v1) (fun s : Int × Int => mkS [(0, .val none (K3t v0)), (1, .val none (K3u v1)), (6, AI s.1), (7, AI s.2)] (fo []) 1) hF ?_
 rintro k0 ⟨x2, x3⟩ hF
 rw [F_spec_l07Run_l0] at hF
 try dsimp only
 refine w_seq (ws 1 257 (qp (AI x3) rfl (qp (.val none (K3u v1)) rfl (qp (AI (v1.length : Int)) (ev_len_n rfl) (qp (AB (decide (x3 < (v1.length : Int)))) rfl (r_nil ?_))))))
 refine cF hF (fun hF => ?_) fun hF => ?_
 ·
  refine w_skip (thenQ_n (w_seq (w_block (ws 257 769 (qp (.val none (K3t v0)) rfl (qp (AI x2) rfl (qp (.val none (K3u v1)) rfl (qp (AI x3) rfl (bk hF fun u0 e0 hF => qp (.val none (.ptr [.int .i64 u0])) (ev_iad_n rfl rfl e0 rfl) (qp (AI u0) rfl (bk hF fun u1 e1 hF => qC (AI u1) [] (con_spec_l07Step e1) c172_ (qp (AI u1) rfl (r_nil (w_seq (ws 769 897 ?_)))))))))))))))
  refine qp (AI u1) rfl (qp (AB (decide (u1 < (0 : Int)))) rfl (r_nil ?_))
  refine cF hF (fun hF => ws 897 1153 (qp (AI x2) rfl (qp (AI x3) rfl (qp (AI x2) rfl (qp (AI x3) rfl (r_nil (w_ret (thenQ_r (blockQ_r (thenQ_r (thenQ_r (blockQ_r (thenQ_r (eQ hF)))))))))))))) fun hF => ?_
  refine w_skip (thenQ_n (w_reg 897 1025 rfl rfl (qp (AI u1) rfl (qp (AI u1) rfl (r_nil (blockQ_n (thenQ_n (w_reg 1025 1217 rfl rfl (qp (AI x3) rfl (qp (AI (w64 (x3 + 1))) rfl (qp (AI (w64 (x3 + 1))) rfl ?_)))))))))))
  refine r_nil (thenQ_n ?_)
  refine ar (l' := [(0, .val none (K3t v0)), (1, .val none (K3u v1)), (6, AI u1), (7, AI (w64 (x3 + 1)))]) (L := []) [0, 1, 6, 7] [] 1 ⟨_, by rfl, hF⟩
 exact w_exit (thenQ_e (thenQ_e (blockQ_e (thenQ_n (ws 257 577 (qp (AI x2) rfl (qp (.val none (K3u v1)) rfl (qp (AI (v1.length : Int)) (ev_len_n rfl) (qp (AI x2) rfl (qp (AI (v1.length : Int)) rfl (rR hF)))))))))))

def c120 : MC := (sr [pT 4 (.mv cf)] (sr [mvt 8 0, mvt 9 1, dT 10 121 [t8, t9], mvt 7 10, pT 11 (.ext t7 0), pT 12 (.ext t7 1), mvt 5 11, mvt 6 12] (sr [mvt 13 6, mvt 14 1, zT 15 14, bT 16 .eql t13 t15, mvt 17 16, nT 18 17 t0, kT 19 17 (.nck t18), kT 20 17 (.fad t19 2), kT 21 17 (.ld t20 1 false), nT 22 17 t5, ⟨(some 23), (some (17, true)), (.call true 171 [t21, t22])⟩, pT 24 (.pick t17 t23 cf), mvt 4 24] .ret)))
theorem c120_ : IsF Tryz.prog 120 c120 [(.tmp 4)] := ⟨by kernel_rfl, by kernel_rfl⟩

def F_spec_l07Accepts (v0 : TGrammar) (v1 : List Int) : Option (Bool) :=
 ((F_spec_l07Run v0 v1).bind fun u0 => (bif (decide (u0.2 = (v1.length : Int))) then ((F_spec_l00Has v0.2.2.1 u0.1).bind fun u1 => some u1)
 else some false))
@[simp] abbrev K3v (v0 : TGrammar) : AV := .val none (.ptr [.int .i64 v0.1, .int .i64 v0.2.1, .sl 1 (v0.2.2.1.map vI), .sl 3 (v0.2.2.2.map eArc)])
@[simp] def res_spec_l07Accepts (r : Bool) : RV := .one (.one (.val (.bool r)))
theorem con_spec_l07Accepts {v0 : TGrammar} {v1 : List Int} {r : Bool} (hF : F_spec_l07Accepts v0 v1 = some r) : Con Tryz.prog 120 [.ptr [.int .i64 v0.1, .int .i64 v0.2.1, .sl 1 (v0.2.2.1.map vI), .sl 3 (v0.2.2.2.map eArc)], .sl 1 (v1.map vI)] (res_spec_l07Accepts r) := by
 unfold F_spec_l07Accepts at hF
 refine con_of c120_.1 fun N => ?_
 refine ws 0 64 (qp (AB false) rfl (r_nil (ws 64 576 (qp (K3v v0) rfl (qp (AL 1 (v1.map vI)) rfl (bk hF fun u0 e0 hF => qC (.tup [AI u0.1, AI u0.2]) [] (con_spec_l07Run e0) c121_ (qp (.tup [AI u0.1, AI u0.2]) rfl (qp (AI u0.1) rfl (qp (AI u0.2) rfl (qp (AI u0.1) rfl (qp (AI u0.2) rfl (r_nil (ws 576 1408 ?_)))))))))))))
 refine qp (AI u0.2) rfl (qp (AL 1 (v1.map vI)) rfl (qp (AI (v1.length : Int)) (ev_len_n rfl) (qp (AB (decide (u0.2 = (v1.length : Int)))) rfl (qp (AB (decide (u0.2 = (v1.length : Int)))) rfl (q_case 17 hF rfl (fun hF => qg (K3v v0) rfl rfl (qg (K3v v0) rfl rfl (qg (.val none (.ptr [.sl 1 (v0.2.2.1.map vI), .sl 3 (v0.2.2.2.map eArc)])) rfl rfl (qg (AL 1 (v0.2.2.1.map vI)) rfl rfl (qg (AI u0.1) rfl rfl (bk hF fun u1 e1 hF => qG (AB u1) [] (con_spec_l00Has e1) c171_ (qp (AB u1) rfl (qp (AB u1) rfl (rR hF))))))))) fun hF => ?_)))))
 exact qn6 (qp (AB false) rfl (qp (AB false) rfl (rR hF)))

def c69 : MC := (sr [rg 2 (.f (.nilrow 3))] (sr [mvt 9 0, pT 10 (.nck t9), pT 11 (.fad t10 8), lT 12 11, dT 13 117 [t12], mvt 3 13] (sr [mvt 15 0, pT 16 (.nck t15), pT 17 (.fad t16 0), mvt 18 3, dT 19 118 [t17, t18], mvt 14 19, pT 20 (.ext t14 0), pT 21 (.ext t14 1), mvt 4 20, mvt 5 21] (.seq (sr [mvt 22 4, bT 23 .geq t22 (ci 0)] (.cond t23 (sr [mvt 24 4, dT 25 119 [t24], mvt 26 5, dT 27 119 [t26], rg 28 (.f (.bld [((.int .i64 0), (0, true)), ((.str []), (0, true)), ((.str []), (0, true))] [(0, (1, (ci 1))), (1, (1, t25)), (2, (1, t27))])), rg 29 (.f (.bsl 3 [t28])), mvt 2 29] .ret) .skip)) (sr [mP 30 t0, pF 31 (.nck t30), pF 32 (.fad t31 0), mP 33 t0, pF 34 (.nck t33), pF 35 (.fad t34 6), lF 36 35, mP 37 t0, pF 38 (.nck t37), pF 39 (.fad t38 7), lF 40 39, dF 41 112 [t32, t36, t40], rg 6 (.f (.alloc [((.int .i64 0), (0, false)), ((.int .i64 0), (0, false)), ((.sl 0 []), (1, false)), ((.sl 0 []), (3, false))])), ⟨none, none, (.f (.st t6 t41 4))⟩] (.seq (sr [mvt 42 3, dT 43 120 [t6, t42], pT 44 (.not t43)] (.cond t44 (sr [mvt 46 3, dT 47 121 [t6, t46], mvt 45 47, pT 48 (.ext t45 0), pT 49 (.ext t45 1), mvt 7 48, mvt 8 49] (sr [mvt 50 8, dT 51 119 [t50], rg 52 (.f (.bld [((.int .i64 0), (0, true)), ((.str []), (0, true)), ((.str []), (0, true))] [(0, (1, (ci 2))), (1, (1, (.c (.str [109, 101, 108, 111, 100, 121])))), (2, (1, t51))])), rg 53 (.f (.bsl 3 [t52])), mvt 2 53] .ret)) .skip)) (sr [rg 54 (.f (.bsl 3 [])), mvt 2 54] .ret)))))))
theorem c69_ : IsF Tryz.prog 69 c69 [(.tmp 2)] := ⟨by kernel_rfl, by kernel_rfl⟩

def F_spec_l31Melody (v0 : TWork) : Option (List TProblem) :=
 ((F_spec_l09Pitches v0.2.2.2.2.2.2.2.2.1).bind fun u0 => ((F_spec_l05Wrong (v0.1, v0.2.1, v0.2.2.1, v0.2.2.2.1, v0.2.2.2.2.1, v0.2.2.2.2.2.1) u0).bind fun u1 => (bif (decide ((0 : Int) ≤ u1.1)) then ((F_spec_l01Dec u1.1).bind fun u2 => ((F_spec_l01Dec u1.2).bind fun u3 => some ([(1, u2, u3)] : List TProblem)))
 else ((F_spec_l07Of (v0.1, v0.2.1, v0.2.2.1, v0.2.2.2.1, v0.2.2.2.2.1, v0.2.2.2.2.2.1) v0.2.2.2.2.2.2.1 v0.2.2.2.2.2.2.2.1).bind fun u4 => ((F_spec_l07Accepts u4 u0).bind fun u5 => (bif (!u5) then ((F_spec_l07Run u4 u0).bind fun u6 => ((F_spec_l01Dec u6.2).bind fun u7 => some ([(2, [109, 101, 108, 111, 100, 121], u7)] : List TProblem)))
 else some []))))))
@[simp] abbrev K3w : List (Nat × Root) := [(0, .row true 3 (([] : List Int).map vI))]
@[simp] abbrev K3x (u0 : List Int) : List (Nat × Root) := ((320, .row true 1 (u0.map vI)) :: K3w)
@[simp] abbrev K3y (u4 : TGrammar) (u0 : List Int) : List (Nat × Root) := ((1923, .row true 3 (u4.2.2.2.map eArc)) :: (1922, .row true 1 (u4.2.2.1.map vI)) :: (K3x u0))
@[simp] abbrev K3z (u4 : TGrammar) (u0 : List Int) : List (Nat × Root) := ((1984, .box [AI 0, AI 0, .sl 1985 0 0, .sl 1986 0 0]) :: (1986, .row true 3 (([] : List Int).map vI)) :: (1985, .row true 1 (([] : List Int).map vI)) :: (K3y u4 u0))
@[simp] abbrev K40 (u4 : TGrammar) (u0 : List Int) : List (Nat × Root) := ((1984, .box [AI u4.1, AI u4.2.1, .sl 1922 0 u4.2.2.1.length, .sl 1923 0 u4.2.2.2.length]) :: (K3z u4 u0))
@[simp] abbrev K41 (v0 : TWork) : AV := .val none (.ptr [.str v0.1, .sl 1 (v0.2.1.map vI), .sl 1 (v0.2.2.1.map vI), .int .i64 v0.2.2.2.1, .int .i64 v0.2.2.2.2.1, .sl 1 (v0.2.2.2.2.2.1.map (eL 1 vI)), .int .i64 v0.2.2.2.2.2.2.1, .int .i64 v0.2.2.2.2.2.2.2.1, .sl 2 (v0.2.2.2.2.2.2.2.2.1.map eNote), .str v0.2.2.2.2.2.2.2.2.2.1, .sl 1 (v0.2.2.2.2.2.2.2.2.2.2.1.map vI), .sl 1 (v0.2.2.2.2.2.2.2.2.2.2.2.1.map vI), .int .i64 v0.2.2.2.2.2.2.2.2.2.2.2.2.1, .str v0.2.2.2.2.2.2.2.2.2.2.2.2.2.1, .int .i64 v0.2.2.2.2.2.2.2.2.2.2.2.2.2.2.1, .int .i64 v0.2.2.2.2.2.2.2.2.2.2.2.2.2.2.2.1, .int .i64 v0.2.2.2.2.2.2.2.2.2.2.2.2.2.2.2.2.1, .sl 3 (v0.2.2.2.2.2.2.2.2.2.2.2.2.2.2.2.2.2.map eTurn)])
@[simp] abbrev K42 (v0 : TWork) : List V := [.int .i64 v0.2.2.2.2.2.2.1, .int .i64 v0.2.2.2.2.2.2.2.1, .sl 2 (v0.2.2.2.2.2.2.2.2.1.map eNote), .str v0.2.2.2.2.2.2.2.2.2.1, .sl 1 (v0.2.2.2.2.2.2.2.2.2.2.1.map vI), .sl 1 (v0.2.2.2.2.2.2.2.2.2.2.2.1.map vI), .int .i64 v0.2.2.2.2.2.2.2.2.2.2.2.2.1, .str v0.2.2.2.2.2.2.2.2.2.2.2.2.2.1, .int .i64 v0.2.2.2.2.2.2.2.2.2.2.2.2.2.2.1, .int .i64 v0.2.2.2.2.2.2.2.2.2.2.2.2.2.2.2.1, .int .i64 v0.2.2.2.2.2.2.2.2.2.2.2.2.2.2.2.2.1, .sl 3 (v0.2.2.2.2.2.2.2.2.2.2.2.2.2.2.2.2.2.map eTurn)]
@[simp] def res_spec_l31Melody (r : List TProblem) : RV := .one (.one (.row true 3 (r.map eProblem)))
theorem con_spec_l31Melody {v0 : TWork} {r : List TProblem} (hF : F_spec_l31Melody v0 = some r) : Con Tryz.prog 69 [.ptr [.str v0.1, .sl 1 (v0.2.1.map vI), .sl 1 (v0.2.2.1.map vI), .int .i64 v0.2.2.2.1, .int .i64 v0.2.2.2.2.1, .sl 1 (v0.2.2.2.2.2.1.map (eL 1 vI)), .int .i64 v0.2.2.2.2.2.2.1, .int .i64 v0.2.2.2.2.2.2.2.1, .sl 2 (v0.2.2.2.2.2.2.2.2.1.map eNote), .str v0.2.2.2.2.2.2.2.2.2.1, .sl 1 (v0.2.2.2.2.2.2.2.2.2.2.1.map vI), .sl 1 (v0.2.2.2.2.2.2.2.2.2.2.2.1.map vI), .int .i64 v0.2.2.2.2.2.2.2.2.2.2.2.2.1, .str v0.2.2.2.2.2.2.2.2.2.2.2.2.2.1, .int .i64 v0.2.2.2.2.2.2.2.2.2.2.2.2.2.2.1, .int .i64 v0.2.2.2.2.2.2.2.2.2.2.2.2.2.2.2.1, .int .i64 v0.2.2.2.2.2.2.2.2.2.2.2.2.2.2.2.2.1, .sl 3 (v0.2.2.2.2.2.2.2.2.2.2.2.2.2.2.2.2.2.map eTurn)]] (res_spec_l31Melody r) := by
 unfold F_spec_l31Melody at hF
 refine con_of c69_.1 fun N => ?_
 refine ws 0 64 (qf (.sl 0 0 0) K3w (by simp) (r_nil (ws 64 448 (qp (K41 v0) rfl (qp (K41 v0) rfl (qp (.val none (.ptr [.sl 2 (v0.2.2.2.2.2.2.2.2.1.map eNote), .str v0.2.2.2.2.2.2.2.2.2.1, .sl 1 (v0.2.2.2.2.2.2.2.2.2.2.1.map vI), .sl 1 (v0.2.2.2.2.2.2.2.2.2.2.2.1.map vI), .int .i64 v0.2.2.2.2.2.2.2.2.2.2.2.2.1, .str v0.2.2.2.2.2.2.2.2.2.2.2.2.2.1, .int .i64 v0.2.2.2.2.2.2.2.2.2.2.2.2.2.2.1, .int .i64 v0.2.2.2.2.2.2.2.2.2.2.2.2.2.2.2.1, .int .i64 v0.2.2.2.2.2.2.2.2.2.2.2.2.2.2.2.2.1, .sl 3 (v0.2.2.2.2.2.2.2.2.2.2.2.2.2.2.2.2.2.map eTurn)])) rfl (qp (AL 2 (v0.2.2.2.2.2.2.2.2.1.map eNote)) rfl (bk hF fun u0 e0 hF => qc (.sl 320 0 u0.length) (K3x u0) false (con_spec_l09Pitches e0) c117_.2 (by first | rfl | simp) (by simp [res_spec_l09Pitches]) (qp (.sl 320 0 u0.length) rfl (r_nil (ws 448 1088 ?_)))))))))))
 refine qp (K41 v0) rfl (qp (K41 v0) rfl (qp (K41 v0) rfl (qp (.sl 320 0 u0.length) rfl (bk hF fun u1 e1 hF => qc (.tup [AI u1.1, AI u1.2]) (K3x u0) true (con_pre0 (K42 v0) (con_spec_l05Wrong e1)) c118_.2 (by simp [List.take_of_length_le]) rfl (qp (.tup [AI u1.1, AI u1.2]) rfl (qp (AI u1.1) rfl (qp (AI u1.2) rfl (qp (AI u1.1) rfl (qp (AI u1.2) rfl (r_nil (w_seq (ws 1088 1216 (qp (AI u1.1) rfl (qp (AB (decide ((0 : Int) ≤ u1.1))) rfl ?_))))))))))))))
 refine r_nil ?_
 refine cF hF (fun hF => ?_) fun hF => ?_
 ·
  exact ws 1216 1664 (qp (AI u1.1) rfl (bk hF fun u2 e2 hF => qC (AS u2) (K3x u0) (con_spec_l01Dec e2) c119_ (qp (AI u1.2) rfl (bk hF fun u3 e3 hF => qC (AS u3) (K3x u0) (con_spec_l01Dec e3) c119_ (qf (.agg [AI 1, AS u2, AS u3]) (K3x u0) (by simp) (qf (.sl 1536 0 (([(1, u2, u3)] : List TProblem).length)) ((1536, .row true 3 (([(1, u2, u3)] : List TProblem).map eProblem)) :: (K3x u0)) (by simp [List.take_of_length_le]) (qp (.sl 1536 0 (([(1, u2, u3)] : List TProblem).length)) rfl (r_nil (w_ret (thenQ_r (eQ hF)))))))))))
 refine w_skip (thenQ_n (ws 1216 2112 (qp (K41 v0) rfl (qp (K41 v0) rfl (qp (K41 v0) rfl (qp (K41 v0) rfl (qp (K41 v0) rfl (qp (.val none (.ptr (K42 v0))) rfl (qp (AI v0.2.2.2.2.2.2.1) rfl (qp (K41 v0) rfl (qp (K41 v0) rfl (qp (.val none (.ptr [.int .i64 v0.2.2.2.2.2.2.2.1, .sl 2 (v0.2.2.2.2.2.2.2.2.1.map eNote), .str v0.2.2.2.2.2.2.2.2.2.1, .sl 1 (v0.2.2.2.2.2.2.2.2.2.2.1.map vI), .sl 1 (v0.2.2.2.2.2.2.2.2.2.2.2.1.map vI), .int .i64 v0.2.2.2.2.2.2.2.2.2.2.2.2.1, .str v0.2.2.2.2.2.2.2.2.2.2.2.2.2.1, .int .i64 v0.2.2.2.2.2.2.2.2.2.2.2.2.2.2.1, .int .i64 v0.2.2.2.2.2.2.2.2.2.2.2.2.2.2.2.1, .int .i64 v0.2.2.2.2.2.2.2.2.2.2.2.2.2.2.2.2.1, .sl 3 (v0.2.2.2.2.2.2.2.2.2.2.2.2.2.2.2.2.2.map eTurn)])) rfl (qp (AI v0.2.2.2.2.2.2.2.1) rfl (bk hF fun u4 e4 hF => ?_))))))))))))))
 refine qc (.agg [AI u4.1, AI u4.2.1, .sl 1922 0 u4.2.2.1.length, .sl 1923 0 u4.2.2.2.length]) (K3y u4 u0) false (con_pre0 (K42 v0) (con_spec_l07Of e4)) c112_.2 (by first | rfl | simp) (by simp [res_spec_l07Of]) (qf (.ptr 1984 0 0) (K3z u4 u0) (by simp) (qf0 (.undef) (K40 u4 u0) (by simp) (r_nil (w_seq (ws 2112 2304 (qp (.sl 320 0 u0.length) rfl (bk hF fun u5 e5 hF => qc (AB u5) (K40 u4 u0) true (con_spec_l07Accepts e5) c120_.2 (by simp [List.take_of_length_le]) rfl (qp (AB (!u5)) rfl (r_nil ?_)))))))))
 refine cF hF (fun hF => ?_) fun hF => ?_
 ·
  refine ws 2304 2752 (qp (.sl 320 0 u0.length) rfl (bk hF fun u6 e6 hF => qc (.tup [AI u6.1, AI u6.2]) (K40 u4 u0) true (con_spec_l07Run e6) c121_.2 (by simp [List.take_of_length_le]) rfl (qp (.tup [AI u6.1, AI u6.2]) rfl (qp (AI u6.1) rfl (qp (AI u6.2) rfl (qp (AI u6.1) rfl (qp (AI u6.2) rfl (r_nil (ws 2752 3072 (qp (AI u6.2) rfl (bk hF fun u7 e7 hF => qC (AS u7) (K40 u4 u0) (con_spec_l01Dec e7) c119_ (qf (.agg [AI 2, AS [109, 101, 108, 111, 100, 121], AS u7]) (K40 u4 u0) (by simp) (qf (.sl 2944 0 (([(2, [109, 101, 108, 111, 100, 121], u7)] : List TProblem).length)) ((2944, .row true 3 (([(2, [109, 101, 108, 111, 100, 121], u7)] : List TProblem).map eProblem)) :: (K40 u4 u0)) (by simp [List.take_of_length_le]) (qp (.sl 2944 0 (([(2, [109, 101, 108, 111, 100, 121], u7)] : List TProblem).length)) rfl (r_nil ?_)))))))))))))))
  exact w_ret (thenQ_r (eQ hF))
 exact w_skip (thenQ_n (ws 2304 2432 (qf (.sl 2304 0 0) ((2304, .row true 3 (([] : List TProblem).map eProblem)) :: (K40 u4 u0)) (by simp [List.take_of_length_le]) (qp (.sl 2304 0 0) rfl (rR hF)))))

def c38 : MC := (sr [rg 4 (.f (.nilrow 3)), pT 5 (.mv (ci 0))] (.seq (sr [mvt 6 0, dT 7 68 [t6], pT 8 (.not t7)] (.cond t8 (sr [rg 4 (.f (.nilrow 3)), pT 5 (.mv (ci 1))] .ret) .skip)) (.seq (sr [mvt 9 1] (.block 0 (sr [bT 11 .eql t9 (ci 1), mvt 10 11] (.cond t10 (sr [mvt 12 0, dT 13 69 [t12], mvt 4 13, pT 5 (.mv (ci 0))] .ret) (sr [bT 15 .eql t9 (ci 2), mvt 14 15] (.cond t14 (sr [mvt 16 0, dT 17 70 [t16], mvt 4 17, pT 5 (.mv (ci 0))] .ret) .skip)))))) (sr [mvt 18 0, dT 19 71 [t18], mvt 4 19, pT 5 (.mv (ci 0))] .ret))))
theorem c38_ : IsF Tryz.prog 38 c38 [(.tmp 4), (.tmp 5)] := ⟨by kernel_rfl, by kernel_rfl⟩

def F_spec_l31Part (v0 : TWork) (v1 : Int) : Option ((List TProblem) × Int) :=
 ((F_spec_l31Ok v0).bind fun u0 => (bif (!u0) then some ([], 1)
 else (bif (decide (v1 = (1 : Int))) then ((F_spec_l31Melody v0).bind fun u1 => some (u1, 0))
 else (bif (decide (v1 = (2 : Int))) then none
 else none))))
@[simp] abbrev K43 : List (Nat × Root) := [(0, .row true 3 (([] : List Int).map vI))]
@[simp] abbrev K44 (v0 : TWork) : AV := .val none (.ptr [.str v0.1, .sl 1 (v0.2.1.map vI), .sl 1 (v0.2.2.1.map vI), .int .i64 v0.2.2.2.1, .int .i64 v0.2.2.2.2.1, .sl 1 (v0.2.2.2.2.2.1.map (eL 1 vI)), .int .i64 v0.2.2.2.2.2.2.1, .int .i64 v0.2.2.2.2.2.2.2.1, .sl 2 (v0.2.2.2.2.2.2.2.2.1.map eNote), .str v0.2.2.2.2.2.2.2.2.2.1, .sl 1 (v0.2.2.2.2.2.2.2.2.2.2.1.map vI), .sl 1 (v0.2.2.2.2.2.2.2.2.2.2.2.1.map vI), .int .i64 v0.2.2.2.2.2.2.2.2.2.2.2.2.1, .str v0.2.2.2.2.2.2.2.2.2.2.2.2.2.1, .int .i64 v0.2.2.2.2.2.2.2.2.2.2.2.2.2.2.1, .int .i64 v0.2.2.2.2.2.2.2.2.2.2.2.2.2.2.2.1, .int .i64 v0.2.2.2.2.2.2.2.2.2.2.2.2.2.2.2.2.1, .sl 3 (v0.2.2.2.2.2.2.2.2.2.2.2.2.2.2.2.2.2.map eTurn)])
@[simp] def res_spec_l31Part (r : (List TProblem) × Int) : RV := .tup [.one (.row true 3 (r.1.map eProblem)), .one (.val (.int .i64 r.2))]
theorem con_spec_l31Part {v0 : TWork} {v1 : Int} {r : (List TProblem) × Int} (hF : F_spec_l31Part v0 v1 = some r) : Con Tryz.prog 38 [.ptr [.str v0.1, .sl 1 (v0.2.1.map vI), .sl 1 (v0.2.2.1.map vI), .int .i64 v0.2.2.2.1, .int .i64 v0.2.2.2.2.1, .sl 1 (v0.2.2.2.2.2.1.map (eL 1 vI)), .int .i64 v0.2.2.2.2.2.2.1, .int .i64 v0.2.2.2.2.2.2.2.1, .sl 2 (v0.2.2.2.2.2.2.2.2.1.map eNote), .str v0.2.2.2.2.2.2.2.2.2.1, .sl 1 (v0.2.2.2.2.2.2.2.2.2.2.1.map vI), .sl 1 (v0.2.2.2.2.2.2.2.2.2.2.2.1.map vI), .int .i64 v0.2.2.2.2.2.2.2.2.2.2.2.2.1, .str v0.2.2.2.2.2.2.2.2.2.2.2.2.2.1, .int .i64 v0.2.2.2.2.2.2.2.2.2.2.2.2.2.2.1, .int .i64 v0.2.2.2.2.2.2.2.2.2.2.2.2.2.2.2.1, .int .i64 v0.2.2.2.2.2.2.2.2.2.2.2.2.2.2.2.2.1, .sl 3 (v0.2.2.2.2.2.2.2.2.2.2.2.2.2.2.2.2.2.map eTurn)], .int .i64 v1] (res_spec_l31Part r) := by
 unfold F_spec_l31Part at hF
 refine con_of c38_.1 fun N => ?_
 refine ws 0 128 (qf (.sl 0 0 0) K43 (by simp) (qp (AI 0) rfl (r_nil (w_seq (ws 128 320 (qp (K44 v0) rfl (bk hF fun u0 e0 hF => qC (AB u0) K43 (con_spec_l31Ok e0) c68_ (qp (AB (!u0)) rfl (r_nil ?_)))))))))
 refine cF hF (fun hF => ?_) fun hF => ?_
 ·
  exact ws 320 448 (qf (.sl 320 0 0) ((320, .row true 3 (([] : List TProblem).map eProblem)) :: K43) (by simp) (qp (AI 1) rfl (r_nil (w_ret (thenQ_r (eQ hF))))))
 refine w_skip (thenQ_n (w_seq (ws 320 384 (qp (AI v1) rfl (r_nil (w_block (ws 384 512 (qp (AB (decide (v1 = (1 : Int)))) rfl (qp (AB (decide (v1 = (1 : Int)))) rfl (r_nil ?_))))))))))
 refine cF hF (fun hF => ?_) fun hF => ?_
 ·
  exact ws 512 768 (qp (K44 v0) rfl (bk hF fun u1 e1 hF => qc (.sl 576 0 u1.length) ((576, .row true 3 (u1.map eProblem)) :: K43) false (con_spec_l31Melody e1) c69_.2 (by first | rfl | simp) (by simp [res_spec_l31Melody]) (qp (.sl 576 0 u1.length) rfl (qp (AI 0) rfl (r_nil (w_ret (blockQ_r (thenQ_r (eQ hF)))))))))
 refine ws 512 640 (qp (AB (decide (v1 = (2 : Int)))) rfl (qp (AB (decide (v1 = (2 : Int)))) rfl (r_nil ?_)))
 refine cF hF (fun hF => ?_) fun hF => ?_
 ·
  cases hF
 refine w_skip (blockQ_n (thenQ_n ?_))
 cases hF

def c15 : MC := (sr [rg 1 (.f (.box t0)), rg 2 (.f (.nilrow 3)), pT 3 (.mv (ci 0))] (sr [dT 4 38 [t1, (ci 1)], pT 5 (.ext t4 0), pT 6 (.ext t4 1), mvt 2 5, mvt 3 6] .ret))
theorem c15_ : IsF Tryz.prog 15 c15 [(.tmp 2), (.tmp 3)] := ⟨by kernel_rfl, by kernel_rfl⟩

def F_spec_MelodyProblems (v0 : TWork) : Option ((List TProblem) × Int) :=
 ((F_spec_l31Part v0 1).bind fun u0 => some (u0.1, u0.2))
@[simp] abbrev K45 (v0 : TWork) : List (Nat × Root) := [(0, .box [AS v0.1, AL 1 (v0.2.1.map vI), AL 1 (v0.2.2.1.map vI), AI v0.2.2.2.1, AI v0.2.2.2.2.1, AL 1 (v0.2.2.2.2.2.1.map (eL 1 vI)), AI v0.2.2.2.2.2.2.1, AI v0.2.2.2.2.2.2.2.1, AL 2 (v0.2.2.2.2.2.2.2.2.1.map eNote), AS v0.2.2.2.2.2.2.2.2.2.1, AL 1 (v0.2.2.2.2.2.2.2.2.2.2.1.map vI), AL 1 (v0.2.2.2.2.2.2.2.2.2.2.2.1.map vI), AI v0.2.2.2.2.2.2.2.2.2.2.2.2.1, AS v0.2.2.2.2.2.2.2.2.2.2.2.2.2.1, AI v0.2.2.2.2.2.2.2.2.2.2.2.2.2.2.1, AI v0.2.2.2.2.2.2.2.2.2.2.2.2.2.2.2.1, AI v0.2.2.2.2.2.2.2.2.2.2.2.2.2.2.2.2.1, AL 3 (v0.2.2.2.2.2.2.2.2.2.2.2.2.2.2.2.2.2.map eTurn)])]
@[simp] abbrev K46 (v0 : TWork) : List (Nat × Root) := ((64, .row true 3 (([] : List Int).map vI)) :: (K45 v0))
@[simp] def res_spec_MelodyProblems (r : (List TProblem) × Int) : RV := .tup [.one (.row true 3 (r.1.map eProblem)), .one (.val (.int .i64 r.2))]
theorem con_spec_MelodyProblems {v0 : TWork} {r : (List TProblem) × Int} (hF : F_spec_MelodyProblems v0 = some r) : Con Tryz.prog 15 [eWork v0] (res_spec_MelodyProblems r) := by
 unfold F_spec_MelodyProblems at hF
 refine con_of c15_.1 fun N => ?_
 exact ws 0 192 (qf (.ptr 0 0 0) (K45 v0) (by simp) (qf (.sl 64 0 0) (K46 v0) (by simp) (qp (AI 0) rfl (r_nil (ws 192 512 (bk hF fun u0 e0 hF => qc (.tup [.sl 192 0 u0.1.length, AI u0.2]) ((192, .row true 3 (u0.1.map eProblem)) :: (K46 v0)) true (con_spec_l31Part e0) c38_.2 (by simp [List.take_of_length_le]) (by simp [res_spec_l31Part]) (qp (.sl 192 0 u0.1.length) rfl (qp (AI u0.2) rfl (qp (.sl 192 0 u0.1.length) rfl (qp (AI u0.2) rfl (rR hF)))))))))))

def c145 : MC := (sr [pT 2 (.mv cf)] (.seq (sr [mvt 5 0, pT 6 (.lens t5), pT 7 (.mv (ci 0))] (.block 0 (.loop (sr [bT 8 .lss t7 t6] (.seq (cx t8 0) (.seq (.block 1 (sr [mvt 9 7, mvt 3 9] (sr [mvt 10 0, mvt 11 3, pT 12 (.ixs t10 t11), mvt 4 12] (sr [mvt 13 4, pT 14 (.bin .lss t13 (.c (.int .u8 97))), mvt 15 14, nF 16 15 t4, kF 17 15 (.bin .gtr t16 (.c (.int .u8 122))), pT 18 (.pick t15 ct t17), mvt 19 18, nT 20 19 t4, kT 21 19 (.bin .lss t20 (.c (.int .u8 48))), nT 22 19 t21, nF 23 22 t4, kF 24 22 (.bin .gtr t23 (.c (.int .u8 57))), kT 25 19 (.pick t22 ct t24), pT 26 (.pick t19 t25 cf)] (.cond t26 (sr [pT 2 (.mv cf)] .ret) .skip))))) (.reg [bT 27 .add t7 (ci 1), mvt 7 27]))))))) (sr [pT 2 (.mv ct)] .ret)))
theorem c145_ : IsF Tryz.prog 145 c145 [(.tmp 2)] := ⟨by kernel_rfl, by kernel_rfl⟩

def F_impl_onlyNameBytes_l0 (v0 : List UInt8) (k0 : Int → Option (Bool)) : Int → Option (Bool)
 | x1 => (bif (decide (x1 < (v0.length : Int))) then ((ix v0 x1).bind fun u0 => (bif (decide ((u0.toNat : Int) < (97 : Int))) then (bif (decide ((u0.toNat : Int) < (48 : Int))) then some false
 else (bif (decide ((57 : Int) < (u0.toNat : Int))) then some false
 else k0 (w64 (x1 + 1))))
 else (bif (decide ((122 : Int) < (u0.toNat : Int))) then (bif (decide ((u0.toNat : Int) < (48 : Int))) then some false
 else (bif (decide ((57 : Int) < (u0.toNat : Int))) then some false
 else k0 (w64 (x1 + 1))))
 else k0 (w64 (x1 + 1)))))
 else some true)
def F_impl_onlyNameBytes (v0 : List UInt8) : Option (Bool) :=
 loop (F_impl_onlyNameBytes_l0 v0) 0
@[simp] def res_impl_onlyNameBytes (r : Bool) : RV := .one (.one (.val (.bool r)))
theorem con_impl_onlyNameBytes {v0 : List UInt8} {r : Bool} (hF : F_impl_onlyNameBytes v0 = some r) : Con Tryz.prog 145 [.str v0] (res_impl_onlyNameBytes r) := by
 unfold F_impl_onlyNameBytes at hF
 refine con_of c145_.1 fun N => ?_
 refine ws 0 64 (qp (AB false) rfl (r_nil (w_seq (ws 64 256 (qp (AS v0) rfl (qp (AI (v0.length : Int)) rfl (qp (AI 0) rfl (r_nil (w_block ?_)))))))))
 refine wr (l' := [(0, AS v0), (6, AI (v0.length : Int)), (7, AI 0)]) (L := []) [0, 6, 7] [] 1 ?_
 refine w_loopF (F_impl_onlyNameBytes_l0 v0) (fun s : Int => mkS [(0, AS v0), (6, AI (v0.length : Int)), (7, AI s)] (fo []) 1) hF ?_
 rintro k0 x1 hF
 rw [F_impl_onlyNameBytes_l0] at hF
 try dsimp only
 refine ws 1 65 (qp (AB (decide (x1 < (v0.length : Int)))) rfl (r_nil (w_seq ?_)))
 refine cF hF (fun hF => ?_) fun hF => ?_
 ·
  refine w_skip (thenQ_n (w_seq (w_block (ws 65 193 (qp (AI x1) rfl (qp (AI x1) rfl (r_nil (ws 193 449 (qp (AS v0) rfl (qp (AI x1) rfl (bk hF fun u0 e0 hF => qp (.val none (.int .u8 (u0.toNat : Int))) (ev_ixs rfl rfl e0) (qp (.val none (.int .u8 (u0.toNat : Int))) rfl (r_nil (ws 449 1345 ?_))))))))))))))
  refine qp (.val none (.int .u8 (u0.toNat : Int))) rfl (qp (AB (decide ((u0.toNat : Int) < (97 : Int)))) rfl (qp (AB (decide ((u0.toNat : Int) < (97 : Int)))) rfl ?_))
  refine q_case 15 hF rfl (fun hF => ?_) (fun hF => ?_)
  ·
   refine qn2 (qp (AB true) rfl (qp (AB true) rfl (qg (.val none (.int .u8 (u0.toNat : Int))) rfl rfl (qg (AB (decide ((u0.toNat : Int) < (48 : Int)))) rfl rfl (qg (AB (decide ((u0.toNat : Int) < (48 : Int)))) rfl rfl ?_)))))
   refine q_case 22 hF rfl (fun hF => qn2 (qg (AB true) rfl rfl (qp (AB true) rfl (r_nil (w_true rfl (ws 1345 1409 (qp (AB false) rfl (r_nil (w_ret (blockQ_r (thenQ_r (thenQ_r (blockQ_r (thenQ_r (eQ hF))))))))))))))) fun hF => ?_
   refine qg (.val none (.int .u8 (u0.toNat : Int))) rfl rfl (qg (AB (decide ((57 : Int) < (u0.toNat : Int)))) rfl rfl (qg (AB (decide ((57 : Int) < (u0.toNat : Int)))) rfl rfl (qp (AB (decide ((57 : Int) < (u0.toNat : Int)))) rfl (r_nil (cF hF (fun hF => ws 1345 1409 (qp (AB false) rfl (r_nil (w_ret (blockQ_r (thenQ_r (thenQ_r (blockQ_r (thenQ_r (eQ hF)))))))))) fun hF => ?_)))))
   refine w_skip (blockQ_n (thenQ_n (w_reg 1345 1473 rfl rfl (qp (AI (w64 (x1 + 1))) rfl (qp (AI (w64 (x1 + 1))) rfl (r_nil (thenQ_n ?_)))))))
   refine ar (l' := [(0, AS v0), (6, AI (v0.length : Int)), (7, AI (w64 (x1 + 1)))]) (L := []) [0, 6, 7] [] 1 ⟨_, by rfl, hF⟩
  refine qg (.val none (.int .u8 (u0.toNat : Int))) rfl rfl (qg (AB (decide ((122 : Int) < (u0.toNat : Int)))) rfl rfl (qp (AB (decide ((122 : Int) < (u0.toNat : Int)))) rfl (qp (AB (decide ((122 : Int) < (u0.toNat : Int)))) rfl ?_)))
  refine q_case 19 hF rfl (fun hF => ?_) (fun hF => ?_)
  ·
   refine qg (.val none (.int .u8 (u0.toNat : Int))) rfl rfl (qg (AB (decide ((u0.toNat : Int) < (48 : Int)))) rfl rfl (qg (AB (decide ((u0.toNat : Int) < (48 : Int)))) rfl rfl ?_))
   refine q_case 22 hF rfl (fun hF => qn2 (qg (AB true) rfl rfl (qp (AB true) rfl (r_nil (w_true rfl (ws 1345 1409 (qp (AB false) rfl (r_nil (w_ret (blockQ_r (thenQ_r (thenQ_r (blockQ_r (thenQ_r (eQ hF))))))))))))))) fun hF => ?_
   refine qg (.val none (.int .u8 (u0.toNat : Int))) rfl rfl (qg (AB (decide ((57 : Int) < (u0.toNat : Int)))) rfl rfl (qg (AB (decide ((57 : Int) < (u0.toNat : Int)))) rfl rfl (qp (AB (decide ((57 : Int) < (u0.toNat : Int)))) rfl (r_nil (cF hF (fun hF => ws 1345 1409 (qp (AB false) rfl (r_nil (w_ret (blockQ_r (thenQ_r (thenQ_r (blockQ_r (thenQ_r (eQ hF)))))))))) fun hF => ?_)))))
   refine w_skip (blockQ_n (thenQ_n (w_reg 1345 1473 rfl rfl (qp (AI (w64 (x1 + 1))) rfl (qp (AI (w64 (x1 + 1))) rfl (r_nil (thenQ_n ?_)))))))
   refine ar (l' := [(0, AS v0), (6, AI (v0.length : Int)), (7, AI (w64 (x1 + 1)))]) (L := []) [0, 6, 7] [] 1 ⟨_, by rfl, hF⟩
  refine qn3 (qu rfl (qu rfl (qn rfl (qp (AB false) rfl (r_nil (w_false rfl (w_skip (blockQ_n (thenQ_n (w_reg 1345 1473 rfl rfl ?_))))))))))
  refine qp (AI (w64 (x1 + 1))) rfl (qp (AI (w64 (x1 + 1))) rfl (r_nil (thenQ_n ?_)))
  refine ar (l' := [(0, AS v0), (6, AI (v0.length : Int)), (7, AI (w64 (x1 + 1)))]) (L := []) [0, 6, 7] [] 1 ⟨_, by rfl, hF⟩
 exact w_exit (thenQ_e (thenQ_e (blockQ_e (thenQ_n (ws 65 129 (qp (AB true) rfl (rR hF)))))))

def c93 : MC := (sr [pT 2 (.mv cf)] (.seq (sr [mvt 3 0, pT 4 (.lens t3), bT 5 .lss t4 (ci 1), mvt 6 5, nF 7 6 t0, kF 8 6 (.lens t7), kF 9 6 (.bin .gtr t8 (ci 10)), pT 10 (.pick t6 ct t9), mvt 11 10, nF 12 11 t0, kF 13 11 (.ixs t12 (ci 0)), kF 14 11 (.bin .lss t13 (.c (.int .u8 97))), pT 15 (.pick t11 ct t14), mvt 16 15, nF 17 16 t0, kF 18 16 (.ixs t17 (ci 0)), kF 19 16 (.bin .gtr t18 (.c (.int .u8 122))), pT 20 (.pick t16 ct t19)] (.cond t20 (sr [pT 2 (.mv cf)] .ret) .skip)) (sr [mvt 21 0, dT 22 145 [t21], mvt 2 22] .ret)))
theorem c93_ : IsF Tryz.prog 93 c93 [(.tmp 2)] := ⟨by kernel_rfl, by kernel_rfl⟩

def F_impl_IsName (v0 : List UInt8) : Option (Bool) :=
 (bif (decide ((v0.length : Int) < (1 : Int))) then some false
 else (bif (decide ((10 : Int) < (v0.length : Int))) then some false
 else ((ix v0 0).bind fun u0 => (bif (decide ((u0.toNat : Int) < (97 : Int))) then some false
 else ((ix v0 0).bind fun u1 => (bif (decide ((122 : Int) < (u1.toNat : Int))) then some false
 else ((F_impl_onlyNameBytes v0).bind fun u2 => some u2)))))))
@[simp] def res_impl_IsName (r : Bool) : RV := .one (.one (.val (.bool r)))
theorem con_impl_IsName {v0 : List UInt8} {r : Bool} (hF : F_impl_IsName v0 = some r) : Con Tryz.prog 93 [.str v0] (res_impl_IsName r) := by
 unfold F_impl_IsName at hF
 refine con_of c93_.1 fun N => ?_
 refine ws 0 64 (qp (AB false) rfl (r_nil (w_seq (ws 64 1216 (qp (AS v0) rfl (qp (AI (v0.length : Int)) rfl (qp (AB (decide ((v0.length : Int) < (1 : Int)))) rfl (qp (AB (decide ((v0.length : Int) < (1 : Int)))) rfl ?_))))))))
 refine q_case 6 hF rfl (fun hF => ?_) (fun hF => ?_)
 ·
  refine qn3 (qp (AB true) rfl (qp (AB true) rfl (qn3 (qp (AB true) rfl (qp (AB true) rfl (qn3 (qp (AB true) rfl (r_nil (w_true rfl (ws 1216 1280 (qp (AB false) rfl (r_nil (w_ret ?_)))))))))))))
  exact thenQ_r (eQ hF)
 refine qg (AS v0) rfl rfl (qg (AI (v0.length : Int)) rfl rfl (qg (AB (decide ((10 : Int) < (v0.length : Int)))) rfl rfl (qp (AB (decide ((10 : Int) < (v0.length : Int)))) rfl (qp (AB (decide ((10 : Int) < (v0.length : Int)))) rfl ?_))))
 refine q_case 11 hF rfl (fun hF => qn3 (qp (AB true) rfl (qp (AB true) rfl (qn3 (qp (AB true) rfl (r_nil (w_true rfl (ws 1216 1280 (qp (AB false) rfl (r_nil (w_ret (thenQ_r (eQ hF))))))))))))) fun hF => ?_
 refine qg (AS v0) rfl rfl (bk hF fun u0 e0 hF => qg (.val none (.int .u8 (u0.toNat : Int))) rfl (ev_ixs rfl rfl e0) (qg (AB (decide ((u0.toNat : Int) < (97 : Int)))) rfl rfl (qp (AB (decide ((u0.toNat : Int) < (97 : Int)))) rfl (qp (AB (decide ((u0.toNat : Int) < (97 : Int)))) rfl (q_case 16 hF rfl (fun hF => qn3 (qp (AB true) rfl (r_nil (w_true rfl (ws 1216 1280 (qp (AB false) rfl (r_nil (w_ret (thenQ_r (eQ hF)))))))))) fun hF => ?_)))))
 refine qg (AS v0) rfl rfl (bk hF fun u1 e1 hF => qg (.val none (.int .u8 (u1.toNat : Int))) rfl (ev_ixs rfl rfl e1) (qg (AB (decide ((122 : Int) < (u1.toNat : Int)))) rfl rfl (qp (AB (decide ((122 : Int) < (u1.toNat : Int)))) rfl (r_nil (cF hF (fun hF => ws 1216 1280 (qp (AB false) rfl (r_nil (w_ret (thenQ_r (eQ hF)))))) fun hF => ?_)))))
 exact w_skip (thenQ_n (ws 1216 1408 (qp (AS v0) rfl (bk hF fun u2 e2 hF => qC (AB u2) [] (con_impl_onlyNameBytes e2) c145_ (qp (AB u2) rfl (rR hF))))))

def c191 : MC := (sr [pT 2 (.mv cf)] (.seq (sr [pT 3 (.mv (ci 1))] (.block 0 (.loop (.seq (sr [mvt 4 3, mvt 5 0, zT 6 5, bT 7 .lss t4 t6] (cx t7 0)) (.seq (.block 1 (sr [mP 10 t0, mP 11 t3, iF 12 10 11 1, lF 13 12, mP 14 t0, mP 15 t3, bF 16 .sub t15 (ci 1), iF 17 14 16 1, lF 18 17, bF 19 .leq t13 t18] (.cond t19 (sr [pT 2 (.mv cf)] .ret) .skip))) (.reg [mvt 8 3, bT 9 .add t8 (ci 1), mvt 3 9])))))) (sr [pT 2 (.mv ct)] .ret)))
theorem c191_ : IsF Tryz.prog 191 c191 [(.tmp 2)] := ⟨by kernel_rfl, by kernel_rfl⟩

def F_impl_increasing_l0 (v0 : List Int) (k0 : Int → Option (Bool)) : Int → Option (Bool)
 | x1 => (bif (decide (x1 < (v0.length : Int))) then ((ix v0 x1).bind fun u0 => ((ix v0 (w64 (x1 - 1))).bind fun u1 => (bif (decide (u0 ≤ u1)) then some false
 else k0 (w64 (x1 + 1)))))
 else some true)
def F_impl_increasing (v0 : List Int) : Option (Bool) :=
 loop (F_impl_increasing_l0 v0) 1
@[simp] abbrev K47 (v0 : List Int) : V := .sl 1 (v0.map vI)
@[simp] def res_impl_increasing (r : Bool) : RV := .one (.one (.val (.bool r)))
theorem con_impl_increasing {v0 : List Int} {r : Bool} (hF : F_impl_increasing v0 = some r) : Con Tryz.prog 191 [.sl 1 (v0.map vI)] (res_impl_increasing r) := by
 unfold F_impl_increasing at hF
 refine con_of c191_.1 fun N => ?_
 refine ws 0 64 (qp (AB false) rfl (r_nil (w_seq (ws 64 128 (qp (AI 1) rfl (r_nil (w_block ?_)))))))
 refine wr (l' := [(0, .val none (K47 v0)), (3, AI 1)]) (L := []) [0, 3] [] 1 ?_
 refine w_loopF (F_impl_increasing_l0 v0) (fun s : Int => mkS [(0, .val none (K47 v0)), (3, AI s)] (fo []) 1) hF ?_
 rintro k0 x1 hF
 rw [F_impl_increasing_l0] at hF
 try dsimp only
 refine w_seq (ws 1 257 (qp (AI x1) rfl (qp (.val none (K47 v0)) rfl (qp (AI (v0.length : Int)) (ev_len_n rfl) (qp (AB (decide (x1 < (v0.length : Int)))) rfl (r_nil ?_))))))
 refine cF hF (fun hF => ?_) fun hF => ?_
 ·
  refine w_skip (thenQ_n (w_seq (w_block (ws 257 897 (qp (.val none (K47 v0)) rfl (qp (AI x1) rfl (bk hF fun u0 e0 hF => qp (.val none (.ptr [.int .i64 u0])) (ev_iad_n rfl rfl e0 rfl) (qp (AI u0) rfl (qp (.val none (K47 v0)) rfl (qp (AI x1) rfl (qp (AI (w64 (x1 - 1))) rfl (bk hF fun u1 e1 hF => ?_))))))))))))
  refine qp (.val none (.ptr [.int .i64 u1])) (ev_iad_n rfl rfl e1 rfl) (qp (AI u1) rfl (qp (AB (decide (u0 ≤ u1))) rfl (r_nil (cF hF (fun hF => ws 897 961 (qp (AB false) rfl (r_nil (w_ret (blockQ_r (thenQ_r (thenQ_r (blockQ_r (thenQ_r (eQ hF)))))))))) fun hF => ?_))))
  refine w_skip (blockQ_n (thenQ_n (w_reg 897 1089 rfl rfl (qp (AI x1) rfl (qp (AI (w64 (x1 + 1))) rfl (qp (AI (w64 (x1 + 1))) rfl (r_nil (thenQ_n ?_))))))))
  refine ar (l' := [(0, .val none (K47 v0)), (3, AI (w64 (x1 + 1)))]) (L := []) [0, 3] [] 1 ⟨_, by rfl, hF⟩
 exact w_exit (thenQ_e (thenQ_e (blockQ_e (thenQ_n (ws 257 321 (qp (AB true) rfl (rR hF)))))))

def c187 : MC := (sr [pT 2 (.mv cf)] (sr [mvt 3 0, zT 4 3, bT 5 .geq t4 (ci 5), mvt 6 5, nT 7 6 t0, kT 8 6 (.iad t7 (ci 0) 1), kT 9 6 (.ld t8 1 false), kT 10 6 (.bin .eql t9 (ci 0)), pT 11 (.pick t6 t10 cf), mvt 12 11, nT 13 12 t0, ⟨(some 14), (some (12, true)), (.call true 191 [t13])⟩, pT 15 (.pick t12 t14 cf), mvt 16 15, nT 17 16 t0, nT 18 16 t0, kT 19 16 (.len t18), kT 20 16 (.bin .sub t19 (ci 1)), kT 21 16 (.iad t17 t20 1), kT 22 16 (.ld t21 1 false), kT 23 16 (.bin .lss t22 (ci 12)), pT 24 (.pick t16 t23 cf), mvt 2 24] .ret))
theorem c187_ : IsF Tryz.prog 187 c187 [(.tmp 2)] := ⟨by kernel_rfl, by kernel_rfl⟩

def F_impl_ValidScale (v0 : List Int) : Option (Bool) :=
 (bif (decide ((5 : Int) ≤ (v0.length : Int))) then ((ix v0 0).bind fun u0 => (bif (decide (u0 = (0 : Int))) then ((F_impl_increasing v0).bind fun u1 => (bif u1 then ((ix v0 (w64 ((v0.length : Int) - 1))).bind fun u2 => some (decide (u2 < (12 : Int))))
 else some false))
 else some false))
 else some false)
@[simp] abbrev K48 (v0 : List Int) : AV := AL 1 (v0.map vI)
@[simp] def res_impl_ValidScale (r : Bool) : RV := .one (.one (.val (.bool r)))
theorem con_impl_ValidScale {v0 : List Int} {r : Bool} (hF : F_impl_ValidScale v0 = some r) : Con Tryz.prog 187 [.sl 1 (v0.map vI)] (res_impl_ValidScale r) := by
 unfold F_impl_ValidScale at hF
 refine con_of c187_.1 fun N => ?_
 refine ws 0 64 (qp (AB false) rfl (r_nil (ws 64 1536 (qp (K48 v0) rfl (qp (AI (v0.length : Int)) (ev_len_n rfl) (qp (AB (decide ((5 : Int) ≤ (v0.length : Int)))) rfl (qp (AB (decide ((5 : Int) ≤ (v0.length : Int)))) rfl ?_)))))))
 refine q_case 6 hF rfl (fun hF => ?_) (fun hF => ?_)
 ·
  refine qg (K48 v0) rfl rfl (bk hF fun u0 e0 hF => qg (.val none (.ptr [.int .i64 u0])) rfl (ev_iad_n rfl rfl e0 rfl) (qg (AI u0) rfl rfl (qg (AB (decide (u0 = (0 : Int)))) rfl rfl (qp (AB (decide (u0 = (0 : Int)))) rfl (qp (AB (decide (u0 = (0 : Int)))) rfl ?_)))))
  refine q_case 12 hF rfl (fun hF => ?_) (fun hF => ?_)
  ·
   refine qg (K48 v0) rfl rfl (bk hF fun u1 e1 hF => qG (AB u1) [] (con_impl_increasing e1) c191_ (qp (AB u1) rfl (qp (AB u1) rfl (q_case 16 hF rfl (fun hF => qg (K48 v0) rfl rfl (qg (K48 v0) rfl rfl (qg (AI (v0.length : Int)) rfl (ev_len_n rfl) (qg (AI (w64 ((v0.length : Int) - 1))) rfl rfl (bk hF fun u2 e2 hF => qg (.val none (.ptr [.int .i64 u2])) rfl (ev_iad_n rfl rfl e2 rfl) (qg (AI u2) rfl rfl (qg (AB (decide (u2 < (12 : Int)))) rfl rfl (qp (AB (decide (u2 < (12 : Int)))) rfl (qp (AB (decide (u2 < (12 : Int)))) rfl (rR hF)))))))))) fun hF => ?_))))
   exact qn7 (qp (AB false) rfl (qp (AB false) rfl (rR hF)))
  exact qn2 (qp (AB false) rfl (qp (AB false) rfl (qn4 (qn3 (qp (AB false) rfl (qp (AB false) rfl (rR hF)))))))
 exact qn4 (qp (AB false) rfl (qp (AB false) rfl (qn2 (qp (AB false) rfl (qp (AB false) rfl (qn6 (qn rfl (qp (AB false) rfl (qp (AB false) rfl (rR hF))))))))))

def c220 : MC := (sr [pT 4 (.mv (ci 0))] (.seq (sr [mvt 6 0, zT 7 6, pT 8 (.mv (ci 0))] (.block 0 (.loop (sr [bT 9 .lss t8 t7] (.seq (cx t9 0) (.seq (.block 1 (sr [mvt 10 8, mvt 5 10] (sr [mvt 11 1, mvt 12 0, mvt 13 5, iT 14 12 13 1, lT 15 14, bT 16 .eql t11 t15] (.cond t16 (sr [mvt 17 5, mvt 4 17] .ret) .skip)))) (.reg [bT 18 .add t8 (ci 1), mvt 8 18]))))))) (sr [pT 4 (.mv (ci (-1)))] .ret)))
theorem c220_ : IsF Tryz.prog 220 c220 [(.tmp 4)] := ⟨by kernel_rfl, by kernel_rfl⟩

def F_slices_Index_Sint64_int64_l0 (v0 : List Int) (v1 : Int) (k0 : Int → Option (Int)) : Int → Option (Int)
 | x1 => (bif (decide (x1 < (v0.length : Int))) then ((ix v0 x1).bind fun u0 => (bif (decide (v1 = u0)) then some x1
 else k0 (w64 (x1 + 1))))
 else some (-1))
def F_slices_Index_Sint64_int64 (v0 : List Int) (v1 : Int) : Option (Int) :=
 loop (F_slices_Index_Sint64_int64_l0 v0 v1) 0
@[simp] def res_slices_Index_Sint64_int64 (r : Int) : RV := .one (.one (.val (.int .i64 r)))
theorem con_slices_Index_Sint64_int64 {v0 : List Int} {v1 : Int} {r : Int} (hF : F_slices_Index_Sint64_int64 v0 v1 = some r) : Con Tryz.prog 220 [.sl 1 (v0.map vI), .int .i64 v1] (res_slices_Index_Sint64_int64 r) := by
 unfold F_slices_Index_Sint64_int64 at hF
 refine con_of c220_.1 fun N => ?_
 refine ws 0 64 (qp (AI 0) rfl (r_nil (w_seq (ws 64 256 (qp (AL 1 (v0.map vI)) rfl (qp (AI (v0.length : Int)) (ev_len_n rfl) (qp (AI 0) rfl (r_nil (w_block ?_)))))))))
 refine wr (l' := [(0, AL 1 (v0.map vI)), (1, AI v1), (7, AI (v0.length : Int)), (8, AI 0)]) (L := []) [0, 1, 7, 8] [] 1 ?_
 refine w_loopF (F_slices_Index_Sint64_int64_l0 v0 v1) (fun s : Int => mkS [(0, AL 1 (v0.map vI)), (1, AI v1), (7, AI (v0.length : Int)), (8, AI s)] (fo []) 1) hF ?_
 rintro k0 x1 hF
 rw [F_slices_Index_Sint64_int64_l0] at hF
 try dsimp only
 refine ws 1 65 (qp (AB (decide (x1 < (v0.length : Int)))) rfl (r_nil (w_seq ?_)))
 refine cF hF (fun hF => ?_) fun hF => ?_
 ·
  refine w_skip (thenQ_n (w_seq (w_block (ws 65 193 (qp (AI x1) rfl (qp (AI x1) rfl (r_nil (ws 193 577 (qp (AI v1) rfl (qp (AL 1 (v0.map vI)) rfl (qp (AI x1) rfl (bk hF fun u0 e0 hF => ?_))))))))))))
  refine qp (.val none (.ptr [.int .i64 u0])) (ev_iad_n rfl rfl e0 rfl) (qp (AI u0) rfl (qp (AB (decide (v1 = u0))) rfl (r_nil (cF hF (fun hF => ws 577 705 (qp (AI x1) rfl (qp (AI x1) rfl (r_nil (w_ret (blockQ_r (thenQ_r (thenQ_r (blockQ_r (thenQ_r (eQ hF))))))))))) fun hF => ?_))))
  refine w_skip (blockQ_n (thenQ_n (w_reg 577 705 rfl rfl (qp (AI (w64 (x1 + 1))) rfl (qp (AI (w64 (x1 + 1))) rfl (r_nil (thenQ_n ?_)))))))
  refine ar (l' := [(0, AL 1 (v0.map vI)), (1, AI v1), (7, AI (v0.length : Int)), (8, AI (w64 (x1 + 1)))]) (L := []) [0, 1, 7, 8] [] 1 ⟨_, by rfl, hF⟩
 exact w_exit (thenQ_e (thenQ_e (blockQ_e (thenQ_n (ws 65 129 (qp (AI (-1)) rfl (rR hF)))))))

def c182 : MC := (sr [pT 4 (.mv cf)] (sr [mvt 5 0, mvt 6 1, dT 7 220 [t5, t6], bT 8 .geq t7 (ci 0), mvt 4 8] .ret))
theorem c182_ : IsF Tryz.prog 182 c182 [(.tmp 4)] := ⟨by kernel_rfl, by kernel_rfl⟩

def F_slices_Contains_Sint64_int64 (v0 : List Int) (v1 : Int) : Option (Bool) :=
 ((F_slices_Index_Sint64_int64 v0 v1).bind fun u0 => some (decide ((0 : Int) ≤ u0)))
@[simp] def res_slices_Contains_Sint64_int64 (r : Bool) : RV := .one (.one (.val (.bool r)))
theorem con_slices_Contains_Sint64_int64 {v0 : List Int} {v1 : Int} {r : Bool} (hF : F_slices_Contains_Sint64_int64 v0 v1 = some r) : Con Tryz.prog 182 [.sl 1 (v0.map vI), .int .i64 v1] (res_slices_Contains_Sint64_int64 r) := by
 unfold F_slices_Contains_Sint64_int64 at hF
 refine con_of c182_.1 fun N => ?_
 exact ws 0 64 (qp (AB false) rfl (r_nil (ws 64 384 (qp (AL 1 (v0.map vI)) rfl (qp (AI v1) rfl (bk hF fun u0 e0 hF => qC (AI u0) [] (con_slices_Index_Sint64_int64 e0) c220_ (qp (AB (decide ((0 : Int) ≤ u0))) rfl (qp (AB (decide ((0 : Int) ≤ u0))) rfl (rR hF)))))))))

def c131 : MC := (sr [rg 2 (.f (.box t0)), pT 4 (.mv cf)] (sr [pT 5 (.fad t2 1), lT 6 5, mvt 7 1, dT 8 182 [t6, t7], mvt 9 8, kF 10 9 (.fad t2 2), kF 11 9 (.ld t10 1 false), nF 12 9 t1, ⟨(some 13), (some (9, false)), (.call true 182 [t11, t12])⟩, pT 14 (.pick t9 ct t13), mvt 4 14] .ret))
theorem c131_ : IsF Tryz.prog 131 c131 [(.tmp 4)] := ⟨by kernel_rfl, by kernel_rfl⟩

def F_impl_Raga_hasTone (v0 : TRaga) (v1 : Int) : Option (Bool) :=
 ((F_slices_Contains_Sint64_int64 v0.2.1 v1).bind fun u0 => (bif u0 then some true
 else ((F_slices_Contains_Sint64_int64 v0.2.2.1 v1).bind fun u1 => some u1)))
@[simp] abbrev K49 (v0 : TRaga) : List (Nat × Root) := [(0, .box [AS v0.1, AL 1 (v0.2.1.map vI), AL 1 (v0.2.2.1.map vI), AI v0.2.2.2.1, AI v0.2.2.2.2.1, AL 1 (v0.2.2.2.2.2.map (eL 1 vI))])]
@[simp] def res_impl_Raga_hasTone (r : Bool) : RV := .one (.one (.val (.bool r)))
theorem con_impl_Raga_hasTone {v0 : TRaga} {v1 : Int} {r : Bool} (hF : F_impl_Raga_hasTone v0 v1 = some r) : Con Tryz.prog 131 [eRaga v0, .int .i64 v1] (res_impl_Raga_hasTone r) := by
 unfold F_impl_Raga_hasTone at hF
 refine con_of c131_.1 fun N => ?_
 refine ws 0 128 (qf (.ptr 0 0 0) (K49 v0) (by simp) (qp (AB false) rfl (r_nil (ws 128 832 (qp (.ptr 0 0 1) rfl (qp (AL 1 (v0.2.1.map vI)) rfl (qp (AI v1) rfl (bk hF fun u0 e0 hF => qC (AB u0) (K49 v0) (con_slices_Contains_Sint64_int64 e0) c182_ (qp (AB u0) rfl (q_case 9 hF rfl (fun hF => qn4 (qp (AB true) rfl (qp (AB true) rfl (rR hF)))) fun hF => ?_))))))))))
 exact qg (.ptr 0 0 2) rfl rfl (qg (AL 1 (v0.2.2.1.map vI)) rfl rfl (qg (AI v1) rfl rfl (bk hF fun u1 e1 hF => qG (AB u1) (K49 v0) (con_slices_Contains_Sint64_int64 e1) c182_ (qp (AB u1) rfl (qp (AB u1) rfl (rR hF))))))

def c137 : MC := (sr [pT 6 (.mv cf)] (sr [mvt 7 0, mvt 8 1, bT 9 .geq t7 t8, mvt 10 9, nT 11 10 t0, nT 12 10 t2, kT 13 10 (.bin .leq t11 t12), pT 14 (.pick t10 t13 cf), mvt 6 14] .ret))
theorem c137_ : IsF Tryz.prog 137 c137 [(.tmp 6)] := ⟨by kernel_rfl, by kernel_rfl⟩

def F_impl_within (v0 : Int) (v1 : Int) (v2 : Int) : Option (Bool) :=
 (bif (decide (v1 ≤ v0)) then some (decide (v0 ≤ v2))
 else some false)
@[simp] def res_impl_within (r : Bool) : RV := .one (.one (.val (.bool r)))
theorem con_impl_within {v0 : Int} {v1 : Int} {v2 : Int} {r : Bool} (hF : F_impl_within v0 v1 v2 = some r) : Con Tryz.prog 137 [.int .i64 v0, .int .i64 v1, .int .i64 v2] (res_impl_within r) := by
 unfold F_impl_within at hF
 refine con_of c137_.1 fun N => ?_
 refine ws 0 64 (qp (AB false) rfl (r_nil (ws 64 640 (qp (AI v0) rfl (qp (AI v1) rfl (qp (AB (decide (v1 ≤ v0))) rfl (qp (AB (decide (v1 ≤ v0))) rfl (q_case 10 hF rfl (fun hF => qg (AI v0) rfl rfl (qg (AI v2) rfl rfl (qg (AB (decide (v0 ≤ v2))) rfl rfl (qp (AB (decide (v0 ≤ v2))) rfl (qp (AB (decide (v0 ≤ v2))) rfl (rR hF)))))) fun hF => ?_))))))))
 exact qn3 (qp (AB false) rfl (qp (AB false) rfl (rR hF)))

def c188 : MC := (sr [pT 2 (.mv cf)] (sr [mvt 3 0, dT 4 137 [t3, (ci 0), (ci 11)], mvt 2 4] .ret))
theorem c188_ : IsF Tryz.prog 188 c188 [(.tmp 2)] := ⟨by kernel_rfl, by kernel_rfl⟩

def F_impl_toneOk (v0 : Int) : Option (Bool) :=
 ((F_impl_within v0 0 11).bind fun u0 => some u0)
@[simp] def res_impl_toneOk (r : Bool) : RV := .one (.one (.val (.bool r)))
theorem con_impl_toneOk {v0 : Int} {r : Bool} (hF : F_impl_toneOk v0 = some r) : Con Tryz.prog 188 [.int .i64 v0] (res_impl_toneOk r) := by
 unfold F_impl_toneOk at hF
 refine con_of c188_.1 fun N => ?_
 exact ws 0 64 (qp (AB false) rfl (r_nil (ws 64 256 (qp (AI v0) rfl (bk hF fun u0 e0 hF => qC (AB u0) [] (con_impl_within e0) c137_ (qp (AB u0) rfl (rR hF)))))))

def c244 : MC := (sr [pT 2 (.mv cf)] (sr [mvt 3 0, mvt 4 0, bT 5 .neq t3 t4, mvt 2 5] .ret))
theorem c244_ : IsF Tryz.prog 244 c244 [(.tmp 2)] := ⟨by kernel_rfl, by kernel_rfl⟩

def F_cmp_isNaN_int64 (v0 : Int) : Option (Bool) :=
 some (decide (v0 ≠ v0))
@[simp] def res_cmp_isNaN_int64 (r : Bool) : RV := .one (.one (.val (.bool r)))
theorem con_cmp_isNaN_int64 {v0 : Int} {r : Bool} (hF : F_cmp_isNaN_int64 v0 = some r) : Con Tryz.prog 244 [.int .i64 v0] (res_cmp_isNaN_int64 r) := by
 unfold F_cmp_isNaN_int64 at hF
 refine con_of c244_.1 fun N => ?_
 exact ws 0 64 (qp (AB false) rfl (r_nil (ws 64 320 (qp (AI v0) rfl (qp (AI v0) rfl (qp (AB (decide (v0 ≠ v0))) rfl (qp (AB (decide (v0 ≠ v0))) rfl (rR hF))))))))

def c219 : MC := (sr [pT 4 (.mv (ci 0))] (sr [mvt 7 0, dT 8 244 [t7], mvt 5 8] (sr [mvt 9 1, dT 10 244 [t9], mvt 6 10] (.seq (sr [mvt 11 5] (.cond t11 (.seq (sr [mvt 12 6] (.cond t12 (sr [pT 4 (.mv (ci 0))] .ret) .skip)) (sr [pT 4 (.mv (ci (-1)))] .ret)) .skip)) (.seq (sr [mvt 13 6] (.cond t13 (sr [pT 4 (.mv (ci 1))] .ret) .skip)) (.seq (sr [mvt 14 0, mvt 15 1, bT 16 .lss t14 t15] (.cond t16 (sr [pT 4 (.mv (ci (-1)))] .ret) .skip)) (.seq (sr [mvt 17 0, mvt 18 1, bT 19 .gtr t17 t18] (.cond t19 (sr [pT 4 (.mv (ci 1))] .ret) .skip)) (sr [pT 4 (.mv (ci 0))] .ret))))))))
theorem c219_ : IsF Tryz.prog 219 c219 [(.tmp 4)] := ⟨by kernel_rfl, by kernel_rfl⟩

def F_cmp_Compare_int64 (v0 : Int) (v1 : Int) : Option (Int) :=
 ((F_cmp_isNaN_int64 v0).bind fun u0 => ((F_cmp_isNaN_int64 v1).bind fun u1 => (bif u0 then (bif u1 then some 0
 else some (-1))
 else (bif u1 then some 1
 else (bif (decide (v0 < v1)) then some (-1)
 else (bif (decide (v1 < v0)) then some 1
 else some 0))))))
@[simp] def res_cmp_Compare_int64 (r : Int) : RV := .one (.one (.val (.int .i64 r)))
theorem con_cmp_Compare_int64 {v0 : Int} {v1 : Int} {r : Int} (hF : F_cmp_Compare_int64 v0 v1 = some r) : Con Tryz.prog 219 [.int .i64 v0, .int .i64 v1] (res_cmp_Compare_int64 r) := by
 unfold F_cmp_Compare_int64 at hF
 refine con_of c219_.1 fun N => ?_
 refine ws 0 64 (qp (AI 0) rfl (r_nil (ws 64 256 (qp (AI v0) rfl (bk hF fun u0 e0 hF => qC (AB u0) [] (con_cmp_isNaN_int64 e0) c244_ (qp (AB u0) rfl (r_nil (ws 256 448 (qp (AI v1) rfl (bk hF fun u1 e1 hF => qC (AB u1) [] (con_cmp_isNaN_int64 e1) c244_ (qp (AB u1) rfl (r_nil (w_seq (ws 448 512 (qp (AB u0) rfl ?_)))))))))))))))
 refine r_nil ?_
 refine cF hF (fun hF => ?_) fun hF => ?_
 ·
  refine w_seq (ws 512 576 (qp (AB u1) rfl (r_nil (cF hF (fun hF => ws 576 640 (qp (AI 0) rfl (r_nil (w_ret (thenQ_r (thenQ_r (eQ hF))))))) fun hF => ?_))))
  exact w_skip (thenQ_n (ws 576 640 (qp (AI (-1)) rfl (r_nil (w_ret (thenQ_r (eQ hF)))))))
 refine w_skip (thenQ_n (w_seq (ws 512 576 (qp (AB u1) rfl (r_nil (cF hF (fun hF => ws 576 640 (qp (AI 1) rfl (r_nil (w_ret (thenQ_r (eQ hF)))))) fun hF => ?_))))))
 refine w_skip (thenQ_n (w_seq (ws 576 768 (qp (AI v0) rfl (qp (AI v1) rfl (qp (AB (decide (v0 < v1))) rfl (r_nil (cF hF (fun hF => ws 768 832 (qp (AI (-1)) rfl (r_nil (w_ret (thenQ_r (eQ hF)))))) fun hF => ?_))))))))
 refine w_skip (thenQ_n (w_seq (ws 768 960 (qp (AI v0) rfl (qp (AI v1) rfl (qp (AB (decide (v1 < v0))) rfl (r_nil (cF hF (fun hF => ws 960 1024 (qp (AI 1) rfl (r_nil (w_ret (thenQ_r (eQ hF)))))) fun hF => ?_))))))))
 exact w_skip (thenQ_n (ws 960 1024 (qp (AI 0) rfl (rR hF))))

def c189 : MC := (sr [pT 4 (.mv (ci 0))] (.seq (sr [mvt 9 0, zT 10 9, pT 11 (.mv (ci 0))] (.block 0 (.loop (sr [bT 12 .lss t11 t10] (.seq (cx t12 0) (.seq (.block 1 (sr [mvt 13 11, iT 14 9 11 1, lT 15 14, mvt 5 13, mvt 6 15] (.seq (sr [mvt 16 5, mvt 17 1, zT 18 17, bT 19 .geq t16 t18] (.cond t19 (sr [pT 4 (.mv (ci 1))] .ret) .skip)) (sr [mvt 20 1, mvt 21 5, iT 22 20 21 1, lT 23 22, mvt 7 23] (sr [mvt 24 6, mvt 25 7, dT 26 219 [t24, t25], mvt 8 26] (sr [mvt 27 8, bT 28 .neq t27 (ci 0)] (.cond t28 (sr [mvt 29 8, mvt 4 29] .ret) .skip))))))) (.reg [bT 30 .add t11 (ci 1), mvt 11 30]))))))) (.seq (sr [mvt 31 0, zT 32 31, mvt 33 1, zT 34 33, bT 35 .lss t32 t34] (.cond t35 (sr [pT 4 (.mv (ci (-1)))] .ret) .skip)) (sr [pT 4 (.mv (ci 0))] .ret))))
theorem c189_ : IsF Tryz.prog 189 c189 [(.tmp 4)] := ⟨by kernel_rfl, by kernel_rfl⟩

def F_slices_Compare_Sint64_int64_l0 (v0 : List Int) (v1 : List Int) (k0 : Int → Option (Int)) : Int → Option (Int)
 | x1 => (bif (decide (x1 < (v0.length : Int))) then ((ix v0 x1).bind fun u0 => (bif (decide ((v1.length : Int) ≤ x1)) then some 1
 else ((ix v1 x1).bind fun u1 => ((F_cmp_Compare_int64 u0 u1).bind fun u2 => (bif (decide (u2 ≠ (0 : Int))) then some u2
 else k0 (w64 (x1 + 1)))))))
 else (bif (decide ((v0.length : Int) < (v1.length : Int))) then some (-1)
 else some 0))
def F_slices_Compare_Sint64_int64 (v0 : List Int) (v1 : List Int) : Option (Int) :=
 loop (F_slices_Compare_Sint64_int64_l0 v0 v1) 0
@[simp] abbrev K4a (v0 : List Int) : V := .sl 1 (v0.map vI)
@[simp] abbrev K4b (v1 : List Int) : V := .sl 1 (v1.map vI)
@[simp] def res_slices_Compare_Sint64_int64 (r : Int) : RV := .one (.one (.val (.int .i64 r)))
theorem con_slices_Compare_Sint64_int64 {v0 : List Int} {v1 : List Int} {r : Int} (hF : F_slices_Compare_Sint64_int64 v0 v1 = some r) : Con Tryz.prog 189 [.sl 1 (v0.map vI), .sl 1 (v1.map vI)] (res_slices_Compare_Sint64_int64 r) := by
 unfold F_slices_Compare_Sint64_int64 at hF
 refine con_of c189_.1 fun N => ?_
 refine ws 0 64 (qp (AI 0) rfl (r_nil (w_seq (ws 64 256 (qp (.val none (K4a v0)) rfl (qp (AI (v0.length : Int)) (ev_len_n rfl) (qp (AI 0) rfl (r_nil (w_block ?_)))))))))
 refine wr (l' := [(0, .val none (K4a v0)), (1, .val none (K4b v1)), (9, .val none (K4a v0)), (10, AI (v0.length : Int)), (11, AI 0)]) (L := []) [0, 1, 9, 10, 11] [] 1 ?_
 refine w_loopF (F_slices_Compare_Sint64_int64_l0 v0 v1) (fun s : Int => mkS [(0, .val none (K4a v0)), (1, .val none (K4b v1)), (9, .val none (K4a v0)), (10, AI (v0.length : Int)), (11, AI s)] (fo []) 1) hF ?_
 rintro k0 x1 hF
 rw [F_slices_Compare_Sint64_int64_l0] at hF
 try dsimp only
 refine ws 1 65 (qp (AB (decide (x1 < (v0.length : Int)))) rfl (r_nil (w_seq ?_)))
 refine cF hF (fun hF => ?_) fun hF => ?_
 ·
  refine w_skip (thenQ_n (w_seq (w_block (ws 65 385 (qp (AI x1) rfl (bk hF fun u0 e0 hF => qp (.val none (.ptr [.int .i64 u0])) (ev_iad_n rfl rfl e0 rfl) (qp (AI u0) rfl (qp (AI x1) rfl (qp (AI u0) rfl (r_nil (w_seq (ws 385 641 ?_))))))))))))
  refine qp (AI x1) rfl (qp (.val none (K4b v1)) rfl (qp (AI (v1.length : Int)) (ev_len_n rfl) (qp (AB (decide ((v1.length : Int) ≤ x1))) rfl (r_nil (cF hF (fun hF => ws 641 705 (qp (AI 1) rfl (r_nil (w_ret (thenQ_r (blockQ_r (thenQ_r (thenQ_r (blockQ_r (thenQ_r (eQ hF))))))))))) fun hF => ?_)))))
  refine w_skip (thenQ_n (ws 641 961 (qp (.val none (K4b v1)) rfl (qp (AI x1) rfl (bk hF fun u1 e1 hF => qp (.val none (.ptr [.int .i64 u1])) (ev_iad_n rfl rfl e1 rfl) (qp (AI u1) rfl (qp (AI u1) rfl (r_nil (ws 961 1217 (qp (AI u0) rfl (qp (AI u1) rfl (bk hF fun u2 e2 hF => qC (AI u2) [] (con_cmp_Compare_int64 e2) c219_ (qp (AI u2) rfl (r_nil (ws 1217 1345 ?_)))))))))))))))
  refine qp (AI u2) rfl (qp (AB (decide (u2 ≠ (0 : Int)))) rfl (r_nil (cF hF (fun hF => ws 1345 1473 (qp (AI u2) rfl (qp (AI u2) rfl (r_nil (w_ret (blockQ_r (thenQ_r (thenQ_r (blockQ_r (thenQ_r (eQ hF))))))))))) fun hF => ?_)))
  refine w_skip (blockQ_n (thenQ_n (w_reg 1345 1473 rfl rfl (qp (AI (w64 (x1 + 1))) rfl (qp (AI (w64 (x1 + 1))) rfl (r_nil (thenQ_n ?_)))))))
  refine ar (l' := [(0, .val none (K4a v0)), (1, .val none (K4b v1)), (9, .val none (K4a v0)), (10, AI (v0.length : Int)), (11, AI (w64 (x1 + 1)))]) (L := []) [0, 1, 9, 10, 11] [] 1 ⟨_, by rfl, hF⟩
 refine w_exit (thenQ_e (thenQ_e (blockQ_e (thenQ_n (w_seq (ws 65 385 (qp (.val none (K4a v0)) rfl (qp (AI (v0.length : Int)) (ev_len_n rfl) (qp (.val none (K4b v1)) rfl (qp (AI (v1.length : Int)) (ev_len_n rfl) (qp (AB (decide ((v0.length : Int) < (v1.length : Int)))) rfl (r_nil ?_))))))))))))
 refine cF hF (fun hF => ws 385 449 (qp (AI (-1)) rfl (r_nil (w_ret (thenQ_r (eQ hF)))))) fun hF => ?_
 exact w_skip (thenQ_n (ws 385 449 (qp (AI 0) rfl (rR hF))))

end Go.Ab
