/- Walks (printed by auto.py, a program of this session's own). -/
import Derived.Test.YtikfkniplbeeeaaGreatDoorU3
import Derived.Test.YtikfkniplbeeeaaGreatDoorProg
import Derived.KernelRfl
import Derived.Test.YtikfkniplbeeeaaGreatDoorSQ
set_option linter.unusedVariables false
set_option linter.unusedSimpArgs false
set_option maxRecDepth 8000
set_option maxHeartbeats 8000000
noncomputable section
namespace Go.Ab
open Go.RowKit Go.Proofs

def c23 : MC := (sr [rg 1 (.f (.box t0)), rg 2 (.f (.nilrow 3))] (sr [rg 3 (.f (.nilrow 3))] (sr [pT 9 (.fad t1 17), lT 10 9, dT 11 46 [t10], mvt 8 11, pT 12 (.ext t8 0), pT 13 (.ext t8 1), mvt 4 12, mvt 5 13] (.seq (sr [mvt 14 4, zT 15 14, pT 16 (.mv (ci 0))] (.block 0 (.loop (sr [bT 17 .lss t16 t15] (.seq (cx t17 0) (.seq (.block 1 (sr [iT 18 14 16 1, lT 19 18, mvt 7 19] (.reg [mP 20 t3, pF 21 (.fad t1 17), lF 22 21, mP 23 t7, jF 24 23 0 1, lF 25 24, iF 26 22 25 3, pF 27 (.fad t26 0), lF 28 27, mP 29 t7, dF 30 47 [t29], rg 31 (.f (.bld [((.int .i64 0), (0, true)), ((.str []), (0, true)), ((.str []), (0, true))] [(0, (1, (ci 5))), (1, (1, t28)), (2, (1, t30))])), rg 32 (.f (.bsl 3 [t31])), rg 33 (.f (.app t20 t32 3 40 true)), mP 3 t33]))) (.reg [bT 34 .add t16 (ci 1), mvt 16 34]))))))) (sr [mvt 35 3, mvt 2 35] .ret)))))
theorem c23_ : IsF Tryz.prog 23 c23 [(.tmp 2)] := ⟨by kernel_rfl, by kernel_rfl⟩

def F_impl_playerProblems_l0 (v0 : TWork) (u0 : (List (List Int)) × Int) (k1 : Int × (List TProblem) → Option (List TProblem)) : Int × (List TProblem) → Option (List TProblem)
 | (x6, x7) => (bif (decide (x6 < (u0.1.length : Int))) then ((ix u0.1 x6).bind fun u11 => ((ix u11 0).bind fun u12 => ((ix v0.2.2.2.2.2.2.2.2.2.2.2.2.2.2.2.2.2 u12).bind fun u13 => ((F_impl_ListText u11).bind fun u14 => (need (room (x7.length + ([(5, u13.1, u14)] : List TProblem).length) 40) (k1 (w64 (x6 + 1), x7 ++ ([(5, u13.1, u14)] : List TProblem))))))))
 else some x7)
def F_impl_playerProblems (v0 : TWork) : Option (List TProblem) :=
 ((F_impl_ClashesOf v0.2.2.2.2.2.2.2.2.2.2.2.2.2.2.2.2.2).bind fun u0 => loop (F_impl_playerProblems_l0 v0 u0) (0, []))
@[simp] abbrev K6l (v0 : TWork) : V := .sl 3 (v0.2.2.2.2.2.2.2.2.2.2.2.2.2.2.2.2.2.map eTurn)
@[simp] abbrev K6j (v0 : TWork) : Nat × Root := (0, .box [AS v0.1, AL 1 (v0.2.1.map vI), AL 1 (v0.2.2.1.map vI), AI v0.2.2.2.1, AI v0.2.2.2.2.1, AL 1 (v0.2.2.2.2.2.1.map (eL 1 vI)), AI v0.2.2.2.2.2.2.1, AI v0.2.2.2.2.2.2.2.1, AL 2 (v0.2.2.2.2.2.2.2.2.1.map eNote), AS v0.2.2.2.2.2.2.2.2.2.1, AL 1 (v0.2.2.2.2.2.2.2.2.2.2.1.map vI), AL 1 (v0.2.2.2.2.2.2.2.2.2.2.2.1.map vI), AI v0.2.2.2.2.2.2.2.2.2.2.2.2.1, AS v0.2.2.2.2.2.2.2.2.2.2.2.2.2.1, AI v0.2.2.2.2.2.2.2.2.2.2.2.2.2.2.1, AI v0.2.2.2.2.2.2.2.2.2.2.2.2.2.2.2.1, AI v0.2.2.2.2.2.2.2.2.2.2.2.2.2.2.2.2.1, .val none (K6l v0)])
@[simp] abbrev K6e (v0 : TWork) : List (Nat × Root) := [(K6j v0)]
@[simp] abbrev K6f (v0 : TWork) : List (Nat × Root) := ((64, .row true 3 (([] : List Int).map vI)) :: (K6e v0))
@[simp] abbrev K6g (v0 : TWork) : List (Nat × Root) := ((128, .row true 3 (([] : List TProblem).map eProblem)) :: (K6f v0))
@[simp] abbrev K6m (u0 : (List (List Int)) × Int) : Nat × Root := (2, .row true 1 (u0.1.map (eL 1 vI)))
@[simp] abbrev K6h (u0 : (List (List Int)) × Int) (x7 : List TProblem) (v0 : TWork) : List (Nat × Root) := ((K6m u0) :: (1, .row true 3 (x7.map eProblem)) :: (K6e v0))
@[simp] abbrev K6i (u13 : TTurn) (u14 : List UInt8) (u0 : (List (List Int)) × Int) (x7 : List TProblem) (v0 : TWork) : List (Nat × Root) := ((1027, .row true 3 (([(5, u13.1, u14)] : List TProblem).map eProblem)) :: (K6h u0 x7 v0))
@[simp] abbrev K6k (u11 : List Int) : AV := .val (some 2) (.sl 1 (u11.map vI))
@[simp] def res_impl_playerProblems (r : List TProblem) : RV := .one (.one (.row true 3 (r.map eProblem)))
theorem con_impl_playerProblems {v0 : TWork} {r : List TProblem} (hF : F_impl_playerProblems v0 = some r) : Con Tryz.prog 23 [eWork v0] (res_impl_playerProblems r) := by
 unfold F_impl_playerProblems at hF
 refine con_of c23_.1 fun N => ?_
 refine ws 0 128 (qf (.ptr 0 0 0) (K6e v0) (by simp) (qf (.sl 64 0 0) (K6f v0) (by simp) (r_nil (ws 128 192 (qf (.sl 128 0 0) (K6g v0) (by simp) (r_nil (ws 192 704 (qp (.ptr 0 0 17) rfl (qp (.val none (K6l v0)) rfl (bk hF fun u0 e0 hF => qc (.tup [.sl 320 0 u0.1.length, AI u0.2]) ((320, .row true 1 (u0.1.map (eL 1 vI))) :: (K6g v0)) false (con_impl_ClashesOf e0) c46_.2 (by first | rfl | simp) (by simp [res_impl_ClashesOf]) ?_))))))))))
 refine qp (.tup [.sl 320 0 u0.1.length, AI u0.2]) rfl (qp (.sl 320 0 u0.1.length) rfl (qp (AI u0.2) rfl (qp (.sl 320 0 u0.1.length) rfl (qp (AI u0.2) rfl (r_nil (w_seq (ws 704 896 (qp (.sl 320 0 u0.1.length) rfl (qp (AI (u0.1.length : Int)) rfl (qp (AI 0) rfl (r_nil (w_block ?_))))))))))))
 refine w_ren (l' := [(1, .ptr 0 0 0), (3, .sl 1 0 0), (14, .sl 2 0 u0.1.length), (15, AI (u0.1.length : Int)), (16, AI 0)]) (L := ((K6m u0) :: (1, .row true 3 (([] : List TProblem).map eProblem)) :: (K6e v0))) [1, 3, 14, 15, 16] [(320, 2), (128, 1), (0, 0)] 3 (by first | rfl | simp) (by first | rfl | simp) (by decide) (by decide) (by decide) ?_
 refine w_loopF (F_impl_playerProblems_l0 v0 u0) (fun s : Int × (List TProblem) => mkS [(1, .ptr 0 0 0), (3, .sl 1 0 s.2.length), (14, .sl 2 0 u0.1.length), (15, AI (u0.1.length : Int)), (16, AI s.1)] (fo [(K6m u0), (1, .row true 3 (s.2.map eProblem)), (K6j v0)]) 3) hF ?_
 rintro k1 ⟨x6, x7⟩ hF
 rw [F_impl_playerProblems_l0] at hF
 try dsimp only
 refine ws 3 67 (qp (AB (decide (x6 < (u0.1.length : Int)))) rfl (r_nil (w_seq ?_)))
 refine cF hF (fun hF => ?_) fun hF => ?_
 ·
  refine w_skip (thenQ_n (w_seq (w_block (ws 67 259 (bk hF fun u11 e11 hF => qp (.ptr 2 x6.toNat 0) (ev_iad_r rfl (by simp) rfl rfl e11) (qp (K6k u11) (ev_ld_r rfl rfl (ix_some e11).2 rfl rfl) (qp (K6k u11) rfl (r_nil (w_reg 259 1219 rfl rfl (qp (.sl 1 0 x7.length) rfl (qp (.ptr 0 0 17) rfl (qp (.val none (K6l v0)) rfl (qp (K6k u11) rfl (bk hF fun u12 e12 hF => ?_))))))))))))))
  refine qp (.val (some 2) (.ptr [.int .i64 u12])) (ev_iad_s rfl rfl rfl e12 rfl) (qp (AI u12) rfl (bk hF fun u13 e13 hF => qp (.val none (.ptr [.str u13.1, .int .i64 u13.2.1, .int .i64 u13.2.2])) (ev_iad_n rfl rfl e13 rfl) (qp (.val none (.ptr [.str u13.1, .int .i64 u13.2.1, .int .i64 u13.2.2])) rfl (qp (AS u13.1) rfl (qp (K6k u11) rfl (bk hF fun u14 e14 hF => qc (AS u14) (K6h u0 x7 v0) true (con_impl_ListText e14) c47_.2 (by simp [List.take_of_length_le]) rfl (qf (.agg [AI 5, AS u13.1, AS u14]) (K6h u0 x7 v0) (by simp) (qf (.sl 1027 0 (([(5, u13.1, u14)] : List TProblem).length)) (K6i u13 u14 u0 x7 v0) (by simp [List.take_of_length_le]) (nk hF fun g15 hF => qf (.sl 1091 0 ((x7 ++ ([(5, u13.1, u14)] : List TProblem)).length)) ((1091, .row true 3 ((x7 ++ ([(5, u13.1, u14)] : List TProblem)).map eProblem)) :: (1, .dead) :: (1027, .dead) :: (K6i u13 u14 u0 x7 v0)) (effT_app_l rfl (by simp) rfl rfl (by simp) rfl (by decide) g15 rfl) (qp (.sl 1091 0 ((x7 ++ ([(5, u13.1, u14)] : List TProblem)).length)) rfl (r_nil (blockQ_n (thenQ_n (w_reg 1219 1347 rfl rfl ?_))))))))))))))
  refine qp (AI (w64 (x6 + 1))) rfl (qp (AI (w64 (x6 + 1))) rfl (r_nil (thenQ_n ?_)))
  refine ar (l' := [(1, .ptr 0 0 0), (3, .sl 1 0 (x7 ++ ([(5, u13.1, u14)] : List TProblem)).length), (14, .sl 2 0 u0.1.length), (15, AI (u0.1.length : Int)), (16, AI (w64 (x6 + 1)))]) (L := ((K6m u0) :: (1, .row true 3 ((x7 ++ ([(5, u13.1, u14)] : List TProblem)).map eProblem)) :: (K6e v0))) [1, 3, 14, 15, 16] [(2, 2), (1091, 1), (0, 0)] 3 ⟨_, by rfl, hF⟩
 exact w_exit (thenQ_e (thenQ_e (blockQ_e (thenQ_n (ws 67 195 (qp (.sl 1 0 x7.length) rfl (qp (.sl 1 0 x7.length) rfl (rR hF))))))))

def c22 : MC := (sr [rg 2 (.f (.box t0)), rg 4 (.f (.nilrow 3)), pT 5 (.mv (ci 0))] (.seq (sr [pT 9 (.ld t2 18 true), dT 10 45 [t9], pT 11 (.not t10)] (.cond t11 (sr [rg 4 (.f (.nilrow 3)), pT 5 (.mv (ci 1))] .ret) .skip)) (sr [rg 6 (.f (.nilrow 3))] (.seq (sr [mvt 12 1, zT 13 12, pT 14 (.mv (ci 0))] (.block 0 (.loop (sr [bT 15 .lss t14 t13] (.seq (cx t15 0) (.seq (.block 1 (sr [iT 16 12 14 1, lT 17 16, mvt 8 17] (.reg [mvt 18 6, mvt 19 8, pT 20 (.ld t2 18 true), rg 21 (.callv t19 [t20]), rg 22 (.f (.app t18 t21 3 40 false)), mvt 6 22]))) (.reg [bT 23 .add t14 (ci 1), mvt 14 23]))))))) (sr [mvt 24 6, mvt 4 24, pT 5 (.mv (ci 0))] .ret)))))
theorem c22_ : IsF Tryz.prog 22 c22 [(.tmp 4), (.tmp 5)] := ⟨by kernel_rfl, by kernel_rfl⟩

def F_impl_findProblems_l0 (v0 : TWork) (v1 : List Unit) (k1 : Int × (List TProblem) → Option ((List TProblem) × Int)) : Int × (List TProblem) → Option ((List TProblem) × Int)
 | (x6, x7) => (bif (decide (x6 < (v1.length : Int))) then ((ix v1 x6).bind fun u7 => ((F_impl_playerProblems v0).bind fun u8 => (need (room (x7.length + u8.length) 40) (k1 (w64 (x6 + 1), x7 ++ u8)))))
 else some (x7, 0))
def F_impl_findProblems (v0 : TWork) (v1 : List Unit) : Option ((List TProblem) × Int) :=
 ((F_impl_ValidWork v0).bind fun u0 => (bif (!u0) then some ([], 1)
 else loop (F_impl_findProblems_l0 v0 v1) (0, [])))
@[simp] abbrev K6r (v0 : TWork) : List AV := [AS v0.1, AL 1 (v0.2.1.map vI), AL 1 (v0.2.2.1.map vI), AI v0.2.2.2.1, AI v0.2.2.2.2.1, AL 1 (v0.2.2.2.2.2.1.map (eL 1 vI)), AI v0.2.2.2.2.2.2.1, AI v0.2.2.2.2.2.2.2.1, AL 2 (v0.2.2.2.2.2.2.2.2.1.map eNote), AS v0.2.2.2.2.2.2.2.2.2.1, AL 1 (v0.2.2.2.2.2.2.2.2.2.2.1.map vI), AL 1 (v0.2.2.2.2.2.2.2.2.2.2.2.1.map vI), AI v0.2.2.2.2.2.2.2.2.2.2.2.2.1, AS v0.2.2.2.2.2.2.2.2.2.2.2.2.2.1, AI v0.2.2.2.2.2.2.2.2.2.2.2.2.2.2.1, AI v0.2.2.2.2.2.2.2.2.2.2.2.2.2.2.2.1, AI v0.2.2.2.2.2.2.2.2.2.2.2.2.2.2.2.2.1, AL 3 (v0.2.2.2.2.2.2.2.2.2.2.2.2.2.2.2.2.2.map eTurn)]
@[simp] abbrev K6n (v0 : TWork) : List (Nat × Root) := [(0, .box (K6r v0))]
@[simp] abbrev K6o (v0 : TWork) : List (Nat × Root) := ((64, .row true 3 (([] : List Int).map vI)) :: (K6n v0))
@[simp] abbrev K6p (v0 : TWork) : List (Nat × Root) := ((384, .row true 3 (([] : List TProblem).map eProblem)) :: (K6o v0))
@[simp] abbrev K6q (u8 : List TProblem) (x7 : List TProblem) (v0 : TWork) : List (Nat × Root) := ((450, .row true 3 (u8.map eProblem)) :: (1, .row true 3 (x7.map eProblem)) :: (K6n v0))
@[simp] def res_impl_findProblems (r : (List TProblem) × Int) : RV := .tup [.one (.row true 3 (r.1.map eProblem)), .one (.val (.int .i64 r.2))]
theorem con_impl_findProblems {v0 : TWork} {v1 : List Unit} {r : (List TProblem) × Int} (hF : F_impl_findProblems v0 v1 = some r) : Con Tryz.prog 22 [eWork v0, .sl 1 (v1.map (eFn 23))] (res_impl_findProblems r) := by
 unfold F_impl_findProblems at hF
 refine con_of c22_.1 fun N => ?_
 refine ws 0 192 (qf (.ptr 0 0 0) (K6n v0) (by simp) (qf (.sl 64 0 0) (K6o v0) (by simp) (qp (AI 0) rfl (r_nil (w_seq (ws 192 384 (qp (.agg (K6r v0)) rfl (bk hF fun u0 e0 hF => qC (AB u0) (K6o v0) (con_impl_ValidWork e0) c45_ (qp (AB (!u0)) rfl (r_nil ?_))))))))))
 refine cF hF (fun hF => ?_) fun hF => ?_
 ·
  exact ws 384 512 (qf (.sl 384 0 0) (K6p v0) (by simp) (qp (AI 1) rfl (r_nil (w_ret (thenQ_r (eQ hF))))))
 refine w_skip (thenQ_n (ws 384 448 (qf (.sl 384 0 0) (K6p v0) (by simp) (r_nil (w_seq (ws 448 640 (qp (AL 1 (v1.map (eFn 23))) rfl (qp (AI (v1.length : Int)) (ev_len_n rfl) (qp (AI 0) rfl (r_nil (w_block ?_)))))))))))
 refine w_ren (l' := [(2, .ptr 0 0 0), (6, .sl 1 0 0), (12, AL 1 (v1.map (eFn 23))), (13, AI (v1.length : Int)), (14, AI 0)]) (L := ((1, .row true 3 (([] : List TProblem).map eProblem)) :: (K6n v0))) [2, 6, 12, 13, 14] [(384, 1), (0, 0)] 2 (by first | rfl | simp) (by first | rfl | simp) (by decide) (by decide) (by decide) ?_
 refine w_loopF (F_impl_findProblems_l0 v0 v1) (fun s : Int × (List TProblem) => mkS [(2, .ptr 0 0 0), (6, .sl 1 0 s.2.length), (12, AL 1 (v1.map (eFn 23))), (13, AI (v1.length : Int)), (14, AI s.1)] (fo [(1, .row true 3 (s.2.map eProblem)), (0, .box (K6r v0))]) 2) hF ?_
 rintro k1 ⟨x6, x7⟩ hF
 rw [F_impl_findProblems_l0] at hF
 try dsimp only
 refine ws 2 66 (qp (AB (decide (x6 < (v1.length : Int)))) rfl (r_nil (w_seq ?_)))
 refine cF hF (fun hF => ?_) fun hF => ?_
 ·
  refine w_skip (thenQ_n (w_seq (w_block (ws 66 258 (bk hF fun u7 e7 hF => qp (.val none (.ptr [.fn 23 []])) (ev_iad_n rfl rfl e7 rfl) (qp (.val none (.fn 23 [])) rfl (qp (.val none (.fn 23 [])) rfl (r_nil (w_reg 258 642 rfl rfl (qp (.sl 1 0 x7.length) rfl (qp (.val none (.fn 23 [])) rfl (qp (.agg (K6r v0)) rfl (bk hF fun u8 e8 hF => qcv (.sl 450 0 u8.length) (K6q u8 x7 v0) false rfl (con_impl_playerProblems e8) c23_.2 (by first | rfl | simp) (by simp [res_impl_playerProblems]) (nk hF fun g9 hF => qf (.sl 514 0 ((x7 ++ u8).length)) ((514, .row true 3 ((x7 ++ u8).map eProblem)) :: (1, .dead) :: (K6q u8 x7 v0)) (effT_app_p rfl (by simp) rfl rfl (by simp) rfl (fun _ => rfl) (by decide) g9) (qp (.sl 514 0 ((x7 ++ u8).length)) rfl (r_nil ?_))))))))))))))))
  refine blockQ_n (thenQ_n (w_reg 642 770 rfl rfl (qp (AI (w64 (x6 + 1))) rfl (qp (AI (w64 (x6 + 1))) rfl (r_nil (thenQ_n ?_))))))
  refine ar (l' := [(2, .ptr 0 0 0), (6, .sl 1 0 (x7 ++ u8).length), (12, AL 1 (v1.map (eFn 23))), (13, AI (v1.length : Int)), (14, AI (w64 (x6 + 1)))]) (L := ((1, .row true 3 ((x7 ++ u8).map eProblem)) :: (K6n v0))) [2, 6, 12, 13, 14] [(514, 1), (0, 0)] 2 ⟨_, by rfl, hF⟩
 exact w_exit (thenQ_e (thenQ_e (blockQ_e (thenQ_n (ws 66 258 (qp (.sl 1 0 x7.length) rfl (qp (.sl 1 0 x7.length) rfl (qp (AI 0) rfl (rR hF)))))))))

def c7 : MC := (sr [rg 1 (.f (.box t0)), rg 2 (.f (.nilrow 3)), pT 3 (.mv (ci 0))] (sr [pT 4 (.ld t1 18 true), rg 5 (.f (.bsl 1 [(.f 23)])), dT 6 22 [t4, t5], pT 7 (.ext t6 0), pT 8 (.ext t6 1), mvt 2 7, mvt 3 8] .ret))
theorem c7_ : IsF Tryz.prog 7 c7 [(.tmp 2), (.tmp 3)] := ⟨by kernel_rfl, by kernel_rfl⟩

def F_impl_PlayerProblems (v0 : TWork) : Option ((List TProblem) × Int) :=
 ((F_impl_findProblems v0 [()]).bind fun u0 => some (u0.1, u0.2))
@[simp] abbrev K6v (v0 : TWork) : List AV := [AS v0.1, AL 1 (v0.2.1.map vI), AL 1 (v0.2.2.1.map vI), AI v0.2.2.2.1, AI v0.2.2.2.2.1, AL 1 (v0.2.2.2.2.2.1.map (eL 1 vI)), AI v0.2.2.2.2.2.2.1, AI v0.2.2.2.2.2.2.2.1, AL 2 (v0.2.2.2.2.2.2.2.2.1.map eNote), AS v0.2.2.2.2.2.2.2.2.2.1, AL 1 (v0.2.2.2.2.2.2.2.2.2.2.1.map vI), AL 1 (v0.2.2.2.2.2.2.2.2.2.2.2.1.map vI), AI v0.2.2.2.2.2.2.2.2.2.2.2.2.1, AS v0.2.2.2.2.2.2.2.2.2.2.2.2.2.1, AI v0.2.2.2.2.2.2.2.2.2.2.2.2.2.2.1, AI v0.2.2.2.2.2.2.2.2.2.2.2.2.2.2.2.1, AI v0.2.2.2.2.2.2.2.2.2.2.2.2.2.2.2.2.1, AL 3 (v0.2.2.2.2.2.2.2.2.2.2.2.2.2.2.2.2.2.map eTurn)]
@[simp] abbrev K6s (v0 : TWork) : List (Nat × Root) := [(0, .box (K6v v0))]
@[simp] abbrev K6t (v0 : TWork) : List (Nat × Root) := ((64, .row true 3 (([] : List Int).map vI)) :: (K6s v0))
@[simp] abbrev K6u (v0 : TWork) : List (Nat × Root) := ((256, .row false 1 ([()].map (eFn 23))) :: (K6t v0))
@[simp] def res_impl_PlayerProblems (r : (List TProblem) × Int) : RV := .tup [.one (.row true 3 (r.1.map eProblem)), .one (.val (.int .i64 r.2))]
theorem con_impl_PlayerProblems {v0 : TWork} {r : (List TProblem) × Int} (hF : F_impl_PlayerProblems v0 = some r) : Con Tryz.prog 7 [eWork v0] (res_impl_PlayerProblems r) := by
 unfold F_impl_PlayerProblems at hF
 refine con_of c7_.1 fun N => ?_
 exact ws 0 192 (qf (.ptr 0 0 0) (K6s v0) (by simp) (qf (.sl 64 0 0) (K6t v0) (by simp) (qp (AI 0) rfl (r_nil (ws 192 640 (qp (.agg (K6v v0)) rfl (qf (.sl 256 0 ([()].length)) (K6u v0) (by simp [List.take_of_length_le]) (bk hF fun u0 e0 hF => qc (.tup [.sl 320 0 u0.1.length, AI u0.2]) ((320, .row true 3 (u0.1.map eProblem)) :: (K6u v0)) true (con_impl_findProblems e0) c22_.2 (by simp [List.take_of_length_le]) (by simp [res_impl_findProblems]) (qp (.sl 320 0 u0.1.length) rfl (qp (AI u0.2) rfl (qp (.sl 320 0 u0.1.length) rfl (qp (AI u0.2) rfl (rR hF)))))))))))))

def c24 : MC := (sr [rg 2 (.f (.box t0)), rg 3 (.f (.box t1)), pT 4 (.mv cf)] (.seq (sr [pT 5 (.fad t2 0), lT 6 5, pT 7 (.fad t3 0), lT 8 7, bT 9 .neq t6 t8] (.cond t9 (sr [pT 4 (.mv cf)] .ret) .skip)) (.seq (sr [pT 10 (.fad t2 1), lT 11 10, pT 12 (.fad t3 1), lT 13 12, bT 14 .neq t11 t13] (.cond t14 (sr [pT 4 (.mv cf)] .ret) .skip)) (.seq (sr [pT 15 (.fad t2 2), lT 16 15, pT 17 (.fad t3 2), lT 18 17, bT 19 .neq t16 t18] (.cond t19 (sr [pT 4 (.mv cf)] .ret) .skip)) (sr [pT 4 (.mv ct)] .ret)))))
theorem c24_ : IsF Tryz.prog 24 c24 [(.tmp 4)] := ⟨by kernel_rfl, by kernel_rfl⟩

def F_laws_eqProblem (v0 : TProblem) (v1 : TProblem) : Option (Bool) :=
 (bif (decide (v0.1 ≠ v1.1)) then some false
 else (bif (decide (v0.2.1 ≠ v1.2.1)) then some false
 else (bif (decide (v0.2.2 ≠ v1.2.2)) then some false
 else some true)))
@[simp] def res_laws_eqProblem (r : Bool) : RV := .one (.one (.val (.bool r)))
theorem con_laws_eqProblem {v0 : TProblem} {v1 : TProblem} {r : Bool} (hF : F_laws_eqProblem v0 v1 = some r) : Con Tryz.prog 24 [eProblem v0, eProblem v1] (res_laws_eqProblem r) := by
 unfold F_laws_eqProblem at hF
 refine con_of c24_.1 fun N => ?_
 refine ws 0 192 (qf (.ptr 0 0 0) [(0, .box [AI v0.1, AS v0.2.1, AS v0.2.2])] (by simp) (qf (.ptr 64 0 0) [(64, .box [AI v1.1, AS v1.2.1, AS v1.2.2]), (0, .box [AI v0.1, AS v0.2.1, AS v0.2.2])] (by simp) (qp (AB false) rfl (r_nil (w_seq (ws 192 512 (qp (.ptr 0 0 0) rfl (qp (AI v0.1) rfl (qp (.ptr 64 0 0) rfl (qp (AI v1.1) rfl (qp (AB (decide (v0.1 ≠ v1.1))) rfl (r_nil ?_))))))))))))
 refine cF hF (fun hF => ws 512 576 (qp (AB false) rfl (r_nil (w_ret (thenQ_r (eQ hF)))))) fun hF => w_skip (thenQ_n (w_seq (ws 512 832 (qp (.ptr 0 0 1) rfl (qp (AS v0.2.1) rfl (qp (.ptr 64 0 1) rfl (qp (AS v1.2.1) rfl (qp (AB (decide (v0.2.1 ≠ v1.2.1))) rfl (r_nil ?_)))))))))
 refine cF hF (fun hF => ws 832 896 (qp (AB false) rfl (r_nil (w_ret (thenQ_r (eQ hF)))))) fun hF => w_skip (thenQ_n (w_seq (ws 832 1152 (qp (.ptr 0 0 2) rfl (qp (AS v0.2.2) rfl (qp (.ptr 64 0 2) rfl (qp (AS v1.2.2) rfl (qp (AB (decide (v0.2.2 ≠ v1.2.2))) rfl (r_nil ?_)))))))))
 refine cF hF (fun hF => ws 1152 1216 (qp (AB false) rfl (r_nil (w_ret (thenQ_r (eQ hF)))))) fun hF => ?_
 exact w_skip (thenQ_n (ws 1152 1216 (qp (AB true) rfl (rR hF))))

def c8 : MC := (sr [pT 4 (.mv cf)] (.seq (sr [mvt 6 0, zT 7 6, mvt 8 1, zT 9 8, bT 10 .neq t7 t9] (.cond t10 (sr [pT 4 (.mv cf)] .ret) .skip)) (.seq (sr [pT 5 (.mv (ci 0))] (.block 0 (.loop (.seq (sr [mvt 11 5, mvt 12 0, zT 13 12, bT 14 .lss t11 t13] (cx t14 0)) (.seq (.block 1 (sr [mP 17 t0, mP 18 t5, iF 19 17 18 3, pF 20 (.ld t19 3 true), mP 21 t1, mP 22 t5, iF 23 21 22 3, pF 24 (.ld t23 3 true), dF 25 24 [t20, t24], pF 26 (.not t25)] (.cond t26 (sr [pT 4 (.mv cf)] .ret) .skip))) (.reg [mvt 15 5, bT 16 .add t15 (ci 1), mvt 5 16])))))) (sr [pT 4 (.mv ct)] .ret))))
theorem c8_ : IsF Tryz.prog 8 c8 [(.tmp 4)] := ⟨by kernel_rfl, by kernel_rfl⟩

def F_laws_eqProblemS_l0 (v0 : List TProblem) (v1 : List TProblem) (k0 : Int → Option (Bool)) : Int → Option (Bool)
 | x1 => (bif (decide (x1 < (v0.length : Int))) then ((ix v0 x1).bind fun u0 => ((ix v1 x1).bind fun u1 => ((F_laws_eqProblem u0 u1).bind fun u2 => (bif (!u2) then some false
 else k0 (w64 (x1 + 1))))))
 else some true)
def F_laws_eqProblemS (v0 : List TProblem) (v1 : List TProblem) : Option (Bool) :=
 (bif (decide ((v0.length : Int) ≠ (v1.length : Int))) then some false
 else loop (F_laws_eqProblemS_l0 v0 v1) 0)
@[simp] def res_laws_eqProblemS (r : Bool) : RV := .one (.one (.val (.bool r)))
theorem con_laws_eqProblemS {v0 : List TProblem} {v1 : List TProblem} {r : Bool} (hF : F_laws_eqProblemS v0 v1 = some r) : Con Tryz.prog 8 [.sl 3 (v0.map eProblem), .sl 3 (v1.map eProblem)] (res_laws_eqProblemS r) := by
 unfold F_laws_eqProblemS at hF
 refine con_of c8_.1 fun N => ?_
 refine ws 0 64 (qp (AB false) rfl (r_nil (w_seq (ws 64 384 (qp (AL 3 (v0.map eProblem)) rfl (qp (AI (v0.length : Int)) (ev_len_n rfl) (qp (AL 3 (v1.map eProblem)) rfl (qp (AI (v1.length : Int)) (ev_len_n rfl) (qp (AB (decide ((v0.length : Int) ≠ (v1.length : Int)))) rfl (r_nil ?_))))))))))
 refine cF hF (fun hF => ws 384 448 (qp (AB false) rfl (r_nil (w_ret (thenQ_r (eQ hF)))))) fun hF => w_skip (thenQ_n (w_seq (ws 384 448 (qp (AI 0) rfl (r_nil (w_block ?_))))))
 refine wr (l' := [(0, AL 3 (v0.map eProblem)), (1, AL 3 (v1.map eProblem)), (5, AI 0)]) (L := []) [0, 1, 5] [] 1 ?_
 refine w_loopF (F_laws_eqProblemS_l0 v0 v1) (fun s : Int => mkS [(0, AL 3 (v0.map eProblem)), (1, AL 3 (v1.map eProblem)), (5, AI s)] (fo []) 1) hF ?_
 rintro k0 x1 hF
 rw [F_laws_eqProblemS_l0] at hF
 try dsimp only
 refine w_seq (ws 1 257 (qp (AI x1) rfl (qp (AL 3 (v0.map eProblem)) rfl (qp (AI (v0.length : Int)) (ev_len_n rfl) (qp (AB (decide (x1 < (v0.length : Int)))) rfl (r_nil ?_))))))
 refine cF hF (fun hF => ?_) fun hF => ?_
 ·
  refine w_skip (thenQ_n (w_seq (w_block (ws 257 897 (qp (AL 3 (v0.map eProblem)) rfl (qp (AI x1) rfl (bk hF fun u0 e0 hF => qp (.val none (.ptr [.int .i64 u0.1, .str u0.2.1, .str u0.2.2])) (ev_iad_n rfl rfl e0 rfl) (qp (.val none (eProblem u0)) rfl (qp (AL 3 (v1.map eProblem)) rfl (qp (AI x1) rfl (bk hF fun u1 e1 hF => qp (.val none (.ptr [.int .i64 u1.1, .str u1.2.1, .str u1.2.2])) (ev_iad_n rfl rfl e1 rfl) (qp (.val none (eProblem u1)) rfl (bk hF fun u2 e2 hF => qC (AB u2) [] (con_laws_eqProblem e2) c24_ (qp (AB (!u2)) rfl (r_nil ?_)))))))))))))))
  refine cF hF (fun hF => ws 897 961 (qp (AB false) rfl (r_nil (w_ret (blockQ_r (thenQ_r (thenQ_r (blockQ_r (thenQ_r (eQ hF)))))))))) fun hF => ?_
  refine w_skip (blockQ_n (thenQ_n (w_reg 897 1089 rfl rfl (qp (AI x1) rfl (qp (AI (w64 (x1 + 1))) rfl (qp (AI (w64 (x1 + 1))) rfl (r_nil (thenQ_n ?_))))))))
  refine ar (l' := [(0, AL 3 (v0.map eProblem)), (1, AL 3 (v1.map eProblem)), (5, AI (w64 (x1 + 1)))]) (L := []) [0, 1, 5] [] 1 ⟨_, by rfl, hF⟩
 exact w_exit (thenQ_e (thenQ_e (blockQ_e (thenQ_n (ws 257 321 (qp (AB true) rfl (rR hF)))))))

def c48 : MC := (sr [pT 4 (.mv cf)] (.seq (sr [mvt 6 0, zT 7 6, mvt 8 1, zT 9 8, bT 10 .neq t7 t9] (.cond t10 (sr [pT 4 (.mv cf)] .ret) .skip)) (.seq (sr [pT 5 (.mv (ci 0))] (.block 0 (.loop (.seq (sr [mvt 11 5, mvt 12 0, zT 13 12, bT 14 .lss t11 t13] (cx t14 0)) (.seq (.block 1 (sr [mP 17 t0, mP 18 t5, iF 19 17 18 1, lF 20 19, mP 21 t1, mP 22 t5, iF 23 21 22 1, lF 24 23, bF 25 .neq t20 t24] (.cond t25 (sr [pT 4 (.mv cf)] .ret) .skip))) (.reg [mvt 15 5, bT 16 .add t15 (ci 1), mvt 5 16])))))) (sr [pT 4 (.mv ct)] .ret))))
theorem c48_ : IsF Tryz.prog 48 c48 [(.tmp 4)] := ⟨by kernel_rfl, by kernel_rfl⟩

def F_laws_eqInt64S_l0 (v0 : List Int) (v1 : List Int) (k0 : Int → Option (Bool)) : Int → Option (Bool)
 | x1 => (bif (decide (x1 < (v0.length : Int))) then ((ix v0 x1).bind fun u0 => ((ix v1 x1).bind fun u1 => (bif (decide (u0 ≠ u1)) then some false
 else k0 (w64 (x1 + 1)))))
 else some true)
def F_laws_eqInt64S (v0 : List Int) (v1 : List Int) : Option (Bool) :=
 (bif (decide ((v0.length : Int) ≠ (v1.length : Int))) then some false
 else loop (F_laws_eqInt64S_l0 v0 v1) 0)
@[simp] abbrev K6w (v0 : List Int) : V := .sl 1 (v0.map vI)
@[simp] def res_laws_eqInt64S (r : Bool) : RV := .one (.one (.val (.bool r)))
theorem con_laws_eqInt64S {v0 : List Int} {v1 : List Int} {r : Bool} (hF : F_laws_eqInt64S v0 v1 = some r) : Con Tryz.prog 48 [.sl 1 (v0.map vI), .sl 1 (v1.map vI)] (res_laws_eqInt64S r) := by
 unfold F_laws_eqInt64S at hF
 refine con_of c48_.1 fun N => ?_
 refine ws 0 64 (qp (AB false) rfl (r_nil (w_seq (ws 64 384 (qp (.val none (K6w v0)) rfl (qp (AI (v0.length : Int)) (ev_len_n rfl) (qp (AL 1 (v1.map vI)) rfl (qp (AI (v1.length : Int)) (ev_len_n rfl) (qp (AB (decide ((v0.length : Int) ≠ (v1.length : Int)))) rfl (r_nil ?_))))))))))
 refine cF hF (fun hF => ws 384 448 (qp (AB false) rfl (r_nil (w_ret (thenQ_r (eQ hF)))))) fun hF => w_skip (thenQ_n (w_seq (ws 384 448 (qp (AI 0) rfl (r_nil (w_block ?_))))))
 refine wr (l' := [(0, .val none (K6w v0)), (1, AL 1 (v1.map vI)), (5, AI 0)]) (L := []) [0, 1, 5] [] 1 ?_
 refine w_loopF (F_laws_eqInt64S_l0 v0 v1) (fun s : Int => mkS [(0, .val none (K6w v0)), (1, AL 1 (v1.map vI)), (5, AI s)] (fo []) 1) hF ?_
 rintro k0 x1 hF
 rw [F_laws_eqInt64S_l0] at hF
 try dsimp only
 refine w_seq (ws 1 257 (qp (AI x1) rfl (qp (.val none (K6w v0)) rfl (qp (AI (v0.length : Int)) (ev_len_n rfl) (qp (AB (decide (x1 < (v0.length : Int)))) rfl (r_nil ?_))))))
 refine cF hF (fun hF => ?_) fun hF => ?_
 ·
  refine w_skip (thenQ_n (w_seq (w_block (ws 257 833 (qp (.val none (K6w v0)) rfl (qp (AI x1) rfl (bk hF fun u0 e0 hF => qp (.val none (.ptr [.int .i64 u0])) (ev_iad_n rfl rfl e0 rfl) (qp (AI u0) rfl (qp (AL 1 (v1.map vI)) rfl (qp (AI x1) rfl (bk hF fun u1 e1 hF => qp (.val none (.ptr [.int .i64 u1])) (ev_iad_n rfl rfl e1 rfl) (qp (AI u1) rfl (qp (AB (decide (u0 ≠ u1))) rfl (r_nil ?_))))))))))))))
  refine cF hF (fun hF => ws 833 897 (qp (AB false) rfl (r_nil (w_ret (blockQ_r (thenQ_r (thenQ_r (blockQ_r (thenQ_r (eQ hF)))))))))) fun hF => ?_
  refine w_skip (blockQ_n (thenQ_n (w_reg 833 1025 rfl rfl (qp (AI x1) rfl (qp (AI (w64 (x1 + 1))) rfl (qp (AI (w64 (x1 + 1))) rfl (r_nil (thenQ_n ?_))))))))
  refine ar (l' := [(0, .val none (K6w v0)), (1, AL 1 (v1.map vI)), (5, AI (w64 (x1 + 1)))]) (L := []) [0, 1, 5] [] 1 ⟨_, by rfl, hF⟩
 exact w_exit (thenQ_e (thenQ_e (blockQ_e (thenQ_n (ws 257 321 (qp (AB true) rfl (rR hF)))))))

def c49 : MC := (sr [pT 4 (.mv cf)] (.seq (sr [mvt 6 0, zT 7 6, mvt 8 1, zT 9 8, bT 10 .neq t7 t9] (.cond t10 (sr [pT 4 (.mv cf)] .ret) .skip)) (.seq (sr [pT 5 (.mv (ci 0))] (.block 0 (.loop (.seq (sr [mvt 11 5, mvt 12 0, zT 13 12, bT 14 .lss t11 t13] (cx t14 0)) (.seq (.block 1 (sr [mP 17 t0, mP 18 t5, iF 19 17 18 1, lF 20 19, mP 21 t1, mP 22 t5, iF 23 21 22 1, lF 24 23, dF 25 48 [t20, t24], pF 26 (.not t25)] (.cond t26 (sr [pT 4 (.mv cf)] .ret) .skip))) (.reg [mvt 15 5, bT 16 .add t15 (ci 1), mvt 5 16])))))) (sr [pT 4 (.mv ct)] .ret))))
theorem c49_ : IsF Tryz.prog 49 c49 [(.tmp 4)] := ⟨by kernel_rfl, by kernel_rfl⟩

def F_laws_eqInt64SS_l0 (v0 : List (List Int)) (v1 : List (List Int)) (k0 : Int → Option (Bool)) : Int → Option (Bool)
 | x1 => (bif (decide (x1 < (v0.length : Int))) then ((ix v0 x1).bind fun u0 => ((ix v1 x1).bind fun u1 => ((F_laws_eqInt64S u0 u1).bind fun u2 => (bif (!u2) then some false
 else k0 (w64 (x1 + 1))))))
 else some true)
def F_laws_eqInt64SS (v0 : List (List Int)) (v1 : List (List Int)) : Option (Bool) :=
 (bif (decide ((v0.length : Int) ≠ (v1.length : Int))) then some false
 else loop (F_laws_eqInt64SS_l0 v0 v1) 0)
@[simp] abbrev K6x (v0 : List (List Int)) : V := .sl 1 (v0.map (eL 1 vI))
@[simp] abbrev K6y (v1 : List (List Int)) : V := .sl 1 (v1.map (eL 1 vI))
@[simp] def res_laws_eqInt64SS (r : Bool) : RV := .one (.one (.val (.bool r)))
theorem con_laws_eqInt64SS {v0 : List (List Int)} {v1 : List (List Int)} {r : Bool} (hF : F_laws_eqInt64SS v0 v1 = some r) : Con Tryz.prog 49 [.sl 1 (v0.map (eL 1 vI)), .sl 1 (v1.map (eL 1 vI))] (res_laws_eqInt64SS r) := by
 unfold F_laws_eqInt64SS at hF
 refine con_of c49_.1 fun N => ?_
 refine ws 0 64 (qp (AB false) rfl (r_nil (w_seq (ws 64 384 (qp (.val none (K6x v0)) rfl (qp (AI (v0.length : Int)) (ev_len_n rfl) (qp (.val none (K6y v1)) rfl (qp (AI (v1.length : Int)) (ev_len_n rfl) (qp (AB (decide ((v0.length : Int) ≠ (v1.length : Int)))) rfl (r_nil ?_))))))))))
 refine cF hF (fun hF => ws 384 448 (qp (AB false) rfl (r_nil (w_ret (thenQ_r (eQ hF)))))) fun hF => w_skip (thenQ_n (w_seq (ws 384 448 (qp (AI 0) rfl (r_nil (w_block ?_))))))
 refine wr (l' := [(0, .val none (K6x v0)), (1, .val none (K6y v1)), (5, AI 0)]) (L := []) [0, 1, 5] [] 1 ?_
 refine w_loopF (F_laws_eqInt64SS_l0 v0 v1) (fun s : Int => mkS [(0, .val none (K6x v0)), (1, .val none (K6y v1)), (5, AI s)] (fo []) 1) hF ?_
 rintro k0 x1 hF
 rw [F_laws_eqInt64SS_l0] at hF
 try dsimp only
 refine w_seq (ws 1 257 (qp (AI x1) rfl (qp (.val none (K6x v0)) rfl (qp (AI (v0.length : Int)) (ev_len_n rfl) (qp (AB (decide (x1 < (v0.length : Int)))) rfl (r_nil ?_))))))
 refine cF hF (fun hF => ?_) fun hF => ?_
 ·
  refine w_skip (thenQ_n (w_seq (w_block (ws 257 897 (qp (.val none (K6x v0)) rfl (qp (AI x1) rfl (bk hF fun u0 e0 hF => qp (.val none (.ptr [.sl 1 (u0.map vI)])) (ev_iad_n rfl rfl e0 rfl) (qp (AL 1 (u0.map vI)) rfl (qp (.val none (K6y v1)) rfl (qp (AI x1) rfl (bk hF fun u1 e1 hF => qp (.val none (.ptr [.sl 1 (u1.map vI)])) (ev_iad_n rfl rfl e1 rfl) (qp (AL 1 (u1.map vI)) rfl (bk hF fun u2 e2 hF => qC (AB u2) [] (con_laws_eqInt64S e2) c48_ (qp (AB (!u2)) rfl (r_nil ?_)))))))))))))))
  refine cF hF (fun hF => ws 897 961 (qp (AB false) rfl (r_nil (w_ret (blockQ_r (thenQ_r (thenQ_r (blockQ_r (thenQ_r (eQ hF)))))))))) fun hF => ?_
  refine w_skip (blockQ_n (thenQ_n (w_reg 897 1089 rfl rfl (qp (AI x1) rfl (qp (AI (w64 (x1 + 1))) rfl (qp (AI (w64 (x1 + 1))) rfl (r_nil (thenQ_n ?_))))))))
  refine ar (l' := [(0, .val none (K6x v0)), (1, .val none (K6y v1)), (5, AI (w64 (x1 + 1)))]) (L := []) [0, 1, 5] [] 1 ⟨_, by rfl, hF⟩
 exact w_exit (thenQ_e (thenQ_e (blockQ_e (thenQ_n (ws 257 321 (qp (AB true) rfl (rR hF)))))))

def c25 : MC := (sr [rg 2 (.f (.box t0)), rg 3 (.f (.box t1)), pT 4 (.mv cf)] (.seq (sr [pT 5 (.fad t2 0), lT 6 5, pT 7 (.fad t3 0), lT 8 7, bT 9 .neq t6 t8] (.cond t9 (sr [pT 4 (.mv cf)] .ret) .skip)) (.seq (sr [pT 10 (.fad t2 1), lT 11 10, pT 12 (.fad t3 1), lT 13 12, dT 14 48 [t11, t13], pT 15 (.not t14)] (.cond t15 (sr [pT 4 (.mv cf)] .ret) .skip)) (.seq (sr [pT 16 (.fad t2 2), lT 17 16, pT 18 (.fad t3 2), lT 19 18, dT 20 48 [t17, t19], pT 21 (.not t20)] (.cond t21 (sr [pT 4 (.mv cf)] .ret) .skip)) (.seq (sr [pT 22 (.fad t2 3), lT 23 22, pT 24 (.fad t3 3), lT 25 24, bT 26 .neq t23 t25] (.cond t26 (sr [pT 4 (.mv cf)] .ret) .skip)) (.seq (sr [pT 27 (.fad t2 4), lT 28 27, pT 29 (.fad t3 4), lT 30 29, bT 31 .neq t28 t30] (.cond t31 (sr [pT 4 (.mv cf)] .ret) .skip)) (.seq (sr [pT 32 (.fad t2 5), lT 33 32, pT 34 (.fad t3 5), lT 35 34, dT 36 49 [t33, t35], pT 37 (.not t36)] (.cond t37 (sr [pT 4 (.mv cf)] .ret) .skip)) (sr [pT 4 (.mv ct)] .ret))))))))
theorem c25_ : IsF Tryz.prog 25 c25 [(.tmp 4)] := ⟨by kernel_rfl, by kernel_rfl⟩

def F_laws_eqRaga (v0 : TRaga) (v1 : TRaga) : Option (Bool) :=
 (bif (decide (v0.1 ≠ v1.1)) then some false
 else ((F_laws_eqInt64S v0.2.1 v1.2.1).bind fun u0 => (bif (!u0) then some false
 else ((F_laws_eqInt64S v0.2.2.1 v1.2.2.1).bind fun u1 => (bif (!u1) then some false
 else (bif (decide (v0.2.2.2.1 ≠ v1.2.2.2.1)) then some false
 else (bif (decide (v0.2.2.2.2.1 ≠ v1.2.2.2.2.1)) then some false
 else ((F_laws_eqInt64SS v0.2.2.2.2.2 v1.2.2.2.2.2).bind fun u2 => (bif (!u2) then some false
 else some true)))))))))
@[simp] abbrev K6z (v0 : TRaga) : List (Nat × Root) := [(0, .box [AS v0.1, AL 1 (v0.2.1.map vI), AL 1 (v0.2.2.1.map vI), AI v0.2.2.2.1, AI v0.2.2.2.2.1, AL 1 (v0.2.2.2.2.2.map (eL 1 vI))])]
@[simp] abbrev K70 (v1 : TRaga) (v0 : TRaga) : List (Nat × Root) := ((64, .box [AS v1.1, AL 1 (v1.2.1.map vI), AL 1 (v1.2.2.1.map vI), AI v1.2.2.2.1, AI v1.2.2.2.2.1, AL 1 (v1.2.2.2.2.2.map (eL 1 vI))]) :: (K6z v0))
@[simp] def res_laws_eqRaga (r : Bool) : RV := .one (.one (.val (.bool r)))
theorem con_laws_eqRaga {v0 : TRaga} {v1 : TRaga} {r : Bool} (hF : F_laws_eqRaga v0 v1 = some r) : Con Tryz.prog 25 [eRaga v0, eRaga v1] (res_laws_eqRaga r) := by
 unfold F_laws_eqRaga at hF
 refine con_of c25_.1 fun N => ?_
 refine ws 0 192 (qf (.ptr 0 0 0) (K6z v0) (by simp) (qf (.ptr 64 0 0) (K70 v1 v0) (by simp) (qp (AB false) rfl (r_nil (w_seq (ws 192 512 (qp (.ptr 0 0 0) rfl (qp (AS v0.1) rfl (qp (.ptr 64 0 0) rfl (qp (AS v1.1) rfl (qp (AB (decide (v0.1 ≠ v1.1))) rfl (r_nil ?_))))))))))))
 refine cF hF (fun hF => ws 512 576 (qp (AB false) rfl (r_nil (w_ret (thenQ_r (eQ hF)))))) fun hF => w_skip (thenQ_n (w_seq (ws 512 896 (qp (.ptr 0 0 1) rfl (qp (AL 1 (v0.2.1.map vI)) rfl (qp (.ptr 64 0 1) rfl (qp (AL 1 (v1.2.1.map vI)) rfl (bk hF fun u0 e0 hF => qC (AB u0) (K70 v1 v0) (con_laws_eqInt64S e0) c48_ (qp (AB (!u0)) rfl (r_nil ?_))))))))))
 refine cF hF (fun hF => ws 896 960 (qp (AB false) rfl (r_nil (w_ret (thenQ_r (eQ hF)))))) fun hF => w_skip (thenQ_n (w_seq (ws 896 1280 (qp (.ptr 0 0 2) rfl (qp (AL 1 (v0.2.2.1.map vI)) rfl (qp (.ptr 64 0 2) rfl (qp (AL 1 (v1.2.2.1.map vI)) rfl (bk hF fun u1 e1 hF => qC (AB u1) (K70 v1 v0) (con_laws_eqInt64S e1) c48_ (qp (AB (!u1)) rfl (r_nil ?_))))))))))
 refine cF hF (fun hF => ws 1280 1344 (qp (AB false) rfl (r_nil (w_ret (thenQ_r (eQ hF)))))) fun hF => w_skip (thenQ_n (w_seq (ws 1280 1600 (qp (.ptr 0 0 3) rfl (qp (AI v0.2.2.2.1) rfl (qp (.ptr 64 0 3) rfl (qp (AI v1.2.2.2.1) rfl (qp (AB (decide (v0.2.2.2.1 ≠ v1.2.2.2.1))) rfl (r_nil ?_)))))))))
 refine cF hF (fun hF => ws 1600 1664 (qp (AB false) rfl (r_nil (w_ret (thenQ_r (eQ hF)))))) fun hF => w_skip (thenQ_n (w_seq (ws 1600 1920 (qp (.ptr 0 0 4) rfl (qp (AI v0.2.2.2.2.1) rfl (qp (.ptr 64 0 4) rfl (qp (AI v1.2.2.2.2.1) rfl (qp (AB (decide (v0.2.2.2.2.1 ≠ v1.2.2.2.2.1))) rfl (r_nil ?_)))))))))
 refine cF hF (fun hF => ws 1920 1984 (qp (AB false) rfl (r_nil (w_ret (thenQ_r (eQ hF)))))) fun hF => w_skip (thenQ_n (w_seq (ws 1920 2304 (qp (.ptr 0 0 5) rfl (qp (AL 1 (v0.2.2.2.2.2.map (eL 1 vI))) rfl (qp (.ptr 64 0 5) rfl (qp (AL 1 (v1.2.2.2.2.2.map (eL 1 vI))) rfl (bk hF fun u2 e2 hF => qC (AB u2) (K70 v1 v0) (con_laws_eqInt64SS e2) c49_ (qp (AB (!u2)) rfl (r_nil ?_))))))))))
 refine cF hF (fun hF => ws 2304 2368 (qp (AB false) rfl (r_nil (w_ret (thenQ_r (eQ hF)))))) fun hF => ?_
 exact w_skip (thenQ_n (ws 2304 2368 (qp (AB true) rfl (rR hF))))

def c50 : MC := (sr [rg 2 (.f (.box t0)), rg 3 (.f (.box t1)), pT 4 (.mv cf)] (.seq (sr [pT 5 (.fad t2 0), lT 6 5, pT 7 (.fad t3 0), lT 8 7, bT 9 .neq t6 t8] (.cond t9 (sr [pT 4 (.mv cf)] .ret) .skip)) (.seq (sr [pT 10 (.fad t2 1), lT 11 10, pT 12 (.fad t3 1), lT 13 12, bT 14 .neq t11 t13] (.cond t14 (sr [pT 4 (.mv cf)] .ret) .skip)) (sr [pT 4 (.mv ct)] .ret))))
theorem c50_ : IsF Tryz.prog 50 c50 [(.tmp 4)] := ⟨by kernel_rfl, by kernel_rfl⟩

def F_laws_eqNote (v0 : TNote) (v1 : TNote) : Option (Bool) :=
 (bif (decide (v0.1 ≠ v1.1)) then some false
 else (bif (decide (v0.2 ≠ v1.2)) then some false
 else some true))
@[simp] def res_laws_eqNote (r : Bool) : RV := .one (.one (.val (.bool r)))
theorem con_laws_eqNote {v0 : TNote} {v1 : TNote} {r : Bool} (hF : F_laws_eqNote v0 v1 = some r) : Con Tryz.prog 50 [eNote v0, eNote v1] (res_laws_eqNote r) := by
 unfold F_laws_eqNote at hF
 refine con_of c50_.1 fun N => ?_
 refine ws 0 192 (qf (.ptr 0 0 0) [(0, .box [AI v0.1, AI v0.2])] (by simp) (qf (.ptr 64 0 0) [(64, .box [AI v1.1, AI v1.2]), (0, .box [AI v0.1, AI v0.2])] (by simp) (qp (AB false) rfl (r_nil (w_seq (ws 192 512 (qp (.ptr 0 0 0) rfl (qp (AI v0.1) rfl (qp (.ptr 64 0 0) rfl (qp (AI v1.1) rfl (qp (AB (decide (v0.1 ≠ v1.1))) rfl (r_nil ?_))))))))))))
 refine cF hF (fun hF => ws 512 576 (qp (AB false) rfl (r_nil (w_ret (thenQ_r (eQ hF)))))) fun hF => w_skip (thenQ_n (w_seq (ws 512 832 (qp (.ptr 0 0 1) rfl (qp (AI v0.2) rfl (qp (.ptr 64 0 1) rfl (qp (AI v1.2) rfl (qp (AB (decide (v0.2 ≠ v1.2))) rfl (r_nil ?_)))))))))
 refine cF hF (fun hF => ws 832 896 (qp (AB false) rfl (r_nil (w_ret (thenQ_r (eQ hF)))))) fun hF => ?_
 exact w_skip (thenQ_n (ws 832 896 (qp (AB true) rfl (rR hF))))

def c26 : MC := (sr [pT 4 (.mv cf)] (.seq (sr [mvt 6 0, zT 7 6, mvt 8 1, zT 9 8, bT 10 .neq t7 t9] (.cond t10 (sr [pT 4 (.mv cf)] .ret) .skip)) (.seq (sr [pT 5 (.mv (ci 0))] (.block 0 (.loop (.seq (sr [mvt 11 5, mvt 12 0, zT 13 12, bT 14 .lss t11 t13] (cx t14 0)) (.seq (.block 1 (sr [mP 17 t0, mP 18 t5, iF 19 17 18 2, pF 20 (.ld t19 2 true), mP 21 t1, mP 22 t5, iF 23 21 22 2, pF 24 (.ld t23 2 true), dF 25 50 [t20, t24], pF 26 (.not t25)] (.cond t26 (sr [pT 4 (.mv cf)] .ret) .skip))) (.reg [mvt 15 5, bT 16 .add t15 (ci 1), mvt 5 16])))))) (sr [pT 4 (.mv ct)] .ret))))
theorem c26_ : IsF Tryz.prog 26 c26 [(.tmp 4)] := ⟨by kernel_rfl, by kernel_rfl⟩

def F_laws_eqNoteS_l0 (v0 : List TNote) (v1 : List TNote) (k0 : Int → Option (Bool)) : Int → Option (Bool)
 | x1 => (bif (decide (x1 < (v0.length : Int))) then ((ix v0 x1).bind fun u0 => ((ix v1 x1).bind fun u1 => ((F_laws_eqNote u0 u1).bind fun u2 => (bif (!u2) then some false
 else k0 (w64 (x1 + 1))))))
 else some true)
def F_laws_eqNoteS (v0 : List TNote) (v1 : List TNote) : Option (Bool) :=
 (bif (decide ((v0.length : Int) ≠ (v1.length : Int))) then some false
 else loop (F_laws_eqNoteS_l0 v0 v1) 0)
@[simp] def res_laws_eqNoteS (r : Bool) : RV := .one (.one (.val (.bool r)))
theorem con_laws_eqNoteS {v0 : List TNote} {v1 : List TNote} {r : Bool} (hF : F_laws_eqNoteS v0 v1 = some r) : Con Tryz.prog 26 [.sl 2 (v0.map eNote), .sl 2 (v1.map eNote)] (res_laws_eqNoteS r) := by
 unfold F_laws_eqNoteS at hF
 refine con_of c26_.1 fun N => ?_
 refine ws 0 64 (qp (AB false) rfl (r_nil (w_seq (ws 64 384 (qp (AL 2 (v0.map eNote)) rfl (qp (AI (v0.length : Int)) (ev_len_n rfl) (qp (AL 2 (v1.map eNote)) rfl (qp (AI (v1.length : Int)) (ev_len_n rfl) (qp (AB (decide ((v0.length : Int) ≠ (v1.length : Int)))) rfl (r_nil ?_))))))))))
 refine cF hF (fun hF => ws 384 448 (qp (AB false) rfl (r_nil (w_ret (thenQ_r (eQ hF)))))) fun hF => w_skip (thenQ_n (w_seq (ws 384 448 (qp (AI 0) rfl (r_nil (w_block ?_))))))
 refine wr (l' := [(0, AL 2 (v0.map eNote)), (1, AL 2 (v1.map eNote)), (5, AI 0)]) (L := []) [0, 1, 5] [] 1 ?_
 refine w_loopF (F_laws_eqNoteS_l0 v0 v1) (fun s : Int => mkS [(0, AL 2 (v0.map eNote)), (1, AL 2 (v1.map eNote)), (5, AI s)] (fo []) 1) hF ?_
 rintro k0 x1 hF
 rw [F_laws_eqNoteS_l0] at hF
 try dsimp only
 refine w_seq (ws 1 257 (qp (AI x1) rfl (qp (AL 2 (v0.map eNote)) rfl (qp (AI (v0.length : Int)) (ev_len_n rfl) (qp (AB (decide (x1 < (v0.length : Int)))) rfl (r_nil ?_))))))
 refine cF hF (fun hF => ?_) fun hF => ?_
 ·
  refine w_skip (thenQ_n (w_seq (w_block (ws 257 897 (qp (AL 2 (v0.map eNote)) rfl (qp (AI x1) rfl (bk hF fun u0 e0 hF => qp (.val none (.ptr [.int .i64 u0.1, .int .i64 u0.2])) (ev_iad_n rfl rfl e0 rfl) (qp (.val none (eNote u0)) rfl (qp (AL 2 (v1.map eNote)) rfl (qp (AI x1) rfl (bk hF fun u1 e1 hF => qp (.val none (.ptr [.int .i64 u1.1, .int .i64 u1.2])) (ev_iad_n rfl rfl e1 rfl) (qp (.val none (eNote u1)) rfl (bk hF fun u2 e2 hF => qC (AB u2) [] (con_laws_eqNote e2) c50_ (qp (AB (!u2)) rfl (r_nil ?_)))))))))))))))
  refine cF hF (fun hF => ws 897 961 (qp (AB false) rfl (r_nil (w_ret (blockQ_r (thenQ_r (thenQ_r (blockQ_r (thenQ_r (eQ hF)))))))))) fun hF => ?_
  refine w_skip (blockQ_n (thenQ_n (w_reg 897 1089 rfl rfl (qp (AI x1) rfl (qp (AI (w64 (x1 + 1))) rfl (qp (AI (w64 (x1 + 1))) rfl (r_nil (thenQ_n ?_))))))))
  refine ar (l' := [(0, AL 2 (v0.map eNote)), (1, AL 2 (v1.map eNote)), (5, AI (w64 (x1 + 1)))]) (L := []) [0, 1, 5] [] 1 ⟨_, by rfl, hF⟩
 exact w_exit (thenQ_e (thenQ_e (blockQ_e (thenQ_n (ws 257 321 (qp (AB true) rfl (rR hF)))))))

def c27 : MC := (sr [rg 2 (.f (.box t0)), rg 3 (.f (.box t1)), pT 4 (.mv cf)] (.seq (sr [pT 5 (.fad t2 0), lT 6 5, pT 7 (.fad t3 0), lT 8 7, bT 9 .neq t6 t8] (.cond t9 (sr [pT 4 (.mv cf)] .ret) .skip)) (.seq (sr [pT 10 (.fad t2 1), lT 11 10, pT 12 (.fad t3 1), lT 13 12, dT 14 48 [t11, t13], pT 15 (.not t14)] (.cond t15 (sr [pT 4 (.mv cf)] .ret) .skip)) (.seq (sr [pT 16 (.fad t2 2), lT 17 16, pT 18 (.fad t3 2), lT 19 18, dT 20 48 [t17, t19], pT 21 (.not t20)] (.cond t21 (sr [pT 4 (.mv cf)] .ret) .skip)) (sr [pT 4 (.mv ct)] .ret)))))
theorem c27_ : IsF Tryz.prog 27 c27 [(.tmp 4)] := ⟨by kernel_rfl, by kernel_rfl⟩

def F_laws_eqTala (v0 : TTala) (v1 : TTala) : Option (Bool) :=
 (bif (decide (v0.1 ≠ v1.1)) then some false
 else ((F_laws_eqInt64S v0.2.1 v1.2.1).bind fun u0 => (bif (!u0) then some false
 else ((F_laws_eqInt64S v0.2.2 v1.2.2).bind fun u1 => (bif (!u1) then some false
 else some true)))))
@[simp] abbrev K71 (v0 : TTala) : List (Nat × Root) := [(0, .box [AS v0.1, AL 1 (v0.2.1.map vI), AL 1 (v0.2.2.map vI)])]
@[simp] abbrev K72 (v1 : TTala) (v0 : TTala) : List (Nat × Root) := ((64, .box [AS v1.1, AL 1 (v1.2.1.map vI), AL 1 (v1.2.2.map vI)]) :: (K71 v0))
@[simp] def res_laws_eqTala (r : Bool) : RV := .one (.one (.val (.bool r)))
theorem con_laws_eqTala {v0 : TTala} {v1 : TTala} {r : Bool} (hF : F_laws_eqTala v0 v1 = some r) : Con Tryz.prog 27 [eTala v0, eTala v1] (res_laws_eqTala r) := by
 unfold F_laws_eqTala at hF
 refine con_of c27_.1 fun N => ?_
 refine ws 0 192 (qf (.ptr 0 0 0) (K71 v0) (by simp) (qf (.ptr 64 0 0) (K72 v1 v0) (by simp) (qp (AB false) rfl (r_nil (w_seq (ws 192 512 (qp (.ptr 0 0 0) rfl (qp (AS v0.1) rfl (qp (.ptr 64 0 0) rfl (qp (AS v1.1) rfl (qp (AB (decide (v0.1 ≠ v1.1))) rfl (r_nil ?_))))))))))))
 refine cF hF (fun hF => ws 512 576 (qp (AB false) rfl (r_nil (w_ret (thenQ_r (eQ hF)))))) fun hF => w_skip (thenQ_n (w_seq (ws 512 896 (qp (.ptr 0 0 1) rfl (qp (AL 1 (v0.2.1.map vI)) rfl (qp (.ptr 64 0 1) rfl (qp (AL 1 (v1.2.1.map vI)) rfl (bk hF fun u0 e0 hF => qC (AB u0) (K72 v1 v0) (con_laws_eqInt64S e0) c48_ (qp (AB (!u0)) rfl (r_nil ?_))))))))))
 refine cF hF (fun hF => ws 896 960 (qp (AB false) rfl (r_nil (w_ret (thenQ_r (eQ hF)))))) fun hF => w_skip (thenQ_n (w_seq (ws 896 1280 (qp (.ptr 0 0 2) rfl (qp (AL 1 (v0.2.2.map vI)) rfl (qp (.ptr 64 0 2) rfl (qp (AL 1 (v1.2.2.map vI)) rfl (bk hF fun u1 e1 hF => qC (AB u1) (K72 v1 v0) (con_laws_eqInt64S e1) c48_ (qp (AB (!u1)) rfl (r_nil ?_))))))))))
 refine cF hF (fun hF => ws 1280 1344 (qp (AB false) rfl (r_nil (w_ret (thenQ_r (eQ hF)))))) fun hF => ?_
 exact w_skip (thenQ_n (ws 1280 1344 (qp (AB true) rfl (rR hF))))

def c51 : MC := (sr [rg 2 (.f (.box t0)), rg 3 (.f (.box t1)), pT 4 (.mv cf)] (.seq (sr [pT 5 (.fad t2 0), lT 6 5, pT 7 (.fad t3 0), lT 8 7, bT 9 .neq t6 t8] (.cond t9 (sr [pT 4 (.mv cf)] .ret) .skip)) (.seq (sr [pT 10 (.fad t2 1), lT 11 10, pT 12 (.fad t3 1), lT 13 12, bT 14 .neq t11 t13] (.cond t14 (sr [pT 4 (.mv cf)] .ret) .skip)) (.seq (sr [pT 15 (.fad t2 2), lT 16 15, pT 17 (.fad t3 2), lT 18 17, bT 19 .neq t16 t18] (.cond t19 (sr [pT 4 (.mv cf)] .ret) .skip)) (sr [pT 4 (.mv ct)] .ret)))))
theorem c51_ : IsF Tryz.prog 51 c51 [(.tmp 4)] := ⟨by kernel_rfl, by kernel_rfl⟩

def F_laws_eqTurn (v0 : TTurn) (v1 : TTurn) : Option (Bool) :=
 (bif (decide (v0.1 ≠ v1.1)) then some false
 else (bif (decide (v0.2.1 ≠ v1.2.1)) then some false
 else (bif (decide (v0.2.2 ≠ v1.2.2)) then some false
 else some true)))
@[simp] def res_laws_eqTurn (r : Bool) : RV := .one (.one (.val (.bool r)))
theorem con_laws_eqTurn {v0 : TTurn} {v1 : TTurn} {r : Bool} (hF : F_laws_eqTurn v0 v1 = some r) : Con Tryz.prog 51 [eTurn v0, eTurn v1] (res_laws_eqTurn r) := by
 unfold F_laws_eqTurn at hF
 refine con_of c51_.1 fun N => ?_
 refine ws 0 192 (qf (.ptr 0 0 0) [(0, .box [AS v0.1, AI v0.2.1, AI v0.2.2])] (by simp) (qf (.ptr 64 0 0) [(64, .box [AS v1.1, AI v1.2.1, AI v1.2.2]), (0, .box [AS v0.1, AI v0.2.1, AI v0.2.2])] (by simp) (qp (AB false) rfl (r_nil (w_seq (ws 192 512 (qp (.ptr 0 0 0) rfl (qp (AS v0.1) rfl (qp (.ptr 64 0 0) rfl (qp (AS v1.1) rfl (qp (AB (decide (v0.1 ≠ v1.1))) rfl (r_nil ?_))))))))))))
 refine cF hF (fun hF => ws 512 576 (qp (AB false) rfl (r_nil (w_ret (thenQ_r (eQ hF)))))) fun hF => w_skip (thenQ_n (w_seq (ws 512 832 (qp (.ptr 0 0 1) rfl (qp (AI v0.2.1) rfl (qp (.ptr 64 0 1) rfl (qp (AI v1.2.1) rfl (qp (AB (decide (v0.2.1 ≠ v1.2.1))) rfl (r_nil ?_)))))))))
 refine cF hF (fun hF => ws 832 896 (qp (AB false) rfl (r_nil (w_ret (thenQ_r (eQ hF)))))) fun hF => w_skip (thenQ_n (w_seq (ws 832 1152 (qp (.ptr 0 0 2) rfl (qp (AI v0.2.2) rfl (qp (.ptr 64 0 2) rfl (qp (AI v1.2.2) rfl (qp (AB (decide (v0.2.2 ≠ v1.2.2))) rfl (r_nil ?_)))))))))
 refine cF hF (fun hF => ws 1152 1216 (qp (AB false) rfl (r_nil (w_ret (thenQ_r (eQ hF)))))) fun hF => ?_
 exact w_skip (thenQ_n (ws 1152 1216 (qp (AB true) rfl (rR hF))))

def c28 : MC := (sr [pT 4 (.mv cf)] (.seq (sr [mvt 6 0, zT 7 6, mvt 8 1, zT 9 8, bT 10 .neq t7 t9] (.cond t10 (sr [pT 4 (.mv cf)] .ret) .skip)) (.seq (sr [pT 5 (.mv (ci 0))] (.block 0 (.loop (.seq (sr [mvt 11 5, mvt 12 0, zT 13 12, bT 14 .lss t11 t13] (cx t14 0)) (.seq (.block 1 (sr [mP 17 t0, mP 18 t5, iF 19 17 18 3, pF 20 (.ld t19 3 true), mP 21 t1, mP 22 t5, iF 23 21 22 3, pF 24 (.ld t23 3 true), dF 25 51 [t20, t24], pF 26 (.not t25)] (.cond t26 (sr [pT 4 (.mv cf)] .ret) .skip))) (.reg [mvt 15 5, bT 16 .add t15 (ci 1), mvt 5 16])))))) (sr [pT 4 (.mv ct)] .ret))))
theorem c28_ : IsF Tryz.prog 28 c28 [(.tmp 4)] := ⟨by kernel_rfl, by kernel_rfl⟩

def F_laws_eqTurnS_l0 (v0 : List TTurn) (v1 : List TTurn) (k0 : Int → Option (Bool)) : Int → Option (Bool)
 | x1 => (bif (decide (x1 < (v0.length : Int))) then ((ix v0 x1).bind fun u0 => ((ix v1 x1).bind fun u1 => ((F_laws_eqTurn u0 u1).bind fun u2 => (bif (!u2) then some false
 else k0 (w64 (x1 + 1))))))
 else some true)
def F_laws_eqTurnS (v0 : List TTurn) (v1 : List TTurn) : Option (Bool) :=
 (bif (decide ((v0.length : Int) ≠ (v1.length : Int))) then some false
 else loop (F_laws_eqTurnS_l0 v0 v1) 0)
@[simp] def res_laws_eqTurnS (r : Bool) : RV := .one (.one (.val (.bool r)))
theorem con_laws_eqTurnS {v0 : List TTurn} {v1 : List TTurn} {r : Bool} (hF : F_laws_eqTurnS v0 v1 = some r) : Con Tryz.prog 28 [.sl 3 (v0.map eTurn), .sl 3 (v1.map eTurn)] (res_laws_eqTurnS r) := by
 unfold F_laws_eqTurnS at hF
 refine con_of c28_.1 fun N => ?_
 refine ws 0 64 (qp (AB false) rfl (r_nil (w_seq (ws 64 384 (qp (AL 3 (v0.map eTurn)) rfl (qp (AI (v0.length : Int)) (ev_len_n rfl) (qp (AL 3 (v1.map eTurn)) rfl (qp (AI (v1.length : Int)) (ev_len_n rfl) (qp (AB (decide ((v0.length : Int) ≠ (v1.length : Int)))) rfl (r_nil ?_))))))))))
 refine cF hF (fun hF => ws 384 448 (qp (AB false) rfl (r_nil (w_ret (thenQ_r (eQ hF)))))) fun hF => w_skip (thenQ_n (w_seq (ws 384 448 (qp (AI 0) rfl (r_nil (w_block ?_))))))
 refine wr (l' := [(0, AL 3 (v0.map eTurn)), (1, AL 3 (v1.map eTurn)), (5, AI 0)]) (L := []) [0, 1, 5] [] 1 ?_
 refine w_loopF (F_laws_eqTurnS_l0 v0 v1) (fun s : Int => mkS [(0, AL 3 (v0.map eTurn)), (1, AL 3 (v1.map eTurn)), (5, AI s)] (fo []) 1) hF ?_
 rintro k0 x1 hF
 rw [F_laws_eqTurnS_l0] at hF
 try dsimp only
 refine w_seq (ws 1 257 (qp (AI x1) rfl (qp (AL 3 (v0.map eTurn)) rfl (qp (AI (v0.length : Int)) (ev_len_n rfl) (qp (AB (decide (x1 < (v0.length : Int)))) rfl (r_nil ?_))))))
 refine cF hF (fun hF => ?_) fun hF => ?_
 ·
  refine w_skip (thenQ_n (w_seq (w_block (ws 257 897 (qp (AL 3 (v0.map eTurn)) rfl (qp (AI x1) rfl (bk hF fun u0 e0 hF => qp (.val none (.ptr [.str u0.1, .int .i64 u0.2.1, .int .i64 u0.2.2])) (ev_iad_n rfl rfl e0 rfl) (qp (.val none (eTurn u0)) rfl (qp (AL 3 (v1.map eTurn)) rfl (qp (AI x1) rfl (bk hF fun u1 e1 hF => qp (.val none (.ptr [.str u1.1, .int .i64 u1.2.1, .int .i64 u1.2.2])) (ev_iad_n rfl rfl e1 rfl) (qp (.val none (eTurn u1)) rfl (bk hF fun u2 e2 hF => qC (AB u2) [] (con_laws_eqTurn e2) c51_ (qp (AB (!u2)) rfl (r_nil ?_)))))))))))))))
  refine cF hF (fun hF => ws 897 961 (qp (AB false) rfl (r_nil (w_ret (blockQ_r (thenQ_r (thenQ_r (blockQ_r (thenQ_r (eQ hF)))))))))) fun hF => ?_
  refine w_skip (blockQ_n (thenQ_n (w_reg 897 1089 rfl rfl (qp (AI x1) rfl (qp (AI (w64 (x1 + 1))) rfl (qp (AI (w64 (x1 + 1))) rfl (r_nil (thenQ_n ?_))))))))
  refine ar (l' := [(0, AL 3 (v0.map eTurn)), (1, AL 3 (v1.map eTurn)), (5, AI (w64 (x1 + 1)))]) (L := []) [0, 1, 5] [] 1 ⟨_, by rfl, hF⟩
 exact w_exit (thenQ_e (thenQ_e (blockQ_e (thenQ_n (ws 257 321 (qp (AB true) rfl (rR hF)))))))

def c9 : MC := (sr [rg 2 (.f (.box t0)), rg 3 (.f (.box t1)), pT 4 (.mv cf)] (.seq (sr [pT 5 (.fad t2 0), pT 6 (.ld t5 6 true), pT 7 (.fad t3 0), pT 8 (.ld t7 6 true), dT 9 25 [t6, t8], pT 10 (.not t9)] (.cond t10 (sr [pT 4 (.mv cf)] .ret) .skip)) (.seq (sr [pT 11 (.fad t2 6), lT 12 11, pT 13 (.fad t3 6), lT 14 13, bT 15 .neq t12 t14] (.cond t15 (sr [pT 4 (.mv cf)] .ret) .skip)) (.seq (sr [pT 16 (.fad t2 7), lT 17 16, pT 18 (.fad t3 7), lT 19 18, bT 20 .neq t17 t19] (.cond t20 (sr [pT 4 (.mv cf)] .ret) .skip)) (.seq (sr [pT 21 (.fad t2 8), lT 22 21, pT 23 (.fad t3 8), lT 24 23, dT 25 26 [t22, t24], pT 26 (.not t25)] (.cond t26 (sr [pT 4 (.mv cf)] .ret) .skip)) (.seq (sr [pT 27 (.fad t2 9), pT 28 (.ld t27 3 true), pT 29 (.fad t3 9), pT 30 (.ld t29 3 true), dT 31 27 [t28, t30], pT 32 (.not t31)] (.cond t32 (sr [pT 4 (.mv cf)] .ret) .skip)) (.seq (sr [pT 33 (.fad t2 12), lT 34 33, pT 35 (.fad t3 12), lT 36 35, bT 37 .neq t34 t36] (.cond t37 (sr [pT 4 (.mv cf)] .ret) .skip)) (.seq (sr [pT 38 (.fad t2 13), lT 39 38, pT 40 (.fad t3 13), lT 41 40, bT 42 .neq t39 t41] (.cond t42 (sr [pT 4 (.mv cf)] .ret) .skip)) (.seq (sr [pT 43 (.fad t2 14), lT 44 43, pT 45 (.fad t3 14), lT 46 45, bT 47 .neq t44 t46] (.cond t47 (sr [pT 4 (.mv cf)] .ret) .skip)) (.seq (sr [pT 48 (.fad t2 15), lT 49 48, pT 50 (.fad t3 15), lT 51 50, bT 52 .neq t49 t51] (.cond t52 (sr [pT 4 (.mv cf)] .ret) .skip)) (.seq (sr [pT 53 (.fad t2 16), lT 54 53, pT 55 (.fad t3 16), lT 56 55, bT 57 .neq t54 t56] (.cond t57 (sr [pT 4 (.mv cf)] .ret) .skip)) (.seq (sr [pT 58 (.fad t2 17), lT 59 58, pT 60 (.fad t3 17), lT 61 60, dT 62 28 [t59, t61], pT 63 (.not t62)] (.cond t63 (sr [pT 4 (.mv cf)] .ret) .skip)) (sr [pT 4 (.mv ct)] .ret)))))))))))))
theorem c9_ : IsF Tryz.prog 9 c9 [(.tmp 4)] := ⟨by kernel_rfl, by kernel_rfl⟩

def F_laws_eqWork (v0 : TWork) (v1 : TWork) : Option (Bool) :=
 ((F_laws_eqRaga (v0.1, v0.2.1, v0.2.2.1, v0.2.2.2.1, v0.2.2.2.2.1, v0.2.2.2.2.2.1) (v1.1, v1.2.1, v1.2.2.1, v1.2.2.2.1, v1.2.2.2.2.1, v1.2.2.2.2.2.1)).bind fun u0 => (bif (!u0) then some false
 else (bif (decide (v0.2.2.2.2.2.2.1 ≠ v1.2.2.2.2.2.2.1)) then some false
 else (bif (decide (v0.2.2.2.2.2.2.2.1 ≠ v1.2.2.2.2.2.2.2.1)) then some false
 else ((F_laws_eqNoteS v0.2.2.2.2.2.2.2.2.1 v1.2.2.2.2.2.2.2.2.1).bind fun u1 => (bif (!u1) then some false
 else ((F_laws_eqTala (v0.2.2.2.2.2.2.2.2.2.1, v0.2.2.2.2.2.2.2.2.2.2.1, v0.2.2.2.2.2.2.2.2.2.2.2.1) (v1.2.2.2.2.2.2.2.2.2.1, v1.2.2.2.2.2.2.2.2.2.2.1, v1.2.2.2.2.2.2.2.2.2.2.2.1)).bind fun u2 => (bif (!u2) then some false
 else (bif (decide (v0.2.2.2.2.2.2.2.2.2.2.2.2.1 ≠ v1.2.2.2.2.2.2.2.2.2.2.2.2.1)) then some false
 else (bif (decide (v0.2.2.2.2.2.2.2.2.2.2.2.2.2.1 ≠ v1.2.2.2.2.2.2.2.2.2.2.2.2.2.1)) then some false
 else (bif (decide (v0.2.2.2.2.2.2.2.2.2.2.2.2.2.2.1 ≠ v1.2.2.2.2.2.2.2.2.2.2.2.2.2.2.1)) then some false
 else (bif (decide (v0.2.2.2.2.2.2.2.2.2.2.2.2.2.2.2.1 ≠ v1.2.2.2.2.2.2.2.2.2.2.2.2.2.2.2.1)) then some false
 else (bif (decide (v0.2.2.2.2.2.2.2.2.2.2.2.2.2.2.2.2.1 ≠ v1.2.2.2.2.2.2.2.2.2.2.2.2.2.2.2.2.1)) then some false
 else ((F_laws_eqTurnS v0.2.2.2.2.2.2.2.2.2.2.2.2.2.2.2.2.2 v1.2.2.2.2.2.2.2.2.2.2.2.2.2.2.2.2.2).bind fun u3 => (bif (!u3) then some false
 else some true)))))))))))))))
@[simp] abbrev K73 (v0 : TWork) : List (Nat × Root) := [(0, .box [AS v0.1, AL 1 (v0.2.1.map vI), AL 1 (v0.2.2.1.map vI), AI v0.2.2.2.1, AI v0.2.2.2.2.1, AL 1 (v0.2.2.2.2.2.1.map (eL 1 vI)), AI v0.2.2.2.2.2.2.1, AI v0.2.2.2.2.2.2.2.1, AL 2 (v0.2.2.2.2.2.2.2.2.1.map eNote), AS v0.2.2.2.2.2.2.2.2.2.1, AL 1 (v0.2.2.2.2.2.2.2.2.2.2.1.map vI), AL 1 (v0.2.2.2.2.2.2.2.2.2.2.2.1.map vI), AI v0.2.2.2.2.2.2.2.2.2.2.2.2.1, AS v0.2.2.2.2.2.2.2.2.2.2.2.2.2.1, AI v0.2.2.2.2.2.2.2.2.2.2.2.2.2.2.1, AI v0.2.2.2.2.2.2.2.2.2.2.2.2.2.2.2.1, AI v0.2.2.2.2.2.2.2.2.2.2.2.2.2.2.2.2.1, AL 3 (v0.2.2.2.2.2.2.2.2.2.2.2.2.2.2.2.2.2.map eTurn)])]
@[simp] abbrev K74 (v1 : TWork) (v0 : TWork) : List (Nat × Root) := ((64, .box [AS v1.1, AL 1 (v1.2.1.map vI), AL 1 (v1.2.2.1.map vI), AI v1.2.2.2.1, AI v1.2.2.2.2.1, AL 1 (v1.2.2.2.2.2.1.map (eL 1 vI)), AI v1.2.2.2.2.2.2.1, AI v1.2.2.2.2.2.2.2.1, AL 2 (v1.2.2.2.2.2.2.2.2.1.map eNote), AS v1.2.2.2.2.2.2.2.2.2.1, AL 1 (v1.2.2.2.2.2.2.2.2.2.2.1.map vI), AL 1 (v1.2.2.2.2.2.2.2.2.2.2.2.1.map vI), AI v1.2.2.2.2.2.2.2.2.2.2.2.2.1, AS v1.2.2.2.2.2.2.2.2.2.2.2.2.2.1, AI v1.2.2.2.2.2.2.2.2.2.2.2.2.2.2.1, AI v1.2.2.2.2.2.2.2.2.2.2.2.2.2.2.2.1, AI v1.2.2.2.2.2.2.2.2.2.2.2.2.2.2.2.2.1, AL 3 (v1.2.2.2.2.2.2.2.2.2.2.2.2.2.2.2.2.2.map eTurn)]) :: (K73 v0))
@[simp] def res_laws_eqWork (r : Bool) : RV := .one (.one (.val (.bool r)))
theorem con_laws_eqWork {v0 : TWork} {v1 : TWork} {r : Bool} (hF : F_laws_eqWork v0 v1 = some r) : Con Tryz.prog 9 [eWork v0, eWork v1] (res_laws_eqWork r) := by
 unfold F_laws_eqWork at hF
 refine con_of c9_.1 fun N => ?_
 refine ws 0 192 (qf (.ptr 0 0 0) (K73 v0) (by simp) (qf (.ptr 64 0 0) (K74 v1 v0) (by simp) (qp (AB false) rfl (r_nil (w_seq (ws 192 576 (qp (.ptr 0 0 0) rfl (qp (.agg [AS v0.1, AL 1 (v0.2.1.map vI), AL 1 (v0.2.2.1.map vI), AI v0.2.2.2.1, AI v0.2.2.2.2.1, AL 1 (v0.2.2.2.2.2.1.map (eL 1 vI))]) rfl (qp (.ptr 64 0 0) rfl (qp (.agg [AS v1.1, AL 1 (v1.2.1.map vI), AL 1 (v1.2.2.1.map vI), AI v1.2.2.2.1, AI v1.2.2.2.2.1, AL 1 (v1.2.2.2.2.2.1.map (eL 1 vI))]) rfl (bk hF fun u0 e0 hF => qC (AB u0) (K74 v1 v0) (con_laws_eqRaga e0) c25_ (qp (AB (!u0)) rfl (r_nil ?_)))))))))))))
 refine cF hF (fun hF => ws 576 640 (qp (AB false) rfl (r_nil (w_ret (thenQ_r (eQ hF)))))) fun hF => w_skip (thenQ_n (w_seq (ws 576 896 (qp (.ptr 0 0 6) rfl (qp (AI v0.2.2.2.2.2.2.1) rfl (qp (.ptr 64 0 6) rfl (qp (AI v1.2.2.2.2.2.2.1) rfl (qp (AB (decide (v0.2.2.2.2.2.2.1 ≠ v1.2.2.2.2.2.2.1))) rfl (r_nil ?_)))))))))
 refine cF hF (fun hF => ws 896 960 (qp (AB false) rfl (r_nil (w_ret (thenQ_r (eQ hF)))))) fun hF => w_skip (thenQ_n (w_seq (ws 896 1216 (qp (.ptr 0 0 7) rfl (qp (AI v0.2.2.2.2.2.2.2.1) rfl (qp (.ptr 64 0 7) rfl (qp (AI v1.2.2.2.2.2.2.2.1) rfl (qp (AB (decide (v0.2.2.2.2.2.2.2.1 ≠ v1.2.2.2.2.2.2.2.1))) rfl (r_nil ?_)))))))))
 refine cF hF (fun hF => ws 1216 1280 (qp (AB false) rfl (r_nil (w_ret (thenQ_r (eQ hF)))))) fun hF => w_skip (thenQ_n (w_seq (ws 1216 1600 (qp (.ptr 0 0 8) rfl (qp (AL 2 (v0.2.2.2.2.2.2.2.2.1.map eNote)) rfl (qp (.ptr 64 0 8) rfl (qp (AL 2 (v1.2.2.2.2.2.2.2.2.1.map eNote)) rfl (bk hF fun u1 e1 hF => qC (AB u1) (K74 v1 v0) (con_laws_eqNoteS e1) c26_ (qp (AB (!u1)) rfl (r_nil ?_))))))))))
 refine cF hF (fun hF => ws 1600 1664 (qp (AB false) rfl (r_nil (w_ret (thenQ_r (eQ hF)))))) fun hF => w_skip (thenQ_n (w_seq (ws 1600 1984 (qp (.ptr 0 0 9) rfl (qp (.agg [AS v0.2.2.2.2.2.2.2.2.2.1, AL 1 (v0.2.2.2.2.2.2.2.2.2.2.1.map vI), AL 1 (v0.2.2.2.2.2.2.2.2.2.2.2.1.map vI)]) rfl (qp (.ptr 64 0 9) rfl (qp (.agg [AS v1.2.2.2.2.2.2.2.2.2.1, AL 1 (v1.2.2.2.2.2.2.2.2.2.2.1.map vI), AL 1 (v1.2.2.2.2.2.2.2.2.2.2.2.1.map vI)]) rfl (bk hF fun u2 e2 hF => qC (AB u2) (K74 v1 v0) (con_laws_eqTala e2) c27_ (qp (AB (!u2)) rfl (r_nil ?_))))))))))
 refine cF hF (fun hF => ws 1984 2048 (qp (AB false) rfl (r_nil (w_ret (thenQ_r (eQ hF)))))) fun hF => w_skip (thenQ_n (w_seq (ws 1984 2304 (qp (.ptr 0 0 12) rfl (qp (AI v0.2.2.2.2.2.2.2.2.2.2.2.2.1) rfl (qp (.ptr 64 0 12) rfl (qp (AI v1.2.2.2.2.2.2.2.2.2.2.2.2.1) rfl (qp (AB (decide (v0.2.2.2.2.2.2.2.2.2.2.2.2.1 ≠ v1.2.2.2.2.2.2.2.2.2.2.2.2.1))) rfl (r_nil ?_)))))))))
 refine cF hF (fun hF => ws 2304 2368 (qp (AB false) rfl (r_nil (w_ret (thenQ_r (eQ hF)))))) fun hF => w_skip (thenQ_n (w_seq (ws 2304 2624 (qp (.ptr 0 0 13) rfl (qp (AS v0.2.2.2.2.2.2.2.2.2.2.2.2.2.1) rfl (qp (.ptr 64 0 13) rfl (qp (AS v1.2.2.2.2.2.2.2.2.2.2.2.2.2.1) rfl (qp (AB (decide (v0.2.2.2.2.2.2.2.2.2.2.2.2.2.1 ≠ v1.2.2.2.2.2.2.2.2.2.2.2.2.2.1))) rfl (r_nil ?_)))))))))
 refine cF hF (fun hF => ws 2624 2688 (qp (AB false) rfl (r_nil (w_ret (thenQ_r (eQ hF)))))) fun hF => w_skip (thenQ_n (w_seq (ws 2624 2944 (qp (.ptr 0 0 14) rfl (qp (AI v0.2.2.2.2.2.2.2.2.2.2.2.2.2.2.1) rfl (qp (.ptr 64 0 14) rfl (qp (AI v1.2.2.2.2.2.2.2.2.2.2.2.2.2.2.1) rfl (qp (AB (decide (v0.2.2.2.2.2.2.2.2.2.2.2.2.2.2.1 ≠ v1.2.2.2.2.2.2.2.2.2.2.2.2.2.2.1))) rfl (r_nil ?_)))))))))
 refine cF hF (fun hF => ws 2944 3008 (qp (AB false) rfl (r_nil (w_ret (thenQ_r (eQ hF)))))) fun hF => w_skip (thenQ_n (w_seq (ws 2944 3264 (qp (.ptr 0 0 15) rfl (qp (AI v0.2.2.2.2.2.2.2.2.2.2.2.2.2.2.2.1) rfl (qp (.ptr 64 0 15) rfl (qp (AI v1.2.2.2.2.2.2.2.2.2.2.2.2.2.2.2.1) rfl (qp (AB (decide (v0.2.2.2.2.2.2.2.2.2.2.2.2.2.2.2.1 ≠ v1.2.2.2.2.2.2.2.2.2.2.2.2.2.2.2.1))) rfl (r_nil ?_)))))))))
 refine cF hF (fun hF => ws 3264 3328 (qp (AB false) rfl (r_nil (w_ret (thenQ_r (eQ hF)))))) fun hF => w_skip (thenQ_n (w_seq (ws 3264 3584 (qp (.ptr 0 0 16) rfl (qp (AI v0.2.2.2.2.2.2.2.2.2.2.2.2.2.2.2.2.1) rfl (qp (.ptr 64 0 16) rfl (qp (AI v1.2.2.2.2.2.2.2.2.2.2.2.2.2.2.2.2.1) rfl (qp (AB (decide (v0.2.2.2.2.2.2.2.2.2.2.2.2.2.2.2.2.1 ≠ v1.2.2.2.2.2.2.2.2.2.2.2.2.2.2.2.2.1))) rfl (r_nil ?_)))))))))
 refine cF hF (fun hF => ws 3584 3648 (qp (AB false) rfl (r_nil (w_ret (thenQ_r (eQ hF)))))) fun hF => w_skip (thenQ_n (w_seq (ws 3584 3968 (qp (.ptr 0 0 17) rfl (qp (AL 3 (v0.2.2.2.2.2.2.2.2.2.2.2.2.2.2.2.2.2.map eTurn)) rfl (qp (.ptr 64 0 17) rfl (qp (AL 3 (v1.2.2.2.2.2.2.2.2.2.2.2.2.2.2.2.2.2.map eTurn)) rfl (bk hF fun u3 e3 hF => qC (AB u3) (K74 v1 v0) (con_laws_eqTurnS e3) c28_ (qp (AB (!u3)) rfl (r_nil ?_))))))))))
 refine cF hF (fun hF => ws 3968 4032 (qp (AB false) rfl (r_nil (w_ret (thenQ_r (eQ hF)))))) fun hF => ?_
 exact w_skip (thenQ_n (ws 3968 4032 (qp (AB true) rfl (rR hF))))

def c52 : MC := (sr [pT 4 (.mv (ci 0))] (.seq (sr [pT 5 (.mv (ci 0))] (.block 0 (.loop (.seq (sr [mvt 6 5, mvt 7 0, zT 8 7, bT 9 .lss t6 t8] (cx t9 0)) (.seq (.block 1 (sr [mvt 12 0, mvt 13 5, mvt 14 1, iT 15 12 13 1, ⟨none, none, (.f (.st t15 t14 1))⟩] (.reg [mvt 16 1, bT 17 .add t16 (ci 1), mvt 1 17]))) (.reg [mvt 10 5, bT 11 .add t10 (ci 1), mvt 5 11])))))) (sr [mvt 18 1, mvt 4 18] .ret)))
theorem c52_is : compFnM Tryz.prog 52 = some (c52, [(.tmp 4)]) := by kernel_rfl
theorem c52_ok : okFn Tryz.prog 52 = true := by kernel_rfl

def F_laws_markInt64S_l0 (k0 : Int × Int × (List Int) → Option ((List Int) × Int)) : Int × Int × (List Int) → Option ((List Int) × Int)
 | (x3, x4, x5) => (bif (decide (x4 < (x5.length : Int))) then ((ix x5 x4).bind fun u0 => k0 (w64 (x3 + 1), w64 (x4 + 1), List.set x5 x4.toNat x3))
 else some (x5, x3))
def F_laws_markInt64S (v0 : List Int) (v1 : Int) : Option ((List Int) × Int) :=
 loop (F_laws_markInt64S_l0) (v1, 0, v0)
theorem con_laws_markInt64S {v0 : List Int} {v1 : Int} {r : (List Int) × Int} (hF : F_laws_markInt64S v0 v1 = some r) : ConM Tryz.prog 52 (.one (.row true 1 (v0.map vI))) (.one (.row true 1 (r.1.map vI))) [.int .i64 v1] (.int .i64 r.2) := by
 unfold F_laws_markInt64S at hF
 refine conM_of (av := .sl 0 0 v0.length) (L := [(0, .row true 1 (v0.map vI))]) c52_is rfl rfl rfl (by simp) fun N => ?_
 refine ws 64 128 (qp (AI 0) rfl (r_nil (w_seq (ws 128 192 (qp (AI 0) rfl (r_nil (w_block ?_)))))))
 refine wr (l' := [(0, .sl 0 0 v0.length), (1, AI v1), (5, AI 0)]) (L := [(0, .row true 1 (v0.map vI))]) [0, 1, 5] [(0, 0)] 1 ?_
 refine w_loopF (F_laws_markInt64S_l0) (fun s : Int × Int × (List Int) => mkS [(0, .sl 0 0 s.2.2.length), (1, AI s.1), (5, AI s.2.1)] (fo [(0, .row true 1 (s.2.2.map vI))]) 1) hF ?_
 rintro k0 ⟨x3, x4, x5⟩ hF
 rw [F_laws_markInt64S_l0] at hF
 try dsimp only
 refine w_seq (ws 1 257 (qp (AI x4) rfl (qp (.sl 0 0 x5.length) rfl (qp (AI (x5.length : Int)) rfl (qp (AB (decide (x4 < (x5.length : Int)))) rfl (r_nil ?_))))))
 refine cF hF (fun hF => ?_) fun hF => ?_
 ·
  refine w_skip (thenQ_n (w_seq (w_block (ws 257 577 (qp (.sl 0 0 x5.length) rfl (qp (AI x4) rfl (qp (AI x3) rfl (bk hF fun u0 e0 hF => qp (.ptr 0 x4.toNat 0) (ev_iad_r rfl (by simp) rfl rfl e0) (qf0 (.undef) [(0, .row true 1 ((List.set x5 x4.toNat x3).map vI)), (0, .row true 1 (x5.map vI))] (effT_st rfl rfl (ix_some e0).2 rfl rfl (by rfl) (by first | rfl | simp [patch, reb, List.take_of_length_le]) (by rfl) rfl) (r_nil (w_reg 577 769 rfl rfl ?_)))))))))))
  refine qp (AI x3) rfl (qp (AI (w64 (x3 + 1))) rfl (qp (AI (w64 (x3 + 1))) rfl (r_nil (blockQ_n (thenQ_n (w_reg 769 961 rfl rfl (qp (AI x4) rfl (qp (AI (w64 (x4 + 1))) rfl (qp (AI (w64 (x4 + 1))) rfl ?_)))))))))
  refine r_nil (thenQ_n ?_)
  refine ar (l' := [(0, .sl 0 0 (List.set x5 x4.toNat x3).length), (1, AI (w64 (x3 + 1))), (5, AI (w64 (x4 + 1)))]) (L := [(0, .row true 1 ((List.set x5 x4.toNat x3).map vI))]) [0, 1, 5] [(0, 0)] 1 ⟨_, by rfl, hF⟩
 refine w_exit (thenQ_e (thenQ_e (blockQ_e (thenQ_n (ws 257 385 (qp (AI x3) rfl (qp (AI x3) rfl (r_nil (w_ret ?_)))))))))
 cases hF
 exact endM_r rfl rfl (by first | rfl | (simp [List.take_of_length_le]; first | exact ⟨rfl, rfl⟩ | rfl)) (by simp)

def c53 : MC := (sr [pT 4 (.mv (ci 0))] (.seq (sr [pT 5 (.mv (ci 0))] (.block 0 (.loop (.seq (sr [mvt 6 5, mvt 7 0, zT 8 7, bT 9 .lss t6 t8] (cx t9 0)) (.seq (.block 1 (.reg [mvt 12 0, mvt 13 5, iT 14 12 13 1, lT 15 14, mvt 16 1, dT 17 52 [t15, t16], mvt 1 17])) (.reg [mvt 10 5, bT 11 .add t10 (ci 1), mvt 5 11])))))) (sr [mvt 18 1, mvt 4 18] .ret)))
theorem c53_is : compFnM Tryz.prog 53 = some (c53, [(.tmp 4)]) := by kernel_rfl
theorem c53_ok : okFn Tryz.prog 53 = true := by kernel_rfl

def F_laws_markInt64SS_l0 (k0 : Int × Int × (List (List Int)) → Option ((List (List Int)) × Int)) : Int × Int × (List (List Int)) → Option ((List (List Int)) × Int)
 | (x3, x4, x5) => (bif (decide (x4 < (x5.length : Int))) then ((ix x5 x4).bind fun u0 => ((F_laws_markInt64S u0 x3).bind fun u1 => need (u1.1.length = u0.length) (k0 (u1.2, w64 (x4 + 1), List.set x5 x4.toNat u1.1))))
 else some (x5, x3))
def F_laws_markInt64SS (v0 : List (List Int)) (v1 : Int) : Option ((List (List Int)) × Int) :=
 loop (F_laws_markInt64SS_l0) (v1, 0, v0)
theorem con_laws_markInt64SS {v0 : List (List Int)} {v1 : Int} {r : (List (List Int)) × Int} (hF : F_laws_markInt64SS v0 v1 = some r) : ConM Tryz.prog 53 (.one (.row true 1 (v0.map (eL 1 vI)))) (.one (.row true 1 (r.1.map (eL 1 vI)))) [.int .i64 v1] (.int .i64 r.2) := by
 unfold F_laws_markInt64SS at hF
 refine conM_of (av := .sl 0 0 v0.length) (L := [(0, .row true 1 (v0.map (eL 1 vI)))]) c53_is rfl rfl rfl (by simp) fun N => ?_
 refine ws 64 128 (qp (AI 0) rfl (r_nil (w_seq (ws 128 192 (qp (AI 0) rfl (r_nil (w_block ?_)))))))
 refine wr (l' := [(0, .sl 0 0 v0.length), (1, AI v1), (5, AI 0)]) (L := [(0, .row true 1 (v0.map (eL 1 vI)))]) [0, 1, 5] [(0, 0)] 1 ?_
 refine w_loopF (F_laws_markInt64SS_l0) (fun s : Int × Int × (List (List Int)) => mkS [(0, .sl 0 0 s.2.2.length), (1, AI s.1), (5, AI s.2.1)] (fo [(0, .row true 1 (s.2.2.map (eL 1 vI)))]) 1) hF ?_
 rintro k0 ⟨x3, x4, x5⟩ hF
 rw [F_laws_markInt64SS_l0] at hF
 try dsimp only
 refine w_seq (ws 1 257 (qp (AI x4) rfl (qp (.sl 0 0 x5.length) rfl (qp (AI (x5.length : Int)) rfl (qp (AB (decide (x4 < (x5.length : Int)))) rfl (r_nil ?_))))))
 refine cF hF (fun hF => ?_) fun hF => ?_
 ·
  refine w_skip (thenQ_n (w_seq (w_block (w_reg 257 705 rfl rfl (qp (.sl 0 0 x5.length) rfl (qp (AI x4) rfl (bk hF fun u0 e0 hF => qp (.ptr 0 x4.toNat 0) (ev_iad_r rfl (by simp) rfl rfl e0) (bk hF fun u1 e1 hF => nk hF fun g2 hF => qm_l [(0, .row true 1 ((List.set x5 x4.toNat u1.1).map (eL 1 vI))), (0, .row true 1 (x5.map (eL 1 vI)))] rfl rfl (map_get (ix_some e0).2) rfl rfl rfl (con_laws_markInt64S e1) c52_ok (by simp [g2]) rfl rfl rfl (by simp [scrO_fo, scrR, scrA, scrAs, patch, reb, List.map_set]) (qp (AI u1.2) rfl (r_nil (blockQ_n (thenQ_n (w_reg 705 897 rfl rfl ?_)))))))))))))
  refine qp (AI x4) rfl (qp (AI (w64 (x4 + 1))) rfl (qp (AI (w64 (x4 + 1))) rfl (r_nil (thenQ_n ?_))))
  refine ar (l' := [(0, .sl 0 0 (List.set x5 x4.toNat u1.1).length), (1, AI u1.2), (5, AI (w64 (x4 + 1)))]) (L := [(0, .row true 1 ((List.set x5 x4.toNat u1.1).map (eL 1 vI)))]) [0, 1, 5] [(0, 0)] 1 ⟨_, by rfl, hF⟩
 refine w_exit (thenQ_e (thenQ_e (blockQ_e (thenQ_n (ws 257 385 (qp (AI x3) rfl (qp (AI x3) rfl (r_nil (w_ret ?_)))))))))
 cases hF
 exact endM_r rfl rfl (by first | rfl | (simp [List.take_of_length_le]; first | exact ⟨rfl, rfl⟩ | rfl)) (by simp)

def c29 : MC := (sr [rg 2 (.f (.box t0)), pT 4 (.mv (ci 0))] (sr [pT 5 (.fad t2 1), lT 6 5, mvt 7 1, dT 8 52 [t6, t7], mvt 1 8] (sr [pT 9 (.fad t2 2), lT 10 9, mvt 11 1, dT 12 52 [t10, t11], mvt 1 12] (sr [pT 13 (.fad t2 5), lT 14 13, mvt 15 1, dT 16 53 [t14, t15], mvt 1 16] (sr [mvt 17 1, mvt 4 17] .ret)))))
theorem c29_is : compFnM Tryz.prog 29 = some (c29, [(.tmp 4)]) := by kernel_rfl
theorem c29_ok : okFn Tryz.prog 29 = true := by kernel_rfl

def F_laws_markRaga (v0 : TRaga) (v1 : Int) : Option (TRaga × Int) :=
 ((F_laws_markInt64S v0.2.1 v1).bind fun u0 => need (u0.1.length = v0.2.1.length) (((F_laws_markInt64S v0.2.2.1 u0.2).bind fun u2 => need (u2.1.length = v0.2.2.1.length) (((F_laws_markInt64SS v0.2.2.2.2.2 u2.2).bind fun u4 => need (u4.1.length = v0.2.2.2.2.2.length) (some ((v0.1, u0.1, u2.1, v0.2.2.2.1, v0.2.2.2.2.1, u4.1), u4.2)))))))
@[simp] abbrev K75 (v0 : TRaga) : List (Nat × Root) := [(5, .row true 1 (v0.2.2.2.2.2.map (eL 1 vI))), (2, .row true 1 (v0.2.2.1.map vI)), (1, .row true 1 (v0.2.1.map vI))]
@[simp] abbrev K79 (v0 : TRaga) : List AV := [AS v0.1, .sl 1 0 v0.2.1.length, .sl 2 0 v0.2.2.1.length, AI v0.2.2.2.1, AI v0.2.2.2.2.1, .sl 5 0 v0.2.2.2.2.2.length]
@[simp] abbrev K76 (v0 : TRaga) : List (Nat × Root) := ((64, .box (K79 v0)) :: (K75 v0))
@[simp] abbrev K77 (u0 : (List Int) × Int) (v0 : TRaga) : List (Nat × Root) := ((1, .row true 1 (u0.1.map vI)) :: (K76 v0))
@[simp] abbrev K78 (u2 : (List Int) × Int) (u0 : (List Int) × Int) (v0 : TRaga) : List (Nat × Root) := ((2, .row true 1 (u2.1.map vI)) :: (K77 u0 v0))
theorem con_laws_markRaga {v0 : TRaga} {v1 : Int} {r : TRaga × Int} (hF : F_laws_markRaga v0 v1 = some r) : ConM Tryz.prog 29 (.agg [.val (.str v0.1), .row true 1 (v0.2.1.map vI), .row true 1 (v0.2.2.1.map vI), .val (.int .i64 v0.2.2.2.1), .val (.int .i64 v0.2.2.2.2.1), .row true 1 (v0.2.2.2.2.2.map (eL 1 vI))]) (.agg [.val (.str r.1.1), .row true 1 (r.1.2.1.map vI), .row true 1 (r.1.2.2.1.map vI), .val (.int .i64 r.1.2.2.2.1), .val (.int .i64 r.1.2.2.2.2.1), .row true 1 (r.1.2.2.2.2.2.map (eL 1 vI))]) [.int .i64 v1] (.int .i64 r.2) := by
 unfold F_laws_markRaga at hF
 refine conM_of (av := .agg (K79 v0)) (L := (K75 v0)) c29_is rfl rfl rfl (by simp) fun N => ?_
 refine ws 64 192 (qf (.ptr 64 0 0) (K76 v0) (by simp) (qp (AI 0) rfl (r_nil (ws 192 512 (qp (.ptr 64 0 1) rfl (qp (.sl 1 0 v0.2.1.length) rfl (qp (AI v1) rfl (bk hF fun u0 e0 hF => nk hF fun g1 hF => qm (ls := [1]) (K77 u0 v0) (con_laws_markInt64S e0) c52_ok (by first | rfl | simp [takeM, takeML, takeM1, g1]) (by decide) (by simp [like2, likeL, like1, g1]) rfl rfl rfl (by simp [scrO_fo, newO2, newO, scrR, scrA, scrAs]) (qp (AI u0.2) rfl (r_nil (ws 512 832 (qp (.ptr 64 0 2) rfl (qp (.sl 2 0 v0.2.2.1.length) rfl (qp (AI u0.2) rfl (bk hF fun u2 e2 hF => nk hF fun g3 hF => ?_)))))))))))))))
 refine qm (ls := [2]) (K78 u2 u0 v0) (con_laws_markInt64S e2) c52_ok (by first | rfl | simp [takeM, takeML, takeM1, g1, g3]) (by decide) (by simp [like2, likeL, like1, g3]) rfl rfl rfl (by simp [scrO_fo, newO2, newO, scrR, scrA, scrAs]) (qp (AI u2.2) rfl (r_nil (ws 832 1152 (qp (.ptr 64 0 5) rfl (qp (.sl 5 0 v0.2.2.2.2.2.length) rfl (qp (AI u2.2) rfl (bk hF fun u4 e4 hF => nk hF fun g5 hF => qm (ls := [5]) ((5, .row true 1 (u4.1.map (eL 1 vI))) :: (K78 u2 u0 v0)) (con_laws_markInt64SS e4) c53_ok (by first | rfl | simp [takeM, takeML, takeM1, g1, g3, g5]) (by decide) (by simp [like2, likeL, like1, g5]) rfl rfl rfl (by simp [scrO_fo, newO2, newO, scrR, scrA, scrAs]) (qp (AI u4.2) rfl (r_nil (ws 1152 1280 (qp (AI u4.2) rfl (qp (AI u4.2) rfl (r_nil (w_ret ?_))))))))))))))
 cases hF
 exact endM_r rfl rfl (by first | rfl | (simp [List.take_of_length_le, g1, g3, g5]; first | exact ⟨rfl, rfl⟩ | rfl)) (by simp)

def c30 : MC := (sr [pT 4 (.mv (ci 0))] (.seq (sr [pT 5 (.mv (ci 0))] (.block 0 (.loop (.seq (sr [mvt 6 5, mvt 7 0, zT 8 7, bT 9 .lss t6 t8] (cx t9 0)) (.seq (.block 1 (sr [mvt 12 0, mvt 13 5, mvt 14 1, iT 15 12 13 2, pT 16 (.fad t15 0), ⟨none, none, (.f (.st t16 t14 1))⟩] (sr [mvt 17 1, bT 18 .add t17 (ci 1), mvt 1 18] (sr [mvt 19 0, mvt 20 5, mvt 21 1, iT 22 19 20 2, pT 23 (.fad t22 1), ⟨none, none, (.f (.st t23 t21 1))⟩] (.reg [mvt 24 1, bT 25 .add t24 (ci 1), mvt 1 25]))))) (.reg [mvt 10 5, bT 11 .add t10 (ci 1), mvt 5 11])))))) (sr [mvt 26 1, mvt 4 26] .ret)))
theorem c30_is : compFnM Tryz.prog 30 = some (c30, [(.tmp 4)]) := by kernel_rfl
theorem c30_ok : okFn Tryz.prog 30 = true := by kernel_rfl

def F_laws_markNoteS_l0 (k0 : Int × Int × (List TNote) → Option ((List TNote) × Int)) : Int × Int × (List TNote) → Option ((List TNote) × Int)
 | (x3, x4, x5) => (bif (decide (x4 < (x5.length : Int))) then ((ix x5 x4).bind fun u0 => ((ix (List.set x5 x4.toNat (x3, u0.2)) x4).bind fun u1 => k0 (w64 ((w64 (x3 + 1)) + 1), w64 (x4 + 1), List.set (List.set x5 x4.toNat (x3, u0.2)) x4.toNat (u1.1, w64 (x3 + 1)))))
 else some (x5, x3))
def F_laws_markNoteS (v0 : List TNote) (v1 : Int) : Option ((List TNote) × Int) :=
 loop (F_laws_markNoteS_l0) (v1, 0, v0)
@[simp] abbrev K7a (x5 : List TNote) (x4 : Int) (x3 : Int) (u0 : TNote) : List (Nat × Root) := [(0, .row true 2 ((List.set x5 x4.toNat (x3, u0.2)).map eNote)), (0, .row true 2 (x5.map eNote))]
theorem con_laws_markNoteS {v0 : List TNote} {v1 : Int} {r : (List TNote) × Int} (hF : F_laws_markNoteS v0 v1 = some r) : ConM Tryz.prog 30 (.one (.row true 2 (v0.map eNote))) (.one (.row true 2 (r.1.map eNote))) [.int .i64 v1] (.int .i64 r.2) := by
 unfold F_laws_markNoteS at hF
 refine conM_of (av := .sl 0 0 v0.length) (L := [(0, .row true 2 (v0.map eNote))]) c30_is rfl rfl rfl (by simp) fun N => ?_
 refine ws 64 128 (qp (AI 0) rfl (r_nil (w_seq (ws 128 192 (qp (AI 0) rfl (r_nil (w_block ?_)))))))
 refine wr (l' := [(0, .sl 0 0 v0.length), (1, AI v1), (5, AI 0)]) (L := [(0, .row true 2 (v0.map eNote))]) [0, 1, 5] [(0, 0)] 1 ?_
 refine w_loopF (F_laws_markNoteS_l0) (fun s : Int × Int × (List TNote) => mkS [(0, .sl 0 0 s.2.2.length), (1, AI s.1), (5, AI s.2.1)] (fo [(0, .row true 2 (s.2.2.map eNote))]) 1) hF ?_
 rintro k0 ⟨x3, x4, x5⟩ hF
 rw [F_laws_markNoteS_l0] at hF
 try dsimp only
 refine w_seq (ws 1 257 (qp (AI x4) rfl (qp (.sl 0 0 x5.length) rfl (qp (AI (x5.length : Int)) rfl (qp (AB (decide (x4 < (x5.length : Int)))) rfl (r_nil ?_))))))
 refine cF hF (fun hF => ?_) fun hF => ?_
 ·
  refine w_skip (thenQ_n (w_seq (w_block (ws 257 641 (qp (.sl 0 0 x5.length) rfl (qp (AI x4) rfl (qp (AI x3) rfl (bk hF fun u0 e0 hF => qp (.ptr 0 x4.toNat 0) (ev_iad_r rfl (by simp) rfl rfl e0) (qp (.ptr 0 x4.toNat 0) rfl (qf0 (.undef) (K7a x5 x4 x3 u0) (effT_st rfl rfl (ix_some e0).2 rfl rfl (by rfl) (by first | rfl | simp [patch, reb, List.take_of_length_le]) (by rfl) rfl) (r_nil (ws 641 833 ?_))))))))))))
  refine qp (AI x3) rfl (qp (AI (w64 (x3 + 1))) rfl (qp (AI (w64 (x3 + 1))) rfl (r_nil (ws 833 1217 (qp (.sl 0 0 x5.length) rfl (qp (AI x4) rfl (qp (AI (w64 (x3 + 1))) rfl (bk hF fun u1 e1 hF => qp (.ptr 0 x4.toNat 0) (ev_iad_r rfl (by simp) rfl rfl e1) (qp (.ptr 0 x4.toNat 1) rfl (qf0 (.undef) ((0, .row true 2 ((List.set (List.set x5 x4.toNat (x3, u0.2)) x4.toNat (u1.1, w64 (x3 + 1))).map eNote)) :: (K7a x5 x4 x3 u0)) (effT_st rfl rfl (ix_some e1).2 rfl rfl (by rfl) (by first | rfl | simp [patch, reb, List.take_of_length_le]) (by rfl) rfl) (r_nil ?_)))))))))))
  refine w_reg 1217 1409 rfl rfl (qp (AI (w64 (x3 + 1))) rfl (qp (AI (w64 ((w64 (x3 + 1)) + 1))) rfl (qp (AI (w64 ((w64 (x3 + 1)) + 1))) rfl (r_nil (blockQ_n (thenQ_n (w_reg 1409 1601 rfl rfl ?_)))))))
  refine qp (AI x4) rfl (qp (AI (w64 (x4 + 1))) rfl (qp (AI (w64 (x4 + 1))) rfl (r_nil (thenQ_n ?_))))
  refine ar (l' := [(0, .sl 0 0 (List.set (List.set x5 x4.toNat (x3, u0.2)) x4.toNat (u1.1, w64 (x3 + 1))).length), (1, AI (w64 ((w64 (x3 + 1)) + 1))), (5, AI (w64 (x4 + 1)))]) (L := [(0, .row true 2 ((List.set (List.set x5 x4.toNat (x3, u0.2)) x4.toNat (u1.1, w64 (x3 + 1))).map eNote))]) [0, 1, 5] [(0, 0)] 1 ⟨_, by rfl, hF⟩
 refine w_exit (thenQ_e (thenQ_e (blockQ_e (thenQ_n (ws 257 385 (qp (AI x3) rfl (qp (AI x3) rfl (r_nil (w_ret ?_)))))))))
 cases hF
 exact endM_r rfl rfl (by first | rfl | (simp [List.take_of_length_le]; first | exact ⟨rfl, rfl⟩ | rfl)) (by simp)

def c31 : MC := (sr [rg 2 (.f (.box t0)), pT 4 (.mv (ci 0))] (sr [pT 5 (.fad t2 1), lT 6 5, mvt 7 1, dT 8 52 [t6, t7], mvt 1 8] (sr [pT 9 (.fad t2 2), lT 10 9, mvt 11 1, dT 12 52 [t10, t11], mvt 1 12] (sr [mvt 13 1, mvt 4 13] .ret))))
theorem c31_is : compFnM Tryz.prog 31 = some (c31, [(.tmp 4)]) := by kernel_rfl
theorem c31_ok : okFn Tryz.prog 31 = true := by kernel_rfl

def F_laws_markTala (v0 : TTala) (v1 : Int) : Option (TTala × Int) :=
 ((F_laws_markInt64S v0.2.1 v1).bind fun u0 => need (u0.1.length = v0.2.1.length) (((F_laws_markInt64S v0.2.2 u0.2).bind fun u2 => need (u2.1.length = v0.2.2.length) (some ((v0.1, u0.1, u2.1), u2.2)))))
@[simp] abbrev K7b (v0 : TTala) : List (Nat × Root) := [(2, .row true 1 (v0.2.2.map vI)), (1, .row true 1 (v0.2.1.map vI))]
@[simp] abbrev K7c (v0 : TTala) : List (Nat × Root) := ((64, .box [AS v0.1, .sl 1 0 v0.2.1.length, .sl 2 0 v0.2.2.length]) :: (K7b v0))
@[simp] abbrev K7d (u0 : (List Int) × Int) (v0 : TTala) : List (Nat × Root) := ((1, .row true 1 (u0.1.map vI)) :: (K7c v0))
theorem con_laws_markTala {v0 : TTala} {v1 : Int} {r : TTala × Int} (hF : F_laws_markTala v0 v1 = some r) : ConM Tryz.prog 31 (.agg [.val (.str v0.1), .row true 1 (v0.2.1.map vI), .row true 1 (v0.2.2.map vI)]) (.agg [.val (.str r.1.1), .row true 1 (r.1.2.1.map vI), .row true 1 (r.1.2.2.map vI)]) [.int .i64 v1] (.int .i64 r.2) := by
 unfold F_laws_markTala at hF
 refine conM_of (av := .agg [AS v0.1, .sl 1 0 v0.2.1.length, .sl 2 0 v0.2.2.length]) (L := (K7b v0)) c31_is rfl rfl rfl (by simp) fun N => ?_
 refine ws 64 192 (qf (.ptr 64 0 0) (K7c v0) (by simp) (qp (AI 0) rfl (r_nil (ws 192 512 (qp (.ptr 64 0 1) rfl (qp (.sl 1 0 v0.2.1.length) rfl (qp (AI v1) rfl (bk hF fun u0 e0 hF => nk hF fun g1 hF => qm (ls := [1]) (K7d u0 v0) (con_laws_markInt64S e0) c52_ok (by first | rfl | simp [takeM, takeML, takeM1, g1]) (by decide) (by simp [like2, likeL, like1, g1]) rfl rfl rfl (by simp [scrO_fo, newO2, newO, scrR, scrA, scrAs]) (qp (AI u0.2) rfl (r_nil (ws 512 832 (qp (.ptr 64 0 2) rfl (qp (.sl 2 0 v0.2.2.length) rfl (qp (AI u0.2) rfl (bk hF fun u2 e2 hF => nk hF fun g3 hF => ?_)))))))))))))))
 refine qm (ls := [2]) ((2, .row true 1 (u2.1.map vI)) :: (K7d u0 v0)) (con_laws_markInt64S e2) c52_ok (by first | rfl | simp [takeM, takeML, takeM1, g1, g3]) (by decide) (by simp [like2, likeL, like1, g3]) rfl rfl rfl (by simp [scrO_fo, newO2, newO, scrR, scrA, scrAs]) (qp (AI u2.2) rfl (r_nil (ws 832 960 (qp (AI u2.2) rfl (qp (AI u2.2) rfl (r_nil (w_ret ?_)))))))
 cases hF
 exact endM_r rfl rfl (by first | rfl | (simp [List.take_of_length_le, g1, g3]; first | exact ⟨rfl, rfl⟩ | rfl)) (by simp)

def c33 : MC := (sr [pT 2 (.mv (.c (.str [])))] (.seq (sr [mvt 4 0, bT 5 .leq t4 (ci 0)] (.cond t5 (sr [pT 2 (.mv (.c (.str [109, 48])))] .ret) .skip)) (sr [pT 3 (.mv (.c (.str [])))] (.seq (.block 0 (.loop (.seq (sr [mvt 6 0, bT 7 .gtr t6 (ci 0)] (cx t7 0)) (.block 1 (sr [mvt 8 0, bT 9 .rem t8 (ci 10), bT 10 .add (ci 48) t9, pT 11 (.conv .u8 t10), rg 12 (.f (.bsl 1 [t11])), pT 13 (.bts t12), mvt 14 3, bT 15 .add t13 t14, mvt 3 15] (.reg [mvt 16 0, bT 17 .quo t16 (ci 10), mvt 0 17])))))) (sr [mvt 18 3, pT 19 (.bin .add (.c (.str [109])) t18), mvt 2 19] .ret)))))
theorem c33_ : IsF Tryz.prog 33 c33 [(.tmp 2)] := ⟨by kernel_rfl, by kernel_rfl⟩

def F_laws_markText_l0 (k0 : Int × (List UInt8) → Option (List UInt8)) : Int × (List UInt8) → Option (List UInt8)
 | (x2, x3) => (bif (decide ((0 : Int) < x2)) then (need ((bytesI ([IntKind.wrap .u8 (w64 (48 + (Int.tmod x2 10)))] : List Int)).length + x3.length < 9223372036854775808) (k0 (w64 (Int.tdiv x2 10), (bytesI ([IntKind.wrap .u8 (w64 (48 + (Int.tmod x2 10)))] : List Int)) ++ x3)))
 else (need ([109].length + x3.length < 9223372036854775808) (some ([109] ++ x3))))
def F_laws_markText (v0 : Int) : Option (List UInt8) :=
 (bif (decide (v0 ≤ (0 : Int))) then some [109, 48]
 else loop (F_laws_markText_l0) (v0, []))
@[simp] def res_laws_markText (r : List UInt8) : RV := .one (.one (.val (.str r)))
theorem con_laws_markText {v0 : Int} {r : List UInt8} (hF : F_laws_markText v0 = some r) : Con Tryz.prog 33 [.int .i64 v0] (res_laws_markText r) := by
 unfold F_laws_markText at hF
 refine con_of c33_.1 fun N => ?_
 refine ws 0 64 (qp (AS []) rfl (r_nil (w_seq (ws 64 192 (qp (AI v0) rfl (qp (AB (decide (v0 ≤ (0 : Int)))) rfl (r_nil (cF hF (fun hF => ws 192 256 (qp (AS [109, 48]) rfl (r_nil (w_ret (thenQ_r (eQ hF)))))) fun hF => ?_))))))))
 refine w_skip (thenQ_n (ws 192 256 (qp (AS []) rfl (r_nil (w_seq (w_block ?_))))))
 refine wr (l' := [(0, AI v0), (3, AS ([] : List UInt8))]) (L := []) [0, 3] [] 1 ?_
 refine w_loopF (F_laws_markText_l0) (fun s : Int × (List UInt8) => mkS [(0, AI s.1), (3, AS s.2)] (fo []) 1) hF ?_
 rintro k0 ⟨x2, x3⟩ hF
 rw [F_laws_markText_l0] at hF
 try dsimp only
 refine w_seq (ws 1 129 (qp (AI x2) rfl (qp (AB (decide ((0 : Int) < x2))) rfl (r_nil ?_))))
 refine cF hF (fun hF => ?_) fun hF => ?_
 ·
  refine w_skip (thenQ_n (w_block (ws 129 705 (qp (AI x2) rfl (qp (AI (Int.tmod x2 10)) (ev_rem rfl rfl (by decide)) (qp (AI (w64 (48 + (Int.tmod x2 10)))) rfl (qp (.val none (.int .u8 (IntKind.wrap .u8 (w64 (48 + (Int.tmod x2 10)))))) rfl (qf (.sl 385 0 (([IntKind.wrap .u8 (w64 (48 + (Int.tmod x2 10)))] : List Int).length)) [(385, .row true 1 (([IntKind.wrap .u8 (w64 (48 + (Int.tmod x2 10)))] : List Int).map (V.int .u8)))] (by simp [List.take_of_length_le]) ?_))))))))
  refine qp (AS (bytesI ([IntKind.wrap .u8 (w64 (48 + (Int.tmod x2 10)))] : List Int))) (ev_bts_r rfl (by simp) rfl) (qp (AS x3) rfl (nk hF fun g0 hF => qp (AS ((bytesI ([IntKind.wrap .u8 (w64 (48 + (Int.tmod x2 10)))] : List Int)) ++ x3)) (ev_add_s rfl rfl g0) (qp (AS ((bytesI ([IntKind.wrap .u8 (w64 (48 + (Int.tmod x2 10)))] : List Int)) ++ x3)) rfl (r_nil (w_reg 705 897 rfl rfl (qp (AI x2) rfl (qp (AI (w64 (Int.tdiv x2 10))) (ev_quo rfl rfl (by decide)) (qp (AI (w64 (Int.tdiv x2 10))) rfl (r_nil ?_)))))))))
  refine blockQ_n (thenQ_n ?_)
  refine ar (l' := [(0, AI (w64 (Int.tdiv x2 10))), (3, AS ((bytesI ([IntKind.wrap .u8 (w64 (48 + (Int.tmod x2 10)))] : List Int)) ++ x3))]) (L := []) [0, 3] [] 1 ⟨_, by rfl, hF⟩
 exact w_exit (thenQ_e (thenQ_e (blockQ_e (thenQ_n (ws 129 321 (qp (AS x3) rfl (nk hF fun g1 hF => qp (AS ([109] ++ x3)) (ev_add_s rfl rfl g1) (qp (AS ([109] ++ x3)) rfl (rR hF)))))))))

def c32 : MC := (sr [pT 4 (.mv (ci 0))] (.seq (sr [pT 5 (.mv (ci 0))] (.block 0 (.loop (.seq (sr [mvt 6 5, mvt 7 0, zT 8 7, bT 9 .lss t6 t8] (cx t9 0)) (.seq (.block 1 (sr [mvt 12 0, mvt 13 5, mvt 14 1, dT 15 33 [t14], iT 16 12 13 3, pT 17 (.fad t16 0), ⟨none, none, (.f (.st t17 t15 1))⟩] (sr [mvt 18 1, bT 19 .add t18 (ci 1), mvt 1 19] (sr [mvt 20 0, mvt 21 5, mvt 22 1, iT 23 20 21 3, pT 24 (.fad t23 1), ⟨none, none, (.f (.st t24 t22 1))⟩] (sr [mvt 25 1, bT 26 .add t25 (ci 1), mvt 1 26] (sr [mvt 27 0, mvt 28 5, mvt 29 1, iT 30 27 28 3, pT 31 (.fad t30 2), ⟨none, none, (.f (.st t31 t29 1))⟩] (.reg [mvt 32 1, bT 33 .add t32 (ci 1), mvt 1 33]))))))) (.reg [mvt 10 5, bT 11 .add t10 (ci 1), mvt 5 11])))))) (sr [mvt 34 1, mvt 4 34] .ret)))
theorem c32_is : compFnM Tryz.prog 32 = some (c32, [(.tmp 4)]) := by kernel_rfl
theorem c32_ok : okFn Tryz.prog 32 = true := by kernel_rfl

def F_laws_markTurnS_l0 (k0 : Int × Int × (List TTurn) → Option ((List TTurn) × Int)) : Int × Int × (List TTurn) → Option ((List TTurn) × Int)
 | (x3, x4, x5) => (bif (decide (x4 < (x5.length : Int))) then ((F_laws_markText x3).bind fun u0 => ((ix x5 x4).bind fun u1 => ((ix (List.set x5 x4.toNat (u0, u1.2.1, u1.2.2)) x4).bind fun u2 => ((ix (List.set (List.set x5 x4.toNat (u0, u1.2.1, u1.2.2)) x4.toNat (u2.1, w64 (x3 + 1), u2.2.2)) x4).bind fun u3 => k0 (w64 ((w64 ((w64 (x3 + 1)) + 1)) + 1), w64 (x4 + 1), List.set (List.set (List.set x5 x4.toNat (u0, u1.2.1, u1.2.2)) x4.toNat (u2.1, w64 (x3 + 1), u2.2.2)) x4.toNat (u3.1, u3.2.1, w64 ((w64 (x3 + 1)) + 1)))))))
 else some (x5, x3))
def F_laws_markTurnS (v0 : List TTurn) (v1 : Int) : Option ((List TTurn) × Int) :=
 loop (F_laws_markTurnS_l0) (v1, 0, v0)
@[simp] abbrev K7e (x5 : List TTurn) (x4 : Int) (u0 : List UInt8) (u1 : TTurn) : List (Nat × Root) := [(0, .row true 3 ((List.set x5 x4.toNat (u0, u1.2.1, u1.2.2)).map eTurn)), (0, .row true 3 (x5.map eTurn))]
@[simp] abbrev K7f (x5 : List TTurn) (x4 : Int) (u0 : List UInt8) (u1 : TTurn) (u2 : TTurn) (x3 : Int) : List (Nat × Root) := ((0, .row true 3 ((List.set (List.set x5 x4.toNat (u0, u1.2.1, u1.2.2)) x4.toNat (u2.1, w64 (x3 + 1), u2.2.2)).map eTurn)) :: (K7e x5 x4 u0 u1))
theorem con_laws_markTurnS {v0 : List TTurn} {v1 : Int} {r : (List TTurn) × Int} (hF : F_laws_markTurnS v0 v1 = some r) : ConM Tryz.prog 32 (.one (.row true 3 (v0.map eTurn))) (.one (.row true 3 (r.1.map eTurn))) [.int .i64 v1] (.int .i64 r.2) := by
 unfold F_laws_markTurnS at hF
 refine conM_of (av := .sl 0 0 v0.length) (L := [(0, .row true 3 (v0.map eTurn))]) c32_is rfl rfl rfl (by simp) fun N => ?_
 refine ws 64 128 (qp (AI 0) rfl (r_nil (w_seq (ws 128 192 (qp (AI 0) rfl (r_nil (w_block ?_)))))))
 refine wr (l' := [(0, .sl 0 0 v0.length), (1, AI v1), (5, AI 0)]) (L := [(0, .row true 3 (v0.map eTurn))]) [0, 1, 5] [(0, 0)] 1 ?_
 refine w_loopF (F_laws_markTurnS_l0) (fun s : Int × Int × (List TTurn) => mkS [(0, .sl 0 0 s.2.2.length), (1, AI s.1), (5, AI s.2.1)] (fo [(0, .row true 3 (s.2.2.map eTurn))]) 1) hF ?_
 rintro k0 ⟨x3, x4, x5⟩ hF
 rw [F_laws_markTurnS_l0] at hF
 try dsimp only
 refine w_seq (ws 1 257 (qp (AI x4) rfl (qp (.sl 0 0 x5.length) rfl (qp (AI (x5.length : Int)) rfl (qp (AB (decide (x4 < (x5.length : Int)))) rfl (r_nil ?_))))))
 refine cF hF (fun hF => ?_) fun hF => ?_
 ·
  refine w_skip (thenQ_n (w_seq (w_block (ws 257 705 (qp (.sl 0 0 x5.length) rfl (qp (AI x4) rfl (qp (AI x3) rfl (bk hF fun u0 e0 hF => qC (AS u0) [(0, .row true 3 (x5.map eTurn))] (con_laws_markText e0) c33_ (bk hF fun u1 e1 hF => qp (.ptr 0 x4.toNat 0) (ev_iad_r rfl (by simp) rfl rfl e1) (qp (.ptr 0 x4.toNat 0) rfl (qf0 (.undef) (K7e x5 x4 u0 u1) (effT_st rfl rfl (ix_some e1).2 rfl rfl (by rfl) (by first | rfl | simp [patch, reb, List.take_of_length_le]) (by rfl) rfl) (r_nil (ws 705 897 ?_)))))))))))))
  refine qp (AI x3) rfl (qp (AI (w64 (x3 + 1))) rfl (qp (AI (w64 (x3 + 1))) rfl (r_nil (ws 897 1281 (qp (.sl 0 0 x5.length) rfl (qp (AI x4) rfl (qp (AI (w64 (x3 + 1))) rfl (bk hF fun u2 e2 hF => qp (.ptr 0 x4.toNat 0) (ev_iad_r rfl (by simp) rfl rfl e2) (qp (.ptr 0 x4.toNat 1) rfl (qf0 (.undef) (K7f x5 x4 u0 u1 u2 x3) (effT_st rfl rfl (ix_some e2).2 rfl rfl (by rfl) (by first | rfl | simp [patch, reb, List.take_of_length_le]) (by rfl) rfl) (r_nil ?_)))))))))))
  refine ws 1281 1473 (qp (AI (w64 (x3 + 1))) rfl (qp (AI (w64 ((w64 (x3 + 1)) + 1))) rfl (qp (AI (w64 ((w64 (x3 + 1)) + 1))) rfl (r_nil (ws 1473 1857 ?_)))))
  refine qp (.sl 0 0 x5.length) rfl (qp (AI x4) rfl (qp (AI (w64 ((w64 (x3 + 1)) + 1))) rfl (bk hF fun u3 e3 hF => qp (.ptr 0 x4.toNat 0) (ev_iad_r rfl (by simp) rfl rfl e3) (qp (.ptr 0 x4.toNat 2) rfl (qf0 (.undef) ((0, .row true 3 ((List.set (List.set (List.set x5 x4.toNat (u0, u1.2.1, u1.2.2)) x4.toNat (u2.1, w64 (x3 + 1), u2.2.2)) x4.toNat (u3.1, u3.2.1, w64 ((w64 (x3 + 1)) + 1))).map eTurn)) :: (K7f x5 x4 u0 u1 u2 x3)) (effT_st rfl rfl (ix_some e3).2 rfl rfl (by rfl) (by first | rfl | simp [patch, reb, List.take_of_length_le]) (by rfl) rfl) (r_nil (w_reg 1857 2049 rfl rfl ?_)))))))
  refine qp (AI (w64 ((w64 (x3 + 1)) + 1))) rfl (qp (AI (w64 ((w64 ((w64 (x3 + 1)) + 1)) + 1))) rfl (qp (AI (w64 ((w64 ((w64 (x3 + 1)) + 1)) + 1))) rfl (r_nil (blockQ_n (thenQ_n ?_)))))
  refine w_reg 2049 2241 rfl rfl (qp (AI x4) rfl (qp (AI (w64 (x4 + 1))) rfl (qp (AI (w64 (x4 + 1))) rfl (r_nil (thenQ_n ?_)))))
  refine ar (l' := [(0, .sl 0 0 (List.set (List.set (List.set x5 x4.toNat (u0, u1.2.1, u1.2.2)) x4.toNat (u2.1, w64 (x3 + 1), u2.2.2)) x4.toNat (u3.1, u3.2.1, w64 ((w64 (x3 + 1)) + 1))).length), (1, AI (w64 ((w64 ((w64 (x3 + 1)) + 1)) + 1))), (5, AI (w64 (x4 + 1)))]) (L := [(0, .row true 3 ((List.set (List.set (List.set x5 x4.toNat (u0, u1.2.1, u1.2.2)) x4.toNat (u2.1, w64 (x3 + 1), u2.2.2)) x4.toNat (u3.1, u3.2.1, w64 ((w64 (x3 + 1)) + 1))).map eTurn))]) [0, 1, 5] [(0, 0)] 1 ⟨_, by rfl, hF⟩
 refine w_exit (thenQ_e (thenQ_e (blockQ_e (thenQ_n (ws 257 385 (qp (AI x3) rfl (qp (AI x3) rfl (r_nil (w_ret ?_)))))))))
 cases hF
 exact endM_r rfl rfl (by first | rfl | (simp [List.take_of_length_le]; first | exact ⟨rfl, rfl⟩ | rfl)) (by simp)

def c10 : MC := (sr [rg 2 (.f (.box t0)), pT 4 (.mv (ci 0))] (sr [pT 5 (.fad t2 0), pT 6 (.ld t5 6 true), mvt 7 1, dT 8 29 [t6, t7], mvt 1 8] (sr [pT 9 (.fad t2 8), lT 10 9, mvt 11 1, dT 12 30 [t10, t11], mvt 1 12] (sr [pT 13 (.fad t2 9), pT 14 (.ld t13 3 true), mvt 15 1, dT 16 31 [t14, t15], mvt 1 16] (sr [pT 17 (.fad t2 17), lT 18 17, mvt 19 1, dT 20 32 [t18, t19], mvt 1 20] (sr [mvt 21 1, mvt 4 21] .ret))))))
theorem c10_is : compFnM Tryz.prog 10 = some (c10, [(.tmp 4)]) := by kernel_rfl
theorem c10_ok : okFn Tryz.prog 10 = true := by kernel_rfl

def F_laws_markWork (v0 : TWork) (v1 : Int) : Option (TWork × Int) :=
 ((F_laws_markRaga (v0.1, v0.2.1, v0.2.2.1, v0.2.2.2.1, v0.2.2.2.2.1, v0.2.2.2.2.2.1) v1).bind fun u0 => need (u0.1.2.1.length = v0.2.1.length) (need (u0.1.2.2.1.length = v0.2.2.1.length) (need (u0.1.2.2.2.2.2.length = v0.2.2.2.2.2.1.length) (((F_laws_markNoteS v0.2.2.2.2.2.2.2.2.1 u0.2).bind fun u7 => need (u7.1.length = v0.2.2.2.2.2.2.2.2.1.length) (((F_laws_markTala (v0.2.2.2.2.2.2.2.2.2.1, v0.2.2.2.2.2.2.2.2.2.2.1, v0.2.2.2.2.2.2.2.2.2.2.2.1) u7.2).bind fun u9 => need (u9.1.2.1.length = v0.2.2.2.2.2.2.2.2.2.2.1.length) (need (u9.1.2.2.length = v0.2.2.2.2.2.2.2.2.2.2.2.1.length) (((F_laws_markTurnS v0.2.2.2.2.2.2.2.2.2.2.2.2.2.2.2.2.2 u9.2).bind fun u13 => need (u13.1.length = v0.2.2.2.2.2.2.2.2.2.2.2.2.2.2.2.2.2.length) (some ((v0.1, u0.1.2.1, u0.1.2.2.1, v0.2.2.2.1, v0.2.2.2.2.1, u0.1.2.2.2.2.2, v0.2.2.2.2.2.2.1, v0.2.2.2.2.2.2.2.1, u7.1, v0.2.2.2.2.2.2.2.2.2.1, u9.1.2.1, u9.1.2.2, v0.2.2.2.2.2.2.2.2.2.2.2.2.1, v0.2.2.2.2.2.2.2.2.2.2.2.2.2.1, v0.2.2.2.2.2.2.2.2.2.2.2.2.2.2.1, v0.2.2.2.2.2.2.2.2.2.2.2.2.2.2.2.1, v0.2.2.2.2.2.2.2.2.2.2.2.2.2.2.2.2.1, u13.1), u13.2))))))))))))
@[simp] abbrev K7g (v0 : TWork) : List (Nat × Root) := [(17, .row true 3 (v0.2.2.2.2.2.2.2.2.2.2.2.2.2.2.2.2.2.map eTurn)), (11, .row true 1 (v0.2.2.2.2.2.2.2.2.2.2.2.1.map vI)), (10, .row true 1 (v0.2.2.2.2.2.2.2.2.2.2.1.map vI)), (8, .row true 2 (v0.2.2.2.2.2.2.2.2.1.map eNote)), (5, .row true 1 (v0.2.2.2.2.2.1.map (eL 1 vI))), (2, .row true 1 (v0.2.2.1.map vI)), (1, .row true 1 (v0.2.1.map vI))]
@[simp] abbrev K7l (v0 : TWork) : List AV := [AS v0.1, .sl 1 0 v0.2.1.length, .sl 2 0 v0.2.2.1.length, AI v0.2.2.2.1, AI v0.2.2.2.2.1, .sl 5 0 v0.2.2.2.2.2.1.length, AI v0.2.2.2.2.2.2.1, AI v0.2.2.2.2.2.2.2.1, .sl 8 0 v0.2.2.2.2.2.2.2.2.1.length, AS v0.2.2.2.2.2.2.2.2.2.1, .sl 10 0 v0.2.2.2.2.2.2.2.2.2.2.1.length, .sl 11 0 v0.2.2.2.2.2.2.2.2.2.2.2.1.length, AI v0.2.2.2.2.2.2.2.2.2.2.2.2.1, AS v0.2.2.2.2.2.2.2.2.2.2.2.2.2.1, AI v0.2.2.2.2.2.2.2.2.2.2.2.2.2.2.1, AI v0.2.2.2.2.2.2.2.2.2.2.2.2.2.2.2.1, AI v0.2.2.2.2.2.2.2.2.2.2.2.2.2.2.2.2.1, .sl 17 0 v0.2.2.2.2.2.2.2.2.2.2.2.2.2.2.2.2.2.length]
@[simp] abbrev K7h (v0 : TWork) : List (Nat × Root) := ((64, .box (K7l v0)) :: (K7g v0))
@[simp] abbrev K7i (u0 : TRaga × Int) (v0 : TWork) : List (Nat × Root) := ((1, .row true 1 (u0.1.2.1.map vI)) :: (2, .row true 1 (u0.1.2.2.1.map vI)) :: (5, .row true 1 (u0.1.2.2.2.2.2.map (eL 1 vI))) :: (K7h v0))
@[simp] abbrev K7k (u9 : TTala × Int) (u7 : (List TNote) × Int) (u0 : TRaga × Int) (v0 : TWork) : List (Nat × Root) := ((10, .row true 1 (u9.1.2.1.map vI)) :: (11, .row true 1 (u9.1.2.2.map vI)) :: (8, .row true 2 (u7.1.map eNote)) :: (K7i u0 v0))
theorem con_laws_markWork {v0 : TWork} {v1 : Int} {r : TWork × Int} (hF : F_laws_markWork v0 v1 = some r) : ConM Tryz.prog 10 (.agg [.val (.str v0.1), .row true 1 (v0.2.1.map vI), .row true 1 (v0.2.2.1.map vI), .val (.int .i64 v0.2.2.2.1), .val (.int .i64 v0.2.2.2.2.1), .row true 1 (v0.2.2.2.2.2.1.map (eL 1 vI)), .val (.int .i64 v0.2.2.2.2.2.2.1), .val (.int .i64 v0.2.2.2.2.2.2.2.1), .row true 2 (v0.2.2.2.2.2.2.2.2.1.map eNote), .val (.str v0.2.2.2.2.2.2.2.2.2.1), .row true 1 (v0.2.2.2.2.2.2.2.2.2.2.1.map vI), .row true 1 (v0.2.2.2.2.2.2.2.2.2.2.2.1.map vI), .val (.int .i64 v0.2.2.2.2.2.2.2.2.2.2.2.2.1), .val (.str v0.2.2.2.2.2.2.2.2.2.2.2.2.2.1), .val (.int .i64 v0.2.2.2.2.2.2.2.2.2.2.2.2.2.2.1), .val (.int .i64 v0.2.2.2.2.2.2.2.2.2.2.2.2.2.2.2.1), .val (.int .i64 v0.2.2.2.2.2.2.2.2.2.2.2.2.2.2.2.2.1), .row true 3 (v0.2.2.2.2.2.2.2.2.2.2.2.2.2.2.2.2.2.map eTurn)]) (.agg [.val (.str r.1.1), .row true 1 (r.1.2.1.map vI), .row true 1 (r.1.2.2.1.map vI), .val (.int .i64 r.1.2.2.2.1), .val (.int .i64 r.1.2.2.2.2.1), .row true 1 (r.1.2.2.2.2.2.1.map (eL 1 vI)), .val (.int .i64 r.1.2.2.2.2.2.2.1), .val (.int .i64 r.1.2.2.2.2.2.2.2.1), .row true 2 (r.1.2.2.2.2.2.2.2.2.1.map eNote), .val (.str r.1.2.2.2.2.2.2.2.2.2.1), .row true 1 (r.1.2.2.2.2.2.2.2.2.2.2.1.map vI), .row true 1 (r.1.2.2.2.2.2.2.2.2.2.2.2.1.map vI), .val (.int .i64 r.1.2.2.2.2.2.2.2.2.2.2.2.2.1), .val (.str r.1.2.2.2.2.2.2.2.2.2.2.2.2.2.1), .val (.int .i64 r.1.2.2.2.2.2.2.2.2.2.2.2.2.2.2.1), .val (.int .i64 r.1.2.2.2.2.2.2.2.2.2.2.2.2.2.2.2.1), .val (.int .i64 r.1.2.2.2.2.2.2.2.2.2.2.2.2.2.2.2.2.1), .row true 3 (r.1.2.2.2.2.2.2.2.2.2.2.2.2.2.2.2.2.2.map eTurn)]) [.int .i64 v1] (.int .i64 r.2) := by
 unfold F_laws_markWork at hF
 refine conM_of (av := .agg (K7l v0)) (L := (K7g v0)) c10_is rfl rfl rfl (by simp) fun N => ?_
 refine ws 64 192 (qf (.ptr 64 0 0) (K7h v0) (by simp) (qp (AI 0) rfl (r_nil (ws 192 512 (qp (.ptr 64 0 0) rfl (qp (.agg [AS v0.1, .sl 1 0 v0.2.1.length, .sl 2 0 v0.2.2.1.length, AI v0.2.2.2.1, AI v0.2.2.2.2.1, .sl 5 0 v0.2.2.2.2.2.1.length]) rfl (qp (AI v1) rfl (bk hF fun u0 e0 hF => nk hF fun g1 hF => nk hF fun g2 hF => nk hF fun g3 hF => ?_))))))))
 have g4 : u0.1.1 = v0.1 := by have h := e0; unfold F_laws_markRaga at h; obtain ⟨_, _, h⟩ := bind_get h; obtain ⟨_, h⟩ := need_some h; obtain ⟨_, _, h⟩ := bind_get h; obtain ⟨_, h⟩ := need_some h; obtain ⟨_, _, h⟩ := bind_get h; obtain ⟨_, h⟩ := need_some h; cases h; rfl
 have g5 : u0.1.2.2.2.1 = v0.2.2.2.1 := by have h := e0; unfold F_laws_markRaga at h; obtain ⟨_, _, h⟩ := bind_get h; obtain ⟨_, h⟩ := need_some h; obtain ⟨_, _, h⟩ := bind_get h; obtain ⟨_, h⟩ := need_some h; obtain ⟨_, _, h⟩ := bind_get h; obtain ⟨_, h⟩ := need_some h; cases h; rfl
 have g6 : u0.1.2.2.2.2.1 = v0.2.2.2.2.1 := by have h := e0; unfold F_laws_markRaga at h; obtain ⟨_, _, h⟩ := bind_get h; obtain ⟨_, h⟩ := need_some h; obtain ⟨_, _, h⟩ := bind_get h; obtain ⟨_, h⟩ := need_some h; obtain ⟨_, _, h⟩ := bind_get h; obtain ⟨_, h⟩ := need_some h; cases h; rfl
 refine qm (ls := [1, 2, 5]) (K7i u0 v0) (con_laws_markRaga e0) c29_ok (by first | rfl | simp [takeM, takeML, takeM1, g1, g2, g3, g4, g5, g6]) (by decide) (by simp [like2, likeL, like1, g1, g2, g3, g4, g5, g6]) rfl rfl rfl (by simp [scrO_fo, newO2, newO, scrR, scrA, scrAs]) (qp (AI u0.2) rfl (r_nil (ws 512 832 (qp (.ptr 64 0 8) rfl (qp (.sl 8 0 v0.2.2.2.2.2.2.2.2.1.length) rfl (qp (AI u0.2) rfl (bk hF fun u7 e7 hF => nk hF fun g8 hF => qm (ls := [8]) ((8, .row true 2 (u7.1.map eNote)) :: (K7i u0 v0)) (con_laws_markNoteS e7) c30_ok (by first | rfl | simp [takeM, takeML, takeM1, g1, g2, g3, g4, g5, g6, g8]) (by decide) (by simp [like2, likeL, like1, g8]) rfl rfl rfl (by simp [scrO_fo, newO2, newO, scrR, scrA, scrAs]) (qp (AI u7.2) rfl (r_nil (ws 832 1152 (qp (.ptr 64 0 9) rfl (qp (.agg [AS v0.2.2.2.2.2.2.2.2.2.1, .sl 10 0 v0.2.2.2.2.2.2.2.2.2.2.1.length, .sl 11 0 v0.2.2.2.2.2.2.2.2.2.2.2.1.length]) rfl (qp (AI u7.2) rfl (bk hF fun u9 e9 hF => nk hF fun g10 hF => nk hF fun g11 hF => ?_))))))))))))))
 have g12 : u9.1.1 = v0.2.2.2.2.2.2.2.2.2.1 := by have h := e9; unfold F_laws_markTala at h; obtain ⟨_, _, h⟩ := bind_get h; obtain ⟨_, h⟩ := need_some h; obtain ⟨_, _, h⟩ := bind_get h; obtain ⟨_, h⟩ := need_some h; cases h; rfl
 refine qm (ls := [10, 11]) (K7k u9 u7 u0 v0) (con_laws_markTala e9) c31_ok (by first | rfl | simp [takeM, takeML, takeM1, g1, g2, g3, g4, g5, g6, g8, g10, g11, g12]) (by decide) (by simp [like2, likeL, like1, g10, g11, g12]) rfl rfl rfl (by simp [scrO_fo, newO2, newO, scrR, scrA, scrAs]) (qp (AI u9.2) rfl (r_nil (ws 1152 1472 (qp (.ptr 64 0 17) rfl (qp (.sl 17 0 v0.2.2.2.2.2.2.2.2.2.2.2.2.2.2.2.2.2.length) rfl (qp (AI u9.2) rfl (bk hF fun u13 e13 hF => nk hF fun g14 hF => qm (ls := [17]) ((17, .row true 3 (u13.1.map eTurn)) :: (K7k u9 u7 u0 v0)) (con_laws_markTurnS e13) c32_ok (by first | rfl | simp [takeM, takeML, takeM1, g1, g2, g3, g4, g5, g6, g8, g10, g11, g12, g14]) (by decide) (by simp [like2, likeL, like1, g14]) rfl rfl rfl (by simp [scrO_fo, newO2, newO, scrR, scrA, scrAs]) (qp (AI u13.2) rfl (r_nil (ws 1472 1600 (qp (AI u13.2) rfl (qp (AI u13.2) rfl (r_nil (w_ret ?_))))))))))))))
 cases hF
 exact endM_r rfl rfl (by first | rfl | (simp [List.take_of_length_le, g1, g2, g3, g4, g5, g6, g8, g10, g11, g12, g14]; first | exact ⟨rfl, rfl⟩ | rfl)) (by simp)

def c11 : MC := (sr [pT 4 (.mv (ci 0))] (.seq (sr [pT 5 (.mv (ci 0))] (.block 0 (.loop (.seq (sr [mvt 6 5, mvt 7 0, zT 8 7, bT 9 .lss t6 t8] (cx t9 0)) (.seq (.block 1 (sr [mvt 12 0, mvt 13 5, mvt 14 1, iT 15 12 13 3, pT 16 (.fad t15 0), ⟨none, none, (.f (.st t16 t14 1))⟩] (sr [mvt 17 1, bT 18 .add t17 (ci 1), mvt 1 18] (sr [mvt 19 0, mvt 20 5, mvt 21 1, dT 22 33 [t21], iT 23 19 20 3, pT 24 (.fad t23 1), ⟨none, none, (.f (.st t24 t22 1))⟩] (sr [mvt 25 1, bT 26 .add t25 (ci 1), mvt 1 26] (sr [mvt 27 0, mvt 28 5, mvt 29 1, dT 30 33 [t29], iT 31 27 28 3, pT 32 (.fad t31 2), ⟨none, none, (.f (.st t32 t30 1))⟩] (.reg [mvt 33 1, bT 34 .add t33 (ci 1), mvt 1 34]))))))) (.reg [mvt 10 5, bT 11 .add t10 (ci 1), mvt 5 11])))))) (sr [mvt 35 1, mvt 4 35] .ret)))
theorem c11_is : compFnM Tryz.prog 11 = some (c11, [(.tmp 4)]) := by kernel_rfl
theorem c11_ok : okFn Tryz.prog 11 = true := by kernel_rfl

def F_laws_markProblemS_l0 (k0 : Int × Int × (List TProblem) → Option ((List TProblem) × Int)) : Int × Int × (List TProblem) → Option ((List TProblem) × Int)
 | (x3, x4, x5) => (bif (decide (x4 < (x5.length : Int))) then ((ix x5 x4).bind fun u0 => ((F_laws_markText (w64 (x3 + 1))).bind fun u1 => ((ix (List.set x5 x4.toNat (x3, u0.2.1, u0.2.2)) x4).bind fun u2 => ((F_laws_markText (w64 ((w64 (x3 + 1)) + 1))).bind fun u3 => ((ix (List.set (List.set x5 x4.toNat (x3, u0.2.1, u0.2.2)) x4.toNat (u2.1, u1, u2.2.2)) x4).bind fun u4 => k0 (w64 ((w64 ((w64 (x3 + 1)) + 1)) + 1), w64 (x4 + 1), List.set (List.set (List.set x5 x4.toNat (x3, u0.2.1, u0.2.2)) x4.toNat (u2.1, u1, u2.2.2)) x4.toNat (u4.1, u4.2.1, u3)))))))
 else some (x5, x3))
def F_laws_markProblemS (v0 : List TProblem) (v1 : Int) : Option ((List TProblem) × Int) :=
 loop (F_laws_markProblemS_l0) (v1, 0, v0)
@[simp] abbrev K7m (x5 : List TProblem) (x4 : Int) (x3 : Int) (u0 : TProblem) : List (Nat × Root) := [(0, .row true 3 ((List.set x5 x4.toNat (x3, u0.2.1, u0.2.2)).map eProblem)), (0, .row true 3 (x5.map eProblem))]
@[simp] abbrev K7n (x5 : List TProblem) (x4 : Int) (x3 : Int) (u0 : TProblem) (u2 : TProblem) (u1 : List UInt8) : List (Nat × Root) := ((0, .row true 3 ((List.set (List.set x5 x4.toNat (x3, u0.2.1, u0.2.2)) x4.toNat (u2.1, u1, u2.2.2)).map eProblem)) :: (K7m x5 x4 x3 u0))
theorem con_laws_markProblemS {v0 : List TProblem} {v1 : Int} {r : (List TProblem) × Int} (hF : F_laws_markProblemS v0 v1 = some r) : ConM Tryz.prog 11 (.one (.row true 3 (v0.map eProblem))) (.one (.row true 3 (r.1.map eProblem))) [.int .i64 v1] (.int .i64 r.2) := by
 unfold F_laws_markProblemS at hF
 refine conM_of (av := .sl 0 0 v0.length) (L := [(0, .row true 3 (v0.map eProblem))]) c11_is rfl rfl rfl (by simp) fun N => ?_
 refine ws 64 128 (qp (AI 0) rfl (r_nil (w_seq (ws 128 192 (qp (AI 0) rfl (r_nil (w_block ?_)))))))
 refine wr (l' := [(0, .sl 0 0 v0.length), (1, AI v1), (5, AI 0)]) (L := [(0, .row true 3 (v0.map eProblem))]) [0, 1, 5] [(0, 0)] 1 ?_
 refine w_loopF (F_laws_markProblemS_l0) (fun s : Int × Int × (List TProblem) => mkS [(0, .sl 0 0 s.2.2.length), (1, AI s.1), (5, AI s.2.1)] (fo [(0, .row true 3 (s.2.2.map eProblem))]) 1) hF ?_
 rintro k0 ⟨x3, x4, x5⟩ hF
 rw [F_laws_markProblemS_l0] at hF
 try dsimp only
 refine w_seq (ws 1 257 (qp (AI x4) rfl (qp (.sl 0 0 x5.length) rfl (qp (AI (x5.length : Int)) rfl (qp (AB (decide (x4 < (x5.length : Int)))) rfl (r_nil ?_))))))
 refine cF hF (fun hF => ?_) fun hF => ?_
 ·
  refine w_skip (thenQ_n (w_seq (w_block (ws 257 641 (qp (.sl 0 0 x5.length) rfl (qp (AI x4) rfl (qp (AI x3) rfl (bk hF fun u0 e0 hF => qp (.ptr 0 x4.toNat 0) (ev_iad_r rfl (by simp) rfl rfl e0) (qp (.ptr 0 x4.toNat 0) rfl (qf0 (.undef) (K7m x5 x4 x3 u0) (effT_st rfl rfl (ix_some e0).2 rfl rfl (by rfl) (by first | rfl | simp [patch, reb, List.take_of_length_le]) (by rfl) rfl) (r_nil (ws 641 833 ?_))))))))))))
  refine qp (AI x3) rfl (qp (AI (w64 (x3 + 1))) rfl (qp (AI (w64 (x3 + 1))) rfl (r_nil (ws 833 1281 (qp (.sl 0 0 x5.length) rfl (qp (AI x4) rfl (qp (AI (w64 (x3 + 1))) rfl (bk hF fun u1 e1 hF => qC (AS u1) (K7m x5 x4 x3 u0) (con_laws_markText e1) c33_ (bk hF fun u2 e2 hF => qp (.ptr 0 x4.toNat 0) (ev_iad_r rfl (by simp) rfl rfl e2) (qp (.ptr 0 x4.toNat 1) rfl (qf0 (.undef) (K7n x5 x4 x3 u0 u2 u1) (effT_st rfl rfl (ix_some e2).2 rfl rfl (by rfl) (by first | rfl | simp [patch, reb, List.take_of_length_le]) (by rfl) rfl) (r_nil ?_))))))))))))
  refine ws 1281 1473 (qp (AI (w64 (x3 + 1))) rfl (qp (AI (w64 ((w64 (x3 + 1)) + 1))) rfl (qp (AI (w64 ((w64 (x3 + 1)) + 1))) rfl (r_nil (ws 1473 1921 ?_)))))
  refine qp (.sl 0 0 x5.length) rfl (qp (AI x4) rfl (qp (AI (w64 ((w64 (x3 + 1)) + 1))) rfl (bk hF fun u3 e3 hF => qC (AS u3) (K7n x5 x4 x3 u0 u2 u1) (con_laws_markText e3) c33_ (bk hF fun u4 e4 hF => qp (.ptr 0 x4.toNat 0) (ev_iad_r rfl (by simp) rfl rfl e4) (qp (.ptr 0 x4.toNat 2) rfl (qf0 (.undef) ((0, .row true 3 ((List.set (List.set (List.set x5 x4.toNat (x3, u0.2.1, u0.2.2)) x4.toNat (u2.1, u1, u2.2.2)) x4.toNat (u4.1, u4.2.1, u3)).map eProblem)) :: (K7n x5 x4 x3 u0 u2 u1)) (effT_st rfl rfl (ix_some e4).2 rfl rfl (by rfl) (by first | rfl | simp [patch, reb, List.take_of_length_le]) (by rfl) rfl) (r_nil (w_reg 1921 2113 rfl rfl ?_))))))))
  refine qp (AI (w64 ((w64 (x3 + 1)) + 1))) rfl (qp (AI (w64 ((w64 ((w64 (x3 + 1)) + 1)) + 1))) rfl (qp (AI (w64 ((w64 ((w64 (x3 + 1)) + 1)) + 1))) rfl (r_nil (blockQ_n (thenQ_n ?_)))))
  refine w_reg 2113 2305 rfl rfl (qp (AI x4) rfl (qp (AI (w64 (x4 + 1))) rfl (qp (AI (w64 (x4 + 1))) rfl (r_nil (thenQ_n ?_)))))
  refine ar (l' := [(0, .sl 0 0 (List.set (List.set (List.set x5 x4.toNat (x3, u0.2.1, u0.2.2)) x4.toNat (u2.1, u1, u2.2.2)) x4.toNat (u4.1, u4.2.1, u3)).length), (1, AI (w64 ((w64 ((w64 (x3 + 1)) + 1)) + 1))), (5, AI (w64 (x4 + 1)))]) (L := [(0, .row true 3 ((List.set (List.set (List.set x5 x4.toNat (x3, u0.2.1, u0.2.2)) x4.toNat (u2.1, u1, u2.2.2)) x4.toNat (u4.1, u4.2.1, u3)).map eProblem))]) [0, 1, 5] [(0, 0)] 1 ⟨_, by rfl, hF⟩
 refine w_exit (thenQ_e (thenQ_e (blockQ_e (thenQ_n (ws 257 385 (qp (AI x3) rfl (qp (AI x3) rfl (r_nil (w_ret ?_)))))))))
 cases hF
 exact endM_r rfl rfl (by first | rfl | (simp [List.take_of_length_le]; first | exact ⟨rfl, rfl⟩ | rfl)) (by simp)

def c12 : MC := (sr [pT 4 (.mv (ci 0))] (.seq (sr [pT 5 (.mv (ci 0))] (.block 0 (.loop (.seq (sr [mvt 6 5, mvt 7 0, zT 8 7, bT 9 .lss t6 t8] (cx t9 0)) (.seq (.block 1 (.seq (sr [mvt 12 0, mvt 13 5, iT 14 12 13 3, pT 15 (.fad t14 0), lT 16 15, mvt 17 1, bT 18 .neq t16 t17] (.cond t18 (sr [pT 4 (.mv (ci (-1)))] .ret) .skip)) (sr [mvt 19 1, bT 20 .add t19 (ci 1), mvt 1 20] (.seq (sr [mP 21 t0, mP 22 t5, iF 23 21 22 3, pF 24 (.fad t23 1), lF 25 24, mP 26 t1, dF 27 33 [t26], bF 28 .neq t25 t27] (.cond t28 (sr [pT 4 (.mv (ci (-1)))] .ret) .skip)) (sr [mvt 29 1, bT 30 .add t29 (ci 1), mvt 1 30] (.seq (sr [mP 31 t0, mP 32 t5, iF 33 31 32 3, pF 34 (.fad t33 2), lF 35 34, mP 36 t1, dF 37 33 [t36], bF 38 .neq t35 t37] (.cond t38 (sr [pT 4 (.mv (ci (-1)))] .ret) .skip)) (.reg [mvt 39 1, bT 40 .add t39 (ci 1), mvt 1 40]))))))) (.reg [mvt 10 5, bT 11 .add t10 (ci 1), mvt 5 11])))))) (sr [mvt 41 1, mvt 4 41] .ret)))
theorem c12_ : IsF Tryz.prog 12 c12 [(.tmp 4)] := ⟨by kernel_rfl, by kernel_rfl⟩

def F_laws_heldProblemS_l0 (v0 : List TProblem) (k0 : Int × Int → Option (Int)) : Int × Int → Option (Int)
 | (x2, x3) => (bif (decide (x3 < (v0.length : Int))) then ((ix v0 x3).bind fun u0 => (bif (decide (u0.1 ≠ x2)) then some (-1)
 else ((ix v0 x3).bind fun u1 => ((F_laws_markText (w64 (x2 + 1))).bind fun u2 => (bif (decide (u1.2.1 ≠ u2)) then some (-1)
 else ((ix v0 x3).bind fun u3 => ((F_laws_markText (w64 ((w64 (x2 + 1)) + 1))).bind fun u4 => (bif (decide (u3.2.2 ≠ u4)) then some (-1)
 else k0 (w64 ((w64 ((w64 (x2 + 1)) + 1)) + 1), w64 (x3 + 1))))))))))
 else some x2)
def F_laws_heldProblemS (v0 : List TProblem) (v1 : Int) : Option (Int) :=
 loop (F_laws_heldProblemS_l0 v0) (v1, 0)
@[simp] abbrev K7o (v0 : List TProblem) : V := .sl 3 (v0.map eProblem)
@[simp] def res_laws_heldProblemS (r : Int) : RV := .one (.one (.val (.int .i64 r)))
theorem con_laws_heldProblemS {v0 : List TProblem} {v1 : Int} {r : Int} (hF : F_laws_heldProblemS v0 v1 = some r) : Con Tryz.prog 12 [.sl 3 (v0.map eProblem), .int .i64 v1] (res_laws_heldProblemS r) := by
 unfold F_laws_heldProblemS at hF
 refine con_of c12_.1 fun N => ?_
 refine ws 0 64 (qp (AI 0) rfl (r_nil (w_seq (ws 64 128 (qp (AI 0) rfl (r_nil (w_block ?_)))))))
 refine wr (l' := [(0, .val none (K7o v0)), (1, AI v1), (5, AI 0)]) (L := []) [0, 1, 5] [] 1 ?_
 refine w_loopF (F_laws_heldProblemS_l0 v0) (fun s : Int × Int => mkS [(0, .val none (K7o v0)), (1, AI s.1), (5, AI s.2)] (fo []) 1) hF ?_
 rintro k0 ⟨x2, x3⟩ hF
 rw [F_laws_heldProblemS_l0] at hF
 try dsimp only
 refine w_seq (ws 1 257 (qp (AI x3) rfl (qp (.val none (K7o v0)) rfl (qp (AI (v0.length : Int)) (ev_len_n rfl) (qp (AB (decide (x3 < (v0.length : Int)))) rfl (r_nil ?_))))))
 refine cF hF (fun hF => ?_) fun hF => ?_
 ·
  refine w_skip (thenQ_n (w_seq (w_block (w_seq (ws 257 705 (qp (.val none (K7o v0)) rfl (qp (AI x3) rfl (bk hF fun u0 e0 hF => qp (.val none (.ptr [.int .i64 u0.1, .str u0.2.1, .str u0.2.2])) (ev_iad_n rfl rfl e0 rfl) (qp (.val none (.ptr [.int .i64 u0.1, .str u0.2.1, .str u0.2.2])) rfl (qp (AI u0.1) rfl (qp (AI x2) rfl (qp (AB (decide (u0.1 ≠ x2))) rfl (r_nil ?_)))))))))))))
  refine cF hF (fun hF => ws 705 769 (qp (AI (-1)) rfl (r_nil (w_ret (thenQ_r (blockQ_r (thenQ_r (thenQ_r (blockQ_r (thenQ_r (eQ hF))))))))))) fun hF => ?_
  refine w_skip (thenQ_n (ws 705 897 (qp (AI x2) rfl (qp (AI (w64 (x2 + 1))) rfl (qp (AI (w64 (x2 + 1))) rfl (r_nil (w_seq (ws 897 1409 (qp (.val none (K7o v0)) rfl (qp (AI x3) rfl (bk hF fun u1 e1 hF => ?_)))))))))))
  refine qp (.val none (.ptr [.int .i64 u1.1, .str u1.2.1, .str u1.2.2])) (ev_iad_n rfl rfl e1 rfl) (qp (.val none (.ptr [.str u1.2.1, .str u1.2.2])) rfl (qp (AS u1.2.1) rfl (qp (AI (w64 (x2 + 1))) rfl (bk hF fun u2 e2 hF => qC (AS u2) [] (con_laws_markText e2) c33_ (qp (AB (decide (u1.2.1 ≠ u2))) rfl (r_nil ?_))))))
  refine cF hF (fun hF => ws 1409 1473 (qp (AI (-1)) rfl (r_nil (w_ret (thenQ_r (blockQ_r (thenQ_r (thenQ_r (blockQ_r (thenQ_r (eQ hF))))))))))) fun hF => ?_
  refine w_skip (thenQ_n (ws 1409 1601 (qp (AI (w64 (x2 + 1))) rfl (qp (AI (w64 ((w64 (x2 + 1)) + 1))) rfl (qp (AI (w64 ((w64 (x2 + 1)) + 1))) rfl (r_nil (w_seq (ws 1601 2113 ?_))))))))
  refine qp (.val none (K7o v0)) rfl (qp (AI x3) rfl (bk hF fun u3 e3 hF => qp (.val none (.ptr [.int .i64 u3.1, .str u3.2.1, .str u3.2.2])) (ev_iad_n rfl rfl e3 rfl) (qp (.val none (.ptr [.str u3.2.2])) rfl (qp (AS u3.2.2) rfl (qp (AI (w64 ((w64 (x2 + 1)) + 1))) rfl (bk hF fun u4 e4 hF => qC (AS u4) [] (con_laws_markText e4) c33_ (qp (AB (decide (u3.2.2 ≠ u4))) rfl (r_nil ?_))))))))
  refine cF hF (fun hF => ws 2113 2177 (qp (AI (-1)) rfl (r_nil (w_ret (thenQ_r (blockQ_r (thenQ_r (thenQ_r (blockQ_r (thenQ_r (eQ hF))))))))))) fun hF => ?_
  refine w_skip (thenQ_n (w_reg 2113 2305 rfl rfl (qp (AI (w64 ((w64 (x2 + 1)) + 1))) rfl (qp (AI (w64 ((w64 ((w64 (x2 + 1)) + 1)) + 1))) rfl (qp (AI (w64 ((w64 ((w64 (x2 + 1)) + 1)) + 1))) rfl ?_)))))
  refine r_nil (blockQ_n (thenQ_n (w_reg 2305 2497 rfl rfl (qp (AI x3) rfl (qp (AI (w64 (x3 + 1))) rfl (qp (AI (w64 (x3 + 1))) rfl (r_nil (thenQ_n ?_))))))))
  refine ar (l' := [(0, .val none (K7o v0)), (1, AI (w64 ((w64 ((w64 (x2 + 1)) + 1)) + 1))), (5, AI (w64 (x3 + 1)))]) (L := []) [0, 1, 5] [] 1 ⟨_, by rfl, hF⟩
 exact w_exit (thenQ_e (thenQ_e (blockQ_e (thenQ_n (ws 257 385 (qp (AI x2) rfl (qp (AI x2) rfl (rR hF))))))))

end Go.Ab
