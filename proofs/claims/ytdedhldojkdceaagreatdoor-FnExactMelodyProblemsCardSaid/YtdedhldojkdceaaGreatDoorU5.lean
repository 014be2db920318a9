/- Walks (printed by auto.py, a program of this session's own). -/
import Derived.Test.YtdedhldojkdceaaGreatDoorU4
import Derived.Test.YtdedhldojkdceaaGreatDoorProg
import Derived.KernelRfl
import Derived.Test.YtdedhldojkdceaaGreatDoorSQ
set_option linter.unusedVariables false
set_option linter.unusedSimpArgs false
set_option maxRecDepth 8000
set_option maxHeartbeats 8000000
noncomputable section
namespace Go.Ab
open Go.RowKit Go.Proofs

def c19 : MC := (sr [rg 2 (.f (.box t0)), rg 3 (.f (.box t1)), pT 4 (.mv cf)] (.seq (sr [pT 5 (.fad t2 0), pT 6 (.ld t5 6 true), pT 7 (.fad t3 0), pT 8 (.ld t7 6 true), dT 9 46 [t6, t8], pT 10 (.not t9)] (.cond t10 (sr [pT 4 (.mv cf)] .ret) .skip)) (.seq (sr [pT 11 (.fad t2 6), lT 12 11, pT 13 (.fad t3 6), lT 14 13, bT 15 .neq t12 t14] (.cond t15 (sr [pT 4 (.mv cf)] .ret) .skip)) (.seq (sr [pT 16 (.fad t2 7), lT 17 16, pT 18 (.fad t3 7), lT 19 18, bT 20 .neq t17 t19] (.cond t20 (sr [pT 4 (.mv cf)] .ret) .skip)) (.seq (sr [pT 21 (.fad t2 8), lT 22 21, pT 23 (.fad t3 8), lT 24 23, dT 25 47 [t22, t24], pT 26 (.not t25)] (.cond t26 (sr [pT 4 (.mv cf)] .ret) .skip)) (.seq (sr [pT 27 (.fad t2 9), pT 28 (.ld t27 3 true), pT 29 (.fad t3 9), pT 30 (.ld t29 3 true), dT 31 48 [t28, t30], pT 32 (.not t31)] (.cond t32 (sr [pT 4 (.mv cf)] .ret) .skip)) (.seq (sr [pT 33 (.fad t2 12), lT 34 33, pT 35 (.fad t3 12), lT 36 35, bT 37 .neq t34 t36] (.cond t37 (sr [pT 4 (.mv cf)] .ret) .skip)) (.seq (sr [pT 38 (.fad t2 13), lT 39 38, pT 40 (.fad t3 13), lT 41 40, bT 42 .neq t39 t41] (.cond t42 (sr [pT 4 (.mv cf)] .ret) .skip)) (.seq (sr [pT 43 (.fad t2 14), lT 44 43, pT 45 (.fad t3 14), lT 46 45, bT 47 .neq t44 t46] (.cond t47 (sr [pT 4 (.mv cf)] .ret) .skip)) (.seq (sr [pT 48 (.fad t2 15), lT 49 48, pT 50 (.fad t3 15), lT 51 50, bT 52 .neq t49 t51] (.cond t52 (sr [pT 4 (.mv cf)] .ret) .skip)) (.seq (sr [pT 53 (.fad t2 16), lT 54 53, pT 55 (.fad t3 16), lT 56 55, bT 57 .neq t54 t56] (.cond t57 (sr [pT 4 (.mv cf)] .ret) .skip)) (.seq (sr [pT 58 (.fad t2 17), lT 59 58, pT 60 (.fad t3 17), lT 61 60, dT 62 49 [t59, t61], pT 63 (.not t62)] (.cond t63 (sr [pT 4 (.mv cf)] .ret) .skip)) (sr [pT 4 (.mv ct)] .ret)))))))))))))
theorem c19_ : IsF Tryz.prog 19 c19 [(.tmp 4)] := ⟨by kernel_rfl, by kernel_rfl⟩

def F_laws_eqWork (v0 : TWork) (v1 : TWork) : Option (Bool) :=
 ((F_laws_eqRaga (v0.1, v0.2.1, v0.2.2.1, v0.2.2.2.1, v0.2.2.2.2.1, v0.2.2.2.2.2.1) (v1.1, v1.2.1, v1.2.2.1, v1.2.2.2.1, v1.2.2.2.2.1, v1.2.2.2.2.2.1)).bind fun u0 => (bif (!u0) then some false
 else (bif (decide (v0.2.2.2.2.2.2.1 ≠ v1.2.2.2.2.2.2.1)) then some false
 else (bif (decide (v0.2.2.2.2.2.2.2.1 ≠ v1.2.2.2.2.2.2.2.1)) then some false
 else ((F_laws_eqNoteS v0.2.2.2.2.2.2.2.2.1 v1.2.2.2.2.2.2.2.2.1).bind fun u1 => (bif (!u1) then some false
 else ((F_laws_eqTala (v0.2.2.2.2.2.2.2.2.2.1, v0.2.2.2.2.2.2.2.2.2.2.1, v0.2.2.2.2.2.2.2.2.2.2.2.1) (v1.2.2.2.2.2.2.2.2.2.1, v1.2.2.2.2.2.2.2.2.2.2.1, v1.2.2.2.2.2.2.2.2.2.2.2.1)).bind fun u2 => (bif (!u2) then some false
 else (bif (decide (v0.2.2.2.2.2.2.2.2.2.2.2.2.1 ≠ v1.2.2.2.2.2.2.2.2.2.2.2.2.1)) then some false
 else (bif (decide (v0.2.2.2.2.2.2.2.2.2.2.2.2.2.1 ≠ v1.2.2.2.2.2.2.2.2.2.2.2.2.2.1)) then some false
 else (bif (decide (v0.2.2.2.2.2.2.2.2.2.2.2.2.2.2.1 ≠ v1.2.2.2.2.2.2.2.2.2.2.2.2.2.2.1)) then some false
 else (bif (decide (v0.2.2.2.2.2.2.2.2.2.2.2.2.2.2.2.1 ≠ v1.2.2.2.2.2.2.2.2.2.2.2.2.2.2.2.1)) then some false
 else (bif (decide (v0.2.2.2.2.2.2.2.2.2.2.2.2.2.2.2.2.1 ≠ v1.2.2.2.2.2.2.2.2.2.2.2.2.2.2.2.2.1)) then some false
 else ((F_laws_eqTurnS v0.2.2.2.2.2.2.2.2.2.2.2.2.2.2.2.2.2 v1.2.2.2.2.2.2.2.2.2.2.2.2.2.2.2.2.2).bind fun u3 => (bif (!u3) then some false
 else some true)))))))))))))))
@[simp] abbrev K7t (v0 : TWork) : List (Nat × Root) := [(0, .box [AS v0.1, AL 1 (v0.2.1.map vI), AL 1 (v0.2.2.1.map vI), AI v0.2.2.2.1, AI v0.2.2.2.2.1, AL 1 (v0.2.2.2.2.2.1.map (eL 1 vI)), AI v0.2.2.2.2.2.2.1, AI v0.2.2.2.2.2.2.2.1, AL 2 (v0.2.2.2.2.2.2.2.2.1.map eNote), AS v0.2.2.2.2.2.2.2.2.2.1, AL 1 (v0.2.2.2.2.2.2.2.2.2.2.1.map vI), AL 1 (v0.2.2.2.2.2.2.2.2.2.2.2.1.map vI), AI v0.2.2.2.2.2.2.2.2.2.2.2.2.1, AS v0.2.2.2.2.2.2.2.2.2.2.2.2.2.1, AI v0.2.2.2.2.2.2.2.2.2.2.2.2.2.2.1, AI v0.2.2.2.2.2.2.2.2.2.2.2.2.2.2.2.1, AI v0.2.2.2.2.2.2.2.2.2.2.2.2.2.2.2.2.1, AL 3 (v0.2.2.2.2.2.2.2.2.2.2.2.2.2.2.2.2.2.map eTurn)])]
@[simp] abbrev K7u (v1 : TWork) (v0 : TWork) : List (Nat × Root) := ((64, .box [AS v1.1, AL 1 (v1.2.1.map vI), AL 1 (v1.2.2.1.map vI), AI v1.2.2.2.1, AI v1.2.2.2.2.1, AL 1 (v1.2.2.2.2.2.1.map (eL 1 vI)), AI v1.2.2.2.2.2.2.1, AI v1.2.2.2.2.2.2.2.1, AL 2 (v1.2.2.2.2.2.2.2.2.1.map eNote), AS v1.2.2.2.2.2.2.2.2.2.1, AL 1 (v1.2.2.2.2.2.2.2.2.2.2.1.map vI), AL 1 (v1.2.2.2.2.2.2.2.2.2.2.2.1.map vI), AI v1.2.2.2.2.2.2.2.2.2.2.2.2.1, AS v1.2.2.2.2.2.2.2.2.2.2.2.2.2.1, AI v1.2.2.2.2.2.2.2.2.2.2.2.2.2.2.1, AI v1.2.2.2.2.2.2.2.2.2.2.2.2.2.2.2.1, AI v1.2.2.2.2.2.2.2.2.2.2.2.2.2.2.2.2.1, AL 3 (v1.2.2.2.2.2.2.2.2.2.2.2.2.2.2.2.2.2.map eTurn)]) :: (K7t v0))
@[simp] def res_laws_eqWork (r : Bool) : RV := .one (.one (.val (.bool r)))
theorem con_laws_eqWork {v0 : TWork} {v1 : TWork} {r : Bool} (hF : F_laws_eqWork v0 v1 = some r) : Con Tryz.prog 19 [eWork v0, eWork v1] (res_laws_eqWork r) := by
 unfold F_laws_eqWork at hF
 refine con_of c19_.1 fun N => ?_
 refine ws 0 192 (qf (.ptr 0 0 0) (K7t v0) (by simp) (qf (.ptr 64 0 0) (K7u v1 v0) (by simp) (qp (AB false) rfl (r_nil (w_seq (ws 192 576 (qp (.ptr 0 0 0) rfl (qp (.agg [AS v0.1, AL 1 (v0.2.1.map vI), AL 1 (v0.2.2.1.map vI), AI v0.2.2.2.1, AI v0.2.2.2.2.1, AL 1 (v0.2.2.2.2.2.1.map (eL 1 vI))]) rfl (qp (.ptr 64 0 0) rfl (qp (.agg [AS v1.1, AL 1 (v1.2.1.map vI), AL 1 (v1.2.2.1.map vI), AI v1.2.2.2.1, AI v1.2.2.2.2.1, AL 1 (v1.2.2.2.2.2.1.map (eL 1 vI))]) rfl (bk hF fun u0 e0 hF => qC (AB u0) (K7u v1 v0) (con_laws_eqRaga e0) c46_ (qp (AB (!u0)) rfl (r_nil ?_)))))))))))))
 refine cF hF (fun hF => ws 576 640 (qp (AB false) rfl (r_nil (w_ret (thenQ_r (eQ hF)))))) fun hF => w_skip (thenQ_n (w_seq (ws 576 896 (qp (.ptr 0 0 6) rfl (qp (AI v0.2.2.2.2.2.2.1) rfl (qp (.ptr 64 0 6) rfl (qp (AI v1.2.2.2.2.2.2.1) rfl (qp (AB (decide (v0.2.2.2.2.2.2.1 ≠ v1.2.2.2.2.2.2.1))) rfl (r_nil ?_)))))))))
 refine cF hF (fun hF => ws 896 960 (qp (AB false) rfl (r_nil (w_ret (thenQ_r (eQ hF)))))) fun hF => w_skip (thenQ_n (w_seq (ws 896 1216 (qp (.ptr 0 0 7) rfl (qp (AI v0.2.2.2.2.2.2.2.1) rfl (qp (.ptr 64 0 7) rfl (qp (AI v1.2.2.2.2.2.2.2.1) rfl (qp (AB (decide (v0.2.2.2.2.2.2.2.1 ≠ v1.2.2.2.2.2.2.2.1))) rfl (r_nil ?_)))))))))
 refine cF hF (fun hF => ws 1216 1280 (qp (AB false) rfl (r_nil (w_ret (thenQ_r (eQ hF)))))) fun hF => w_skip (thenQ_n (w_seq (ws 1216 1600 (qp (.ptr 0 0 8) rfl (qp (AL 2 (v0.2.2.2.2.2.2.2.2.1.map eNote)) rfl (qp (.ptr 64 0 8) rfl (qp (AL 2 (v1.2.2.2.2.2.2.2.2.1.map eNote)) rfl (bk hF fun u1 e1 hF => qC (AB u1) (K7u v1 v0) (con_laws_eqNoteS e1) c47_ (qp (AB (!u1)) rfl (r_nil ?_))))))))))
 refine cF hF (fun hF => ws 1600 1664 (qp (AB false) rfl (r_nil (w_ret (thenQ_r (eQ hF)))))) fun hF => w_skip (thenQ_n (w_seq (ws 1600 1984 (qp (.ptr 0 0 9) rfl (qp (.agg [AS v0.2.2.2.2.2.2.2.2.2.1, AL 1 (v0.2.2.2.2.2.2.2.2.2.2.1.map vI), AL 1 (v0.2.2.2.2.2.2.2.2.2.2.2.1.map vI)]) rfl (qp (.ptr 64 0 9) rfl (qp (.agg [AS v1.2.2.2.2.2.2.2.2.2.1, AL 1 (v1.2.2.2.2.2.2.2.2.2.2.1.map vI), AL 1 (v1.2.2.2.2.2.2.2.2.2.2.2.1.map vI)]) rfl (bk hF fun u2 e2 hF => qC (AB u2) (K7u v1 v0) (con_laws_eqTala e2) c48_ (qp (AB (!u2)) rfl (r_nil ?_))))))))))
 refine cF hF (fun hF => ws 1984 2048 (qp (AB false) rfl (r_nil (w_ret (thenQ_r (eQ hF)))))) fun hF => w_skip (thenQ_n (w_seq (ws 1984 2304 (qp (.ptr 0 0 12) rfl (qp (AI v0.2.2.2.2.2.2.2.2.2.2.2.2.1) rfl (qp (.ptr 64 0 12) rfl (qp (AI v1.2.2.2.2.2.2.2.2.2.2.2.2.1) rfl (qp (AB (decide (v0.2.2.2.2.2.2.2.2.2.2.2.2.1 ≠ v1.2.2.2.2.2.2.2.2.2.2.2.2.1))) rfl (r_nil ?_)))))))))
 refine cF hF (fun hF => ws 2304 2368 (qp (AB false) rfl (r_nil (w_ret (thenQ_r (eQ hF)))))) fun hF => w_skip (thenQ_n (w_seq (ws 2304 2624 (qp (.ptr 0 0 13) rfl (qp (AS v0.2.2.2.2.2.2.2.2.2.2.2.2.2.1) rfl (qp (.ptr 64 0 13) rfl (qp (AS v1.2.2.2.2.2.2.2.2.2.2.2.2.2.1) rfl (qp (AB (decide (v0.2.2.2.2.2.2.2.2.2.2.2.2.2.1 ≠ v1.2.2.2.2.2.2.2.2.2.2.2.2.2.1))) rfl (r_nil ?_)))))))))
 refine cF hF (fun hF => ws 2624 2688 (qp (AB false) rfl (r_nil (w_ret (thenQ_r (eQ hF)))))) fun hF => w_skip (thenQ_n (w_seq (ws 2624 2944 (qp (.ptr 0 0 14) rfl (qp (AI v0.2.2.2.2.2.2.2.2.2.2.2.2.2.2.1) rfl (qp (.ptr 64 0 14) rfl (qp (AI v1.2.2.2.2.2.2.2.2.2.2.2.2.2.2.1) rfl (qp (AB (decide (v0.2.2.2.2.2.2.2.2.2.2.2.2.2.2.1 ≠ v1.2.2.2.2.2.2.2.2.2.2.2.2.2.2.1))) rfl (r_nil ?_)))))))))
 refine cF hF (fun hF => ws 2944 3008 (qp (AB false) rfl (r_nil (w_ret (thenQ_r (eQ hF)))))) fun hF => w_skip (thenQ_n (w_seq (ws 2944 3264 (qp (.ptr 0 0 15) rfl (qp (AI v0.2.2.2.2.2.2.2.2.2.2.2.2.2.2.2.1) rfl (qp (.ptr 64 0 15) rfl (qp (AI v1.2.2.2.2.2.2.2.2.2.2.2.2.2.2.2.1) rfl (qp (AB (decide (v0.2.2.2.2.2.2.2.2.2.2.2.2.2.2.2.1 ≠ v1.2.2.2.2.2.2.2.2.2.2.2.2.2.2.2.1))) rfl (r_nil ?_)))))))))
 refine cF hF (fun hF => ws 3264 3328 (qp (AB false) rfl (r_nil (w_ret (thenQ_r (eQ hF)))))) fun hF => w_skip (thenQ_n (w_seq (ws 3264 3584 (qp (.ptr 0 0 16) rfl (qp (AI v0.2.2.2.2.2.2.2.2.2.2.2.2.2.2.2.2.1) rfl (qp (.ptr 64 0 16) rfl (qp (AI v1.2.2.2.2.2.2.2.2.2.2.2.2.2.2.2.2.1) rfl (qp (AB (decide (v0.2.2.2.2.2.2.2.2.2.2.2.2.2.2.2.2.1 ≠ v1.2.2.2.2.2.2.2.2.2.2.2.2.2.2.2.2.1))) rfl (r_nil ?_)))))))))
 refine cF hF (fun hF => ws 3584 3648 (qp (AB false) rfl (r_nil (w_ret (thenQ_r (eQ hF)))))) fun hF => w_skip (thenQ_n (w_seq (ws 3584 3968 (qp (.ptr 0 0 17) rfl (qp (AL 3 (v0.2.2.2.2.2.2.2.2.2.2.2.2.2.2.2.2.2.map eTurn)) rfl (qp (.ptr 64 0 17) rfl (qp (AL 3 (v1.2.2.2.2.2.2.2.2.2.2.2.2.2.2.2.2.2.map eTurn)) rfl (bk hF fun u3 e3 hF => qC (AB u3) (K7u v1 v0) (con_laws_eqTurnS e3) c49_ (qp (AB (!u3)) rfl (r_nil ?_))))))))))
 refine cF hF (fun hF => ws 3968 4032 (qp (AB false) rfl (r_nil (w_ret (thenQ_r (eQ hF)))))) fun hF => ?_
 exact w_skip (thenQ_n (ws 3968 4032 (qp (AB true) rfl (rR hF))))

def c86 : MC := (sr [pT 4 (.mv (ci 0))] (.seq (sr [pT 5 (.mv (ci 0))] (.block 0 (.loop (.seq (sr [mvt 6 5, mvt 7 0, zT 8 7, bT 9 .lss t6 t8] (cx t9 0)) (.seq (.block 1 (sr [mvt 12 0, mvt 13 5, mvt 14 1, iT 15 12 13 1, ⟨none, none, (.f (.st t15 t14 1))⟩] (.reg [mvt 16 1, bT 17 .add t16 (ci 1), mvt 1 17]))) (.reg [mvt 10 5, bT 11 .add t10 (ci 1), mvt 5 11])))))) (sr [mvt 18 1, mvt 4 18] .ret)))
theorem c86_is : compFnM Tryz.prog 86 = some (c86, [(.tmp 4)]) := by kernel_rfl
theorem c86_ok : okFn Tryz.prog 86 = true := by kernel_rfl

def F_laws_markInt64S_l0 (k0 : Int × Int × (List Int) → Option ((List Int) × Int)) : Int × Int × (List Int) → Option ((List Int) × Int)
 | (x3, x4, x5) => (bif (decide (x4 < (x5.length : Int))) then ((ix x5 x4).bind fun u0 => k0 (w64 (x3 + 1), w64 (x4 + 1), List.set x5 x4.toNat x3))
 else some (x5, x3))
def F_laws_markInt64S (v0 : List Int) (v1 : Int) : Option ((List Int) × Int) :=
 loop (F_laws_markInt64S_l0) (v1, 0, v0)
theorem con_laws_markInt64S {v0 : List Int} {v1 : Int} {r : (List Int) × Int} (hF : F_laws_markInt64S v0 v1 = some r) : ConM Tryz.prog 86 (.one (.row true 1 (v0.map vI))) (.one (.row true 1 (r.1.map vI))) [.int .i64 v1] (.int .i64 r.2) := by
 unfold F_laws_markInt64S at hF
 refine conM_of (av := .sl 0 0 v0.length) (L := [(0, .row true 1 (v0.map vI))]) c86_is rfl rfl rfl (by simp) fun N => ?_
 refine ws 64 128 (qp (AI 0) rfl (r_nil (w_seq (ws 128 192 (qp (AI 0) rfl (r_nil (w_block ?_)))))))
 refine wr (l' := [(0, .sl 0 0 v0.length), (1, AI v1), (5, AI 0)]) (L := [(0, .row true 1 (v0.map vI))]) [0, 1, 5] [(0, 0)] 1 ?_
 refine w_loopF (F_laws_markInt64S_l0) (fun s : Int × Int × (List Int) => mkS [(0, .sl 0 0 s.2.2.length), (1, AI s.1), (5, AI s.2.1)] (fo [(0, .row true 1 (s.2.2.map vI))]) 1) hF ?_
 rintro k0 ⟨x3, x4, x5⟩ hF
 rw [F_laws_markInt64S_l0] at hF
 try dsimp only
 refine w_seq (ws 1 257 (qp (AI x4) rfl (qp (.sl 0 0 x5.length) rfl (qp (AI (x5.length : Int)) rfl (qp (AB (decide (x4 < (x5.length : Int)))) rfl (r_nil ?_))))))
 refine cF hF (fun hF => ?_) fun hF => ?_
 ·
  refine w_skip (thenQ_n (w_seq (w_block (ws 257 577 (qp (.sl 0 0 x5.length) rfl (qp (AI x4) rfl (qp (AI x3) rfl (bk hF fun u0 e0 hF => qp (.ptr 0 x4.toNat 0) (ev_iad_r rfl (by simp) rfl rfl e0) (qf0 (.undef) [(0, .row true 1 ((List.set x5 x4.toNat x3).map vI)), (0, .row true 1 (x5.map vI))] (effT_st rfl rfl (ix_some e0).2 rfl rfl (by rfl) (by first | rfl | simp [patch, reb, List.take_of_length_le]) (by rfl) rfl) (r_nil (w_reg 577 769 rfl rfl ?_)))))))))))
  refine qp (AI x3) rfl (qp (AI (w64 (x3 + 1))) rfl (qp (AI (w64 (x3 + 1))) rfl (r_nil (blockQ_n (thenQ_n (w_reg 769 961 rfl rfl (qp (AI x4) rfl (qp (AI (w64 (x4 + 1))) rfl (qp (AI (w64 (x4 + 1))) rfl ?_)))))))))
  refine r_nil (thenQ_n ?_)
  refine ar (l' := [(0, .sl 0 0 (List.set x5 x4.toNat x3).length), (1, AI (w64 (x3 + 1))), (5, AI (w64 (x4 + 1)))]) (L := [(0, .row true 1 ((List.set x5 x4.toNat x3).map vI))]) [0, 1, 5] [(0, 0)] 1 ⟨_, by rfl, hF⟩
 refine w_exit (thenQ_e (thenQ_e (blockQ_e (thenQ_n (ws 257 385 (qp (AI x3) rfl (qp (AI x3) rfl (r_nil (w_ret ?_)))))))))
 cases hF
 exact endM_r rfl rfl (by first | rfl | (simp [List.take_of_length_le]; first | exact ⟨rfl, rfl⟩ | rfl)) (by simp)

def c87 : MC := (sr [pT 4 (.mv (ci 0))] (.seq (sr [pT 5 (.mv (ci 0))] (.block 0 (.loop (.seq (sr [mvt 6 5, mvt 7 0, zT 8 7, bT 9 .lss t6 t8] (cx t9 0)) (.seq (.block 1 (.reg [mvt 12 0, mvt 13 5, iT 14 12 13 1, lT 15 14, mvt 16 1, dT 17 86 [t15, t16], mvt 1 17])) (.reg [mvt 10 5, bT 11 .add t10 (ci 1), mvt 5 11])))))) (sr [mvt 18 1, mvt 4 18] .ret)))
theorem c87_is : compFnM Tryz.prog 87 = some (c87, [(.tmp 4)]) := by kernel_rfl
theorem c87_ok : okFn Tryz.prog 87 = true := by kernel_rfl

def F_laws_markInt64SS_l0 (k0 : Int × Int × (List (List Int)) → Option ((List (List Int)) × Int)) : Int × Int × (List (List Int)) → Option ((List (List Int)) × Int)
 | (x3, x4, x5) => (bif (decide (x4 < (x5.length : Int))) then ((ix x5 x4).bind fun u0 => ((F_laws_markInt64S u0 x3).bind fun u1 => need (u1.1.length = u0.length) (k0 (u1.2, w64 (x4 + 1), List.set x5 x4.toNat u1.1))))
 else some (x5, x3))
def F_laws_markInt64SS (v0 : List (List Int)) (v1 : Int) : Option ((List (List Int)) × Int) :=
 loop (F_laws_markInt64SS_l0) (v1, 0, v0)
theorem con_laws_markInt64SS {v0 : List (List Int)} {v1 : Int} {r : (List (List Int)) × Int} (hF : F_laws_markInt64SS v0 v1 = some r) : ConM Tryz.prog 87 (.one (.row true 1 (v0.map (eL 1 vI)))) (.one (.row true 1 (r.1.map (eL 1 vI)))) [.int .i64 v1] (.int .i64 r.2) := by
 unfold F_laws_markInt64SS at hF
 refine conM_of (av := .sl 0 0 v0.length) (L := [(0, .row true 1 (v0.map (eL 1 vI)))]) c87_is rfl rfl rfl (by simp) fun N => ?_
 refine ws 64 128 (qp (AI 0) rfl (r_nil (w_seq (ws 128 192 (qp (AI 0) rfl (r_nil (w_block ?_)))))))
 refine wr (l' := [(0, .sl 0 0 v0.length), (1, AI v1), (5, AI 0)]) (L := [(0, .row true 1 (v0.map (eL 1 vI)))]) [0, 1, 5] [(0, 0)] 1 ?_
 refine w_loopF (F_laws_markInt64SS_l0) (fun s : Int × Int × (List (List Int)) => mkS [(0, .sl 0 0 s.2.2.length), (1, AI s.1), (5, AI s.2.1)] (fo [(0, .row true 1 (s.2.2.map (eL 1 vI)))]) 1) hF ?_
 rintro k0 ⟨x3, x4, x5⟩ hF
 rw [F_laws_markInt64SS_l0] at hF
 try dsimp only
 refine w_seq (ws 1 257 (qp (AI x4) rfl (qp (.sl 0 0 x5.length) rfl (qp (AI (x5.length : Int)) rfl (qp (AB (decide (x4 < (x5.length : Int)))) rfl (r_nil ?_))))))
 refine cF hF (fun hF => ?_) fun hF => ?_
 ·
  refine w_skip (thenQ_n (w_seq (w_block (w_reg 257 705 rfl rfl (qp (.sl 0 0 x5.length) rfl (qp (AI x4) rfl (bk hF fun u0 e0 hF => qp (.ptr 0 x4.toNat 0) (ev_iad_r rfl (by simp) rfl rfl e0) (bk hF fun u1 e1 hF => nk hF fun g2 hF => qm_l [(0, .row true 1 ((List.set x5 x4.toNat u1.1).map (eL 1 vI))), (0, .row true 1 (x5.map (eL 1 vI)))] rfl rfl (map_get (ix_some e0).2) rfl rfl rfl (con_laws_markInt64S e1) c86_ok (by simp [g2]) rfl rfl rfl (by simp [scrO_fo, scrR, scrA, scrAs, patch, reb, List.map_set]) (qp (AI u1.2) rfl (r_nil (blockQ_n (thenQ_n (w_reg 705 897 rfl rfl ?_)))))))))))))
  refine qp (AI x4) rfl (qp (AI (w64 (x4 + 1))) rfl (qp (AI (w64 (x4 + 1))) rfl (r_nil (thenQ_n ?_))))
  refine ar (l' := [(0, .sl 0 0 (List.set x5 x4.toNat u1.1).length), (1, AI u1.2), (5, AI (w64 (x4 + 1)))]) (L := [(0, .row true 1 ((List.set x5 x4.toNat u1.1).map (eL 1 vI)))]) [0, 1, 5] [(0, 0)] 1 ⟨_, by rfl, hF⟩
 refine w_exit (thenQ_e (thenQ_e (blockQ_e (thenQ_n (ws 257 385 (qp (AI x3) rfl (qp (AI x3) rfl (r_nil (w_ret ?_)))))))))
 cases hF
 exact endM_r rfl rfl (by first | rfl | (simp [List.take_of_length_le]; first | exact ⟨rfl, rfl⟩ | rfl)) (by simp)

def c50 : MC := (sr [rg 2 (.f (.box t0)), pT 4 (.mv (ci 0))] (sr [pT 5 (.fad t2 1), lT 6 5, mvt 7 1, dT 8 86 [t6, t7], mvt 1 8] (sr [pT 9 (.fad t2 2), lT 10 9, mvt 11 1, dT 12 86 [t10, t11], mvt 1 12] (sr [pT 13 (.fad t2 5), lT 14 13, mvt 15 1, dT 16 87 [t14, t15], mvt 1 16] (sr [mvt 17 1, mvt 4 17] .ret)))))
theorem c50_is : compFnM Tryz.prog 50 = some (c50, [(.tmp 4)]) := by kernel_rfl
theorem c50_ok : okFn Tryz.prog 50 = true := by kernel_rfl

def F_laws_markRaga (v0 : TRaga) (v1 : Int) : Option (TRaga × Int) :=
 ((F_laws_markInt64S v0.2.1 v1).bind fun u0 => need (u0.1.length = v0.2.1.length) (((F_laws_markInt64S v0.2.2.1 u0.2).bind fun u2 => need (u2.1.length = v0.2.2.1.length) (((F_laws_markInt64SS v0.2.2.2.2.2 u2.2).bind fun u4 => need (u4.1.length = v0.2.2.2.2.2.length) (some ((v0.1, u0.1, u2.1, v0.2.2.2.1, v0.2.2.2.2.1, u4.1), u4.2)))))))
@[simp] abbrev K7v (v0 : TRaga) : List (Nat × Root) := [(5, .row true 1 (v0.2.2.2.2.2.map (eL 1 vI))), (2, .row true 1 (v0.2.2.1.map vI)), (1, .row true 1 (v0.2.1.map vI))]
@[simp] abbrev K7z (v0 : TRaga) : List AV := [AS v0.1, .sl 1 0 v0.2.1.length, .sl 2 0 v0.2.2.1.length, AI v0.2.2.2.1, AI v0.2.2.2.2.1, .sl 5 0 v0.2.2.2.2.2.length]
@[simp] abbrev K7w (v0 : TRaga) : List (Nat × Root) := ((64, .box (K7z v0)) :: (K7v v0))
@[simp] abbrev K7x (u0 : (List Int) × Int) (v0 : TRaga) : List (Nat × Root) := ((1, .row true 1 (u0.1.map vI)) :: (K7w v0))
@[simp] abbrev K7y (u2 : (List Int) × Int) (u0 : (List Int) × Int) (v0 : TRaga) : List (Nat × Root) := ((2, .row true 1 (u2.1.map vI)) :: (K7x u0 v0))
theorem con_laws_markRaga {v0 : TRaga} {v1 : Int} {r : TRaga × Int} (hF : F_laws_markRaga v0 v1 = some r) : ConM Tryz.prog 50 (.agg [.val (.str v0.1), .row true 1 (v0.2.1.map vI), .row true 1 (v0.2.2.1.map vI), .val (.int .i64 v0.2.2.2.1), .val (.int .i64 v0.2.2.2.2.1), .row true 1 (v0.2.2.2.2.2.map (eL 1 vI))]) (.agg [.val (.str r.1.1), .row true 1 (r.1.2.1.map vI), .row true 1 (r.1.2.2.1.map vI), .val (.int .i64 r.1.2.2.2.1), .val (.int .i64 r.1.2.2.2.2.1), .row true 1 (r.1.2.2.2.2.2.map (eL 1 vI))]) [.int .i64 v1] (.int .i64 r.2) := by
 unfold F_laws_markRaga at hF
 refine conM_of (av := .agg (K7z v0)) (L := (K7v v0)) c50_is rfl rfl rfl (by simp) fun N => ?_
 refine ws 64 192 (qf (.ptr 64 0 0) (K7w v0) (by simp) (qp (AI 0) rfl (r_nil (ws 192 512 (qp (.ptr 64 0 1) rfl (qp (.sl 1 0 v0.2.1.length) rfl (qp (AI v1) rfl (bk hF fun u0 e0 hF => nk hF fun g1 hF => qm (ls := [1]) (K7x u0 v0) (con_laws_markInt64S e0) c86_ok (by first | rfl | simp [takeM, takeML, takeM1, g1]) (by decide) (by simp [like2, likeL, like1, g1]) rfl rfl rfl (by simp [scrO_fo, newO2, newO, scrR, scrA, scrAs]) (qp (AI u0.2) rfl (r_nil (ws 512 832 (qp (.ptr 64 0 2) rfl (qp (.sl 2 0 v0.2.2.1.length) rfl (qp (AI u0.2) rfl (bk hF fun u2 e2 hF => nk hF fun g3 hF => ?_)))))))))))))))
 refine qm (ls := [2]) (K7y u2 u0 v0) (con_laws_markInt64S e2) c86_ok (by first | rfl | simp [takeM, takeML, takeM1, g1, g3]) (by decide) (by simp [like2, likeL, like1, g3]) rfl rfl rfl (by simp [scrO_fo, newO2, newO, scrR, scrA, scrAs]) (qp (AI u2.2) rfl (r_nil (ws 832 1152 (qp (.ptr 64 0 5) rfl (qp (.sl 5 0 v0.2.2.2.2.2.length) rfl (qp (AI u2.2) rfl (bk hF fun u4 e4 hF => nk hF fun g5 hF => qm (ls := [5]) ((5, .row true 1 (u4.1.map (eL 1 vI))) :: (K7y u2 u0 v0)) (con_laws_markInt64SS e4) c87_ok (by first | rfl | simp [takeM, takeML, takeM1, g1, g3, g5]) (by decide) (by simp [like2, likeL, like1, g5]) rfl rfl rfl (by simp [scrO_fo, newO2, newO, scrR, scrA, scrAs]) (qp (AI u4.2) rfl (r_nil (ws 1152 1280 (qp (AI u4.2) rfl (qp (AI u4.2) rfl (r_nil (w_ret ?_))))))))))))))
 cases hF
 exact endM_r rfl rfl (by first | rfl | (simp [List.take_of_length_le, g1, g3, g5]; first | exact ⟨rfl, rfl⟩ | rfl)) (by simp)

def c32 : MC := (sr [pT 4 (.mv (ci 0))] (.seq (sr [pT 5 (.mv (ci 0))] (.block 0 (.loop (.seq (sr [mvt 6 5, mvt 7 0, zT 8 7, bT 9 .lss t6 t8] (cx t9 0)) (.seq (.block 1 (sr [mvt 12 0, mvt 13 5, mvt 14 1, iT 15 12 13 2, pT 16 (.fad t15 0), ⟨none, none, (.f (.st t16 t14 1))⟩] (sr [mvt 17 1, bT 18 .add t17 (ci 1), mvt 1 18] (sr [mvt 19 0, mvt 20 5, mvt 21 1, iT 22 19 20 2, pT 23 (.fad t22 1), ⟨none, none, (.f (.st t23 t21 1))⟩] (.reg [mvt 24 1, bT 25 .add t24 (ci 1), mvt 1 25]))))) (.reg [mvt 10 5, bT 11 .add t10 (ci 1), mvt 5 11])))))) (sr [mvt 26 1, mvt 4 26] .ret)))
theorem c32_is : compFnM Tryz.prog 32 = some (c32, [(.tmp 4)]) := by kernel_rfl
theorem c32_ok : okFn Tryz.prog 32 = true := by kernel_rfl

def F_laws_markNoteS_l0 (k0 : Int × Int × (List TNote) → Option ((List TNote) × Int)) : Int × Int × (List TNote) → Option ((List TNote) × Int)
 | (x3, x4, x5) => (bif (decide (x4 < (x5.length : Int))) then ((ix x5 x4).bind fun u0 => ((ix (List.set x5 x4.toNat (x3, u0.2)) x4).bind fun u1 => k0 (w64 ((w64 (x3 + 1)) + 1), w64 (x4 + 1), List.set (List.set x5 x4.toNat (x3, u0.2)) x4.toNat (u1.1, w64 (x3 + 1)))))
 else some (x5, x3))
def F_laws_markNoteS (v0 : List TNote) (v1 : Int) : Option ((List TNote) × Int) :=
 loop (F_laws_markNoteS_l0) (v1, 0, v0)
@[simp] abbrev K80 (x5 : List TNote) (x4 : Int) (x3 : Int) (u0 : TNote) : List (Nat × Root) := [(0, .row true 2 ((List.set x5 x4.toNat (x3, u0.2)).map eNote)), (0, .row true 2 (x5.map eNote))]
theorem con_laws_markNoteS {v0 : List TNote} {v1 : Int} {r : (List TNote) × Int} (hF : F_laws_markNoteS v0 v1 = some r) : ConM Tryz.prog 32 (.one (.row true 2 (v0.map eNote))) (.one (.row true 2 (r.1.map eNote))) [.int .i64 v1] (.int .i64 r.2) := by
 unfold F_laws_markNoteS at hF
 refine conM_of (av := .sl 0 0 v0.length) (L := [(0, .row true 2 (v0.map eNote))]) c32_is rfl rfl rfl (by simp) fun N => ?_
 refine ws 64 128 (qp (AI 0) rfl (r_nil (w_seq (ws 128 192 (qp (AI 0) rfl (r_nil (w_block ?_)))))))
 refine wr (l' := [(0, .sl 0 0 v0.length), (1, AI v1), (5, AI 0)]) (L := [(0, .row true 2 (v0.map eNote))]) [0, 1, 5] [(0, 0)] 1 ?_
 refine w_loopF (F_laws_markNoteS_l0) (fun s : Int × Int × (List TNote) => mkS [(0, .sl 0 0 s.2.2.length), (1, AI s.1), (5, AI s.2.1)] (fo [(0, .row true 2 (s.2.2.map eNote))]) 1) hF ?_
 rintro k0 ⟨x3, x4, x5⟩ hF
 rw [F_laws_markNoteS_l0] at hF
 try dsimp only
 refine w_seq (ws 1 257 (qp (AI x4) rfl (qp (.sl 0 0 x5.length) rfl (qp (AI (x5.length : Int)) rfl (qp (AB (decide (x4 < (x5.length : Int)))) rfl (r_nil ?_))))))
 refine cF hF (fun hF => ?_) fun hF => ?_
 ·
  refine w_skip (thenQ_n (w_seq (w_block (ws 257 641 (qp (.sl 0 0 x5.length) rfl (qp (AI x4) rfl (qp (AI x3) rfl (bk hF fun u0 e0 hF => qp (.ptr 0 x4.toNat 0) (ev_iad_r rfl (by simp) rfl rfl e0) (qp (.ptr 0 x4.toNat 0) rfl (qf0 (.undef) (K80 x5 x4 x3 u0) (effT_st rfl rfl (ix_some e0).2 rfl rfl (by rfl) (by first | rfl | simp [patch, reb, List.take_of_length_le]) (by rfl) rfl) (r_nil (ws 641 833 ?_))))))))))))
  refine qp (AI x3) rfl (qp (AI (w64 (x3 + 1))) rfl (qp (AI (w64 (x3 + 1))) rfl (r_nil (ws 833 1217 (qp (.sl 0 0 x5.length) rfl (qp (AI x4) rfl (qp (AI (w64 (x3 + 1))) rfl (bk hF fun u1 e1 hF => qp (.ptr 0 x4.toNat 0) (ev_iad_r rfl (by simp) rfl rfl e1) (qp (.ptr 0 x4.toNat 1) rfl (qf0 (.undef) ((0, .row true 2 ((List.set (List.set x5 x4.toNat (x3, u0.2)) x4.toNat (u1.1, w64 (x3 + 1))).map eNote)) :: (K80 x5 x4 x3 u0)) (effT_st rfl rfl (ix_some e1).2 rfl rfl (by rfl) (by first | rfl | simp [patch, reb, List.take_of_length_le]) (by rfl) rfl) (r_nil ?_)))))))))))
  refine w_reg 1217 1409 rfl rfl (qp (AI (w64 (x3 + 1))) rfl (qp (AI (w64 ((w64 (x3 + 1)) + 1))) rfl (qp (AI (w64 ((w64 (x3 + 1)) + 1))) rfl (r_nil (blockQ_n (thenQ_n (w_reg 1409 1601 rfl rfl ?_)))))))
  refine qp (AI x4) rfl (qp (AI (w64 (x4 + 1))) rfl (qp (AI (w64 (x4 + 1))) rfl (r_nil (thenQ_n ?_))))
  refine ar (l' := [(0, .sl 0 0 (List.set (List.set x5 x4.toNat (x3, u0.2)) x4.toNat (u1.1, w64 (x3 + 1))).length), (1, AI (w64 ((w64 (x3 + 1)) + 1))), (5, AI (w64 (x4 + 1)))]) (L := [(0, .row true 2 ((List.set (List.set x5 x4.toNat (x3, u0.2)) x4.toNat (u1.1, w64 (x3 + 1))).map eNote))]) [0, 1, 5] [(0, 0)] 1 ⟨_, by rfl, hF⟩
 refine w_exit (thenQ_e (thenQ_e (blockQ_e (thenQ_n (ws 257 385 (qp (AI x3) rfl (qp (AI x3) rfl (r_nil (w_ret ?_)))))))))
 cases hF
 exact endM_r rfl rfl (by first | rfl | (simp [List.take_of_length_le]; first | exact ⟨rfl, rfl⟩ | rfl)) (by simp)

def c51 : MC := (sr [rg 2 (.f (.box t0)), pT 4 (.mv (ci 0))] (sr [pT 5 (.fad t2 1), lT 6 5, mvt 7 1, dT 8 86 [t6, t7], mvt 1 8] (sr [pT 9 (.fad t2 2), lT 10 9, mvt 11 1, dT 12 86 [t10, t11], mvt 1 12] (sr [mvt 13 1, mvt 4 13] .ret))))
theorem c51_is : compFnM Tryz.prog 51 = some (c51, [(.tmp 4)]) := by kernel_rfl
theorem c51_ok : okFn Tryz.prog 51 = true := by kernel_rfl

def F_laws_markTala (v0 : TTala) (v1 : Int) : Option (TTala × Int) :=
 ((F_laws_markInt64S v0.2.1 v1).bind fun u0 => need (u0.1.length = v0.2.1.length) (((F_laws_markInt64S v0.2.2 u0.2).bind fun u2 => need (u2.1.length = v0.2.2.length) (some ((v0.1, u0.1, u2.1), u2.2)))))
@[simp] abbrev K81 (v0 : TTala) : List (Nat × Root) := [(2, .row true 1 (v0.2.2.map vI)), (1, .row true 1 (v0.2.1.map vI))]
@[simp] abbrev K82 (v0 : TTala) : List (Nat × Root) := ((64, .box [AS v0.1, .sl 1 0 v0.2.1.length, .sl 2 0 v0.2.2.length]) :: (K81 v0))
@[simp] abbrev K83 (u0 : (List Int) × Int) (v0 : TTala) : List (Nat × Root) := ((1, .row true 1 (u0.1.map vI)) :: (K82 v0))
theorem con_laws_markTala {v0 : TTala} {v1 : Int} {r : TTala × Int} (hF : F_laws_markTala v0 v1 = some r) : ConM Tryz.prog 51 (.agg [.val (.str v0.1), .row true 1 (v0.2.1.map vI), .row true 1 (v0.2.2.map vI)]) (.agg [.val (.str r.1.1), .row true 1 (r.1.2.1.map vI), .row true 1 (r.1.2.2.map vI)]) [.int .i64 v1] (.int .i64 r.2) := by
 unfold F_laws_markTala at hF
 refine conM_of (av := .agg [AS v0.1, .sl 1 0 v0.2.1.length, .sl 2 0 v0.2.2.length]) (L := (K81 v0)) c51_is rfl rfl rfl (by simp) fun N => ?_
 refine ws 64 192 (qf (.ptr 64 0 0) (K82 v0) (by simp) (qp (AI 0) rfl (r_nil (ws 192 512 (qp (.ptr 64 0 1) rfl (qp (.sl 1 0 v0.2.1.length) rfl (qp (AI v1) rfl (bk hF fun u0 e0 hF => nk hF fun g1 hF => qm (ls := [1]) (K83 u0 v0) (con_laws_markInt64S e0) c86_ok (by first | rfl | simp [takeM, takeML, takeM1, g1]) (by decide) (by simp [like2, likeL, like1, g1]) rfl rfl rfl (by simp [scrO_fo, newO2, newO, scrR, scrA, scrAs]) (qp (AI u0.2) rfl (r_nil (ws 512 832 (qp (.ptr 64 0 2) rfl (qp (.sl 2 0 v0.2.2.length) rfl (qp (AI u0.2) rfl (bk hF fun u2 e2 hF => nk hF fun g3 hF => ?_)))))))))))))))
 refine qm (ls := [2]) ((2, .row true 1 (u2.1.map vI)) :: (K83 u0 v0)) (con_laws_markInt64S e2) c86_ok (by first | rfl | simp [takeM, takeML, takeM1, g1, g3]) (by decide) (by simp [like2, likeL, like1, g3]) rfl rfl rfl (by simp [scrO_fo, newO2, newO, scrR, scrA, scrAs]) (qp (AI u2.2) rfl (r_nil (ws 832 960 (qp (AI u2.2) rfl (qp (AI u2.2) rfl (r_nil (w_ret ?_)))))))
 cases hF
 exact endM_r rfl rfl (by first | rfl | (simp [List.take_of_length_le, g1, g3]; first | exact ⟨rfl, rfl⟩ | rfl)) (by simp)

def c31 : MC := (sr [pT 2 (.mv (.c (.str [])))] (.seq (sr [mvt 4 0, bT 5 .leq t4 (ci 0)] (.cond t5 (sr [pT 2 (.mv (.c (.str [109, 48])))] .ret) .skip)) (sr [pT 3 (.mv (.c (.str [])))] (.seq (.block 0 (.loop (.seq (sr [mvt 6 0, bT 7 .gtr t6 (ci 0)] (cx t7 0)) (.block 1 (sr [mvt 8 0, bT 9 .rem t8 (ci 10), bT 10 .add (ci 48) t9, pT 11 (.conv .u8 t10), rg 12 (.f (.bsl 1 [t11])), pT 13 (.bts t12), mvt 14 3, bT 15 .add t13 t14, mvt 3 15] (.reg [mvt 16 0, bT 17 .quo t16 (ci 10), mvt 0 17])))))) (sr [mvt 18 3, pT 19 (.bin .add (.c (.str [109])) t18), mvt 2 19] .ret)))))
theorem c31_ : IsF Tryz.prog 31 c31 [(.tmp 2)] := ⟨by kernel_rfl, by kernel_rfl⟩

def F_laws_markText_l0 (k0 : Int × (List UInt8) → Option (List UInt8)) : Int × (List UInt8) → Option (List UInt8)
 | (x2, x3) => (bif (decide ((0 : Int) < x2)) then (need ((bytesI ([IntKind.wrap .u8 (w64 (48 + (Int.tmod x2 10)))] : List Int)).length + x3.length < 9223372036854775808) (k0 (w64 (Int.tdiv x2 10), (bytesI ([IntKind.wrap .u8 (w64 (48 + (Int.tmod x2 10)))] : List Int)) ++ x3)))
 else (need ([109].length + x3.length < 9223372036854775808) (some ([109] ++ x3))))
def F_laws_markText (v0 : Int) : Option (List UInt8) :=
 (bif (decide (v0 ≤ (0 : Int))) then some [109, 48]
 else loop (F_laws_markText_l0) (v0, []))
@[simp] def res_laws_markText (r : List UInt8) : RV := .one (.one (.val (.str r)))
theorem con_laws_markText {v0 : Int} {r : List UInt8} (hF : F_laws_markText v0 = some r) : Con Tryz.prog 31 [.int .i64 v0] (res_laws_markText r) := by
 unfold F_laws_markText at hF
 refine con_of c31_.1 fun N => ?_
 refine ws 0 64 (qp (AS []) rfl (r_nil (w_seq (ws 64 192 (qp (AI v0) rfl (qp (AB (decide (v0 ≤ (0 : Int)))) rfl (r_nil (cF hF (fun hF => ws 192 256 (qp (AS [109, 48]) rfl (r_nil (w_ret (thenQ_r (eQ hF)))))) fun hF => ?_))))))))
 refine w_skip (thenQ_n (ws 192 256 (qp (AS []) rfl (r_nil (w_seq (w_block ?_))))))
 refine wr (l' := [(0, AI v0), (3, AS ([] : List UInt8))]) (L := []) [0, 3] [] 1 ?_
 refine w_loopF (F_laws_markText_l0) (fun s : Int × (List UInt8) => mkS [(0, AI s.1), (3, AS s.2)] (fo []) 1) hF ?_
 rintro k0 ⟨x2, x3⟩ hF
 rw [F_laws_markText_l0] at hF
 try dsimp only
 refine w_seq (ws 1 129 (qp (AI x2) rfl (qp (AB (decide ((0 : Int) < x2))) rfl (r_nil ?_))))
 refine cF hF (fun hF => ?_) fun hF => ?_
 ·
  refine w_skip (thenQ_n (w_block (ws 129 705 (qp (AI x2) rfl (qp (AI (Int.tmod x2 10)) (ev_rem rfl rfl (by decide)) (qp (AI (w64 (48 + (Int.tmod x2 10)))) rfl (qp (.val none (.int .u8 (IntKind.wrap .u8 (w64 (48 + (Int.tmod x2 10)))))) rfl (qf (.sl 385 0 (([IntKind.wrap .u8 (w64 (48 + (Int.tmod x2 10)))] : List Int).length)) [(385, .row true 1 (([IntKind.wrap .u8 (w64 (48 + (Int.tmod x2 10)))] : List Int).map (V.int .u8)))] (by simp [List.take_of_length_le]) ?_))))))))
  refine qp (AS (bytesI ([IntKind.wrap .u8 (w64 (48 + (Int.tmod x2 10)))] : List Int))) (ev_bts_r rfl (by simp) rfl) (qp (AS x3) rfl (nk hF fun g0 hF => qp (AS ((bytesI ([IntKind.wrap .u8 (w64 (48 + (Int.tmod x2 10)))] : List Int)) ++ x3)) (ev_add_s rfl rfl g0) (qp (AS ((bytesI ([IntKind.wrap .u8 (w64 (48 + (Int.tmod x2 10)))] : List Int)) ++ x3)) rfl (r_nil (w_reg 705 897 rfl rfl (qp (AI x2) rfl (qp (AI (w64 (Int.tdiv x2 10))) (ev_quo rfl rfl (by decide)) (qp (AI (w64 (Int.tdiv x2 10))) rfl (r_nil ?_)))))))))
  refine blockQ_n (thenQ_n ?_)
  refine ar (l' := [(0, AI (w64 (Int.tdiv x2 10))), (3, AS ((bytesI ([IntKind.wrap .u8 (w64 (48 + (Int.tmod x2 10)))] : List Int)) ++ x3))]) (L := []) [0, 3] [] 1 ⟨_, by rfl, hF⟩
 exact w_exit (thenQ_e (thenQ_e (blockQ_e (thenQ_n (ws 129 321 (qp (AS x3) rfl (nk hF fun g1 hF => qp (AS ([109] ++ x3)) (ev_add_s rfl rfl g1) (qp (AS ([109] ++ x3)) rfl (rR hF)))))))))

def c52 : MC := (sr [pT 4 (.mv (ci 0))] (.seq (sr [pT 5 (.mv (ci 0))] (.block 0 (.loop (.seq (sr [mvt 6 5, mvt 7 0, zT 8 7, bT 9 .lss t6 t8] (cx t9 0)) (.seq (.block 1 (sr [mvt 12 0, mvt 13 5, mvt 14 1, dT 15 31 [t14], iT 16 12 13 3, pT 17 (.fad t16 0), ⟨none, none, (.f (.st t17 t15 1))⟩] (sr [mvt 18 1, bT 19 .add t18 (ci 1), mvt 1 19] (sr [mvt 20 0, mvt 21 5, mvt 22 1, iT 23 20 21 3, pT 24 (.fad t23 1), ⟨none, none, (.f (.st t24 t22 1))⟩] (sr [mvt 25 1, bT 26 .add t25 (ci 1), mvt 1 26] (sr [mvt 27 0, mvt 28 5, mvt 29 1, iT 30 27 28 3, pT 31 (.fad t30 2), ⟨none, none, (.f (.st t31 t29 1))⟩] (.reg [mvt 32 1, bT 33 .add t32 (ci 1), mvt 1 33]))))))) (.reg [mvt 10 5, bT 11 .add t10 (ci 1), mvt 5 11])))))) (sr [mvt 34 1, mvt 4 34] .ret)))
theorem c52_is : compFnM Tryz.prog 52 = some (c52, [(.tmp 4)]) := by kernel_rfl
theorem c52_ok : okFn Tryz.prog 52 = true := by kernel_rfl

def F_laws_markTurnS_l0 (k0 : Int × Int × (List TTurn) → Option ((List TTurn) × Int)) : Int × Int × (List TTurn) → Option ((List TTurn) × Int)
 | (x3, x4, x5) => (bif (decide (x4 < (x5.length : Int))) then ((F_laws_markText x3).bind fun u0 => ((ix x5 x4).bind fun u1 => ((ix (List.set x5 x4.toNat (u0, u1.2.1, u1.2.2)) x4).bind fun u2 => ((ix (List.set (List.set x5 x4.toNat (u0, u1.2.1, u1.2.2)) x4.toNat (u2.1, w64 (x3 + 1), u2.2.2)) x4).bind fun u3 => k0 (w64 ((w64 ((w64 (x3 + 1)) + 1)) + 1), w64 (x4 + 1), List.set (List.set (List.set x5 x4.toNat (u0, u1.2.1, u1.2.2)) x4.toNat (u2.1, w64 (x3 + 1), u2.2.2)) x4.toNat (u3.1, u3.2.1, w64 ((w64 (x3 + 1)) + 1)))))))
 else some (x5, x3))
def F_laws_markTurnS (v0 : List TTurn) (v1 : Int) : Option ((List TTurn) × Int) :=
 loop (F_laws_markTurnS_l0) (v1, 0, v0)
@[simp] abbrev K84 (x5 : List TTurn) (x4 : Int) (u0 : List UInt8) (u1 : TTurn) : List (Nat × Root) := [(0, .row true 3 ((List.set x5 x4.toNat (u0, u1.2.1, u1.2.2)).map eTurn)), (0, .row true 3 (x5.map eTurn))]
@[simp] abbrev K85 (x5 : List TTurn) (x4 : Int) (u0 : List UInt8) (u1 : TTurn) (u2 : TTurn) (x3 : Int) : List (Nat × Root) := ((0, .row true 3 ((List.set (List.set x5 x4.toNat (u0, u1.2.1, u1.2.2)) x4.toNat (u2.1, w64 (x3 + 1), u2.2.2)).map eTurn)) :: (K84 x5 x4 u0 u1))
theorem con_laws_markTurnS {v0 : List TTurn} {v1 : Int} {r : (List TTurn) × Int} (hF : F_laws_markTurnS v0 v1 = some r) : ConM Tryz.prog 52 (.one (.row true 3 (v0.map eTurn))) (.one (.row true 3 (r.1.map eTurn))) [.int .i64 v1] (.int .i64 r.2) := by
 unfold F_laws_markTurnS at hF
 refine conM_of (av := .sl 0 0 v0.length) (L := [(0, .row true 3 (v0.map eTurn))]) c52_is rfl rfl rfl (by simp) fun N => ?_
 refine ws 64 128 (qp (AI 0) rfl (r_nil (w_seq (ws 128 192 (qp (AI 0) rfl (r_nil (w_block ?_)))))))
 refine wr (l' := [(0, .sl 0 0 v0.length), (1, AI v1), (5, AI 0)]) (L := [(0, .row true 3 (v0.map eTurn))]) [0, 1, 5] [(0, 0)] 1 ?_
 refine w_loopF (F_laws_markTurnS_l0) (fun s : Int × Int × (List TTurn) => mkS [(0, .sl 0 0 s.2.2.length), (1, AI s.1), (5, AI s.2.1)] (fo [(0, .row true 3 (s.2.2.map eTurn))]) 1) hF ?_
 rintro k0 ⟨x3, x4, x5⟩ hF
 rw [F_laws_markTurnS_l0] at hF
 try dsimp only
 refine w_seq (ws 1 257 (qp (AI x4) rfl (qp (.sl 0 0 x5.length) rfl (qp (AI (x5.length : Int)) rfl (qp (AB (decide (x4 < (x5.length : Int)))) rfl (r_nil ?_))))))
 refine cF hF (fun hF => ?_) fun hF => ?_
 ·
  refine w_skip (thenQ_n (w_seq (w_block (ws 257 705 (qp (.sl 0 0 x5.length) rfl (qp (AI x4) rfl (qp (AI x3) rfl (bk hF fun u0 e0 hF => qC (AS u0) [(0, .row true 3 (x5.map eTurn))] (con_laws_markText e0) c31_ (bk hF fun u1 e1 hF => qp (.ptr 0 x4.toNat 0) (ev_iad_r rfl (by simp) rfl rfl e1) (qp (.ptr 0 x4.toNat 0) rfl (qf0 (.undef) (K84 x5 x4 u0 u1) (effT_st rfl rfl (ix_some e1).2 rfl rfl (by rfl) (by first | rfl | simp [patch, reb, List.take_of_length_le]) (by rfl) rfl) (r_nil (ws 705 897 ?_)))))))))))))
  refine qp (AI x3) rfl (qp (AI (w64 (x3 + 1))) rfl (qp (AI (w64 (x3 + 1))) rfl (r_nil (ws 897 1281 (qp (.sl 0 0 x5.length) rfl (qp (AI x4) rfl (qp (AI (w64 (x3 + 1))) rfl (bk hF fun u2 e2 hF => qp (.ptr 0 x4.toNat 0) (ev_iad_r rfl (by simp) rfl rfl e2) (qp (.ptr 0 x4.toNat 1) rfl (qf0 (.undef) (K85 x5 x4 u0 u1 u2 x3) (effT_st rfl rfl (ix_some e2).2 rfl rfl (by rfl) (by first | rfl | simp [patch, reb, List.take_of_length_le]) (by rfl) rfl) (r_nil ?_)))))))))))
  refine ws 1281 1473 (qp (AI (w64 (x3 + 1))) rfl (qp (AI (w64 ((w64 (x3 + 1)) + 1))) rfl (qp (AI (w64 ((w64 (x3 + 1)) + 1))) rfl (r_nil (ws 1473 1857 ?_)))))
  refine qp (.sl 0 0 x5.length) rfl (qp (AI x4) rfl (qp (AI (w64 ((w64 (x3 + 1)) + 1))) rfl (bk hF fun u3 e3 hF => qp (.ptr 0 x4.toNat 0) (ev_iad_r rfl (by simp) rfl rfl e3) (qp (.ptr 0 x4.toNat 2) rfl (qf0 (.undef) ((0, .row true 3 ((List.set (List.set (List.set x5 x4.toNat (u0, u1.2.1, u1.2.2)) x4.toNat (u2.1, w64 (x3 + 1), u2.2.2)) x4.toNat (u3.1, u3.2.1, w64 ((w64 (x3 + 1)) + 1))).map eTurn)) :: (K85 x5 x4 u0 u1 u2 x3)) (effT_st rfl rfl (ix_some e3).2 rfl rfl (by rfl) (by first | rfl | simp [patch, reb, List.take_of_length_le]) (by rfl) rfl) (r_nil (w_reg 1857 2049 rfl rfl ?_)))))))
  refine qp (AI (w64 ((w64 (x3 + 1)) + 1))) rfl (qp (AI (w64 ((w64 ((w64 (x3 + 1)) + 1)) + 1))) rfl (qp (AI (w64 ((w64 ((w64 (x3 + 1)) + 1)) + 1))) rfl (r_nil (blockQ_n (thenQ_n ?_)))))
  refine w_reg 2049 2241 rfl rfl (qp (AI x4) rfl (qp (AI (w64 (x4 + 1))) rfl (qp (AI (w64 (x4 + 1))) rfl (r_nil (thenQ_n ?_)))))
  refine ar (l' := [(0, .sl 0 0 (List.set (List.set (List.set x5 x4.toNat (u0, u1.2.1, u1.2.2)) x4.toNat (u2.1, w64 (x3 + 1), u2.2.2)) x4.toNat (u3.1, u3.2.1, w64 ((w64 (x3 + 1)) + 1))).length), (1, AI (w64 ((w64 ((w64 (x3 + 1)) + 1)) + 1))), (5, AI (w64 (x4 + 1)))]) (L := [(0, .row true 3 ((List.set (List.set (List.set x5 x4.toNat (u0, u1.2.1, u1.2.2)) x4.toNat (u2.1, w64 (x3 + 1), u2.2.2)) x4.toNat (u3.1, u3.2.1, w64 ((w64 (x3 + 1)) + 1))).map eTurn))]) [0, 1, 5] [(0, 0)] 1 ⟨_, by rfl, hF⟩
 refine w_exit (thenQ_e (thenQ_e (blockQ_e (thenQ_n (ws 257 385 (qp (AI x3) rfl (qp (AI x3) rfl (r_nil (w_ret ?_)))))))))
 cases hF
 exact endM_r rfl rfl (by first | rfl | (simp [List.take_of_length_le]; first | exact ⟨rfl, rfl⟩ | rfl)) (by simp)

def c20 : MC := (sr [rg 2 (.f (.box t0)), pT 4 (.mv (ci 0))] (sr [pT 5 (.fad t2 0), pT 6 (.ld t5 6 true), mvt 7 1, dT 8 50 [t6, t7], mvt 1 8] (sr [pT 9 (.fad t2 8), lT 10 9, mvt 11 1, dT 12 32 [t10, t11], mvt 1 12] (sr [pT 13 (.fad t2 9), pT 14 (.ld t13 3 true), mvt 15 1, dT 16 51 [t14, t15], mvt 1 16] (sr [pT 17 (.fad t2 17), lT 18 17, mvt 19 1, dT 20 52 [t18, t19], mvt 1 20] (sr [mvt 21 1, mvt 4 21] .ret))))))
theorem c20_is : compFnM Tryz.prog 20 = some (c20, [(.tmp 4)]) := by kernel_rfl
theorem c20_ok : okFn Tryz.prog 20 = true := by kernel_rfl

def F_laws_markWork (v0 : TWork) (v1 : Int) : Option (TWork × Int) :=
 ((F_laws_markRaga (v0.1, v0.2.1, v0.2.2.1, v0.2.2.2.1, v0.2.2.2.2.1, v0.2.2.2.2.2.1) v1).bind fun u0 => need (u0.1.2.1.length = v0.2.1.length) (need (u0.1.2.2.1.length = v0.2.2.1.length) (need (u0.1.2.2.2.2.2.length = v0.2.2.2.2.2.1.length) (((F_laws_markNoteS v0.2.2.2.2.2.2.2.2.1 u0.2).bind fun u7 => need (u7.1.length = v0.2.2.2.2.2.2.2.2.1.length) (((F_laws_markTala (v0.2.2.2.2.2.2.2.2.2.1, v0.2.2.2.2.2.2.2.2.2.2.1, v0.2.2.2.2.2.2.2.2.2.2.2.1) u7.2).bind fun u9 => need (u9.1.2.1.length = v0.2.2.2.2.2.2.2.2.2.2.1.length) (need (u9.1.2.2.length = v0.2.2.2.2.2.2.2.2.2.2.2.1.length) (((F_laws_markTurnS v0.2.2.2.2.2.2.2.2.2.2.2.2.2.2.2.2.2 u9.2).bind fun u13 => need (u13.1.length = v0.2.2.2.2.2.2.2.2.2.2.2.2.2.2.2.2.2.length) (some ((v0.1, u0.1.2.1, u0.1.2.2.1, v0.2.2.2.1, v0.2.2.2.2.1, u0.1.2.2.2.2.2, v0.2.2.2.2.2.2.1, v0.2.2.2.2.2.2.2.1, u7.1, v0.2.2.2.2.2.2.2.2.2.1, u9.1.2.1, u9.1.2.2, v0.2.2.2.2.2.2.2.2.2.2.2.2.1, v0.2.2.2.2.2.2.2.2.2.2.2.2.2.1, v0.2.2.2.2.2.2.2.2.2.2.2.2.2.2.1, v0.2.2.2.2.2.2.2.2.2.2.2.2.2.2.2.1, v0.2.2.2.2.2.2.2.2.2.2.2.2.2.2.2.2.1, u13.1), u13.2))))))))))))
@[simp] abbrev K86 (v0 : TWork) : List (Nat × Root) := [(17, .row true 3 (v0.2.2.2.2.2.2.2.2.2.2.2.2.2.2.2.2.2.map eTurn)), (11, .row true 1 (v0.2.2.2.2.2.2.2.2.2.2.2.1.map vI)), (10, .row true 1 (v0.2.2.2.2.2.2.2.2.2.2.1.map vI)), (8, .row true 2 (v0.2.2.2.2.2.2.2.2.1.map eNote)), (5, .row true 1 (v0.2.2.2.2.2.1.map (eL 1 vI))), (2, .row true 1 (v0.2.2.1.map vI)), (1, .row true 1 (v0.2.1.map vI))]
@[simp] abbrev K8b (v0 : TWork) : List AV := [AS v0.1, .sl 1 0 v0.2.1.length, .sl 2 0 v0.2.2.1.length, AI v0.2.2.2.1, AI v0.2.2.2.2.1, .sl 5 0 v0.2.2.2.2.2.1.length, AI v0.2.2.2.2.2.2.1, AI v0.2.2.2.2.2.2.2.1, .sl 8 0 v0.2.2.2.2.2.2.2.2.1.length, AS v0.2.2.2.2.2.2.2.2.2.1, .sl 10 0 v0.2.2.2.2.2.2.2.2.2.2.1.length, .sl 11 0 v0.2.2.2.2.2.2.2.2.2.2.2.1.length, AI v0.2.2.2.2.2.2.2.2.2.2.2.2.1, AS v0.2.2.2.2.2.2.2.2.2.2.2.2.2.1, AI v0.2.2.2.2.2.2.2.2.2.2.2.2.2.2.1, AI v0.2.2.2.2.2.2.2.2.2.2.2.2.2.2.2.1, AI v0.2.2.2.2.2.2.2.2.2.2.2.2.2.2.2.2.1, .sl 17 0 v0.2.2.2.2.2.2.2.2.2.2.2.2.2.2.2.2.2.length]
@[simp] abbrev K87 (v0 : TWork) : List (Nat × Root) := ((64, .box (K8b v0)) :: (K86 v0))
@[simp] abbrev K88 (u0 : TRaga × Int) (v0 : TWork) : List (Nat × Root) := ((1, .row true 1 (u0.1.2.1.map vI)) :: (2, .row true 1 (u0.1.2.2.1.map vI)) :: (5, .row true 1 (u0.1.2.2.2.2.2.map (eL 1 vI))) :: (K87 v0))
@[simp] abbrev K8a (u9 : TTala × Int) (u7 : (List TNote) × Int) (u0 : TRaga × Int) (v0 : TWork) : List (Nat × Root) := ((10, .row true 1 (u9.1.2.1.map vI)) :: (11, .row true 1 (u9.1.2.2.map vI)) :: (8, .row true 2 (u7.1.map eNote)) :: (K88 u0 v0))
theorem con_laws_markWork {v0 : TWork} {v1 : Int} {r : TWork × Int} (hF : F_laws_markWork v0 v1 = some r) : ConM Tryz.prog 20 (.agg [.val (.str v0.1), .row true 1 (v0.2.1.map vI), .row true 1 (v0.2.2.1.map vI), .val (.int .i64 v0.2.2.2.1), .val (.int .i64 v0.2.2.2.2.1), .row true 1 (v0.2.2.2.2.2.1.map (eL 1 vI)), .val (.int .i64 v0.2.2.2.2.2.2.1), .val (.int .i64 v0.2.2.2.2.2.2.2.1), .row true 2 (v0.2.2.2.2.2.2.2.2.1.map eNote), .val (.str v0.2.2.2.2.2.2.2.2.2.1), .row true 1 (v0.2.2.2.2.2.2.2.2.2.2.1.map vI), .row true 1 (v0.2.2.2.2.2.2.2.2.2.2.2.1.map vI), .val (.int .i64 v0.2.2.2.2.2.2.2.2.2.2.2.2.1), .val (.str v0.2.2.2.2.2.2.2.2.2.2.2.2.2.1), .val (.int .i64 v0.2.2.2.2.2.2.2.2.2.2.2.2.2.2.1), .val (.int .i64 v0.2.2.2.2.2.2.2.2.2.2.2.2.2.2.2.1), .val (.int .i64 v0.2.2.2.2.2.2.2.2.2.2.2.2.2.2.2.2.1), .row true 3 (v0.2.2.2.2.2.2.2.2.2.2.2.2.2.2.2.2.2.map eTurn)]) (.agg [.val (.str r.1.1), .row true 1 (r.1.2.1.map vI), .row true 1 (r.1.2.2.1.map vI), .val (.int .i64 r.1.2.2.2.1), .val (.int .i64 r.1.2.2.2.2.1), .row true 1 (r.1.2.2.2.2.2.1.map (eL 1 vI)), .val (.int .i64 r.1.2.2.2.2.2.2.1), .val (.int .i64 r.1.2.2.2.2.2.2.2.1), .row true 2 (r.1.2.2.2.2.2.2.2.2.1.map eNote), .val (.str r.1.2.2.2.2.2.2.2.2.2.1), .row true 1 (r.1.2.2.2.2.2.2.2.2.2.2.1.map vI), .row true 1 (r.1.2.2.2.2.2.2.2.2.2.2.2.1.map vI), .val (.int .i64 r.1.2.2.2.2.2.2.2.2.2.2.2.2.1), .val (.str r.1.2.2.2.2.2.2.2.2.2.2.2.2.2.1), .val (.int .i64 r.1.2.2.2.2.2.2.2.2.2.2.2.2.2.2.1), .val (.int .i64 r.1.2.2.2.2.2.2.2.2.2.2.2.2.2.2.2.1), .val (.int .i64 r.1.2.2.2.2.2.2.2.2.2.2.2.2.2.2.2.2.1), .row true 3 (r.1.2.2.2.2.2.2.2.2.2.2.2.2.2.2.2.2.2.map eTurn)]) [.int .i64 v1] (.int .i64 r.2) := by
 unfold F_laws_markWork at hF
 refine conM_of (av := .agg (K8b v0)) (L := (K86 v0)) c20_is rfl rfl rfl (by simp) fun N => ?_
 refine ws 64 192 (qf (.ptr 64 0 0) (K87 v0) (by simp) (qp (AI 0) rfl (r_nil (ws 192 512 (qp (.ptr 64 0 0) rfl (qp (.agg [AS v0.1, .sl 1 0 v0.2.1.length, .sl 2 0 v0.2.2.1.length, AI v0.2.2.2.1, AI v0.2.2.2.2.1, .sl 5 0 v0.2.2.2.2.2.1.length]) rfl (qp (AI v1) rfl (bk hF fun u0 e0 hF => nk hF fun g1 hF => nk hF fun g2 hF => nk hF fun g3 hF => ?_))))))))
 have g4 : u0.1.1 = v0.1 := by have h := e0; unfold F_laws_markRaga at h; obtain ⟨_, _, h⟩ := bind_get h; obtain ⟨_, h⟩ := need_some h; obtain ⟨_, _, h⟩ := bind_get h; obtain ⟨_, h⟩ := need_some h; obtain ⟨_, _, h⟩ := bind_get h; obtain ⟨_, h⟩ := need_some h; cases h; rfl
 have g5 : u0.1.2.2.2.1 = v0.2.2.2.1 := by have h := e0; unfold F_laws_markRaga at h; obtain ⟨_, _, h⟩ := bind_get h; obtain ⟨_, h⟩ := need_some h; obtain ⟨_, _, h⟩ := bind_get h; obtain ⟨_, h⟩ := need_some h; obtain ⟨_, _, h⟩ := bind_get h; obtain ⟨_, h⟩ := need_some h; cases h; rfl
 have g6 : u0.1.2.2.2.2.1 = v0.2.2.2.2.1 := by have h := e0; unfold F_laws_markRaga at h; obtain ⟨_, _, h⟩ := bind_get h; obtain ⟨_, h⟩ := need_some h; obtain ⟨_, _, h⟩ := bind_get h; obtain ⟨_, h⟩ := need_some h; obtain ⟨_, _, h⟩ := bind_get h; obtain ⟨_, h⟩ := need_some h; cases h; rfl
 refine qm (ls := [1, 2, 5]) (K88 u0 v0) (con_laws_markRaga e0) c50_ok (by first | rfl | simp [takeM, takeML, takeM1, g1, g2, g3, g4, g5, g6]) (by decide) (by simp [like2, likeL, like1, g1, g2, g3, g4, g5, g6]) rfl rfl rfl (by simp [scrO_fo, newO2, newO, scrR, scrA, scrAs]) (qp (AI u0.2) rfl (r_nil (ws 512 832 (qp (.ptr 64 0 8) rfl (qp (.sl 8 0 v0.2.2.2.2.2.2.2.2.1.length) rfl (qp (AI u0.2) rfl (bk hF fun u7 e7 hF => nk hF fun g8 hF => qm (ls := [8]) ((8, .row true 2 (u7.1.map eNote)) :: (K88 u0 v0)) (con_laws_markNoteS e7) c32_ok (by first | rfl | simp [takeM, takeML, takeM1, g1, g2, g3, g4, g5, g6, g8]) (by decide) (by simp [like2, likeL, like1, g8]) rfl rfl rfl (by simp [scrO_fo, newO2, newO, scrR, scrA, scrAs]) (qp (AI u7.2) rfl (r_nil (ws 832 1152 (qp (.ptr 64 0 9) rfl (qp (.agg [AS v0.2.2.2.2.2.2.2.2.2.1, .sl 10 0 v0.2.2.2.2.2.2.2.2.2.2.1.length, .sl 11 0 v0.2.2.2.2.2.2.2.2.2.2.2.1.length]) rfl (qp (AI u7.2) rfl (bk hF fun u9 e9 hF => nk hF fun g10 hF => nk hF fun g11 hF => ?_))))))))))))))
 have g12 : u9.1.1 = v0.2.2.2.2.2.2.2.2.2.1 := by have h := e9; unfold F_laws_markTala at h; obtain ⟨_, _, h⟩ := bind_get h; obtain ⟨_, h⟩ := need_some h; obtain ⟨_, _, h⟩ := bind_get h; obtain ⟨_, h⟩ := need_some h; cases h; rfl
 refine qm (ls := [10, 11]) (K8a u9 u7 u0 v0) (con_laws_markTala e9) c51_ok (by first | rfl | simp [takeM, takeML, takeM1, g1, g2, g3, g4, g5, g6, g8, g10, g11, g12]) (by decide) (by simp [like2, likeL, like1, g10, g11, g12]) rfl rfl rfl (by simp [scrO_fo, newO2, newO, scrR, scrA, scrAs]) (qp (AI u9.2) rfl (r_nil (ws 1152 1472 (qp (.ptr 64 0 17) rfl (qp (.sl 17 0 v0.2.2.2.2.2.2.2.2.2.2.2.2.2.2.2.2.2.length) rfl (qp (AI u9.2) rfl (bk hF fun u13 e13 hF => nk hF fun g14 hF => qm (ls := [17]) ((17, .row true 3 (u13.1.map eTurn)) :: (K8a u9 u7 u0 v0)) (con_laws_markTurnS e13) c52_ok (by first | rfl | simp [takeM, takeML, takeM1, g1, g2, g3, g4, g5, g6, g8, g10, g11, g12, g14]) (by decide) (by simp [like2, likeL, like1, g14]) rfl rfl rfl (by simp [scrO_fo, newO2, newO, scrR, scrA, scrAs]) (qp (AI u13.2) rfl (r_nil (ws 1472 1600 (qp (AI u13.2) rfl (qp (AI u13.2) rfl (r_nil (w_ret ?_))))))))))))))
 cases hF
 exact endM_r rfl rfl (by first | rfl | (simp [List.take_of_length_le, g1, g2, g3, g4, g5, g6, g8, g10, g11, g12, g14]; first | exact ⟨rfl, rfl⟩ | rfl)) (by simp)

def c21 : MC := (sr [pT 4 (.mv (ci 0))] (.seq (sr [pT 5 (.mv (ci 0))] (.block 0 (.loop (.seq (sr [mvt 6 5, mvt 7 0, zT 8 7, bT 9 .lss t6 t8] (cx t9 0)) (.seq (.block 1 (sr [mvt 12 0, mvt 13 5, mvt 14 1, iT 15 12 13 3, pT 16 (.fad t15 0), ⟨none, none, (.f (.st t16 t14 1))⟩] (sr [mvt 17 1, bT 18 .add t17 (ci 1), mvt 1 18] (sr [mvt 19 0, mvt 20 5, mvt 21 1, dT 22 31 [t21], iT 23 19 20 3, pT 24 (.fad t23 1), ⟨none, none, (.f (.st t24 t22 1))⟩] (sr [mvt 25 1, bT 26 .add t25 (ci 1), mvt 1 26] (sr [mvt 27 0, mvt 28 5, mvt 29 1, dT 30 31 [t29], iT 31 27 28 3, pT 32 (.fad t31 2), ⟨none, none, (.f (.st t32 t30 1))⟩] (.reg [mvt 33 1, bT 34 .add t33 (ci 1), mvt 1 34]))))))) (.reg [mvt 10 5, bT 11 .add t10 (ci 1), mvt 5 11])))))) (sr [mvt 35 1, mvt 4 35] .ret)))
theorem c21_is : compFnM Tryz.prog 21 = some (c21, [(.tmp 4)]) := by kernel_rfl
theorem c21_ok : okFn Tryz.prog 21 = true := by kernel_rfl

def F_laws_markProblemS_l0 (k0 : Int × Int × (List TProblem) → Option ((List TProblem) × Int)) : Int × Int × (List TProblem) → Option ((List TProblem) × Int)
 | (x3, x4, x5) => (bif (decide (x4 < (x5.length : Int))) then ((ix x5 x4).bind fun u0 => ((F_laws_markText (w64 (x3 + 1))).bind fun u1 => ((ix (List.set x5 x4.toNat (x3, u0.2.1, u0.2.2)) x4).bind fun u2 => ((F_laws_markText (w64 ((w64 (x3 + 1)) + 1))).bind fun u3 => ((ix (List.set (List.set x5 x4.toNat (x3, u0.2.1, u0.2.2)) x4.toNat (u2.1, u1, u2.2.2)) x4).bind fun u4 => k0 (w64 ((w64 ((w64 (x3 + 1)) + 1)) + 1), w64 (x4 + 1), List.set (List.set (List.set x5 x4.toNat (x3, u0.2.1, u0.2.2)) x4.toNat (u2.1, u1, u2.2.2)) x4.toNat (u4.1, u4.2.1, u3)))))))
 else some (x5, x3))
def F_laws_markProblemS (v0 : List TProblem) (v1 : Int) : Option ((List TProblem) × Int) :=
 loop (F_laws_markProblemS_l0) (v1, 0, v0)
@[simp] abbrev K8c (x5 : List TProblem) (x4 : Int) (x3 : Int) (u0 : TProblem) : List (Nat × Root) := [(0, .row true 3 ((List.set x5 x4.toNat (x3, u0.2.1, u0.2.2)).map eProblem)), (0, .row true 3 (x5.map eProblem))]
@[simp] abbrev K8d (x5 : List TProblem) (x4 : Int) (x3 : Int) (u0 : TProblem) (u2 : TProblem) (u1 : List UInt8) : List (Nat × Root) := ((0, .row true 3 ((List.set (List.set x5 x4.toNat (x3, u0.2.1, u0.2.2)) x4.toNat (u2.1, u1, u2.2.2)).map eProblem)) :: (K8c x5 x4 x3 u0))
theorem con_laws_markProblemS {v0 : List TProblem} {v1 : Int} {r : (List TProblem) × Int} (hF : F_laws_markProblemS v0 v1 = some r) : ConM Tryz.prog 21 (.one (.row true 3 (v0.map eProblem))) (.one (.row true 3 (r.1.map eProblem))) [.int .i64 v1] (.int .i64 r.2) := by
 unfold F_laws_markProblemS at hF
 refine conM_of (av := .sl 0 0 v0.length) (L := [(0, .row true 3 (v0.map eProblem))]) c21_is rfl rfl rfl (by simp) fun N => ?_
 refine ws 64 128 (qp (AI 0) rfl (r_nil (w_seq (ws 128 192 (qp (AI 0) rfl (r_nil (w_block ?_)))))))
 refine wr (l' := [(0, .sl 0 0 v0.length), (1, AI v1), (5, AI 0)]) (L := [(0, .row true 3 (v0.map eProblem))]) [0, 1, 5] [(0, 0)] 1 ?_
 refine w_loopF (F_laws_markProblemS_l0) (fun s : Int × Int × (List TProblem) => mkS [(0, .sl 0 0 s.2.2.length), (1, AI s.1), (5, AI s.2.1)] (fo [(0, .row true 3 (s.2.2.map eProblem))]) 1) hF ?_
 rintro k0 ⟨x3, x4, x5⟩ hF
 rw [F_laws_markProblemS_l0] at hF
 try dsimp only
 refine w_seq (ws 1 257 (qp (AI x4) rfl (qp (.sl 0 0 x5.length) rfl (qp (AI (x5.length : Int)) rfl (qp (AB (decide (x4 < (x5.length : Int)))) rfl (r_nil ?_))))))
 refine cF hF (fun hF => ?_) fun hF => ?_
 ·
  refine w_skip (thenQ_n (w_seq (w_block (ws 257 641 (qp (.sl 0 0 x5.length) rfl (qp (AI x4) rfl (qp (AI x3) rfl (bk hF fun u0 e0 hF => qp (.ptr 0 x4.toNat 0) (ev_iad_r rfl (by simp) rfl rfl e0) (qp (.ptr 0 x4.toNat 0) rfl (qf0 (.undef) (K8c x5 x4 x3 u0) (effT_st rfl rfl (ix_some e0).2 rfl rfl (by rfl) (by first | rfl | simp [patch, reb, List.take_of_length_le]) (by rfl) rfl) (r_nil (ws 641 833 ?_))))))))))))
  refine qp (AI x3) rfl (qp (AI (w64 (x3 + 1))) rfl (qp (AI (w64 (x3 + 1))) rfl (r_nil (ws 833 1281 (qp (.sl 0 0 x5.length) rfl (qp (AI x4) rfl (qp (AI (w64 (x3 + 1))) rfl (bk hF fun u1 e1 hF => qC (AS u1) (K8c x5 x4 x3 u0) (con_laws_markText e1) c31_ (bk hF fun u2 e2 hF => qp (.ptr 0 x4.toNat 0) (ev_iad_r rfl (by simp) rfl rfl e2) (qp (.ptr 0 x4.toNat 1) rfl (qf0 (.undef) (K8d x5 x4 x3 u0 u2 u1) (effT_st rfl rfl (ix_some e2).2 rfl rfl (by rfl) (by first | rfl | simp [patch, reb, List.take_of_length_le]) (by rfl) rfl) (r_nil ?_))))))))))))
  refine ws 1281 1473 (qp (AI (w64 (x3 + 1))) rfl (qp (AI (w64 ((w64 (x3 + 1)) + 1))) rfl (qp (AI (w64 ((w64 (x3 + 1)) + 1))) rfl (r_nil (ws 1473 1921 ?_)))))
  refine qp (.sl 0 0 x5.length) rfl (qp (AI x4) rfl (qp (AI (w64 ((w64 (x3 + 1)) + 1))) rfl (bk hF fun u3 e3 hF => qC (AS u3) (K8d x5 x4 x3 u0 u2 u1) (con_laws_markText e3) c31_ (bk hF fun u4 e4 hF => qp (.ptr 0 x4.toNat 0) (ev_iad_r rfl (by simp) rfl rfl e4) (qp (.ptr 0 x4.toNat 2) rfl (qf0 (.undef) ((0, .row true 3 ((List.set (List.set (List.set x5 x4.toNat (x3, u0.2.1, u0.2.2)) x4.toNat (u2.1, u1, u2.2.2)) x4.toNat (u4.1, u4.2.1, u3)).map eProblem)) :: (K8d x5 x4 x3 u0 u2 u1)) (effT_st rfl rfl (ix_some e4).2 rfl rfl (by rfl) (by first | rfl | simp [patch, reb, List.take_of_length_le]) (by rfl) rfl) (r_nil (w_reg 1921 2113 rfl rfl ?_))))))))
  refine qp (AI (w64 ((w64 (x3 + 1)) + 1))) rfl (qp (AI (w64 ((w64 ((w64 (x3 + 1)) + 1)) + 1))) rfl (qp (AI (w64 ((w64 ((w64 (x3 + 1)) + 1)) + 1))) rfl (r_nil (blockQ_n (thenQ_n ?_)))))
  refine w_reg 2113 2305 rfl rfl (qp (AI x4) rfl (qp (AI (w64 (x4 + 1))) rfl (qp (AI (w64 (x4 + 1))) rfl (r_nil (thenQ_n ?_)))))
  refine ar (l' := [(0, .sl 0 0 (List.set (List.set (List.set x5 x4.toNat (x3, u0.2.1, u0.2.2)) x4.toNat (u2.1, u1, u2.2.2)) x4.toNat (u4.1, u4.2.1, u3)).length), (1, AI (w64 ((w64 ((w64 (x3 + 1)) + 1)) + 1))), (5, AI (w64 (x4 + 1)))]) (L := [(0, .row true 3 ((List.set (List.set (List.set x5 x4.toNat (x3, u0.2.1, u0.2.2)) x4.toNat (u2.1, u1, u2.2.2)) x4.toNat (u4.1, u4.2.1, u3)).map eProblem))]) [0, 1, 5] [(0, 0)] 1 ⟨_, by rfl, hF⟩
 refine w_exit (thenQ_e (thenQ_e (blockQ_e (thenQ_n (ws 257 385 (qp (AI x3) rfl (qp (AI x3) rfl (r_nil (w_ret ?_)))))))))
 cases hF
 exact endM_r rfl rfl (by first | rfl | (simp [List.take_of_length_le]; first | exact ⟨rfl, rfl⟩ | rfl)) (by simp)

def c22 : MC := (sr [pT 4 (.mv (ci 0))] (.seq (sr [pT 5 (.mv (ci 0))] (.block 0 (.loop (.seq (sr [mvt 6 5, mvt 7 0, zT 8 7, bT 9 .lss t6 t8] (cx t9 0)) (.seq (.block 1 (.seq (sr [mvt 12 0, mvt 13 5, iT 14 12 13 3, pT 15 (.fad t14 0), lT 16 15, mvt 17 1, bT 18 .neq t16 t17] (.cond t18 (sr [pT 4 (.mv (ci (-1)))] .ret) .skip)) (sr [mvt 19 1, bT 20 .add t19 (ci 1), mvt 1 20] (.seq (sr [mP 21 t0, mP 22 t5, iF 23 21 22 3, pF 24 (.fad t23 1), lF 25 24, mP 26 t1, dF 27 31 [t26], bF 28 .neq t25 t27] (.cond t28 (sr [pT 4 (.mv (ci (-1)))] .ret) .skip)) (sr [mvt 29 1, bT 30 .add t29 (ci 1), mvt 1 30] (.seq (sr [mP 31 t0, mP 32 t5, iF 33 31 32 3, pF 34 (.fad t33 2), lF 35 34, mP 36 t1, dF 37 31 [t36], bF 38 .neq t35 t37] (.cond t38 (sr [pT 4 (.mv (ci (-1)))] .ret) .skip)) (.reg [mvt 39 1, bT 40 .add t39 (ci 1), mvt 1 40]))))))) (.reg [mvt 10 5, bT 11 .add t10 (ci 1), mvt 5 11])))))) (sr [mvt 41 1, mvt 4 41] .ret)))
theorem c22_ : IsF Tryz.prog 22 c22 [(.tmp 4)] := ⟨by kernel_rfl, by kernel_rfl⟩

def F_laws_heldProblemS_l0 (v0 : List TProblem) (k0 : Int × Int → Option (Int)) : Int × Int → Option (Int)
 | (x2, x3) => (bif (decide (x3 < (v0.length : Int))) then ((ix v0 x3).bind fun u0 => (bif (decide (u0.1 ≠ x2)) then some (-1)
 else ((ix v0 x3).bind fun u1 => ((F_laws_markText (w64 (x2 + 1))).bind fun u2 => (bif (decide (u1.2.1 ≠ u2)) then some (-1)
 else ((ix v0 x3).bind fun u3 => ((F_laws_markText (w64 ((w64 (x2 + 1)) + 1))).bind fun u4 => (bif (decide (u3.2.2 ≠ u4)) then some (-1)
 else k0 (w64 ((w64 ((w64 (x2 + 1)) + 1)) + 1), w64 (x3 + 1))))))))))
 else some x2)
def F_laws_heldProblemS (v0 : List TProblem) (v1 : Int) : Option (Int) :=
 loop (F_laws_heldProblemS_l0 v0) (v1, 0)
@[simp] abbrev K8e (v0 : List TProblem) : V := .sl 3 (v0.map eProblem)
@[simp] def res_laws_heldProblemS (r : Int) : RV := .one (.one (.val (.int .i64 r)))
theorem con_laws_heldProblemS {v0 : List TProblem} {v1 : Int} {r : Int} (hF : F_laws_heldProblemS v0 v1 = some r) : Con Tryz.prog 22 [.sl 3 (v0.map eProblem), .int .i64 v1] (res_laws_heldProblemS r) := by
 unfold F_laws_heldProblemS at hF
 refine con_of c22_.1 fun N => ?_
 refine ws 0 64 (qp (AI 0) rfl (r_nil (w_seq (ws 64 128 (qp (AI 0) rfl (r_nil (w_block ?_)))))))
 refine wr (l' := [(0, .val none (K8e v0)), (1, AI v1), (5, AI 0)]) (L := []) [0, 1, 5] [] 1 ?_
 refine w_loopF (F_laws_heldProblemS_l0 v0) (fun s : Int × Int => mkS [(0, .val none (K8e v0)), (1, AI s.1), (5, AI s.2)] (fo []) 1) hF ?_
 rintro k0 ⟨x2, x3⟩ hF
 rw [F_laws_heldProblemS_l0] at hF
 try dsimp only
 refine w_seq (ws 1 257 (qp (AI x3) rfl (qp (.val none (K8e v0)) rfl (qp (AI (v0.length : Int)) (ev_len_n rfl) (qp (AB (decide (x3 < (v0.length : Int)))) rfl (r_nil ?_))))))
 refine cF hF (fun hF => ?_) fun hF => ?_
 ·
  refine w_skip (thenQ_n (w_seq (w_block (w_seq (ws 257 705 (qp (.val none (K8e v0)) rfl (qp (AI x3) rfl (bk hF fun u0 e0 hF => qp (.val none (.ptr [.int .i64 u0.1, .str u0.2.1, .str u0.2.2])) (ev_iad_n rfl rfl e0 rfl) (qp (.val none (.ptr [.int .i64 u0.1, .str u0.2.1, .str u0.2.2])) rfl (qp (AI u0.1) rfl (qp (AI x2) rfl (qp (AB (decide (u0.1 ≠ x2))) rfl (r_nil ?_)))))))))))))
  refine cF hF (fun hF => ws 705 769 (qp (AI (-1)) rfl (r_nil (w_ret (thenQ_r (blockQ_r (thenQ_r (thenQ_r (blockQ_r (thenQ_r (eQ hF))))))))))) fun hF => ?_
  refine w_skip (thenQ_n (ws 705 897 (qp (AI x2) rfl (qp (AI (w64 (x2 + 1))) rfl (qp (AI (w64 (x2 + 1))) rfl (r_nil (w_seq (ws 897 1409 (qp (.val none (K8e v0)) rfl (qp (AI x3) rfl (bk hF fun u1 e1 hF => ?_)))))))))))
  refine qp (.val none (.ptr [.int .i64 u1.1, .str u1.2.1, .str u1.2.2])) (ev_iad_n rfl rfl e1 rfl) (qp (.val none (.ptr [.str u1.2.1, .str u1.2.2])) rfl (qp (AS u1.2.1) rfl (qp (AI (w64 (x2 + 1))) rfl (bk hF fun u2 e2 hF => qC (AS u2) [] (con_laws_markText e2) c31_ (qp (AB (decide (u1.2.1 ≠ u2))) rfl (r_nil ?_))))))
  refine cF hF (fun hF => ws 1409 1473 (qp (AI (-1)) rfl (r_nil (w_ret (thenQ_r (blockQ_r (thenQ_r (thenQ_r (blockQ_r (thenQ_r (eQ hF))))))))))) fun hF => ?_
  refine w_skip (thenQ_n (ws 1409 1601 (qp (AI (w64 (x2 + 1))) rfl (qp (AI (w64 ((w64 (x2 + 1)) + 1))) rfl (qp (AI (w64 ((w64 (x2 + 1)) + 1))) rfl (r_nil (w_seq (ws 1601 2113 ?_))))))))
  refine qp (.val none (K8e v0)) rfl (qp (AI x3) rfl (bk hF fun u3 e3 hF => qp (.val none (.ptr [.int .i64 u3.1, .str u3.2.1, .str u3.2.2])) (ev_iad_n rfl rfl e3 rfl) (qp (.val none (.ptr [.str u3.2.2])) rfl (qp (AS u3.2.2) rfl (qp (AI (w64 ((w64 (x2 + 1)) + 1))) rfl (bk hF fun u4 e4 hF => qC (AS u4) [] (con_laws_markText e4) c31_ (qp (AB (decide (u3.2.2 ≠ u4))) rfl (r_nil ?_))))))))
  refine cF hF (fun hF => ws 2113 2177 (qp (AI (-1)) rfl (r_nil (w_ret (thenQ_r (blockQ_r (thenQ_r (thenQ_r (blockQ_r (thenQ_r (eQ hF))))))))))) fun hF => ?_
  refine w_skip (thenQ_n (w_reg 2113 2305 rfl rfl (qp (AI (w64 ((w64 (x2 + 1)) + 1))) rfl (qp (AI (w64 ((w64 ((w64 (x2 + 1)) + 1)) + 1))) rfl (qp (AI (w64 ((w64 ((w64 (x2 + 1)) + 1)) + 1))) rfl ?_)))))
  refine r_nil (blockQ_n (thenQ_n (w_reg 2305 2497 rfl rfl (qp (AI x3) rfl (qp (AI (w64 (x3 + 1))) rfl (qp (AI (w64 (x3 + 1))) rfl (r_nil (thenQ_n ?_))))))))
  refine ar (l' := [(0, .val none (K8e v0)), (1, AI (w64 ((w64 ((w64 (x2 + 1)) + 1)) + 1))), (5, AI (w64 (x3 + 1)))]) (L := []) [0, 1, 5] [] 1 ⟨_, by rfl, hF⟩
 exact w_exit (thenQ_e (thenQ_e (blockQ_e (thenQ_n (ws 257 385 (qp (AI x2) rfl (qp (AI x2) rfl (rR hF))))))))

def c4 : MC := (sr [rg 1 (.f (.box t0)), pT 2 (.mv cf)] (sr [pT 3 (.mv (ci 1048576))] (sr [pT 14 (.ld t1 18 true), mvt 15 3, dT 16 14 [t14, t15], mvt 3 16] (.seq (sr [mvt 17 3, bT 18 .lss t17 (ci 0)] (.cond t18 (sr [pT 2 (.mv ct)] .ret) .skip)) (sr [pT 20 (.ld t1 18 true), dT 21 16 [t20], dT 22 15 [t21], mvt 19 22, pT 23 (.ext t19 0), pT 24 (.ext t19 1), mvt 4 23, mvt 5 24] (sr [pT 25 (.ld t1 18 true), dT 26 16 [t25], rg 6 (.f (.alloc [((.str []), (0, false)), ((.sl 0 []), (1, false)), ((.sl 0 []), (1, false)), ((.int .i64 0), (0, false)), ((.int .i64 0), (0, false)), ((.sl 0 []), (1, false)), ((.int .i64 0), (0, false)), ((.int .i64 0), (0, false)), ((.sl 0 []), (2, false)), ((.str []), (0, false)), ((.sl 0 []), (1, false)), ((.sl 0 []), (1, false)), ((.int .i64 0), (0, false)), ((.str []), (0, false)), ((.int .i64 0), (0, false)), ((.int .i64 0), (0, false)), ((.int .i64 0), (0, false)), ((.sl 0 []), (3, false))])), ⟨none, none, (.f (.st t6 t26 18))⟩] (sr [pT 28 (.ld t6 18 true), dT 29 17 [t28], mvt 27 29, pT 30 (.ext t27 0), pT 31 (.ext t27 1), mvt 7 30, mvt 8 31] (.seq (sr [mvt 32 7, mvt 33 4, dT 34 18 [t32, t33], pT 35 (.not t34), mvt 36 35, nF 37 36 t8, nF 38 36 t5, kF 39 36 (.bin .neq t37 t38), pT 40 (.pick t36 ct t39)] (.cond t40 (sr [pT 2 (.mv cf)] .ret) .skip)) (.seq (sr [pF 41 (.ld t6 18 true), pF 42 (.ld t1 18 true), dF 43 16 [t42], dF 44 19 [t41, t43], pF 45 (.not t44)] (.cond t45 (sr [pT 2 (.mv cf)] .ret) .skip)) (sr [pT 9 (.mv (ci 1))] (sr [pT 46 (.ld t6 18 true), mvt 47 9, dT 48 20 [t46, t47], mvt 9 48] (.seq (sr [mvt 49 9, bT 50 .lss t49 (ci 0), mvt 51 50, nF 52 51 t7, nF 53 51 t4, ⟨(some 54), (some (51, false)), (.call true 18 [t52, t53])⟩, kF 55 51 (.not t54), pT 56 (.pick t51 ct t55), mvt 57 56, nF 58 57 t8, nF 59 57 t5, kF 60 57 (.bin .neq t58 t59), pT 61 (.pick t57 ct t60)] (.cond t61 (sr [pT 2 (.mv cf)] .ret) .skip)) (sr [pT 10 (.mv (ci 1))] (sr [mvt 62 7, mvt 63 10, dT 64 21 [t62, t63], mvt 10 64] (sr [pT 11 (.mv (ci 1))] (sr [mvt 65 7, mvt 66 11, dT 67 22 [t65, t66], mvt 11 67] (.seq (sr [mvt 68 11, bT 69 .lss t68 (ci 0)] (.cond t69 (sr [pT 2 (.mv cf)] .ret) .skip)) (.seq (sr [mvt 70 11, mvt 71 10, bT 72 .neq t70 t71] (.cond t72 (sr [pT 2 (.mv cf)] .ret) .skip)) (sr [pT 74 (.ld t1 18 true), dT 75 16 [t74], dT 76 17 [t75], mvt 73 76, pT 77 (.ext t73 0), pT 78 (.ext t73 1), mvt 12 77, mvt 13 78] (.seq (sr [mvt 79 12, mvt 80 4, dT 81 18 [t79, t80], pT 82 (.not t81), mvt 83 82, nF 84 83 t13, nF 85 83 t5, kF 86 83 (.bin .neq t84 t85), pT 87 (.pick t83 ct t86)] (.cond t87 (sr [pT 2 (.mv cf)] .ret) .skip)) (sr [pT 11 (.mv (ci 1))] (sr [mvt 88 7, mvt 89 11, dT 90 22 [t88, t89], mvt 11 90] (.seq (sr [mvt 91 11, bT 92 .lss t91 (ci 0)] (.cond t92 (sr [pT 2 (.mv cf)] .ret) .skip)) (.seq (sr [mvt 93 11, mvt 94 10, bT 95 .neq t93 t94] (.cond t95 (sr [pT 2 (.mv cf)] .ret) .skip)) (sr [pT 2 (.mv ct)] .ret)))))))))))))))))))))))))
theorem c4_ : IsF Tryz.prog 4 c4 [(.tmp 2)] := ⟨by kernel_rfl, by kernel_rfl⟩

def F_laws_FnExactMelodyProblems (v0 : TWork) : Option (Bool) :=
 ((F_laws_szWork v0 1048576).bind fun u0 => (bif (decide (u0 < (0 : Int))) then some true
 else ((F_laws_toWork v0).bind fun u1 => ((F_spec_MelodyProblems u1).bind fun u2 => ((F_laws_toWork v0).bind fun u3 => ((F_impl_MelodyProblems u3).bind fun u4 => ((F_laws_eqProblemS u4.1 u2.1).bind fun u6 => (bif (!u6) then some false
 else (bif (decide (u4.2 ≠ u2.2)) then some false
 else ((F_laws_toWork v0).bind fun u7 => ((F_laws_eqWork u3 u7).bind fun u8 => (bif (!u8) then some false
 else ((F_laws_markWork u3 1).bind fun u9 => need (u9.1.2.1.length = u3.2.1.length) (need (u9.1.2.2.1.length = u3.2.2.1.length) (need (u9.1.2.2.2.2.2.1.length = u3.2.2.2.2.2.1.length) (need (u9.1.2.2.2.2.2.2.2.2.1.length = u3.2.2.2.2.2.2.2.2.1.length) (need (u9.1.2.2.2.2.2.2.2.2.2.2.1.length = u3.2.2.2.2.2.2.2.2.2.2.1.length) (need (u9.1.2.2.2.2.2.2.2.2.2.2.2.1.length = u3.2.2.2.2.2.2.2.2.2.2.2.1.length) (need (u9.1.2.2.2.2.2.2.2.2.2.2.2.2.2.2.2.2.2.length = u3.2.2.2.2.2.2.2.2.2.2.2.2.2.2.2.2.2.length) ((bif (decide (u9.2 < (0 : Int))) then some false
 else ((F_laws_eqProblemS u4.1 u2.1).bind fun u29 => (bif (!u29) then some false
 else (bif (decide (u4.2 ≠ u2.2)) then some false
 else ((F_laws_markProblemS u4.1 1).bind fun u30 => need (u30.1.length = u4.1.length) (((F_laws_heldProblemS u30.1 1).bind fun u32 => (bif (decide (u32 < (0 : Int))) then some false
 else (bif (decide (u32 ≠ u30.2)) then some false
 else ((F_laws_toWork v0).bind fun u33 => ((F_impl_MelodyProblems u33).bind fun u34 => ((F_laws_eqProblemS u34.1 u2.1).bind fun u36 => (bif (!u36) then some false
 else (bif (decide (u34.2 ≠ u2.2)) then some false
 else ((F_laws_heldProblemS u30.1 1).bind fun u37 => (bif (decide (u37 < (0 : Int))) then some false
 else (bif (decide (u37 ≠ u30.2)) then some false
 else some true)))))))))))))))))))))))))))))))))))))
@[simp] abbrev K8r (v0 : TWork) : List AV := [AS v0.1, AL 1 (v0.2.1.map vI), AL 1 (v0.2.2.1.map vI), AI v0.2.2.2.1, AI v0.2.2.2.2.1, AL 1 (v0.2.2.2.2.2.1.map (eL 1 vI)), AI v0.2.2.2.2.2.2.1, AI v0.2.2.2.2.2.2.2.1, AL 2 (v0.2.2.2.2.2.2.2.2.1.map eNote), AS v0.2.2.2.2.2.2.2.2.2.1, AL 1 (v0.2.2.2.2.2.2.2.2.2.2.1.map vI), AL 1 (v0.2.2.2.2.2.2.2.2.2.2.2.1.map vI), AI v0.2.2.2.2.2.2.2.2.2.2.2.2.1, AS v0.2.2.2.2.2.2.2.2.2.2.2.2.2.1, AI v0.2.2.2.2.2.2.2.2.2.2.2.2.2.2.1, AI v0.2.2.2.2.2.2.2.2.2.2.2.2.2.2.2.1, AI v0.2.2.2.2.2.2.2.2.2.2.2.2.2.2.2.2.1, AL 3 (v0.2.2.2.2.2.2.2.2.2.2.2.2.2.2.2.2.2.map eTurn)]
@[simp] abbrev K8f (v0 : TWork) : List (Nat × Root) := [(0, .box (K8r v0))]
@[simp] abbrev K8g (u1 : TWork) (v0 : TWork) : List (Nat × Root) := ((657, .row true 3 (u1.2.2.2.2.2.2.2.2.2.2.2.2.2.2.2.2.2.map eTurn)) :: (651, .row true 1 (u1.2.2.2.2.2.2.2.2.2.2.2.1.map vI)) :: (650, .row true 1 (u1.2.2.2.2.2.2.2.2.2.2.1.map vI)) :: (648, .row true 2 (u1.2.2.2.2.2.2.2.2.1.map eNote)) :: (645, .row true 1 (u1.2.2.2.2.2.1.map (eL 1 vI))) :: (642, .row true 1 (u1.2.2.1.map vI)) :: (641, .row true 1 (u1.2.1.map vI)) :: (K8f v0))
@[simp] abbrev K8h (u2 : (List TProblem) × Int) (u1 : TWork) (v0 : TWork) : List (Nat × Root) := ((704, .row true 3 (u2.1.map eProblem)) :: (K8g u1 v0))
@[simp] abbrev K8i (u3 : TWork) (u2 : (List TProblem) × Int) (u1 : TWork) (v0 : TWork) : List (Nat × Root) := ((1169, .row true 3 (u3.2.2.2.2.2.2.2.2.2.2.2.2.2.2.2.2.2.map eTurn)) :: (1163, .row true 1 (u3.2.2.2.2.2.2.2.2.2.2.2.1.map vI)) :: (1162, .row true 1 (u3.2.2.2.2.2.2.2.2.2.2.1.map vI)) :: (1160, .row true 2 (u3.2.2.2.2.2.2.2.2.1.map eNote)) :: (1157, .row true 1 (u3.2.2.2.2.2.1.map (eL 1 vI))) :: (1154, .row true 1 (u3.2.2.1.map vI)) :: (1153, .row true 1 (u3.2.1.map vI)) :: (K8h u2 u1 v0))
@[simp] abbrev K8j (u3 : TWork) (u2 : (List TProblem) × Int) (u1 : TWork) (v0 : TWork) : List (Nat × Root) := ((1216, .box [AS [], .sl 1217 0 0, .sl 1218 0 0, AI 0, AI 0, .sl 1219 0 0, AI 0, AI 0, .sl 1220 0 0, AS [], .sl 1221 0 0, .sl 1222 0 0, AI 0, AS [], AI 0, AI 0, AI 0, .sl 1223 0 0]) :: (1223, .row true 3 (([] : List Int).map vI)) :: (1222, .row true 1 (([] : List Int).map vI)) :: (1221, .row true 1 (([] : List Int).map vI)) :: (1220, .row true 2 (([] : List Int).map vI)) :: (1219, .row true 1 (([] : List Int).map vI)) :: (1218, .row true 1 (([] : List Int).map vI)) :: (1217, .row true 1 (([] : List Int).map vI)) :: (K8i u3 u2 u1 v0))
@[simp] abbrev K8s (u3 : TWork) : List AV := [AS u3.1, .sl 1153 0 u3.2.1.length, .sl 1154 0 u3.2.2.1.length, AI u3.2.2.2.1, AI u3.2.2.2.2.1, .sl 1157 0 u3.2.2.2.2.2.1.length, AI u3.2.2.2.2.2.2.1, AI u3.2.2.2.2.2.2.2.1, .sl 1160 0 u3.2.2.2.2.2.2.2.2.1.length, AS u3.2.2.2.2.2.2.2.2.2.1, .sl 1162 0 u3.2.2.2.2.2.2.2.2.2.2.1.length, .sl 1163 0 u3.2.2.2.2.2.2.2.2.2.2.2.1.length, AI u3.2.2.2.2.2.2.2.2.2.2.2.2.1, AS u3.2.2.2.2.2.2.2.2.2.2.2.2.2.1, AI u3.2.2.2.2.2.2.2.2.2.2.2.2.2.2.1, AI u3.2.2.2.2.2.2.2.2.2.2.2.2.2.2.2.1, AI u3.2.2.2.2.2.2.2.2.2.2.2.2.2.2.2.2.1, .sl 1169 0 u3.2.2.2.2.2.2.2.2.2.2.2.2.2.2.2.2.2.length]
@[simp] abbrev K8k (u3 : TWork) (u2 : (List TProblem) × Int) (u1 : TWork) (v0 : TWork) : List (Nat × Root) := ((1216, .box (K8s u3)) :: (K8j u3 u2 u1 v0))
@[simp] abbrev K8m (u7 : TWork) (u4 : (List TProblem) × Int) (u3 : TWork) (u2 : (List TProblem) × Int) (u1 : TWork) (v0 : TWork) : List (Nat × Root) := ((2513, .row true 3 (u7.2.2.2.2.2.2.2.2.2.2.2.2.2.2.2.2.2.map eTurn)) :: (2507, .row true 1 (u7.2.2.2.2.2.2.2.2.2.2.2.1.map vI)) :: (2506, .row true 1 (u7.2.2.2.2.2.2.2.2.2.2.1.map vI)) :: (2504, .row true 2 (u7.2.2.2.2.2.2.2.2.1.map eNote)) :: (2501, .row true 1 (u7.2.2.2.2.2.1.map (eL 1 vI))) :: (2498, .row true 1 (u7.2.2.1.map vI)) :: (2497, .row true 1 (u7.2.1.map vI)) :: (1408, .row true 3 (u4.1.map eProblem)) :: (K8k u3 u2 u1 v0))
@[simp] abbrev K8n (u9 : TWork × Int) (u7 : TWork) (u4 : (List TProblem) × Int) (u3 : TWork) (u2 : (List TProblem) × Int) (u1 : TWork) (v0 : TWork) : List (Nat × Root) := ((1153, .row true 1 (u9.1.2.1.map vI)) :: (1154, .row true 1 (u9.1.2.2.1.map vI)) :: (1157, .row true 1 (u9.1.2.2.2.2.2.1.map (eL 1 vI))) :: (1160, .row true 2 (u9.1.2.2.2.2.2.2.2.2.1.map eNote)) :: (1162, .row true 1 (u9.1.2.2.2.2.2.2.2.2.2.2.1.map vI)) :: (1163, .row true 1 (u9.1.2.2.2.2.2.2.2.2.2.2.2.1.map vI)) :: (1169, .row true 3 (u9.1.2.2.2.2.2.2.2.2.2.2.2.2.2.2.2.2.2.map eTurn)) :: (K8m u7 u4 u3 u2 u1 v0))
@[simp] abbrev K8p (u33 : TWork) (u30 : (List TProblem) × Int) (u9 : TWork × Int) (u7 : TWork) (u4 : (List TProblem) × Int) (u3 : TWork) (u2 : (List TProblem) × Int) (u1 : TWork) (v0 : TWork) : List (Nat × Root) := ((4881, .row true 3 (u33.2.2.2.2.2.2.2.2.2.2.2.2.2.2.2.2.2.map eTurn)) :: (4875, .row true 1 (u33.2.2.2.2.2.2.2.2.2.2.2.1.map vI)) :: (4874, .row true 1 (u33.2.2.2.2.2.2.2.2.2.2.1.map vI)) :: (4872, .row true 2 (u33.2.2.2.2.2.2.2.2.1.map eNote)) :: (4869, .row true 1 (u33.2.2.2.2.2.1.map (eL 1 vI))) :: (4866, .row true 1 (u33.2.2.1.map vI)) :: (4865, .row true 1 (u33.2.1.map vI)) :: (1408, .row true 3 (u30.1.map eProblem)) :: (K8n u9 u7 u4 u3 u2 u1 v0))
@[simp] def res_laws_FnExactMelodyProblems (r : Bool) : RV := .one (.one (.val (.bool r)))
theorem con_laws_FnExactMelodyProblems {v0 : TWork} {r : Bool} (hF : F_laws_FnExactMelodyProblems v0 = some r) : Con Tryz.prog 4 [eWork v0] (res_laws_FnExactMelodyProblems r) := by
 unfold F_laws_FnExactMelodyProblems at hF
 refine con_of c4_.1 fun N => ?_
 refine ws 0 128 (qf (.ptr 0 0 0) (K8f v0) (by simp) (qp (AB false) rfl (r_nil (ws 128 192 (qp (AI 1048576) rfl (r_nil (ws 192 448 (qp (.agg (K8r v0)) rfl (qp (AI 1048576) rfl (bk hF fun u0 e0 hF => qC (AI u0) (K8f v0) (con_laws_szWork e0) c14_ (qp (AI u0) rfl (r_nil (w_seq (ws 448 576 ?_))))))))))))))
 refine qp (AI u0) rfl (qp (AB (decide (u0 < (0 : Int)))) rfl (r_nil (cF hF (fun hF => ws 576 640 (qp (AB true) rfl (r_nil (w_ret (thenQ_r (eQ hF)))))) fun hF => ?_)))
 refine w_skip (thenQ_n (ws 576 1088 (qp (.agg (K8r v0)) rfl (bk hF fun u1 e1 hF => qc (.agg [AS u1.1, .sl 641 0 u1.2.1.length, .sl 642 0 u1.2.2.1.length, AI u1.2.2.2.1, AI u1.2.2.2.2.1, .sl 645 0 u1.2.2.2.2.2.1.length, AI u1.2.2.2.2.2.2.1, AI u1.2.2.2.2.2.2.2.1, .sl 648 0 u1.2.2.2.2.2.2.2.2.1.length, AS u1.2.2.2.2.2.2.2.2.2.1, .sl 650 0 u1.2.2.2.2.2.2.2.2.2.2.1.length, .sl 651 0 u1.2.2.2.2.2.2.2.2.2.2.2.1.length, AI u1.2.2.2.2.2.2.2.2.2.2.2.2.1, AS u1.2.2.2.2.2.2.2.2.2.2.2.2.2.1, AI u1.2.2.2.2.2.2.2.2.2.2.2.2.2.2.1, AI u1.2.2.2.2.2.2.2.2.2.2.2.2.2.2.2.1, AI u1.2.2.2.2.2.2.2.2.2.2.2.2.2.2.2.2.1, .sl 657 0 u1.2.2.2.2.2.2.2.2.2.2.2.2.2.2.2.2.2.length]) (K8g u1 v0) false (con_laws_toWork e1) c16_.2 (by first | rfl | simp) (by simp [res_laws_toWork]) (bk hF fun u2 e2 hF => qc (.tup [.sl 704 0 u2.1.length, AI u2.2]) (K8h u2 u1 v0) true (con_spec_MelodyProblems e2) c15_.2 (by simp [List.take_of_length_le]) (by simp [res_spec_MelodyProblems]) (qp (.tup [.sl 704 0 u2.1.length, AI u2.2]) rfl (qp (.sl 704 0 u2.1.length) rfl (qp (AI u2.2) rfl (qp (.sl 704 0 u2.1.length) rfl (qp (AI u2.2) rfl (r_nil (ws 1088 1344 (qp (.agg (K8r v0)) rfl (bk hF fun u3 e3 hF => qc (.agg (K8s u3)) (K8i u3 u2 u1 v0) false (con_laws_toWork e3) c16_.2 (by first | rfl | simp) (by simp [res_laws_toWork]) (qf (.ptr 1216 0 0) (K8j u3 u2 u1 v0) (by simp) (qf0 (.undef) (K8k u3 u2 u1 v0) (by simp) ?_))))))))))))))))
 refine r_nil (ws 1344 1792 (qp (.agg (K8s u3)) rfl (bk hF fun u4 e4 hF => qc (.tup [.sl 1408 0 u4.1.length, AI u4.2]) ((1408, .row true 3 (u4.1.map eProblem)) :: (K8k u3 u2 u1 v0)) true (con_impl_MelodyProblems e4) c17_.2 (by simp [List.take_of_length_le]) (by simp [res_impl_MelodyProblems]) (qp (.tup [.sl 1408 0 u4.1.length, AI u4.2]) rfl (qp (.sl 1408 0 u4.1.length) rfl (qp (AI u4.2) rfl (qp (.sl 1408 0 u4.1.length) rfl (qp (AI u4.2) rfl (r_nil (w_seq (ws 1792 2368 (qp (.sl 1408 0 u4.1.length) rfl (qp (.sl 704 0 u2.1.length) rfl (bk hF fun u6 e6 hF => qc (AB u6) ((1408, .row true 3 (u4.1.map eProblem)) :: (K8k u3 u2 u1 v0)) true (con_laws_eqProblemS e6) c18_.2 (by simp [List.take_of_length_le]) rfl ?_))))))))))))))
 refine qp (AB (!u6)) rfl (qp (AB (!u6)) rfl (q_case 36 hF rfl (fun hF => qn3 (qp (AB true) rfl (r_nil (w_true rfl (ws 2368 2432 (qp (AB false) rfl (r_nil (w_ret (thenQ_r (eQ hF)))))))))) fun hF => ?_))
 refine qg (AI u4.2) rfl rfl (qg (AI u2.2) rfl rfl (qg (AB (decide (u4.2 ≠ u2.2))) rfl rfl (qp (AB (decide (u4.2 ≠ u2.2))) rfl (r_nil (cF hF (fun hF => ws 2368 2432 (qp (AB false) rfl (r_nil (w_ret (thenQ_r (eQ hF)))))) fun hF => ?_)))))
 refine w_skip (thenQ_n (w_seq (ws 2368 2688 (qp (.agg (K8s u3)) rfl (qp (.agg (K8r v0)) rfl (bk hF fun u7 e7 hF => qc (.agg [AS u7.1, .sl 2497 0 u7.2.1.length, .sl 2498 0 u7.2.2.1.length, AI u7.2.2.2.1, AI u7.2.2.2.2.1, .sl 2501 0 u7.2.2.2.2.2.1.length, AI u7.2.2.2.2.2.2.1, AI u7.2.2.2.2.2.2.2.1, .sl 2504 0 u7.2.2.2.2.2.2.2.2.1.length, AS u7.2.2.2.2.2.2.2.2.2.1, .sl 2506 0 u7.2.2.2.2.2.2.2.2.2.2.1.length, .sl 2507 0 u7.2.2.2.2.2.2.2.2.2.2.2.1.length, AI u7.2.2.2.2.2.2.2.2.2.2.2.2.1, AS u7.2.2.2.2.2.2.2.2.2.2.2.2.2.1, AI u7.2.2.2.2.2.2.2.2.2.2.2.2.2.2.1, AI u7.2.2.2.2.2.2.2.2.2.2.2.2.2.2.2.1, AI u7.2.2.2.2.2.2.2.2.2.2.2.2.2.2.2.2.1, .sl 2513 0 u7.2.2.2.2.2.2.2.2.2.2.2.2.2.2.2.2.2.length]) (K8m u7 u4 u3 u2 u1 v0) false (con_laws_toWork e7) c16_.2 (by first | rfl | simp) (by simp [res_laws_toWork]) (bk hF fun u8 e8 hF => qc (AB u8) (K8m u7 u4 u3 u2 u1 v0) true (con_laws_eqWork e8) c19_.2 (by simp [List.take_of_length_le]) rfl (qp (AB (!u8)) rfl (r_nil (cF hF (fun hF => ws 2688 2752 (qp (AB false) rfl (r_nil (w_ret (thenQ_r (eQ hF)))))) fun hF => ?_))))))))))
 refine w_skip (thenQ_n (ws 2688 2752 (qp (AI 1) rfl (r_nil (ws 2752 3008 (qp (.agg (K8s u3)) rfl (qp (AI 1) rfl (bk hF fun u9 e9 hF => nk hF fun g10 hF => nk hF fun g11 hF => nk hF fun g12 hF => nk hF fun g13 hF => nk hF fun g14 hF => nk hF fun g15 hF => nk hF fun g16 hF => ?_))))))))
 have g17 : u9.1.1 = u3.1 := by have h := e9; unfold F_laws_markWork at h; obtain ⟨_, _, h⟩ := bind_get h; obtain ⟨_, h⟩ := need_some h; obtain ⟨_, h⟩ := need_some h; obtain ⟨_, h⟩ := need_some h; obtain ⟨_, _, h⟩ := bind_get h; obtain ⟨_, h⟩ := need_some h; obtain ⟨_, _, h⟩ := bind_get h; obtain ⟨_, h⟩ := need_some h; obtain ⟨_, h⟩ := need_some h; obtain ⟨_, _, h⟩ := bind_get h; obtain ⟨_, h⟩ := need_some h; cases h; rfl
 have g18 : u9.1.2.2.2.1 = u3.2.2.2.1 := by have h := e9; unfold F_laws_markWork at h; obtain ⟨_, _, h⟩ := bind_get h; obtain ⟨_, h⟩ := need_some h; obtain ⟨_, h⟩ := need_some h; obtain ⟨_, h⟩ := need_some h; obtain ⟨_, _, h⟩ := bind_get h; obtain ⟨_, h⟩ := need_some h; obtain ⟨_, _, h⟩ := bind_get h; obtain ⟨_, h⟩ := need_some h; obtain ⟨_, h⟩ := need_some h; obtain ⟨_, _, h⟩ := bind_get h; obtain ⟨_, h⟩ := need_some h; cases h; rfl
 have g19 : u9.1.2.2.2.2.1 = u3.2.2.2.2.1 := by have h := e9; unfold F_laws_markWork at h; obtain ⟨_, _, h⟩ := bind_get h; obtain ⟨_, h⟩ := need_some h; obtain ⟨_, h⟩ := need_some h; obtain ⟨_, h⟩ := need_some h; obtain ⟨_, _, h⟩ := bind_get h; obtain ⟨_, h⟩ := need_some h; obtain ⟨_, _, h⟩ := bind_get h; obtain ⟨_, h⟩ := need_some h; obtain ⟨_, h⟩ := need_some h; obtain ⟨_, _, h⟩ := bind_get h; obtain ⟨_, h⟩ := need_some h; cases h; rfl
 have g20 : u9.1.2.2.2.2.2.2.1 = u3.2.2.2.2.2.2.1 := by have h := e9; unfold F_laws_markWork at h; obtain ⟨_, _, h⟩ := bind_get h; obtain ⟨_, h⟩ := need_some h; obtain ⟨_, h⟩ := need_some h; obtain ⟨_, h⟩ := need_some h; obtain ⟨_, _, h⟩ := bind_get h; obtain ⟨_, h⟩ := need_some h; obtain ⟨_, _, h⟩ := bind_get h; obtain ⟨_, h⟩ := need_some h; obtain ⟨_, h⟩ := need_some h; obtain ⟨_, _, h⟩ := bind_get h; obtain ⟨_, h⟩ := need_some h; cases h; rfl
 have g21 : u9.1.2.2.2.2.2.2.2.1 = u3.2.2.2.2.2.2.2.1 := by have h := e9; unfold F_laws_markWork at h; obtain ⟨_, _, h⟩ := bind_get h; obtain ⟨_, h⟩ := need_some h; obtain ⟨_, h⟩ := need_some h; obtain ⟨_, h⟩ := need_some h; obtain ⟨_, _, h⟩ := bind_get h; obtain ⟨_, h⟩ := need_some h; obtain ⟨_, _, h⟩ := bind_get h; obtain ⟨_, h⟩ := need_some h; obtain ⟨_, h⟩ := need_some h; obtain ⟨_, _, h⟩ := bind_get h; obtain ⟨_, h⟩ := need_some h; cases h; rfl
 have g22 : u9.1.2.2.2.2.2.2.2.2.2.1 = u3.2.2.2.2.2.2.2.2.2.1 := by have h := e9; unfold F_laws_markWork at h; obtain ⟨_, _, h⟩ := bind_get h; obtain ⟨_, h⟩ := need_some h; obtain ⟨_, h⟩ := need_some h; obtain ⟨_, h⟩ := need_some h; obtain ⟨_, _, h⟩ := bind_get h; obtain ⟨_, h⟩ := need_some h; obtain ⟨_, _, h⟩ := bind_get h; obtain ⟨_, h⟩ := need_some h; obtain ⟨_, h⟩ := need_some h; obtain ⟨_, _, h⟩ := bind_get h; obtain ⟨_, h⟩ := need_some h; cases h; rfl
 have g23 : u9.1.2.2.2.2.2.2.2.2.2.2.2.2.1 = u3.2.2.2.2.2.2.2.2.2.2.2.2.1 := by have h := e9; unfold F_laws_markWork at h; obtain ⟨_, _, h⟩ := bind_get h; obtain ⟨_, h⟩ := need_some h; obtain ⟨_, h⟩ := need_some h; obtain ⟨_, h⟩ := need_some h; obtain ⟨_, _, h⟩ := bind_get h; obtain ⟨_, h⟩ := need_some h; obtain ⟨_, _, h⟩ := bind_get h; obtain ⟨_, h⟩ := need_some h; obtain ⟨_, h⟩ := need_some h; obtain ⟨_, _, h⟩ := bind_get h; obtain ⟨_, h⟩ := need_some h; cases h; rfl
 have g24 : u9.1.2.2.2.2.2.2.2.2.2.2.2.2.2.1 = u3.2.2.2.2.2.2.2.2.2.2.2.2.2.1 := by have h := e9; unfold F_laws_markWork at h; obtain ⟨_, _, h⟩ := bind_get h; obtain ⟨_, h⟩ := need_some h; obtain ⟨_, h⟩ := need_some h; obtain ⟨_, h⟩ := need_some h; obtain ⟨_, _, h⟩ := bind_get h; obtain ⟨_, h⟩ := need_some h; obtain ⟨_, _, h⟩ := bind_get h; obtain ⟨_, h⟩ := need_some h; obtain ⟨_, h⟩ := need_some h; obtain ⟨_, _, h⟩ := bind_get h; obtain ⟨_, h⟩ := need_some h; cases h; rfl
 have g25 : u9.1.2.2.2.2.2.2.2.2.2.2.2.2.2.2.1 = u3.2.2.2.2.2.2.2.2.2.2.2.2.2.2.1 := by have h := e9; unfold F_laws_markWork at h; obtain ⟨_, _, h⟩ := bind_get h; obtain ⟨_, h⟩ := need_some h; obtain ⟨_, h⟩ := need_some h; obtain ⟨_, h⟩ := need_some h; obtain ⟨_, _, h⟩ := bind_get h; obtain ⟨_, h⟩ := need_some h; obtain ⟨_, _, h⟩ := bind_get h; obtain ⟨_, h⟩ := need_some h; obtain ⟨_, h⟩ := need_some h; obtain ⟨_, _, h⟩ := bind_get h; obtain ⟨_, h⟩ := need_some h; cases h; rfl
 have g26 : u9.1.2.2.2.2.2.2.2.2.2.2.2.2.2.2.2.1 = u3.2.2.2.2.2.2.2.2.2.2.2.2.2.2.2.1 := by have h := e9; unfold F_laws_markWork at h; obtain ⟨_, _, h⟩ := bind_get h; obtain ⟨_, h⟩ := need_some h; obtain ⟨_, h⟩ := need_some h; obtain ⟨_, h⟩ := need_some h; obtain ⟨_, _, h⟩ := bind_get h; obtain ⟨_, h⟩ := need_some h; obtain ⟨_, _, h⟩ := bind_get h; obtain ⟨_, h⟩ := need_some h; obtain ⟨_, h⟩ := need_some h; obtain ⟨_, _, h⟩ := bind_get h; obtain ⟨_, h⟩ := need_some h; cases h; rfl
 have g27 : u9.1.2.2.2.2.2.2.2.2.2.2.2.2.2.2.2.2.1 = u3.2.2.2.2.2.2.2.2.2.2.2.2.2.2.2.2.1 := by have h := e9; unfold F_laws_markWork at h; obtain ⟨_, _, h⟩ := bind_get h; obtain ⟨_, h⟩ := need_some h; obtain ⟨_, h⟩ := need_some h; obtain ⟨_, h⟩ := need_some h; obtain ⟨_, _, h⟩ := bind_get h; obtain ⟨_, h⟩ := need_some h; obtain ⟨_, _, h⟩ := bind_get h; obtain ⟨_, h⟩ := need_some h; obtain ⟨_, h⟩ := need_some h; obtain ⟨_, _, h⟩ := bind_get h; obtain ⟨_, h⟩ := need_some h; cases h; rfl
 refine qm (ls := [1153, 1154, 1157, 1160, 1162, 1163, 1169]) (K8n u9 u7 u4 u3 u2 u1 v0) (con_laws_markWork e9) c20_ok (by first | rfl | simp [takeM, takeML, takeM1, g10, g11, g12, g13, g14, g15, g16, g17, g18, g19, g20, g21, g22, g23, g24, g25, g26, g27]) (by decide) (by simp [like2, likeL, like1, g10, g11, g12, g13, g14, g15, g16, g17, g18, g19, g20, g21, g22, g23, g24, g25, g26, g27]) rfl rfl rfl (by simp [scrO_fo, newO2, newO, scrR, scrA, scrAs]) (qp (AI u9.2) rfl (r_nil (w_seq (ws 3008 3840 (qp (AI u9.2) rfl (qp (AB (decide (u9.2 < (0 : Int)))) rfl (qp (AB (decide (u9.2 < (0 : Int)))) rfl ?_)))))))
 refine q_case 51 hF rfl (fun hF => ?_) (fun hF => ?_)
 ·
  refine qn4 (qp (AB true) rfl (qp (AB true) rfl (qn2 (qn rfl (qp (AB true) rfl (r_nil (w_true rfl (ws 3840 3904 (qp (AB false) rfl (r_nil (w_ret (thenQ_r ?_))))))))))))
  cases hF
  exact endQ_r rfl (.inl ⟨_, _, by first | rfl | (simp [List.take_of_length_le]; first | exact ⟨rfl, rfl⟩ | rfl), by simp, by first | rfl | simp [res_laws_FnExactMelodyProblems, List.take_of_length_le, g10, g11, g12, g13, g14, g15, g16, g17, g18, g19, g20, g21, g22, g23, g24, g25, g26, g27]⟩)
 refine qg (.sl 1408 0 u4.1.length) rfl rfl (qg (.sl 704 0 u2.1.length) rfl rfl (bk hF fun u29 e29 hF => qcg (AB u29) (K8n u9 u7 u4 u3 u2 u1 v0) true rfl (con_laws_eqProblemS e29) c18_.2 (by simp [g10, g11, g12, g13, g14, g15, g16, g17, g18, g19, g20, g21, g22, g23, g24, g25, g26, g27, List.take_of_length_le]) rfl (qg (AB (!u29)) rfl rfl (qp (AB (!u29)) rfl (qp (AB (!u29)) rfl ?_)))))
 refine q_case 57 hF rfl (fun hF => ?_) (fun hF => ?_)
 ·
  refine qn3 (qp (AB true) rfl (r_nil (w_true rfl (ws 3840 3904 (qp (AB false) rfl (r_nil (w_ret (thenQ_r ?_))))))))
  cases hF
  exact endQ_r rfl (.inl ⟨_, _, by first | rfl | (simp [List.take_of_length_le]; first | exact ⟨rfl, rfl⟩ | rfl), by simp, by first | rfl | simp [res_laws_FnExactMelodyProblems, List.take_of_length_le, g10, g11, g12, g13, g14, g15, g16, g17, g18, g19, g20, g21, g22, g23, g24, g25, g26, g27]⟩)
 refine qg (AI u4.2) rfl rfl (qg (AI u2.2) rfl rfl (qg (AB (decide (u4.2 ≠ u2.2))) rfl rfl (qp (AB (decide (u4.2 ≠ u2.2))) rfl (r_nil ?_))))
 refine cF hF (fun hF => ?_) fun hF => ?_
 ·
  refine ws 3840 3904 (qp (AB false) rfl (r_nil (w_ret (thenQ_r ?_))))
  cases hF
  exact endQ_r rfl (.inl ⟨_, _, by first | rfl | (simp [List.take_of_length_le]; first | exact ⟨rfl, rfl⟩ | rfl), by simp, by first | rfl | simp [res_laws_FnExactMelodyProblems, List.take_of_length_le, g10, g11, g12, g13, g14, g15, g16, g17, g18, g19, g20, g21, g22, g23, g24, g25, g26, g27]⟩)
 refine w_skip (thenQ_n (ws 3840 3904 (qp (AI 1) rfl (r_nil (ws 3904 4160 (qp (.sl 1408 0 u4.1.length) rfl (qp (AI 1) rfl (bk hF fun u30 e30 hF => nk hF fun g31 hF => qm (ls := [1408]) ((1408, .row true 3 (u30.1.map eProblem)) :: (K8n u9 u7 u4 u3 u2 u1 v0)) (con_laws_markProblemS e30) c21_ok (by first | rfl | simp [takeM, takeML, takeM1, g10, g11, g12, g13, g14, g15, g16, g17, g18, g19, g20, g21, g22, g23, g24, g25, g26, g27, g31]) (by decide) (by simp [like2, likeL, like1, g31]) rfl rfl rfl (by simp [scrO_fo, newO2, newO, scrR, scrA, scrAs]) (qp (AI u30.2) rfl (r_nil (ws 4160 4224 (qp (AI 1) rfl (r_nil (ws 4224 4480 ?_))))))))))))))
 refine qp (.sl 1408 0 u4.1.length) rfl (qp (AI 1) rfl (bk hF fun u32 e32 hF => qc (AI u32) ((1408, .row true 3 (u30.1.map eProblem)) :: (K8n u9 u7 u4 u3 u2 u1 v0)) true (con_laws_heldProblemS e32) c22_.2 (by simp [g10, g11, g12, g13, g14, g15, g16, g17, g18, g19, g20, g21, g22, g23, g24, g25, g26, g27, g31, List.take_of_length_le]) rfl (qp (AI u32) rfl (r_nil (w_seq (ws 4480 4608 (qp (AI u32) rfl (qp (AB (decide (u32 < (0 : Int)))) rfl (r_nil ?_)))))))))
 refine cF hF (fun hF => ?_) fun hF => ?_
 ·
  refine ws 4608 4672 (qp (AB false) rfl (r_nil (w_ret (thenQ_r ?_))))
  cases hF
  exact endQ_r rfl (.inl ⟨_, _, by first | rfl | (simp [List.take_of_length_le]; first | exact ⟨rfl, rfl⟩ | rfl), by simp, by first | rfl | simp [res_laws_FnExactMelodyProblems, List.take_of_length_le, g10, g11, g12, g13, g14, g15, g16, g17, g18, g19, g20, g21, g22, g23, g24, g25, g26, g27, g31]⟩)
 refine w_skip (thenQ_n (w_seq (ws 4608 4800 (qp (AI u32) rfl (qp (AI u30.2) rfl (qp (AB (decide (u32 ≠ u30.2))) rfl (r_nil ?_)))))))
 refine cF hF (fun hF => ?_) fun hF => ?_
 ·
  refine ws 4800 4864 (qp (AB false) rfl (r_nil (w_ret (thenQ_r ?_))))
  cases hF
  exact endQ_r rfl (.inl ⟨_, _, by first | rfl | (simp [List.take_of_length_le]; first | exact ⟨rfl, rfl⟩ | rfl), by simp, by first | rfl | simp [res_laws_FnExactMelodyProblems, List.take_of_length_le, g10, g11, g12, g13, g14, g15, g16, g17, g18, g19, g20, g21, g22, g23, g24, g25, g26, g27, g31]⟩)
 refine w_skip (thenQ_n (ws 4800 5312 (qp (.agg (K8r v0)) rfl (bk hF fun u33 e33 hF => qc (.agg [AS u33.1, .sl 4865 0 u33.2.1.length, .sl 4866 0 u33.2.2.1.length, AI u33.2.2.2.1, AI u33.2.2.2.2.1, .sl 4869 0 u33.2.2.2.2.2.1.length, AI u33.2.2.2.2.2.2.1, AI u33.2.2.2.2.2.2.2.1, .sl 4872 0 u33.2.2.2.2.2.2.2.2.1.length, AS u33.2.2.2.2.2.2.2.2.2.1, .sl 4874 0 u33.2.2.2.2.2.2.2.2.2.2.1.length, .sl 4875 0 u33.2.2.2.2.2.2.2.2.2.2.2.1.length, AI u33.2.2.2.2.2.2.2.2.2.2.2.2.1, AS u33.2.2.2.2.2.2.2.2.2.2.2.2.2.1, AI u33.2.2.2.2.2.2.2.2.2.2.2.2.2.2.1, AI u33.2.2.2.2.2.2.2.2.2.2.2.2.2.2.2.1, AI u33.2.2.2.2.2.2.2.2.2.2.2.2.2.2.2.2.1, .sl 4881 0 u33.2.2.2.2.2.2.2.2.2.2.2.2.2.2.2.2.2.length]) (K8p u33 u30 u9 u7 u4 u3 u2 u1 v0) false (con_laws_toWork e33) c16_.2 (by first | rfl | simp) (by simp [res_laws_toWork]) (bk hF fun u34 e34 hF => qc (.tup [.sl 4928 0 u34.1.length, AI u34.2]) ((4928, .row true 3 (u34.1.map eProblem)) :: (K8p u33 u30 u9 u7 u4 u3 u2 u1 v0)) true (con_impl_MelodyProblems e34) c17_.2 (by simp [g10, g11, g12, g13, g14, g15, g16, g17, g18, g19, g20, g21, g22, g23, g24, g25, g26, g27, g31, List.take_of_length_le]) (by simp [res_impl_MelodyProblems]) (qp (.tup [.sl 4928 0 u34.1.length, AI u34.2]) rfl (qp (.sl 4928 0 u34.1.length) rfl (qp (AI u34.2) rfl (qp (.sl 4928 0 u34.1.length) rfl (qp (AI u34.2) rfl (r_nil (w_seq (ws 5312 5888 (qp (.sl 4928 0 u34.1.length) rfl (qp (.sl 704 0 u2.1.length) rfl (bk hF fun u36 e36 hF => ?_))))))))))))))))
 refine qc (AB u36) ((4928, .row true 3 (u34.1.map eProblem)) :: (K8p u33 u30 u9 u7 u4 u3 u2 u1 v0)) true (con_laws_eqProblemS e36) c18_.2 (by simp [g10, g11, g12, g13, g14, g15, g16, g17, g18, g19, g20, g21, g22, g23, g24, g25, g26, g27, g31, List.take_of_length_le]) rfl (qp (AB (!u36)) rfl (qp (AB (!u36)) rfl ?_))
 refine q_case 83 hF rfl (fun hF => ?_) (fun hF => ?_)
 ·
  refine qn3 (qp (AB true) rfl (r_nil (w_true rfl (ws 5888 5952 (qp (AB false) rfl (r_nil (w_ret (thenQ_r ?_))))))))
  cases hF
  exact endQ_r rfl (.inl ⟨_, _, by first | rfl | (simp [List.take_of_length_le]; first | exact ⟨rfl, rfl⟩ | rfl), by simp, by first | rfl | simp [res_laws_FnExactMelodyProblems, List.take_of_length_le, g10, g11, g12, g13, g14, g15, g16, g17, g18, g19, g20, g21, g22, g23, g24, g25, g26, g27, g31]⟩)
 refine qg (AI u34.2) rfl rfl (qg (AI u2.2) rfl rfl (qg (AB (decide (u34.2 ≠ u2.2))) rfl rfl (qp (AB (decide (u34.2 ≠ u2.2))) rfl (r_nil ?_))))
 refine cF hF (fun hF => ?_) fun hF => ?_
 ·
  refine ws 5888 5952 (qp (AB false) rfl (r_nil (w_ret (thenQ_r ?_))))
  cases hF
  exact endQ_r rfl (.inl ⟨_, _, by first | rfl | (simp [List.take_of_length_le]; first | exact ⟨rfl, rfl⟩ | rfl), by simp, by first | rfl | simp [res_laws_FnExactMelodyProblems, List.take_of_length_le, g10, g11, g12, g13, g14, g15, g16, g17, g18, g19, g20, g21, g22, g23, g24, g25, g26, g27, g31]⟩)
 refine w_skip (thenQ_n (ws 5888 5952 (qp (AI 1) rfl (r_nil (ws 5952 6208 (qp (.sl 1408 0 u4.1.length) rfl (qp (AI 1) rfl (bk hF fun u37 e37 hF => qc (AI u37) ((4928, .row true 3 (u34.1.map eProblem)) :: (K8p u33 u30 u9 u7 u4 u3 u2 u1 v0)) true (con_laws_heldProblemS e37) c22_.2 (by simp [g10, g11, g12, g13, g14, g15, g16, g17, g18, g19, g20, g21, g22, g23, g24, g25, g26, g27, g31, List.take_of_length_le]) rfl (qp (AI u37) rfl (r_nil (w_seq (ws 6208 6336 (qp (AI u37) rfl (qp (AB (decide (u37 < (0 : Int)))) rfl ?_))))))))))))))
 refine r_nil ?_
 refine cF hF (fun hF => ?_) fun hF => ?_
 ·
  refine ws 6336 6400 (qp (AB false) rfl (r_nil (w_ret (thenQ_r ?_))))
  cases hF
  exact endQ_r rfl (.inl ⟨_, _, by first | rfl | (simp [List.take_of_length_le]; first | exact ⟨rfl, rfl⟩ | rfl), by simp, by first | rfl | simp [res_laws_FnExactMelodyProblems, List.take_of_length_le, g10, g11, g12, g13, g14, g15, g16, g17, g18, g19, g20, g21, g22, g23, g24, g25, g26, g27, g31]⟩)
 refine w_skip (thenQ_n (w_seq (ws 6336 6528 (qp (AI u37) rfl (qp (AI u30.2) rfl (qp (AB (decide (u37 ≠ u30.2))) rfl (r_nil ?_)))))))
 refine cF hF (fun hF => ?_) fun hF => ?_
 ·
  refine ws 6528 6592 (qp (AB false) rfl (r_nil (w_ret (thenQ_r ?_))))
  cases hF
  exact endQ_r rfl (.inl ⟨_, _, by first | rfl | (simp [List.take_of_length_le]; first | exact ⟨rfl, rfl⟩ | rfl), by simp, by first | rfl | simp [res_laws_FnExactMelodyProblems, List.take_of_length_le, g10, g11, g12, g13, g14, g15, g16, g17, g18, g19, g20, g21, g22, g23, g24, g25, g26, g27, g31]⟩)
 refine w_skip (thenQ_n (ws 6528 6592 (qp (AB true) rfl (r_nil (w_ret ?_)))))
 cases hF
 exact endQ_r rfl (.inl ⟨_, _, by first | rfl | (simp [List.take_of_length_le]; first | exact ⟨rfl, rfl⟩ | rfl), by simp, by first | rfl | simp [res_laws_FnExactMelodyProblems, List.take_of_length_le, g10, g11, g12, g13, g14, g15, g16, g17, g18, g19, g20, g21, g22, g23, g24, g25, g26, g27, g31]⟩)

end Go.Ab
