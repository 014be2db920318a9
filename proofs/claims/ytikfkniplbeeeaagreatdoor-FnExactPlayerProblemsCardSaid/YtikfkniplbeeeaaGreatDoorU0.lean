/- Walks (printed by auto.py, a program of this session's own). -/
import Derived.Test.YtikfkniplbeeeaaGreatDoorS0
import Derived.Test.YtikfkniplbeeeaaGreatDoorProg
import Derived.KernelRfl
import Derived.Test.YtikfkniplbeeeaaGreatDoorSQ
set_option linter.unusedVariables false
set_option linter.unusedSimpArgs false
set_option maxRecDepth 8000
set_option maxHeartbeats 8000000
noncomputable section
namespace Go.Ab
open Go.RowKit Go.Proofs

abbrev TRaga := (List UInt8) × (List Int) × (List Int) × Int × Int × (List (List Int))
@[simp] def eRaga (p : TRaga) : V := .agg [.str p.1, .sl 1 (p.2.1.map vI), .sl 1 (p.2.2.1.map vI), .int .i64 p.2.2.2.1, .int .i64 p.2.2.2.2.1, .sl 1 (p.2.2.2.2.2.map (eL 1 vI))]
abbrev TNote := Int × Int
@[simp] def eNote (p : TNote) : V := .agg [.int .i64 p.1, .int .i64 p.2]
abbrev TTala := (List UInt8) × (List Int) × (List Int)
@[simp] def eTala (p : TTala) : V := .agg [.str p.1, .sl 1 (p.2.1.map vI), .sl 1 (p.2.2.map vI)]
abbrev TTurn := (List UInt8) × Int × Int
@[simp] def eTurn (p : TTurn) : V := .agg [.str p.1, .int .i64 p.2.1, .int .i64 p.2.2]
abbrev TWork := (List UInt8) × (List Int) × (List Int) × Int × Int × (List (List Int)) × Int × Int × (List TNote) × (List UInt8) × (List Int) × (List Int) × Int × (List UInt8) × Int × Int × Int × (List TTurn)
@[simp] def eWork (p : TWork) : V := .agg [.str p.1, .sl 1 (p.2.1.map vI), .sl 1 (p.2.2.1.map vI), .int .i64 p.2.2.2.1, .int .i64 p.2.2.2.2.1, .sl 1 (p.2.2.2.2.2.1.map (eL 1 vI)), .int .i64 p.2.2.2.2.2.2.1, .int .i64 p.2.2.2.2.2.2.2.1, .sl 2 (p.2.2.2.2.2.2.2.2.1.map eNote), .str p.2.2.2.2.2.2.2.2.2.1, .sl 1 (p.2.2.2.2.2.2.2.2.2.2.1.map vI), .sl 1 (p.2.2.2.2.2.2.2.2.2.2.2.1.map vI), .int .i64 p.2.2.2.2.2.2.2.2.2.2.2.2.1, .str p.2.2.2.2.2.2.2.2.2.2.2.2.2.1, .int .i64 p.2.2.2.2.2.2.2.2.2.2.2.2.2.2.1, .int .i64 p.2.2.2.2.2.2.2.2.2.2.2.2.2.2.2.1, .int .i64 p.2.2.2.2.2.2.2.2.2.2.2.2.2.2.2.2.1, .sl 3 (p.2.2.2.2.2.2.2.2.2.2.2.2.2.2.2.2.2.map eTurn)]
abbrev TArc := Int × Int × Int
abbrev TGrammar := Int × Int × (List Int) × (List TArc)
@[simp] def eArc (p : TArc) : V := .agg [.int .i64 p.1, .int .i64 p.2.1, .int .i64 p.2.2]
abbrev TProblem := Int × (List UInt8) × (List UInt8)
@[simp] def eProblem (p : TProblem) : V := .agg [.int .i64 p.1, .str p.2.1, .str p.2.2]
def c34 : MC := (sr [pT 4 (.mv (ci 0))] (sr [mvt 5 1, mvt 6 0, zT 7 6, bT 8 .sub t5 t7, mvt 1 8] (.seq (sr [mvt 9 1, bT 10 .lss t9 (ci 0)] (.cond t10 (sr [pT 4 (.mv (ci (-1)))] .ret) .skip)) (sr [mvt 11 1, mvt 4 11] .ret))))
theorem c34_ : IsF Tryz.prog 34 c34 [(.tmp 4)] := ⟨by kernel_rfl, by kernel_rfl⟩

def F_laws_szInt64S (v0 : List Int) (v1 : Int) : Option (Int) :=
 (bif (decide (w64 (v1 - (v0.length : Int)) < (0 : Int))) then some (-1)
 else some (w64 (v1 - (v0.length : Int))))
@[simp] def res_laws_szInt64S (r : Int) : RV := .one (.one (.val (.int .i64 r)))
theorem con_laws_szInt64S {v0 : List Int} {v1 : Int} {r : Int} (hF : F_laws_szInt64S v0 v1 = some r) : Con Tryz.prog 34 [.sl 1 (v0.map vI), .int .i64 v1] (res_laws_szInt64S r) := by
 unfold F_laws_szInt64S at hF
 refine con_of c34_.1 fun N => ?_
 refine ws 0 64 (qp (AI 0) rfl (r_nil (ws 64 384 (qp (AI v1) rfl (qp (AL 1 (v0.map vI)) rfl (qp (AI (v0.length : Int)) (ev_len_n rfl) (qp (AI (w64 (v1 - (v0.length : Int)))) rfl (qp (AI (w64 (v1 - (v0.length : Int)))) rfl (r_nil (w_seq (ws 384 512 ?_)))))))))))
 refine qp (AI (w64 (v1 - (v0.length : Int)))) rfl (qp (AB (decide (w64 (v1 - (v0.length : Int)) < (0 : Int)))) rfl (r_nil (cF hF (fun hF => ws 512 576 (qp (AI (-1)) rfl (r_nil (w_ret (thenQ_r (eQ hF)))))) fun hF => ?_)))
 exact w_skip (thenQ_n (ws 512 640 (qp (AI (w64 (v1 - (v0.length : Int)))) rfl (qp (AI (w64 (v1 - (v0.length : Int)))) rfl (rR hF)))))

def c35 : MC := (sr [pT 4 (.mv (ci 0))] (sr [mvt 6 1, mvt 7 0, zT 8 7, bT 9 .sub t6 t8, mvt 1 9] (.seq (sr [mvt 10 1, bT 11 .lss t10 (ci 0)] (.cond t11 (sr [pT 4 (.mv (ci (-1)))] .ret) .skip)) (.seq (sr [pT 5 (.mv (ci 0))] (.block 0 (.loop (.seq (sr [mvt 12 5, mvt 13 0, zT 14 13, bT 15 .lss t12 t14] (cx t15 0)) (.seq (.block 1 (sr [mvt 18 0, mvt 19 5, iT 20 18 19 1, lT 21 20, mvt 22 1, dT 23 34 [t21, t22], mvt 1 23] (sr [mvt 24 1, bT 25 .lss t24 (ci 0)] (.cond t25 (sr [pT 4 (.mv (ci (-1)))] .ret) .skip)))) (.reg [mvt 16 5, bT 17 .add t16 (ci 1), mvt 5 17])))))) (sr [mvt 26 1, mvt 4 26] .ret)))))
theorem c35_ : IsF Tryz.prog 35 c35 [(.tmp 4)] := ⟨by kernel_rfl, by kernel_rfl⟩

def F_laws_szInt64SS_l0 (v0 : List (List Int)) (k0 : Int × Int → Option (Int)) : Int × Int → Option (Int)
 | (x2, x3) => (bif (decide (x3 < (v0.length : Int))) then ((ix v0 x3).bind fun u0 => ((F_laws_szInt64S u0 x2).bind fun u1 => (bif (decide (u1 < (0 : Int))) then some (-1)
 else k0 (u1, w64 (x3 + 1)))))
 else some x2)
def F_laws_szInt64SS (v0 : List (List Int)) (v1 : Int) : Option (Int) :=
 (bif (decide (w64 (v1 - (v0.length : Int)) < (0 : Int))) then some (-1)
 else loop (F_laws_szInt64SS_l0 v0) (w64 (v1 - (v0.length : Int)), 0))
@[simp] abbrev K1 (v0 : List (List Int)) : V := .sl 1 (v0.map (eL 1 vI))
@[simp] def res_laws_szInt64SS (r : Int) : RV := .one (.one (.val (.int .i64 r)))
theorem con_laws_szInt64SS {v0 : List (List Int)} {v1 : Int} {r : Int} (hF : F_laws_szInt64SS v0 v1 = some r) : Con Tryz.prog 35 [.sl 1 (v0.map (eL 1 vI)), .int .i64 v1] (res_laws_szInt64SS r) := by
 unfold F_laws_szInt64SS at hF
 refine con_of c35_.1 fun N => ?_
 refine ws 0 64 (qp (AI 0) rfl (r_nil (ws 64 384 (qp (AI v1) rfl (qp (.val none (K1 v0)) rfl (qp (AI (v0.length : Int)) (ev_len_n rfl) (qp (AI (w64 (v1 - (v0.length : Int)))) rfl (qp (AI (w64 (v1 - (v0.length : Int)))) rfl (r_nil (w_seq (ws 384 512 ?_)))))))))))
 refine qp (AI (w64 (v1 - (v0.length : Int)))) rfl (qp (AB (decide (w64 (v1 - (v0.length : Int)) < (0 : Int)))) rfl (r_nil (cF hF (fun hF => ws 512 576 (qp (AI (-1)) rfl (r_nil (w_ret (thenQ_r (eQ hF)))))) fun hF => ?_)))
 refine w_skip (thenQ_n (w_seq (ws 512 576 (qp (AI 0) rfl (r_nil (w_block ?_))))))
 refine wr (l' := [(0, .val none (K1 v0)), (1, AI (w64 (v1 - (v0.length : Int)))), (5, AI 0)]) (L := []) [0, 1, 5] [] 1 ?_
 refine w_loopF (F_laws_szInt64SS_l0 v0) (fun s : Int × Int => mkS [(0, .val none (K1 v0)), (1, AI s.1), (5, AI s.2)] (fo []) 1) hF ?_
 rintro k0 ⟨x2, x3⟩ hF
 rw [F_laws_szInt64SS_l0] at hF
 try dsimp only
 refine w_seq (ws 1 257 (qp (AI x3) rfl (qp (.val none (K1 v0)) rfl (qp (AI (v0.length : Int)) (ev_len_n rfl) (qp (AB (decide (x3 < (v0.length : Int)))) rfl (r_nil ?_))))))
 refine cF hF (fun hF => ?_) fun hF => ?_
 ·
  refine w_skip (thenQ_n (w_seq (w_block (ws 257 705 (qp (.val none (K1 v0)) rfl (qp (AI x3) rfl (bk hF fun u0 e0 hF => qp (.val none (.ptr [.sl 1 (u0.map vI)])) (ev_iad_n rfl rfl e0 rfl) (qp (AL 1 (u0.map vI)) rfl (qp (AI x2) rfl (bk hF fun u1 e1 hF => qC (AI u1) [] (con_laws_szInt64S e1) c34_ (qp (AI u1) rfl (r_nil (ws 705 833 (qp (AI u1) rfl (qp (AB (decide (u1 < (0 : Int)))) rfl ?_)))))))))))))))
  refine r_nil (cF hF (fun hF => ws 833 897 (qp (AI (-1)) rfl (r_nil (w_ret (blockQ_r (thenQ_r (thenQ_r (blockQ_r (thenQ_r (eQ hF)))))))))) fun hF => ?_)
  refine w_skip (blockQ_n (thenQ_n (w_reg 833 1025 rfl rfl (qp (AI x3) rfl (qp (AI (w64 (x3 + 1))) rfl (qp (AI (w64 (x3 + 1))) rfl (r_nil (thenQ_n ?_))))))))
  refine ar (l' := [(0, .val none (K1 v0)), (1, AI u1), (5, AI (w64 (x3 + 1)))]) (L := []) [0, 1, 5] [] 1 ⟨_, by rfl, hF⟩
 exact w_exit (thenQ_e (thenQ_e (blockQ_e (thenQ_n (ws 257 385 (qp (AI x2) rfl (qp (AI x2) rfl (rR hF))))))))

def c13 : MC := (sr [rg 2 (.f (.box t0)), pT 4 (.mv (ci 0))] (sr [mvt 5 1, pT 6 (.fad t2 0), lT 7 6, pT 8 (.lens t7), bT 9 .sub t5 t8, mvt 1 9] (.seq (sr [mvt 10 1, bT 11 .lss t10 (ci 0)] (.cond t11 (sr [pT 4 (.mv (ci (-1)))] .ret) .skip)) (sr [pT 12 (.fad t2 1), lT 13 12, mvt 14 1, dT 15 34 [t13, t14], mvt 1 15] (.seq (sr [mvt 16 1, bT 17 .lss t16 (ci 0)] (.cond t17 (sr [pT 4 (.mv (ci (-1)))] .ret) .skip)) (sr [pT 18 (.fad t2 2), lT 19 18, mvt 20 1, dT 21 34 [t19, t20], mvt 1 21] (.seq (sr [mvt 22 1, bT 23 .lss t22 (ci 0)] (.cond t23 (sr [pT 4 (.mv (ci (-1)))] .ret) .skip)) (sr [pT 24 (.fad t2 5), lT 25 24, mvt 26 1, dT 27 35 [t25, t26], mvt 1 27] (.seq (sr [mvt 28 1, bT 29 .lss t28 (ci 0)] (.cond t29 (sr [pT 4 (.mv (ci (-1)))] .ret) .skip)) (sr [mvt 30 1, mvt 4 30] .ret))))))))))
theorem c13_ : IsF Tryz.prog 13 c13 [(.tmp 4)] := ⟨by kernel_rfl, by kernel_rfl⟩

def F_laws_szRaga (v0 : TRaga) (v1 : Int) : Option (Int) :=
 (bif (decide (w64 (v1 - (v0.1.length : Int)) < (0 : Int))) then some (-1)
 else ((F_laws_szInt64S v0.2.1 (w64 (v1 - (v0.1.length : Int)))).bind fun u0 => (bif (decide (u0 < (0 : Int))) then some (-1)
 else ((F_laws_szInt64S v0.2.2.1 u0).bind fun u1 => (bif (decide (u1 < (0 : Int))) then some (-1)
 else ((F_laws_szInt64SS v0.2.2.2.2.2 u1).bind fun u2 => (bif (decide (u2 < (0 : Int))) then some (-1)
 else some u2)))))))
@[simp] abbrev K2 (v0 : TRaga) : List (Nat × Root) := [(0, .box [AS v0.1, AL 1 (v0.2.1.map vI), AL 1 (v0.2.2.1.map vI), AI v0.2.2.2.1, AI v0.2.2.2.2.1, AL 1 (v0.2.2.2.2.2.map (eL 1 vI))])]
@[simp] def res_laws_szRaga (r : Int) : RV := .one (.one (.val (.int .i64 r)))
theorem con_laws_szRaga {v0 : TRaga} {v1 : Int} {r : Int} (hF : F_laws_szRaga v0 v1 = some r) : Con Tryz.prog 13 [eRaga v0, .int .i64 v1] (res_laws_szRaga r) := by
 unfold F_laws_szRaga at hF
 refine con_of c13_.1 fun N => ?_
 refine ws 0 128 (qf (.ptr 0 0 0) (K2 v0) (by simp) (qp (AI 0) rfl (r_nil (ws 128 512 (qp (AI v1) rfl (qp (.ptr 0 0 0) rfl (qp (AS v0.1) rfl (qp (AI (v0.1.length : Int)) rfl (qp (AI (w64 (v1 - (v0.1.length : Int)))) rfl (qp (AI (w64 (v1 - (v0.1.length : Int)))) rfl (r_nil ?_)))))))))))
 refine w_seq (ws 512 640 (qp (AI (w64 (v1 - (v0.1.length : Int)))) rfl (qp (AB (decide (w64 (v1 - (v0.1.length : Int)) < (0 : Int)))) rfl (r_nil (cF hF (fun hF => ws 640 704 (qp (AI (-1)) rfl (r_nil (w_ret (thenQ_r (eQ hF)))))) fun hF => ?_)))))
 refine w_skip (thenQ_n (ws 640 960 (qp (.ptr 0 0 1) rfl (qp (AL 1 (v0.2.1.map vI)) rfl (qp (AI (w64 (v1 - (v0.1.length : Int)))) rfl (bk hF fun u0 e0 hF => qC (AI u0) (K2 v0) (con_laws_szInt64S e0) c34_ (qp (AI u0) rfl (r_nil (w_seq (ws 960 1088 (qp (AI u0) rfl (qp (AB (decide (u0 < (0 : Int)))) rfl (r_nil ?_)))))))))))))
 refine cF hF (fun hF => ws 1088 1152 (qp (AI (-1)) rfl (r_nil (w_ret (thenQ_r (eQ hF)))))) fun hF => ?_
 refine w_skip (thenQ_n (ws 1088 1408 (qp (.ptr 0 0 2) rfl (qp (AL 1 (v0.2.2.1.map vI)) rfl (qp (AI u0) rfl (bk hF fun u1 e1 hF => qC (AI u1) (K2 v0) (con_laws_szInt64S e1) c34_ (qp (AI u1) rfl (r_nil (w_seq (ws 1408 1536 (qp (AI u1) rfl (qp (AB (decide (u1 < (0 : Int)))) rfl (r_nil ?_)))))))))))))
 refine cF hF (fun hF => ws 1536 1600 (qp (AI (-1)) rfl (r_nil (w_ret (thenQ_r (eQ hF)))))) fun hF => ?_
 refine w_skip (thenQ_n (ws 1536 1856 (qp (.ptr 0 0 5) rfl (qp (AL 1 (v0.2.2.2.2.2.map (eL 1 vI))) rfl (qp (AI u1) rfl (bk hF fun u2 e2 hF => qC (AI u2) (K2 v0) (con_laws_szInt64SS e2) c35_ (qp (AI u2) rfl (r_nil (w_seq (ws 1856 1984 (qp (AI u2) rfl (qp (AB (decide (u2 < (0 : Int)))) rfl (r_nil ?_)))))))))))))
 refine cF hF (fun hF => ws 1984 2048 (qp (AI (-1)) rfl (r_nil (w_ret (thenQ_r (eQ hF)))))) fun hF => ?_
 exact w_skip (thenQ_n (ws 1984 2112 (qp (AI u2) rfl (qp (AI u2) rfl (rR hF)))))

def c14 : MC := (sr [pT 4 (.mv (ci 0))] (sr [mvt 5 1, mvt 6 0, zT 7 6, bT 8 .sub t5 t7, mvt 1 8] (.seq (sr [mvt 9 1, bT 10 .lss t9 (ci 0)] (.cond t10 (sr [pT 4 (.mv (ci (-1)))] .ret) .skip)) (sr [mvt 11 1, mvt 4 11] .ret))))
theorem c14_ : IsF Tryz.prog 14 c14 [(.tmp 4)] := ⟨by kernel_rfl, by kernel_rfl⟩

def F_laws_szNoteS (v0 : List TNote) (v1 : Int) : Option (Int) :=
 (bif (decide (w64 (v1 - (v0.length : Int)) < (0 : Int))) then some (-1)
 else some (w64 (v1 - (v0.length : Int))))
@[simp] def res_laws_szNoteS (r : Int) : RV := .one (.one (.val (.int .i64 r)))
theorem con_laws_szNoteS {v0 : List TNote} {v1 : Int} {r : Int} (hF : F_laws_szNoteS v0 v1 = some r) : Con Tryz.prog 14 [.sl 2 (v0.map eNote), .int .i64 v1] (res_laws_szNoteS r) := by
 unfold F_laws_szNoteS at hF
 refine con_of c14_.1 fun N => ?_
 refine ws 0 64 (qp (AI 0) rfl (r_nil (ws 64 384 (qp (AI v1) rfl (qp (AL 2 (v0.map eNote)) rfl (qp (AI (v0.length : Int)) (ev_len_n rfl) (qp (AI (w64 (v1 - (v0.length : Int)))) rfl (qp (AI (w64 (v1 - (v0.length : Int)))) rfl (r_nil (w_seq (ws 384 512 ?_)))))))))))
 refine qp (AI (w64 (v1 - (v0.length : Int)))) rfl (qp (AB (decide (w64 (v1 - (v0.length : Int)) < (0 : Int)))) rfl (r_nil (cF hF (fun hF => ws 512 576 (qp (AI (-1)) rfl (r_nil (w_ret (thenQ_r (eQ hF)))))) fun hF => ?_)))
 exact w_skip (thenQ_n (ws 512 640 (qp (AI (w64 (v1 - (v0.length : Int)))) rfl (qp (AI (w64 (v1 - (v0.length : Int)))) rfl (rR hF)))))

def c15 : MC := (sr [rg 2 (.f (.box t0)), pT 4 (.mv (ci 0))] (sr [mvt 5 1, pT 6 (.fad t2 0), lT 7 6, pT 8 (.lens t7), bT 9 .sub t5 t8, mvt 1 9] (.seq (sr [mvt 10 1, bT 11 .lss t10 (ci 0)] (.cond t11 (sr [pT 4 (.mv (ci (-1)))] .ret) .skip)) (sr [pT 12 (.fad t2 1), lT 13 12, mvt 14 1, dT 15 34 [t13, t14], mvt 1 15] (.seq (sr [mvt 16 1, bT 17 .lss t16 (ci 0)] (.cond t17 (sr [pT 4 (.mv (ci (-1)))] .ret) .skip)) (sr [pT 18 (.fad t2 2), lT 19 18, mvt 20 1, dT 21 34 [t19, t20], mvt 1 21] (.seq (sr [mvt 22 1, bT 23 .lss t22 (ci 0)] (.cond t23 (sr [pT 4 (.mv (ci (-1)))] .ret) .skip)) (sr [mvt 24 1, mvt 4 24] .ret))))))))
theorem c15_ : IsF Tryz.prog 15 c15 [(.tmp 4)] := ⟨by kernel_rfl, by kernel_rfl⟩

def F_laws_szTala (v0 : TTala) (v1 : Int) : Option (Int) :=
 (bif (decide (w64 (v1 - (v0.1.length : Int)) < (0 : Int))) then some (-1)
 else ((F_laws_szInt64S v0.2.1 (w64 (v1 - (v0.1.length : Int)))).bind fun u0 => (bif (decide (u0 < (0 : Int))) then some (-1)
 else ((F_laws_szInt64S v0.2.2 u0).bind fun u1 => (bif (decide (u1 < (0 : Int))) then some (-1)
 else some u1)))))
@[simp] abbrev K3 (v0 : TTala) : List (Nat × Root) := [(0, .box [AS v0.1, AL 1 (v0.2.1.map vI), AL 1 (v0.2.2.map vI)])]
@[simp] def res_laws_szTala (r : Int) : RV := .one (.one (.val (.int .i64 r)))
theorem con_laws_szTala {v0 : TTala} {v1 : Int} {r : Int} (hF : F_laws_szTala v0 v1 = some r) : Con Tryz.prog 15 [eTala v0, .int .i64 v1] (res_laws_szTala r) := by
 unfold F_laws_szTala at hF
 refine con_of c15_.1 fun N => ?_
 refine ws 0 128 (qf (.ptr 0 0 0) (K3 v0) (by simp) (qp (AI 0) rfl (r_nil (ws 128 512 (qp (AI v1) rfl (qp (.ptr 0 0 0) rfl (qp (AS v0.1) rfl (qp (AI (v0.1.length : Int)) rfl (qp (AI (w64 (v1 - (v0.1.length : Int)))) rfl (qp (AI (w64 (v1 - (v0.1.length : Int)))) rfl (r_nil ?_)))))))))))
 refine w_seq (ws 512 640 (qp (AI (w64 (v1 - (v0.1.length : Int)))) rfl (qp (AB (decide (w64 (v1 - (v0.1.length : Int)) < (0 : Int)))) rfl (r_nil (cF hF (fun hF => ws 640 704 (qp (AI (-1)) rfl (r_nil (w_ret (thenQ_r (eQ hF)))))) fun hF => ?_)))))
 refine w_skip (thenQ_n (ws 640 960 (qp (.ptr 0 0 1) rfl (qp (AL 1 (v0.2.1.map vI)) rfl (qp (AI (w64 (v1 - (v0.1.length : Int)))) rfl (bk hF fun u0 e0 hF => qC (AI u0) (K3 v0) (con_laws_szInt64S e0) c34_ (qp (AI u0) rfl (r_nil (w_seq (ws 960 1088 (qp (AI u0) rfl (qp (AB (decide (u0 < (0 : Int)))) rfl (r_nil ?_)))))))))))))
 refine cF hF (fun hF => ws 1088 1152 (qp (AI (-1)) rfl (r_nil (w_ret (thenQ_r (eQ hF)))))) fun hF => ?_
 refine w_skip (thenQ_n (ws 1088 1408 (qp (.ptr 0 0 2) rfl (qp (AL 1 (v0.2.2.map vI)) rfl (qp (AI u0) rfl (bk hF fun u1 e1 hF => qC (AI u1) (K3 v0) (con_laws_szInt64S e1) c34_ (qp (AI u1) rfl (r_nil (w_seq (ws 1408 1536 (qp (AI u1) rfl (qp (AB (decide (u1 < (0 : Int)))) rfl (r_nil ?_)))))))))))))
 refine cF hF (fun hF => ws 1536 1600 (qp (AI (-1)) rfl (r_nil (w_ret (thenQ_r (eQ hF)))))) fun hF => ?_
 exact w_skip (thenQ_n (ws 1536 1664 (qp (AI u1) rfl (qp (AI u1) rfl (rR hF)))))

def c36 : MC := (sr [rg 2 (.f (.box t0)), pT 4 (.mv (ci 0))] (sr [mvt 5 1, pT 6 (.fad t2 0), lT 7 6, pT 8 (.lens t7), bT 9 .sub t5 t8, mvt 1 9] (.seq (sr [mvt 10 1, bT 11 .lss t10 (ci 0)] (.cond t11 (sr [pT 4 (.mv (ci (-1)))] .ret) .skip)) (sr [mvt 12 1, mvt 4 12] .ret))))
theorem c36_ : IsF Tryz.prog 36 c36 [(.tmp 4)] := ⟨by kernel_rfl, by kernel_rfl⟩

def F_laws_szTurn (v0 : TTurn) (v1 : Int) : Option (Int) :=
 (bif (decide (w64 (v1 - (v0.1.length : Int)) < (0 : Int))) then some (-1)
 else some (w64 (v1 - (v0.1.length : Int))))
@[simp] abbrev K4 (v1 : Int) (v0 : TTurn) : AV := AI (w64 (v1 - (v0.1.length : Int)))
@[simp] def res_laws_szTurn (r : Int) : RV := .one (.one (.val (.int .i64 r)))
theorem con_laws_szTurn {v0 : TTurn} {v1 : Int} {r : Int} (hF : F_laws_szTurn v0 v1 = some r) : Con Tryz.prog 36 [eTurn v0, .int .i64 v1] (res_laws_szTurn r) := by
 unfold F_laws_szTurn at hF
 refine con_of c36_.1 fun N => ?_
 refine ws 0 128 (qf (.ptr 0 0 0) [(0, .box [AS v0.1, AI v0.2.1, AI v0.2.2])] (by simp) (qp (AI 0) rfl (r_nil (ws 128 512 (qp (AI v1) rfl (qp (.ptr 0 0 0) rfl (qp (AS v0.1) rfl (qp (AI (v0.1.length : Int)) rfl (qp (K4 v1 v0) rfl (qp (K4 v1 v0) rfl (r_nil (w_seq (ws 512 640 ?_)))))))))))))
 refine qp (K4 v1 v0) rfl (qp (AB (decide (w64 (v1 - (v0.1.length : Int)) < (0 : Int)))) rfl (r_nil (cF hF (fun hF => ws 640 704 (qp (AI (-1)) rfl (r_nil (w_ret (thenQ_r (eQ hF)))))) fun hF => ?_)))
 exact w_skip (thenQ_n (ws 640 768 (qp (K4 v1 v0) rfl (qp (K4 v1 v0) rfl (rR hF)))))

def c16 : MC := (sr [pT 4 (.mv (ci 0))] (sr [mvt 6 1, mvt 7 0, zT 8 7, bT 9 .sub t6 t8, mvt 1 9] (.seq (sr [mvt 10 1, bT 11 .lss t10 (ci 0)] (.cond t11 (sr [pT 4 (.mv (ci (-1)))] .ret) .skip)) (.seq (sr [pT 5 (.mv (ci 0))] (.block 0 (.loop (.seq (sr [mvt 12 5, mvt 13 0, zT 14 13, bT 15 .lss t12 t14] (cx t15 0)) (.seq (.block 1 (sr [mvt 18 0, mvt 19 5, iT 20 18 19 3, pT 21 (.ld t20 3 true), mvt 22 1, dT 23 36 [t21, t22], mvt 1 23] (sr [mvt 24 1, bT 25 .lss t24 (ci 0)] (.cond t25 (sr [pT 4 (.mv (ci (-1)))] .ret) .skip)))) (.reg [mvt 16 5, bT 17 .add t16 (ci 1), mvt 5 17])))))) (sr [mvt 26 1, mvt 4 26] .ret)))))
theorem c16_ : IsF Tryz.prog 16 c16 [(.tmp 4)] := ⟨by kernel_rfl, by kernel_rfl⟩

def F_laws_szTurnS_l0 (v0 : List TTurn) (k0 : Int × Int → Option (Int)) : Int × Int → Option (Int)
 | (x2, x3) => (bif (decide (x3 < (v0.length : Int))) then ((ix v0 x3).bind fun u0 => ((F_laws_szTurn u0 x2).bind fun u1 => (bif (decide (u1 < (0 : Int))) then some (-1)
 else k0 (u1, w64 (x3 + 1)))))
 else some x2)
def F_laws_szTurnS (v0 : List TTurn) (v1 : Int) : Option (Int) :=
 (bif (decide (w64 (v1 - (v0.length : Int)) < (0 : Int))) then some (-1)
 else loop (F_laws_szTurnS_l0 v0) (w64 (v1 - (v0.length : Int)), 0))
@[simp] def res_laws_szTurnS (r : Int) : RV := .one (.one (.val (.int .i64 r)))
theorem con_laws_szTurnS {v0 : List TTurn} {v1 : Int} {r : Int} (hF : F_laws_szTurnS v0 v1 = some r) : Con Tryz.prog 16 [.sl 3 (v0.map eTurn), .int .i64 v1] (res_laws_szTurnS r) := by
 unfold F_laws_szTurnS at hF
 refine con_of c16_.1 fun N => ?_
 refine ws 0 64 (qp (AI 0) rfl (r_nil (ws 64 384 (qp (AI v1) rfl (qp (AL 3 (v0.map eTurn)) rfl (qp (AI (v0.length : Int)) (ev_len_n rfl) (qp (AI (w64 (v1 - (v0.length : Int)))) rfl (qp (AI (w64 (v1 - (v0.length : Int)))) rfl (r_nil (w_seq (ws 384 512 ?_)))))))))))
 refine qp (AI (w64 (v1 - (v0.length : Int)))) rfl (qp (AB (decide (w64 (v1 - (v0.length : Int)) < (0 : Int)))) rfl (r_nil (cF hF (fun hF => ws 512 576 (qp (AI (-1)) rfl (r_nil (w_ret (thenQ_r (eQ hF)))))) fun hF => ?_)))
 refine w_skip (thenQ_n (w_seq (ws 512 576 (qp (AI 0) rfl (r_nil (w_block ?_))))))
 refine wr (l' := [(0, AL 3 (v0.map eTurn)), (1, AI (w64 (v1 - (v0.length : Int)))), (5, AI 0)]) (L := []) [0, 1, 5] [] 1 ?_
 refine w_loopF (F_laws_szTurnS_l0 v0) (fun s : Int × Int => mkS [(0, AL 3 (v0.map eTurn)), (1, AI s.1), (5, AI s.2)] (fo []) 1) hF ?_
 rintro k0 ⟨x2, x3⟩ hF
 rw [F_laws_szTurnS_l0] at hF
 try dsimp only
 refine w_seq (ws 1 257 (qp (AI x3) rfl (qp (AL 3 (v0.map eTurn)) rfl (qp (AI (v0.length : Int)) (ev_len_n rfl) (qp (AB (decide (x3 < (v0.length : Int)))) rfl (r_nil ?_))))))
 refine cF hF (fun hF => ?_) fun hF => ?_
 ·
  refine w_skip (thenQ_n (w_seq (w_block (ws 257 705 (qp (AL 3 (v0.map eTurn)) rfl (qp (AI x3) rfl (bk hF fun u0 e0 hF => qp (.val none (.ptr [.str u0.1, .int .i64 u0.2.1, .int .i64 u0.2.2])) (ev_iad_n rfl rfl e0 rfl) (qp (.val none (eTurn u0)) rfl (qp (AI x2) rfl (bk hF fun u1 e1 hF => qC (AI u1) [] (con_laws_szTurn e1) c36_ (qp (AI u1) rfl (r_nil (ws 705 833 (qp (AI u1) rfl (qp (AB (decide (u1 < (0 : Int)))) rfl ?_)))))))))))))))
  refine r_nil (cF hF (fun hF => ws 833 897 (qp (AI (-1)) rfl (r_nil (w_ret (blockQ_r (thenQ_r (thenQ_r (blockQ_r (thenQ_r (eQ hF)))))))))) fun hF => ?_)
  refine w_skip (blockQ_n (thenQ_n (w_reg 833 1025 rfl rfl (qp (AI x3) rfl (qp (AI (w64 (x3 + 1))) rfl (qp (AI (w64 (x3 + 1))) rfl (r_nil (thenQ_n ?_))))))))
  refine ar (l' := [(0, AL 3 (v0.map eTurn)), (1, AI u1), (5, AI (w64 (x3 + 1)))]) (L := []) [0, 1, 5] [] 1 ⟨_, by rfl, hF⟩
 exact w_exit (thenQ_e (thenQ_e (blockQ_e (thenQ_n (ws 257 385 (qp (AI x2) rfl (qp (AI x2) rfl (rR hF))))))))

def c4 : MC := (sr [rg 2 (.f (.box t0)), pT 4 (.mv (ci 0))] (sr [pT 5 (.fad t2 0), pT 6 (.ld t5 6 true), mvt 7 1, dT 8 13 [t6, t7], mvt 1 8] (.seq (sr [mvt 9 1, bT 10 .lss t9 (ci 0)] (.cond t10 (sr [pT 4 (.mv (ci (-1)))] .ret) .skip)) (sr [pT 11 (.fad t2 8), lT 12 11, mvt 13 1, dT 14 14 [t12, t13], mvt 1 14] (.seq (sr [mvt 15 1, bT 16 .lss t15 (ci 0)] (.cond t16 (sr [pT 4 (.mv (ci (-1)))] .ret) .skip)) (sr [pT 17 (.fad t2 9), pT 18 (.ld t17 3 true), mvt 19 1, dT 20 15 [t18, t19], mvt 1 20] (.seq (sr [mvt 21 1, bT 22 .lss t21 (ci 0)] (.cond t22 (sr [pT 4 (.mv (ci (-1)))] .ret) .skip)) (sr [mvt 23 1, pT 24 (.fad t2 13), lT 25 24, pT 26 (.lens t25), bT 27 .sub t23 t26, mvt 1 27] (.seq (sr [mvt 28 1, bT 29 .lss t28 (ci 0)] (.cond t29 (sr [pT 4 (.mv (ci (-1)))] .ret) .skip)) (sr [pT 30 (.fad t2 17), lT 31 30, mvt 32 1, dT 33 16 [t31, t32], mvt 1 33] (.seq (sr [mvt 34 1, bT 35 .lss t34 (ci 0)] (.cond t35 (sr [pT 4 (.mv (ci (-1)))] .ret) .skip)) (sr [mvt 36 1, mvt 4 36] .ret))))))))))))
theorem c4_ : IsF Tryz.prog 4 c4 [(.tmp 4)] := ⟨by kernel_rfl, by kernel_rfl⟩

def F_laws_szWork (v0 : TWork) (v1 : Int) : Option (Int) :=
 ((F_laws_szRaga (v0.1, v0.2.1, v0.2.2.1, v0.2.2.2.1, v0.2.2.2.2.1, v0.2.2.2.2.2.1) v1).bind fun u0 => (bif (decide (u0 < (0 : Int))) then some (-1)
 else ((F_laws_szNoteS v0.2.2.2.2.2.2.2.2.1 u0).bind fun u1 => (bif (decide (u1 < (0 : Int))) then some (-1)
 else ((F_laws_szTala (v0.2.2.2.2.2.2.2.2.2.1, v0.2.2.2.2.2.2.2.2.2.2.1, v0.2.2.2.2.2.2.2.2.2.2.2.1) u1).bind fun u2 => (bif (decide (u2 < (0 : Int))) then some (-1)
 else (bif (decide (w64 (u2 - (v0.2.2.2.2.2.2.2.2.2.2.2.2.2.1.length : Int)) < (0 : Int))) then some (-1)
 else ((F_laws_szTurnS v0.2.2.2.2.2.2.2.2.2.2.2.2.2.2.2.2.2 (w64 (u2 - (v0.2.2.2.2.2.2.2.2.2.2.2.2.2.1.length : Int)))).bind fun u3 => (bif (decide (u3 < (0 : Int))) then some (-1)
 else some u3)))))))))
@[simp] abbrev K5 (v0 : TWork) : List (Nat × Root) := [(0, .box [AS v0.1, AL 1 (v0.2.1.map vI), AL 1 (v0.2.2.1.map vI), AI v0.2.2.2.1, AI v0.2.2.2.2.1, AL 1 (v0.2.2.2.2.2.1.map (eL 1 vI)), AI v0.2.2.2.2.2.2.1, AI v0.2.2.2.2.2.2.2.1, AL 2 (v0.2.2.2.2.2.2.2.2.1.map eNote), AS v0.2.2.2.2.2.2.2.2.2.1, AL 1 (v0.2.2.2.2.2.2.2.2.2.2.1.map vI), AL 1 (v0.2.2.2.2.2.2.2.2.2.2.2.1.map vI), AI v0.2.2.2.2.2.2.2.2.2.2.2.2.1, AS v0.2.2.2.2.2.2.2.2.2.2.2.2.2.1, AI v0.2.2.2.2.2.2.2.2.2.2.2.2.2.2.1, AI v0.2.2.2.2.2.2.2.2.2.2.2.2.2.2.2.1, AI v0.2.2.2.2.2.2.2.2.2.2.2.2.2.2.2.2.1, AL 3 (v0.2.2.2.2.2.2.2.2.2.2.2.2.2.2.2.2.2.map eTurn)])]
@[simp] abbrev K6 (u2 : Int) (v0 : TWork) : AV := AI (w64 (u2 - (v0.2.2.2.2.2.2.2.2.2.2.2.2.2.1.length : Int)))
@[simp] def res_laws_szWork (r : Int) : RV := .one (.one (.val (.int .i64 r)))
theorem con_laws_szWork {v0 : TWork} {v1 : Int} {r : Int} (hF : F_laws_szWork v0 v1 = some r) : Con Tryz.prog 4 [eWork v0, .int .i64 v1] (res_laws_szWork r) := by
 unfold F_laws_szWork at hF
 refine con_of c4_.1 fun N => ?_
 refine ws 0 128 (qf (.ptr 0 0 0) (K5 v0) (by simp) (qp (AI 0) rfl (r_nil (ws 128 448 (qp (.ptr 0 0 0) rfl (qp (.agg [AS v0.1, AL 1 (v0.2.1.map vI), AL 1 (v0.2.2.1.map vI), AI v0.2.2.2.1, AI v0.2.2.2.2.1, AL 1 (v0.2.2.2.2.2.1.map (eL 1 vI))]) rfl (qp (AI v1) rfl (bk hF fun u0 e0 hF => qC (AI u0) (K5 v0) (con_laws_szRaga e0) c13_ (qp (AI u0) rfl (r_nil (w_seq (ws 448 576 (qp (AI u0) rfl (qp (AB (decide (u0 < (0 : Int)))) rfl ?_))))))))))))))
 refine r_nil (cF hF (fun hF => ws 576 640 (qp (AI (-1)) rfl (r_nil (w_ret (thenQ_r (eQ hF)))))) fun hF => ?_)
 refine w_skip (thenQ_n (ws 576 896 (qp (.ptr 0 0 8) rfl (qp (AL 2 (v0.2.2.2.2.2.2.2.2.1.map eNote)) rfl (qp (AI u0) rfl (bk hF fun u1 e1 hF => qC (AI u1) (K5 v0) (con_laws_szNoteS e1) c14_ (qp (AI u1) rfl (r_nil (w_seq (ws 896 1024 (qp (AI u1) rfl (qp (AB (decide (u1 < (0 : Int)))) rfl (r_nil ?_)))))))))))))
 refine cF hF (fun hF => ws 1024 1088 (qp (AI (-1)) rfl (r_nil (w_ret (thenQ_r (eQ hF)))))) fun hF => ?_
 refine w_skip (thenQ_n (ws 1024 1344 (qp (.ptr 0 0 9) rfl (qp (.agg [AS v0.2.2.2.2.2.2.2.2.2.1, AL 1 (v0.2.2.2.2.2.2.2.2.2.2.1.map vI), AL 1 (v0.2.2.2.2.2.2.2.2.2.2.2.1.map vI)]) rfl (qp (AI u1) rfl (bk hF fun u2 e2 hF => qC (AI u2) (K5 v0) (con_laws_szTala e2) c15_ (qp (AI u2) rfl (r_nil (w_seq (ws 1344 1472 (qp (AI u2) rfl (qp (AB (decide (u2 < (0 : Int)))) rfl (r_nil ?_)))))))))))))
 refine cF hF (fun hF => ws 1472 1536 (qp (AI (-1)) rfl (r_nil (w_ret (thenQ_r (eQ hF)))))) fun hF => ?_
 refine w_skip (thenQ_n (ws 1472 1856 (qp (AI u2) rfl (qp (.ptr 0 0 13) rfl (qp (AS v0.2.2.2.2.2.2.2.2.2.2.2.2.2.1) rfl (qp (AI (v0.2.2.2.2.2.2.2.2.2.2.2.2.2.1.length : Int)) rfl (qp (K6 u2 v0) rfl (qp (K6 u2 v0) rfl (r_nil (w_seq (ws 1856 1984 ?_)))))))))))
 refine qp (K6 u2 v0) rfl (qp (AB (decide (w64 (u2 - (v0.2.2.2.2.2.2.2.2.2.2.2.2.2.1.length : Int)) < (0 : Int)))) rfl (r_nil (cF hF (fun hF => ws 1984 2048 (qp (AI (-1)) rfl (r_nil (w_ret (thenQ_r (eQ hF)))))) fun hF => ?_)))
 refine w_skip (thenQ_n (ws 1984 2304 (qp (.ptr 0 0 17) rfl (qp (AL 3 (v0.2.2.2.2.2.2.2.2.2.2.2.2.2.2.2.2.2.map eTurn)) rfl (qp (K6 u2 v0) rfl (bk hF fun u3 e3 hF => qC (AI u3) (K5 v0) (con_laws_szTurnS e3) c16_ (qp (AI u3) rfl (r_nil (w_seq (ws 2304 2432 (qp (AI u3) rfl (qp (AB (decide (u3 < (0 : Int)))) rfl (r_nil ?_)))))))))))))
 refine cF hF (fun hF => ws 2432 2496 (qp (AI (-1)) rfl (r_nil (w_ret (thenQ_r (eQ hF)))))) fun hF => ?_
 exact w_skip (thenQ_n (ws 2432 2560 (qp (AI u3) rfl (qp (AI u3) rfl (rR hF)))))

def c41 : MC := (sr [rg 2 (.f (.nilrow 1))] (sr [mvt 5 0, zT 6 5, rg 7 (.f (.mks 1 8 (.int .i64 0) t6 t6)), mvt 3 7] (.seq (sr [pT 4 (.mv (ci 0))] (.block 0 (.loop (.seq (sr [mvt 8 4, mvt 9 0, zT 10 9, bT 11 .lss t8 t10] (cx t11 0)) (.seq (.block 1 (.reg [mvt 14 3, mvt 15 4, mvt 16 0, mvt 17 4, iT 18 16 17 1, lT 19 18, iT 20 14 15 1, ⟨none, none, (.f (.st t20 t19 1))⟩])) (.reg [mvt 12 4, bT 13 .add t12 (ci 1), mvt 4 13])))))) (sr [mvt 21 3, mvt 2 21] .ret))))
theorem c41_ : IsF Tryz.prog 41 c41 [(.tmp 2)] := ⟨by kernel_rfl, by kernel_rfl⟩

def F_laws_toInt64S_l0 (v0 : List Int) (k1 : Int × (List Int) → Option (List Int)) : Int × (List Int) → Option (List Int)
 | (x6, x7) => (bif (decide (x6 < (v0.length : Int))) then ((ix v0 x6).bind fun u5 => ((ix x7 x6).bind fun u6 => k1 (w64 (x6 + 1), List.set x7 x6.toNat u5)))
 else some x7)
def F_laws_toInt64S (v0 : List Int) : Option (List Int) :=
 (need (0 ≤ (v0.length : Int) ∧ (v0.length : Int) ≤ (v0.length : Int) ∧ (v0.length : Int) ≤ 9223372036854775807 ∧ 8 * (v0.length : Int) ≤ 281474976710656) (loop (F_laws_toInt64S_l0 v0) (0, List.replicate ((v0.length : Int)).toNat (0 : Int))))
@[simp] abbrev K7 : List (Nat × Root) := [(0, .row true 1 (([] : List Int).map vI))]
@[simp] abbrev K8 (v0 : List Int) : V := .sl 1 (v0.map vI)
@[simp] def res_laws_toInt64S (r : List Int) : RV := .one (.one (.row true 1 (r.map vI)))
theorem con_laws_toInt64S {v0 : List Int} {r : List Int} (hF : F_laws_toInt64S v0 = some r) : Con Tryz.prog 41 [.sl 1 (v0.map vI)] (res_laws_toInt64S r) := by
 unfold F_laws_toInt64S at hF
 refine con_of c41_.1 fun N => ?_
 refine ws 0 64 (qf (.sl 0 0 0) K7 (by simp) (r_nil (ws 64 320 (qp (.val none (K8 v0)) rfl (qp (AI (v0.length : Int)) (ev_len_n rfl) (nk hF fun g0 hF => qf (.sl 192 0 ((List.replicate ((v0.length : Int)).toNat (0 : Int)).length)) ((192, .row true 1 ((List.replicate ((v0.length : Int)).toNat (0 : Int)).map vI)) :: K7) (effT_mks rfl rfl g0 rfl) (qp (.sl 192 0 ((List.replicate ((v0.length : Int)).toNat (0 : Int)).length)) rfl (r_nil (w_seq (ws 320 384 (qp (AI 0) rfl (r_nil (w_block ?_)))))))))))))
 refine wr (l' := [(0, .val none (K8 v0)), (3, .sl 0 0 (List.replicate ((v0.length : Int)).toNat (0 : Int)).length), (4, AI 0)]) (L := [(0, .row true 1 ((List.replicate ((v0.length : Int)).toNat (0 : Int)).map vI))]) [0, 3, 4] [(192, 0)] 1 ?_
 refine w_loopF (F_laws_toInt64S_l0 v0) (fun s : Int × (List Int) => mkS [(0, .val none (K8 v0)), (3, .sl 0 0 s.2.length), (4, AI s.1)] (fo [(0, .row true 1 (s.2.map vI))]) 1) hF ?_
 rintro k1 ⟨x6, x7⟩ hF
 rw [F_laws_toInt64S_l0] at hF
 try dsimp only
 refine w_seq (ws 1 257 (qp (AI x6) rfl (qp (.val none (K8 v0)) rfl (qp (AI (v0.length : Int)) (ev_len_n rfl) (qp (AB (decide (x6 < (v0.length : Int)))) rfl (r_nil ?_))))))
 refine cF hF (fun hF => ?_) fun hF => ?_
 ·
  refine w_skip (thenQ_n (w_seq (w_block (w_reg 257 769 rfl rfl (qp (.sl 0 0 x7.length) rfl (qp (AI x6) rfl (qp (.val none (K8 v0)) rfl (qp (AI x6) rfl (bk hF fun u5 e5 hF => qp (.val none (.ptr [.int .i64 u5])) (ev_iad_n rfl rfl e5 rfl) (qp (AI u5) rfl (bk hF fun u6 e6 hF => qp (.ptr 0 x6.toNat 0) (ev_iad_r rfl (by simp) rfl rfl e6) (qf0 (.undef) [(0, .row true 1 ((List.set x7 x6.toNat u5).map vI)), (0, .row true 1 (x7.map vI))] (effT_st rfl rfl (ix_some e6).2 rfl rfl (by rfl) (by first | rfl | simp [patch, reb, List.take_of_length_le]) (by rfl) rfl) (r_nil (blockQ_n (thenQ_n ?_)))))))))))))))
  refine w_reg 769 961 rfl rfl (qp (AI x6) rfl (qp (AI (w64 (x6 + 1))) rfl (qp (AI (w64 (x6 + 1))) rfl (r_nil (thenQ_n ?_)))))
  refine ar (l' := [(0, .val none (K8 v0)), (3, .sl 0 0 (List.set x7 x6.toNat u5).length), (4, AI (w64 (x6 + 1)))]) (L := [(0, .row true 1 ((List.set x7 x6.toNat u5).map vI))]) [0, 3, 4] [(0, 0)] 1 ⟨_, by rfl, hF⟩
 exact w_exit (thenQ_e (thenQ_e (blockQ_e (thenQ_n (ws 257 385 (qp (.sl 0 0 x7.length) rfl (qp (.sl 0 0 x7.length) rfl (rR hF))))))))

def c42 : MC := (sr [rg 2 (.f (.nilrow 1))] (sr [mvt 5 0, zT 6 5, rg 7 (.f (.mks 1 24 (.sl 1 []) t6 t6)), mvt 3 7] (.seq (sr [pT 4 (.mv (ci 0))] (.block 0 (.loop (.seq (sr [mvt 8 4, mvt 9 0, zT 10 9, bT 11 .lss t8 t10] (cx t11 0)) (.seq (.block 1 (.reg [mvt 14 3, mvt 15 4, mvt 16 0, mvt 17 4, iT 18 16 17 1, lT 19 18, dT 20 41 [t19], iT 21 14 15 1, ⟨none, none, (.f (.st t21 t20 1))⟩])) (.reg [mvt 12 4, bT 13 .add t12 (ci 1), mvt 4 13])))))) (sr [mvt 22 3, mvt 2 22] .ret))))
theorem c42_ : IsF Tryz.prog 42 c42 [(.tmp 2)] := ⟨by kernel_rfl, by kernel_rfl⟩

def F_laws_toInt64SS_l0 (v0 : List (List Int)) (k1 : Int × (List (List Int)) → Option (List (List Int))) : Int × (List (List Int)) → Option (List (List Int))
 | (x6, x7) => (bif (decide (x6 < (v0.length : Int))) then ((ix v0 x6).bind fun u7 => ((F_laws_toInt64S u7).bind fun u8 => ((ix x7 x6).bind fun u9 => k1 (w64 (x6 + 1), List.set x7 x6.toNat u8))))
 else some x7)
def F_laws_toInt64SS (v0 : List (List Int)) : Option (List (List Int)) :=
 (need (0 ≤ (v0.length : Int) ∧ (v0.length : Int) ≤ (v0.length : Int) ∧ (v0.length : Int) ≤ 9223372036854775807 ∧ 24 * (v0.length : Int) ≤ 281474976710656) (loop (F_laws_toInt64SS_l0 v0) (0, List.replicate ((v0.length : Int)).toNat ([] : List Int))))
@[simp] abbrev K9 : List (Nat × Root) := [(0, .row true 1 (([] : List Int).map vI))]
@[simp] abbrev K0a (u8 : List Int) (x7 : List (List Int)) : List (Nat × Root) := [(641, .row true 1 (u8.map vI)), (0, .row true 1 (x7.map (eL 1 vI)))]
@[simp] abbrev K0b (v0 : List (List Int)) : V := .sl 1 (v0.map (eL 1 vI))
@[simp] def res_laws_toInt64SS (r : List (List Int)) : RV := .one (.one (.row true 1 (r.map (eL 1 vI))))
theorem con_laws_toInt64SS {v0 : List (List Int)} {r : List (List Int)} (hF : F_laws_toInt64SS v0 = some r) : Con Tryz.prog 42 [.sl 1 (v0.map (eL 1 vI))] (res_laws_toInt64SS r) := by
 unfold F_laws_toInt64SS at hF
 refine con_of c42_.1 fun N => ?_
 refine ws 0 64 (qf (.sl 0 0 0) K9 (by simp) (r_nil (ws 64 320 (qp (.val none (K0b v0)) rfl (qp (AI (v0.length : Int)) (ev_len_n rfl) (nk hF fun g0 hF => qf (.sl 192 0 ((List.replicate ((v0.length : Int)).toNat ([] : List Int)).length)) ((192, .row true 1 ((List.replicate ((v0.length : Int)).toNat ([] : List Int)).map (eL 1 vI))) :: K9) (effT_mks rfl rfl g0 rfl) (qp (.sl 192 0 ((List.replicate ((v0.length : Int)).toNat ([] : List Int)).length)) rfl (r_nil (w_seq (ws 320 384 (qp (AI 0) rfl (r_nil (w_block ?_)))))))))))))
 refine wr (l' := [(0, .val none (K0b v0)), (3, .sl 0 0 (List.replicate ((v0.length : Int)).toNat ([] : List Int)).length), (4, AI 0)]) (L := [(0, .row true 1 ((List.replicate ((v0.length : Int)).toNat ([] : List Int)).map (eL 1 vI)))]) [0, 3, 4] [(192, 0)] 1 ?_
 refine w_loopF (F_laws_toInt64SS_l0 v0) (fun s : Int × (List (List Int)) => mkS [(0, .val none (K0b v0)), (3, .sl 0 0 s.2.length), (4, AI s.1)] (fo [(0, .row true 1 (s.2.map (eL 1 vI)))]) 1) hF ?_
 rintro k1 ⟨x6, x7⟩ hF
 rw [F_laws_toInt64SS_l0] at hF
 try dsimp only
 refine w_seq (ws 1 257 (qp (AI x6) rfl (qp (.val none (K0b v0)) rfl (qp (AI (v0.length : Int)) (ev_len_n rfl) (qp (AB (decide (x6 < (v0.length : Int)))) rfl (r_nil ?_))))))
 refine cF hF (fun hF => ?_) fun hF => ?_
 ·
  refine w_skip (thenQ_n (w_seq (w_block (w_reg 257 833 rfl rfl (qp (.sl 0 0 x7.length) rfl (qp (AI x6) rfl (qp (.val none (K0b v0)) rfl (qp (AI x6) rfl (bk hF fun u7 e7 hF => qp (.val none (.ptr [.sl 1 (u7.map vI)])) (ev_iad_n rfl rfl e7 rfl) (qp (AL 1 (u7.map vI)) rfl (bk hF fun u8 e8 hF => qc (.sl 641 0 u8.length) (K0a u8 x7) false (con_laws_toInt64S e8) c41_.2 (by first | rfl | simp) (by simp [res_laws_toInt64S]) (bk hF fun u9 e9 hF => qp (.ptr 0 x6.toNat 0) (ev_iad_r rfl (by simp) rfl rfl e9) (qf0 (.undef) ((0, .row true 1 ((List.set x7 x6.toNat u8).map (eL 1 vI))) :: (641, .dead) :: (K0a u8 x7)) (effT_st rfl rfl (ix_some e9).2 rfl rfl (by rfl) (by first | rfl | simp [patch, reb, List.take_of_length_le]) (by rfl) rfl) (r_nil (blockQ_n (thenQ_n ?_))))))))))))))))
  refine w_reg 833 1025 rfl rfl (qp (AI x6) rfl (qp (AI (w64 (x6 + 1))) rfl (qp (AI (w64 (x6 + 1))) rfl (r_nil (thenQ_n ?_)))))
  refine ar (l' := [(0, .val none (K0b v0)), (3, .sl 0 0 (List.set x7 x6.toNat u8).length), (4, AI (w64 (x6 + 1)))]) (L := [(0, .row true 1 ((List.set x7 x6.toNat u8).map (eL 1 vI)))]) [0, 3, 4] [(0, 0)] 1 ⟨_, by rfl, hF⟩
 exact w_exit (thenQ_e (thenQ_e (blockQ_e (thenQ_n (ws 257 385 (qp (.sl 0 0 x7.length) rfl (qp (.sl 0 0 x7.length) rfl (rR hF))))))))

def c18 : MC := (sr [rg 1 (.f (.box t0)), rg 2 (.f (.alloc [((.str []), (0, false)), ((.sl 0 []), (1, false)), ((.sl 0 []), (1, false)), ((.int .i64 0), (0, false)), ((.int .i64 0), (0, false)), ((.sl 0 []), (1, false))]))] (sr [rg 3 (.f (.alloc [((.str []), (0, false)), ((.sl 0 []), (1, false)), ((.sl 0 []), (1, false)), ((.int .i64 0), (0, false)), ((.int .i64 0), (0, false)), ((.sl 0 []), (1, false))]))] (sr [pT 4 (.fad t1 0), lT 5 4, pT 6 (.fad t3 0), ⟨none, none, (.f (.st t6 t5 1))⟩] (sr [pT 7 (.fad t1 1), lT 8 7, dT 9 41 [t8], pT 10 (.fad t3 1), ⟨none, none, (.f (.st t10 t9 1))⟩] (sr [pT 11 (.fad t1 2), lT 12 11, dT 13 41 [t12], pT 14 (.fad t3 2), ⟨none, none, (.f (.st t14 t13 1))⟩] (sr [pT 15 (.fad t1 3), lT 16 15, pT 17 (.fad t3 3), ⟨none, none, (.f (.st t17 t16 1))⟩] (sr [pT 18 (.fad t1 4), lT 19 18, pT 20 (.fad t3 4), ⟨none, none, (.f (.st t20 t19 1))⟩] (sr [pT 21 (.fad t1 5), lT 22 21, dT 23 42 [t22], pT 24 (.fad t3 5), ⟨none, none, (.f (.st t24 t23 1))⟩] (sr [pT 25 (.ld t3 6 true), ⟨none, none, (.f (.st t2 t25 6))⟩] .ret)))))))))
theorem c18_ : IsF Tryz.prog 18 c18 [(.cell (.ld (.t 2) 6 true))] := ⟨by kernel_rfl, by kernel_rfl⟩

def F_laws_toRaga (v0 : TRaga) : Option (TRaga) :=
 ((F_laws_toInt64S v0.2.1).bind fun u0 => ((F_laws_toInt64S v0.2.2.1).bind fun u1 => ((F_laws_toInt64SS v0.2.2.2.2.2).bind fun u2 => some (v0.1, u0, u1, v0.2.2.2.1, v0.2.2.2.2.1, u2))))
@[simp] abbrev K0c (v0 : TRaga) : List (Nat × Root) := [(0, .box [AS v0.1, AL 1 (v0.2.1.map vI), AL 1 (v0.2.2.1.map vI), AI v0.2.2.2.1, AI v0.2.2.2.2.1, AL 1 (v0.2.2.2.2.2.map (eL 1 vI))])]
@[simp] abbrev K0d (v0 : TRaga) : List (Nat × Root) := ((64, .box [AS [], .sl 65 0 0, .sl 66 0 0, AI 0, AI 0, .sl 67 0 0]) :: (67, .row true 1 (([] : List Int).map vI)) :: (66, .row true 1 (([] : List Int).map vI)) :: (65, .row true 1 (([] : List Int).map vI)) :: (K0c v0))
@[simp] abbrev K0e (v0 : TRaga) : List (Nat × Root) := ((128, .box [AS [], .sl 129 0 0, .sl 130 0 0, AI 0, AI 0, .sl 131 0 0]) :: (131, .row true 1 (([] : List Int).map vI)) :: (130, .row true 1 (([] : List Int).map vI)) :: (129, .row true 1 (([] : List Int).map vI)) :: (K0d v0))
@[simp] abbrev K0f (v0 : TRaga) : List (Nat × Root) := ((128, .box [AS v0.1, .sl 129 0 0, .sl 130 0 0, AI 0, AI 0, .sl 131 0 0]) :: (K0e v0))
@[simp] abbrev K0g (u0 : List Int) (v0 : TRaga) : List (Nat × Root) := ((576, .row true 1 (u0.map vI)) :: (K0f v0))
@[simp] abbrev K0h (v0 : TRaga) (u0 : List Int) : List (Nat × Root) := ((128, .box [AS v0.1, .sl 576 0 u0.length, .sl 130 0 0, AI 0, AI 0, .sl 131 0 0]) :: (K0g u0 v0))
@[simp] abbrev K0i (u1 : List Int) (v0 : TRaga) (u0 : List Int) : List (Nat × Root) := ((896, .row true 1 (u1.map vI)) :: (K0h v0 u0))
@[simp] abbrev K0j (v0 : TRaga) (u0 : List Int) (u1 : List Int) : List (Nat × Root) := ((128, .box [AS v0.1, .sl 576 0 u0.length, .sl 896 0 u1.length, AI 0, AI 0, .sl 131 0 0]) :: (K0i u1 v0 u0))
@[simp] abbrev K0k (v0 : TRaga) (u0 : List Int) (u1 : List Int) : List (Nat × Root) := ((128, .box [AS v0.1, .sl 576 0 u0.length, .sl 896 0 u1.length, AI v0.2.2.2.1, AI 0, .sl 131 0 0]) :: (K0j v0 u0 u1))
@[simp] abbrev K0l (v0 : TRaga) (u0 : List Int) (u1 : List Int) : List (Nat × Root) := ((128, .box [AS v0.1, .sl 576 0 u0.length, .sl 896 0 u1.length, AI v0.2.2.2.1, AI v0.2.2.2.2.1, .sl 131 0 0]) :: (K0k v0 u0 u1))
@[simp] abbrev K0m (u2 : List (List Int)) (v0 : TRaga) (u0 : List Int) (u1 : List Int) : List (Nat × Root) := ((1728, .row true 1 (u2.map (eL 1 vI))) :: (K0l v0 u0 u1))
@[simp] abbrev K0o (v0 : TRaga) (u0 : List Int) (u1 : List Int) (u2 : List (List Int)) : List AV := [AS v0.1, .sl 576 0 u0.length, .sl 896 0 u1.length, AI v0.2.2.2.1, AI v0.2.2.2.2.1, .sl 1728 0 u2.length]
@[simp] abbrev K0n (v0 : TRaga) (u0 : List Int) (u1 : List Int) (u2 : List (List Int)) : List (Nat × Root) := ((128, .box (K0o v0 u0 u1 u2)) :: (K0m u2 v0 u0 u1))
@[simp] def res_laws_toRaga (r : TRaga) : RV := .one (.agg [.val (.str r.1), .row true 1 (r.2.1.map vI), .row true 1 (r.2.2.1.map vI), .val (.int .i64 r.2.2.2.1), .val (.int .i64 r.2.2.2.2.1), .row true 1 (r.2.2.2.2.2.map (eL 1 vI))])
theorem con_laws_toRaga {v0 : TRaga} {r : TRaga} (hF : F_laws_toRaga v0 = some r) : Con Tryz.prog 18 [eRaga v0] (res_laws_toRaga r) := by
 unfold F_laws_toRaga at hF
 refine con_of c18_.1 fun N => ?_
 refine ws 0 128 (qf (.ptr 0 0 0) (K0c v0) (by simp) (qf (.ptr 64 0 0) (K0d v0) (by simp) (r_nil (ws 128 192 (qf (.ptr 128 0 0) (K0e v0) (by simp) (r_nil (ws 192 448 (qp (.ptr 0 0 0) rfl (qp (AS v0.1) rfl (qp (.ptr 128 0 0) rfl (qf0 (.undef) (K0f v0) (by simp) (r_nil (ws 448 768 ?_)))))))))))))
 refine qp (.ptr 0 0 1) rfl (qp (AL 1 (v0.2.1.map vI)) rfl (bk hF fun u0 e0 hF => qc (.sl 576 0 u0.length) (K0g u0 v0) false (con_laws_toInt64S e0) c41_.2 (by first | rfl | simp) (by simp [res_laws_toInt64S]) (qp (.ptr 128 0 1) rfl (qf0 (.undef) (K0h v0 u0) (by simp) (r_nil (ws 768 1088 (qp (.ptr 0 0 2) rfl (qp (AL 1 (v0.2.2.1.map vI)) rfl (bk hF fun u1 e1 hF => qc (.sl 896 0 u1.length) (K0i u1 v0 u0) false (con_laws_toInt64S e1) c41_.2 (by first | rfl | simp) (by simp [res_laws_toInt64S]) (qp (.ptr 128 0 2) rfl (qf0 (.undef) (K0j v0 u0 u1) (by simp) (r_nil (ws 1088 1344 ?_)))))))))))))
 refine qp (.ptr 0 0 3) rfl (qp (AI v0.2.2.2.1) rfl (qp (.ptr 128 0 3) rfl (qf0 (.undef) (K0k v0 u0 u1) (by simp) (r_nil (ws 1344 1600 (qp (.ptr 0 0 4) rfl (qp (AI v0.2.2.2.2.1) rfl (qp (.ptr 128 0 4) rfl (qf0 (.undef) (K0l v0 u0 u1) (by simp) (r_nil (ws 1600 1920 (qp (.ptr 0 0 5) rfl (qp (AL 1 (v0.2.2.2.2.2.map (eL 1 vI))) rfl (bk hF fun u2 e2 hF => ?_))))))))))))))
 exact qc (.sl 1728 0 u2.length) (K0m u2 v0 u0 u1) false (con_laws_toInt64SS e2) c42_.2 (by first | rfl | simp) (by simp [res_laws_toInt64SS]) (qp (.ptr 128 0 5) rfl (qf0 (.undef) (K0n v0 u0 u1 u2) (by simp) (r_nil (ws 1920 2048 (qp (.agg (K0o v0 u0 u1 u2)) rfl (qf0 (.undef) ((64, .box (K0o v0 u0 u1 u2)) :: (K0n v0 u0 u1 u2)) (by simp) (rR hF)))))))

def c43 : MC := (sr [rg 1 (.f (.box t0)), rg 2 (.f (.alloc [((.int .i64 0), (0, false)), ((.int .i64 0), (0, false))]))] (sr [rg 3 (.f (.alloc [((.int .i64 0), (0, false)), ((.int .i64 0), (0, false))]))] (sr [pT 4 (.fad t1 0), lT 5 4, pT 6 (.fad t3 0), ⟨none, none, (.f (.st t6 t5 1))⟩] (sr [pT 7 (.fad t1 1), lT 8 7, pT 9 (.fad t3 1), ⟨none, none, (.f (.st t9 t8 1))⟩] (sr [pT 10 (.ld t3 2 true), ⟨none, none, (.f (.st t2 t10 2))⟩] .ret)))))
theorem c43_ : IsF Tryz.prog 43 c43 [(.cell (.ld (.t 2) 2 true))] := ⟨by kernel_rfl, by kernel_rfl⟩

def F_laws_toNote (v0 : TNote) : Option (TNote) :=
 some v0
@[simp] abbrev K0p (v0 : TNote) : List (Nat × Root) := [(64, .box [AI 0, AI 0]), (0, .box [AI v0.1, AI v0.2])]
@[simp] abbrev K0r (v0 : TNote) : List (Nat × Root) := ((128, .box [AI v0.1, AI 0]) :: (128, .box [AI 0, AI 0]) :: (K0p v0))
@[simp] abbrev K0s (v0 : TNote) : List (Nat × Root) := ((128, .box [AI v0.1, AI v0.2]) :: (K0r v0))
@[simp] def res_laws_toNote (r : TNote) : RV := .one (.one (.val (eNote r)))
theorem con_laws_toNote {v0 : TNote} {r : TNote} (hF : F_laws_toNote v0 = some r) : Con Tryz.prog 43 [eNote v0] (res_laws_toNote r) := by
 unfold F_laws_toNote at hF
 refine con_of c43_.1 fun N => ?_
 refine ws 0 128 (qf (.ptr 0 0 0) [(0, .box [AI v0.1, AI v0.2])] (by simp) (qf (.ptr 64 0 0) (K0p v0) (by simp) (r_nil (ws 128 192 (qf (.ptr 128 0 0) ((128, .box [AI 0, AI 0]) :: (K0p v0)) (by simp) (r_nil (ws 192 448 (qp (.ptr 0 0 0) rfl (qp (AI v0.1) rfl (qp (.ptr 128 0 0) rfl (qf0 (.undef) (K0r v0) (by simp) (r_nil (ws 448 704 ?_)))))))))))))
 exact qp (.ptr 0 0 1) rfl (qp (AI v0.2) rfl (qp (.ptr 128 0 1) rfl (qf0 (.undef) (K0s v0) (by simp) (r_nil (ws 704 832 (qp (.agg [AI v0.1, AI v0.2]) rfl (qf0 (.undef) ((64, .box [AI v0.1, AI v0.2]) :: (K0s v0)) (by simp) (rR hF))))))))

def c19 : MC := (sr [rg 2 (.f (.nilrow 2))] (sr [mvt 5 0, zT 6 5, rg 7 (.f (.mks 2 16 (.agg [(.int .i64 0), (.int .i64 0)]) t6 t6)), mvt 3 7] (.seq (sr [pT 4 (.mv (ci 0))] (.block 0 (.loop (.seq (sr [mvt 8 4, mvt 9 0, zT 10 9, bT 11 .lss t8 t10] (cx t11 0)) (.seq (.block 1 (.reg [mvt 14 3, mvt 15 4, mvt 16 0, mvt 17 4, iT 18 16 17 2, pT 19 (.ld t18 2 true), dT 20 43 [t19], iT 21 14 15 2, ⟨none, none, (.f (.st t21 t20 2))⟩])) (.reg [mvt 12 4, bT 13 .add t12 (ci 1), mvt 4 13])))))) (sr [mvt 22 3, mvt 2 22] .ret))))
theorem c19_ : IsF Tryz.prog 19 c19 [(.tmp 2)] := ⟨by kernel_rfl, by kernel_rfl⟩

def F_laws_toNoteS_l0 (v0 : List TNote) (k1 : Int × (List TNote) → Option (List TNote)) : Int × (List TNote) → Option (List TNote)
 | (x6, x7) => (bif (decide (x6 < (v0.length : Int))) then ((ix v0 x6).bind fun u7 => ((F_laws_toNote u7).bind fun u8 => ((ix x7 x6).bind fun u9 => k1 (w64 (x6 + 1), List.set x7 x6.toNat u8))))
 else some x7)
def F_laws_toNoteS (v0 : List TNote) : Option (List TNote) :=
 (need (0 ≤ (v0.length : Int) ∧ (v0.length : Int) ≤ (v0.length : Int) ∧ (v0.length : Int) ≤ 9223372036854775807 ∧ 16 * (v0.length : Int) ≤ 281474976710656) (loop (F_laws_toNoteS_l0 v0) (0, List.replicate ((v0.length : Int)).toNat ((0, 0) : TNote))))
@[simp] abbrev K0t : List (Nat × Root) := [(0, .row true 2 (([] : List Int).map vI))]
@[simp] def res_laws_toNoteS (r : List TNote) : RV := .one (.one (.row true 2 (r.map eNote)))
theorem con_laws_toNoteS {v0 : List TNote} {r : List TNote} (hF : F_laws_toNoteS v0 = some r) : Con Tryz.prog 19 [.sl 2 (v0.map eNote)] (res_laws_toNoteS r) := by
 unfold F_laws_toNoteS at hF
 refine con_of c19_.1 fun N => ?_
 refine ws 0 64 (qf (.sl 0 0 0) K0t (by simp) (r_nil (ws 64 320 (qp (AL 2 (v0.map eNote)) rfl (qp (AI (v0.length : Int)) (ev_len_n rfl) (nk hF fun g0 hF => qf (.sl 192 0 ((List.replicate ((v0.length : Int)).toNat ((0, 0) : TNote)).length)) ((192, .row true 2 ((List.replicate ((v0.length : Int)).toNat ((0, 0) : TNote)).map eNote)) :: K0t) (effT_mks rfl rfl g0 rfl) (qp (.sl 192 0 ((List.replicate ((v0.length : Int)).toNat ((0, 0) : TNote)).length)) rfl (r_nil (w_seq (ws 320 384 (qp (AI 0) rfl (r_nil (w_block ?_)))))))))))))
 refine wr (l' := [(0, AL 2 (v0.map eNote)), (3, .sl 0 0 (List.replicate ((v0.length : Int)).toNat ((0, 0) : TNote)).length), (4, AI 0)]) (L := [(0, .row true 2 ((List.replicate ((v0.length : Int)).toNat ((0, 0) : TNote)).map eNote))]) [0, 3, 4] [(192, 0)] 1 ?_
 refine w_loopF (F_laws_toNoteS_l0 v0) (fun s : Int × (List TNote) => mkS [(0, AL 2 (v0.map eNote)), (3, .sl 0 0 s.2.length), (4, AI s.1)] (fo [(0, .row true 2 (s.2.map eNote))]) 1) hF ?_
 rintro k1 ⟨x6, x7⟩ hF
 rw [F_laws_toNoteS_l0] at hF
 try dsimp only
 refine w_seq (ws 1 257 (qp (AI x6) rfl (qp (AL 2 (v0.map eNote)) rfl (qp (AI (v0.length : Int)) (ev_len_n rfl) (qp (AB (decide (x6 < (v0.length : Int)))) rfl (r_nil ?_))))))
 refine cF hF (fun hF => ?_) fun hF => ?_
 ·
  refine w_skip (thenQ_n (w_seq (w_block (w_reg 257 833 rfl rfl (qp (.sl 0 0 x7.length) rfl (qp (AI x6) rfl (qp (AL 2 (v0.map eNote)) rfl (qp (AI x6) rfl (bk hF fun u7 e7 hF => qp (.val none (.ptr [.int .i64 u7.1, .int .i64 u7.2])) (ev_iad_n rfl rfl e7 rfl) (qp (.val none (eNote u7)) rfl (bk hF fun u8 e8 hF => qC (.val none (eNote u8)) [(0, .row true 2 (x7.map eNote))] (con_laws_toNote e8) c43_ (bk hF fun u9 e9 hF => qp (.ptr 0 x6.toNat 0) (ev_iad_r rfl (by simp) rfl rfl e9) (qf0 (.undef) [(0, .row true 2 ((List.set x7 x6.toNat u8).map eNote)), (0, .row true 2 (x7.map eNote))] (effT_st rfl rfl (ix_some e9).2 rfl rfl (by rfl) (by first | rfl | simp [patch, reb, List.take_of_length_le]) (by rfl) rfl) (r_nil (blockQ_n (thenQ_n ?_))))))))))))))))
  refine w_reg 833 1025 rfl rfl (qp (AI x6) rfl (qp (AI (w64 (x6 + 1))) rfl (qp (AI (w64 (x6 + 1))) rfl (r_nil (thenQ_n ?_)))))
  refine ar (l' := [(0, AL 2 (v0.map eNote)), (3, .sl 0 0 (List.set x7 x6.toNat u8).length), (4, AI (w64 (x6 + 1)))]) (L := [(0, .row true 2 ((List.set x7 x6.toNat u8).map eNote))]) [0, 3, 4] [(0, 0)] 1 ⟨_, by rfl, hF⟩
 exact w_exit (thenQ_e (thenQ_e (blockQ_e (thenQ_n (ws 257 385 (qp (.sl 0 0 x7.length) rfl (qp (.sl 0 0 x7.length) rfl (rR hF))))))))

def c20 : MC := (sr [rg 1 (.f (.box t0)), rg 2 (.f (.alloc [((.str []), (0, false)), ((.sl 0 []), (1, false)), ((.sl 0 []), (1, false))]))] (sr [rg 3 (.f (.alloc [((.str []), (0, false)), ((.sl 0 []), (1, false)), ((.sl 0 []), (1, false))]))] (sr [pT 4 (.fad t1 0), lT 5 4, pT 6 (.fad t3 0), ⟨none, none, (.f (.st t6 t5 1))⟩] (sr [pT 7 (.fad t1 1), lT 8 7, dT 9 41 [t8], pT 10 (.fad t3 1), ⟨none, none, (.f (.st t10 t9 1))⟩] (sr [pT 11 (.fad t1 2), lT 12 11, dT 13 41 [t12], pT 14 (.fad t3 2), ⟨none, none, (.f (.st t14 t13 1))⟩] (sr [pT 15 (.ld t3 3 true), ⟨none, none, (.f (.st t2 t15 3))⟩] .ret))))))
theorem c20_ : IsF Tryz.prog 20 c20 [(.cell (.ld (.t 2) 3 true))] := ⟨by kernel_rfl, by kernel_rfl⟩

def F_laws_toTala (v0 : TTala) : Option (TTala) :=
 ((F_laws_toInt64S v0.2.1).bind fun u0 => ((F_laws_toInt64S v0.2.2).bind fun u1 => some (v0.1, u0, u1)))
@[simp] abbrev K0u (v0 : TTala) : List (Nat × Root) := [(0, .box [AS v0.1, AL 1 (v0.2.1.map vI), AL 1 (v0.2.2.map vI)])]
@[simp] abbrev K0v (v0 : TTala) : List (Nat × Root) := ((64, .box [AS [], .sl 65 0 0, .sl 66 0 0]) :: (66, .row true 1 (([] : List Int).map vI)) :: (65, .row true 1 (([] : List Int).map vI)) :: (K0u v0))
@[simp] abbrev K0w (v0 : TTala) : List (Nat × Root) := ((128, .box [AS [], .sl 129 0 0, .sl 130 0 0]) :: (130, .row true 1 (([] : List Int).map vI)) :: (129, .row true 1 (([] : List Int).map vI)) :: (K0v v0))
@[simp] abbrev K0x (v0 : TTala) : List (Nat × Root) := ((128, .box [AS v0.1, .sl 129 0 0, .sl 130 0 0]) :: (K0w v0))
@[simp] abbrev K0y (u0 : List Int) (v0 : TTala) : List (Nat × Root) := ((576, .row true 1 (u0.map vI)) :: (K0x v0))
@[simp] abbrev K0z (v0 : TTala) (u0 : List Int) : List (Nat × Root) := ((128, .box [AS v0.1, .sl 576 0 u0.length, .sl 130 0 0]) :: (K0y u0 v0))
@[simp] abbrev K10 (u1 : List Int) (v0 : TTala) (u0 : List Int) : List (Nat × Root) := ((896, .row true 1 (u1.map vI)) :: (K0z v0 u0))
@[simp] abbrev K11 (v0 : TTala) (u0 : List Int) (u1 : List Int) : List (Nat × Root) := ((128, .box [AS v0.1, .sl 576 0 u0.length, .sl 896 0 u1.length]) :: (K10 u1 v0 u0))
@[simp] def res_laws_toTala (r : TTala) : RV := .one (.agg [.val (.str r.1), .row true 1 (r.2.1.map vI), .row true 1 (r.2.2.map vI)])
theorem con_laws_toTala {v0 : TTala} {r : TTala} (hF : F_laws_toTala v0 = some r) : Con Tryz.prog 20 [eTala v0] (res_laws_toTala r) := by
 unfold F_laws_toTala at hF
 refine con_of c20_.1 fun N => ?_
 refine ws 0 128 (qf (.ptr 0 0 0) (K0u v0) (by simp) (qf (.ptr 64 0 0) (K0v v0) (by simp) (r_nil (ws 128 192 (qf (.ptr 128 0 0) (K0w v0) (by simp) (r_nil (ws 192 448 (qp (.ptr 0 0 0) rfl (qp (AS v0.1) rfl (qp (.ptr 128 0 0) rfl (qf0 (.undef) (K0x v0) (by simp) (r_nil (ws 448 768 ?_)))))))))))))
 exact qp (.ptr 0 0 1) rfl (qp (AL 1 (v0.2.1.map vI)) rfl (bk hF fun u0 e0 hF => qc (.sl 576 0 u0.length) (K0y u0 v0) false (con_laws_toInt64S e0) c41_.2 (by first | rfl | simp) (by simp [res_laws_toInt64S]) (qp (.ptr 128 0 1) rfl (qf0 (.undef) (K0z v0 u0) (by simp) (r_nil (ws 768 1088 (qp (.ptr 0 0 2) rfl (qp (AL 1 (v0.2.2.map vI)) rfl (bk hF fun u1 e1 hF => qc (.sl 896 0 u1.length) (K10 u1 v0 u0) false (con_laws_toInt64S e1) c41_.2 (by first | rfl | simp) (by simp [res_laws_toInt64S]) (qp (.ptr 128 0 2) rfl (qf0 (.undef) (K11 v0 u0 u1) (by simp) (r_nil (ws 1088 1216 (qp (.agg [AS v0.1, .sl 576 0 u0.length, .sl 896 0 u1.length]) rfl (qf0 (.undef) ((64, .box [AS v0.1, .sl 576 0 u0.length, .sl 896 0 u1.length]) :: (K11 v0 u0 u1)) (by simp) (rR hF))))))))))))))))

def c44 : MC := (sr [rg 1 (.f (.box t0)), rg 2 (.f (.alloc [((.str []), (0, false)), ((.int .i64 0), (0, false)), ((.int .i64 0), (0, false))]))] (sr [rg 3 (.f (.alloc [((.str []), (0, false)), ((.int .i64 0), (0, false)), ((.int .i64 0), (0, false))]))] (sr [pT 4 (.fad t1 0), lT 5 4, pT 6 (.fad t3 0), ⟨none, none, (.f (.st t6 t5 1))⟩] (sr [pT 7 (.fad t1 1), lT 8 7, pT 9 (.fad t3 1), ⟨none, none, (.f (.st t9 t8 1))⟩] (sr [pT 10 (.fad t1 2), lT 11 10, pT 12 (.fad t3 2), ⟨none, none, (.f (.st t12 t11 1))⟩] (sr [pT 13 (.ld t3 3 true), ⟨none, none, (.f (.st t2 t13 3))⟩] .ret))))))
theorem c44_ : IsF Tryz.prog 44 c44 [(.cell (.ld (.t 2) 3 true))] := ⟨by kernel_rfl, by kernel_rfl⟩

def F_laws_toTurn (v0 : TTurn) : Option (TTurn) :=
 some v0
@[simp] abbrev K17 (v0 : TTurn) : List AV := [AS v0.1, AI v0.2.1, AI v0.2.2]
@[simp] abbrev K12 (v0 : TTurn) : List (Nat × Root) := [(64, .box [AS [], AI 0, AI 0]), (0, .box (K17 v0))]
@[simp] abbrev K13 (v0 : TTurn) : List (Nat × Root) := ((128, .box [AS [], AI 0, AI 0]) :: (K12 v0))
@[simp] abbrev K14 (v0 : TTurn) : List (Nat × Root) := ((128, .box [AS v0.1, AI 0, AI 0]) :: (K13 v0))
@[simp] abbrev K15 (v0 : TTurn) : List (Nat × Root) := ((128, .box [AS v0.1, AI v0.2.1, AI 0]) :: (K14 v0))
@[simp] abbrev K16 (v0 : TTurn) : List (Nat × Root) := ((128, .box (K17 v0)) :: (K15 v0))
@[simp] def res_laws_toTurn (r : TTurn) : RV := .one (.one (.val (eTurn r)))
theorem con_laws_toTurn {v0 : TTurn} {r : TTurn} (hF : F_laws_toTurn v0 = some r) : Con Tryz.prog 44 [eTurn v0] (res_laws_toTurn r) := by
 unfold F_laws_toTurn at hF
 refine con_of c44_.1 fun N => ?_
 refine ws 0 128 (qf (.ptr 0 0 0) [(0, .box (K17 v0))] (by simp) (qf (.ptr 64 0 0) (K12 v0) (by simp) (r_nil (ws 128 192 (qf (.ptr 128 0 0) (K13 v0) (by simp) (r_nil (ws 192 448 (qp (.ptr 0 0 0) rfl (qp (AS v0.1) rfl (qp (.ptr 128 0 0) rfl (qf0 (.undef) (K14 v0) (by simp) (r_nil (ws 448 704 ?_)))))))))))))
 exact qp (.ptr 0 0 1) rfl (qp (AI v0.2.1) rfl (qp (.ptr 128 0 1) rfl (qf0 (.undef) (K15 v0) (by simp) (r_nil (ws 704 960 (qp (.ptr 0 0 2) rfl (qp (AI v0.2.2) rfl (qp (.ptr 128 0 2) rfl (qf0 (.undef) (K16 v0) (by simp) (r_nil (ws 960 1088 (qp (.agg (K17 v0)) rfl (qf0 (.undef) ((64, .box (K17 v0)) :: (K16 v0)) (by simp) (rR hF))))))))))))))

def c21 : MC := (sr [rg 2 (.f (.nilrow 3))] (sr [mvt 5 0, zT 6 5, rg 7 (.f (.mks 3 32 (.agg [(.str []), (.int .i64 0), (.int .i64 0)]) t6 t6)), mvt 3 7] (.seq (sr [pT 4 (.mv (ci 0))] (.block 0 (.loop (.seq (sr [mvt 8 4, mvt 9 0, zT 10 9, bT 11 .lss t8 t10] (cx t11 0)) (.seq (.block 1 (.reg [mvt 14 3, mvt 15 4, mvt 16 0, mvt 17 4, iT 18 16 17 3, pT 19 (.ld t18 3 true), dT 20 44 [t19], iT 21 14 15 3, ⟨none, none, (.f (.st t21 t20 3))⟩])) (.reg [mvt 12 4, bT 13 .add t12 (ci 1), mvt 4 13])))))) (sr [mvt 22 3, mvt 2 22] .ret))))
theorem c21_ : IsF Tryz.prog 21 c21 [(.tmp 2)] := ⟨by kernel_rfl, by kernel_rfl⟩

def F_laws_toTurnS_l0 (v0 : List TTurn) (k1 : Int × (List TTurn) → Option (List TTurn)) : Int × (List TTurn) → Option (List TTurn)
 | (x6, x7) => (bif (decide (x6 < (v0.length : Int))) then ((ix v0 x6).bind fun u7 => ((F_laws_toTurn u7).bind fun u8 => ((ix x7 x6).bind fun u9 => k1 (w64 (x6 + 1), List.set x7 x6.toNat u8))))
 else some x7)
def F_laws_toTurnS (v0 : List TTurn) : Option (List TTurn) :=
 (need (0 ≤ (v0.length : Int) ∧ (v0.length : Int) ≤ (v0.length : Int) ∧ (v0.length : Int) ≤ 9223372036854775807 ∧ 32 * (v0.length : Int) ≤ 281474976710656) (loop (F_laws_toTurnS_l0 v0) (0, List.replicate ((v0.length : Int)).toNat (([], 0, 0) : TTurn))))
@[simp] abbrev K18 : List (Nat × Root) := [(0, .row true 3 (([] : List Int).map vI))]
@[simp] def res_laws_toTurnS (r : List TTurn) : RV := .one (.one (.row true 3 (r.map eTurn)))
theorem con_laws_toTurnS {v0 : List TTurn} {r : List TTurn} (hF : F_laws_toTurnS v0 = some r) : Con Tryz.prog 21 [.sl 3 (v0.map eTurn)] (res_laws_toTurnS r) := by
 unfold F_laws_toTurnS at hF
 refine con_of c21_.1 fun N => ?_
 refine ws 0 64 (qf (.sl 0 0 0) K18 (by simp) (r_nil (ws 64 320 (qp (AL 3 (v0.map eTurn)) rfl (qp (AI (v0.length : Int)) (ev_len_n rfl) (nk hF fun g0 hF => qf (.sl 192 0 ((List.replicate ((v0.length : Int)).toNat (([], 0, 0) : TTurn)).length)) ((192, .row true 3 ((List.replicate ((v0.length : Int)).toNat (([], 0, 0) : TTurn)).map eTurn)) :: K18) (effT_mks rfl rfl g0 rfl) (qp (.sl 192 0 ((List.replicate ((v0.length : Int)).toNat (([], 0, 0) : TTurn)).length)) rfl (r_nil (w_seq (ws 320 384 (qp (AI 0) rfl (r_nil (w_block ?_)))))))))))))
 refine wr (l' := [(0, AL 3 (v0.map eTurn)), (3, .sl 0 0 (List.replicate ((v0.length : Int)).toNat (([], 0, 0) : TTurn)).length), (4, AI 0)]) (L := [(0, .row true 3 ((List.replicate ((v0.length : Int)).toNat (([], 0, 0) : TTurn)).map eTurn))]) [0, 3, 4] [(192, 0)] 1 ?_
 refine w_loopF (F_laws_toTurnS_l0 v0) (fun s : Int × (List TTurn) => mkS [(0, AL 3 (v0.map eTurn)), (3, .sl 0 0 s.2.length), (4, AI s.1)] (fo [(0, .row true 3 (s.2.map eTurn))]) 1) hF ?_
 rintro k1 ⟨x6, x7⟩ hF
 rw [F_laws_toTurnS_l0] at hF
 try dsimp only
 refine w_seq (ws 1 257 (qp (AI x6) rfl (qp (AL 3 (v0.map eTurn)) rfl (qp (AI (v0.length : Int)) (ev_len_n rfl) (qp (AB (decide (x6 < (v0.length : Int)))) rfl (r_nil ?_))))))
 refine cF hF (fun hF => ?_) fun hF => ?_
 ·
  refine w_skip (thenQ_n (w_seq (w_block (w_reg 257 833 rfl rfl (qp (.sl 0 0 x7.length) rfl (qp (AI x6) rfl (qp (AL 3 (v0.map eTurn)) rfl (qp (AI x6) rfl (bk hF fun u7 e7 hF => qp (.val none (.ptr [.str u7.1, .int .i64 u7.2.1, .int .i64 u7.2.2])) (ev_iad_n rfl rfl e7 rfl) (qp (.val none (eTurn u7)) rfl (bk hF fun u8 e8 hF => qC (.val none (eTurn u8)) [(0, .row true 3 (x7.map eTurn))] (con_laws_toTurn e8) c44_ (bk hF fun u9 e9 hF => qp (.ptr 0 x6.toNat 0) (ev_iad_r rfl (by simp) rfl rfl e9) (qf0 (.undef) [(0, .row true 3 ((List.set x7 x6.toNat u8).map eTurn)), (0, .row true 3 (x7.map eTurn))] (effT_st rfl rfl (ix_some e9).2 rfl rfl (by rfl) (by first | rfl | simp [patch, reb, List.take_of_length_le]) (by rfl) rfl) (r_nil (blockQ_n (thenQ_n ?_))))))))))))))))
  refine w_reg 833 1025 rfl rfl (qp (AI x6) rfl (qp (AI (w64 (x6 + 1))) rfl (qp (AI (w64 (x6 + 1))) rfl (r_nil (thenQ_n ?_)))))
  refine ar (l' := [(0, AL 3 (v0.map eTurn)), (3, .sl 0 0 (List.set x7 x6.toNat u8).length), (4, AI (w64 (x6 + 1)))]) (L := [(0, .row true 3 ((List.set x7 x6.toNat u8).map eTurn))]) [0, 3, 4] [(0, 0)] 1 ⟨_, by rfl, hF⟩
 exact w_exit (thenQ_e (thenQ_e (blockQ_e (thenQ_n (ws 257 385 (qp (.sl 0 0 x7.length) rfl (qp (.sl 0 0 x7.length) rfl (rR hF))))))))

def c6 : MC := (sr [rg 1 (.f (.box t0)), rg 2 (.f (.alloc [((.str []), (0, false)), ((.sl 0 []), (1, false)), ((.sl 0 []), (1, false)), ((.int .i64 0), (0, false)), ((.int .i64 0), (0, false)), ((.sl 0 []), (1, false)), ((.int .i64 0), (0, false)), ((.int .i64 0), (0, false)), ((.sl 0 []), (2, false)), ((.str []), (0, false)), ((.sl 0 []), (1, false)), ((.sl 0 []), (1, false)), ((.int .i64 0), (0, false)), ((.str []), (0, false)), ((.int .i64 0), (0, false)), ((.int .i64 0), (0, false)), ((.int .i64 0), (0, false)), ((.sl 0 []), (3, false))]))] (sr [rg 3 (.f (.alloc [((.str []), (0, false)), ((.sl 0 []), (1, false)), ((.sl 0 []), (1, false)), ((.int .i64 0), (0, false)), ((.int .i64 0), (0, false)), ((.sl 0 []), (1, false)), ((.int .i64 0), (0, false)), ((.int .i64 0), (0, false)), ((.sl 0 []), (2, false)), ((.str []), (0, false)), ((.sl 0 []), (1, false)), ((.sl 0 []), (1, false)), ((.int .i64 0), (0, false)), ((.str []), (0, false)), ((.int .i64 0), (0, false)), ((.int .i64 0), (0, false)), ((.int .i64 0), (0, false)), ((.sl 0 []), (3, false))]))] (sr [pT 4 (.fad t1 0), pT 5 (.ld t4 6 true), dT 6 18 [t5], pT 7 (.fad t3 0), ⟨none, none, (.f (.st t7 t6 6))⟩] (sr [pT 8 (.fad t1 6), lT 9 8, pT 10 (.fad t3 6), ⟨none, none, (.f (.st t10 t9 1))⟩] (sr [pT 11 (.fad t1 7), lT 12 11, pT 13 (.fad t3 7), ⟨none, none, (.f (.st t13 t12 1))⟩] (sr [pT 14 (.fad t1 8), lT 15 14, dT 16 19 [t15], pT 17 (.fad t3 8), ⟨none, none, (.f (.st t17 t16 1))⟩] (sr [pT 18 (.fad t1 9), pT 19 (.ld t18 3 true), dT 20 20 [t19], pT 21 (.fad t3 9), ⟨none, none, (.f (.st t21 t20 3))⟩] (sr [pT 22 (.fad t1 12), lT 23 22, pT 24 (.fad t3 12), ⟨none, none, (.f (.st t24 t23 1))⟩] (sr [pT 25 (.fad t1 13), lT 26 25, pT 27 (.fad t3 13), ⟨none, none, (.f (.st t27 t26 1))⟩] (sr [pT 28 (.fad t1 14), lT 29 28, pT 30 (.fad t3 14), ⟨none, none, (.f (.st t30 t29 1))⟩] (sr [pT 31 (.fad t1 15), lT 32 31, pT 33 (.fad t3 15), ⟨none, none, (.f (.st t33 t32 1))⟩] (sr [pT 34 (.fad t1 16), lT 35 34, pT 36 (.fad t3 16), ⟨none, none, (.f (.st t36 t35 1))⟩] (sr [pT 37 (.fad t1 17), lT 38 37, dT 39 21 [t38], pT 40 (.fad t3 17), ⟨none, none, (.f (.st t40 t39 1))⟩] (sr [pT 41 (.ld t3 18 true), ⟨none, none, (.f (.st t2 t41 18))⟩] .ret))))))))))))))
theorem c6_ : IsF Tryz.prog 6 c6 [(.cell (.ld (.t 2) 18 true))] := ⟨by kernel_rfl, by kernel_rfl⟩

def F_laws_toWork (v0 : TWork) : Option (TWork) :=
 ((F_laws_toRaga (v0.1, v0.2.1, v0.2.2.1, v0.2.2.2.1, v0.2.2.2.2.1, v0.2.2.2.2.2.1)).bind fun u0 => ((F_laws_toNoteS v0.2.2.2.2.2.2.2.2.1).bind fun u1 => ((F_laws_toTala (v0.2.2.2.2.2.2.2.2.2.1, v0.2.2.2.2.2.2.2.2.2.2.1, v0.2.2.2.2.2.2.2.2.2.2.2.1)).bind fun u2 => ((F_laws_toTurnS v0.2.2.2.2.2.2.2.2.2.2.2.2.2.2.2.2.2).bind fun u3 => some (u0.1, u0.2.1, u0.2.2.1, u0.2.2.2.1, u0.2.2.2.2.1, u0.2.2.2.2.2, v0.2.2.2.2.2.2.1, v0.2.2.2.2.2.2.2.1, u1, u2.1, u2.2.1, u2.2.2, v0.2.2.2.2.2.2.2.2.2.2.2.2.1, v0.2.2.2.2.2.2.2.2.2.2.2.2.2.1, v0.2.2.2.2.2.2.2.2.2.2.2.2.2.2.1, v0.2.2.2.2.2.2.2.2.2.2.2.2.2.2.2.1, v0.2.2.2.2.2.2.2.2.2.2.2.2.2.2.2.2.1, u3)))))
@[simp] abbrev K19 (v0 : TWork) : List (Nat × Root) := [(0, .box [AS v0.1, AL 1 (v0.2.1.map vI), AL 1 (v0.2.2.1.map vI), AI v0.2.2.2.1, AI v0.2.2.2.2.1, AL 1 (v0.2.2.2.2.2.1.map (eL 1 vI)), AI v0.2.2.2.2.2.2.1, AI v0.2.2.2.2.2.2.2.1, AL 2 (v0.2.2.2.2.2.2.2.2.1.map eNote), AS v0.2.2.2.2.2.2.2.2.2.1, AL 1 (v0.2.2.2.2.2.2.2.2.2.2.1.map vI), AL 1 (v0.2.2.2.2.2.2.2.2.2.2.2.1.map vI), AI v0.2.2.2.2.2.2.2.2.2.2.2.2.1, AS v0.2.2.2.2.2.2.2.2.2.2.2.2.2.1, AI v0.2.2.2.2.2.2.2.2.2.2.2.2.2.2.1, AI v0.2.2.2.2.2.2.2.2.2.2.2.2.2.2.2.1, AI v0.2.2.2.2.2.2.2.2.2.2.2.2.2.2.2.2.1, AL 3 (v0.2.2.2.2.2.2.2.2.2.2.2.2.2.2.2.2.2.map eTurn)])]
@[simp] abbrev K1a (v0 : TWork) : List (Nat × Root) := ((64, .box [AS [], .sl 65 0 0, .sl 66 0 0, AI 0, AI 0, .sl 67 0 0, AI 0, AI 0, .sl 68 0 0, AS [], .sl 69 0 0, .sl 70 0 0, AI 0, AS [], AI 0, AI 0, AI 0, .sl 71 0 0]) :: (71, .row true 3 (([] : List Int).map vI)) :: (70, .row true 1 (([] : List Int).map vI)) :: (69, .row true 1 (([] : List Int).map vI)) :: (68, .row true 2 (([] : List Int).map vI)) :: (67, .row true 1 (([] : List Int).map vI)) :: (66, .row true 1 (([] : List Int).map vI)) :: (65, .row true 1 (([] : List Int).map vI)) :: (K19 v0))
@[simp] abbrev K1b (v0 : TWork) : List (Nat × Root) := ((128, .box [AS [], .sl 129 0 0, .sl 130 0 0, AI 0, AI 0, .sl 131 0 0, AI 0, AI 0, .sl 132 0 0, AS [], .sl 133 0 0, .sl 134 0 0, AI 0, AS [], AI 0, AI 0, AI 0, .sl 135 0 0]) :: (135, .row true 3 (([] : List Int).map vI)) :: (134, .row true 1 (([] : List Int).map vI)) :: (133, .row true 1 (([] : List Int).map vI)) :: (132, .row true 2 (([] : List Int).map vI)) :: (131, .row true 1 (([] : List Int).map vI)) :: (130, .row true 1 (([] : List Int).map vI)) :: (129, .row true 1 (([] : List Int).map vI)) :: (K1a v0))
@[simp] abbrev K1c (u0 : TRaga) (v0 : TWork) : List (Nat × Root) := ((325, .row true 1 (u0.2.2.2.2.2.map (eL 1 vI))) :: (322, .row true 1 (u0.2.2.1.map vI)) :: (321, .row true 1 (u0.2.1.map vI)) :: (K1b v0))
@[simp] abbrev K1d (u0 : TRaga) (v0 : TWork) : List (Nat × Root) := ((128, .box [AS u0.1, .sl 321 0 u0.2.1.length, .sl 322 0 u0.2.2.1.length, AI u0.2.2.2.1, AI u0.2.2.2.2.1, .sl 325 0 u0.2.2.2.2.2.length, AI 0, AI 0, .sl 132 0 0, AS [], .sl 133 0 0, .sl 134 0 0, AI 0, AS [], AI 0, AI 0, AI 0, .sl 135 0 0]) :: (K1c u0 v0))
@[simp] abbrev K1e (u0 : TRaga) (v0 : TWork) : List (Nat × Root) := ((128, .box [AS u0.1, .sl 321 0 u0.2.1.length, .sl 322 0 u0.2.2.1.length, AI u0.2.2.2.1, AI u0.2.2.2.2.1, .sl 325 0 u0.2.2.2.2.2.length, AI v0.2.2.2.2.2.2.1, AI 0, .sl 132 0 0, AS [], .sl 133 0 0, .sl 134 0 0, AI 0, AS [], AI 0, AI 0, AI 0, .sl 135 0 0]) :: (K1d u0 v0))
@[simp] abbrev K1f (u0 : TRaga) (v0 : TWork) : List (Nat × Root) := ((128, .box [AS u0.1, .sl 321 0 u0.2.1.length, .sl 322 0 u0.2.2.1.length, AI u0.2.2.2.1, AI u0.2.2.2.2.1, .sl 325 0 u0.2.2.2.2.2.length, AI v0.2.2.2.2.2.2.1, AI v0.2.2.2.2.2.2.2.1, .sl 132 0 0, AS [], .sl 133 0 0, .sl 134 0 0, AI 0, AS [], AI 0, AI 0, AI 0, .sl 135 0 0]) :: (K1e u0 v0))
@[simp] abbrev K1h (u0 : TRaga) (v0 : TWork) (u1 : List TNote) : List (Nat × Root) := ((128, .box [AS u0.1, .sl 321 0 u0.2.1.length, .sl 322 0 u0.2.2.1.length, AI u0.2.2.2.1, AI u0.2.2.2.2.1, .sl 325 0 u0.2.2.2.2.2.length, AI v0.2.2.2.2.2.2.1, AI v0.2.2.2.2.2.2.2.1, .sl 1152 0 u1.length, AS [], .sl 133 0 0, .sl 134 0 0, AI 0, AS [], AI 0, AI 0, AI 0, .sl 135 0 0]) :: (1152, .row true 2 (u1.map eNote)) :: (K1f u0 v0))
@[simp] abbrev K1i (u2 : TTala) (u0 : TRaga) (v0 : TWork) (u1 : List TNote) : List (Nat × Root) := ((1474, .row true 1 (u2.2.2.map vI)) :: (1473, .row true 1 (u2.2.1.map vI)) :: (K1h u0 v0 u1))
@[simp] abbrev K1j (u0 : TRaga) (v0 : TWork) (u1 : List TNote) (u2 : TTala) : List (Nat × Root) := ((128, .box [AS u0.1, .sl 321 0 u0.2.1.length, .sl 322 0 u0.2.2.1.length, AI u0.2.2.2.1, AI u0.2.2.2.2.1, .sl 325 0 u0.2.2.2.2.2.length, AI v0.2.2.2.2.2.2.1, AI v0.2.2.2.2.2.2.2.1, .sl 1152 0 u1.length, AS u2.1, .sl 1473 0 u2.2.1.length, .sl 1474 0 u2.2.2.length, AI 0, AS [], AI 0, AI 0, AI 0, .sl 135 0 0]) :: (K1i u2 u0 v0 u1))
@[simp] abbrev K1k (u0 : TRaga) (v0 : TWork) (u1 : List TNote) (u2 : TTala) : List (Nat × Root) := ((128, .box [AS u0.1, .sl 321 0 u0.2.1.length, .sl 322 0 u0.2.2.1.length, AI u0.2.2.2.1, AI u0.2.2.2.2.1, .sl 325 0 u0.2.2.2.2.2.length, AI v0.2.2.2.2.2.2.1, AI v0.2.2.2.2.2.2.2.1, .sl 1152 0 u1.length, AS u2.1, .sl 1473 0 u2.2.1.length, .sl 1474 0 u2.2.2.length, AI v0.2.2.2.2.2.2.2.2.2.2.2.2.1, AS [], AI 0, AI 0, AI 0, .sl 135 0 0]) :: (K1j u0 v0 u1 u2))
@[simp] abbrev K1l (u0 : TRaga) (v0 : TWork) (u1 : List TNote) (u2 : TTala) : List (Nat × Root) := ((128, .box [AS u0.1, .sl 321 0 u0.2.1.length, .sl 322 0 u0.2.2.1.length, AI u0.2.2.2.1, AI u0.2.2.2.2.1, .sl 325 0 u0.2.2.2.2.2.length, AI v0.2.2.2.2.2.2.1, AI v0.2.2.2.2.2.2.2.1, .sl 1152 0 u1.length, AS u2.1, .sl 1473 0 u2.2.1.length, .sl 1474 0 u2.2.2.length, AI v0.2.2.2.2.2.2.2.2.2.2.2.2.1, AS v0.2.2.2.2.2.2.2.2.2.2.2.2.2.1, AI 0, AI 0, AI 0, .sl 135 0 0]) :: (K1k u0 v0 u1 u2))
@[simp] abbrev K1m (u0 : TRaga) (v0 : TWork) (u1 : List TNote) (u2 : TTala) : List (Nat × Root) := ((128, .box [AS u0.1, .sl 321 0 u0.2.1.length, .sl 322 0 u0.2.2.1.length, AI u0.2.2.2.1, AI u0.2.2.2.2.1, .sl 325 0 u0.2.2.2.2.2.length, AI v0.2.2.2.2.2.2.1, AI v0.2.2.2.2.2.2.2.1, .sl 1152 0 u1.length, AS u2.1, .sl 1473 0 u2.2.1.length, .sl 1474 0 u2.2.2.length, AI v0.2.2.2.2.2.2.2.2.2.2.2.2.1, AS v0.2.2.2.2.2.2.2.2.2.2.2.2.2.1, AI v0.2.2.2.2.2.2.2.2.2.2.2.2.2.2.1, AI 0, AI 0, .sl 135 0 0]) :: (K1l u0 v0 u1 u2))
@[simp] abbrev K1n (u0 : TRaga) (v0 : TWork) (u1 : List TNote) (u2 : TTala) : List (Nat × Root) := ((128, .box [AS u0.1, .sl 321 0 u0.2.1.length, .sl 322 0 u0.2.2.1.length, AI u0.2.2.2.1, AI u0.2.2.2.2.1, .sl 325 0 u0.2.2.2.2.2.length, AI v0.2.2.2.2.2.2.1, AI v0.2.2.2.2.2.2.2.1, .sl 1152 0 u1.length, AS u2.1, .sl 1473 0 u2.2.1.length, .sl 1474 0 u2.2.2.length, AI v0.2.2.2.2.2.2.2.2.2.2.2.2.1, AS v0.2.2.2.2.2.2.2.2.2.2.2.2.2.1, AI v0.2.2.2.2.2.2.2.2.2.2.2.2.2.2.1, AI v0.2.2.2.2.2.2.2.2.2.2.2.2.2.2.2.1, AI 0, .sl 135 0 0]) :: (K1m u0 v0 u1 u2))
@[simp] abbrev K1o (u0 : TRaga) (v0 : TWork) (u1 : List TNote) (u2 : TTala) : List (Nat × Root) := ((128, .box [AS u0.1, .sl 321 0 u0.2.1.length, .sl 322 0 u0.2.2.1.length, AI u0.2.2.2.1, AI u0.2.2.2.2.1, .sl 325 0 u0.2.2.2.2.2.length, AI v0.2.2.2.2.2.2.1, AI v0.2.2.2.2.2.2.2.1, .sl 1152 0 u1.length, AS u2.1, .sl 1473 0 u2.2.1.length, .sl 1474 0 u2.2.2.length, AI v0.2.2.2.2.2.2.2.2.2.2.2.2.1, AS v0.2.2.2.2.2.2.2.2.2.2.2.2.2.1, AI v0.2.2.2.2.2.2.2.2.2.2.2.2.2.2.1, AI v0.2.2.2.2.2.2.2.2.2.2.2.2.2.2.2.1, AI v0.2.2.2.2.2.2.2.2.2.2.2.2.2.2.2.2.1, .sl 135 0 0]) :: (K1n u0 v0 u1 u2))
@[simp] abbrev K1r (u0 : TRaga) (v0 : TWork) (u1 : List TNote) (u2 : TTala) (u3 : List TTurn) : List AV := [AS u0.1, .sl 321 0 u0.2.1.length, .sl 322 0 u0.2.2.1.length, AI u0.2.2.2.1, AI u0.2.2.2.2.1, .sl 325 0 u0.2.2.2.2.2.length, AI v0.2.2.2.2.2.2.1, AI v0.2.2.2.2.2.2.2.1, .sl 1152 0 u1.length, AS u2.1, .sl 1473 0 u2.2.1.length, .sl 1474 0 u2.2.2.length, AI v0.2.2.2.2.2.2.2.2.2.2.2.2.1, AS v0.2.2.2.2.2.2.2.2.2.2.2.2.2.1, AI v0.2.2.2.2.2.2.2.2.2.2.2.2.2.2.1, AI v0.2.2.2.2.2.2.2.2.2.2.2.2.2.2.2.1, AI v0.2.2.2.2.2.2.2.2.2.2.2.2.2.2.2.2.1, .sl 3072 0 u3.length]
@[simp] abbrev K1q (u0 : TRaga) (v0 : TWork) (u1 : List TNote) (u2 : TTala) (u3 : List TTurn) : List (Nat × Root) := ((128, .box (K1r u0 v0 u1 u2 u3)) :: (3072, .row true 3 (u3.map eTurn)) :: (K1o u0 v0 u1 u2))
@[simp] def res_laws_toWork (r : TWork) : RV := .one (.agg [.val (.str r.1), .row true 1 (r.2.1.map vI), .row true 1 (r.2.2.1.map vI), .val (.int .i64 r.2.2.2.1), .val (.int .i64 r.2.2.2.2.1), .row true 1 (r.2.2.2.2.2.1.map (eL 1 vI)), .val (.int .i64 r.2.2.2.2.2.2.1), .val (.int .i64 r.2.2.2.2.2.2.2.1), .row true 2 (r.2.2.2.2.2.2.2.2.1.map eNote), .val (.str r.2.2.2.2.2.2.2.2.2.1), .row true 1 (r.2.2.2.2.2.2.2.2.2.2.1.map vI), .row true 1 (r.2.2.2.2.2.2.2.2.2.2.2.1.map vI), .val (.int .i64 r.2.2.2.2.2.2.2.2.2.2.2.2.1), .val (.str r.2.2.2.2.2.2.2.2.2.2.2.2.2.1), .val (.int .i64 r.2.2.2.2.2.2.2.2.2.2.2.2.2.2.1), .val (.int .i64 r.2.2.2.2.2.2.2.2.2.2.2.2.2.2.2.1), .val (.int .i64 r.2.2.2.2.2.2.2.2.2.2.2.2.2.2.2.2.1), .row true 3 (r.2.2.2.2.2.2.2.2.2.2.2.2.2.2.2.2.2.map eTurn)])
theorem con_laws_toWork {v0 : TWork} {r : TWork} (hF : F_laws_toWork v0 = some r) : Con Tryz.prog 6 [eWork v0] (res_laws_toWork r) := by
 unfold F_laws_toWork at hF
 refine con_of c6_.1 fun N => ?_
 refine ws 0 128 (qf (.ptr 0 0 0) (K19 v0) (by simp) (qf (.ptr 64 0 0) (K1a v0) (by simp) (r_nil (ws 128 192 (qf (.ptr 128 0 0) (K1b v0) (by simp) (r_nil (ws 192 512 (qp (.ptr 0 0 0) rfl (qp (.agg [AS v0.1, AL 1 (v0.2.1.map vI), AL 1 (v0.2.2.1.map vI), AI v0.2.2.2.1, AI v0.2.2.2.2.1, AL 1 (v0.2.2.2.2.2.1.map (eL 1 vI))]) rfl (bk hF fun u0 e0 hF => qc (.agg [AS u0.1, .sl 321 0 u0.2.1.length, .sl 322 0 u0.2.2.1.length, AI u0.2.2.2.1, AI u0.2.2.2.2.1, .sl 325 0 u0.2.2.2.2.2.length]) (K1c u0 v0) false (con_laws_toRaga e0) c18_.2 (by first | rfl | simp) (by simp [res_laws_toRaga]) (qp (.ptr 128 0 0) rfl (qf0 (.undef) (K1d u0 v0) (by simp) (r_nil (ws 512 768 ?_))))))))))))))
 refine qp (.ptr 0 0 6) rfl (qp (AI v0.2.2.2.2.2.2.1) rfl (qp (.ptr 128 0 6) rfl (qf0 (.undef) (K1e u0 v0) (by simp) (r_nil (ws 768 1024 (qp (.ptr 0 0 7) rfl (qp (AI v0.2.2.2.2.2.2.2.1) rfl (qp (.ptr 128 0 7) rfl (qf0 (.undef) (K1f u0 v0) (by simp) (r_nil (ws 1024 1344 (qp (.ptr 0 0 8) rfl (qp (AL 2 (v0.2.2.2.2.2.2.2.2.1.map eNote)) rfl (bk hF fun u1 e1 hF => ?_))))))))))))))
 refine qc (.sl 1152 0 u1.length) ((1152, .row true 2 (u1.map eNote)) :: (K1f u0 v0)) false (con_laws_toNoteS e1) c19_.2 (by first | rfl | simp) (by simp [res_laws_toNoteS]) (qp (.ptr 128 0 8) rfl (qf0 (.undef) (K1h u0 v0 u1) (by simp) (r_nil (ws 1344 1664 (qp (.ptr 0 0 9) rfl (qp (.agg [AS v0.2.2.2.2.2.2.2.2.2.1, AL 1 (v0.2.2.2.2.2.2.2.2.2.2.1.map vI), AL 1 (v0.2.2.2.2.2.2.2.2.2.2.2.1.map vI)]) rfl (bk hF fun u2 e2 hF => qc (.agg [AS u2.1, .sl 1473 0 u2.2.1.length, .sl 1474 0 u2.2.2.length]) (K1i u2 u0 v0 u1) false (con_laws_toTala e2) c20_.2 (by first | rfl | simp) (by simp [res_laws_toTala]) (qp (.ptr 128 0 9) rfl (qf0 (.undef) (K1j u0 v0 u1 u2) (by simp) (r_nil (ws 1664 1920 (qp (.ptr 0 0 12) rfl (qp (AI v0.2.2.2.2.2.2.2.2.2.2.2.2.1) rfl (qp (.ptr 128 0 12) rfl ?_))))))))))))))
 refine qf0 (.undef) (K1k u0 v0 u1 u2) (by simp) (r_nil (ws 1920 2176 (qp (.ptr 0 0 13) rfl (qp (AS v0.2.2.2.2.2.2.2.2.2.2.2.2.2.1) rfl (qp (.ptr 128 0 13) rfl (qf0 (.undef) (K1l u0 v0 u1 u2) (by simp) (r_nil (ws 2176 2432 (qp (.ptr 0 0 14) rfl (qp (AI v0.2.2.2.2.2.2.2.2.2.2.2.2.2.2.1) rfl (qp (.ptr 128 0 14) rfl (qf0 (.undef) (K1m u0 v0 u1 u2) (by simp) (r_nil ?_)))))))))))))
 refine ws 2432 2688 (qp (.ptr 0 0 15) rfl (qp (AI v0.2.2.2.2.2.2.2.2.2.2.2.2.2.2.2.1) rfl (qp (.ptr 128 0 15) rfl (qf0 (.undef) (K1n u0 v0 u1 u2) (by simp) (r_nil (ws 2688 2944 (qp (.ptr 0 0 16) rfl (qp (AI v0.2.2.2.2.2.2.2.2.2.2.2.2.2.2.2.2.1) rfl (qp (.ptr 128 0 16) rfl (qf0 (.undef) (K1o u0 v0 u1 u2) (by simp) (r_nil (ws 2944 3264 ?_))))))))))))
 exact qp (.ptr 0 0 17) rfl (qp (AL 3 (v0.2.2.2.2.2.2.2.2.2.2.2.2.2.2.2.2.2.map eTurn)) rfl (bk hF fun u3 e3 hF => qc (.sl 3072 0 u3.length) ((3072, .row true 3 (u3.map eTurn)) :: (K1o u0 v0 u1 u2)) false (con_laws_toTurnS e3) c21_.2 (by first | rfl | simp) (by simp [res_laws_toTurnS]) (qp (.ptr 128 0 17) rfl (qf0 (.undef) (K1q u0 v0 u1 u2 u3) (by simp) (r_nil (ws 3264 3392 (qp (.agg (K1r u0 v0 u1 u2 u3)) rfl (qf0 (.undef) ((64, .box (K1r u0 v0 u1 u2 u3)) :: (K1q u0 v0 u1 u2 u3)) (by simp) (rR hF)))))))))

def c116 : MC := (sr [pT 2 (.mv cf)] (sr [mvt 3 0, pT 4 (.bin .geq t3 (.c (.int .u8 97))), mvt 5 4, nT 6 5 t0, kT 7 5 (.bin .leq t6 (.c (.int .u8 122))), pT 8 (.pick t5 t7 cf), mvt 2 8] .ret))
theorem c116_ : IsF Tryz.prog 116 c116 [(.tmp 2)] := ⟨by kernel_rfl, by kernel_rfl⟩

def F_spec_l01Small (v0 : Int) : Option (Bool) :=
 (bif (decide ((97 : Int) ≤ v0)) then some (decide (v0 ≤ (122 : Int)))
 else some false)
@[simp] def res_spec_l01Small (r : Bool) : RV := .one (.one (.val (.bool r)))
theorem con_spec_l01Small {v0 : Int} {r : Bool} (hF : F_spec_l01Small v0 = some r) : Con Tryz.prog 116 [.int .u8 v0] (res_spec_l01Small r) := by
 unfold F_spec_l01Small at hF
 refine con_of c116_.1 fun N => ?_
 refine ws 0 64 (qp (AB false) rfl (r_nil (ws 64 512 (qp (.val none (.int .u8 v0)) rfl (qp (AB (decide ((97 : Int) ≤ v0))) rfl (qp (AB (decide ((97 : Int) ≤ v0))) rfl (q_case 5 hF rfl (fun hF => qg (.val none (.int .u8 v0)) rfl rfl (qg (AB (decide (v0 ≤ (122 : Int)))) rfl rfl (qp (AB (decide (v0 ≤ (122 : Int)))) rfl (qp (AB (decide (v0 ≤ (122 : Int)))) rfl (rR hF))))) fun hF => ?_)))))))
 exact qn2 (qp (AB false) rfl (qp (AB false) rfl (rR hF)))

def c117 : MC := (sr [pT 2 (.mv cf)] (sr [mvt 3 0, pT 4 (.bin .geq t3 (.c (.int .u8 48))), mvt 5 4, nT 6 5 t0, kT 7 5 (.bin .leq t6 (.c (.int .u8 57))), pT 8 (.pick t5 t7 cf), mvt 2 8] .ret))
theorem c117_ : IsF Tryz.prog 117 c117 [(.tmp 2)] := ⟨by kernel_rfl, by kernel_rfl⟩

def F_spec_l01Digit (v0 : Int) : Option (Bool) :=
 (bif (decide ((48 : Int) ≤ v0)) then some (decide (v0 ≤ (57 : Int)))
 else some false)
@[simp] def res_spec_l01Digit (r : Bool) : RV := .one (.one (.val (.bool r)))
theorem con_spec_l01Digit {v0 : Int} {r : Bool} (hF : F_spec_l01Digit v0 = some r) : Con Tryz.prog 117 [.int .u8 v0] (res_spec_l01Digit r) := by
 unfold F_spec_l01Digit at hF
 refine con_of c117_.1 fun N => ?_
 refine ws 0 64 (qp (AB false) rfl (r_nil (ws 64 512 (qp (.val none (.int .u8 v0)) rfl (qp (AB (decide ((48 : Int) ≤ v0))) rfl (qp (AB (decide ((48 : Int) ≤ v0))) rfl (q_case 5 hF rfl (fun hF => qg (.val none (.int .u8 v0)) rfl rfl (qg (AB (decide (v0 ≤ (57 : Int)))) rfl rfl (qp (AB (decide (v0 ≤ (57 : Int)))) rfl (qp (AB (decide (v0 ≤ (57 : Int)))) rfl (rR hF))))) fun hF => ?_)))))))
 exact qn2 (qp (AB false) rfl (qp (AB false) rfl (rR hF)))

def c84 : MC := (sr [pT 2 (.mv cf)] (.seq (sr [mvt 4 0, pT 5 (.bin .eql t4 (.c (.str []))), mvt 6 5, nF 7 6 t0, kF 8 6 (.lens t7), kF 9 6 (.bin .gtr t8 (ci 10)), pT 10 (.pick t6 ct t9), mvt 11 10, nF 12 11 t0, kF 13 11 (.ixs t12 (ci 0)), ⟨(some 14), (some (11, false)), (.call true 116 [t13])⟩, kF 15 11 (.not t14), pT 16 (.pick t11 ct t15)] (.cond t16 (sr [pT 2 (.mv cf)] .ret) .skip)) (.seq (sr [pT 3 (.mv (ci 0))] (.block 0 (.loop (.seq (sr [mvt 17 3, mvt 18 0, pT 19 (.lens t18), bT 20 .lss t17 t19] (cx t20 0)) (.seq (.block 1 (sr [mvt 23 0, mvt 24 3, pT 25 (.ixs t23 t24), dT 26 116 [t25], pT 27 (.not t26), mvt 28 27, nT 29 28 t0, nT 30 28 t3, kT 31 28 (.ixs t29 t30), ⟨(some 32), (some (28, true)), (.call true 117 [t31])⟩, kT 33 28 (.not t32), pT 34 (.pick t28 t33 cf)] (.cond t34 (sr [pT 2 (.mv cf)] .ret) .skip))) (.reg [mvt 21 3, bT 22 .add t21 (ci 1), mvt 3 22])))))) (sr [pT 2 (.mv ct)] .ret))))
theorem c84_ : IsF Tryz.prog 84 c84 [(.tmp 2)] := ⟨by kernel_rfl, by kernel_rfl⟩

def F_spec_l01Name_l0 (v0 : List UInt8) (k1 : Int → Option (Bool)) : Int → Option (Bool)
 | x3 => (bif (decide (x3 < (v0.length : Int))) then ((ix v0 x3).bind fun u10 => ((F_spec_l01Small (u10.toNat : Int)).bind fun u11 => (bif (!u11) then ((ix v0 x3).bind fun u12 => ((F_spec_l01Digit (u12.toNat : Int)).bind fun u13 => (bif (!u13) then some false
 else k1 (w64 (x3 + 1)))))
 else k1 (w64 (x3 + 1)))))
 else some true)
def F_spec_l01Name (v0 : List UInt8) : Option (Bool) :=
 (bif (decide (v0 = [])) then some false
 else (bif (decide ((10 : Int) < (v0.length : Int))) then some false
 else ((ix v0 0).bind fun u0 => ((F_spec_l01Small (u0.toNat : Int)).bind fun u1 => (bif (!u1) then some false
 else loop (F_spec_l01Name_l0 v0) 0)))))
@[simp] def res_spec_l01Name (r : Bool) : RV := .one (.one (.val (.bool r)))
theorem con_spec_l01Name {v0 : List UInt8} {r : Bool} (hF : F_spec_l01Name v0 = some r) : Con Tryz.prog 84 [.str v0] (res_spec_l01Name r) := by
 unfold F_spec_l01Name at hF
 refine con_of c84_.1 fun N => ?_
 refine ws 0 64 (qp (AB false) rfl (r_nil (w_seq (ws 64 896 (qp (AS v0) rfl (qp (AB (decide (v0 = []))) rfl (qp (AB (decide (v0 = []))) rfl ?_)))))))
 refine q_case 6 hF rfl (fun hF => qn3 (qp (AB true) rfl (qp (AB true) rfl (qn3 (qn rfl (qp (AB true) rfl (r_nil (w_true rfl (ws 896 960 (qp (AB false) rfl (r_nil (w_ret (thenQ_r (eQ hF)))))))))))))) fun hF => ?_
 refine qg (AS v0) rfl rfl (qg (AI (v0.length : Int)) rfl rfl (qg (AB (decide ((10 : Int) < (v0.length : Int)))) rfl rfl (qp (AB (decide ((10 : Int) < (v0.length : Int)))) rfl (qp (AB (decide ((10 : Int) < (v0.length : Int)))) rfl (q_case 11 hF rfl (fun hF => qn4 (qp (AB true) rfl (r_nil (w_true rfl (ws 896 960 (qp (AB false) rfl (r_nil (w_ret (thenQ_r (eQ hF)))))))))) fun hF => ?_)))))
 refine qg (AS v0) rfl rfl (bk hF fun u0 e0 hF => qg (.val none (.int .u8 (u0.toNat : Int))) rfl (ev_ixs rfl rfl e0) (bk hF fun u1 e1 hF => qG (AB u1) [] (con_spec_l01Small e1) c116_ (qg (AB (!u1)) rfl rfl (qp (AB (!u1)) rfl (r_nil (cF hF (fun hF => ws 896 960 (qp (AB false) rfl (r_nil (w_ret (thenQ_r (eQ hF)))))) fun hF => ?_))))))
 refine w_skip (thenQ_n (w_seq (ws 896 960 (qp (AI 0) rfl (r_nil (w_block ?_))))))
 refine wr (l' := [(0, AS v0), (3, AI 0)]) (L := []) [0, 3] [] 1 ?_
 refine w_loopF (F_spec_l01Name_l0 v0) (fun s : Int => mkS [(0, AS v0), (3, AI s)] (fo []) 1) hF ?_
 rintro k1 x3 hF
 rw [F_spec_l01Name_l0] at hF
 try dsimp only
 refine w_seq (ws 1 257 (qp (AI x3) rfl (qp (AS v0) rfl (qp (AI (v0.length : Int)) rfl (qp (AB (decide (x3 < (v0.length : Int)))) rfl (r_nil ?_))))))
 refine cF hF (fun hF => ?_) fun hF => ?_
 ·
  refine w_skip (thenQ_n (w_seq (w_block (ws 257 1025 (qp (AS v0) rfl (qp (AI x3) rfl (bk hF fun u10 e10 hF => qp (.val none (.int .u8 (u10.toNat : Int))) (ev_ixs rfl rfl e10) (bk hF fun u11 e11 hF => qC (AB u11) [] (con_spec_l01Small e11) c116_ (qp (AB (!u11)) rfl (qp (AB (!u11)) rfl ?_))))))))))
  refine q_case 28 hF rfl (fun hF => ?_) (fun hF => ?_)
  ·
   refine qg (AS v0) rfl rfl (qg (AI x3) rfl rfl (bk hF fun u12 e12 hF => qg (.val none (.int .u8 (u12.toNat : Int))) rfl (ev_ixs rfl rfl e12) (bk hF fun u13 e13 hF => qG (AB u13) [] (con_spec_l01Digit e13) c117_ (qg (AB (!u13)) rfl rfl (qp (AB (!u13)) rfl (r_nil (cF hF (fun hF => ws 1025 1089 (qp (AB false) rfl (r_nil (w_ret (blockQ_r (thenQ_r (thenQ_r (blockQ_r (thenQ_r (eQ hF)))))))))) fun hF => ?_)))))))
   refine w_skip (blockQ_n (thenQ_n (w_reg 1025 1217 rfl rfl (qp (AI x3) rfl (qp (AI (w64 (x3 + 1))) rfl (qp (AI (w64 (x3 + 1))) rfl (r_nil (thenQ_n ?_))))))))
   refine ar (l' := [(0, AS v0), (3, AI (w64 (x3 + 1)))]) (L := []) [0, 3] [] 1 ⟨_, by rfl, hF⟩
  refine qn5 (qp (AB false) rfl (r_nil (w_false rfl (w_skip (blockQ_n (thenQ_n (w_reg 1025 1217 rfl rfl (qp (AI x3) rfl (qp (AI (w64 (x3 + 1))) rfl (qp (AI (w64 (x3 + 1))) rfl (r_nil ?_)))))))))))
  refine thenQ_n ?_
  refine ar (l' := [(0, AS v0), (3, AI (w64 (x3 + 1)))]) (L := []) [0, 3] [] 1 ⟨_, by rfl, hF⟩
 exact w_exit (thenQ_e (thenQ_e (blockQ_e (thenQ_n (ws 257 321 (qp (AB true) rfl (rR hF)))))))

def c56 : MC := (sr [pT 6 (.mv cf)] (sr [mvt 7 0, mvt 8 1, bT 9 .geq t7 t8, mvt 10 9, nT 11 10 t0, nT 12 10 t2, kT 13 10 (.bin .leq t11 t12), pT 14 (.pick t10 t13 cf), mvt 6 14] .ret))
theorem c56_ : IsF Tryz.prog 56 c56 [(.tmp 6)] := ⟨by kernel_rfl, by kernel_rfl⟩

def F_spec_l00In (v0 : Int) (v1 : Int) (v2 : Int) : Option (Bool) :=
 (bif (decide (v1 ≤ v0)) then some (decide (v0 ≤ v2))
 else some false)
@[simp] def res_spec_l00In (r : Bool) : RV := .one (.one (.val (.bool r)))
theorem con_spec_l00In {v0 : Int} {v1 : Int} {v2 : Int} {r : Bool} (hF : F_spec_l00In v0 v1 v2 = some r) : Con Tryz.prog 56 [.int .i64 v0, .int .i64 v1, .int .i64 v2] (res_spec_l00In r) := by
 unfold F_spec_l00In at hF
 refine con_of c56_.1 fun N => ?_
 refine ws 0 64 (qp (AB false) rfl (r_nil (ws 64 640 (qp (AI v0) rfl (qp (AI v1) rfl (qp (AB (decide (v1 ≤ v0))) rfl (qp (AB (decide (v1 ≤ v0))) rfl (q_case 10 hF rfl (fun hF => qg (AI v0) rfl rfl (qg (AI v2) rfl rfl (qg (AB (decide (v0 ≤ v2))) rfl rfl (qp (AB (decide (v0 ≤ v2))) rfl (qp (AB (decide (v0 ≤ v2))) rfl (rR hF)))))) fun hF => ?_))))))))
 exact qn3 (qp (AB false) rfl (qp (AB false) rfl (rR hF)))

def c93 : MC := (sr [pT 6 (.mv cf)] (.seq (sr [pT 7 (.mv (ci 0))] (.block 0 (.loop (.seq (sr [mvt 8 7, mvt 9 0, zT 10 9, bT 11 .lss t8 t10] (cx t11 0)) (.seq (.block 1 (sr [mP 14 t0, mP 15 t7, iF 16 14 15 1, lF 17 16, mP 18 t1, mP 19 t2, dF 20 56 [t17, t18, t19], pF 21 (.not t20), mP 22 t21, mF 23 22 t7, bH 24 22 .gtr t23 (ci 0), mF 25 22 t24, mT 26 25 t0, mT 27 25 t7, bG 28 25 .sub t27 (ci 1), iG 29 25 26 28 1, lG 30 25 29, mT 31 25 t0, mT 32 25 t7, iG 33 25 31 32 1, lG 34 25 33, bG 35 25 .geq t30 t34, gF 36 22 (.pick t25 t35 cf), pF 37 (.pick t22 ct t36)] (.cond t37 (sr [pT 6 (.mv cf)] .ret) .skip))) (.reg [mvt 12 7, bT 13 .add t12 (ci 1), mvt 7 13])))))) (sr [pT 6 (.mv ct)] .ret)))
theorem c93_ : IsF Tryz.prog 93 c93 [(.tmp 6)] := ⟨by kernel_rfl, by kernel_rfl⟩

def F_spec_l00Rises_l0 (v0 : List Int) (v1 : Int) (v2 : Int) (k0 : Int → Option (Bool)) : Int → Option (Bool)
 | x1 => (bif (decide (x1 < (v0.length : Int))) then ((ix v0 x1).bind fun u0 => ((F_spec_l00In u0 v1 v2).bind fun u1 => (bif (!u1) then some false
 else (bif (decide ((0 : Int) < x1)) then ((ix v0 (w64 (x1 - 1))).bind fun u2 => ((ix v0 x1).bind fun u3 => (bif (decide (u3 ≤ u2)) then some false
 else k0 (w64 (x1 + 1)))))
 else k0 (w64 (x1 + 1))))))
 else some true)
def F_spec_l00Rises (v0 : List Int) (v1 : Int) (v2 : Int) : Option (Bool) :=
 loop (F_spec_l00Rises_l0 v0 v1 v2) 0
@[simp] abbrev K1s (v0 : List Int) : V := .sl 1 (v0.map vI)
@[simp] def res_spec_l00Rises (r : Bool) : RV := .one (.one (.val (.bool r)))
theorem con_spec_l00Rises {v0 : List Int} {v1 : Int} {v2 : Int} {r : Bool} (hF : F_spec_l00Rises v0 v1 v2 = some r) : Con Tryz.prog 93 [.sl 1 (v0.map vI), .int .i64 v1, .int .i64 v2] (res_spec_l00Rises r) := by
 unfold F_spec_l00Rises at hF
 refine con_of c93_.1 fun N => ?_
 refine ws 0 64 (qp (AB false) rfl (r_nil (w_seq (ws 64 128 (qp (AI 0) rfl (r_nil (w_block ?_)))))))
 refine wr (l' := [(0, .val none (K1s v0)), (1, AI v1), (2, AI v2), (7, AI 0)]) (L := []) [0, 1, 2, 7] [] 1 ?_
 refine w_loopF (F_spec_l00Rises_l0 v0 v1 v2) (fun s : Int => mkS [(0, .val none (K1s v0)), (1, AI v1), (2, AI v2), (7, AI s)] (fo []) 1) hF ?_
 rintro k0 x1 hF
 rw [F_spec_l00Rises_l0] at hF
 try dsimp only
 refine w_seq (ws 1 257 (qp (AI x1) rfl (qp (.val none (K1s v0)) rfl (qp (AI (v0.length : Int)) (ev_len_n rfl) (qp (AB (decide (x1 < (v0.length : Int)))) rfl (r_nil ?_))))))
 refine cF hF (fun hF => ?_) fun hF => ?_
 ·
  refine w_skip (thenQ_n (w_seq (w_block (ws 257 1793 (qp (.val none (K1s v0)) rfl (qp (AI x1) rfl (bk hF fun u0 e0 hF => qp (.val none (.ptr [.int .i64 u0])) (ev_iad_n rfl rfl e0 rfl) (qp (AI u0) rfl (qp (AI v1) rfl (qp (AI v2) rfl (bk hF fun u1 e1 hF => qC (AB u1) [] (con_spec_l00In e1) c56_ (qp (AB (!u1)) rfl (qp (AB (!u1)) rfl ?_)))))))))))))
  refine q_case 22 hF rfl (fun hF => ?_) (fun hF => ?_)
  ·
   refine qn3 (qu rfl (qu rfl (qu rfl (qu rfl (qu rfl (qu rfl (qu rfl (qu rfl (qu rfl (qu rfl (qn rfl (qp (AB true) rfl (r_nil ?_)))))))))))))
   exact w_true rfl (ws 1793 1857 (qp (AB false) rfl (r_nil (w_ret (blockQ_r (thenQ_r (thenQ_r (blockQ_r (thenQ_r (eQ hF))))))))))
  refine qg (AI x1) rfl rfl (qg (AB (decide ((0 : Int) < x1))) rfl rfl (qg (AB (decide ((0 : Int) < x1))) rfl rfl ?_))
  refine q_case 25 hF rfl (fun hF => ?_) (fun hF => ?_)
  ·
   refine qg (.val none (K1s v0)) rfl rfl (qg (AI x1) rfl rfl (qg (AI (w64 (x1 - 1))) rfl rfl (bk hF fun u2 e2 hF => qg (.val none (.ptr [.int .i64 u2])) rfl (ev_iad_n rfl rfl e2 rfl) (qg (AI u2) rfl rfl (qg (.val none (K1s v0)) rfl rfl (qg (AI x1) rfl rfl (bk hF fun u3 e3 hF => qg (.val none (.ptr [.int .i64 u3])) rfl (ev_iad_n rfl rfl e3 rfl) (qg (AI u3) rfl rfl (qg (AB (decide (u3 ≤ u2))) rfl rfl (qg (AB (decide (u3 ≤ u2))) rfl rfl (qp (AB (decide (u3 ≤ u2))) rfl (r_nil ?_))))))))))))
   refine cF hF (fun hF => ws 1793 1857 (qp (AB false) rfl (r_nil (w_ret (blockQ_r (thenQ_r (thenQ_r (blockQ_r (thenQ_r (eQ hF)))))))))) fun hF => ?_
   refine w_skip (blockQ_n (thenQ_n (w_reg 1793 1985 rfl rfl (qp (AI x1) rfl (qp (AI (w64 (x1 + 1))) rfl (qp (AI (w64 (x1 + 1))) rfl (r_nil (thenQ_n ?_))))))))
   refine ar (l' := [(0, .val none (K1s v0)), (1, AI v1), (2, AI v2), (7, AI (w64 (x1 + 1)))]) (L := []) [0, 1, 2, 7] [] 1 ⟨_, by rfl, hF⟩
  refine qn8 (qn2 (qg (AB false) rfl rfl (qp (AB false) rfl (r_nil (w_false rfl (w_skip (blockQ_n (thenQ_n (w_reg 1793 1985 rfl rfl ?_)))))))))
  refine qp (AI x1) rfl (qp (AI (w64 (x1 + 1))) rfl (qp (AI (w64 (x1 + 1))) rfl (r_nil (thenQ_n ?_))))
  refine ar (l' := [(0, .val none (K1s v0)), (1, AI v1), (2, AI v2), (7, AI (w64 (x1 + 1)))]) (L := []) [0, 1, 2, 7] [] 1 ⟨_, by rfl, hF⟩
 exact w_exit (thenQ_e (thenQ_e (blockQ_e (thenQ_n (ws 257 321 (qp (AB true) rfl (rR hF)))))))

def c85 : MC := (sr [pT 2 (.mv cf)] (sr [mvt 3 0, zT 4 3, bT 5 .geq t4 (ci 5), mvt 6 5, nT 7 6 t0, ⟨(some 8), (some (6, true)), (.call true 93 [t7, (ci 0), (ci 11)])⟩, pT 9 (.pick t6 t8 cf), mvt 10 9, nT 11 10 t0, kT 12 10 (.iad t11 (ci 0) 1), kT 13 10 (.ld t12 1 false), kT 14 10 (.bin .eql t13 (ci 0)), pT 15 (.pick t10 t14 cf), mvt 2 15] .ret))
theorem c85_ : IsF Tryz.prog 85 c85 [(.tmp 2)] := ⟨by kernel_rfl, by kernel_rfl⟩

def F_spec_l03Scale (v0 : List Int) : Option (Bool) :=
 (bif (decide ((5 : Int) ≤ (v0.length : Int))) then ((F_spec_l00Rises v0 0 11).bind fun u0 => (bif u0 then ((ix v0 0).bind fun u1 => some (decide (u1 = (0 : Int))))
 else some false))
 else some false)
@[simp] def res_spec_l03Scale (r : Bool) : RV := .one (.one (.val (.bool r)))
theorem con_spec_l03Scale {v0 : List Int} {r : Bool} (hF : F_spec_l03Scale v0 = some r) : Con Tryz.prog 85 [.sl 1 (v0.map vI)] (res_spec_l03Scale r) := by
 unfold F_spec_l03Scale at hF
 refine con_of c85_.1 fun N => ?_
 refine ws 0 64 (qp (AB false) rfl (r_nil (ws 64 960 (qp (AL 1 (v0.map vI)) rfl (qp (AI (v0.length : Int)) (ev_len_n rfl) (qp (AB (decide ((5 : Int) ≤ (v0.length : Int)))) rfl (qp (AB (decide ((5 : Int) ≤ (v0.length : Int)))) rfl ?_)))))))
 refine q_case 6 hF rfl (fun hF => ?_) (fun hF => ?_)
 ·
  refine qg (AL 1 (v0.map vI)) rfl rfl (bk hF fun u0 e0 hF => qG (AB u0) [] (con_spec_l00Rises e0) c93_ (qp (AB u0) rfl (qp (AB u0) rfl (q_case 10 hF rfl (fun hF => qg (AL 1 (v0.map vI)) rfl rfl (bk hF fun u1 e1 hF => qg (.val none (.ptr [.int .i64 u1])) rfl (ev_iad_n rfl rfl e1 rfl) (qg (AI u1) rfl rfl (qg (AB (decide (u1 = (0 : Int)))) rfl rfl (qp (AB (decide (u1 = (0 : Int)))) rfl (qp (AB (decide (u1 = (0 : Int)))) rfl (rR hF))))))) fun hF => ?_))))
  exact qn4 (qp (AB false) rfl (qp (AB false) rfl (rR hF)))
 exact qn2 (qp (AB false) rfl (qp (AB false) rfl (qn4 (qp (AB false) rfl (qp (AB false) rfl (rR hF))))))

def c95 : MC := (sr [pT 4 (.mv cf)] (.seq (sr [pT 5 (.mv (ci 0))] (.block 0 (.loop (.seq (sr [mvt 6 5, mvt 7 0, zT 8 7, bT 9 .lss t6 t8] (cx t9 0)) (.seq (.block 1 (sr [mvt 12 0, mvt 13 5, iT 14 12 13 1, lT 15 14, mvt 16 1, bT 17 .eql t15 t16] (.cond t17 (sr [pT 4 (.mv ct)] .ret) .skip))) (.reg [mvt 10 5, bT 11 .add t10 (ci 1), mvt 5 11])))))) (sr [pT 4 (.mv cf)] .ret)))
theorem c95_ : IsF Tryz.prog 95 c95 [(.tmp 4)] := ⟨by kernel_rfl, by kernel_rfl⟩

def F_spec_l00Has_l0 (v0 : List Int) (v1 : Int) (k0 : Int → Option (Bool)) : Int → Option (Bool)
 | x1 => (bif (decide (x1 < (v0.length : Int))) then ((ix v0 x1).bind fun u0 => (bif (decide (u0 = v1)) then some true
 else k0 (w64 (x1 + 1))))
 else some false)
def F_spec_l00Has (v0 : List Int) (v1 : Int) : Option (Bool) :=
 loop (F_spec_l00Has_l0 v0 v1) 0
@[simp] def res_spec_l00Has (r : Bool) : RV := .one (.one (.val (.bool r)))
theorem con_spec_l00Has {v0 : List Int} {v1 : Int} {r : Bool} (hF : F_spec_l00Has v0 v1 = some r) : Con Tryz.prog 95 [.sl 1 (v0.map vI), .int .i64 v1] (res_spec_l00Has r) := by
 unfold F_spec_l00Has at hF
 refine con_of c95_.1 fun N => ?_
 refine ws 0 64 (qp (AB false) rfl (r_nil (w_seq (ws 64 128 (qp (AI 0) rfl (r_nil (w_block ?_)))))))
 refine wr (l' := [(0, AL 1 (v0.map vI)), (1, AI v1), (5, AI 0)]) (L := []) [0, 1, 5] [] 1 ?_
 refine w_loopF (F_spec_l00Has_l0 v0 v1) (fun s : Int => mkS [(0, AL 1 (v0.map vI)), (1, AI v1), (5, AI s)] (fo []) 1) hF ?_
 rintro k0 x1 hF
 rw [F_spec_l00Has_l0] at hF
 try dsimp only
 refine w_seq (ws 1 257 (qp (AI x1) rfl (qp (AL 1 (v0.map vI)) rfl (qp (AI (v0.length : Int)) (ev_len_n rfl) (qp (AB (decide (x1 < (v0.length : Int)))) rfl (r_nil ?_))))))
 refine cF hF (fun hF => ?_) fun hF => ?_
 ·
  refine w_skip (thenQ_n (w_seq (w_block (ws 257 641 (qp (AL 1 (v0.map vI)) rfl (qp (AI x1) rfl (bk hF fun u0 e0 hF => qp (.val none (.ptr [.int .i64 u0])) (ev_iad_n rfl rfl e0 rfl) (qp (AI u0) rfl (qp (AI v1) rfl (qp (AB (decide (u0 = v1))) rfl (r_nil ?_)))))))))))
  refine cF hF (fun hF => ws 641 705 (qp (AB true) rfl (r_nil (w_ret (blockQ_r (thenQ_r (thenQ_r (blockQ_r (thenQ_r (eQ hF)))))))))) fun hF => ?_
  refine w_skip (blockQ_n (thenQ_n (w_reg 641 833 rfl rfl (qp (AI x1) rfl (qp (AI (w64 (x1 + 1))) rfl (qp (AI (w64 (x1 + 1))) rfl (r_nil (thenQ_n ?_))))))))
  refine ar (l' := [(0, AL 1 (v0.map vI)), (1, AI v1), (5, AI (w64 (x1 + 1)))]) (L := []) [0, 1, 5] [] 1 ⟨_, by rfl, hF⟩
 exact w_exit (thenQ_e (thenQ_e (blockQ_e (thenQ_n (ws 257 321 (qp (AB false) rfl (rR hF)))))))

def c86 : MC := (sr [pT 4 (.mv cf)] (sr [mvt 5 0, pT 6 (.nck t5), pT 7 (.fad t6 1), lT 8 7, mvt 9 1, dT 10 95 [t8, t9], mvt 11 10, nF 12 11 t0, kF 13 11 (.nck t12), kF 14 11 (.fad t13 2), kF 15 11 (.ld t14 1 false), nF 16 11 t1, ⟨(some 17), (some (11, false)), (.call true 95 [t15, t16])⟩, pT 18 (.pick t11 ct t17), mvt 4 18] .ret))
theorem c86_ : IsF Tryz.prog 86 c86 [(.tmp 4)] := ⟨by kernel_rfl, by kernel_rfl⟩

def F_spec_l05Tone (v0 : TRaga) (v1 : Int) : Option (Bool) :=
 ((F_spec_l00Has v0.2.1 v1).bind fun u0 => (bif u0 then some true
 else ((F_spec_l00Has v0.2.2.1 v1).bind fun u1 => some u1)))
@[simp] abbrev K1t (v0 : TRaga) : AV := .val none (.ptr [.str v0.1, .sl 1 (v0.2.1.map vI), .sl 1 (v0.2.2.1.map vI), .int .i64 v0.2.2.2.1, .int .i64 v0.2.2.2.2.1, .sl 1 (v0.2.2.2.2.2.map (eL 1 vI))])
@[simp] def res_spec_l05Tone (r : Bool) : RV := .one (.one (.val (.bool r)))
theorem con_spec_l05Tone {v0 : TRaga} {v1 : Int} {r : Bool} (hF : F_spec_l05Tone v0 v1 = some r) : Con Tryz.prog 86 [.ptr [.str v0.1, .sl 1 (v0.2.1.map vI), .sl 1 (v0.2.2.1.map vI), .int .i64 v0.2.2.2.1, .int .i64 v0.2.2.2.2.1, .sl 1 (v0.2.2.2.2.2.map (eL 1 vI))], .int .i64 v1] (res_spec_l05Tone r) := by
 unfold F_spec_l05Tone at hF
 refine con_of c86_.1 fun N => ?_
 refine ws 0 64 (qp (AB false) rfl (r_nil (ws 64 1024 (qp (K1t v0) rfl (qp (K1t v0) rfl (qp (.val none (.ptr [.sl 1 (v0.2.1.map vI), .sl 1 (v0.2.2.1.map vI), .int .i64 v0.2.2.2.1, .int .i64 v0.2.2.2.2.1, .sl 1 (v0.2.2.2.2.2.map (eL 1 vI))])) rfl (qp (AL 1 (v0.2.1.map vI)) rfl (qp (AI v1) rfl (bk hF fun u0 e0 hF => qC (AB u0) [] (con_spec_l00Has e0) c95_ (qp (AB u0) rfl (q_case 11 hF rfl (fun hF => qn6 (qp (AB true) rfl (qp (AB true) rfl (rR hF)))) fun hF => ?_)))))))))))
 exact qg (K1t v0) rfl rfl (qg (K1t v0) rfl rfl (qg (.val none (.ptr [.sl 1 (v0.2.2.1.map vI), .int .i64 v0.2.2.2.1, .int .i64 v0.2.2.2.2.1, .sl 1 (v0.2.2.2.2.2.map (eL 1 vI))])) rfl rfl (qg (AL 1 (v0.2.2.1.map vI)) rfl rfl (qg (AI v1) rfl rfl (bk hF fun u1 e1 hF => qG (AB u1) [] (con_spec_l00Has e1) c95_ (qp (AB u1) rfl (qp (AB u1) rfl (rR hF))))))))

end Go.Ab
