/- Walks (printed by auto.py, a program of this session's own). -/
import Derived.Test.YtdedhldojkdceaaGreatS0
import Derived.Test.YtdedhldojkdceaaGreatProg
import Derived.KernelRfl
import Derived.Test.YtdedhldojkdceaaGreatSQ
set_option linter.unusedVariables false
set_option linter.unusedSimpArgs false
set_option maxRecDepth 8000
set_option maxHeartbeats 8000000
noncomputable section
namespace Go.Ab
open Go.RowKit Go.Proofs

abbrev TRaga := (List UInt8) × (List Int) × (List Int) × Int × Int × (List (List Int))
@[simp] def eRaga (p : TRaga) : V := .agg [.str p.1, .sl 1 (p.2.1.map vI), .sl 1 (p.2.2.1.map vI), .int .i64 p.2.2.2.1, .int .i64 p.2.2.2.2.1, .sl 1 (p.2.2.2.2.2.map (eL 1 vI))]
abbrev TNote := Int × Int
@[simp] def eNote (p : TNote) : V := .agg [.int .i64 p.1, .int .i64 p.2]
abbrev TTuning := (List UInt8) × (List TNote)
@[simp] def eTuning (p : TTuning) : V := .agg [.str p.1, .sl 2 (p.2.map eNote)]
abbrev TSyllable := (List UInt8) × Int × Int
@[simp] def eSyllable (p : TSyllable) : V := .agg [.str p.1, .int .i64 p.2.1, .int .i64 p.2.2]
abbrev TItem := (List UInt8) × Int × Int × Int × Int × Int
@[simp] def eItem (p : TItem) : V := .agg [.str p.1, .int .i64 p.2.1, .int .i64 p.2.2.1, .int .i64 p.2.2.2.1, .int .i64 p.2.2.2.2.1, .int .i64 p.2.2.2.2.2]
abbrev TLesson := Int × (List UInt8) × (List UInt8) × Int × Int
@[simp] def eLesson (p : TLesson) : V := .agg [.int .i64 p.1, .str p.2.1, .str p.2.2.1, .int .i64 p.2.2.2.1, .int .i64 p.2.2.2.2]
abbrev TPerson := (List UInt8) × Int × (List (List UInt8))
@[simp] def ePerson (p : TPerson) : V := .agg [.str p.1, .int .i64 p.2.1, .sl 1 (p.2.2.map V.str)]
abbrev TDesk := (List UInt8) × (List Int) × (List Int) × Int × Int × (List (List Int)) × (List TNote) × (List UInt8) × (List TNote) × (List (List Int)) × (List TSyllable) × (List TNote) × (List TItem) × (List TLesson) × (List TPerson)
@[simp] def eDesk (p : TDesk) : V := .agg [.str p.1, .sl 1 (p.2.1.map vI), .sl 1 (p.2.2.1.map vI), .int .i64 p.2.2.2.1, .int .i64 p.2.2.2.2.1, .sl 1 (p.2.2.2.2.2.1.map (eL 1 vI)), .sl 2 (p.2.2.2.2.2.2.1.map eNote), .str p.2.2.2.2.2.2.2.1, .sl 2 (p.2.2.2.2.2.2.2.2.1.map eNote), .sl 1 (p.2.2.2.2.2.2.2.2.2.1.map (eL 1 vI)), .sl 3 (p.2.2.2.2.2.2.2.2.2.2.1.map eSyllable), .sl 2 (p.2.2.2.2.2.2.2.2.2.2.2.1.map eNote), .sl 6 (p.2.2.2.2.2.2.2.2.2.2.2.2.1.map eItem), .sl 5 (p.2.2.2.2.2.2.2.2.2.2.2.2.2.1.map eLesson), .sl 3 (p.2.2.2.2.2.2.2.2.2.2.2.2.2.2.map ePerson)]
def c46 : MC := (sr [pT 4 (.mv (ci 0))] (sr [mvt 5 1, mvt 6 0, zT 7 6, bT 8 .sub t5 t7, mvt 1 8] (.seq (sr [mvt 9 1, bT 10 .lss t9 (ci 0)] (.cond t10 (sr [pT 4 (.mv (ci (-1)))] .ret) .skip)) (sr [mvt 11 1, mvt 4 11] .ret))))
theorem c46_ : IsF Tryz.prog 46 c46 [(.tmp 4)] := ⟨by kernel_rfl, by kernel_rfl⟩

def F_laws_szInt64S (v0 : List Int) (v1 : Int) : Option (Int) :=
 (bif (decide (w64 (v1 - (v0.length : Int)) < (0 : Int))) then some (-1)
 else some (w64 (v1 - (v0.length : Int))))
@[simp] def res_laws_szInt64S (r : Int) : RV := .one (.one (.val (.int .i64 r)))
theorem con_laws_szInt64S {v0 : List Int} {v1 : Int} {r : Int} (hF : F_laws_szInt64S v0 v1 = some r) : Con Tryz.prog 46 [.sl 1 (v0.map vI), .int .i64 v1] (res_laws_szInt64S r) := by
 unfold F_laws_szInt64S at hF
 refine con_of c46_.1 fun N => ?_
 refine ws 0 64 (qp (AI 0) rfl (r_nil (ws 64 384 (qp (AI v1) rfl (qp (AL 1 (v0.map vI)) rfl (qp (AI (v0.length : Int)) (ev_len_n rfl) (qp (AI (w64 (v1 - (v0.length : Int)))) rfl (qp (AI (w64 (v1 - (v0.length : Int)))) rfl (r_nil (w_seq (ws 384 512 ?_)))))))))))
 refine qp (AI (w64 (v1 - (v0.length : Int)))) rfl (qp (AB (decide (w64 (v1 - (v0.length : Int)) < (0 : Int)))) rfl (r_nil (cF hF (fun hF => ws 512 576 (qp (AI (-1)) rfl (r_nil (w_ret (thenQ_r (eQ hF)))))) fun hF => ?_)))
 exact w_skip (thenQ_n (ws 512 640 (qp (AI (w64 (v1 - (v0.length : Int)))) rfl (qp (AI (w64 (v1 - (v0.length : Int)))) rfl (rR hF)))))

def c12 : MC := (sr [pT 4 (.mv (ci 0))] (sr [mvt 6 1, mvt 7 0, zT 8 7, bT 9 .sub t6 t8, mvt 1 9] (.seq (sr [mvt 10 1, bT 11 .lss t10 (ci 0)] (.cond t11 (sr [pT 4 (.mv (ci (-1)))] .ret) .skip)) (.seq (sr [pT 5 (.mv (ci 0))] (.block 0 (.loop (.seq (sr [mvt 12 5, mvt 13 0, zT 14 13, bT 15 .lss t12 t14] (cx t15 0)) (.seq (.block 1 (sr [mvt 18 0, mvt 19 5, iT 20 18 19 1, lT 21 20, mvt 22 1, dT 23 46 [t21, t22], mvt 1 23] (sr [mvt 24 1, bT 25 .lss t24 (ci 0)] (.cond t25 (sr [pT 4 (.mv (ci (-1)))] .ret) .skip)))) (.reg [mvt 16 5, bT 17 .add t16 (ci 1), mvt 5 17])))))) (sr [mvt 26 1, mvt 4 26] .ret)))))
theorem c12_ : IsF Tryz.prog 12 c12 [(.tmp 4)] := ⟨by kernel_rfl, by kernel_rfl⟩

def F_laws_szInt64SS_l0 (v0 : List (List Int)) (k0 : Int × Int → Option (Int)) : Int × Int → Option (Int)
 | (x2, x3) => (bif (decide (x3 < (v0.length : Int))) then ((ix v0 x3).bind fun u0 => ((F_laws_szInt64S u0 x2).bind fun u1 => (bif (decide (u1 < (0 : Int))) then some (-1)
 else k0 (u1, w64 (x3 + 1)))))
 else some x2)
def F_laws_szInt64SS (v0 : List (List Int)) (v1 : Int) : Option (Int) :=
 (bif (decide (w64 (v1 - (v0.length : Int)) < (0 : Int))) then some (-1)
 else loop (F_laws_szInt64SS_l0 v0) (w64 (v1 - (v0.length : Int)), 0))
@[simp] abbrev K1 (v0 : List (List Int)) : V := .sl 1 (v0.map (eL 1 vI))
@[simp] def res_laws_szInt64SS (r : Int) : RV := .one (.one (.val (.int .i64 r)))
theorem con_laws_szInt64SS {v0 : List (List Int)} {v1 : Int} {r : Int} (hF : F_laws_szInt64SS v0 v1 = some r) : Con Tryz.prog 12 [.sl 1 (v0.map (eL 1 vI)), .int .i64 v1] (res_laws_szInt64SS r) := by
 unfold F_laws_szInt64SS at hF
 refine con_of c12_.1 fun N => ?_
 refine ws 0 64 (qp (AI 0) rfl (r_nil (ws 64 384 (qp (AI v1) rfl (qp (.val none (K1 v0)) rfl (qp (AI (v0.length : Int)) (ev_len_n rfl) (qp (AI (w64 (v1 - (v0.length : Int)))) rfl (qp (AI (w64 (v1 - (v0.length : Int)))) rfl (r_nil (w_seq (ws 384 512 ?_)))))))))))
 refine qp (AI (w64 (v1 - (v0.length : Int)))) rfl (qp (AB (decide (w64 (v1 - (v0.length : Int)) < (0 : Int)))) rfl (r_nil (cF hF (fun hF => ws 512 576 (qp (AI (-1)) rfl (r_nil (w_ret (thenQ_r (eQ hF)))))) fun hF => ?_)))
 refine w_skip (thenQ_n (w_seq (ws 512 576 (qp (AI 0) rfl (r_nil (w_block ?_))))))
 refine wr (l' := [(0, .val none (K1 v0)), (1, AI (w64 (v1 - (v0.length : Int)))), (5, AI 0)]) (L := []) [0, 1, 5] [] 1 ?_
 refine w_loopF (F_laws_szInt64SS_l0 v0) (fun s : Int × Int => mkS [(0, .val none (K1 v0)), (1, AI s.1), (5, AI s.2)] (fo []) 1) hF ?_
 rintro k0 ⟨x2, x3⟩ hF
 rw [F_laws_szInt64SS_l0] at hF
 try dsimp only
 refine w_seq (ws 1 257 (qp (AI x3) rfl (qp (.val none (K1 v0)) rfl (qp (AI (v0.length : Int)) (ev_len_n rfl) (qp (AB (decide (x3 < (v0.length : Int)))) rfl (r_nil ?_))))))
 refine cF hF (fun hF => ?_) fun hF => ?_
 ·
  refine w_skip (thenQ_n (w_seq (w_block (ws 257 705 (qp (.val none (K1 v0)) rfl (qp (AI x3) rfl (bk hF fun u0 e0 hF => qp (.val none (.ptr [.sl 1 (u0.map vI)])) (ev_iad_n rfl rfl e0 rfl) (qp (AL 1 (u0.map vI)) rfl (qp (AI x2) rfl (bk hF fun u1 e1 hF => qC (AI u1) [] (con_laws_szInt64S e1) c46_ (qp (AI u1) rfl (r_nil (ws 705 833 (qp (AI u1) rfl (qp (AB (decide (u1 < (0 : Int)))) rfl ?_)))))))))))))))
  refine r_nil (cF hF (fun hF => ws 833 897 (qp (AI (-1)) rfl (r_nil (w_ret (blockQ_r (thenQ_r (thenQ_r (blockQ_r (thenQ_r (eQ hF)))))))))) fun hF => ?_)
  refine w_skip (blockQ_n (thenQ_n (w_reg 833 1025 rfl rfl (qp (AI x3) rfl (qp (AI (w64 (x3 + 1))) rfl (qp (AI (w64 (x3 + 1))) rfl (r_nil (thenQ_n ?_))))))))
  refine ar (l' := [(0, .val none (K1 v0)), (1, AI u1), (5, AI (w64 (x3 + 1)))]) (L := []) [0, 1, 5] [] 1 ⟨_, by rfl, hF⟩
 exact w_exit (thenQ_e (thenQ_e (blockQ_e (thenQ_n (ws 257 385 (qp (AI x2) rfl (qp (AI x2) rfl (rR hF))))))))

def c9 : MC := (sr [rg 2 (.f (.box t0)), pT 4 (.mv (ci 0))] (sr [mvt 5 1, pT 6 (.fad t2 0), lT 7 6, pT 8 (.lens t7), bT 9 .sub t5 t8, mvt 1 9] (.seq (sr [mvt 10 1, bT 11 .lss t10 (ci 0)] (.cond t11 (sr [pT 4 (.mv (ci (-1)))] .ret) .skip)) (sr [pT 12 (.fad t2 1), lT 13 12, mvt 14 1, dT 15 46 [t13, t14], mvt 1 15] (.seq (sr [mvt 16 1, bT 17 .lss t16 (ci 0)] (.cond t17 (sr [pT 4 (.mv (ci (-1)))] .ret) .skip)) (sr [pT 18 (.fad t2 2), lT 19 18, mvt 20 1, dT 21 46 [t19, t20], mvt 1 21] (.seq (sr [mvt 22 1, bT 23 .lss t22 (ci 0)] (.cond t23 (sr [pT 4 (.mv (ci (-1)))] .ret) .skip)) (sr [pT 24 (.fad t2 5), lT 25 24, mvt 26 1, dT 27 12 [t25, t26], mvt 1 27] (.seq (sr [mvt 28 1, bT 29 .lss t28 (ci 0)] (.cond t29 (sr [pT 4 (.mv (ci (-1)))] .ret) .skip)) (sr [mvt 30 1, mvt 4 30] .ret))))))))))
theorem c9_ : IsF Tryz.prog 9 c9 [(.tmp 4)] := ⟨by kernel_rfl, by kernel_rfl⟩

def F_laws_szRaga (v0 : TRaga) (v1 : Int) : Option (Int) :=
 (bif (decide (w64 (v1 - (v0.1.length : Int)) < (0 : Int))) then some (-1)
 else ((F_laws_szInt64S v0.2.1 (w64 (v1 - (v0.1.length : Int)))).bind fun u0 => (bif (decide (u0 < (0 : Int))) then some (-1)
 else ((F_laws_szInt64S v0.2.2.1 u0).bind fun u1 => (bif (decide (u1 < (0 : Int))) then some (-1)
 else ((F_laws_szInt64SS v0.2.2.2.2.2 u1).bind fun u2 => (bif (decide (u2 < (0 : Int))) then some (-1)
 else some u2)))))))
@[simp] abbrev K2 (v0 : TRaga) : List (Nat × Root) := [(0, .box [AS v0.1, AL 1 (v0.2.1.map vI), AL 1 (v0.2.2.1.map vI), AI v0.2.2.2.1, AI v0.2.2.2.2.1, AL 1 (v0.2.2.2.2.2.map (eL 1 vI))])]
@[simp] def res_laws_szRaga (r : Int) : RV := .one (.one (.val (.int .i64 r)))
theorem con_laws_szRaga {v0 : TRaga} {v1 : Int} {r : Int} (hF : F_laws_szRaga v0 v1 = some r) : Con Tryz.prog 9 [eRaga v0, .int .i64 v1] (res_laws_szRaga r) := by
 unfold F_laws_szRaga at hF
 refine con_of c9_.1 fun N => ?_
 refine ws 0 128 (qf (.ptr 0 0 0) (K2 v0) (by simp) (qp (AI 0) rfl (r_nil (ws 128 512 (qp (AI v1) rfl (qp (.ptr 0 0 0) rfl (qp (AS v0.1) rfl (qp (AI (v0.1.length : Int)) rfl (qp (AI (w64 (v1 - (v0.1.length : Int)))) rfl (qp (AI (w64 (v1 - (v0.1.length : Int)))) rfl (r_nil ?_)))))))))))
 refine w_seq (ws 512 640 (qp (AI (w64 (v1 - (v0.1.length : Int)))) rfl (qp (AB (decide (w64 (v1 - (v0.1.length : Int)) < (0 : Int)))) rfl (r_nil (cF hF (fun hF => ws 640 704 (qp (AI (-1)) rfl (r_nil (w_ret (thenQ_r (eQ hF)))))) fun hF => ?_)))))
 refine w_skip (thenQ_n (ws 640 960 (qp (.ptr 0 0 1) rfl (qp (AL 1 (v0.2.1.map vI)) rfl (qp (AI (w64 (v1 - (v0.1.length : Int)))) rfl (bk hF fun u0 e0 hF => qC (AI u0) (K2 v0) (con_laws_szInt64S e0) c46_ (qp (AI u0) rfl (r_nil (w_seq (ws 960 1088 (qp (AI u0) rfl (qp (AB (decide (u0 < (0 : Int)))) rfl (r_nil ?_)))))))))))))
 refine cF hF (fun hF => ws 1088 1152 (qp (AI (-1)) rfl (r_nil (w_ret (thenQ_r (eQ hF)))))) fun hF => ?_
 refine w_skip (thenQ_n (ws 1088 1408 (qp (.ptr 0 0 2) rfl (qp (AL 1 (v0.2.2.1.map vI)) rfl (qp (AI u0) rfl (bk hF fun u1 e1 hF => qC (AI u1) (K2 v0) (con_laws_szInt64S e1) c46_ (qp (AI u1) rfl (r_nil (w_seq (ws 1408 1536 (qp (AI u1) rfl (qp (AB (decide (u1 < (0 : Int)))) rfl (r_nil ?_)))))))))))))
 refine cF hF (fun hF => ws 1536 1600 (qp (AI (-1)) rfl (r_nil (w_ret (thenQ_r (eQ hF)))))) fun hF => ?_
 refine w_skip (thenQ_n (ws 1536 1856 (qp (.ptr 0 0 5) rfl (qp (AL 1 (v0.2.2.2.2.2.map (eL 1 vI))) rfl (qp (AI u1) rfl (bk hF fun u2 e2 hF => qC (AI u2) (K2 v0) (con_laws_szInt64SS e2) c12_ (qp (AI u2) rfl (r_nil (w_seq (ws 1856 1984 (qp (AI u2) rfl (qp (AB (decide (u2 < (0 : Int)))) rfl (r_nil ?_)))))))))))))
 refine cF hF (fun hF => ws 1984 2048 (qp (AI (-1)) rfl (r_nil (w_ret (thenQ_r (eQ hF)))))) fun hF => ?_
 exact w_skip (thenQ_n (ws 1984 2112 (qp (AI u2) rfl (qp (AI u2) rfl (rR hF)))))

def c10 : MC := (sr [pT 4 (.mv (ci 0))] (sr [mvt 5 1, mvt 6 0, zT 7 6, bT 8 .sub t5 t7, mvt 1 8] (.seq (sr [mvt 9 1, bT 10 .lss t9 (ci 0)] (.cond t10 (sr [pT 4 (.mv (ci (-1)))] .ret) .skip)) (sr [mvt 11 1, mvt 4 11] .ret))))
theorem c10_ : IsF Tryz.prog 10 c10 [(.tmp 4)] := ⟨by kernel_rfl, by kernel_rfl⟩

def F_laws_szNoteS (v0 : List TNote) (v1 : Int) : Option (Int) :=
 (bif (decide (w64 (v1 - (v0.length : Int)) < (0 : Int))) then some (-1)
 else some (w64 (v1 - (v0.length : Int))))
@[simp] def res_laws_szNoteS (r : Int) : RV := .one (.one (.val (.int .i64 r)))
theorem con_laws_szNoteS {v0 : List TNote} {v1 : Int} {r : Int} (hF : F_laws_szNoteS v0 v1 = some r) : Con Tryz.prog 10 [.sl 2 (v0.map eNote), .int .i64 v1] (res_laws_szNoteS r) := by
 unfold F_laws_szNoteS at hF
 refine con_of c10_.1 fun N => ?_
 refine ws 0 64 (qp (AI 0) rfl (r_nil (ws 64 384 (qp (AI v1) rfl (qp (AL 2 (v0.map eNote)) rfl (qp (AI (v0.length : Int)) (ev_len_n rfl) (qp (AI (w64 (v1 - (v0.length : Int)))) rfl (qp (AI (w64 (v1 - (v0.length : Int)))) rfl (r_nil (w_seq (ws 384 512 ?_)))))))))))
 refine qp (AI (w64 (v1 - (v0.length : Int)))) rfl (qp (AB (decide (w64 (v1 - (v0.length : Int)) < (0 : Int)))) rfl (r_nil (cF hF (fun hF => ws 512 576 (qp (AI (-1)) rfl (r_nil (w_ret (thenQ_r (eQ hF)))))) fun hF => ?_)))
 exact w_skip (thenQ_n (ws 512 640 (qp (AI (w64 (v1 - (v0.length : Int)))) rfl (qp (AI (w64 (v1 - (v0.length : Int)))) rfl (rR hF)))))

def c47 : MC := (sr [pT 4 (.mv (ci 0))] (sr [mvt 5 1, mvt 6 0, zT 7 6, bT 8 .sub t5 t7, mvt 1 8] (.seq (sr [mvt 9 1, bT 10 .lss t9 (ci 0)] (.cond t10 (sr [pT 4 (.mv (ci (-1)))] .ret) .skip)) (sr [mvt 11 1, mvt 4 11] .ret))))
theorem c47_ : IsF Tryz.prog 47 c47 [(.tmp 4)] := ⟨by kernel_rfl, by kernel_rfl⟩

def F_laws_szRatioS (v0 : List TNote) (v1 : Int) : Option (Int) :=
 (bif (decide (w64 (v1 - (v0.length : Int)) < (0 : Int))) then some (-1)
 else some (w64 (v1 - (v0.length : Int))))
@[simp] def res_laws_szRatioS (r : Int) : RV := .one (.one (.val (.int .i64 r)))
theorem con_laws_szRatioS {v0 : List TNote} {v1 : Int} {r : Int} (hF : F_laws_szRatioS v0 v1 = some r) : Con Tryz.prog 47 [.sl 2 (v0.map eNote), .int .i64 v1] (res_laws_szRatioS r) := by
 unfold F_laws_szRatioS at hF
 refine con_of c47_.1 fun N => ?_
 refine ws 0 64 (qp (AI 0) rfl (r_nil (ws 64 384 (qp (AI v1) rfl (qp (AL 2 (v0.map eNote)) rfl (qp (AI (v0.length : Int)) (ev_len_n rfl) (qp (AI (w64 (v1 - (v0.length : Int)))) rfl (qp (AI (w64 (v1 - (v0.length : Int)))) rfl (r_nil (w_seq (ws 384 512 ?_)))))))))))
 refine qp (AI (w64 (v1 - (v0.length : Int)))) rfl (qp (AB (decide (w64 (v1 - (v0.length : Int)) < (0 : Int)))) rfl (r_nil (cF hF (fun hF => ws 512 576 (qp (AI (-1)) rfl (r_nil (w_ret (thenQ_r (eQ hF)))))) fun hF => ?_)))
 exact w_skip (thenQ_n (ws 512 640 (qp (AI (w64 (v1 - (v0.length : Int)))) rfl (qp (AI (w64 (v1 - (v0.length : Int)))) rfl (rR hF)))))

def c11 : MC := (sr [rg 2 (.f (.box t0)), pT 4 (.mv (ci 0))] (sr [mvt 5 1, pT 6 (.fad t2 0), lT 7 6, pT 8 (.lens t7), bT 9 .sub t5 t8, mvt 1 9] (.seq (sr [mvt 10 1, bT 11 .lss t10 (ci 0)] (.cond t11 (sr [pT 4 (.mv (ci (-1)))] .ret) .skip)) (sr [pT 12 (.fad t2 1), lT 13 12, mvt 14 1, dT 15 47 [t13, t14], mvt 1 15] (.seq (sr [mvt 16 1, bT 17 .lss t16 (ci 0)] (.cond t17 (sr [pT 4 (.mv (ci (-1)))] .ret) .skip)) (sr [mvt 18 1, mvt 4 18] .ret))))))
theorem c11_ : IsF Tryz.prog 11 c11 [(.tmp 4)] := ⟨by kernel_rfl, by kernel_rfl⟩

def F_laws_szTuning (v0 : TTuning) (v1 : Int) : Option (Int) :=
 (bif (decide (w64 (v1 - (v0.1.length : Int)) < (0 : Int))) then some (-1)
 else ((F_laws_szRatioS v0.2 (w64 (v1 - (v0.1.length : Int)))).bind fun u0 => (bif (decide (u0 < (0 : Int))) then some (-1)
 else some u0)))
@[simp] abbrev K3 (v0 : TTuning) : List (Nat × Root) := [(0, .box [AS v0.1, AL 2 (v0.2.map eNote)])]
@[simp] def res_laws_szTuning (r : Int) : RV := .one (.one (.val (.int .i64 r)))
theorem con_laws_szTuning {v0 : TTuning} {v1 : Int} {r : Int} (hF : F_laws_szTuning v0 v1 = some r) : Con Tryz.prog 11 [eTuning v0, .int .i64 v1] (res_laws_szTuning r) := by
 unfold F_laws_szTuning at hF
 refine con_of c11_.1 fun N => ?_
 refine ws 0 128 (qf (.ptr 0 0 0) (K3 v0) (by simp) (qp (AI 0) rfl (r_nil (ws 128 512 (qp (AI v1) rfl (qp (.ptr 0 0 0) rfl (qp (AS v0.1) rfl (qp (AI (v0.1.length : Int)) rfl (qp (AI (w64 (v1 - (v0.1.length : Int)))) rfl (qp (AI (w64 (v1 - (v0.1.length : Int)))) rfl (r_nil ?_)))))))))))
 refine w_seq (ws 512 640 (qp (AI (w64 (v1 - (v0.1.length : Int)))) rfl (qp (AB (decide (w64 (v1 - (v0.1.length : Int)) < (0 : Int)))) rfl (r_nil (cF hF (fun hF => ws 640 704 (qp (AI (-1)) rfl (r_nil (w_ret (thenQ_r (eQ hF)))))) fun hF => ?_)))))
 refine w_skip (thenQ_n (ws 640 960 (qp (.ptr 0 0 1) rfl (qp (AL 2 (v0.2.map eNote)) rfl (qp (AI (w64 (v1 - (v0.1.length : Int)))) rfl (bk hF fun u0 e0 hF => qC (AI u0) (K3 v0) (con_laws_szRatioS e0) c47_ (qp (AI u0) rfl (r_nil (w_seq (ws 960 1088 (qp (AI u0) rfl (qp (AB (decide (u0 < (0 : Int)))) rfl (r_nil ?_)))))))))))))
 refine cF hF (fun hF => ws 1088 1152 (qp (AI (-1)) rfl (r_nil (w_ret (thenQ_r (eQ hF)))))) fun hF => ?_
 exact w_skip (thenQ_n (ws 1088 1216 (qp (AI u0) rfl (qp (AI u0) rfl (rR hF)))))

def c48 : MC := (sr [rg 2 (.f (.box t0)), pT 4 (.mv (ci 0))] (sr [mvt 5 1, pT 6 (.fad t2 0), lT 7 6, pT 8 (.lens t7), bT 9 .sub t5 t8, mvt 1 9] (.seq (sr [mvt 10 1, bT 11 .lss t10 (ci 0)] (.cond t11 (sr [pT 4 (.mv (ci (-1)))] .ret) .skip)) (sr [mvt 12 1, mvt 4 12] .ret))))
theorem c48_ : IsF Tryz.prog 48 c48 [(.tmp 4)] := ⟨by kernel_rfl, by kernel_rfl⟩

def F_laws_szSyllable (v0 : TSyllable) (v1 : Int) : Option (Int) :=
 (bif (decide (w64 (v1 - (v0.1.length : Int)) < (0 : Int))) then some (-1)
 else some (w64 (v1 - (v0.1.length : Int))))
@[simp] def res_laws_szSyllable (r : Int) : RV := .one (.one (.val (.int .i64 r)))
theorem con_laws_szSyllable {v0 : TSyllable} {v1 : Int} {r : Int} (hF : F_laws_szSyllable v0 v1 = some r) : Con Tryz.prog 48 [eSyllable v0, .int .i64 v1] (res_laws_szSyllable r) := by
 unfold F_laws_szSyllable at hF
 refine con_of c48_.1 fun N => ?_
 refine ws 0 128 (qf (.ptr 0 0 0) [(0, .box [AS v0.1, AI v0.2.1, AI v0.2.2])] (by simp) (qp (AI 0) rfl (r_nil (ws 128 512 (qp (AI v1) rfl (qp (.ptr 0 0 0) rfl (qp (AS v0.1) rfl (qp (AI (v0.1.length : Int)) rfl (qp (AI (w64 (v1 - (v0.1.length : Int)))) rfl (qp (AI (w64 (v1 - (v0.1.length : Int)))) rfl (r_nil ?_)))))))))))
 refine w_seq (ws 512 640 (qp (AI (w64 (v1 - (v0.1.length : Int)))) rfl (qp (AB (decide (w64 (v1 - (v0.1.length : Int)) < (0 : Int)))) rfl (r_nil (cF hF (fun hF => ws 640 704 (qp (AI (-1)) rfl (r_nil (w_ret (thenQ_r (eQ hF)))))) fun hF => ?_)))))
 exact w_skip (thenQ_n (ws 640 768 (qp (AI (w64 (v1 - (v0.1.length : Int)))) rfl (qp (AI (w64 (v1 - (v0.1.length : Int)))) rfl (rR hF)))))

def c13 : MC := (sr [pT 4 (.mv (ci 0))] (sr [mvt 6 1, mvt 7 0, zT 8 7, bT 9 .sub t6 t8, mvt 1 9] (.seq (sr [mvt 10 1, bT 11 .lss t10 (ci 0)] (.cond t11 (sr [pT 4 (.mv (ci (-1)))] .ret) .skip)) (.seq (sr [pT 5 (.mv (ci 0))] (.block 0 (.loop (.seq (sr [mvt 12 5, mvt 13 0, zT 14 13, bT 15 .lss t12 t14] (cx t15 0)) (.seq (.block 1 (sr [mvt 18 0, mvt 19 5, iT 20 18 19 3, pT 21 (.ld t20 3 true), mvt 22 1, dT 23 48 [t21, t22], mvt 1 23] (sr [mvt 24 1, bT 25 .lss t24 (ci 0)] (.cond t25 (sr [pT 4 (.mv (ci (-1)))] .ret) .skip)))) (.reg [mvt 16 5, bT 17 .add t16 (ci 1), mvt 5 17])))))) (sr [mvt 26 1, mvt 4 26] .ret)))))
theorem c13_ : IsF Tryz.prog 13 c13 [(.tmp 4)] := ⟨by kernel_rfl, by kernel_rfl⟩

def F_laws_szSyllableS_l0 (v0 : List TSyllable) (k0 : Int × Int → Option (Int)) : Int × Int → Option (Int)
 | (x2, x3) => (bif (decide (x3 < (v0.length : Int))) then ((ix v0 x3).bind fun u0 => ((F_laws_szSyllable u0 x2).bind fun u1 => (bif (decide (u1 < (0 : Int))) then some (-1)
 else k0 (u1, w64 (x3 + 1)))))
 else some x2)
def F_laws_szSyllableS (v0 : List TSyllable) (v1 : Int) : Option (Int) :=
 (bif (decide (w64 (v1 - (v0.length : Int)) < (0 : Int))) then some (-1)
 else loop (F_laws_szSyllableS_l0 v0) (w64 (v1 - (v0.length : Int)), 0))
@[simp] def res_laws_szSyllableS (r : Int) : RV := .one (.one (.val (.int .i64 r)))
theorem con_laws_szSyllableS {v0 : List TSyllable} {v1 : Int} {r : Int} (hF : F_laws_szSyllableS v0 v1 = some r) : Con Tryz.prog 13 [.sl 3 (v0.map eSyllable), .int .i64 v1] (res_laws_szSyllableS r) := by
 unfold F_laws_szSyllableS at hF
 refine con_of c13_.1 fun N => ?_
 refine ws 0 64 (qp (AI 0) rfl (r_nil (ws 64 384 (qp (AI v1) rfl (qp (AL 3 (v0.map eSyllable)) rfl (qp (AI (v0.length : Int)) (ev_len_n rfl) (qp (AI (w64 (v1 - (v0.length : Int)))) rfl (qp (AI (w64 (v1 - (v0.length : Int)))) rfl (r_nil (w_seq (ws 384 512 ?_)))))))))))
 refine qp (AI (w64 (v1 - (v0.length : Int)))) rfl (qp (AB (decide (w64 (v1 - (v0.length : Int)) < (0 : Int)))) rfl (r_nil (cF hF (fun hF => ws 512 576 (qp (AI (-1)) rfl (r_nil (w_ret (thenQ_r (eQ hF)))))) fun hF => ?_)))
 refine w_skip (thenQ_n (w_seq (ws 512 576 (qp (AI 0) rfl (r_nil (w_block ?_))))))
 refine wr (l' := [(0, AL 3 (v0.map eSyllable)), (1, AI (w64 (v1 - (v0.length : Int)))), (5, AI 0)]) (L := []) [0, 1, 5] [] 1 ?_
 refine w_loopF (F_laws_szSyllableS_l0 v0) (fun s : Int × Int => mkS [(0, AL 3 (v0.map eSyllable)), (1, AI s.1), (5, AI s.2)] (fo []) 1) hF ?_
 rintro k0 ⟨x2, x3⟩ hF
 rw [F_laws_szSyllableS_l0] at hF
 try dsimp only
 refine w_seq (ws 1 257 (qp (AI x3) rfl (qp (AL 3 (v0.map eSyllable)) rfl (qp (AI (v0.length : Int)) (ev_len_n rfl) (qp (AB (decide (x3 < (v0.length : Int)))) rfl (r_nil ?_))))))
 refine cF hF (fun hF => ?_) fun hF => ?_
 ·
  refine w_skip (thenQ_n (w_seq (w_block (ws 257 705 (qp (AL 3 (v0.map eSyllable)) rfl (qp (AI x3) rfl (bk hF fun u0 e0 hF => qp (.val none (.ptr [.str u0.1, .int .i64 u0.2.1, .int .i64 u0.2.2])) (ev_iad_n rfl rfl e0 rfl) (qp (.val none (eSyllable u0)) rfl (qp (AI x2) rfl (bk hF fun u1 e1 hF => qC (AI u1) [] (con_laws_szSyllable e1) c48_ (qp (AI u1) rfl (r_nil (ws 705 833 (qp (AI u1) rfl (qp (AB (decide (u1 < (0 : Int)))) rfl ?_)))))))))))))))
  refine r_nil (cF hF (fun hF => ws 833 897 (qp (AI (-1)) rfl (r_nil (w_ret (blockQ_r (thenQ_r (thenQ_r (blockQ_r (thenQ_r (eQ hF)))))))))) fun hF => ?_)
  refine w_skip (blockQ_n (thenQ_n (w_reg 833 1025 rfl rfl (qp (AI x3) rfl (qp (AI (w64 (x3 + 1))) rfl (qp (AI (w64 (x3 + 1))) rfl (r_nil (thenQ_n ?_))))))))
  refine ar (l' := [(0, AL 3 (v0.map eSyllable)), (1, AI u1), (5, AI (w64 (x3 + 1)))]) (L := []) [0, 1, 5] [] 1 ⟨_, by rfl, hF⟩
 exact w_exit (thenQ_e (thenQ_e (blockQ_e (thenQ_n (ws 257 385 (qp (AI x2) rfl (qp (AI x2) rfl (rR hF))))))))

def c14 : MC := (sr [pT 4 (.mv (ci 0))] (sr [mvt 5 1, mvt 6 0, zT 7 6, bT 8 .sub t5 t7, mvt 1 8] (.seq (sr [mvt 9 1, bT 10 .lss t9 (ci 0)] (.cond t10 (sr [pT 4 (.mv (ci (-1)))] .ret) .skip)) (sr [mvt 11 1, mvt 4 11] .ret))))
theorem c14_ : IsF Tryz.prog 14 c14 [(.tmp 4)] := ⟨by kernel_rfl, by kernel_rfl⟩

def F_laws_szTempoMarkS (v0 : List TNote) (v1 : Int) : Option (Int) :=
 (bif (decide (w64 (v1 - (v0.length : Int)) < (0 : Int))) then some (-1)
 else some (w64 (v1 - (v0.length : Int))))
@[simp] def res_laws_szTempoMarkS (r : Int) : RV := .one (.one (.val (.int .i64 r)))
theorem con_laws_szTempoMarkS {v0 : List TNote} {v1 : Int} {r : Int} (hF : F_laws_szTempoMarkS v0 v1 = some r) : Con Tryz.prog 14 [.sl 2 (v0.map eNote), .int .i64 v1] (res_laws_szTempoMarkS r) := by
 unfold F_laws_szTempoMarkS at hF
 refine con_of c14_.1 fun N => ?_
 refine ws 0 64 (qp (AI 0) rfl (r_nil (ws 64 384 (qp (AI v1) rfl (qp (AL 2 (v0.map eNote)) rfl (qp (AI (v0.length : Int)) (ev_len_n rfl) (qp (AI (w64 (v1 - (v0.length : Int)))) rfl (qp (AI (w64 (v1 - (v0.length : Int)))) rfl (r_nil (w_seq (ws 384 512 ?_)))))))))))
 refine qp (AI (w64 (v1 - (v0.length : Int)))) rfl (qp (AB (decide (w64 (v1 - (v0.length : Int)) < (0 : Int)))) rfl (r_nil (cF hF (fun hF => ws 512 576 (qp (AI (-1)) rfl (r_nil (w_ret (thenQ_r (eQ hF)))))) fun hF => ?_)))
 exact w_skip (thenQ_n (ws 512 640 (qp (AI (w64 (v1 - (v0.length : Int)))) rfl (qp (AI (w64 (v1 - (v0.length : Int)))) rfl (rR hF)))))

def c49 : MC := (sr [rg 2 (.f (.box t0)), pT 4 (.mv (ci 0))] (sr [mvt 5 1, pT 6 (.fad t2 0), lT 7 6, pT 8 (.lens t7), bT 9 .sub t5 t8, mvt 1 9] (.seq (sr [mvt 10 1, bT 11 .lss t10 (ci 0)] (.cond t11 (sr [pT 4 (.mv (ci (-1)))] .ret) .skip)) (sr [mvt 12 1, mvt 4 12] .ret))))
theorem c49_ : IsF Tryz.prog 49 c49 [(.tmp 4)] := ⟨by kernel_rfl, by kernel_rfl⟩

def F_laws_szItem (v0 : TItem) (v1 : Int) : Option (Int) :=
 (bif (decide (w64 (v1 - (v0.1.length : Int)) < (0 : Int))) then some (-1)
 else some (w64 (v1 - (v0.1.length : Int))))
@[simp] abbrev K4 (v1 : Int) (v0 : TItem) : AV := AI (w64 (v1 - (v0.1.length : Int)))
@[simp] def res_laws_szItem (r : Int) : RV := .one (.one (.val (.int .i64 r)))
theorem con_laws_szItem {v0 : TItem} {v1 : Int} {r : Int} (hF : F_laws_szItem v0 v1 = some r) : Con Tryz.prog 49 [eItem v0, .int .i64 v1] (res_laws_szItem r) := by
 unfold F_laws_szItem at hF
 refine con_of c49_.1 fun N => ?_
 refine ws 0 128 (qf (.ptr 0 0 0) [(0, .box [AS v0.1, AI v0.2.1, AI v0.2.2.1, AI v0.2.2.2.1, AI v0.2.2.2.2.1, AI v0.2.2.2.2.2])] (by simp) (qp (AI 0) rfl (r_nil (ws 128 512 (qp (AI v1) rfl (qp (.ptr 0 0 0) rfl (qp (AS v0.1) rfl (qp (AI (v0.1.length : Int)) rfl (qp (K4 v1 v0) rfl (qp (K4 v1 v0) rfl (r_nil (w_seq (ws 512 640 ?_)))))))))))))
 refine qp (K4 v1 v0) rfl (qp (AB (decide (w64 (v1 - (v0.1.length : Int)) < (0 : Int)))) rfl (r_nil (cF hF (fun hF => ws 640 704 (qp (AI (-1)) rfl (r_nil (w_ret (thenQ_r (eQ hF)))))) fun hF => ?_)))
 exact w_skip (thenQ_n (ws 640 768 (qp (K4 v1 v0) rfl (qp (K4 v1 v0) rfl (rR hF)))))

def c15 : MC := (sr [pT 4 (.mv (ci 0))] (sr [mvt 6 1, mvt 7 0, zT 8 7, bT 9 .sub t6 t8, mvt 1 9] (.seq (sr [mvt 10 1, bT 11 .lss t10 (ci 0)] (.cond t11 (sr [pT 4 (.mv (ci (-1)))] .ret) .skip)) (.seq (sr [pT 5 (.mv (ci 0))] (.block 0 (.loop (.seq (sr [mvt 12 5, mvt 13 0, zT 14 13, bT 15 .lss t12 t14] (cx t15 0)) (.seq (.block 1 (sr [mvt 18 0, mvt 19 5, iT 20 18 19 6, pT 21 (.ld t20 6 true), mvt 22 1, dT 23 49 [t21, t22], mvt 1 23] (sr [mvt 24 1, bT 25 .lss t24 (ci 0)] (.cond t25 (sr [pT 4 (.mv (ci (-1)))] .ret) .skip)))) (.reg [mvt 16 5, bT 17 .add t16 (ci 1), mvt 5 17])))))) (sr [mvt 26 1, mvt 4 26] .ret)))))
theorem c15_ : IsF Tryz.prog 15 c15 [(.tmp 4)] := ⟨by kernel_rfl, by kernel_rfl⟩

def F_laws_szItemS_l0 (v0 : List TItem) (k0 : Int × Int → Option (Int)) : Int × Int → Option (Int)
 | (x2, x3) => (bif (decide (x3 < (v0.length : Int))) then ((ix v0 x3).bind fun u0 => ((F_laws_szItem u0 x2).bind fun u1 => (bif (decide (u1 < (0 : Int))) then some (-1)
 else k0 (u1, w64 (x3 + 1)))))
 else some x2)
def F_laws_szItemS (v0 : List TItem) (v1 : Int) : Option (Int) :=
 (bif (decide (w64 (v1 - (v0.length : Int)) < (0 : Int))) then some (-1)
 else loop (F_laws_szItemS_l0 v0) (w64 (v1 - (v0.length : Int)), 0))
@[simp] def res_laws_szItemS (r : Int) : RV := .one (.one (.val (.int .i64 r)))
theorem con_laws_szItemS {v0 : List TItem} {v1 : Int} {r : Int} (hF : F_laws_szItemS v0 v1 = some r) : Con Tryz.prog 15 [.sl 6 (v0.map eItem), .int .i64 v1] (res_laws_szItemS r) := by
 unfold F_laws_szItemS at hF
 refine con_of c15_.1 fun N => ?_
 refine ws 0 64 (qp (AI 0) rfl (r_nil (ws 64 384 (qp (AI v1) rfl (qp (AL 6 (v0.map eItem)) rfl (qp (AI (v0.length : Int)) (ev_len_n rfl) (qp (AI (w64 (v1 - (v0.length : Int)))) rfl (qp (AI (w64 (v1 - (v0.length : Int)))) rfl (r_nil (w_seq (ws 384 512 ?_)))))))))))
 refine qp (AI (w64 (v1 - (v0.length : Int)))) rfl (qp (AB (decide (w64 (v1 - (v0.length : Int)) < (0 : Int)))) rfl (r_nil (cF hF (fun hF => ws 512 576 (qp (AI (-1)) rfl (r_nil (w_ret (thenQ_r (eQ hF)))))) fun hF => ?_)))
 refine w_skip (thenQ_n (w_seq (ws 512 576 (qp (AI 0) rfl (r_nil (w_block ?_))))))
 refine wr (l' := [(0, AL 6 (v0.map eItem)), (1, AI (w64 (v1 - (v0.length : Int)))), (5, AI 0)]) (L := []) [0, 1, 5] [] 1 ?_
 refine w_loopF (F_laws_szItemS_l0 v0) (fun s : Int × Int => mkS [(0, AL 6 (v0.map eItem)), (1, AI s.1), (5, AI s.2)] (fo []) 1) hF ?_
 rintro k0 ⟨x2, x3⟩ hF
 rw [F_laws_szItemS_l0] at hF
 try dsimp only
 refine w_seq (ws 1 257 (qp (AI x3) rfl (qp (AL 6 (v0.map eItem)) rfl (qp (AI (v0.length : Int)) (ev_len_n rfl) (qp (AB (decide (x3 < (v0.length : Int)))) rfl (r_nil ?_))))))
 refine cF hF (fun hF => ?_) fun hF => ?_
 ·
  refine w_skip (thenQ_n (w_seq (w_block (ws 257 705 (qp (AL 6 (v0.map eItem)) rfl (qp (AI x3) rfl (bk hF fun u0 e0 hF => qp (.val none (.ptr [.str u0.1, .int .i64 u0.2.1, .int .i64 u0.2.2.1, .int .i64 u0.2.2.2.1, .int .i64 u0.2.2.2.2.1, .int .i64 u0.2.2.2.2.2])) (ev_iad_n rfl rfl e0 rfl) (qp (.val none (eItem u0)) rfl (qp (AI x2) rfl (bk hF fun u1 e1 hF => qC (AI u1) [] (con_laws_szItem e1) c49_ (qp (AI u1) rfl (r_nil (ws 705 833 (qp (AI u1) rfl (qp (AB (decide (u1 < (0 : Int)))) rfl ?_)))))))))))))))
  refine r_nil (cF hF (fun hF => ws 833 897 (qp (AI (-1)) rfl (r_nil (w_ret (blockQ_r (thenQ_r (thenQ_r (blockQ_r (thenQ_r (eQ hF)))))))))) fun hF => ?_)
  refine w_skip (blockQ_n (thenQ_n (w_reg 833 1025 rfl rfl (qp (AI x3) rfl (qp (AI (w64 (x3 + 1))) rfl (qp (AI (w64 (x3 + 1))) rfl (r_nil (thenQ_n ?_))))))))
  refine ar (l' := [(0, AL 6 (v0.map eItem)), (1, AI u1), (5, AI (w64 (x3 + 1)))]) (L := []) [0, 1, 5] [] 1 ⟨_, by rfl, hF⟩
 exact w_exit (thenQ_e (thenQ_e (blockQ_e (thenQ_n (ws 257 385 (qp (AI x2) rfl (qp (AI x2) rfl (rR hF))))))))

def c50 : MC := (sr [rg 2 (.f (.box t0)), pT 4 (.mv (ci 0))] (sr [mvt 5 1, pT 6 (.fad t2 1), lT 7 6, pT 8 (.lens t7), bT 9 .sub t5 t8, mvt 1 9] (.seq (sr [mvt 10 1, bT 11 .lss t10 (ci 0)] (.cond t11 (sr [pT 4 (.mv (ci (-1)))] .ret) .skip)) (sr [mvt 12 1, pT 13 (.fad t2 2), lT 14 13, pT 15 (.lens t14), bT 16 .sub t12 t15, mvt 1 16] (.seq (sr [mvt 17 1, bT 18 .lss t17 (ci 0)] (.cond t18 (sr [pT 4 (.mv (ci (-1)))] .ret) .skip)) (sr [mvt 19 1, mvt 4 19] .ret))))))
theorem c50_ : IsF Tryz.prog 50 c50 [(.tmp 4)] := ⟨by kernel_rfl, by kernel_rfl⟩

def F_laws_szLesson (v0 : TLesson) (v1 : Int) : Option (Int) :=
 (bif (decide (w64 (v1 - (v0.2.1.length : Int)) < (0 : Int))) then some (-1)
 else (bif (decide (w64 ((w64 (v1 - (v0.2.1.length : Int))) - (v0.2.2.1.length : Int)) < (0 : Int))) then some (-1)
 else some (w64 ((w64 (v1 - (v0.2.1.length : Int))) - (v0.2.2.1.length : Int)))))
@[simp] abbrev K5 (v1 : Int) (v0 : TLesson) : AV := AI (w64 ((w64 (v1 - (v0.2.1.length : Int))) - (v0.2.2.1.length : Int)))
@[simp] def res_laws_szLesson (r : Int) : RV := .one (.one (.val (.int .i64 r)))
theorem con_laws_szLesson {v0 : TLesson} {v1 : Int} {r : Int} (hF : F_laws_szLesson v0 v1 = some r) : Con Tryz.prog 50 [eLesson v0, .int .i64 v1] (res_laws_szLesson r) := by
 unfold F_laws_szLesson at hF
 refine con_of c50_.1 fun N => ?_
 refine ws 0 128 (qf (.ptr 0 0 0) [(0, .box [AI v0.1, AS v0.2.1, AS v0.2.2.1, AI v0.2.2.2.1, AI v0.2.2.2.2])] (by simp) (qp (AI 0) rfl (r_nil (ws 128 512 (qp (AI v1) rfl (qp (.ptr 0 0 1) rfl (qp (AS v0.2.1) rfl (qp (AI (v0.2.1.length : Int)) rfl (qp (AI (w64 (v1 - (v0.2.1.length : Int)))) rfl (qp (AI (w64 (v1 - (v0.2.1.length : Int)))) rfl (r_nil ?_)))))))))))
 refine w_seq (ws 512 640 (qp (AI (w64 (v1 - (v0.2.1.length : Int)))) rfl (qp (AB (decide (w64 (v1 - (v0.2.1.length : Int)) < (0 : Int)))) rfl (r_nil (cF hF (fun hF => ws 640 704 (qp (AI (-1)) rfl (r_nil (w_ret (thenQ_r (eQ hF)))))) fun hF => ?_)))))
 refine w_skip (thenQ_n (ws 640 1024 (qp (AI (w64 (v1 - (v0.2.1.length : Int)))) rfl (qp (.ptr 0 0 2) rfl (qp (AS v0.2.2.1) rfl (qp (AI (v0.2.2.1.length : Int)) rfl (qp (K5 v1 v0) rfl (qp (K5 v1 v0) rfl (r_nil (w_seq (ws 1024 1152 ?_)))))))))))
 refine qp (K5 v1 v0) rfl (qp (AB (decide (w64 ((w64 (v1 - (v0.2.1.length : Int))) - (v0.2.2.1.length : Int)) < (0 : Int)))) rfl (r_nil (cF hF (fun hF => ws 1152 1216 (qp (AI (-1)) rfl (r_nil (w_ret (thenQ_r (eQ hF)))))) fun hF => ?_)))
 exact w_skip (thenQ_n (ws 1152 1280 (qp (K5 v1 v0) rfl (qp (K5 v1 v0) rfl (rR hF)))))

def c16 : MC := (sr [pT 4 (.mv (ci 0))] (sr [mvt 6 1, mvt 7 0, zT 8 7, bT 9 .sub t6 t8, mvt 1 9] (.seq (sr [mvt 10 1, bT 11 .lss t10 (ci 0)] (.cond t11 (sr [pT 4 (.mv (ci (-1)))] .ret) .skip)) (.seq (sr [pT 5 (.mv (ci 0))] (.block 0 (.loop (.seq (sr [mvt 12 5, mvt 13 0, zT 14 13, bT 15 .lss t12 t14] (cx t15 0)) (.seq (.block 1 (sr [mvt 18 0, mvt 19 5, iT 20 18 19 5, pT 21 (.ld t20 5 true), mvt 22 1, dT 23 50 [t21, t22], mvt 1 23] (sr [mvt 24 1, bT 25 .lss t24 (ci 0)] (.cond t25 (sr [pT 4 (.mv (ci (-1)))] .ret) .skip)))) (.reg [mvt 16 5, bT 17 .add t16 (ci 1), mvt 5 17])))))) (sr [mvt 26 1, mvt 4 26] .ret)))))
theorem c16_ : IsF Tryz.prog 16 c16 [(.tmp 4)] := ⟨by kernel_rfl, by kernel_rfl⟩

def F_laws_szLessonS_l0 (v0 : List TLesson) (k0 : Int × Int → Option (Int)) : Int × Int → Option (Int)
 | (x2, x3) => (bif (decide (x3 < (v0.length : Int))) then ((ix v0 x3).bind fun u0 => ((F_laws_szLesson u0 x2).bind fun u1 => (bif (decide (u1 < (0 : Int))) then some (-1)
 else k0 (u1, w64 (x3 + 1)))))
 else some x2)
def F_laws_szLessonS (v0 : List TLesson) (v1 : Int) : Option (Int) :=
 (bif (decide (w64 (v1 - (v0.length : Int)) < (0 : Int))) then some (-1)
 else loop (F_laws_szLessonS_l0 v0) (w64 (v1 - (v0.length : Int)), 0))
@[simp] def res_laws_szLessonS (r : Int) : RV := .one (.one (.val (.int .i64 r)))
theorem con_laws_szLessonS {v0 : List TLesson} {v1 : Int} {r : Int} (hF : F_laws_szLessonS v0 v1 = some r) : Con Tryz.prog 16 [.sl 5 (v0.map eLesson), .int .i64 v1] (res_laws_szLessonS r) := by
 unfold F_laws_szLessonS at hF
 refine con_of c16_.1 fun N => ?_
 refine ws 0 64 (qp (AI 0) rfl (r_nil (ws 64 384 (qp (AI v1) rfl (qp (AL 5 (v0.map eLesson)) rfl (qp (AI (v0.length : Int)) (ev_len_n rfl) (qp (AI (w64 (v1 - (v0.length : Int)))) rfl (qp (AI (w64 (v1 - (v0.length : Int)))) rfl (r_nil (w_seq (ws 384 512 ?_)))))))))))
 refine qp (AI (w64 (v1 - (v0.length : Int)))) rfl (qp (AB (decide (w64 (v1 - (v0.length : Int)) < (0 : Int)))) rfl (r_nil (cF hF (fun hF => ws 512 576 (qp (AI (-1)) rfl (r_nil (w_ret (thenQ_r (eQ hF)))))) fun hF => ?_)))
 refine w_skip (thenQ_n (w_seq (ws 512 576 (qp (AI 0) rfl (r_nil (w_block ?_))))))
 refine wr (l' := [(0, AL 5 (v0.map eLesson)), (1, AI (w64 (v1 - (v0.length : Int)))), (5, AI 0)]) (L := []) [0, 1, 5] [] 1 ?_
 refine w_loopF (F_laws_szLessonS_l0 v0) (fun s : Int × Int => mkS [(0, AL 5 (v0.map eLesson)), (1, AI s.1), (5, AI s.2)] (fo []) 1) hF ?_
 rintro k0 ⟨x2, x3⟩ hF
 rw [F_laws_szLessonS_l0] at hF
 try dsimp only
 refine w_seq (ws 1 257 (qp (AI x3) rfl (qp (AL 5 (v0.map eLesson)) rfl (qp (AI (v0.length : Int)) (ev_len_n rfl) (qp (AB (decide (x3 < (v0.length : Int)))) rfl (r_nil ?_))))))
 refine cF hF (fun hF => ?_) fun hF => ?_
 ·
  refine w_skip (thenQ_n (w_seq (w_block (ws 257 705 (qp (AL 5 (v0.map eLesson)) rfl (qp (AI x3) rfl (bk hF fun u0 e0 hF => qp (.val none (.ptr [.int .i64 u0.1, .str u0.2.1, .str u0.2.2.1, .int .i64 u0.2.2.2.1, .int .i64 u0.2.2.2.2])) (ev_iad_n rfl rfl e0 rfl) (qp (.val none (eLesson u0)) rfl (qp (AI x2) rfl (bk hF fun u1 e1 hF => qC (AI u1) [] (con_laws_szLesson e1) c50_ (qp (AI u1) rfl (r_nil (ws 705 833 (qp (AI u1) rfl (qp (AB (decide (u1 < (0 : Int)))) rfl ?_)))))))))))))))
  refine r_nil (cF hF (fun hF => ws 833 897 (qp (AI (-1)) rfl (r_nil (w_ret (blockQ_r (thenQ_r (thenQ_r (blockQ_r (thenQ_r (eQ hF)))))))))) fun hF => ?_)
  refine w_skip (blockQ_n (thenQ_n (w_reg 833 1025 rfl rfl (qp (AI x3) rfl (qp (AI (w64 (x3 + 1))) rfl (qp (AI (w64 (x3 + 1))) rfl (r_nil (thenQ_n ?_))))))))
  refine ar (l' := [(0, AL 5 (v0.map eLesson)), (1, AI u1), (5, AI (w64 (x3 + 1)))]) (L := []) [0, 1, 5] [] 1 ⟨_, by rfl, hF⟩
 exact w_exit (thenQ_e (thenQ_e (blockQ_e (thenQ_n (ws 257 385 (qp (AI x2) rfl (qp (AI x2) rfl (rR hF))))))))

def c95 : MC := (sr [pT 4 (.mv (ci 0))] (sr [mvt 6 1, mvt 7 0, zT 8 7, bT 9 .sub t6 t8, mvt 1 9] (.seq (sr [mvt 10 1, bT 11 .lss t10 (ci 0)] (.cond t11 (sr [pT 4 (.mv (ci (-1)))] .ret) .skip)) (.seq (sr [pT 5 (.mv (ci 0))] (.block 0 (.loop (.seq (sr [mvt 12 5, mvt 13 0, zT 14 13, bT 15 .lss t12 t14] (cx t15 0)) (.seq (.block 1 (sr [mvt 18 1, mvt 19 0, mvt 20 5, iT 21 19 20 1, lT 22 21, pT 23 (.lens t22), bT 24 .sub t18 t23, mvt 1 24] (sr [mvt 25 1, bT 26 .lss t25 (ci 0)] (.cond t26 (sr [pT 4 (.mv (ci (-1)))] .ret) .skip)))) (.reg [mvt 16 5, bT 17 .add t16 (ci 1), mvt 5 17])))))) (sr [mvt 27 1, mvt 4 27] .ret)))))
theorem c95_ : IsF Tryz.prog 95 c95 [(.tmp 4)] := ⟨by kernel_rfl, by kernel_rfl⟩

def F_laws_szStringS_l0 (v0 : List (List UInt8)) (k0 : Int × Int → Option (Int)) : Int × Int → Option (Int)
 | (x2, x3) => (bif (decide (x3 < (v0.length : Int))) then ((ix v0 x3).bind fun u0 => (bif (decide (w64 (x2 - (u0.length : Int)) < (0 : Int))) then some (-1)
 else k0 (w64 (x2 - (u0.length : Int)), w64 (x3 + 1))))
 else some x2)
def F_laws_szStringS (v0 : List (List UInt8)) (v1 : Int) : Option (Int) :=
 (bif (decide (w64 (v1 - (v0.length : Int)) < (0 : Int))) then some (-1)
 else loop (F_laws_szStringS_l0 v0) (w64 (v1 - (v0.length : Int)), 0))
@[simp] def res_laws_szStringS (r : Int) : RV := .one (.one (.val (.int .i64 r)))
theorem con_laws_szStringS {v0 : List (List UInt8)} {v1 : Int} {r : Int} (hF : F_laws_szStringS v0 v1 = some r) : Con Tryz.prog 95 [.sl 1 (v0.map V.str), .int .i64 v1] (res_laws_szStringS r) := by
 unfold F_laws_szStringS at hF
 refine con_of c95_.1 fun N => ?_
 refine ws 0 64 (qp (AI 0) rfl (r_nil (ws 64 384 (qp (AI v1) rfl (qp (AL 1 (v0.map V.str)) rfl (qp (AI (v0.length : Int)) (ev_len_n rfl) (qp (AI (w64 (v1 - (v0.length : Int)))) rfl (qp (AI (w64 (v1 - (v0.length : Int)))) rfl (r_nil (w_seq (ws 384 512 ?_)))))))))))
 refine qp (AI (w64 (v1 - (v0.length : Int)))) rfl (qp (AB (decide (w64 (v1 - (v0.length : Int)) < (0 : Int)))) rfl (r_nil (cF hF (fun hF => ws 512 576 (qp (AI (-1)) rfl (r_nil (w_ret (thenQ_r (eQ hF)))))) fun hF => ?_)))
 refine w_skip (thenQ_n (w_seq (ws 512 576 (qp (AI 0) rfl (r_nil (w_block ?_))))))
 refine wr (l' := [(0, AL 1 (v0.map V.str)), (1, AI (w64 (v1 - (v0.length : Int)))), (5, AI 0)]) (L := []) [0, 1, 5] [] 1 ?_
 refine w_loopF (F_laws_szStringS_l0 v0) (fun s : Int × Int => mkS [(0, AL 1 (v0.map V.str)), (1, AI s.1), (5, AI s.2)] (fo []) 1) hF ?_
 rintro k0 ⟨x2, x3⟩ hF
 rw [F_laws_szStringS_l0] at hF
 try dsimp only
 refine w_seq (ws 1 257 (qp (AI x3) rfl (qp (AL 1 (v0.map V.str)) rfl (qp (AI (v0.length : Int)) (ev_len_n rfl) (qp (AB (decide (x3 < (v0.length : Int)))) rfl (r_nil ?_))))))
 refine cF hF (fun hF => ?_) fun hF => ?_
 ·
  refine w_skip (thenQ_n (w_seq (w_block (ws 257 769 (qp (AI x2) rfl (qp (AL 1 (v0.map V.str)) rfl (qp (AI x3) rfl (bk hF fun u0 e0 hF => ?_))))))))
  refine qp (.val none (.ptr [.str u0])) (ev_iad_n rfl rfl e0 rfl) (qp (AS u0) rfl (qp (AI (u0.length : Int)) rfl (qp (AI (w64 (x2 - (u0.length : Int)))) rfl (qp (AI (w64 (x2 - (u0.length : Int)))) rfl (r_nil (ws 769 897 (qp (AI (w64 (x2 - (u0.length : Int)))) rfl (qp (AB (decide (w64 (x2 - (u0.length : Int)) < (0 : Int)))) rfl (r_nil ?_)))))))))
  refine cF hF (fun hF => ws 897 961 (qp (AI (-1)) rfl (r_nil (w_ret (blockQ_r (thenQ_r (thenQ_r (blockQ_r (thenQ_r (eQ hF)))))))))) fun hF => ?_
  refine w_skip (blockQ_n (thenQ_n (w_reg 897 1089 rfl rfl (qp (AI x3) rfl (qp (AI (w64 (x3 + 1))) rfl (qp (AI (w64 (x3 + 1))) rfl (r_nil (thenQ_n ?_))))))))
  refine ar (l' := [(0, AL 1 (v0.map V.str)), (1, AI (w64 (x2 - (u0.length : Int)))), (5, AI (w64 (x3 + 1)))]) (L := []) [0, 1, 5] [] 1 ⟨_, by rfl, hF⟩
 exact w_exit (thenQ_e (thenQ_e (blockQ_e (thenQ_n (ws 257 385 (qp (AI x2) rfl (qp (AI x2) rfl (rR hF))))))))

def c51 : MC := (sr [rg 2 (.f (.box t0)), pT 4 (.mv (ci 0))] (sr [mvt 5 1, pT 6 (.fad t2 0), lT 7 6, pT 8 (.lens t7), bT 9 .sub t5 t8, mvt 1 9] (.seq (sr [mvt 10 1, bT 11 .lss t10 (ci 0)] (.cond t11 (sr [pT 4 (.mv (ci (-1)))] .ret) .skip)) (sr [pT 12 (.fad t2 2), lT 13 12, mvt 14 1, dT 15 95 [t13, t14], mvt 1 15] (.seq (sr [mvt 16 1, bT 17 .lss t16 (ci 0)] (.cond t17 (sr [pT 4 (.mv (ci (-1)))] .ret) .skip)) (sr [mvt 18 1, mvt 4 18] .ret))))))
theorem c51_ : IsF Tryz.prog 51 c51 [(.tmp 4)] := ⟨by kernel_rfl, by kernel_rfl⟩

def F_laws_szPerson (v0 : TPerson) (v1 : Int) : Option (Int) :=
 (bif (decide (w64 (v1 - (v0.1.length : Int)) < (0 : Int))) then some (-1)
 else ((F_laws_szStringS v0.2.2 (w64 (v1 - (v0.1.length : Int)))).bind fun u0 => (bif (decide (u0 < (0 : Int))) then some (-1)
 else some u0)))
@[simp] abbrev K6 (v0 : TPerson) : List (Nat × Root) := [(0, .box [AS v0.1, AI v0.2.1, AL 1 (v0.2.2.map V.str)])]
@[simp] def res_laws_szPerson (r : Int) : RV := .one (.one (.val (.int .i64 r)))
theorem con_laws_szPerson {v0 : TPerson} {v1 : Int} {r : Int} (hF : F_laws_szPerson v0 v1 = some r) : Con Tryz.prog 51 [ePerson v0, .int .i64 v1] (res_laws_szPerson r) := by
 unfold F_laws_szPerson at hF
 refine con_of c51_.1 fun N => ?_
 refine ws 0 128 (qf (.ptr 0 0 0) (K6 v0) (by simp) (qp (AI 0) rfl (r_nil (ws 128 512 (qp (AI v1) rfl (qp (.ptr 0 0 0) rfl (qp (AS v0.1) rfl (qp (AI (v0.1.length : Int)) rfl (qp (AI (w64 (v1 - (v0.1.length : Int)))) rfl (qp (AI (w64 (v1 - (v0.1.length : Int)))) rfl (r_nil ?_)))))))))))
 refine w_seq (ws 512 640 (qp (AI (w64 (v1 - (v0.1.length : Int)))) rfl (qp (AB (decide (w64 (v1 - (v0.1.length : Int)) < (0 : Int)))) rfl (r_nil (cF hF (fun hF => ws 640 704 (qp (AI (-1)) rfl (r_nil (w_ret (thenQ_r (eQ hF)))))) fun hF => ?_)))))
 refine w_skip (thenQ_n (ws 640 960 (qp (.ptr 0 0 2) rfl (qp (AL 1 (v0.2.2.map V.str)) rfl (qp (AI (w64 (v1 - (v0.1.length : Int)))) rfl (bk hF fun u0 e0 hF => qC (AI u0) (K6 v0) (con_laws_szStringS e0) c95_ (qp (AI u0) rfl (r_nil (w_seq (ws 960 1088 (qp (AI u0) rfl (qp (AB (decide (u0 < (0 : Int)))) rfl (r_nil ?_)))))))))))))
 refine cF hF (fun hF => ws 1088 1152 (qp (AI (-1)) rfl (r_nil (w_ret (thenQ_r (eQ hF)))))) fun hF => ?_
 exact w_skip (thenQ_n (ws 1088 1216 (qp (AI u0) rfl (qp (AI u0) rfl (rR hF)))))

def c17 : MC := (sr [pT 4 (.mv (ci 0))] (sr [mvt 6 1, mvt 7 0, zT 8 7, bT 9 .sub t6 t8, mvt 1 9] (.seq (sr [mvt 10 1, bT 11 .lss t10 (ci 0)] (.cond t11 (sr [pT 4 (.mv (ci (-1)))] .ret) .skip)) (.seq (sr [pT 5 (.mv (ci 0))] (.block 0 (.loop (.seq (sr [mvt 12 5, mvt 13 0, zT 14 13, bT 15 .lss t12 t14] (cx t15 0)) (.seq (.block 1 (sr [mvt 18 0, mvt 19 5, iT 20 18 19 3, pT 21 (.ld t20 3 true), mvt 22 1, dT 23 51 [t21, t22], mvt 1 23] (sr [mvt 24 1, bT 25 .lss t24 (ci 0)] (.cond t25 (sr [pT 4 (.mv (ci (-1)))] .ret) .skip)))) (.reg [mvt 16 5, bT 17 .add t16 (ci 1), mvt 5 17])))))) (sr [mvt 26 1, mvt 4 26] .ret)))))
theorem c17_ : IsF Tryz.prog 17 c17 [(.tmp 4)] := ⟨by kernel_rfl, by kernel_rfl⟩

def F_laws_szPersonS_l0 (v0 : List TPerson) (k0 : Int × Int → Option (Int)) : Int × Int → Option (Int)
 | (x2, x3) => (bif (decide (x3 < (v0.length : Int))) then ((ix v0 x3).bind fun u0 => ((F_laws_szPerson u0 x2).bind fun u1 => (bif (decide (u1 < (0 : Int))) then some (-1)
 else k0 (u1, w64 (x3 + 1)))))
 else some x2)
def F_laws_szPersonS (v0 : List TPerson) (v1 : Int) : Option (Int) :=
 (bif (decide (w64 (v1 - (v0.length : Int)) < (0 : Int))) then some (-1)
 else loop (F_laws_szPersonS_l0 v0) (w64 (v1 - (v0.length : Int)), 0))
@[simp] def res_laws_szPersonS (r : Int) : RV := .one (.one (.val (.int .i64 r)))
theorem con_laws_szPersonS {v0 : List TPerson} {v1 : Int} {r : Int} (hF : F_laws_szPersonS v0 v1 = some r) : Con Tryz.prog 17 [.sl 3 (v0.map ePerson), .int .i64 v1] (res_laws_szPersonS r) := by
 unfold F_laws_szPersonS at hF
 refine con_of c17_.1 fun N => ?_
 refine ws 0 64 (qp (AI 0) rfl (r_nil (ws 64 384 (qp (AI v1) rfl (qp (AL 3 (v0.map ePerson)) rfl (qp (AI (v0.length : Int)) (ev_len_n rfl) (qp (AI (w64 (v1 - (v0.length : Int)))) rfl (qp (AI (w64 (v1 - (v0.length : Int)))) rfl (r_nil (w_seq (ws 384 512 ?_)))))))))))
 refine qp (AI (w64 (v1 - (v0.length : Int)))) rfl (qp (AB (decide (w64 (v1 - (v0.length : Int)) < (0 : Int)))) rfl (r_nil (cF hF (fun hF => ws 512 576 (qp (AI (-1)) rfl (r_nil (w_ret (thenQ_r (eQ hF)))))) fun hF => ?_)))
 refine w_skip (thenQ_n (w_seq (ws 512 576 (qp (AI 0) rfl (r_nil (w_block ?_))))))
 refine wr (l' := [(0, AL 3 (v0.map ePerson)), (1, AI (w64 (v1 - (v0.length : Int)))), (5, AI 0)]) (L := []) [0, 1, 5] [] 1 ?_
 refine w_loopF (F_laws_szPersonS_l0 v0) (fun s : Int × Int => mkS [(0, AL 3 (v0.map ePerson)), (1, AI s.1), (5, AI s.2)] (fo []) 1) hF ?_
 rintro k0 ⟨x2, x3⟩ hF
 rw [F_laws_szPersonS_l0] at hF
 try dsimp only
 refine w_seq (ws 1 257 (qp (AI x3) rfl (qp (AL 3 (v0.map ePerson)) rfl (qp (AI (v0.length : Int)) (ev_len_n rfl) (qp (AB (decide (x3 < (v0.length : Int)))) rfl (r_nil ?_))))))
 refine cF hF (fun hF => ?_) fun hF => ?_
 ·
  refine w_skip (thenQ_n (w_seq (w_block (ws 257 705 (qp (AL 3 (v0.map ePerson)) rfl (qp (AI x3) rfl (bk hF fun u0 e0 hF => qp (.val none (.ptr [.str u0.1, .int .i64 u0.2.1, .sl 1 (u0.2.2.map V.str)])) (ev_iad_n rfl rfl e0 rfl) (qp (.val none (ePerson u0)) rfl (qp (AI x2) rfl (bk hF fun u1 e1 hF => qC (AI u1) [] (con_laws_szPerson e1) c51_ (qp (AI u1) rfl (r_nil (ws 705 833 (qp (AI u1) rfl (qp (AB (decide (u1 < (0 : Int)))) rfl ?_)))))))))))))))
  refine r_nil (cF hF (fun hF => ws 833 897 (qp (AI (-1)) rfl (r_nil (w_ret (blockQ_r (thenQ_r (thenQ_r (blockQ_r (thenQ_r (eQ hF)))))))))) fun hF => ?_)
  refine w_skip (blockQ_n (thenQ_n (w_reg 833 1025 rfl rfl (qp (AI x3) rfl (qp (AI (w64 (x3 + 1))) rfl (qp (AI (w64 (x3 + 1))) rfl (r_nil (thenQ_n ?_))))))))
  refine ar (l' := [(0, AL 3 (v0.map ePerson)), (1, AI u1), (5, AI (w64 (x3 + 1)))]) (L := []) [0, 1, 5] [] 1 ⟨_, by rfl, hF⟩
 exact w_exit (thenQ_e (thenQ_e (blockQ_e (thenQ_n (ws 257 385 (qp (AI x2) rfl (qp (AI x2) rfl (rR hF))))))))

def c4 : MC := (sr [rg 2 (.f (.box t0)), pT 4 (.mv (ci 0))] (sr [pT 5 (.fad t2 0), pT 6 (.ld t5 6 true), mvt 7 1, dT 8 9 [t6, t7], mvt 1 8] (.seq (sr [mvt 9 1, bT 10 .lss t9 (ci 0)] (.cond t10 (sr [pT 4 (.mv (ci (-1)))] .ret) .skip)) (sr [pT 11 (.fad t2 6), lT 12 11, mvt 13 1, dT 14 10 [t12, t13], mvt 1 14] (.seq (sr [mvt 15 1, bT 16 .lss t15 (ci 0)] (.cond t16 (sr [pT 4 (.mv (ci (-1)))] .ret) .skip)) (sr [pT 17 (.fad t2 7), pT 18 (.ld t17 2 true), mvt 19 1, dT 20 11 [t18, t19], mvt 1 20] (.seq (sr [mvt 21 1, bT 22 .lss t21 (ci 0)] (.cond t22 (sr [pT 4 (.mv (ci (-1)))] .ret) .skip)) (sr [pT 23 (.fad t2 9), lT 24 23, mvt 25 1, dT 26 12 [t24, t25], mvt 1 26] (.seq (sr [mvt 27 1, bT 28 .lss t27 (ci 0)] (.cond t28 (sr [pT 4 (.mv (ci (-1)))] .ret) .skip)) (sr [pT 29 (.fad t2 10), lT 30 29, mvt 31 1, dT 32 13 [t30, t31], mvt 1 32] (.seq (sr [mvt 33 1, bT 34 .lss t33 (ci 0)] (.cond t34 (sr [pT 4 (.mv (ci (-1)))] .ret) .skip)) (sr [pT 35 (.fad t2 11), lT 36 35, mvt 37 1, dT 38 14 [t36, t37], mvt 1 38] (.seq (sr [mvt 39 1, bT 40 .lss t39 (ci 0)] (.cond t40 (sr [pT 4 (.mv (ci (-1)))] .ret) .skip)) (sr [pT 41 (.fad t2 12), lT 42 41, mvt 43 1, dT 44 15 [t42, t43], mvt 1 44] (.seq (sr [mvt 45 1, bT 46 .lss t45 (ci 0)] (.cond t46 (sr [pT 4 (.mv (ci (-1)))] .ret) .skip)) (sr [pT 47 (.fad t2 13), lT 48 47, mvt 49 1, dT 50 16 [t48, t49], mvt 1 50] (.seq (sr [mvt 51 1, bT 52 .lss t51 (ci 0)] (.cond t52 (sr [pT 4 (.mv (ci (-1)))] .ret) .skip)) (sr [pT 53 (.fad t2 14), lT 54 53, mvt 55 1, dT 56 17 [t54, t55], mvt 1 56] (.seq (sr [mvt 57 1, bT 58 .lss t57 (ci 0)] (.cond t58 (sr [pT 4 (.mv (ci (-1)))] .ret) .skip)) (sr [mvt 59 1, mvt 4 59] .ret))))))))))))))))))))
theorem c4_ : IsF Tryz.prog 4 c4 [(.tmp 4)] := ⟨by kernel_rfl, by kernel_rfl⟩

def F_laws_szDesk (v0 : TDesk) (v1 : Int) : Option (Int) :=
 ((F_laws_szRaga (v0.1, v0.2.1, v0.2.2.1, v0.2.2.2.1, v0.2.2.2.2.1, v0.2.2.2.2.2.1) v1).bind fun u0 => (bif (decide (u0 < (0 : Int))) then some (-1)
 else ((F_laws_szNoteS v0.2.2.2.2.2.2.1 u0).bind fun u1 => (bif (decide (u1 < (0 : Int))) then some (-1)
 else ((F_laws_szTuning (v0.2.2.2.2.2.2.2.1, v0.2.2.2.2.2.2.2.2.1) u1).bind fun u2 => (bif (decide (u2 < (0 : Int))) then some (-1)
 else ((F_laws_szInt64SS v0.2.2.2.2.2.2.2.2.2.1 u2).bind fun u3 => (bif (decide (u3 < (0 : Int))) then some (-1)
 else ((F_laws_szSyllableS v0.2.2.2.2.2.2.2.2.2.2.1 u3).bind fun u4 => (bif (decide (u4 < (0 : Int))) then some (-1)
 else ((F_laws_szTempoMarkS v0.2.2.2.2.2.2.2.2.2.2.2.1 u4).bind fun u5 => (bif (decide (u5 < (0 : Int))) then some (-1)
 else ((F_laws_szItemS v0.2.2.2.2.2.2.2.2.2.2.2.2.1 u5).bind fun u6 => (bif (decide (u6 < (0 : Int))) then some (-1)
 else ((F_laws_szLessonS v0.2.2.2.2.2.2.2.2.2.2.2.2.2.1 u6).bind fun u7 => (bif (decide (u7 < (0 : Int))) then some (-1)
 else ((F_laws_szPersonS v0.2.2.2.2.2.2.2.2.2.2.2.2.2.2 u7).bind fun u8 => (bif (decide (u8 < (0 : Int))) then some (-1)
 else some u8))))))))))))))))))
@[simp] abbrev K7 (v0 : TDesk) : List (Nat × Root) := [(0, .box [AS v0.1, AL 1 (v0.2.1.map vI), AL 1 (v0.2.2.1.map vI), AI v0.2.2.2.1, AI v0.2.2.2.2.1, AL 1 (v0.2.2.2.2.2.1.map (eL 1 vI)), AL 2 (v0.2.2.2.2.2.2.1.map eNote), AS v0.2.2.2.2.2.2.2.1, AL 2 (v0.2.2.2.2.2.2.2.2.1.map eNote), AL 1 (v0.2.2.2.2.2.2.2.2.2.1.map (eL 1 vI)), AL 3 (v0.2.2.2.2.2.2.2.2.2.2.1.map eSyllable), AL 2 (v0.2.2.2.2.2.2.2.2.2.2.2.1.map eNote), AL 6 (v0.2.2.2.2.2.2.2.2.2.2.2.2.1.map eItem), AL 5 (v0.2.2.2.2.2.2.2.2.2.2.2.2.2.1.map eLesson), AL 3 (v0.2.2.2.2.2.2.2.2.2.2.2.2.2.2.map ePerson)])]
@[simp] def res_laws_szDesk (r : Int) : RV := .one (.one (.val (.int .i64 r)))
theorem con_laws_szDesk {v0 : TDesk} {v1 : Int} {r : Int} (hF : F_laws_szDesk v0 v1 = some r) : Con Tryz.prog 4 [eDesk v0, .int .i64 v1] (res_laws_szDesk r) := by
 unfold F_laws_szDesk at hF
 refine con_of c4_.1 fun N => ?_
 refine ws 0 128 (qf (.ptr 0 0 0) (K7 v0) (by simp) (qp (AI 0) rfl (r_nil (ws 128 448 (qp (.ptr 0 0 0) rfl (qp (.agg [AS v0.1, AL 1 (v0.2.1.map vI), AL 1 (v0.2.2.1.map vI), AI v0.2.2.2.1, AI v0.2.2.2.2.1, AL 1 (v0.2.2.2.2.2.1.map (eL 1 vI))]) rfl (qp (AI v1) rfl (bk hF fun u0 e0 hF => qC (AI u0) (K7 v0) (con_laws_szRaga e0) c9_ (qp (AI u0) rfl (r_nil (w_seq (ws 448 576 (qp (AI u0) rfl (qp (AB (decide (u0 < (0 : Int)))) rfl ?_))))))))))))))
 refine r_nil (cF hF (fun hF => ws 576 640 (qp (AI (-1)) rfl (r_nil (w_ret (thenQ_r (eQ hF)))))) fun hF => ?_)
 refine w_skip (thenQ_n (ws 576 896 (qp (.ptr 0 0 6) rfl (qp (AL 2 (v0.2.2.2.2.2.2.1.map eNote)) rfl (qp (AI u0) rfl (bk hF fun u1 e1 hF => qC (AI u1) (K7 v0) (con_laws_szNoteS e1) c10_ (qp (AI u1) rfl (r_nil (w_seq (ws 896 1024 (qp (AI u1) rfl (qp (AB (decide (u1 < (0 : Int)))) rfl (r_nil ?_)))))))))))))
 refine cF hF (fun hF => ws 1024 1088 (qp (AI (-1)) rfl (r_nil (w_ret (thenQ_r (eQ hF)))))) fun hF => ?_
 refine w_skip (thenQ_n (ws 1024 1344 (qp (.ptr 0 0 7) rfl (qp (.agg [AS v0.2.2.2.2.2.2.2.1, AL 2 (v0.2.2.2.2.2.2.2.2.1.map eNote)]) rfl (qp (AI u1) rfl (bk hF fun u2 e2 hF => qC (AI u2) (K7 v0) (con_laws_szTuning e2) c11_ (qp (AI u2) rfl (r_nil (w_seq (ws 1344 1472 (qp (AI u2) rfl (qp (AB (decide (u2 < (0 : Int)))) rfl (r_nil ?_)))))))))))))
 refine cF hF (fun hF => ws 1472 1536 (qp (AI (-1)) rfl (r_nil (w_ret (thenQ_r (eQ hF)))))) fun hF => ?_
 refine w_skip (thenQ_n (ws 1472 1792 (qp (.ptr 0 0 9) rfl (qp (AL 1 (v0.2.2.2.2.2.2.2.2.2.1.map (eL 1 vI))) rfl (qp (AI u2) rfl (bk hF fun u3 e3 hF => qC (AI u3) (K7 v0) (con_laws_szInt64SS e3) c12_ (qp (AI u3) rfl (r_nil (w_seq (ws 1792 1920 (qp (AI u3) rfl (qp (AB (decide (u3 < (0 : Int)))) rfl (r_nil ?_)))))))))))))
 refine cF hF (fun hF => ws 1920 1984 (qp (AI (-1)) rfl (r_nil (w_ret (thenQ_r (eQ hF)))))) fun hF => ?_
 refine w_skip (thenQ_n (ws 1920 2240 (qp (.ptr 0 0 10) rfl (qp (AL 3 (v0.2.2.2.2.2.2.2.2.2.2.1.map eSyllable)) rfl (qp (AI u3) rfl (bk hF fun u4 e4 hF => qC (AI u4) (K7 v0) (con_laws_szSyllableS e4) c13_ (qp (AI u4) rfl (r_nil (w_seq (ws 2240 2368 (qp (AI u4) rfl (qp (AB (decide (u4 < (0 : Int)))) rfl (r_nil ?_)))))))))))))
 refine cF hF (fun hF => ws 2368 2432 (qp (AI (-1)) rfl (r_nil (w_ret (thenQ_r (eQ hF)))))) fun hF => ?_
 refine w_skip (thenQ_n (ws 2368 2688 (qp (.ptr 0 0 11) rfl (qp (AL 2 (v0.2.2.2.2.2.2.2.2.2.2.2.1.map eNote)) rfl (qp (AI u4) rfl (bk hF fun u5 e5 hF => qC (AI u5) (K7 v0) (con_laws_szTempoMarkS e5) c14_ (qp (AI u5) rfl (r_nil (w_seq (ws 2688 2816 (qp (AI u5) rfl (qp (AB (decide (u5 < (0 : Int)))) rfl (r_nil ?_)))))))))))))
 refine cF hF (fun hF => ws 2816 2880 (qp (AI (-1)) rfl (r_nil (w_ret (thenQ_r (eQ hF)))))) fun hF => ?_
 refine w_skip (thenQ_n (ws 2816 3136 (qp (.ptr 0 0 12) rfl (qp (AL 6 (v0.2.2.2.2.2.2.2.2.2.2.2.2.1.map eItem)) rfl (qp (AI u5) rfl (bk hF fun u6 e6 hF => qC (AI u6) (K7 v0) (con_laws_szItemS e6) c15_ (qp (AI u6) rfl (r_nil (w_seq (ws 3136 3264 (qp (AI u6) rfl (qp (AB (decide (u6 < (0 : Int)))) rfl (r_nil ?_)))))))))))))
 refine cF hF (fun hF => ws 3264 3328 (qp (AI (-1)) rfl (r_nil (w_ret (thenQ_r (eQ hF)))))) fun hF => ?_
 refine w_skip (thenQ_n (ws 3264 3584 (qp (.ptr 0 0 13) rfl (qp (AL 5 (v0.2.2.2.2.2.2.2.2.2.2.2.2.2.1.map eLesson)) rfl (qp (AI u6) rfl (bk hF fun u7 e7 hF => qC (AI u7) (K7 v0) (con_laws_szLessonS e7) c16_ (qp (AI u7) rfl (r_nil (w_seq (ws 3584 3712 (qp (AI u7) rfl (qp (AB (decide (u7 < (0 : Int)))) rfl (r_nil ?_)))))))))))))
 refine cF hF (fun hF => ws 3712 3776 (qp (AI (-1)) rfl (r_nil (w_ret (thenQ_r (eQ hF)))))) fun hF => ?_
 refine w_skip (thenQ_n (ws 3712 4032 (qp (.ptr 0 0 14) rfl (qp (AL 3 (v0.2.2.2.2.2.2.2.2.2.2.2.2.2.2.map ePerson)) rfl (qp (AI u7) rfl (bk hF fun u8 e8 hF => qC (AI u8) (K7 v0) (con_laws_szPersonS e8) c17_ (qp (AI u8) rfl (r_nil (w_seq (ws 4032 4160 (qp (AI u8) rfl (qp (AB (decide (u8 < (0 : Int)))) rfl (r_nil ?_)))))))))))))
 refine cF hF (fun hF => ws 4160 4224 (qp (AI (-1)) rfl (r_nil (w_ret (thenQ_r (eQ hF)))))) fun hF => ?_
 exact w_skip (thenQ_n (ws 4160 4288 (qp (AI u8) rfl (qp (AI u8) rfl (rR hF)))))

def c61 : MC := (sr [rg 2 (.f (.nilrow 1))] (sr [mvt 5 0, zT 6 5, rg 7 (.f (.mks 1 8 (.int .i64 0) t6 t6)), mvt 3 7] (.seq (sr [pT 4 (.mv (ci 0))] (.block 0 (.loop (.seq (sr [mvt 8 4, mvt 9 0, zT 10 9, bT 11 .lss t8 t10] (cx t11 0)) (.seq (.block 1 (.reg [mvt 14 3, mvt 15 4, mvt 16 0, mvt 17 4, iT 18 16 17 1, lT 19 18, iT 20 14 15 1, ⟨none, none, (.f (.st t20 t19 1))⟩])) (.reg [mvt 12 4, bT 13 .add t12 (ci 1), mvt 4 13])))))) (sr [mvt 21 3, mvt 2 21] .ret))))
theorem c61_ : IsF Tryz.prog 61 c61 [(.tmp 2)] := ⟨by kernel_rfl, by kernel_rfl⟩

def F_laws_toInt64S_l0 (v0 : List Int) (k1 : Int × (List Int) → Option (List Int)) : Int × (List Int) → Option (List Int)
 | (x6, x7) => (bif (decide (x6 < (v0.length : Int))) then ((ix v0 x6).bind fun u5 => ((ix x7 x6).bind fun u6 => k1 (w64 (x6 + 1), List.set x7 x6.toNat u5)))
 else some x7)
def F_laws_toInt64S (v0 : List Int) : Option (List Int) :=
 (need (0 ≤ (v0.length : Int) ∧ (v0.length : Int) ≤ (v0.length : Int) ∧ (v0.length : Int) ≤ 9223372036854775807 ∧ 8 * (v0.length : Int) ≤ 281474976710656) (loop (F_laws_toInt64S_l0 v0) (0, List.replicate ((v0.length : Int)).toNat (0 : Int))))
@[simp] abbrev K8 : List (Nat × Root) := [(0, .row true 1 (([] : List Int).map vI))]
@[simp] abbrev K9 (v0 : List Int) : V := .sl 1 (v0.map vI)
@[simp] def res_laws_toInt64S (r : List Int) : RV := .one (.one (.row true 1 (r.map vI)))
theorem con_laws_toInt64S {v0 : List Int} {r : List Int} (hF : F_laws_toInt64S v0 = some r) : Con Tryz.prog 61 [.sl 1 (v0.map vI)] (res_laws_toInt64S r) := by
 unfold F_laws_toInt64S at hF
 refine con_of c61_.1 fun N => ?_
 refine ws 0 64 (qf (.sl 0 0 0) K8 (by simp) (r_nil (ws 64 320 (qp (.val none (K9 v0)) rfl (qp (AI (v0.length : Int)) (ev_len_n rfl) (nk hF fun g0 hF => qf (.sl 192 0 ((List.replicate ((v0.length : Int)).toNat (0 : Int)).length)) ((192, .row true 1 ((List.replicate ((v0.length : Int)).toNat (0 : Int)).map vI)) :: K8) (effT_mks rfl rfl g0 rfl) (qp (.sl 192 0 ((List.replicate ((v0.length : Int)).toNat (0 : Int)).length)) rfl (r_nil (w_seq (ws 320 384 (qp (AI 0) rfl (r_nil (w_block ?_)))))))))))))
 refine wr (l' := [(0, .val none (K9 v0)), (3, .sl 0 0 (List.replicate ((v0.length : Int)).toNat (0 : Int)).length), (4, AI 0)]) (L := [(0, .row true 1 ((List.replicate ((v0.length : Int)).toNat (0 : Int)).map vI))]) [0, 3, 4] [(192, 0)] 1 ?_
 refine w_loopF (F_laws_toInt64S_l0 v0) (fun s : Int × (List Int) => mkS [(0, .val none (K9 v0)), (3, .sl 0 0 s.2.length), (4, AI s.1)] (fo [(0, .row true 1 (s.2.map vI))]) 1) hF ?_
 rintro k1 ⟨x6, x7⟩ hF
 rw [F_laws_toInt64S_l0] at hF
 try dsimp only
 refine w_seq (ws 1 257 (qp (AI x6) rfl (qp (.val none (K9 v0)) rfl (qp (AI (v0.length : Int)) (ev_len_n rfl) (qp (AB (decide (x6 < (v0.length : Int)))) rfl (r_nil ?_))))))
 refine cF hF (fun hF => ?_) fun hF => ?_
 ·
  refine w_skip (thenQ_n (w_seq (w_block (w_reg 257 769 rfl rfl (qp (.sl 0 0 x7.length) rfl (qp (AI x6) rfl (qp (.val none (K9 v0)) rfl (qp (AI x6) rfl (bk hF fun u5 e5 hF => qp (.val none (.ptr [.int .i64 u5])) (ev_iad_n rfl rfl e5 rfl) (qp (AI u5) rfl (bk hF fun u6 e6 hF => qp (.ptr 0 x6.toNat 0) (ev_iad_r rfl (by simp) rfl rfl e6) (qf0 (.undef) [(0, .row true 1 ((List.set x7 x6.toNat u5).map vI)), (0, .row true 1 (x7.map vI))] (effT_st rfl rfl (ix_some e6).2 rfl rfl (by rfl) (by first | rfl | simp [patch, reb, List.take_of_length_le]) (by rfl) rfl) (r_nil (blockQ_n (thenQ_n ?_)))))))))))))))
  refine w_reg 769 961 rfl rfl (qp (AI x6) rfl (qp (AI (w64 (x6 + 1))) rfl (qp (AI (w64 (x6 + 1))) rfl (r_nil (thenQ_n ?_)))))
  refine ar (l' := [(0, .val none (K9 v0)), (3, .sl 0 0 (List.set x7 x6.toNat u5).length), (4, AI (w64 (x6 + 1)))]) (L := [(0, .row true 1 ((List.set x7 x6.toNat u5).map vI))]) [0, 3, 4] [(0, 0)] 1 ⟨_, by rfl, hF⟩
 exact w_exit (thenQ_e (thenQ_e (blockQ_e (thenQ_n (ws 257 385 (qp (.sl 0 0 x7.length) rfl (qp (.sl 0 0 x7.length) rfl (rR hF))))))))

def c22 : MC := (sr [rg 2 (.f (.nilrow 1))] (sr [mvt 5 0, zT 6 5, rg 7 (.f (.mks 1 24 (.sl 1 []) t6 t6)), mvt 3 7] (.seq (sr [pT 4 (.mv (ci 0))] (.block 0 (.loop (.seq (sr [mvt 8 4, mvt 9 0, zT 10 9, bT 11 .lss t8 t10] (cx t11 0)) (.seq (.block 1 (.reg [mvt 14 3, mvt 15 4, mvt 16 0, mvt 17 4, iT 18 16 17 1, lT 19 18, dT 20 61 [t19], iT 21 14 15 1, ⟨none, none, (.f (.st t21 t20 1))⟩])) (.reg [mvt 12 4, bT 13 .add t12 (ci 1), mvt 4 13])))))) (sr [mvt 22 3, mvt 2 22] .ret))))
theorem c22_ : IsF Tryz.prog 22 c22 [(.tmp 2)] := ⟨by kernel_rfl, by kernel_rfl⟩

def F_laws_toInt64SS_l0 (v0 : List (List Int)) (k1 : Int × (List (List Int)) → Option (List (List Int))) : Int × (List (List Int)) → Option (List (List Int))
 | (x6, x7) => (bif (decide (x6 < (v0.length : Int))) then ((ix v0 x6).bind fun u7 => ((F_laws_toInt64S u7).bind fun u8 => ((ix x7 x6).bind fun u9 => k1 (w64 (x6 + 1), List.set x7 x6.toNat u8))))
 else some x7)
def F_laws_toInt64SS (v0 : List (List Int)) : Option (List (List Int)) :=
 (need (0 ≤ (v0.length : Int) ∧ (v0.length : Int) ≤ (v0.length : Int) ∧ (v0.length : Int) ≤ 9223372036854775807 ∧ 24 * (v0.length : Int) ≤ 281474976710656) (loop (F_laws_toInt64SS_l0 v0) (0, List.replicate ((v0.length : Int)).toNat ([] : List Int))))
@[simp] abbrev K0a : List (Nat × Root) := [(0, .row true 1 (([] : List Int).map vI))]
@[simp] abbrev K0b (u8 : List Int) (x7 : List (List Int)) : List (Nat × Root) := [(641, .row true 1 (u8.map vI)), (0, .row true 1 (x7.map (eL 1 vI)))]
@[simp] abbrev K0c (v0 : List (List Int)) : V := .sl 1 (v0.map (eL 1 vI))
@[simp] def res_laws_toInt64SS (r : List (List Int)) : RV := .one (.one (.row true 1 (r.map (eL 1 vI))))
theorem con_laws_toInt64SS {v0 : List (List Int)} {r : List (List Int)} (hF : F_laws_toInt64SS v0 = some r) : Con Tryz.prog 22 [.sl 1 (v0.map (eL 1 vI))] (res_laws_toInt64SS r) := by
 unfold F_laws_toInt64SS at hF
 refine con_of c22_.1 fun N => ?_
 refine ws 0 64 (qf (.sl 0 0 0) K0a (by simp) (r_nil (ws 64 320 (qp (.val none (K0c v0)) rfl (qp (AI (v0.length : Int)) (ev_len_n rfl) (nk hF fun g0 hF => qf (.sl 192 0 ((List.replicate ((v0.length : Int)).toNat ([] : List Int)).length)) ((192, .row true 1 ((List.replicate ((v0.length : Int)).toNat ([] : List Int)).map (eL 1 vI))) :: K0a) (effT_mks rfl rfl g0 rfl) (qp (.sl 192 0 ((List.replicate ((v0.length : Int)).toNat ([] : List Int)).length)) rfl (r_nil (w_seq (ws 320 384 (qp (AI 0) rfl (r_nil (w_block ?_)))))))))))))
 refine wr (l' := [(0, .val none (K0c v0)), (3, .sl 0 0 (List.replicate ((v0.length : Int)).toNat ([] : List Int)).length), (4, AI 0)]) (L := [(0, .row true 1 ((List.replicate ((v0.length : Int)).toNat ([] : List Int)).map (eL 1 vI)))]) [0, 3, 4] [(192, 0)] 1 ?_
 refine w_loopF (F_laws_toInt64SS_l0 v0) (fun s : Int × (List (List Int)) => mkS [(0, .val none (K0c v0)), (3, .sl 0 0 s.2.length), (4, AI s.1)] (fo [(0, .row true 1 (s.2.map (eL 1 vI)))]) 1) hF ?_
 rintro k1 ⟨x6, x7⟩ hF
 rw [F_laws_toInt64SS_l0] at hF
 try dsimp only
 refine w_seq (ws 1 257 (qp (AI x6) rfl (qp (.val none (K0c v0)) rfl (qp (AI (v0.length : Int)) (ev_len_n rfl) (qp (AB (decide (x6 < (v0.length : Int)))) rfl (r_nil ?_))))))
 refine cF hF (fun hF => ?_) fun hF => ?_
 ·
  refine w_skip (thenQ_n (w_seq (w_block (w_reg 257 833 rfl rfl (qp (.sl 0 0 x7.length) rfl (qp (AI x6) rfl (qp (.val none (K0c v0)) rfl (qp (AI x6) rfl (bk hF fun u7 e7 hF => qp (.val none (.ptr [.sl 1 (u7.map vI)])) (ev_iad_n rfl rfl e7 rfl) (qp (AL 1 (u7.map vI)) rfl (bk hF fun u8 e8 hF => qc (.sl 641 0 u8.length) (K0b u8 x7) false (con_laws_toInt64S e8) c61_.2 (by first | rfl | simp) (by simp [res_laws_toInt64S]) (bk hF fun u9 e9 hF => qp (.ptr 0 x6.toNat 0) (ev_iad_r rfl (by simp) rfl rfl e9) (qf0 (.undef) ((0, .row true 1 ((List.set x7 x6.toNat u8).map (eL 1 vI))) :: (641, .dead) :: (K0b u8 x7)) (effT_st rfl rfl (ix_some e9).2 rfl rfl (by rfl) (by first | rfl | simp [patch, reb, List.take_of_length_le]) (by rfl) rfl) (r_nil (blockQ_n (thenQ_n ?_))))))))))))))))
  refine w_reg 833 1025 rfl rfl (qp (AI x6) rfl (qp (AI (w64 (x6 + 1))) rfl (qp (AI (w64 (x6 + 1))) rfl (r_nil (thenQ_n ?_)))))
  refine ar (l' := [(0, .val none (K0c v0)), (3, .sl 0 0 (List.set x7 x6.toNat u8).length), (4, AI (w64 (x6 + 1)))]) (L := [(0, .row true 1 ((List.set x7 x6.toNat u8).map (eL 1 vI)))]) [0, 3, 4] [(0, 0)] 1 ⟨_, by rfl, hF⟩
 exact w_exit (thenQ_e (thenQ_e (blockQ_e (thenQ_n (ws 257 385 (qp (.sl 0 0 x7.length) rfl (qp (.sl 0 0 x7.length) rfl (rR hF))))))))

def c19 : MC := (sr [rg 1 (.f (.box t0)), rg 2 (.f (.alloc [((.str []), (0, false)), ((.sl 0 []), (1, false)), ((.sl 0 []), (1, false)), ((.int .i64 0), (0, false)), ((.int .i64 0), (0, false)), ((.sl 0 []), (1, false))]))] (sr [rg 3 (.f (.alloc [((.str []), (0, false)), ((.sl 0 []), (1, false)), ((.sl 0 []), (1, false)), ((.int .i64 0), (0, false)), ((.int .i64 0), (0, false)), ((.sl 0 []), (1, false))]))] (sr [pT 4 (.fad t1 0), lT 5 4, pT 6 (.fad t3 0), ⟨none, none, (.f (.st t6 t5 1))⟩] (sr [pT 7 (.fad t1 1), lT 8 7, dT 9 61 [t8], pT 10 (.fad t3 1), ⟨none, none, (.f (.st t10 t9 1))⟩] (sr [pT 11 (.fad t1 2), lT 12 11, dT 13 61 [t12], pT 14 (.fad t3 2), ⟨none, none, (.f (.st t14 t13 1))⟩] (sr [pT 15 (.fad t1 3), lT 16 15, pT 17 (.fad t3 3), ⟨none, none, (.f (.st t17 t16 1))⟩] (sr [pT 18 (.fad t1 4), lT 19 18, pT 20 (.fad t3 4), ⟨none, none, (.f (.st t20 t19 1))⟩] (sr [pT 21 (.fad t1 5), lT 22 21, dT 23 22 [t22], pT 24 (.fad t3 5), ⟨none, none, (.f (.st t24 t23 1))⟩] (sr [pT 25 (.ld t3 6 true), ⟨none, none, (.f (.st t2 t25 6))⟩] .ret)))))))))
theorem c19_ : IsF Tryz.prog 19 c19 [(.cell (.ld (.t 2) 6 true))] := ⟨by kernel_rfl, by kernel_rfl⟩

def F_laws_toRaga (v0 : TRaga) : Option (TRaga) :=
 ((F_laws_toInt64S v0.2.1).bind fun u0 => ((F_laws_toInt64S v0.2.2.1).bind fun u1 => ((F_laws_toInt64SS v0.2.2.2.2.2).bind fun u2 => some (v0.1, u0, u1, v0.2.2.2.1, v0.2.2.2.2.1, u2))))
@[simp] abbrev K0d (v0 : TRaga) : List (Nat × Root) := [(0, .box [AS v0.1, AL 1 (v0.2.1.map vI), AL 1 (v0.2.2.1.map vI), AI v0.2.2.2.1, AI v0.2.2.2.2.1, AL 1 (v0.2.2.2.2.2.map (eL 1 vI))])]
@[simp] abbrev K0e (v0 : TRaga) : List (Nat × Root) := ((64, .box [AS [], .sl 65 0 0, .sl 66 0 0, AI 0, AI 0, .sl 67 0 0]) :: (67, .row true 1 (([] : List Int).map vI)) :: (66, .row true 1 (([] : List Int).map vI)) :: (65, .row true 1 (([] : List Int).map vI)) :: (K0d v0))
@[simp] abbrev K0f (v0 : TRaga) : List (Nat × Root) := ((128, .box [AS [], .sl 129 0 0, .sl 130 0 0, AI 0, AI 0, .sl 131 0 0]) :: (131, .row true 1 (([] : List Int).map vI)) :: (130, .row true 1 (([] : List Int).map vI)) :: (129, .row true 1 (([] : List Int).map vI)) :: (K0e v0))
@[simp] abbrev K0g (v0 : TRaga) : List (Nat × Root) := ((128, .box [AS v0.1, .sl 129 0 0, .sl 130 0 0, AI 0, AI 0, .sl 131 0 0]) :: (K0f v0))
@[simp] abbrev K0h (u0 : List Int) (v0 : TRaga) : List (Nat × Root) := ((576, .row true 1 (u0.map vI)) :: (K0g v0))
@[simp] abbrev K0i (v0 : TRaga) (u0 : List Int) : List (Nat × Root) := ((128, .box [AS v0.1, .sl 576 0 u0.length, .sl 130 0 0, AI 0, AI 0, .sl 131 0 0]) :: (K0h u0 v0))
@[simp] abbrev K0j (u1 : List Int) (v0 : TRaga) (u0 : List Int) : List (Nat × Root) := ((896, .row true 1 (u1.map vI)) :: (K0i v0 u0))
@[simp] abbrev K0k (v0 : TRaga) (u0 : List Int) (u1 : List Int) : List (Nat × Root) := ((128, .box [AS v0.1, .sl 576 0 u0.length, .sl 896 0 u1.length, AI 0, AI 0, .sl 131 0 0]) :: (K0j u1 v0 u0))
@[simp] abbrev K0l (v0 : TRaga) (u0 : List Int) (u1 : List Int) : List (Nat × Root) := ((128, .box [AS v0.1, .sl 576 0 u0.length, .sl 896 0 u1.length, AI v0.2.2.2.1, AI 0, .sl 131 0 0]) :: (K0k v0 u0 u1))
@[simp] abbrev K0m (v0 : TRaga) (u0 : List Int) (u1 : List Int) : List (Nat × Root) := ((128, .box [AS v0.1, .sl 576 0 u0.length, .sl 896 0 u1.length, AI v0.2.2.2.1, AI v0.2.2.2.2.1, .sl 131 0 0]) :: (K0l v0 u0 u1))
@[simp] abbrev K0n (u2 : List (List Int)) (v0 : TRaga) (u0 : List Int) (u1 : List Int) : List (Nat × Root) := ((1728, .row true 1 (u2.map (eL 1 vI))) :: (K0m v0 u0 u1))
@[simp] abbrev K0p (v0 : TRaga) (u0 : List Int) (u1 : List Int) (u2 : List (List Int)) : List AV := [AS v0.1, .sl 576 0 u0.length, .sl 896 0 u1.length, AI v0.2.2.2.1, AI v0.2.2.2.2.1, .sl 1728 0 u2.length]
@[simp] abbrev K0o (v0 : TRaga) (u0 : List Int) (u1 : List Int) (u2 : List (List Int)) : List (Nat × Root) := ((128, .box (K0p v0 u0 u1 u2)) :: (K0n u2 v0 u0 u1))
@[simp] def res_laws_toRaga (r : TRaga) : RV := .one (.agg [.val (.str r.1), .row true 1 (r.2.1.map vI), .row true 1 (r.2.2.1.map vI), .val (.int .i64 r.2.2.2.1), .val (.int .i64 r.2.2.2.2.1), .row true 1 (r.2.2.2.2.2.map (eL 1 vI))])
theorem con_laws_toRaga {v0 : TRaga} {r : TRaga} (hF : F_laws_toRaga v0 = some r) : Con Tryz.prog 19 [eRaga v0] (res_laws_toRaga r) := by
 unfold F_laws_toRaga at hF
 refine con_of c19_.1 fun N => ?_
 refine ws 0 128 (qf (.ptr 0 0 0) (K0d v0) (by simp) (qf (.ptr 64 0 0) (K0e v0) (by simp) (r_nil (ws 128 192 (qf (.ptr 128 0 0) (K0f v0) (by simp) (r_nil (ws 192 448 (qp (.ptr 0 0 0) rfl (qp (AS v0.1) rfl (qp (.ptr 128 0 0) rfl (qf0 (.undef) (K0g v0) (by simp) (r_nil (ws 448 768 ?_)))))))))))))
 refine qp (.ptr 0 0 1) rfl (qp (AL 1 (v0.2.1.map vI)) rfl (bk hF fun u0 e0 hF => qc (.sl 576 0 u0.length) (K0h u0 v0) false (con_laws_toInt64S e0) c61_.2 (by first | rfl | simp) (by simp [res_laws_toInt64S]) (qp (.ptr 128 0 1) rfl (qf0 (.undef) (K0i v0 u0) (by simp) (r_nil (ws 768 1088 (qp (.ptr 0 0 2) rfl (qp (AL 1 (v0.2.2.1.map vI)) rfl (bk hF fun u1 e1 hF => qc (.sl 896 0 u1.length) (K0j u1 v0 u0) false (con_laws_toInt64S e1) c61_.2 (by first | rfl | simp) (by simp [res_laws_toInt64S]) (qp (.ptr 128 0 2) rfl (qf0 (.undef) (K0k v0 u0 u1) (by simp) (r_nil (ws 1088 1344 ?_)))))))))))))
 refine qp (.ptr 0 0 3) rfl (qp (AI v0.2.2.2.1) rfl (qp (.ptr 128 0 3) rfl (qf0 (.undef) (K0l v0 u0 u1) (by simp) (r_nil (ws 1344 1600 (qp (.ptr 0 0 4) rfl (qp (AI v0.2.2.2.2.1) rfl (qp (.ptr 128 0 4) rfl (qf0 (.undef) (K0m v0 u0 u1) (by simp) (r_nil (ws 1600 1920 (qp (.ptr 0 0 5) rfl (qp (AL 1 (v0.2.2.2.2.2.map (eL 1 vI))) rfl (bk hF fun u2 e2 hF => ?_))))))))))))))
 exact qc (.sl 1728 0 u2.length) (K0n u2 v0 u0 u1) false (con_laws_toInt64SS e2) c22_.2 (by first | rfl | simp) (by simp [res_laws_toInt64SS]) (qp (.ptr 128 0 5) rfl (qf0 (.undef) (K0o v0 u0 u1 u2) (by simp) (r_nil (ws 1920 2048 (qp (.agg (K0p v0 u0 u1 u2)) rfl (qf0 (.undef) ((64, .box (K0p v0 u0 u1 u2)) :: (K0o v0 u0 u1 u2)) (by simp) (rR hF)))))))

def c62 : MC := (sr [rg 1 (.f (.box t0)), rg 2 (.f (.alloc [((.int .i64 0), (0, false)), ((.int .i64 0), (0, false))]))] (sr [rg 3 (.f (.alloc [((.int .i64 0), (0, false)), ((.int .i64 0), (0, false))]))] (sr [pT 4 (.fad t1 0), lT 5 4, pT 6 (.fad t3 0), ⟨none, none, (.f (.st t6 t5 1))⟩] (sr [pT 7 (.fad t1 1), lT 8 7, pT 9 (.fad t3 1), ⟨none, none, (.f (.st t9 t8 1))⟩] (sr [pT 10 (.ld t3 2 true), ⟨none, none, (.f (.st t2 t10 2))⟩] .ret)))))
theorem c62_ : IsF Tryz.prog 62 c62 [(.cell (.ld (.t 2) 2 true))] := ⟨by kernel_rfl, by kernel_rfl⟩

def F_laws_toNote (v0 : TNote) : Option (TNote) :=
 some v0
@[simp] abbrev K0q (v0 : TNote) : List (Nat × Root) := [(64, .box [AI 0, AI 0]), (0, .box [AI v0.1, AI v0.2])]
@[simp] abbrev K0s (v0 : TNote) : List (Nat × Root) := ((128, .box [AI v0.1, AI 0]) :: (128, .box [AI 0, AI 0]) :: (K0q v0))
@[simp] abbrev K0t (v0 : TNote) : List (Nat × Root) := ((128, .box [AI v0.1, AI v0.2]) :: (K0s v0))
@[simp] def res_laws_toNote (r : TNote) : RV := .one (.one (.val (eNote r)))
theorem con_laws_toNote {v0 : TNote} {r : TNote} (hF : F_laws_toNote v0 = some r) : Con Tryz.prog 62 [eNote v0] (res_laws_toNote r) := by
 unfold F_laws_toNote at hF
 refine con_of c62_.1 fun N => ?_
 refine ws 0 128 (qf (.ptr 0 0 0) [(0, .box [AI v0.1, AI v0.2])] (by simp) (qf (.ptr 64 0 0) (K0q v0) (by simp) (r_nil (ws 128 192 (qf (.ptr 128 0 0) ((128, .box [AI 0, AI 0]) :: (K0q v0)) (by simp) (r_nil (ws 192 448 (qp (.ptr 0 0 0) rfl (qp (AI v0.1) rfl (qp (.ptr 128 0 0) rfl (qf0 (.undef) (K0s v0) (by simp) (r_nil (ws 448 704 ?_)))))))))))))
 exact qp (.ptr 0 0 1) rfl (qp (AI v0.2) rfl (qp (.ptr 128 0 1) rfl (qf0 (.undef) (K0t v0) (by simp) (r_nil (ws 704 832 (qp (.agg [AI v0.1, AI v0.2]) rfl (qf0 (.undef) ((64, .box [AI v0.1, AI v0.2]) :: (K0t v0)) (by simp) (rR hF))))))))

def c20 : MC := (sr [rg 2 (.f (.nilrow 2))] (sr [mvt 5 0, zT 6 5, rg 7 (.f (.mks 2 16 (.agg [(.int .i64 0), (.int .i64 0)]) t6 t6)), mvt 3 7] (.seq (sr [pT 4 (.mv (ci 0))] (.block 0 (.loop (.seq (sr [mvt 8 4, mvt 9 0, zT 10 9, bT 11 .lss t8 t10] (cx t11 0)) (.seq (.block 1 (.reg [mvt 14 3, mvt 15 4, mvt 16 0, mvt 17 4, iT 18 16 17 2, pT 19 (.ld t18 2 true), dT 20 62 [t19], iT 21 14 15 2, ⟨none, none, (.f (.st t21 t20 2))⟩])) (.reg [mvt 12 4, bT 13 .add t12 (ci 1), mvt 4 13])))))) (sr [mvt 22 3, mvt 2 22] .ret))))
theorem c20_ : IsF Tryz.prog 20 c20 [(.tmp 2)] := ⟨by kernel_rfl, by kernel_rfl⟩

def F_laws_toNoteS_l0 (v0 : List TNote) (k1 : Int × (List TNote) → Option (List TNote)) : Int × (List TNote) → Option (List TNote)
 | (x6, x7) => (bif (decide (x6 < (v0.length : Int))) then ((ix v0 x6).bind fun u7 => ((F_laws_toNote u7).bind fun u8 => ((ix x7 x6).bind fun u9 => k1 (w64 (x6 + 1), List.set x7 x6.toNat u8))))
 else some x7)
def F_laws_toNoteS (v0 : List TNote) : Option (List TNote) :=
 (need (0 ≤ (v0.length : Int) ∧ (v0.length : Int) ≤ (v0.length : Int) ∧ (v0.length : Int) ≤ 9223372036854775807 ∧ 16 * (v0.length : Int) ≤ 281474976710656) (loop (F_laws_toNoteS_l0 v0) (0, List.replicate ((v0.length : Int)).toNat ((0, 0) : TNote))))
@[simp] abbrev K0u : List (Nat × Root) := [(0, .row true 2 (([] : List Int).map vI))]
@[simp] def res_laws_toNoteS (r : List TNote) : RV := .one (.one (.row true 2 (r.map eNote)))
theorem con_laws_toNoteS {v0 : List TNote} {r : List TNote} (hF : F_laws_toNoteS v0 = some r) : Con Tryz.prog 20 [.sl 2 (v0.map eNote)] (res_laws_toNoteS r) := by
 unfold F_laws_toNoteS at hF
 refine con_of c20_.1 fun N => ?_
 refine ws 0 64 (qf (.sl 0 0 0) K0u (by simp) (r_nil (ws 64 320 (qp (AL 2 (v0.map eNote)) rfl (qp (AI (v0.length : Int)) (ev_len_n rfl) (nk hF fun g0 hF => qf (.sl 192 0 ((List.replicate ((v0.length : Int)).toNat ((0, 0) : TNote)).length)) ((192, .row true 2 ((List.replicate ((v0.length : Int)).toNat ((0, 0) : TNote)).map eNote)) :: K0u) (effT_mks rfl rfl g0 rfl) (qp (.sl 192 0 ((List.replicate ((v0.length : Int)).toNat ((0, 0) : TNote)).length)) rfl (r_nil (w_seq (ws 320 384 (qp (AI 0) rfl (r_nil (w_block ?_)))))))))))))
 refine wr (l' := [(0, AL 2 (v0.map eNote)), (3, .sl 0 0 (List.replicate ((v0.length : Int)).toNat ((0, 0) : TNote)).length), (4, AI 0)]) (L := [(0, .row true 2 ((List.replicate ((v0.length : Int)).toNat ((0, 0) : TNote)).map eNote))]) [0, 3, 4] [(192, 0)] 1 ?_
 refine w_loopF (F_laws_toNoteS_l0 v0) (fun s : Int × (List TNote) => mkS [(0, AL 2 (v0.map eNote)), (3, .sl 0 0 s.2.length), (4, AI s.1)] (fo [(0, .row true 2 (s.2.map eNote))]) 1) hF ?_
 rintro k1 ⟨x6, x7⟩ hF
 rw [F_laws_toNoteS_l0] at hF
 try dsimp only
 refine w_seq (ws 1 257 (qp (AI x6) rfl (qp (AL 2 (v0.map eNote)) rfl (qp (AI (v0.length : Int)) (ev_len_n rfl) (qp (AB (decide (x6 < (v0.length : Int)))) rfl (r_nil ?_))))))
 refine cF hF (fun hF => ?_) fun hF => ?_
 ·
  refine w_skip (thenQ_n (w_seq (w_block (w_reg 257 833 rfl rfl (qp (.sl 0 0 x7.length) rfl (qp (AI x6) rfl (qp (AL 2 (v0.map eNote)) rfl (qp (AI x6) rfl (bk hF fun u7 e7 hF => qp (.val none (.ptr [.int .i64 u7.1, .int .i64 u7.2])) (ev_iad_n rfl rfl e7 rfl) (qp (.val none (eNote u7)) rfl (bk hF fun u8 e8 hF => qC (.val none (eNote u8)) [(0, .row true 2 (x7.map eNote))] (con_laws_toNote e8) c62_ (bk hF fun u9 e9 hF => qp (.ptr 0 x6.toNat 0) (ev_iad_r rfl (by simp) rfl rfl e9) (qf0 (.undef) [(0, .row true 2 ((List.set x7 x6.toNat u8).map eNote)), (0, .row true 2 (x7.map eNote))] (effT_st rfl rfl (ix_some e9).2 rfl rfl (by rfl) (by first | rfl | simp [patch, reb, List.take_of_length_le]) (by rfl) rfl) (r_nil (blockQ_n (thenQ_n ?_))))))))))))))))
  refine w_reg 833 1025 rfl rfl (qp (AI x6) rfl (qp (AI (w64 (x6 + 1))) rfl (qp (AI (w64 (x6 + 1))) rfl (r_nil (thenQ_n ?_)))))
  refine ar (l' := [(0, AL 2 (v0.map eNote)), (3, .sl 0 0 (List.set x7 x6.toNat u8).length), (4, AI (w64 (x6 + 1)))]) (L := [(0, .row true 2 ((List.set x7 x6.toNat u8).map eNote))]) [0, 3, 4] [(0, 0)] 1 ⟨_, by rfl, hF⟩
 exact w_exit (thenQ_e (thenQ_e (blockQ_e (thenQ_n (ws 257 385 (qp (.sl 0 0 x7.length) rfl (qp (.sl 0 0 x7.length) rfl (rR hF))))))))

def c115 : MC := (sr [rg 1 (.f (.box t0)), rg 2 (.f (.alloc [((.int .i64 0), (0, false)), ((.int .i64 0), (0, false))]))] (sr [rg 3 (.f (.alloc [((.int .i64 0), (0, false)), ((.int .i64 0), (0, false))]))] (sr [pT 4 (.fad t1 0), lT 5 4, pT 6 (.fad t3 0), ⟨none, none, (.f (.st t6 t5 1))⟩] (sr [pT 7 (.fad t1 1), lT 8 7, pT 9 (.fad t3 1), ⟨none, none, (.f (.st t9 t8 1))⟩] (sr [pT 10 (.ld t3 2 true), ⟨none, none, (.f (.st t2 t10 2))⟩] .ret)))))
theorem c115_ : IsF Tryz.prog 115 c115 [(.cell (.ld (.t 2) 2 true))] := ⟨by kernel_rfl, by kernel_rfl⟩

def F_laws_toRatio (v0 : TNote) : Option (TNote) :=
 some v0
@[simp] abbrev K0v (v0 : TNote) : List (Nat × Root) := [(64, .box [AI 0, AI 0]), (0, .box [AI v0.1, AI v0.2])]
@[simp] abbrev K0x (v0 : TNote) : List (Nat × Root) := ((128, .box [AI v0.1, AI 0]) :: (128, .box [AI 0, AI 0]) :: (K0v v0))
@[simp] abbrev K0y (v0 : TNote) : List (Nat × Root) := ((128, .box [AI v0.1, AI v0.2]) :: (K0x v0))
@[simp] def res_laws_toRatio (r : TNote) : RV := .one (.one (.val (eNote r)))
theorem con_laws_toRatio {v0 : TNote} {r : TNote} (hF : F_laws_toRatio v0 = some r) : Con Tryz.prog 115 [eNote v0] (res_laws_toRatio r) := by
 unfold F_laws_toRatio at hF
 refine con_of c115_.1 fun N => ?_
 refine ws 0 128 (qf (.ptr 0 0 0) [(0, .box [AI v0.1, AI v0.2])] (by simp) (qf (.ptr 64 0 0) (K0v v0) (by simp) (r_nil (ws 128 192 (qf (.ptr 128 0 0) ((128, .box [AI 0, AI 0]) :: (K0v v0)) (by simp) (r_nil (ws 192 448 (qp (.ptr 0 0 0) rfl (qp (AI v0.1) rfl (qp (.ptr 128 0 0) rfl (qf0 (.undef) (K0x v0) (by simp) (r_nil (ws 448 704 ?_)))))))))))))
 exact qp (.ptr 0 0 1) rfl (qp (AI v0.2) rfl (qp (.ptr 128 0 1) rfl (qf0 (.undef) (K0y v0) (by simp) (r_nil (ws 704 832 (qp (.agg [AI v0.1, AI v0.2]) rfl (qf0 (.undef) ((64, .box [AI v0.1, AI v0.2]) :: (K0y v0)) (by simp) (rR hF))))))))

def c63 : MC := (sr [rg 2 (.f (.nilrow 2))] (sr [mvt 5 0, zT 6 5, rg 7 (.f (.mks 2 16 (.agg [(.int .i64 0), (.int .i64 0)]) t6 t6)), mvt 3 7] (.seq (sr [pT 4 (.mv (ci 0))] (.block 0 (.loop (.seq (sr [mvt 8 4, mvt 9 0, zT 10 9, bT 11 .lss t8 t10] (cx t11 0)) (.seq (.block 1 (.reg [mvt 14 3, mvt 15 4, mvt 16 0, mvt 17 4, iT 18 16 17 2, pT 19 (.ld t18 2 true), dT 20 115 [t19], iT 21 14 15 2, ⟨none, none, (.f (.st t21 t20 2))⟩])) (.reg [mvt 12 4, bT 13 .add t12 (ci 1), mvt 4 13])))))) (sr [mvt 22 3, mvt 2 22] .ret))))
theorem c63_ : IsF Tryz.prog 63 c63 [(.tmp 2)] := ⟨by kernel_rfl, by kernel_rfl⟩

def F_laws_toRatioS_l0 (v0 : List TNote) (k1 : Int × (List TNote) → Option (List TNote)) : Int × (List TNote) → Option (List TNote)
 | (x6, x7) => (bif (decide (x6 < (v0.length : Int))) then ((ix v0 x6).bind fun u7 => ((F_laws_toRatio u7).bind fun u8 => ((ix x7 x6).bind fun u9 => k1 (w64 (x6 + 1), List.set x7 x6.toNat u8))))
 else some x7)
def F_laws_toRatioS (v0 : List TNote) : Option (List TNote) :=
 (need (0 ≤ (v0.length : Int) ∧ (v0.length : Int) ≤ (v0.length : Int) ∧ (v0.length : Int) ≤ 9223372036854775807 ∧ 16 * (v0.length : Int) ≤ 281474976710656) (loop (F_laws_toRatioS_l0 v0) (0, List.replicate ((v0.length : Int)).toNat ((0, 0) : TNote))))
@[simp] abbrev K0z : List (Nat × Root) := [(0, .row true 2 (([] : List Int).map vI))]
@[simp] def res_laws_toRatioS (r : List TNote) : RV := .one (.one (.row true 2 (r.map eNote)))
theorem con_laws_toRatioS {v0 : List TNote} {r : List TNote} (hF : F_laws_toRatioS v0 = some r) : Con Tryz.prog 63 [.sl 2 (v0.map eNote)] (res_laws_toRatioS r) := by
 unfold F_laws_toRatioS at hF
 refine con_of c63_.1 fun N => ?_
 refine ws 0 64 (qf (.sl 0 0 0) K0z (by simp) (r_nil (ws 64 320 (qp (AL 2 (v0.map eNote)) rfl (qp (AI (v0.length : Int)) (ev_len_n rfl) (nk hF fun g0 hF => qf (.sl 192 0 ((List.replicate ((v0.length : Int)).toNat ((0, 0) : TNote)).length)) ((192, .row true 2 ((List.replicate ((v0.length : Int)).toNat ((0, 0) : TNote)).map eNote)) :: K0z) (effT_mks rfl rfl g0 rfl) (qp (.sl 192 0 ((List.replicate ((v0.length : Int)).toNat ((0, 0) : TNote)).length)) rfl (r_nil (w_seq (ws 320 384 (qp (AI 0) rfl (r_nil (w_block ?_)))))))))))))
 refine wr (l' := [(0, AL 2 (v0.map eNote)), (3, .sl 0 0 (List.replicate ((v0.length : Int)).toNat ((0, 0) : TNote)).length), (4, AI 0)]) (L := [(0, .row true 2 ((List.replicate ((v0.length : Int)).toNat ((0, 0) : TNote)).map eNote))]) [0, 3, 4] [(192, 0)] 1 ?_
 refine w_loopF (F_laws_toRatioS_l0 v0) (fun s : Int × (List TNote) => mkS [(0, AL 2 (v0.map eNote)), (3, .sl 0 0 s.2.length), (4, AI s.1)] (fo [(0, .row true 2 (s.2.map eNote))]) 1) hF ?_
 rintro k1 ⟨x6, x7⟩ hF
 rw [F_laws_toRatioS_l0] at hF
 try dsimp only
 refine w_seq (ws 1 257 (qp (AI x6) rfl (qp (AL 2 (v0.map eNote)) rfl (qp (AI (v0.length : Int)) (ev_len_n rfl) (qp (AB (decide (x6 < (v0.length : Int)))) rfl (r_nil ?_))))))
 refine cF hF (fun hF => ?_) fun hF => ?_
 ·
  refine w_skip (thenQ_n (w_seq (w_block (w_reg 257 833 rfl rfl (qp (.sl 0 0 x7.length) rfl (qp (AI x6) rfl (qp (AL 2 (v0.map eNote)) rfl (qp (AI x6) rfl (bk hF fun u7 e7 hF => qp (.val none (.ptr [.int .i64 u7.1, .int .i64 u7.2])) (ev_iad_n rfl rfl e7 rfl) (qp (.val none (eNote u7)) rfl (bk hF fun u8 e8 hF => qC (.val none (eNote u8)) [(0, .row true 2 (x7.map eNote))] (con_laws_toRatio e8) c115_ (bk hF fun u9 e9 hF => qp (.ptr 0 x6.toNat 0) (ev_iad_r rfl (by simp) rfl rfl e9) (qf0 (.undef) [(0, .row true 2 ((List.set x7 x6.toNat u8).map eNote)), (0, .row true 2 (x7.map eNote))] (effT_st rfl rfl (ix_some e9).2 rfl rfl (by rfl) (by first | rfl | simp [patch, reb, List.take_of_length_le]) (by rfl) rfl) (r_nil (blockQ_n (thenQ_n ?_))))))))))))))))
  refine w_reg 833 1025 rfl rfl (qp (AI x6) rfl (qp (AI (w64 (x6 + 1))) rfl (qp (AI (w64 (x6 + 1))) rfl (r_nil (thenQ_n ?_)))))
  refine ar (l' := [(0, AL 2 (v0.map eNote)), (3, .sl 0 0 (List.set x7 x6.toNat u8).length), (4, AI (w64 (x6 + 1)))]) (L := [(0, .row true 2 ((List.set x7 x6.toNat u8).map eNote))]) [0, 3, 4] [(0, 0)] 1 ⟨_, by rfl, hF⟩
 exact w_exit (thenQ_e (thenQ_e (blockQ_e (thenQ_n (ws 257 385 (qp (.sl 0 0 x7.length) rfl (qp (.sl 0 0 x7.length) rfl (rR hF))))))))

def c21 : MC := (sr [rg 1 (.f (.box t0)), rg 2 (.f (.alloc [((.str []), (0, false)), ((.sl 0 []), (2, false))]))] (sr [rg 3 (.f (.alloc [((.str []), (0, false)), ((.sl 0 []), (2, false))]))] (sr [pT 4 (.fad t1 0), lT 5 4, pT 6 (.fad t3 0), ⟨none, none, (.f (.st t6 t5 1))⟩] (sr [pT 7 (.fad t1 1), lT 8 7, dT 9 63 [t8], pT 10 (.fad t3 1), ⟨none, none, (.f (.st t10 t9 1))⟩] (sr [pT 11 (.ld t3 2 true), ⟨none, none, (.f (.st t2 t11 2))⟩] .ret)))))
theorem c21_ : IsF Tryz.prog 21 c21 [(.cell (.ld (.t 2) 2 true))] := ⟨by kernel_rfl, by kernel_rfl⟩

def F_laws_toTuning (v0 : TTuning) : Option (TTuning) :=
 ((F_laws_toRatioS v0.2).bind fun u0 => some (v0.1, u0))
@[simp] abbrev K10 (v0 : TTuning) : List (Nat × Root) := [(0, .box [AS v0.1, AL 2 (v0.2.map eNote)])]
@[simp] abbrev K11 (v0 : TTuning) : List (Nat × Root) := ((64, .box [AS [], .sl 65 0 0]) :: (65, .row true 2 (([] : List Int).map vI)) :: (K10 v0))
@[simp] abbrev K12 (v0 : TTuning) : List (Nat × Root) := ((128, .box [AS [], .sl 129 0 0]) :: (129, .row true 2 (([] : List Int).map vI)) :: (K11 v0))
@[simp] abbrev K13 (v0 : TTuning) : List (Nat × Root) := ((128, .box [AS v0.1, .sl 129 0 0]) :: (K12 v0))
@[simp] abbrev K14 (u0 : List TNote) (v0 : TTuning) : List (Nat × Root) := ((576, .row true 2 (u0.map eNote)) :: (K13 v0))
@[simp] abbrev K15 (v0 : TTuning) (u0 : List TNote) : List (Nat × Root) := ((128, .box [AS v0.1, .sl 576 0 u0.length]) :: (K14 u0 v0))
@[simp] def res_laws_toTuning (r : TTuning) : RV := .one (.agg [.val (.str r.1), .row true 2 (r.2.map eNote)])
theorem con_laws_toTuning {v0 : TTuning} {r : TTuning} (hF : F_laws_toTuning v0 = some r) : Con Tryz.prog 21 [eTuning v0] (res_laws_toTuning r) := by
 unfold F_laws_toTuning at hF
 refine con_of c21_.1 fun N => ?_
 refine ws 0 128 (qf (.ptr 0 0 0) (K10 v0) (by simp) (qf (.ptr 64 0 0) (K11 v0) (by simp) (r_nil (ws 128 192 (qf (.ptr 128 0 0) (K12 v0) (by simp) (r_nil (ws 192 448 (qp (.ptr 0 0 0) rfl (qp (AS v0.1) rfl (qp (.ptr 128 0 0) rfl (qf0 (.undef) (K13 v0) (by simp) (r_nil (ws 448 768 ?_)))))))))))))
 exact qp (.ptr 0 0 1) rfl (qp (AL 2 (v0.2.map eNote)) rfl (bk hF fun u0 e0 hF => qc (.sl 576 0 u0.length) (K14 u0 v0) false (con_laws_toRatioS e0) c63_.2 (by first | rfl | simp) (by simp [res_laws_toRatioS]) (qp (.ptr 128 0 1) rfl (qf0 (.undef) (K15 v0 u0) (by simp) (r_nil (ws 768 896 (qp (.agg [AS v0.1, .sl 576 0 u0.length]) rfl (qf0 (.undef) ((64, .box [AS v0.1, .sl 576 0 u0.length]) :: (K15 v0 u0)) (by simp) (rR hF)))))))))

def c64 : MC := (sr [rg 1 (.f (.box t0)), rg 2 (.f (.alloc [((.str []), (0, false)), ((.int .i64 0), (0, false)), ((.int .i64 0), (0, false))]))] (sr [rg 3 (.f (.alloc [((.str []), (0, false)), ((.int .i64 0), (0, false)), ((.int .i64 0), (0, false))]))] (sr [pT 4 (.fad t1 0), lT 5 4, pT 6 (.fad t3 0), ⟨none, none, (.f (.st t6 t5 1))⟩] (sr [pT 7 (.fad t1 1), lT 8 7, pT 9 (.fad t3 1), ⟨none, none, (.f (.st t9 t8 1))⟩] (sr [pT 10 (.fad t1 2), lT 11 10, pT 12 (.fad t3 2), ⟨none, none, (.f (.st t12 t11 1))⟩] (sr [pT 13 (.ld t3 3 true), ⟨none, none, (.f (.st t2 t13 3))⟩] .ret))))))
theorem c64_ : IsF Tryz.prog 64 c64 [(.cell (.ld (.t 2) 3 true))] := ⟨by kernel_rfl, by kernel_rfl⟩

def F_laws_toSyllable (v0 : TSyllable) : Option (TSyllable) :=
 some v0
@[simp] abbrev K16 (v0 : TSyllable) : List (Nat × Root) := [(64, .box [AS [], AI 0, AI 0]), (0, .box [AS v0.1, AI v0.2.1, AI v0.2.2])]
@[simp] abbrev K17 (v0 : TSyllable) : List (Nat × Root) := ((128, .box [AS [], AI 0, AI 0]) :: (K16 v0))
@[simp] abbrev K18 (v0 : TSyllable) : List (Nat × Root) := ((128, .box [AS v0.1, AI 0, AI 0]) :: (K17 v0))
@[simp] abbrev K19 (v0 : TSyllable) : List (Nat × Root) := ((128, .box [AS v0.1, AI v0.2.1, AI 0]) :: (K18 v0))
@[simp] abbrev K1a (v0 : TSyllable) : List (Nat × Root) := ((128, .box [AS v0.1, AI v0.2.1, AI v0.2.2]) :: (K19 v0))
@[simp] def res_laws_toSyllable (r : TSyllable) : RV := .one (.one (.val (eSyllable r)))
theorem con_laws_toSyllable {v0 : TSyllable} {r : TSyllable} (hF : F_laws_toSyllable v0 = some r) : Con Tryz.prog 64 [eSyllable v0] (res_laws_toSyllable r) := by
 unfold F_laws_toSyllable at hF
 refine con_of c64_.1 fun N => ?_
 refine ws 0 128 (qf (.ptr 0 0 0) [(0, .box [AS v0.1, AI v0.2.1, AI v0.2.2])] (by simp) (qf (.ptr 64 0 0) (K16 v0) (by simp) (r_nil (ws 128 192 (qf (.ptr 128 0 0) (K17 v0) (by simp) (r_nil (ws 192 448 (qp (.ptr 0 0 0) rfl (qp (AS v0.1) rfl (qp (.ptr 128 0 0) rfl (qf0 (.undef) (K18 v0) (by simp) (r_nil (ws 448 704 ?_)))))))))))))
 exact qp (.ptr 0 0 1) rfl (qp (AI v0.2.1) rfl (qp (.ptr 128 0 1) rfl (qf0 (.undef) (K19 v0) (by simp) (r_nil (ws 704 960 (qp (.ptr 0 0 2) rfl (qp (AI v0.2.2) rfl (qp (.ptr 128 0 2) rfl (qf0 (.undef) (K1a v0) (by simp) (r_nil (ws 960 1088 (qp (.agg [AS v0.1, AI v0.2.1, AI v0.2.2]) rfl (qf0 (.undef) ((64, .box [AS v0.1, AI v0.2.1, AI v0.2.2]) :: (K1a v0)) (by simp) (rR hF))))))))))))))

def c23 : MC := (sr [rg 2 (.f (.nilrow 3))] (sr [mvt 5 0, zT 6 5, rg 7 (.f (.mks 3 32 (.agg [(.str []), (.int .i64 0), (.int .i64 0)]) t6 t6)), mvt 3 7] (.seq (sr [pT 4 (.mv (ci 0))] (.block 0 (.loop (.seq (sr [mvt 8 4, mvt 9 0, zT 10 9, bT 11 .lss t8 t10] (cx t11 0)) (.seq (.block 1 (.reg [mvt 14 3, mvt 15 4, mvt 16 0, mvt 17 4, iT 18 16 17 3, pT 19 (.ld t18 3 true), dT 20 64 [t19], iT 21 14 15 3, ⟨none, none, (.f (.st t21 t20 3))⟩])) (.reg [mvt 12 4, bT 13 .add t12 (ci 1), mvt 4 13])))))) (sr [mvt 22 3, mvt 2 22] .ret))))
theorem c23_ : IsF Tryz.prog 23 c23 [(.tmp 2)] := ⟨by kernel_rfl, by kernel_rfl⟩

def F_laws_toSyllableS_l0 (v0 : List TSyllable) (k1 : Int × (List TSyllable) → Option (List TSyllable)) : Int × (List TSyllable) → Option (List TSyllable)
 | (x6, x7) => (bif (decide (x6 < (v0.length : Int))) then ((ix v0 x6).bind fun u7 => ((F_laws_toSyllable u7).bind fun u8 => ((ix x7 x6).bind fun u9 => k1 (w64 (x6 + 1), List.set x7 x6.toNat u8))))
 else some x7)
def F_laws_toSyllableS (v0 : List TSyllable) : Option (List TSyllable) :=
 (need (0 ≤ (v0.length : Int) ∧ (v0.length : Int) ≤ (v0.length : Int) ∧ (v0.length : Int) ≤ 9223372036854775807 ∧ 32 * (v0.length : Int) ≤ 281474976710656) (loop (F_laws_toSyllableS_l0 v0) (0, List.replicate ((v0.length : Int)).toNat (([], 0, 0) : TSyllable))))
@[simp] abbrev K1b : List (Nat × Root) := [(0, .row true 3 (([] : List Int).map vI))]
@[simp] def res_laws_toSyllableS (r : List TSyllable) : RV := .one (.one (.row true 3 (r.map eSyllable)))
theorem con_laws_toSyllableS {v0 : List TSyllable} {r : List TSyllable} (hF : F_laws_toSyllableS v0 = some r) : Con Tryz.prog 23 [.sl 3 (v0.map eSyllable)] (res_laws_toSyllableS r) := by
 unfold F_laws_toSyllableS at hF
 refine con_of c23_.1 fun N => ?_
 refine ws 0 64 (qf (.sl 0 0 0) K1b (by simp) (r_nil (ws 64 320 (qp (AL 3 (v0.map eSyllable)) rfl (qp (AI (v0.length : Int)) (ev_len_n rfl) (nk hF fun g0 hF => qf (.sl 192 0 ((List.replicate ((v0.length : Int)).toNat (([], 0, 0) : TSyllable)).length)) ((192, .row true 3 ((List.replicate ((v0.length : Int)).toNat (([], 0, 0) : TSyllable)).map eSyllable)) :: K1b) (effT_mks rfl rfl g0 rfl) (qp (.sl 192 0 ((List.replicate ((v0.length : Int)).toNat (([], 0, 0) : TSyllable)).length)) rfl (r_nil (w_seq (ws 320 384 (qp (AI 0) rfl (r_nil (w_block ?_)))))))))))))
 refine wr (l' := [(0, AL 3 (v0.map eSyllable)), (3, .sl 0 0 (List.replicate ((v0.length : Int)).toNat (([], 0, 0) : TSyllable)).length), (4, AI 0)]) (L := [(0, .row true 3 ((List.replicate ((v0.length : Int)).toNat (([], 0, 0) : TSyllable)).map eSyllable))]) [0, 3, 4] [(192, 0)] 1 ?_
 refine w_loopF (F_laws_toSyllableS_l0 v0) (fun s : Int × (List TSyllable) => mkS [(0, AL 3 (v0.map eSyllable)), (3, .sl 0 0 s.2.length), (4, AI s.1)] (fo [(0, .row true 3 (s.2.map eSyllable))]) 1) hF ?_
 rintro k1 ⟨x6, x7⟩ hF
 rw [F_laws_toSyllableS_l0] at hF
 try dsimp only
 refine w_seq (ws 1 257 (qp (AI x6) rfl (qp (AL 3 (v0.map eSyllable)) rfl (qp (AI (v0.length : Int)) (ev_len_n rfl) (qp (AB (decide (x6 < (v0.length : Int)))) rfl (r_nil ?_))))))
 refine cF hF (fun hF => ?_) fun hF => ?_
 ·
  refine w_skip (thenQ_n (w_seq (w_block (w_reg 257 833 rfl rfl (qp (.sl 0 0 x7.length) rfl (qp (AI x6) rfl (qp (AL 3 (v0.map eSyllable)) rfl (qp (AI x6) rfl (bk hF fun u7 e7 hF => qp (.val none (.ptr [.str u7.1, .int .i64 u7.2.1, .int .i64 u7.2.2])) (ev_iad_n rfl rfl e7 rfl) (qp (.val none (eSyllable u7)) rfl (bk hF fun u8 e8 hF => qC (.val none (eSyllable u8)) [(0, .row true 3 (x7.map eSyllable))] (con_laws_toSyllable e8) c64_ (bk hF fun u9 e9 hF => qp (.ptr 0 x6.toNat 0) (ev_iad_r rfl (by simp) rfl rfl e9) (qf0 (.undef) [(0, .row true 3 ((List.set x7 x6.toNat u8).map eSyllable)), (0, .row true 3 (x7.map eSyllable))] (effT_st rfl rfl (ix_some e9).2 rfl rfl (by rfl) (by first | rfl | simp [patch, reb, List.take_of_length_le]) (by rfl) rfl) (r_nil (blockQ_n (thenQ_n ?_))))))))))))))))
  refine w_reg 833 1025 rfl rfl (qp (AI x6) rfl (qp (AI (w64 (x6 + 1))) rfl (qp (AI (w64 (x6 + 1))) rfl (r_nil (thenQ_n ?_)))))
  refine ar (l' := [(0, AL 3 (v0.map eSyllable)), (3, .sl 0 0 (List.set x7 x6.toNat u8).length), (4, AI (w64 (x6 + 1)))]) (L := [(0, .row true 3 ((List.set x7 x6.toNat u8).map eSyllable))]) [0, 3, 4] [(0, 0)] 1 ⟨_, by rfl, hF⟩
 exact w_exit (thenQ_e (thenQ_e (blockQ_e (thenQ_n (ws 257 385 (qp (.sl 0 0 x7.length) rfl (qp (.sl 0 0 x7.length) rfl (rR hF))))))))

def c65 : MC := (sr [rg 1 (.f (.box t0)), rg 2 (.f (.alloc [((.int .i64 0), (0, false)), ((.int .i64 0), (0, false))]))] (sr [rg 3 (.f (.alloc [((.int .i64 0), (0, false)), ((.int .i64 0), (0, false))]))] (sr [pT 4 (.fad t1 0), lT 5 4, pT 6 (.fad t3 0), ⟨none, none, (.f (.st t6 t5 1))⟩] (sr [pT 7 (.fad t1 1), lT 8 7, pT 9 (.fad t3 1), ⟨none, none, (.f (.st t9 t8 1))⟩] (sr [pT 10 (.ld t3 2 true), ⟨none, none, (.f (.st t2 t10 2))⟩] .ret)))))
theorem c65_ : IsF Tryz.prog 65 c65 [(.cell (.ld (.t 2) 2 true))] := ⟨by kernel_rfl, by kernel_rfl⟩

def F_laws_toTempoMark (v0 : TNote) : Option (TNote) :=
 some v0
@[simp] abbrev K1c (v0 : TNote) : List (Nat × Root) := [(64, .box [AI 0, AI 0]), (0, .box [AI v0.1, AI v0.2])]
@[simp] abbrev K1e (v0 : TNote) : List (Nat × Root) := ((128, .box [AI v0.1, AI 0]) :: (128, .box [AI 0, AI 0]) :: (K1c v0))
@[simp] abbrev K1f (v0 : TNote) : List (Nat × Root) := ((128, .box [AI v0.1, AI v0.2]) :: (K1e v0))
@[simp] def res_laws_toTempoMark (r : TNote) : RV := .one (.one (.val (eNote r)))
theorem con_laws_toTempoMark {v0 : TNote} {r : TNote} (hF : F_laws_toTempoMark v0 = some r) : Con Tryz.prog 65 [eNote v0] (res_laws_toTempoMark r) := by
 unfold F_laws_toTempoMark at hF
 refine con_of c65_.1 fun N => ?_
 refine ws 0 128 (qf (.ptr 0 0 0) [(0, .box [AI v0.1, AI v0.2])] (by simp) (qf (.ptr 64 0 0) (K1c v0) (by simp) (r_nil (ws 128 192 (qf (.ptr 128 0 0) ((128, .box [AI 0, AI 0]) :: (K1c v0)) (by simp) (r_nil (ws 192 448 (qp (.ptr 0 0 0) rfl (qp (AI v0.1) rfl (qp (.ptr 128 0 0) rfl (qf0 (.undef) (K1e v0) (by simp) (r_nil (ws 448 704 ?_)))))))))))))
 exact qp (.ptr 0 0 1) rfl (qp (AI v0.2) rfl (qp (.ptr 128 0 1) rfl (qf0 (.undef) (K1f v0) (by simp) (r_nil (ws 704 832 (qp (.agg [AI v0.1, AI v0.2]) rfl (qf0 (.undef) ((64, .box [AI v0.1, AI v0.2]) :: (K1f v0)) (by simp) (rR hF))))))))

def c24 : MC := (sr [rg 2 (.f (.nilrow 2))] (sr [mvt 5 0, zT 6 5, rg 7 (.f (.mks 2 16 (.agg [(.int .i64 0), (.int .i64 0)]) t6 t6)), mvt 3 7] (.seq (sr [pT 4 (.mv (ci 0))] (.block 0 (.loop (.seq (sr [mvt 8 4, mvt 9 0, zT 10 9, bT 11 .lss t8 t10] (cx t11 0)) (.seq (.block 1 (.reg [mvt 14 3, mvt 15 4, mvt 16 0, mvt 17 4, iT 18 16 17 2, pT 19 (.ld t18 2 true), dT 20 65 [t19], iT 21 14 15 2, ⟨none, none, (.f (.st t21 t20 2))⟩])) (.reg [mvt 12 4, bT 13 .add t12 (ci 1), mvt 4 13])))))) (sr [mvt 22 3, mvt 2 22] .ret))))
theorem c24_ : IsF Tryz.prog 24 c24 [(.tmp 2)] := ⟨by kernel_rfl, by kernel_rfl⟩

def F_laws_toTempoMarkS_l0 (v0 : List TNote) (k1 : Int × (List TNote) → Option (List TNote)) : Int × (List TNote) → Option (List TNote)
 | (x6, x7) => (bif (decide (x6 < (v0.length : Int))) then ((ix v0 x6).bind fun u7 => ((F_laws_toTempoMark u7).bind fun u8 => ((ix x7 x6).bind fun u9 => k1 (w64 (x6 + 1), List.set x7 x6.toNat u8))))
 else some x7)
def F_laws_toTempoMarkS (v0 : List TNote) : Option (List TNote) :=
 (need (0 ≤ (v0.length : Int) ∧ (v0.length : Int) ≤ (v0.length : Int) ∧ (v0.length : Int) ≤ 9223372036854775807 ∧ 16 * (v0.length : Int) ≤ 281474976710656) (loop (F_laws_toTempoMarkS_l0 v0) (0, List.replicate ((v0.length : Int)).toNat ((0, 0) : TNote))))
@[simp] abbrev K1g : List (Nat × Root) := [(0, .row true 2 (([] : List Int).map vI))]
@[simp] def res_laws_toTempoMarkS (r : List TNote) : RV := .one (.one (.row true 2 (r.map eNote)))
theorem con_laws_toTempoMarkS {v0 : List TNote} {r : List TNote} (hF : F_laws_toTempoMarkS v0 = some r) : Con Tryz.prog 24 [.sl 2 (v0.map eNote)] (res_laws_toTempoMarkS r) := by
 unfold F_laws_toTempoMarkS at hF
 refine con_of c24_.1 fun N => ?_
 refine ws 0 64 (qf (.sl 0 0 0) K1g (by simp) (r_nil (ws 64 320 (qp (AL 2 (v0.map eNote)) rfl (qp (AI (v0.length : Int)) (ev_len_n rfl) (nk hF fun g0 hF => qf (.sl 192 0 ((List.replicate ((v0.length : Int)).toNat ((0, 0) : TNote)).length)) ((192, .row true 2 ((List.replicate ((v0.length : Int)).toNat ((0, 0) : TNote)).map eNote)) :: K1g) (effT_mks rfl rfl g0 rfl) (qp (.sl 192 0 ((List.replicate ((v0.length : Int)).toNat ((0, 0) : TNote)).length)) rfl (r_nil (w_seq (ws 320 384 (qp (AI 0) rfl (r_nil (w_block ?_)))))))))))))
 refine wr (l' := [(0, AL 2 (v0.map eNote)), (3, .sl 0 0 (List.replicate ((v0.length : Int)).toNat ((0, 0) : TNote)).length), (4, AI 0)]) (L := [(0, .row true 2 ((List.replicate ((v0.length : Int)).toNat ((0, 0) : TNote)).map eNote))]) [0, 3, 4] [(192, 0)] 1 ?_
 refine w_loopF (F_laws_toTempoMarkS_l0 v0) (fun s : Int × (List TNote) => mkS [(0, AL 2 (v0.map eNote)), (3, .sl 0 0 s.2.length), (4, AI s.1)] (fo [(0, .row true 2 (s.2.map eNote))]) 1) hF ?_
 rintro k1 ⟨x6, x7⟩ hF
 rw [F_laws_toTempoMarkS_l0] at hF
 try dsimp only
 refine w_seq (ws 1 257 (qp (AI x6) rfl (qp (AL 2 (v0.map eNote)) rfl (qp (AI (v0.length : Int)) (ev_len_n rfl) (qp (AB (decide (x6 < (v0.length : Int)))) rfl (r_nil ?_))))))
 refine cF hF (fun hF => ?_) fun hF => ?_
 ·
  refine w_skip (thenQ_n (w_seq (w_block (w_reg 257 833 rfl rfl (qp (.sl 0 0 x7.length) rfl (qp (AI x6) rfl (qp (AL 2 (v0.map eNote)) rfl (qp (AI x6) rfl (bk hF fun u7 e7 hF => qp (.val none (.ptr [.int .i64 u7.1, .int .i64 u7.2])) (ev_iad_n rfl rfl e7 rfl) (qp (.val none (eNote u7)) rfl (bk hF fun u8 e8 hF => qC (.val none (eNote u8)) [(0, .row true 2 (x7.map eNote))] (con_laws_toTempoMark e8) c65_ (bk hF fun u9 e9 hF => qp (.ptr 0 x6.toNat 0) (ev_iad_r rfl (by simp) rfl rfl e9) (qf0 (.undef) [(0, .row true 2 ((List.set x7 x6.toNat u8).map eNote)), (0, .row true 2 (x7.map eNote))] (effT_st rfl rfl (ix_some e9).2 rfl rfl (by rfl) (by first | rfl | simp [patch, reb, List.take_of_length_le]) (by rfl) rfl) (r_nil (blockQ_n (thenQ_n ?_))))))))))))))))
  refine w_reg 833 1025 rfl rfl (qp (AI x6) rfl (qp (AI (w64 (x6 + 1))) rfl (qp (AI (w64 (x6 + 1))) rfl (r_nil (thenQ_n ?_)))))
  refine ar (l' := [(0, AL 2 (v0.map eNote)), (3, .sl 0 0 (List.set x7 x6.toNat u8).length), (4, AI (w64 (x6 + 1)))]) (L := [(0, .row true 2 ((List.set x7 x6.toNat u8).map eNote))]) [0, 3, 4] [(0, 0)] 1 ⟨_, by rfl, hF⟩
 exact w_exit (thenQ_e (thenQ_e (blockQ_e (thenQ_n (ws 257 385 (qp (.sl 0 0 x7.length) rfl (qp (.sl 0 0 x7.length) rfl (rR hF))))))))

def c66 : MC := (sr [rg 1 (.f (.box t0)), rg 2 (.f (.alloc [((.str []), (0, false)), ((.int .i64 0), (0, false)), ((.int .i64 0), (0, false)), ((.int .i64 0), (0, false)), ((.int .i64 0), (0, false)), ((.int .i64 0), (0, false))]))] (sr [rg 3 (.f (.alloc [((.str []), (0, false)), ((.int .i64 0), (0, false)), ((.int .i64 0), (0, false)), ((.int .i64 0), (0, false)), ((.int .i64 0), (0, false)), ((.int .i64 0), (0, false))]))] (sr [pT 4 (.fad t1 0), lT 5 4, pT 6 (.fad t3 0), ⟨none, none, (.f (.st t6 t5 1))⟩] (sr [pT 7 (.fad t1 1), lT 8 7, pT 9 (.fad t3 1), ⟨none, none, (.f (.st t9 t8 1))⟩] (sr [pT 10 (.fad t1 2), lT 11 10, pT 12 (.fad t3 2), ⟨none, none, (.f (.st t12 t11 1))⟩] (sr [pT 13 (.fad t1 3), lT 14 13, pT 15 (.fad t3 3), ⟨none, none, (.f (.st t15 t14 1))⟩] (sr [pT 16 (.fad t1 4), lT 17 16, pT 18 (.fad t3 4), ⟨none, none, (.f (.st t18 t17 1))⟩] (sr [pT 19 (.fad t1 5), lT 20 19, pT 21 (.fad t3 5), ⟨none, none, (.f (.st t21 t20 1))⟩] (sr [pT 22 (.ld t3 6 true), ⟨none, none, (.f (.st t2 t22 6))⟩] .ret)))))))))
theorem c66_ : IsF Tryz.prog 66 c66 [(.cell (.ld (.t 2) 6 true))] := ⟨by kernel_rfl, by kernel_rfl⟩

def F_laws_toItem (v0 : TItem) : Option (TItem) :=
 some v0
@[simp] abbrev K1q (v0 : TItem) : List AV := [AS v0.1, AI v0.2.1, AI v0.2.2.1, AI v0.2.2.2.1, AI v0.2.2.2.2.1, AI v0.2.2.2.2.2]
@[simp] abbrev K1h (v0 : TItem) : List (Nat × Root) := [(0, .box (K1q v0))]
@[simp] abbrev K1i (v0 : TItem) : List (Nat × Root) := ((64, .box [AS [], AI 0, AI 0, AI 0, AI 0, AI 0]) :: (K1h v0))
@[simp] abbrev K1j (v0 : TItem) : List (Nat × Root) := ((128, .box [AS [], AI 0, AI 0, AI 0, AI 0, AI 0]) :: (K1i v0))
@[simp] abbrev K1k (v0 : TItem) : List (Nat × Root) := ((128, .box [AS v0.1, AI 0, AI 0, AI 0, AI 0, AI 0]) :: (K1j v0))
@[simp] abbrev K1l (v0 : TItem) : List (Nat × Root) := ((128, .box [AS v0.1, AI v0.2.1, AI 0, AI 0, AI 0, AI 0]) :: (K1k v0))
@[simp] abbrev K1m (v0 : TItem) : List (Nat × Root) := ((128, .box [AS v0.1, AI v0.2.1, AI v0.2.2.1, AI 0, AI 0, AI 0]) :: (K1l v0))
@[simp] abbrev K1n (v0 : TItem) : List (Nat × Root) := ((128, .box [AS v0.1, AI v0.2.1, AI v0.2.2.1, AI v0.2.2.2.1, AI 0, AI 0]) :: (K1m v0))
@[simp] abbrev K1o (v0 : TItem) : List (Nat × Root) := ((128, .box [AS v0.1, AI v0.2.1, AI v0.2.2.1, AI v0.2.2.2.1, AI v0.2.2.2.2.1, AI 0]) :: (K1n v0))
@[simp] abbrev K1p (v0 : TItem) : List (Nat × Root) := ((128, .box (K1q v0)) :: (K1o v0))
@[simp] def res_laws_toItem (r : TItem) : RV := .one (.one (.val (eItem r)))
theorem con_laws_toItem {v0 : TItem} {r : TItem} (hF : F_laws_toItem v0 = some r) : Con Tryz.prog 66 [eItem v0] (res_laws_toItem r) := by
 unfold F_laws_toItem at hF
 refine con_of c66_.1 fun N => ?_
 refine ws 0 128 (qf (.ptr 0 0 0) (K1h v0) (by simp) (qf (.ptr 64 0 0) (K1i v0) (by simp) (r_nil (ws 128 192 (qf (.ptr 128 0 0) (K1j v0) (by simp) (r_nil (ws 192 448 (qp (.ptr 0 0 0) rfl (qp (AS v0.1) rfl (qp (.ptr 128 0 0) rfl (qf0 (.undef) (K1k v0) (by simp) (r_nil (ws 448 704 ?_)))))))))))))
 refine qp (.ptr 0 0 1) rfl (qp (AI v0.2.1) rfl (qp (.ptr 128 0 1) rfl (qf0 (.undef) (K1l v0) (by simp) (r_nil (ws 704 960 (qp (.ptr 0 0 2) rfl (qp (AI v0.2.2.1) rfl (qp (.ptr 128 0 2) rfl (qf0 (.undef) (K1m v0) (by simp) (r_nil (ws 960 1216 ?_)))))))))))
 refine qp (.ptr 0 0 3) rfl (qp (AI v0.2.2.2.1) rfl (qp (.ptr 128 0 3) rfl (qf0 (.undef) (K1n v0) (by simp) (r_nil (ws 1216 1472 (qp (.ptr 0 0 4) rfl (qp (AI v0.2.2.2.2.1) rfl (qp (.ptr 128 0 4) rfl (qf0 (.undef) (K1o v0) (by simp) (r_nil (ws 1472 1728 ?_)))))))))))
 exact qp (.ptr 0 0 5) rfl (qp (AI v0.2.2.2.2.2) rfl (qp (.ptr 128 0 5) rfl (qf0 (.undef) (K1p v0) (by simp) (r_nil (ws 1728 1856 (qp (.agg (K1q v0)) rfl (qf0 (.undef) ((64, .box (K1q v0)) :: (K1p v0)) (by simp) (rR hF))))))))

def c25 : MC := (sr [rg 2 (.f (.nilrow 6))] (sr [mvt 5 0, zT 6 5, rg 7 (.f (.mks 6 56 (.agg [(.str []), (.int .i64 0), (.int .i64 0), (.int .i64 0), (.int .i64 0), (.int .i64 0)]) t6 t6)), mvt 3 7] (.seq (sr [pT 4 (.mv (ci 0))] (.block 0 (.loop (.seq (sr [mvt 8 4, mvt 9 0, zT 10 9, bT 11 .lss t8 t10] (cx t11 0)) (.seq (.block 1 (.reg [mvt 14 3, mvt 15 4, mvt 16 0, mvt 17 4, iT 18 16 17 6, pT 19 (.ld t18 6 true), dT 20 66 [t19], iT 21 14 15 6, ⟨none, none, (.f (.st t21 t20 6))⟩])) (.reg [mvt 12 4, bT 13 .add t12 (ci 1), mvt 4 13])))))) (sr [mvt 22 3, mvt 2 22] .ret))))
theorem c25_ : IsF Tryz.prog 25 c25 [(.tmp 2)] := ⟨by kernel_rfl, by kernel_rfl⟩

def F_laws_toItemS_l0 (v0 : List TItem) (k1 : Int × (List TItem) → Option (List TItem)) : Int × (List TItem) → Option (List TItem)
 | (x6, x7) => (bif (decide (x6 < (v0.length : Int))) then ((ix v0 x6).bind fun u7 => ((F_laws_toItem u7).bind fun u8 => ((ix x7 x6).bind fun u9 => k1 (w64 (x6 + 1), List.set x7 x6.toNat u8))))
 else some x7)
def F_laws_toItemS (v0 : List TItem) : Option (List TItem) :=
 (need (0 ≤ (v0.length : Int) ∧ (v0.length : Int) ≤ (v0.length : Int) ∧ (v0.length : Int) ≤ 9223372036854775807 ∧ 56 * (v0.length : Int) ≤ 281474976710656) (loop (F_laws_toItemS_l0 v0) (0, List.replicate ((v0.length : Int)).toNat (([], 0, 0, 0, 0, 0) : TItem))))
@[simp] abbrev K1r : List (Nat × Root) := [(0, .row true 6 (([] : List Int).map vI))]
@[simp] def res_laws_toItemS (r : List TItem) : RV := .one (.one (.row true 6 (r.map eItem)))
theorem con_laws_toItemS {v0 : List TItem} {r : List TItem} (hF : F_laws_toItemS v0 = some r) : Con Tryz.prog 25 [.sl 6 (v0.map eItem)] (res_laws_toItemS r) := by
 unfold F_laws_toItemS at hF
 refine con_of c25_.1 fun N => ?_
 refine ws 0 64 (qf (.sl 0 0 0) K1r (by simp) (r_nil (ws 64 320 (qp (AL 6 (v0.map eItem)) rfl (qp (AI (v0.length : Int)) (ev_len_n rfl) (nk hF fun g0 hF => qf (.sl 192 0 ((List.replicate ((v0.length : Int)).toNat (([], 0, 0, 0, 0, 0) : TItem)).length)) ((192, .row true 6 ((List.replicate ((v0.length : Int)).toNat (([], 0, 0, 0, 0, 0) : TItem)).map eItem)) :: K1r) (effT_mks rfl rfl g0 rfl) (qp (.sl 192 0 ((List.replicate ((v0.length : Int)).toNat (([], 0, 0, 0, 0, 0) : TItem)).length)) rfl (r_nil (w_seq (ws 320 384 (qp (AI 0) rfl (r_nil (w_block ?_)))))))))))))
 refine wr (l' := [(0, AL 6 (v0.map eItem)), (3, .sl 0 0 (List.replicate ((v0.length : Int)).toNat (([], 0, 0, 0, 0, 0) : TItem)).length), (4, AI 0)]) (L := [(0, .row true 6 ((List.replicate ((v0.length : Int)).toNat (([], 0, 0, 0, 0, 0) : TItem)).map eItem))]) [0, 3, 4] [(192, 0)] 1 ?_
 refine w_loopF (F_laws_toItemS_l0 v0) (fun s : Int × (List TItem) => mkS [(0, AL 6 (v0.map eItem)), (3, .sl 0 0 s.2.length), (4, AI s.1)] (fo [(0, .row true 6 (s.2.map eItem))]) 1) hF ?_
 rintro k1 ⟨x6, x7⟩ hF
 rw [F_laws_toItemS_l0] at hF
 try dsimp only
 refine w_seq (ws 1 257 (qp (AI x6) rfl (qp (AL 6 (v0.map eItem)) rfl (qp (AI (v0.length : Int)) (ev_len_n rfl) (qp (AB (decide (x6 < (v0.length : Int)))) rfl (r_nil ?_))))))
 refine cF hF (fun hF => ?_) fun hF => ?_
 ·
  refine w_skip (thenQ_n (w_seq (w_block (w_reg 257 833 rfl rfl (qp (.sl 0 0 x7.length) rfl (qp (AI x6) rfl (qp (AL 6 (v0.map eItem)) rfl (qp (AI x6) rfl (bk hF fun u7 e7 hF => qp (.val none (.ptr [.str u7.1, .int .i64 u7.2.1, .int .i64 u7.2.2.1, .int .i64 u7.2.2.2.1, .int .i64 u7.2.2.2.2.1, .int .i64 u7.2.2.2.2.2])) (ev_iad_n rfl rfl e7 rfl) (qp (.val none (eItem u7)) rfl (bk hF fun u8 e8 hF => qC (.val none (eItem u8)) [(0, .row true 6 (x7.map eItem))] (con_laws_toItem e8) c66_ (bk hF fun u9 e9 hF => qp (.ptr 0 x6.toNat 0) (ev_iad_r rfl (by simp) rfl rfl e9) (qf0 (.undef) [(0, .row true 6 ((List.set x7 x6.toNat u8).map eItem)), (0, .row true 6 (x7.map eItem))] (effT_st rfl rfl (ix_some e9).2 rfl rfl (by rfl) (by first | rfl | simp [patch, reb, List.take_of_length_le]) (by rfl) rfl) (r_nil (blockQ_n (thenQ_n ?_))))))))))))))))
  refine w_reg 833 1025 rfl rfl (qp (AI x6) rfl (qp (AI (w64 (x6 + 1))) rfl (qp (AI (w64 (x6 + 1))) rfl (r_nil (thenQ_n ?_)))))
  refine ar (l' := [(0, AL 6 (v0.map eItem)), (3, .sl 0 0 (List.set x7 x6.toNat u8).length), (4, AI (w64 (x6 + 1)))]) (L := [(0, .row true 6 ((List.set x7 x6.toNat u8).map eItem))]) [0, 3, 4] [(0, 0)] 1 ⟨_, by rfl, hF⟩
 exact w_exit (thenQ_e (thenQ_e (blockQ_e (thenQ_n (ws 257 385 (qp (.sl 0 0 x7.length) rfl (qp (.sl 0 0 x7.length) rfl (rR hF))))))))

def c67 : MC := (sr [rg 1 (.f (.box t0)), rg 2 (.f (.alloc [((.int .i64 0), (0, false)), ((.str []), (0, false)), ((.str []), (0, false)), ((.int .i64 0), (0, false)), ((.int .i64 0), (0, false))]))] (sr [rg 3 (.f (.alloc [((.int .i64 0), (0, false)), ((.str []), (0, false)), ((.str []), (0, false)), ((.int .i64 0), (0, false)), ((.int .i64 0), (0, false))]))] (sr [pT 4 (.fad t1 0), lT 5 4, pT 6 (.fad t3 0), ⟨none, none, (.f (.st t6 t5 1))⟩] (sr [pT 7 (.fad t1 1), lT 8 7, pT 9 (.fad t3 1), ⟨none, none, (.f (.st t9 t8 1))⟩] (sr [pT 10 (.fad t1 2), lT 11 10, pT 12 (.fad t3 2), ⟨none, none, (.f (.st t12 t11 1))⟩] (sr [pT 13 (.fad t1 3), lT 14 13, pT 15 (.fad t3 3), ⟨none, none, (.f (.st t15 t14 1))⟩] (sr [pT 16 (.fad t1 4), lT 17 16, pT 18 (.fad t3 4), ⟨none, none, (.f (.st t18 t17 1))⟩] (sr [pT 19 (.ld t3 5 true), ⟨none, none, (.f (.st t2 t19 5))⟩] .ret))))))))
theorem c67_ : IsF Tryz.prog 67 c67 [(.cell (.ld (.t 2) 5 true))] := ⟨by kernel_rfl, by kernel_rfl⟩

def F_laws_toLesson (v0 : TLesson) : Option (TLesson) :=
 some v0
@[simp] abbrev K20 (v0 : TLesson) : List AV := [AI v0.1, AS v0.2.1, AS v0.2.2.1, AI v0.2.2.2.1, AI v0.2.2.2.2]
@[simp] abbrev K1s (v0 : TLesson) : List (Nat × Root) := [(0, .box (K20 v0))]
@[simp] abbrev K1t (v0 : TLesson) : List (Nat × Root) := ((64, .box [AI 0, AS [], AS [], AI 0, AI 0]) :: (K1s v0))
@[simp] abbrev K1u (v0 : TLesson) : List (Nat × Root) := ((128, .box [AI 0, AS [], AS [], AI 0, AI 0]) :: (K1t v0))
@[simp] abbrev K1v (v0 : TLesson) : List (Nat × Root) := ((128, .box [AI v0.1, AS [], AS [], AI 0, AI 0]) :: (K1u v0))
@[simp] abbrev K1w (v0 : TLesson) : List (Nat × Root) := ((128, .box [AI v0.1, AS v0.2.1, AS [], AI 0, AI 0]) :: (K1v v0))
@[simp] abbrev K1x (v0 : TLesson) : List (Nat × Root) := ((128, .box [AI v0.1, AS v0.2.1, AS v0.2.2.1, AI 0, AI 0]) :: (K1w v0))
@[simp] abbrev K1y (v0 : TLesson) : List (Nat × Root) := ((128, .box [AI v0.1, AS v0.2.1, AS v0.2.2.1, AI v0.2.2.2.1, AI 0]) :: (K1x v0))
@[simp] abbrev K1z (v0 : TLesson) : List (Nat × Root) := ((128, .box (K20 v0)) :: (K1y v0))
@[simp] def res_laws_toLesson (r : TLesson) : RV := .one (.one (.val (eLesson r)))
theorem con_laws_toLesson {v0 : TLesson} {r : TLesson} (hF : F_laws_toLesson v0 = some r) : Con Tryz.prog 67 [eLesson v0] (res_laws_toLesson r) := by
 unfold F_laws_toLesson at hF
 refine con_of c67_.1 fun N => ?_
 refine ws 0 128 (qf (.ptr 0 0 0) (K1s v0) (by simp) (qf (.ptr 64 0 0) (K1t v0) (by simp) (r_nil (ws 128 192 (qf (.ptr 128 0 0) (K1u v0) (by simp) (r_nil (ws 192 448 (qp (.ptr 0 0 0) rfl (qp (AI v0.1) rfl (qp (.ptr 128 0 0) rfl (qf0 (.undef) (K1v v0) (by simp) (r_nil (ws 448 704 ?_)))))))))))))
 refine qp (.ptr 0 0 1) rfl (qp (AS v0.2.1) rfl (qp (.ptr 128 0 1) rfl (qf0 (.undef) (K1w v0) (by simp) (r_nil (ws 704 960 (qp (.ptr 0 0 2) rfl (qp (AS v0.2.2.1) rfl (qp (.ptr 128 0 2) rfl (qf0 (.undef) (K1x v0) (by simp) (r_nil (ws 960 1216 ?_)))))))))))
 exact qp (.ptr 0 0 3) rfl (qp (AI v0.2.2.2.1) rfl (qp (.ptr 128 0 3) rfl (qf0 (.undef) (K1y v0) (by simp) (r_nil (ws 1216 1472 (qp (.ptr 0 0 4) rfl (qp (AI v0.2.2.2.2) rfl (qp (.ptr 128 0 4) rfl (qf0 (.undef) (K1z v0) (by simp) (r_nil (ws 1472 1600 (qp (.agg (K20 v0)) rfl (qf0 (.undef) ((64, .box (K20 v0)) :: (K1z v0)) (by simp) (rR hF))))))))))))))

def c26 : MC := (sr [rg 2 (.f (.nilrow 5))] (sr [mvt 5 0, zT 6 5, rg 7 (.f (.mks 5 56 (.agg [(.int .i64 0), (.str []), (.str []), (.int .i64 0), (.int .i64 0)]) t6 t6)), mvt 3 7] (.seq (sr [pT 4 (.mv (ci 0))] (.block 0 (.loop (.seq (sr [mvt 8 4, mvt 9 0, zT 10 9, bT 11 .lss t8 t10] (cx t11 0)) (.seq (.block 1 (.reg [mvt 14 3, mvt 15 4, mvt 16 0, mvt 17 4, iT 18 16 17 5, pT 19 (.ld t18 5 true), dT 20 67 [t19], iT 21 14 15 5, ⟨none, none, (.f (.st t21 t20 5))⟩])) (.reg [mvt 12 4, bT 13 .add t12 (ci 1), mvt 4 13])))))) (sr [mvt 22 3, mvt 2 22] .ret))))
theorem c26_ : IsF Tryz.prog 26 c26 [(.tmp 2)] := ⟨by kernel_rfl, by kernel_rfl⟩

def F_laws_toLessonS_l0 (v0 : List TLesson) (k1 : Int × (List TLesson) → Option (List TLesson)) : Int × (List TLesson) → Option (List TLesson)
 | (x6, x7) => (bif (decide (x6 < (v0.length : Int))) then ((ix v0 x6).bind fun u7 => ((F_laws_toLesson u7).bind fun u8 => ((ix x7 x6).bind fun u9 => k1 (w64 (x6 + 1), List.set x7 x6.toNat u8))))
 else some x7)
def F_laws_toLessonS (v0 : List TLesson) : Option (List TLesson) :=
 (need (0 ≤ (v0.length : Int) ∧ (v0.length : Int) ≤ (v0.length : Int) ∧ (v0.length : Int) ≤ 9223372036854775807 ∧ 56 * (v0.length : Int) ≤ 281474976710656) (loop (F_laws_toLessonS_l0 v0) (0, List.replicate ((v0.length : Int)).toNat ((0, [], [], 0, 0) : TLesson))))
@[simp] abbrev K21 : List (Nat × Root) := [(0, .row true 5 (([] : List Int).map vI))]
@[simp] def res_laws_toLessonS (r : List TLesson) : RV := .one (.one (.row true 5 (r.map eLesson)))
theorem con_laws_toLessonS {v0 : List TLesson} {r : List TLesson} (hF : F_laws_toLessonS v0 = some r) : Con Tryz.prog 26 [.sl 5 (v0.map eLesson)] (res_laws_toLessonS r) := by
 unfold F_laws_toLessonS at hF
 refine con_of c26_.1 fun N => ?_
 refine ws 0 64 (qf (.sl 0 0 0) K21 (by simp) (r_nil (ws 64 320 (qp (AL 5 (v0.map eLesson)) rfl (qp (AI (v0.length : Int)) (ev_len_n rfl) (nk hF fun g0 hF => qf (.sl 192 0 ((List.replicate ((v0.length : Int)).toNat ((0, [], [], 0, 0) : TLesson)).length)) ((192, .row true 5 ((List.replicate ((v0.length : Int)).toNat ((0, [], [], 0, 0) : TLesson)).map eLesson)) :: K21) (effT_mks rfl rfl g0 rfl) (qp (.sl 192 0 ((List.replicate ((v0.length : Int)).toNat ((0, [], [], 0, 0) : TLesson)).length)) rfl (r_nil (w_seq (ws 320 384 (qp (AI 0) rfl (r_nil (w_block ?_)))))))))))))
 refine wr (l' := [(0, AL 5 (v0.map eLesson)), (3, .sl 0 0 (List.replicate ((v0.length : Int)).toNat ((0, [], [], 0, 0) : TLesson)).length), (4, AI 0)]) (L := [(0, .row true 5 ((List.replicate ((v0.length : Int)).toNat ((0, [], [], 0, 0) : TLesson)).map eLesson))]) [0, 3, 4] [(192, 0)] 1 ?_
 refine w_loopF (F_laws_toLessonS_l0 v0) (fun s : Int × (List TLesson) => mkS [(0, AL 5 (v0.map eLesson)), (3, .sl 0 0 s.2.length), (4, AI s.1)] (fo [(0, .row true 5 (s.2.map eLesson))]) 1) hF ?_
 rintro k1 ⟨x6, x7⟩ hF
 rw [F_laws_toLessonS_l0] at hF
 try dsimp only
 refine w_seq (ws 1 257 (qp (AI x6) rfl (qp (AL 5 (v0.map eLesson)) rfl (qp (AI (v0.length : Int)) (ev_len_n rfl) (qp (AB (decide (x6 < (v0.length : Int)))) rfl (r_nil ?_))))))
 refine cF hF (fun hF => ?_) fun hF => ?_
 ·
  refine w_skip (thenQ_n (w_seq (w_block (w_reg 257 833 rfl rfl (qp (.sl 0 0 x7.length) rfl (qp (AI x6) rfl (qp (AL 5 (v0.map eLesson)) rfl (qp (AI x6) rfl (bk hF fun u7 e7 hF => qp (.val none (.ptr [.int .i64 u7.1, .str u7.2.1, .str u7.2.2.1, .int .i64 u7.2.2.2.1, .int .i64 u7.2.2.2.2])) (ev_iad_n rfl rfl e7 rfl) (qp (.val none (eLesson u7)) rfl (bk hF fun u8 e8 hF => qC (.val none (eLesson u8)) [(0, .row true 5 (x7.map eLesson))] (con_laws_toLesson e8) c67_ (bk hF fun u9 e9 hF => qp (.ptr 0 x6.toNat 0) (ev_iad_r rfl (by simp) rfl rfl e9) (qf0 (.undef) [(0, .row true 5 ((List.set x7 x6.toNat u8).map eLesson)), (0, .row true 5 (x7.map eLesson))] (effT_st rfl rfl (ix_some e9).2 rfl rfl (by rfl) (by first | rfl | simp [patch, reb, List.take_of_length_le]) (by rfl) rfl) (r_nil (blockQ_n (thenQ_n ?_))))))))))))))))
  refine w_reg 833 1025 rfl rfl (qp (AI x6) rfl (qp (AI (w64 (x6 + 1))) rfl (qp (AI (w64 (x6 + 1))) rfl (r_nil (thenQ_n ?_)))))
  refine ar (l' := [(0, AL 5 (v0.map eLesson)), (3, .sl 0 0 (List.set x7 x6.toNat u8).length), (4, AI (w64 (x6 + 1)))]) (L := [(0, .row true 5 ((List.set x7 x6.toNat u8).map eLesson))]) [0, 3, 4] [(0, 0)] 1 ⟨_, by rfl, hF⟩
 exact w_exit (thenQ_e (thenQ_e (blockQ_e (thenQ_n (ws 257 385 (qp (.sl 0 0 x7.length) rfl (qp (.sl 0 0 x7.length) rfl (rR hF))))))))

def c116 : MC := (sr [rg 2 (.f (.nilrow 1))] (sr [mvt 5 0, zT 6 5, rg 7 (.f (.mks 1 16 (.str []) t6 t6)), mvt 3 7] (.seq (sr [pT 4 (.mv (ci 0))] (.block 0 (.loop (.seq (sr [mvt 8 4, mvt 9 0, zT 10 9, bT 11 .lss t8 t10] (cx t11 0)) (.seq (.block 1 (.reg [mvt 14 3, mvt 15 4, mvt 16 0, mvt 17 4, iT 18 16 17 1, lT 19 18, iT 20 14 15 1, ⟨none, none, (.f (.st t20 t19 1))⟩])) (.reg [mvt 12 4, bT 13 .add t12 (ci 1), mvt 4 13])))))) (sr [mvt 21 3, mvt 2 21] .ret))))
theorem c116_ : IsF Tryz.prog 116 c116 [(.tmp 2)] := ⟨by kernel_rfl, by kernel_rfl⟩

def F_laws_toStringS_l0 (v0 : List (List UInt8)) (k1 : Int × (List (List UInt8)) → Option (List (List UInt8))) : Int × (List (List UInt8)) → Option (List (List UInt8))
 | (x6, x7) => (bif (decide (x6 < (v0.length : Int))) then ((ix v0 x6).bind fun u5 => ((ix x7 x6).bind fun u6 => k1 (w64 (x6 + 1), List.set x7 x6.toNat u5)))
 else some x7)
def F_laws_toStringS (v0 : List (List UInt8)) : Option (List (List UInt8)) :=
 (need (0 ≤ (v0.length : Int) ∧ (v0.length : Int) ≤ (v0.length : Int) ∧ (v0.length : Int) ≤ 9223372036854775807 ∧ 16 * (v0.length : Int) ≤ 281474976710656) (loop (F_laws_toStringS_l0 v0) (0, List.replicate ((v0.length : Int)).toNat ([] : List UInt8))))
@[simp] abbrev K22 : List (Nat × Root) := [(0, .row true 1 (([] : List Int).map vI))]
@[simp] def res_laws_toStringS (r : List (List UInt8)) : RV := .one (.one (.row true 1 (r.map V.str)))
theorem con_laws_toStringS {v0 : List (List UInt8)} {r : List (List UInt8)} (hF : F_laws_toStringS v0 = some r) : Con Tryz.prog 116 [.sl 1 (v0.map V.str)] (res_laws_toStringS r) := by
 unfold F_laws_toStringS at hF
 refine con_of c116_.1 fun N => ?_
 refine ws 0 64 (qf (.sl 0 0 0) K22 (by simp) (r_nil (ws 64 320 (qp (AL 1 (v0.map V.str)) rfl (qp (AI (v0.length : Int)) (ev_len_n rfl) (nk hF fun g0 hF => qf (.sl 192 0 ((List.replicate ((v0.length : Int)).toNat ([] : List UInt8)).length)) ((192, .row true 1 ((List.replicate ((v0.length : Int)).toNat ([] : List UInt8)).map V.str)) :: K22) (effT_mks rfl rfl g0 rfl) (qp (.sl 192 0 ((List.replicate ((v0.length : Int)).toNat ([] : List UInt8)).length)) rfl (r_nil (w_seq (ws 320 384 (qp (AI 0) rfl (r_nil (w_block ?_)))))))))))))
 refine wr (l' := [(0, AL 1 (v0.map V.str)), (3, .sl 0 0 (List.replicate ((v0.length : Int)).toNat ([] : List UInt8)).length), (4, AI 0)]) (L := [(0, .row true 1 ((List.replicate ((v0.length : Int)).toNat ([] : List UInt8)).map V.str))]) [0, 3, 4] [(192, 0)] 1 ?_
 refine w_loopF (F_laws_toStringS_l0 v0) (fun s : Int × (List (List UInt8)) => mkS [(0, AL 1 (v0.map V.str)), (3, .sl 0 0 s.2.length), (4, AI s.1)] (fo [(0, .row true 1 (s.2.map V.str))]) 1) hF ?_
 rintro k1 ⟨x6, x7⟩ hF
 rw [F_laws_toStringS_l0] at hF
 try dsimp only
 refine w_seq (ws 1 257 (qp (AI x6) rfl (qp (AL 1 (v0.map V.str)) rfl (qp (AI (v0.length : Int)) (ev_len_n rfl) (qp (AB (decide (x6 < (v0.length : Int)))) rfl (r_nil ?_))))))
 refine cF hF (fun hF => ?_) fun hF => ?_
 ·
  refine w_skip (thenQ_n (w_seq (w_block (w_reg 257 769 rfl rfl (qp (.sl 0 0 x7.length) rfl (qp (AI x6) rfl (qp (AL 1 (v0.map V.str)) rfl (qp (AI x6) rfl (bk hF fun u5 e5 hF => qp (.val none (.ptr [.str u5])) (ev_iad_n rfl rfl e5 rfl) (qp (AS u5) rfl (bk hF fun u6 e6 hF => qp (.ptr 0 x6.toNat 0) (ev_iad_r rfl (by simp) rfl rfl e6) (qf0 (.undef) [(0, .row true 1 ((List.set x7 x6.toNat u5).map V.str)), (0, .row true 1 (x7.map V.str))] (effT_st rfl rfl (ix_some e6).2 rfl rfl (by rfl) (by first | rfl | simp [patch, reb, List.take_of_length_le]) (by rfl) rfl) (r_nil (blockQ_n (thenQ_n ?_)))))))))))))))
  refine w_reg 769 961 rfl rfl (qp (AI x6) rfl (qp (AI (w64 (x6 + 1))) rfl (qp (AI (w64 (x6 + 1))) rfl (r_nil (thenQ_n ?_)))))
  refine ar (l' := [(0, AL 1 (v0.map V.str)), (3, .sl 0 0 (List.set x7 x6.toNat u5).length), (4, AI (w64 (x6 + 1)))]) (L := [(0, .row true 1 ((List.set x7 x6.toNat u5).map V.str))]) [0, 3, 4] [(0, 0)] 1 ⟨_, by rfl, hF⟩
 exact w_exit (thenQ_e (thenQ_e (blockQ_e (thenQ_n (ws 257 385 (qp (.sl 0 0 x7.length) rfl (qp (.sl 0 0 x7.length) rfl (rR hF))))))))

def c68 : MC := (sr [rg 1 (.f (.box t0)), rg 2 (.f (.alloc [((.str []), (0, false)), ((.int .i64 0), (0, false)), ((.sl 0 []), (1, false))]))] (sr [rg 3 (.f (.alloc [((.str []), (0, false)), ((.int .i64 0), (0, false)), ((.sl 0 []), (1, false))]))] (sr [pT 4 (.fad t1 0), lT 5 4, pT 6 (.fad t3 0), ⟨none, none, (.f (.st t6 t5 1))⟩] (sr [pT 7 (.fad t1 1), lT 8 7, pT 9 (.fad t3 1), ⟨none, none, (.f (.st t9 t8 1))⟩] (sr [pT 10 (.fad t1 2), lT 11 10, dT 12 116 [t11], pT 13 (.fad t3 2), ⟨none, none, (.f (.st t13 t12 1))⟩] (sr [pT 14 (.ld t3 3 true), ⟨none, none, (.f (.st t2 t14 3))⟩] .ret))))))
theorem c68_ : IsF Tryz.prog 68 c68 [(.cell (.ld (.t 2) 3 true))] := ⟨by kernel_rfl, by kernel_rfl⟩

def F_laws_toPerson (v0 : TPerson) : Option (TPerson) :=
 ((F_laws_toStringS v0.2.2).bind fun u0 => some (v0.1, v0.2.1, u0))
@[simp] abbrev K23 (v0 : TPerson) : List (Nat × Root) := [(0, .box [AS v0.1, AI v0.2.1, AL 1 (v0.2.2.map V.str)])]
@[simp] abbrev K24 (v0 : TPerson) : List (Nat × Root) := ((64, .box [AS [], AI 0, .sl 65 0 0]) :: (65, .row true 1 (([] : List Int).map vI)) :: (K23 v0))
@[simp] abbrev K25 (v0 : TPerson) : List (Nat × Root) := ((128, .box [AS [], AI 0, .sl 129 0 0]) :: (129, .row true 1 (([] : List Int).map vI)) :: (K24 v0))
@[simp] abbrev K26 (v0 : TPerson) : List (Nat × Root) := ((128, .box [AS v0.1, AI 0, .sl 129 0 0]) :: (K25 v0))
@[simp] abbrev K27 (v0 : TPerson) : List (Nat × Root) := ((128, .box [AS v0.1, AI v0.2.1, .sl 129 0 0]) :: (K26 v0))
@[simp] abbrev K28 (u0 : List (List UInt8)) (v0 : TPerson) : List (Nat × Root) := ((832, .row true 1 (u0.map V.str)) :: (K27 v0))
@[simp] abbrev K29 (v0 : TPerson) (u0 : List (List UInt8)) : List (Nat × Root) := ((128, .box [AS v0.1, AI v0.2.1, .sl 832 0 u0.length]) :: (K28 u0 v0))
@[simp] def res_laws_toPerson (r : TPerson) : RV := .one (.agg [.val (.str r.1), .val (.int .i64 r.2.1), .row true 1 (r.2.2.map V.str)])
theorem con_laws_toPerson {v0 : TPerson} {r : TPerson} (hF : F_laws_toPerson v0 = some r) : Con Tryz.prog 68 [ePerson v0] (res_laws_toPerson r) := by
 unfold F_laws_toPerson at hF
 refine con_of c68_.1 fun N => ?_
 refine ws 0 128 (qf (.ptr 0 0 0) (K23 v0) (by simp) (qf (.ptr 64 0 0) (K24 v0) (by simp) (r_nil (ws 128 192 (qf (.ptr 128 0 0) (K25 v0) (by simp) (r_nil (ws 192 448 (qp (.ptr 0 0 0) rfl (qp (AS v0.1) rfl (qp (.ptr 128 0 0) rfl (qf0 (.undef) (K26 v0) (by simp) (r_nil (ws 448 704 ?_)))))))))))))
 exact qp (.ptr 0 0 1) rfl (qp (AI v0.2.1) rfl (qp (.ptr 128 0 1) rfl (qf0 (.undef) (K27 v0) (by simp) (r_nil (ws 704 1024 (qp (.ptr 0 0 2) rfl (qp (AL 1 (v0.2.2.map V.str)) rfl (bk hF fun u0 e0 hF => qc (.sl 832 0 u0.length) (K28 u0 v0) false (con_laws_toStringS e0) c116_.2 (by first | rfl | simp) (by simp [res_laws_toStringS]) (qp (.ptr 128 0 2) rfl (qf0 (.undef) (K29 v0 u0) (by simp) (r_nil (ws 1024 1152 (qp (.agg [AS v0.1, AI v0.2.1, .sl 832 0 u0.length]) rfl (qf0 (.undef) ((64, .box [AS v0.1, AI v0.2.1, .sl 832 0 u0.length]) :: (K29 v0 u0)) (by simp) (rR hF)))))))))))))))

def c27 : MC := (sr [rg 2 (.f (.nilrow 3))] (sr [mvt 5 0, zT 6 5, rg 7 (.f (.mks 3 48 (.agg [(.str []), (.int .i64 0), (.sl 1 [])]) t6 t6)), mvt 3 7] (.seq (sr [pT 4 (.mv (ci 0))] (.block 0 (.loop (.seq (sr [mvt 8 4, mvt 9 0, zT 10 9, bT 11 .lss t8 t10] (cx t11 0)) (.seq (.block 1 (.reg [mvt 14 3, mvt 15 4, mvt 16 0, mvt 17 4, iT 18 16 17 3, pT 19 (.ld t18 3 true), dT 20 68 [t19], iT 21 14 15 3, ⟨none, none, (.f (.st t21 t20 3))⟩])) (.reg [mvt 12 4, bT 13 .add t12 (ci 1), mvt 4 13])))))) (sr [mvt 22 3, mvt 2 22] .ret))))
theorem c27_ : IsF Tryz.prog 27 c27 [(.tmp 2)] := ⟨by kernel_rfl, by kernel_rfl⟩

def F_laws_toPersonS_l0 (v0 : List TPerson) (k1 : Int × (List TPerson) → Option (List TPerson)) : Int × (List TPerson) → Option (List TPerson)
 | (x6, x7) => (bif (decide (x6 < (v0.length : Int))) then ((ix v0 x6).bind fun u7 => ((F_laws_toPerson u7).bind fun u8 => ((ix x7 x6).bind fun u9 => k1 (w64 (x6 + 1), List.set x7 x6.toNat u8))))
 else some x7)
def F_laws_toPersonS (v0 : List TPerson) : Option (List TPerson) :=
 (need (0 ≤ (v0.length : Int) ∧ (v0.length : Int) ≤ (v0.length : Int) ∧ (v0.length : Int) ≤ 9223372036854775807 ∧ 48 * (v0.length : Int) ≤ 281474976710656) (loop (F_laws_toPersonS_l0 v0) (0, List.replicate ((v0.length : Int)).toNat (([], 0, []) : TPerson))))
@[simp] abbrev K2a : List (Nat × Root) := [(0, .row true 3 (([] : List Int).map vI))]
@[simp] abbrev K2b (u8 : TPerson) (x7 : List TPerson) : List (Nat × Root) := [(643, .row true 1 (u8.2.2.map V.str)), (0, .row true 3 (x7.map ePerson))]
@[simp] def res_laws_toPersonS (r : List TPerson) : RV := .one (.one (.row true 3 (r.map ePerson)))
theorem con_laws_toPersonS {v0 : List TPerson} {r : List TPerson} (hF : F_laws_toPersonS v0 = some r) : Con Tryz.prog 27 [.sl 3 (v0.map ePerson)] (res_laws_toPersonS r) := by
 unfold F_laws_toPersonS at hF
 refine con_of c27_.1 fun N => ?_
 refine ws 0 64 (qf (.sl 0 0 0) K2a (by simp) (r_nil (ws 64 320 (qp (AL 3 (v0.map ePerson)) rfl (qp (AI (v0.length : Int)) (ev_len_n rfl) (nk hF fun g0 hF => qf (.sl 192 0 ((List.replicate ((v0.length : Int)).toNat (([], 0, []) : TPerson)).length)) ((192, .row true 3 ((List.replicate ((v0.length : Int)).toNat (([], 0, []) : TPerson)).map ePerson)) :: K2a) (effT_mks rfl rfl g0 rfl) (qp (.sl 192 0 ((List.replicate ((v0.length : Int)).toNat (([], 0, []) : TPerson)).length)) rfl (r_nil (w_seq (ws 320 384 (qp (AI 0) rfl (r_nil (w_block ?_)))))))))))))
 refine wr (l' := [(0, AL 3 (v0.map ePerson)), (3, .sl 0 0 (List.replicate ((v0.length : Int)).toNat (([], 0, []) : TPerson)).length), (4, AI 0)]) (L := [(0, .row true 3 ((List.replicate ((v0.length : Int)).toNat (([], 0, []) : TPerson)).map ePerson))]) [0, 3, 4] [(192, 0)] 1 ?_
 refine w_loopF (F_laws_toPersonS_l0 v0) (fun s : Int × (List TPerson) => mkS [(0, AL 3 (v0.map ePerson)), (3, .sl 0 0 s.2.length), (4, AI s.1)] (fo [(0, .row true 3 (s.2.map ePerson))]) 1) hF ?_
 rintro k1 ⟨x6, x7⟩ hF
 rw [F_laws_toPersonS_l0] at hF
 try dsimp only
 refine w_seq (ws 1 257 (qp (AI x6) rfl (qp (AL 3 (v0.map ePerson)) rfl (qp (AI (v0.length : Int)) (ev_len_n rfl) (qp (AB (decide (x6 < (v0.length : Int)))) rfl (r_nil ?_))))))
 refine cF hF (fun hF => ?_) fun hF => ?_
 ·
  refine w_skip (thenQ_n (w_seq (w_block (w_reg 257 833 rfl rfl (qp (.sl 0 0 x7.length) rfl (qp (AI x6) rfl (qp (AL 3 (v0.map ePerson)) rfl (qp (AI x6) rfl (bk hF fun u7 e7 hF => qp (.val none (.ptr [.str u7.1, .int .i64 u7.2.1, .sl 1 (u7.2.2.map V.str)])) (ev_iad_n rfl rfl e7 rfl) (qp (.val none (ePerson u7)) rfl (bk hF fun u8 e8 hF => qc (.agg [AS u8.1, AI u8.2.1, .sl 643 0 u8.2.2.length]) (K2b u8 x7) false (con_laws_toPerson e8) c68_.2 (by first | rfl | simp) (by simp [res_laws_toPerson]) (bk hF fun u9 e9 hF => qp (.ptr 0 x6.toNat 0) (ev_iad_r rfl (by simp) rfl rfl e9) (qf0 (.undef) ((0, .row true 3 ((List.set x7 x6.toNat u8).map ePerson)) :: (643, .dead) :: (K2b u8 x7)) (effT_st rfl rfl (ix_some e9).2 rfl rfl (by rfl) (by first | rfl | simp [patch, reb, List.take_of_length_le]) (by rfl) rfl) (r_nil (blockQ_n (thenQ_n ?_))))))))))))))))
  refine w_reg 833 1025 rfl rfl (qp (AI x6) rfl (qp (AI (w64 (x6 + 1))) rfl (qp (AI (w64 (x6 + 1))) rfl (r_nil (thenQ_n ?_)))))
  refine ar (l' := [(0, AL 3 (v0.map ePerson)), (3, .sl 0 0 (List.set x7 x6.toNat u8).length), (4, AI (w64 (x6 + 1)))]) (L := [(0, .row true 3 ((List.set x7 x6.toNat u8).map ePerson))]) [0, 3, 4] [(0, 0)] 1 ⟨_, by rfl, hF⟩
 exact w_exit (thenQ_e (thenQ_e (blockQ_e (thenQ_n (ws 257 385 (qp (.sl 0 0 x7.length) rfl (qp (.sl 0 0 x7.length) rfl (rR hF))))))))

end Go.Ab
