/- Walks (printed by auto.py, a program of this session's own). -/
import Derived.Test.YtnideigmfhhedaaGreatDoorS0
import Derived.Test.YtnideigmfhhedaaGreatDoorProg
import Derived.KernelRfl
import Derived.Test.YtnideigmfhhedaaGreatDoorSQ
set_option linter.unusedVariables false
set_option linter.unusedSimpArgs false
set_option maxRecDepth 8000
set_option maxHeartbeats 8000000
noncomputable section
namespace Go.Ab
open Go.RowKit Go.Proofs

abbrev TRaga := (List UInt8) × (List Int) × (List Int) × Int × Int × (List (List Int))
abbrev TNote := Int × Int
abbrev TTuning := (List UInt8) × (List TNote)
@[simp] def eNote (p : TNote) : V := .agg [.int .i64 p.1, .int .i64 p.2]
abbrev TSyllable := (List UInt8) × Int × Int
abbrev TItem := (List UInt8) × Int × Int × Int × Int × Int
abbrev TLesson := Int × (List UInt8) × (List UInt8) × Int × Int
abbrev TPerson := (List UInt8) × Int × (List (List UInt8))
abbrev TDesk := (List UInt8) × (List Int) × (List Int) × Int × Int × (List (List Int)) × (List TNote) × (List UInt8) × (List TNote) × (List (List Int)) × (List TSyllable) × (List TNote) × (List TItem) × (List TLesson) × (List TPerson)
@[simp] def ePerson (p : TPerson) : V := .agg [.str p.1, .int .i64 p.2.1, .sl 1 (p.2.2.map V.str)]
@[simp] def eLesson (p : TLesson) : V := .agg [.int .i64 p.1, .str p.2.1, .str p.2.2.1, .int .i64 p.2.2.2.1, .int .i64 p.2.2.2.2]
@[simp] def eItem (p : TItem) : V := .agg [.str p.1, .int .i64 p.2.1, .int .i64 p.2.2.1, .int .i64 p.2.2.2.1, .int .i64 p.2.2.2.2.1, .int .i64 p.2.2.2.2.2]
@[simp] def eSyllable (p : TSyllable) : V := .agg [.str p.1, .int .i64 p.2.1, .int .i64 p.2.2]
@[simp] def eRaga (p : TRaga) : V := .agg [.str p.1, .sl 1 (p.2.1.map vI), .sl 1 (p.2.2.1.map vI), .int .i64 p.2.2.2.1, .int .i64 p.2.2.2.2.1, .sl 1 (p.2.2.2.2.2.map (eL 1 vI))]
@[simp] def eTuning (p : TTuning) : V := .agg [.str p.1, .sl 2 (p.2.map eNote)]
@[simp] def eDesk (p : TDesk) : V := .agg [.str p.1, .sl 1 (p.2.1.map vI), .sl 1 (p.2.2.1.map vI), .int .i64 p.2.2.2.1, .int .i64 p.2.2.2.2.1, .sl 1 (p.2.2.2.2.2.1.map (eL 1 vI)), .sl 2 (p.2.2.2.2.2.2.1.map eNote), .str p.2.2.2.2.2.2.2.1, .sl 2 (p.2.2.2.2.2.2.2.2.1.map eNote), .sl 1 (p.2.2.2.2.2.2.2.2.2.1.map (eL 1 vI)), .sl 3 (p.2.2.2.2.2.2.2.2.2.2.1.map eSyllable), .sl 2 (p.2.2.2.2.2.2.2.2.2.2.2.1.map eNote), .sl 6 (p.2.2.2.2.2.2.2.2.2.2.2.2.1.map eItem), .sl 5 (p.2.2.2.2.2.2.2.2.2.2.2.2.2.1.map eLesson), .sl 3 (p.2.2.2.2.2.2.2.2.2.2.2.2.2.2.map ePerson)]
def c61 : MC := (sr [rg 4 (.f (.nilrow 1))] (sr [rg 8 (.f (.bsl 1 [])), mvt 5 8] (sr [pT 6 (.mv (ci 0))] (.seq (sr [pT 7 (.mv (ci 0))] (.block 0 (.loop (.seq (sr [mvt 9 7, mvt 10 0, pT 11 (.lens t10), bT 12 .lss t9 t11] (cx t12 0)) (.seq (.block 1 (sr [mvt 15 0, mvt 16 7, pT 17 (.ixs t15 t16), mvt 18 1, bT 19 .eql t17 t18] (.cond t19 (sr [mvt 20 5, mvt 21 0, mvt 22 6, mvt 23 7, pT 24 (.slcs t21 (some t22) (some t23)), rg 25 (.f (.bsl 1 [t24])), rg 26 (.f (.app t20 t25 1 16 true)), mvt 5 26] (.reg [mvt 27 7, bT 28 .add t27 (ci 1), mvt 6 28])) .skip))) (.reg [mvt 13 7, bT 14 .add t13 (ci 1), mvt 7 14])))))) (sr [mvt 29 5, mvt 30 0, mvt 31 6, pT 32 (.slcs t30 (some t31) none), rg 33 (.f (.bsl 1 [t32])), rg 34 (.f (.app t29 t33 1 16 true)), mvt 4 34] .ret)))))
theorem c61_ : IsF Tryz.prog 61 c61 [(.tmp 4)] := ⟨by kernel_rfl, by kernel_rfl⟩

def F_spec_l01Split_l0 (v0 : List UInt8) (v1 : Int) (k0 : Int × Int × (List (List UInt8)) → Option (List (List UInt8))) : Int × Int × (List (List UInt8)) → Option (List (List UInt8))
 | (x3, x4, x5) => (bif (decide (x4 < (v0.length : Int))) then ((ix v0 x4).bind fun u0 => (bif (decide ((u0.toNat : Int) = v1)) then (need (0 ≤ x3 ∧ x3 ≤ x4 ∧ x4 ≤ (v0.length : Int)) ((need (room (x5.length + [sub v0 x3 x4].length) 16) (k0 (w64 (x4 + 1), w64 (x4 + 1), x5 ++ [sub v0 x3 x4])))))
 else k0 (x3, w64 (x4 + 1), x5)))
 else (need (0 ≤ x3 ∧ x3 ≤ (v0.length : Int) ∧ (v0.length : Int) ≤ (v0.length : Int)) ((need (room (x5.length + [sub v0 x3 (v0.length : Int)].length) 16) (some (x5 ++ [sub v0 x3 (v0.length : Int)]))))))
def F_spec_l01Split (v0 : List UInt8) (v1 : Int) : Option (List (List UInt8)) :=
 loop (F_spec_l01Split_l0 v0 v1) (0, 0, [])
@[simp] abbrev K1 : List (Nat × Root) := [(0, .row true 1 (([] : List Int).map vI))]
@[simp] abbrev K2 (v0 : List UInt8) (x3 : Int) (x4 : Int) (x5 : List (List UInt8)) : List (Nat × Root) := [(897, .row true 1 ([sub v0 x3 x4].map V.str)), (0, .row true 1 (x5.map V.str))]
@[simp] abbrev K3 (v0 : List UInt8) (x3 : Int) (x5 : List (List UInt8)) : List (Nat × Root) := [(513, .row true 1 ([sub v0 x3 (v0.length : Int)].map V.str)), (0, .row true 1 (x5.map V.str))]
@[simp] def res_spec_l01Split (r : List (List UInt8)) : RV := .one (.one (.row true 1 (r.map V.str)))
theorem con_spec_l01Split {v0 : List UInt8} {v1 : Int} {r : List (List UInt8)} (hF : F_spec_l01Split v0 v1 = some r) : Con Tryz.prog 61 [.str v0, .int .u8 v1] (res_spec_l01Split r) := by
 unfold F_spec_l01Split at hF
 refine con_of c61_.1 fun N => ?_
 refine ws 0 64 (qf (.sl 0 0 0) K1 (by simp) (r_nil (ws 64 192 (qf (.sl 64 0 0) ((64, .row true 1 (([] : List (List UInt8)).map V.str)) :: K1) (by simp [List.take_of_length_le]) (qr (.sl 64 0 0) (r_nil (ws 192 256 (qr (AI 0) (r_nil (w_seq (ws 256 320 (qr (AI 0) (r_nil ?_)))))))))))))
 refine w_block ?_
 refine wr (l' := [(0, AS v0), (1, .val none (.int .u8 v1)), (5, .sl 0 0 0), (6, AI 0), (7, AI 0)]) (L := [(0, .row true 1 (([] : List (List UInt8)).map V.str))]) [0, 1, 5, 6, 7] [(64, 0)] 1 ?_
 refine w_loopF (F_spec_l01Split_l0 v0 v1) (fun s : Int × Int × (List (List UInt8)) => mkS [(0, AS v0), (1, .val none (.int .u8 v1)), (5, .sl 0 0 s.2.2.length), (6, AI s.1), (7, AI s.2.1)] (fo [(0, .row true 1 (s.2.2.map V.str))]) 1) hF ?_
 rintro k0 ⟨x3, x4, x5⟩ hF
 rw [F_spec_l01Split_l0] at hF
 try dsimp only
 refine w_seq (ws 1 257 (qr (AI x4) (qr (AS v0) (qr (AI (v0.length : Int)) (qr (AB (decide (x4 < (v0.length : Int)))) (r_nil ?_))))))
 refine cF hF (fun hF => ?_) fun hF => ?_
 ·
  refine w_skip (thenQ_n (w_seq (w_block (ws 257 577 (qr (AS v0) (qr (AI x4) (bk hF fun u0 e0 hF => qp (.val none (.int .u8 (u0.toNat : Int))) (ev_ixs rfl rfl e0) (qr (.val none (.int .u8 v1)) (qr (AB (decide ((u0.toNat : Int) = v1))) (r_nil ?_))))))))))
  refine cF hF (fun hF => ?_) fun hF => ?_
  ·
   refine ws 577 1089 (qr (.sl 0 0 x5.length) (qr (AS v0) (qr (AI x3) (qr (AI x4) (nk hF fun g1 hF => qp (AS (sub v0 x3 x4)) (ev_slcs rfl (bnd_some rfl g1.1) (bnd_some rfl (Int.le_trans g1.1 g1.2.1)) g1) (qf (.sl 897 0 ([sub v0 x3 x4].length)) (K2 v0 x3 x4 x5) (by simp [List.take_of_length_le]) (nk hF fun g2 hF => qf (.sl 961 0 ((x5 ++ [sub v0 x3 x4]).length)) ((961, .row true 1 ((x5 ++ [sub v0 x3 x4]).map V.str)) :: (0, .dead) :: (897, .dead) :: (K2 v0 x3 x4 x5)) (effT_app_l rfl (by simp) rfl rfl (by simp) rfl (by decide) g2 rfl) (qr (.sl 961 0 ((x5 ++ [sub v0 x3 x4]).length)) (r_nil (w_reg 1089 1281 rfl rfl (qr (AI x4) (qr (AI (w64 (x4 + 1))) (qr (AI (w64 (x4 + 1))) ?_)))))))))))))
   refine r_nil (blockQ_n (thenQ_n (w_reg 1281 1473 rfl rfl (qr (AI x4) (qr (AI (w64 (x4 + 1))) (qr (AI (w64 (x4 + 1))) (r_nil (thenQ_n ?_))))))))
   refine ar (l' := [(0, AS v0), (1, .val none (.int .u8 v1)), (5, .sl 0 0 (x5 ++ [sub v0 x3 x4]).length), (6, AI (w64 (x4 + 1))), (7, AI (w64 (x4 + 1)))]) (L := [(0, .row true 1 ((x5 ++ [sub v0 x3 x4]).map V.str))]) [0, 1, 5, 6, 7] [(961, 0)] 1 ⟨_, by rfl, hF⟩
  refine w_skip (blockQ_n (thenQ_n (w_reg 577 769 rfl rfl (qr (AI x4) (qr (AI (w64 (x4 + 1))) (qr (AI (w64 (x4 + 1))) (r_nil (thenQ_n ?_))))))))
  refine ar (l' := [(0, AS v0), (1, .val none (.int .u8 v1)), (5, .sl 0 0 x5.length), (6, AI x3), (7, AI (w64 (x4 + 1)))]) (L := [(0, .row true 1 (x5.map V.str))]) [0, 1, 5, 6, 7] [(0, 0)] 1 ⟨_, by rfl, hF⟩
 exact w_exit (thenQ_e (thenQ_e (blockQ_e (thenQ_n (ws 257 705 (qr (.sl 0 0 x5.length) (qr (AS v0) (qr (AI x3) (nk hF fun g3 hF => qp (AS (sub v0 x3 (v0.length : Int))) (ev_slcs rfl (bnd_some rfl g3.1) rfl g3) (qf (.sl 513 0 ([sub v0 x3 (v0.length : Int)].length)) (K3 v0 x3 x5) (by simp [List.take_of_length_le]) (nk hF fun g4 hF => qf (.sl 577 0 ((x5 ++ [sub v0 x3 (v0.length : Int)]).length)) ((577, .row true 1 ((x5 ++ [sub v0 x3 (v0.length : Int)]).map V.str)) :: (0, .dead) :: (513, .dead) :: (K3 v0 x3 x5)) (effT_app_l rfl (by simp) rfl rfl (by simp) rfl (by decide) g4 rfl) (qr (.sl 577 0 ((x5 ++ [sub v0 x3 (v0.length : Int)]).length)) (rR hF)))))))))))))

def c86 : MC := (sr [pT 0 (.mv (.c (.str [])))] (sr [pT 0 (.mv (.c (.str [83, 114, 82, 103, 71, 109, 77, 80, 100, 68, 110, 78])))] .ret))
theorem c86_ : IsF Tryz.prog 86 c86 [(.tmp 0)] := ⟨by kernel_rfl, by kernel_rfl⟩

def F_spec_l03Names : Option (List UInt8) :=
 some [83, 114, 82, 103, 71, 109, 77, 80, 100, 68, 110, 78]
@[simp] def res_spec_l03Names (r : List UInt8) : RV := .one (.one (.val (.str r)))
theorem con_spec_l03Names {r : List UInt8} (hF : F_spec_l03Names = some r) : Con Tryz.prog 86 [] (res_spec_l03Names r) := by
 unfold F_spec_l03Names at hF
 refine con_of c86_.1 fun N => ?_
 exact ws 0 64 (qr (AS []) (r_nil (ws 64 128 (qr (AS [83, 114, 82, 103, 71, 109, 77, 80, 100, 68, 110, 78]) (rR hF)))))

def c73 : MC := (sr [pT 2 (.mv (ci 0))] (sr [dT 5 86 [], mvt 3 5] (.seq (sr [pT 4 (.mv (ci 0))] (.block 0 (.loop (.seq (sr [mvt 6 4, mvt 7 3, pT 8 (.lens t7), bT 9 .lss t6 t8] (cx t9 0)) (.seq (.block 1 (sr [mvt 12 3, mvt 13 4, pT 14 (.ixs t12 t13), mvt 15 0, bT 16 .eql t14 t15] (.cond t16 (sr [mvt 17 4, mvt 2 17] .ret) .skip))) (.reg [mvt 10 4, bT 11 .add t10 (ci 1), mvt 4 11])))))) (sr [pT 2 (.mv (ci (-1)))] .ret))))
theorem c73_ : IsF Tryz.prog 73 c73 [(.tmp 2)] := ⟨by kernel_rfl, by kernel_rfl⟩

def F_spec_l03Named_l0 (v0 : Int) (u0 : List UInt8) (k1 : Int → Option (Int)) : Int → Option (Int)
 | x3 => (bif (decide (x3 < (u0.length : Int))) then ((ix u0 x3).bind fun u3 => (bif (decide ((u3.toNat : Int) = v0)) then some x3
 else k1 (w64 (x3 + 1))))
 else some (-1))
def F_spec_l03Named (v0 : Int) : Option (Int) :=
 ((F_spec_l03Names).bind fun u0 => loop (F_spec_l03Named_l0 v0 u0) 0)
@[simp] def res_spec_l03Named (r : Int) : RV := .one (.one (.val (.int .i64 r)))
theorem con_spec_l03Named {v0 : Int} {r : Int} (hF : F_spec_l03Named v0 = some r) : Con Tryz.prog 73 [.int .u8 v0] (res_spec_l03Named r) := by
 unfold F_spec_l03Named at hF
 refine con_of c73_.1 fun N => ?_
 refine ws 0 64 (qr (AI 0) (r_nil (ws 64 192 (bk hF fun u0 e0 hF => qC (AS u0) [] (con_spec_l03Names e0) c86_ (qr (AS u0) (r_nil (w_seq (ws 192 256 (qr (AI 0) (r_nil (w_block ?_)))))))))))
 refine wr (l' := [(0, .val none (.int .u8 v0)), (3, AS u0), (4, AI 0)]) (L := []) [0, 3, 4] [] 1 ?_
 refine w_loopF (F_spec_l03Named_l0 v0 u0) (fun s : Int => mkS [(0, .val none (.int .u8 v0)), (3, AS u0), (4, AI s)] (fo []) 1) hF ?_
 rintro k1 x3 hF
 rw [F_spec_l03Named_l0] at hF
 try dsimp only
 refine w_seq (ws 1 257 (qr (AI x3) (qr (AS u0) (qr (AI (u0.length : Int)) (qr (AB (decide (x3 < (u0.length : Int)))) (r_nil ?_))))))
 refine cF hF (fun hF => ?_) fun hF => ?_
 ·
  refine w_skip (thenQ_n (w_seq (w_block (ws 257 577 (qr (AS u0) (qr (AI x3) (bk hF fun u3 e3 hF => qp (.val none (.int .u8 (u3.toNat : Int))) (ev_ixs rfl rfl e3) (qr (.val none (.int .u8 v0)) (qr (AB (decide ((u3.toNat : Int) = v0))) (r_nil ?_))))))))))
  refine cF hF (fun hF => ws 577 705 (qr (AI x3) (qr (AI x3) (r_nil (w_ret (blockQ_r (thenQ_r (thenQ_r (blockQ_r (thenQ_r (eQ hF))))))))))) fun hF => ?_
  refine w_skip (blockQ_n (thenQ_n (w_reg 577 769 rfl rfl (qr (AI x3) (qr (AI (w64 (x3 + 1))) (qr (AI (w64 (x3 + 1))) (r_nil (thenQ_n ?_))))))))
  refine ar (l' := [(0, .val none (.int .u8 v0)), (3, AS u0), (4, AI (w64 (x3 + 1)))]) (L := []) [0, 3, 4] [] 1 ⟨_, by rfl, hF⟩
 exact w_exit (thenQ_e (thenQ_e (blockQ_e (thenQ_n (ws 257 321 (qr (AI (-1)) (rR hF)))))))

def c103 : MC := (sr [pT 6 (.mv cf)] (sr [mvt 7 0, mvt 8 1, bT 9 .geq t7 t8, mvt 10 9, nT 11 10 t0, nT 12 10 t2, kT 13 10 (.bin .leq t11 t12), pT 14 (.pick t10 t13 cf), mvt 6 14] .ret))
theorem c103_ : IsF Tryz.prog 103 c103 [(.tmp 6)] := ⟨by kernel_rfl, by kernel_rfl⟩

def F_spec_l00In (v0 : Int) (v1 : Int) (v2 : Int) : Option (Bool) :=
 (bif (decide (v1 ≤ v0)) then some (decide (v0 ≤ v2))
 else some false)
@[simp] def res_spec_l00In (r : Bool) : RV := .one (.one (.val (.bool r)))
theorem con_spec_l00In {v0 : Int} {v1 : Int} {v2 : Int} {r : Bool} (hF : F_spec_l00In v0 v1 v2 = some r) : Con Tryz.prog 103 [.int .i64 v0, .int .i64 v1, .int .i64 v2] (res_spec_l00In r) := by
 unfold F_spec_l00In at hF
 refine con_of c103_.1 fun N => ?_
 refine ws 0 64 (qb (r_nil (ws 64 640 (qr (AI v0) (qr (AI v1) (qr (AB (decide (v1 ≤ v0))) (qr (AB (decide (v1 ≤ v0))) (q_case 10 hF rfl (fun hF => qg (AI v0) rfl rfl (qg (AI v2) rfl rfl (qg (AB (decide (v0 ≤ v2))) rfl rfl (qr (AB (decide (v0 ≤ v2))) (qr (AB (decide (v0 ≤ v2))) (rR hF)))))) fun hF => ?_))))))))
 exact qn3 (qb (qb (rR hF)))

def c87 : MC := (sr [pT 6 (.mv cf)] (.seq (sr [pT 7 (.mv (ci 0))] (.block 0 (.loop (.seq (sr [mvt 8 7, mvt 9 0, zT 10 9, bT 11 .lss t8 t10] (cx t11 0)) (.seq (.block 1 (sr [mP 14 t0, mP 15 t7, iF 16 14 15 1, lF 17 16, mP 18 t1, mP 19 t2, dF 20 103 [t17, t18, t19], pF 21 (.not t20), mP 22 t21, mF 23 22 t7, bH 24 22 .gtr t23 (ci 0), mF 25 22 t24, mT 26 25 t0, mT 27 25 t7, bG 28 25 .sub t27 (ci 1), iG 29 25 26 28 1, lG 30 25 29, mT 31 25 t0, mT 32 25 t7, iG 33 25 31 32 1, lG 34 25 33, bG 35 25 .geq t30 t34, gF 36 22 (.pick t25 t35 cf), pF 37 (.pick t22 ct t36)] (.cond t37 (sr [pT 6 (.mv cf)] .ret) .skip))) (.reg [mvt 12 7, bT 13 .add t12 (ci 1), mvt 7 13])))))) (sr [pT 6 (.mv ct)] .ret)))
theorem c87_ : IsF Tryz.prog 87 c87 [(.tmp 6)] := ⟨by kernel_rfl, by kernel_rfl⟩

def F_spec_l00Rises_l0 (v0 : List Int) (v1 : Int) (v2 : Int) (k0 : Int → Option (Bool)) : Int → Option (Bool)
 | x1 => (bif (decide (x1 < (v0.length : Int))) then ((ix v0 x1).bind fun u0 => ((F_spec_l00In u0 v1 v2).bind fun u1 => (bif (!u1) then some false
 else (bif (decide ((0 : Int) < x1)) then ((ix v0 (w64 (x1 - 1))).bind fun u2 => ((ix v0 x1).bind fun u3 => (bif (decide (u3 ≤ u2)) then some false
 else k0 (w64 (x1 + 1)))))
 else k0 (w64 (x1 + 1))))))
 else some true)
def F_spec_l00Rises (v0 : List Int) (v1 : Int) (v2 : Int) : Option (Bool) :=
 loop (F_spec_l00Rises_l0 v0 v1 v2) 0
@[simp] abbrev K4 (v0 : List Int) : V := .sl 1 (v0.map vI)
@[simp] def res_spec_l00Rises (r : Bool) : RV := .one (.one (.val (.bool r)))
theorem con_spec_l00Rises {v0 : List Int} {v1 : Int} {v2 : Int} {r : Bool} (hF : F_spec_l00Rises v0 v1 v2 = some r) : Con Tryz.prog 87 [.sl 1 (v0.map vI), .int .i64 v1, .int .i64 v2] (res_spec_l00Rises r) := by
 unfold F_spec_l00Rises at hF
 refine con_of c87_.1 fun N => ?_
 refine ws 0 64 (qb (r_nil (w_seq (ws 64 128 (qr (AI 0) (r_nil (w_block ?_)))))))
 refine wr (l' := [(0, .val none (K4 v0)), (1, AI v1), (2, AI v2), (7, AI 0)]) (L := []) [0, 1, 2, 7] [] 1 ?_
 refine w_loopF (F_spec_l00Rises_l0 v0 v1 v2) (fun s : Int => mkS [(0, .val none (K4 v0)), (1, AI v1), (2, AI v2), (7, AI s)] (fo []) 1) hF ?_
 rintro k0 x1 hF
 rw [F_spec_l00Rises_l0] at hF
 try dsimp only
 refine w_seq (ws 1 257 (qr (AI x1) (qr (.val none (K4 v0)) (qp (AI (v0.length : Int)) (ev_len_n rfl) (qr (AB (decide (x1 < (v0.length : Int)))) (r_nil ?_))))))
 refine cF hF (fun hF => ?_) fun hF => ?_
 ·
  refine w_skip (thenQ_n (w_seq (w_block (ws 257 1793 (qr (.val none (K4 v0)) (qr (AI x1) (bk hF fun u0 e0 hF => qp (.val none (.ptr [.int .i64 u0])) (ev_iad_n rfl rfl e0 rfl) (qr (AI u0) (qr (AI v1) (qr (AI v2) (bk hF fun u1 e1 hF => qC (AB u1) [] (con_spec_l00In e1) c103_ (qr (AB (!u1)) (qr (AB (!u1)) ?_)))))))))))))
  refine q_case 22 hF rfl (fun hF => ?_) (fun hF => ?_)
  ·
   refine qn3 (qu rfl (qu rfl (qu rfl (qu rfl (qu rfl (qu rfl (qu rfl (qu rfl (qu rfl (qu rfl (qn rfl (qt (r_nil ?_)))))))))))))
   exact w_true rfl (ws 1793 1857 (qb (r_nil (w_ret (blockQ_r (thenQ_r (thenQ_r (blockQ_r (thenQ_r (eQ hF))))))))))
  refine qg (AI x1) rfl rfl (qg (AB (decide ((0 : Int) < x1))) rfl rfl (qg (AB (decide ((0 : Int) < x1))) rfl rfl ?_))
  refine q_case 25 hF rfl (fun hF => ?_) (fun hF => ?_)
  ·
   refine qg (.val none (K4 v0)) rfl rfl (qg (AI x1) rfl rfl (qg (AI (w64 (x1 - 1))) rfl rfl (bk hF fun u2 e2 hF => qg (.val none (.ptr [.int .i64 u2])) rfl (ev_iad_n rfl rfl e2 rfl) (qg (AI u2) rfl rfl (qg (.val none (K4 v0)) rfl rfl (qg (AI x1) rfl rfl (bk hF fun u3 e3 hF => qg (.val none (.ptr [.int .i64 u3])) rfl (ev_iad_n rfl rfl e3 rfl) (qg (AI u3) rfl rfl (qg (AB (decide (u3 ≤ u2))) rfl rfl (qg (AB (decide (u3 ≤ u2))) rfl rfl (qr (AB (decide (u3 ≤ u2))) (r_nil ?_))))))))))))
   refine cF hF (fun hF => ws 1793 1857 (qb (r_nil (w_ret (blockQ_r (thenQ_r (thenQ_r (blockQ_r (thenQ_r (eQ hF)))))))))) fun hF => ?_
   refine w_skip (blockQ_n (thenQ_n (w_reg 1793 1985 rfl rfl (qr (AI x1) (qr (AI (w64 (x1 + 1))) (qr (AI (w64 (x1 + 1))) (r_nil (thenQ_n ?_))))))))
   refine ar (l' := [(0, .val none (K4 v0)), (1, AI v1), (2, AI v2), (7, AI (w64 (x1 + 1)))]) (L := []) [0, 1, 2, 7] [] 1 ⟨_, by rfl, hF⟩
  refine qn8 (qn2 (qg (AB false) rfl rfl (qb (r_nil (w_false rfl (w_skip (blockQ_n (thenQ_n (w_reg 1793 1985 rfl rfl ?_)))))))))
  refine qr (AI x1) (qr (AI (w64 (x1 + 1))) (qr (AI (w64 (x1 + 1))) (r_nil (thenQ_n ?_))))
  refine ar (l' := [(0, .val none (K4 v0)), (1, AI v1), (2, AI v2), (7, AI (w64 (x1 + 1)))]) (L := []) [0, 1, 2, 7] [] 1 ⟨_, by rfl, hF⟩
 exact w_exit (thenQ_e (thenQ_e (blockQ_e (thenQ_n (ws 257 321 (qt (rR hF)))))))

def c74 : MC := (sr [pT 2 (.mv cf)] (sr [mvt 3 0, zT 4 3, bT 5 .geq t4 (ci 5), mvt 6 5, nT 7 6 t0, ⟨(some 8), (some (6, true)), (.call true 87 [t7, (ci 0), (ci 11)])⟩, pT 9 (.pick t6 t8 cf), mvt 10 9, nT 11 10 t0, kT 12 10 (.iad t11 (ci 0) 1), kT 13 10 (.ld t12 1 false), kT 14 10 (.bin .eql t13 (ci 0)), pT 15 (.pick t10 t14 cf), mvt 2 15] .ret))
theorem c74_ : IsF Tryz.prog 74 c74 [(.tmp 2)] := ⟨by kernel_rfl, by kernel_rfl⟩

def F_spec_l03Scale (v0 : List Int) : Option (Bool) :=
 (bif (decide ((5 : Int) ≤ (v0.length : Int))) then ((F_spec_l00Rises v0 0 11).bind fun u0 => (bif u0 then ((ix v0 0).bind fun u1 => some (decide (u1 = (0 : Int))))
 else some false))
 else some false)
@[simp] def res_spec_l03Scale (r : Bool) : RV := .one (.one (.val (.bool r)))
theorem con_spec_l03Scale {v0 : List Int} {r : Bool} (hF : F_spec_l03Scale v0 = some r) : Con Tryz.prog 74 [.sl 1 (v0.map vI)] (res_spec_l03Scale r) := by
 unfold F_spec_l03Scale at hF
 refine con_of c74_.1 fun N => ?_
 refine ws 0 64 (qb (r_nil (ws 64 960 (qr (AL 1 (v0.map vI)) (qp (AI (v0.length : Int)) (ev_len_n rfl) (qr (AB (decide ((5 : Int) ≤ (v0.length : Int)))) (qr (AB (decide ((5 : Int) ≤ (v0.length : Int)))) ?_)))))))
 refine q_case 6 hF rfl (fun hF => ?_) (fun hF => ?_)
 ·
  refine qg (AL 1 (v0.map vI)) rfl rfl (bk hF fun u0 e0 hF => qG (AB u0) [] (con_spec_l00Rises e0) c87_ (qr (AB u0) (qr (AB u0) (q_case 10 hF rfl (fun hF => qg (AL 1 (v0.map vI)) rfl rfl (bk hF fun u1 e1 hF => qg (.val none (.ptr [.int .i64 u1])) rfl (ev_iad_n rfl rfl e1 rfl) (qg (AI u1) rfl rfl (qg (AB (decide (u1 = (0 : Int)))) rfl rfl (qr (AB (decide (u1 = (0 : Int)))) (qr (AB (decide (u1 = (0 : Int)))) (rR hF))))))) fun hF => ?_))))
  exact qn4 (qb (qb (rR hF)))
 exact qn2 (qb (qb (qn4 (qb (qb (rR hF))))))

def c62 : MC := (sr [rg 2 (.f (.nilrow 1)), pT 3 (.mv cf)] (sr [rg 6 (.f (.bsl 1 [])), mvt 4 6] (.seq (sr [pT 5 (.mv (ci 0))] (.block 0 (.loop (.seq (sr [mvt 7 5, mvt 8 0, pT 9 (.lens t8), bT 10 .lss t7 t9] (cx t10 0)) (.seq (.block 1 (.reg [mvt 13 4, mvt 14 0, mvt 15 5, pT 16 (.ixs t14 t15), dT 17 73 [t16], rg 18 (.f (.bsl 1 [t17])), rg 19 (.f (.app t13 t18 1 8 true)), mvt 4 19])) (.reg [mvt 11 5, bT 12 .add t11 (ci 1), mvt 5 12])))))) (.seq (sr [mvt 20 4, dT 21 74 [t20], pT 22 (.not t21)] (.cond t22 (sr [rg 2 (.f (.nilrow 1)), pT 3 (.mv cf)] .ret) .skip)) (sr [mvt 23 4, mvt 2 23, pT 3 (.mv ct)] .ret)))))
theorem c62_ : IsF Tryz.prog 62 c62 [(.tmp 2), (.tmp 3)] := ⟨by kernel_rfl, by kernel_rfl⟩

def F_spec_l03Read_l0 (v0 : List UInt8) (k0 : Int × (List Int) → Option ((List Int) × Bool)) : Int × (List Int) → Option ((List Int) × Bool)
 | (x2, x3) => (bif (decide (x2 < (v0.length : Int))) then ((ix v0 x2).bind fun u0 => ((F_spec_l03Named (u0.toNat : Int)).bind fun u1 => (need (room (x3.length + [u1].length) 8) (k0 (w64 (x2 + 1), x3 ++ [u1])))))
 else ((F_spec_l03Scale x3).bind fun u3 => (bif (!u3) then some ([], false)
 else some (x3, true))))
def F_spec_l03Read (v0 : List UInt8) : Option ((List Int) × Bool) :=
 loop (F_spec_l03Read_l0 v0) (0, [])
@[simp] abbrev K5 : List (Nat × Root) := [(0, .row true 1 (([] : List Int).map vI))]
@[simp] abbrev K6 (u1 : Int) (x3 : List Int) : List (Nat × Root) := [(577, .row true 1 ([u1].map vI)), (0, .row true 1 (x3.map vI))]
@[simp] def res_spec_l03Read (r : (List Int) × Bool) : RV := .tup [.one (.row true 1 (r.1.map vI)), .one (.val (.bool r.2))]
theorem con_spec_l03Read {v0 : List UInt8} {r : (List Int) × Bool} (hF : F_spec_l03Read v0 = some r) : Con Tryz.prog 62 [.str v0] (res_spec_l03Read r) := by
 unfold F_spec_l03Read at hF
 refine con_of c62_.1 fun N => ?_
 refine ws 0 128 (qf (.sl 0 0 0) K5 (by simp) (qb (r_nil (ws 128 256 (qf (.sl 128 0 0) ((128, .row true 1 (([] : List Int).map vI)) :: K5) (by simp [List.take_of_length_le]) (qr (.sl 128 0 0) (r_nil (w_seq (ws 256 320 (qr (AI 0) (r_nil (w_block ?_))))))))))))
 refine w_ren (l' := [(0, AS v0), (4, .sl 0 0 0), (5, AI 0)]) (L := K5) [0, 4, 5] [(128, 0)] 1 (by first | rfl | simp) (by first | rfl | simp) (by decide) (by decide) (by decide) ?_
 refine w_loopF (F_spec_l03Read_l0 v0) (fun s : Int × (List Int) => mkS [(0, AS v0), (4, .sl 0 0 s.2.length), (5, AI s.1)] (fo [(0, .row true 1 (s.2.map vI))]) 1) hF ?_
 rintro k0 ⟨x2, x3⟩ hF
 rw [F_spec_l03Read_l0] at hF
 try dsimp only
 refine w_seq (ws 1 257 (qr (AI x2) (qr (AS v0) (qr (AI (v0.length : Int)) (qr (AB (decide (x2 < (v0.length : Int)))) (r_nil ?_))))))
 refine cF hF (fun hF => ?_) fun hF => ?_
 ·
  refine w_skip (thenQ_n (w_seq (w_block (w_reg 257 769 rfl rfl (qr (.sl 0 0 x3.length) (qr (AS v0) (qr (AI x2) (bk hF fun u0 e0 hF => qp (.val none (.int .u8 (u0.toNat : Int))) (ev_ixs rfl rfl e0) (bk hF fun u1 e1 hF => qC (AI u1) [(0, .row true 1 (x3.map vI))] (con_spec_l03Named e1) c73_ (qf (.sl 577 0 ([u1].length)) (K6 u1 x3) (by simp [List.take_of_length_le]) (nk hF fun g2 hF => qf (.sl 641 0 ((x3 ++ [u1]).length)) ((641, .row true 1 ((x3 ++ [u1]).map vI)) :: (0, .dead) :: (577, .dead) :: (K6 u1 x3)) (effT_app_l rfl (by simp) rfl rfl (by simp) rfl (by decide) g2 rfl) (qr (.sl 641 0 ((x3 ++ [u1]).length)) (r_nil (blockQ_n (thenQ_n (w_reg 769 961 rfl rfl ?_))))))))))))))))
  refine qr (AI x2) (qr (AI (w64 (x2 + 1))) (qr (AI (w64 (x2 + 1))) (r_nil (thenQ_n ?_))))
  refine ar (l' := [(0, AS v0), (4, .sl 0 0 (x3 ++ [u1]).length), (5, AI (w64 (x2 + 1)))]) (L := [(0, .row true 1 ((x3 ++ [u1]).map vI))]) [0, 4, 5] [(641, 0)] 1 ⟨_, by rfl, hF⟩
 refine w_exit (thenQ_e (thenQ_e (blockQ_e (thenQ_n (w_seq (ws 257 449 (qr (.sl 0 0 x3.length) (bk hF fun u3 e3 hF => qc (AB u3) [(0, .row true 1 (x3.map vI))] true (con_spec_l03Scale e3) c74_.2 (by simp [List.take_of_length_le]) rfl (qr (AB (!u3)) (r_nil ?_))))))))))
 refine cF hF (fun hF => ?_) fun hF => ?_
 ·
  exact ws 449 577 (qf (.sl 449 0 0) [(449, .row true 1 (([] : List Int).map vI)), (0, .row true 1 (x3.map vI))] (by simp) (qb (r_nil (w_ret (thenQ_r (eQ hF))))))
 exact w_skip (thenQ_n (ws 449 641 (qr (.sl 0 0 x3.length) (qr (.sl 0 0 x3.length) (qt (rR hF))))))

def c63 : MC := (sr [rg 2 (.f (.nilrow 1)), pT 3 (.mv cf)] (.seq (sr [mvt 4 0, pT 5 (.lens t4), bT 6 .neq t5 (ci 2), mvt 7 6, nF 8 7 t0, kF 9 7 (.ixs t8 (ci 0)), ⟨(some 10), (some (7, false)), (.call true 73 [t9])⟩, kF 11 7 (.bin .lss t10 (ci 0)), pT 12 (.pick t7 ct t11), mvt 13 12, nF 14 13 t0, kF 15 13 (.ixs t14 (ci 1)), ⟨(some 16), (some (13, false)), (.call true 73 [t15])⟩, kF 17 13 (.bin .lss t16 (ci 0)), pT 18 (.pick t13 ct t17)] (.cond t18 (sr [rg 2 (.f (.nilrow 1)), pT 3 (.mv cf)] .ret) .skip)) (sr [mP 19 t0, pF 20 (.ixs t19 (ci 0)), dF 21 73 [t20], mP 22 t0, pF 23 (.ixs t22 (ci 1)), dF 24 73 [t23], rg 25 (.f (.bsl 1 [t21, t24])), mP 2 t25, mP 3 ct] .ret)))
theorem c63_ : IsF Tryz.prog 63 c63 [(.tmp 2), (.tmp 3)] := ⟨by kernel_rfl, by kernel_rfl⟩

def F_spec_l05Two (v0 : List UInt8) : Option ((List Int) × Bool) :=
 (bif (decide ((v0.length : Int) ≠ (2 : Int))) then some ([], false)
 else ((ix v0 0).bind fun u0 => ((F_spec_l03Named (u0.toNat : Int)).bind fun u1 => (bif (decide (u1 < (0 : Int))) then some ([], false)
 else ((ix v0 1).bind fun u2 => ((F_spec_l03Named (u2.toNat : Int)).bind fun u3 => (bif (decide (u3 < (0 : Int))) then some ([], false)
 else ((ix v0 0).bind fun u4 => ((F_spec_l03Named (u4.toNat : Int)).bind fun u5 => ((ix v0 1).bind fun u6 => ((F_spec_l03Named (u6.toNat : Int)).bind fun u7 => some ([u5, u7], true))))))))))))
@[simp] abbrev K7 : List (Nat × Root) := [(0, .row true 1 (([] : List Int).map vI))]
@[simp] abbrev K8 : List (Nat × Root) := ((1088, .row true 1 (([] : List Int).map vI)) :: K7)
@[simp] def res_spec_l05Two (r : (List Int) × Bool) : RV := .tup [.one (.row true 1 (r.1.map vI)), .one (.val (.bool r.2))]
theorem con_spec_l05Two {v0 : List UInt8} {r : (List Int) × Bool} (hF : F_spec_l05Two v0 = some r) : Con Tryz.prog 63 [.str v0] (res_spec_l05Two r) := by
 unfold F_spec_l05Two at hF
 refine con_of c63_.1 fun N => ?_
 refine ws 0 128 (qf (.sl 0 0 0) K7 (by simp) (qb (r_nil (w_seq (ws 128 1088 (qr (AS v0) (qr (AI (v0.length : Int)) (qr (AB (decide ((v0.length : Int) ≠ (2 : Int)))) (qr (AB (decide ((v0.length : Int) ≠ (2 : Int)))) ?_)))))))))
 refine q_case 7 hF rfl (fun hF => ?_) (fun hF => ?_)
 ·
  exact qn4 (qt (qt (qn2 (qn2 (qt (r_nil (w_true rfl (ws 1088 1216 (qf (.sl 1088 0 0) K8 (by simp) (qb (r_nil (w_ret (thenQ_r (eQ hF))))))))))))))
 refine qg (AS v0) rfl rfl (bk hF fun u0 e0 hF => qg (.val none (.int .u8 (u0.toNat : Int))) rfl (ev_ixs rfl rfl e0) (bk hF fun u1 e1 hF => qG (AI u1) K7 (con_spec_l03Named e1) c73_ (qg (AB (decide (u1 < (0 : Int)))) rfl rfl (qr (AB (decide (u1 < (0 : Int)))) (qr (AB (decide (u1 < (0 : Int)))) ?_)))))
 refine q_case 13 hF rfl (fun hF => ?_) (fun hF => ?_)
 ·
  exact qn4 (qt (r_nil (w_true rfl (ws 1088 1216 (qf (.sl 1088 0 0) K8 (by simp) (qb (r_nil (w_ret (thenQ_r (eQ hF))))))))))
 refine qg (AS v0) rfl rfl (bk hF fun u2 e2 hF => qg (.val none (.int .u8 (u2.toNat : Int))) rfl (ev_ixs rfl rfl e2) (bk hF fun u3 e3 hF => qG (AI u3) K7 (con_spec_l03Named e3) c73_ (qg (AB (decide (u3 < (0 : Int)))) rfl rfl (qr (AB (decide (u3 < (0 : Int)))) (r_nil ?_)))))
 refine cF hF (fun hF => ?_) fun hF => ?_
 ·
  exact ws 1088 1216 (qf (.sl 1088 0 0) K8 (by simp) (qb (r_nil (w_ret (thenQ_r (eQ hF))))))
 exact w_skip (thenQ_n (ws 1088 1664 (qr (AS v0) (bk hF fun u4 e4 hF => qp (.val none (.int .u8 (u4.toNat : Int))) (ev_ixs rfl rfl e4) (bk hF fun u5 e5 hF => qC (AI u5) K7 (con_spec_l03Named e5) c73_ (qr (AS v0) (bk hF fun u6 e6 hF => qp (.val none (.int .u8 (u6.toNat : Int))) (ev_ixs rfl rfl e6) (bk hF fun u7 e7 hF => qC (AI u7) K7 (con_spec_l03Named e7) c73_ (qf (.sl 1472 0 ([u5, u7].length)) ((1472, .row true 1 ([u5, u7].map vI)) :: K7) (by simp [List.take_of_length_le]) (qr (.sl 1472 0 ([u5, u7].length)) (qt (rR hF))))))))))))

def c88 : MC := (sr [pT 2 (.mv cf)] (sr [mvt 3 0, pT 4 (.bin .geq t3 (.c (.int .u8 97))), mvt 5 4, nT 6 5 t0, kT 7 5 (.bin .leq t6 (.c (.int .u8 122))), pT 8 (.pick t5 t7 cf), mvt 2 8] .ret))
theorem c88_ : IsF Tryz.prog 88 c88 [(.tmp 2)] := ⟨by kernel_rfl, by kernel_rfl⟩

def F_spec_l01Small (v0 : Int) : Option (Bool) :=
 (bif (decide ((97 : Int) ≤ v0)) then some (decide (v0 ≤ (122 : Int)))
 else some false)
@[simp] def res_spec_l01Small (r : Bool) : RV := .one (.one (.val (.bool r)))
theorem con_spec_l01Small {v0 : Int} {r : Bool} (hF : F_spec_l01Small v0 = some r) : Con Tryz.prog 88 [.int .u8 v0] (res_spec_l01Small r) := by
 unfold F_spec_l01Small at hF
 refine con_of c88_.1 fun N => ?_
 refine ws 0 64 (qb (r_nil (ws 64 512 (qr (.val none (.int .u8 v0)) (qr (AB (decide ((97 : Int) ≤ v0))) (qr (AB (decide ((97 : Int) ≤ v0))) (q_case 5 hF rfl (fun hF => qg (.val none (.int .u8 v0)) rfl rfl (qg (AB (decide (v0 ≤ (122 : Int)))) rfl rfl (qr (AB (decide (v0 ≤ (122 : Int)))) (qr (AB (decide (v0 ≤ (122 : Int)))) (rR hF))))) fun hF => ?_)))))))
 exact qn2 (qb (qb (rR hF)))

def c89 : MC := (sr [pT 2 (.mv cf)] (sr [mvt 3 0, pT 4 (.bin .geq t3 (.c (.int .u8 48))), mvt 5 4, nT 6 5 t0, kT 7 5 (.bin .leq t6 (.c (.int .u8 57))), pT 8 (.pick t5 t7 cf), mvt 2 8] .ret))
theorem c89_ : IsF Tryz.prog 89 c89 [(.tmp 2)] := ⟨by kernel_rfl, by kernel_rfl⟩

def F_spec_l01Digit (v0 : Int) : Option (Bool) :=
 (bif (decide ((48 : Int) ≤ v0)) then some (decide (v0 ≤ (57 : Int)))
 else some false)
@[simp] def res_spec_l01Digit (r : Bool) : RV := .one (.one (.val (.bool r)))
theorem con_spec_l01Digit {v0 : Int} {r : Bool} (hF : F_spec_l01Digit v0 = some r) : Con Tryz.prog 89 [.int .u8 v0] (res_spec_l01Digit r) := by
 unfold F_spec_l01Digit at hF
 refine con_of c89_.1 fun N => ?_
 refine ws 0 64 (qb (r_nil (ws 64 512 (qr (.val none (.int .u8 v0)) (qr (AB (decide ((48 : Int) ≤ v0))) (qr (AB (decide ((48 : Int) ≤ v0))) (q_case 5 hF rfl (fun hF => qg (.val none (.int .u8 v0)) rfl rfl (qg (AB (decide (v0 ≤ (57 : Int)))) rfl rfl (qr (AB (decide (v0 ≤ (57 : Int)))) (qr (AB (decide (v0 ≤ (57 : Int)))) (rR hF))))) fun hF => ?_)))))))
 exact qn2 (qb (qb (rR hF)))

def c75 : MC := (sr [pT 2 (.mv cf)] (.seq (sr [mvt 4 0, pT 5 (.bin .eql t4 (.c (.str []))), mvt 6 5, nF 7 6 t0, kF 8 6 (.lens t7), kF 9 6 (.bin .gtr t8 (ci 10)), pT 10 (.pick t6 ct t9), mvt 11 10, nF 12 11 t0, kF 13 11 (.ixs t12 (ci 0)), ⟨(some 14), (some (11, false)), (.call true 88 [t13])⟩, kF 15 11 (.not t14), pT 16 (.pick t11 ct t15)] (.cond t16 (sr [pT 2 (.mv cf)] .ret) .skip)) (.seq (sr [pT 3 (.mv (ci 0))] (.block 0 (.loop (.seq (sr [mvt 17 3, mvt 18 0, pT 19 (.lens t18), bT 20 .lss t17 t19] (cx t20 0)) (.seq (.block 1 (sr [mvt 23 0, mvt 24 3, pT 25 (.ixs t23 t24), dT 26 88 [t25], pT 27 (.not t26), mvt 28 27, nT 29 28 t0, nT 30 28 t3, kT 31 28 (.ixs t29 t30), ⟨(some 32), (some (28, true)), (.call true 89 [t31])⟩, kT 33 28 (.not t32), pT 34 (.pick t28 t33 cf)] (.cond t34 (sr [pT 2 (.mv cf)] .ret) .skip))) (.reg [mvt 21 3, bT 22 .add t21 (ci 1), mvt 3 22])))))) (sr [pT 2 (.mv ct)] .ret))))
theorem c75_ : IsF Tryz.prog 75 c75 [(.tmp 2)] := ⟨by kernel_rfl, by kernel_rfl⟩

def F_spec_l01Name_l0 (v0 : List UInt8) (k1 : Int → Option (Bool)) : Int → Option (Bool)
 | x3 => (bif (decide (x3 < (v0.length : Int))) then ((ix v0 x3).bind fun u10 => ((F_spec_l01Small (u10.toNat : Int)).bind fun u11 => (bif (!u11) then ((ix v0 x3).bind fun u12 => ((F_spec_l01Digit (u12.toNat : Int)).bind fun u13 => (bif (!u13) then some false
 else k1 (w64 (x3 + 1)))))
 else k1 (w64 (x3 + 1)))))
 else some true)
def F_spec_l01Name (v0 : List UInt8) : Option (Bool) :=
 (bif (decide (v0 = [])) then some false
 else (bif (decide ((10 : Int) < (v0.length : Int))) then some false
 else ((ix v0 0).bind fun u0 => ((F_spec_l01Small (u0.toNat : Int)).bind fun u1 => (bif (!u1) then some false
 else loop (F_spec_l01Name_l0 v0) 0)))))
@[simp] def res_spec_l01Name (r : Bool) : RV := .one (.one (.val (.bool r)))
theorem con_spec_l01Name {v0 : List UInt8} {r : Bool} (hF : F_spec_l01Name v0 = some r) : Con Tryz.prog 75 [.str v0] (res_spec_l01Name r) := by
 unfold F_spec_l01Name at hF
 refine con_of c75_.1 fun N => ?_
 refine ws 0 64 (qb (r_nil (w_seq (ws 64 896 (qr (AS v0) (qr (AB (decide (v0 = []))) (qr (AB (decide (v0 = []))) ?_)))))))
 refine q_case 6 hF rfl (fun hF => qn3 (qt (qt (qn3 (qn rfl (qt (r_nil (w_true rfl (ws 896 960 (qb (r_nil (w_ret (thenQ_r (eQ hF)))))))))))))) fun hF => ?_
 refine qg (AS v0) rfl rfl (qg (AI (v0.length : Int)) rfl rfl (qg (AB (decide ((10 : Int) < (v0.length : Int)))) rfl rfl (qr (AB (decide ((10 : Int) < (v0.length : Int)))) (qr (AB (decide ((10 : Int) < (v0.length : Int)))) (q_case 11 hF rfl (fun hF => qn4 (qt (r_nil (w_true rfl (ws 896 960 (qb (r_nil (w_ret (thenQ_r (eQ hF)))))))))) fun hF => ?_)))))
 refine qg (AS v0) rfl rfl (bk hF fun u0 e0 hF => qg (.val none (.int .u8 (u0.toNat : Int))) rfl (ev_ixs rfl rfl e0) (bk hF fun u1 e1 hF => qG (AB u1) [] (con_spec_l01Small e1) c88_ (qg (AB (!u1)) rfl rfl (qr (AB (!u1)) (r_nil (cF hF (fun hF => ws 896 960 (qb (r_nil (w_ret (thenQ_r (eQ hF)))))) fun hF => ?_))))))
 refine w_skip (thenQ_n (w_seq (ws 896 960 (qr (AI 0) (r_nil (w_block ?_))))))
 refine wr (l' := [(0, AS v0), (3, AI 0)]) (L := []) [0, 3] [] 1 ?_
 refine w_loopF (F_spec_l01Name_l0 v0) (fun s : Int => mkS [(0, AS v0), (3, AI s)] (fo []) 1) hF ?_
 rintro k1 x3 hF
 rw [F_spec_l01Name_l0] at hF
 try dsimp only
 refine w_seq (ws 1 257 (qr (AI x3) (qr (AS v0) (qr (AI (v0.length : Int)) (qr (AB (decide (x3 < (v0.length : Int)))) (r_nil ?_))))))
 refine cF hF (fun hF => ?_) fun hF => ?_
 ·
  refine w_skip (thenQ_n (w_seq (w_block (ws 257 1025 (qr (AS v0) (qr (AI x3) (bk hF fun u10 e10 hF => qp (.val none (.int .u8 (u10.toNat : Int))) (ev_ixs rfl rfl e10) (bk hF fun u11 e11 hF => qC (AB u11) [] (con_spec_l01Small e11) c88_ (qr (AB (!u11)) (qr (AB (!u11)) ?_))))))))))
  refine q_case 28 hF rfl (fun hF => ?_) (fun hF => ?_)
  ·
   refine qg (AS v0) rfl rfl (qg (AI x3) rfl rfl (bk hF fun u12 e12 hF => qg (.val none (.int .u8 (u12.toNat : Int))) rfl (ev_ixs rfl rfl e12) (bk hF fun u13 e13 hF => qG (AB u13) [] (con_spec_l01Digit e13) c89_ (qg (AB (!u13)) rfl rfl (qr (AB (!u13)) (r_nil (cF hF (fun hF => ws 1025 1089 (qb (r_nil (w_ret (blockQ_r (thenQ_r (thenQ_r (blockQ_r (thenQ_r (eQ hF)))))))))) fun hF => ?_)))))))
   refine w_skip (blockQ_n (thenQ_n (w_reg 1025 1217 rfl rfl (qr (AI x3) (qr (AI (w64 (x3 + 1))) (qr (AI (w64 (x3 + 1))) (r_nil (thenQ_n ?_))))))))
   refine ar (l' := [(0, AS v0), (3, AI (w64 (x3 + 1)))]) (L := []) [0, 3] [] 1 ⟨_, by rfl, hF⟩
  refine qn5 (qb (r_nil (w_false rfl (w_skip (blockQ_n (thenQ_n (w_reg 1025 1217 rfl rfl (qr (AI x3) (qr (AI (w64 (x3 + 1))) (qr (AI (w64 (x3 + 1))) (r_nil ?_)))))))))))
  refine thenQ_n ?_
  refine ar (l' := [(0, AS v0), (3, AI (w64 (x3 + 1)))]) (L := []) [0, 3] [] 1 ⟨_, by rfl, hF⟩
 exact w_exit (thenQ_e (thenQ_e (blockQ_e (thenQ_n (ws 257 321 (qt (rR hF)))))))

def c90 : MC := (sr [pT 4 (.mv cf)] (.seq (sr [pT 5 (.mv (ci 0))] (.block 0 (.loop (.seq (sr [mvt 6 5, mvt 7 0, zT 8 7, bT 9 .lss t6 t8] (cx t9 0)) (.seq (.block 1 (sr [mvt 12 0, mvt 13 5, iT 14 12 13 1, lT 15 14, mvt 16 1, bT 17 .eql t15 t16] (.cond t17 (sr [pT 4 (.mv ct)] .ret) .skip))) (.reg [mvt 10 5, bT 11 .add t10 (ci 1), mvt 5 11])))))) (sr [pT 4 (.mv cf)] .ret)))
theorem c90_ : IsF Tryz.prog 90 c90 [(.tmp 4)] := ⟨by kernel_rfl, by kernel_rfl⟩

def F_spec_l00Has_l0 (v0 : List Int) (v1 : Int) (k0 : Int → Option (Bool)) : Int → Option (Bool)
 | x1 => (bif (decide (x1 < (v0.length : Int))) then ((ix v0 x1).bind fun u0 => (bif (decide (u0 = v1)) then some true
 else k0 (w64 (x1 + 1))))
 else some false)
def F_spec_l00Has (v0 : List Int) (v1 : Int) : Option (Bool) :=
 loop (F_spec_l00Has_l0 v0 v1) 0
@[simp] def res_spec_l00Has (r : Bool) : RV := .one (.one (.val (.bool r)))
theorem con_spec_l00Has {v0 : List Int} {v1 : Int} {r : Bool} (hF : F_spec_l00Has v0 v1 = some r) : Con Tryz.prog 90 [.sl 1 (v0.map vI), .int .i64 v1] (res_spec_l00Has r) := by
 unfold F_spec_l00Has at hF
 refine con_of c90_.1 fun N => ?_
 refine ws 0 64 (qb (r_nil (w_seq (ws 64 128 (qr (AI 0) (r_nil (w_block ?_)))))))
 refine wr (l' := [(0, AL 1 (v0.map vI)), (1, AI v1), (5, AI 0)]) (L := []) [0, 1, 5] [] 1 ?_
 refine w_loopF (F_spec_l00Has_l0 v0 v1) (fun s : Int => mkS [(0, AL 1 (v0.map vI)), (1, AI v1), (5, AI s)] (fo []) 1) hF ?_
 rintro k0 x1 hF
 rw [F_spec_l00Has_l0] at hF
 try dsimp only
 refine w_seq (ws 1 257 (qr (AI x1) (qr (AL 1 (v0.map vI)) (qp (AI (v0.length : Int)) (ev_len_n rfl) (qr (AB (decide (x1 < (v0.length : Int)))) (r_nil ?_))))))
 refine cF hF (fun hF => ?_) fun hF => ?_
 ·
  refine w_skip (thenQ_n (w_seq (w_block (ws 257 641 (qr (AL 1 (v0.map vI)) (qr (AI x1) (bk hF fun u0 e0 hF => qp (.val none (.ptr [.int .i64 u0])) (ev_iad_n rfl rfl e0 rfl) (qr (AI u0) (qr (AI v1) (qr (AB (decide (u0 = v1))) (r_nil ?_)))))))))))
  refine cF hF (fun hF => ws 641 705 (qt (r_nil (w_ret (blockQ_r (thenQ_r (thenQ_r (blockQ_r (thenQ_r (eQ hF)))))))))) fun hF => ?_
  refine w_skip (blockQ_n (thenQ_n (w_reg 641 833 rfl rfl (qr (AI x1) (qr (AI (w64 (x1 + 1))) (qr (AI (w64 (x1 + 1))) (r_nil (thenQ_n ?_))))))))
  refine ar (l' := [(0, AL 1 (v0.map vI)), (1, AI v1), (5, AI (w64 (x1 + 1)))]) (L := []) [0, 1, 5] [] 1 ⟨_, by rfl, hF⟩
 exact w_exit (thenQ_e (thenQ_e (blockQ_e (thenQ_n (ws 257 321 (qb (rR hF)))))))

def c76 : MC := (sr [pT 4 (.mv cf)] (sr [mvt 5 0, pT 6 (.nck t5), pT 7 (.fad t6 1), lT 8 7, mvt 9 1, dT 10 90 [t8, t9], mvt 11 10, nF 12 11 t0, kF 13 11 (.nck t12), kF 14 11 (.fad t13 2), kF 15 11 (.ld t14 1 false), nF 16 11 t1, ⟨(some 17), (some (11, false)), (.call true 90 [t15, t16])⟩, pT 18 (.pick t11 ct t17), mvt 4 18] .ret))
theorem c76_ : IsF Tryz.prog 76 c76 [(.tmp 4)] := ⟨by kernel_rfl, by kernel_rfl⟩

def F_spec_l05Tone (v0 : TRaga) (v1 : Int) : Option (Bool) :=
 ((F_spec_l00Has v0.2.1 v1).bind fun u0 => (bif u0 then some true
 else ((F_spec_l00Has v0.2.2.1 v1).bind fun u1 => some u1)))
@[simp] abbrev K9 (v0 : TRaga) : AV := .val none (.ptr [.str v0.1, .sl 1 (v0.2.1.map vI), .sl 1 (v0.2.2.1.map vI), .int .i64 v0.2.2.2.1, .int .i64 v0.2.2.2.2.1, .sl 1 (v0.2.2.2.2.2.map (eL 1 vI))])
@[simp] def res_spec_l05Tone (r : Bool) : RV := .one (.one (.val (.bool r)))
theorem con_spec_l05Tone {v0 : TRaga} {v1 : Int} {r : Bool} (hF : F_spec_l05Tone v0 v1 = some r) : Con Tryz.prog 76 [.ptr [.str v0.1, .sl 1 (v0.2.1.map vI), .sl 1 (v0.2.2.1.map vI), .int .i64 v0.2.2.2.1, .int .i64 v0.2.2.2.2.1, .sl 1 (v0.2.2.2.2.2.map (eL 1 vI))], .int .i64 v1] (res_spec_l05Tone r) := by
 unfold F_spec_l05Tone at hF
 refine con_of c76_.1 fun N => ?_
 refine ws 0 64 (qb (r_nil (ws 64 1024 (qr (K9 v0) (qr (K9 v0) (qr (.val none (.ptr [.sl 1 (v0.2.1.map vI), .sl 1 (v0.2.2.1.map vI), .int .i64 v0.2.2.2.1, .int .i64 v0.2.2.2.2.1, .sl 1 (v0.2.2.2.2.2.map (eL 1 vI))])) (qr (AL 1 (v0.2.1.map vI)) (qr (AI v1) (bk hF fun u0 e0 hF => qC (AB u0) [] (con_spec_l00Has e0) c90_ (qr (AB u0) (q_case 11 hF rfl (fun hF => qn6 (qt (qt (rR hF)))) fun hF => ?_)))))))))))
 exact qg (K9 v0) rfl rfl (qg (K9 v0) rfl rfl (qg (.val none (.ptr [.sl 1 (v0.2.2.1.map vI), .int .i64 v0.2.2.2.1, .int .i64 v0.2.2.2.2.1, .sl 1 (v0.2.2.2.2.2.map (eL 1 vI))])) rfl rfl (qg (AL 1 (v0.2.2.1.map vI)) rfl rfl (qg (AI v1) rfl rfl (bk hF fun u1 e1 hF => qG (AB u1) [] (con_spec_l00Has e1) c90_ (qr (AB u1) (qr (AB u1) (rR hF))))))))

def c91 : MC := (sr [pT 2 (.mv cf)] (sr [mP 3 t0, zF 4 3, bF 5 .eql t4 (ci 2), mP 6 t5, mT 7 6 t0, jG 8 6 7 0 1, lG 9 6 8, ⟨(some 10), (some (6, true)), (.call false 103 [t9, (ci 0), (ci 11)])⟩, pF 11 (.pick t6 t10 cf), mP 12 t11, mT 13 12 t0, jG 14 12 13 1 1, lG 15 12 14, ⟨(some 16), (some (12, true)), (.call false 103 [t15, (ci 0), (ci 11)])⟩, pF 17 (.pick t12 t16 cf), mP 18 t17, mT 19 18 t0, jG 20 18 19 0 1, lG 21 18 20, mT 22 18 t0, jG 23 18 22 1 1, lG 24 18 23, bG 25 18 .neq t21 t24, pF 26 (.pick t18 t25 cf), mP 2 t26] .ret))
theorem c91_ : IsF Tryz.prog 91 c91 [(.tmp 2)] := ⟨by kernel_rfl, by kernel_rfl⟩

def F_spec_l05Pair (v0 : List Int) : Option (Bool) :=
 (bif (decide ((v0.length : Int) = (2 : Int))) then ((ix v0 0).bind fun u0 => ((F_spec_l00In u0 0 11).bind fun u1 => (bif u1 then ((ix v0 1).bind fun u2 => ((F_spec_l00In u2 0 11).bind fun u3 => (bif u3 then ((ix v0 0).bind fun u4 => ((ix v0 1).bind fun u5 => some (decide (u4 ≠ u5))))
 else some false)))
 else some false)))
 else some false)
@[simp] abbrev K0a (v0 : List Int) : AV := AL 1 (v0.map vI)
@[simp] def res_spec_l05Pair (r : Bool) : RV := .one (.one (.val (.bool r)))
theorem con_spec_l05Pair {v0 : List Int} {r : Bool} (hF : F_spec_l05Pair v0 = some r) : Con Tryz.prog 91 [.sl 1 (v0.map vI)] (res_spec_l05Pair r) := by
 unfold F_spec_l05Pair at hF
 refine con_of c91_.1 fun N => ?_
 refine ws 0 64 (qb (r_nil (ws 64 1664 (qr (K0a v0) (qp (AI (v0.length : Int)) (ev_len_n rfl) (qr (AB (decide ((v0.length : Int) = (2 : Int)))) (qr (AB (decide ((v0.length : Int) = (2 : Int)))) ?_)))))))
 refine q_case 6 hF rfl (fun hF => ?_) (fun hF => ?_)
 ·
  refine qg (K0a v0) rfl rfl (bk hF fun u0 e0 hF => qg (.val none (.ptr [.int .i64 u0])) rfl (ev_iad_n rfl rfl e0 rfl) (qg (AI u0) rfl rfl (bk hF fun u1 e1 hF => qG (AB u1) [] (con_spec_l00In e1) c103_ (qr (AB u1) (qr (AB u1) ?_)))))
  refine q_case 12 hF rfl (fun hF => ?_) (fun hF => ?_)
  ·
   refine qg (K0a v0) rfl rfl (bk hF fun u2 e2 hF => qg (.val none (.ptr [.int .i64 u2])) rfl (ev_iad_n rfl rfl e2 rfl) (qg (AI u2) rfl rfl (bk hF fun u3 e3 hF => qG (AB u3) [] (con_spec_l00In e3) c103_ (qr (AB u3) (qr (AB u3) (q_case 18 hF rfl (fun hF => qg (K0a v0) rfl rfl (bk hF fun u4 e4 hF => qg (.val none (.ptr [.int .i64 u4])) rfl (ev_iad_n rfl rfl e4 rfl) (qg (AI u4) rfl rfl (qg (K0a v0) rfl rfl (bk hF fun u5 e5 hF => qg (.val none (.ptr [.int .i64 u5])) rfl (ev_iad_n rfl rfl e5 rfl) (qg (AI u5) rfl rfl (qg (AB (decide (u4 ≠ u5))) rfl rfl (qr (AB (decide (u4 ≠ u5))) (qr (AB (decide (u4 ≠ u5))) (rR hF)))))))))) fun hF => ?_))))))
   exact qn7 (qb (qb (rR hF)))
  exact qn4 (qb (qb (qn2 (qn5 (qb (qb (rR hF)))))))
 exact qn4 (qb (qb (qn2 (qn2 (qb (qb (qn4 (qn3 (qb (qb (rR hF)))))))))))

def c77 : MC := (sr [pT 2 (.mv cf)] (.seq (sr [pT 3 (.mv (ci 0))] (.block 0 (.loop (.seq (sr [mvt 4 3, mvt 5 0, zT 6 5, bT 7 .lss t4 t6] (cx t7 0)) (.seq (.block 1 (.seq (sr [mvt 10 0, mvt 11 3, iT 12 10 11 1, lT 13 12, dT 14 91 [t13], pT 15 (.not t14)] (.cond t15 (sr [pT 2 (.mv cf)] .ret) .skip)) (sr [mP 16 t3, bF 17 .gtr t16 (ci 0), mP 18 t17, mT 19 18 t0, mT 20 18 t3, bG 21 18 .sub t20 (ci 1), iG 22 18 19 21 1, lG 23 18 22, jG 24 18 23 0 1, lG 25 18 24, mT 26 18 t0, mT 27 18 t3, iG 28 18 26 27 1, lG 29 18 28, jG 30 18 29 0 1, lG 31 18 30, bG 32 18 .gtr t25 t31, mT 33 18 t32, mF 34 33 t0, mF 35 33 t3, bH 36 33 .sub t35 (ci 1), iH 37 33 34 36 1, lH 38 33 37, jH 39 33 38 0 1, lH 40 33 39, mF 41 33 t0, mF 42 33 t3, iH 43 33 41 42 1, lH 44 33 43, jH 45 33 44 0 1, lH 46 33 45, bH 47 33 .eql t40 t46, mF 48 33 t47, mT 49 48 t0, mT 50 48 t3, bG 51 48 .sub t50 (ci 1), iG 52 48 49 51 1, lG 53 48 52, jG 54 48 53 1 1, lG 55 48 54, mT 56 48 t0, mT 57 48 t3, iG 58 48 56 57 1, lG 59 48 58, jG 60 48 59 1 1, lG 61 48 60, bG 62 48 .geq t55 t61, gF 63 33 (.pick t48 t62 cf), gT 64 18 (.pick t33 ct t63), pF 65 (.pick t18 t64 cf)] (.cond t65 (sr [pT 2 (.mv cf)] .ret) .skip)))) (.reg [mvt 8 3, bT 9 .add t8 (ci 1), mvt 3 9])))))) (sr [mvt 66 0, zT 67 66, bT 68 .leq t67 (ci 8), mvt 2 68] .ret)))
theorem c77_ : IsF Tryz.prog 77 c77 [(.tmp 2)] := ⟨by kernel_rfl, by kernel_rfl⟩

def F_spec_l05Pairs_l0 (v0 : List (List Int)) (k0 : Int → Option (Bool)) : Int → Option (Bool)
 | x1 => (bif (decide (x1 < (v0.length : Int))) then ((ix v0 x1).bind fun u0 => ((F_spec_l05Pair u0).bind fun u1 => (bif (!u1) then some false
 else (bif (decide ((0 : Int) < x1)) then ((ix v0 (w64 (x1 - 1))).bind fun u2 => ((ix u2 0).bind fun u3 => ((ix v0 x1).bind fun u4 => ((ix u4 0).bind fun u5 => (bif (decide (u5 < u3)) then some false
 else ((ix v0 (w64 (x1 - 1))).bind fun u6 => ((ix u6 0).bind fun u7 => ((ix v0 x1).bind fun u8 => ((ix u8 0).bind fun u9 => (bif (decide (u7 = u9)) then ((ix v0 (w64 (x1 - 1))).bind fun u10 => ((ix u10 1).bind fun u11 => ((ix v0 x1).bind fun u12 => ((ix u12 1).bind fun u13 => (bif (decide (u13 ≤ u11)) then some false
 else k0 (w64 (x1 + 1)))))))
 else k0 (w64 (x1 + 1))))))))))))
 else k0 (w64 (x1 + 1))))))
 else some (decide ((v0.length : Int) ≤ (8 : Int))))
def F_spec_l05Pairs (v0 : List (List Int)) : Option (Bool) :=
 loop (F_spec_l05Pairs_l0 v0) 0
@[simp] abbrev K0b (v0 : List (List Int)) : V := .sl 1 (v0.map (eL 1 vI))
@[simp] def res_spec_l05Pairs (r : Bool) : RV := .one (.one (.val (.bool r)))
theorem con_spec_l05Pairs {v0 : List (List Int)} {r : Bool} (hF : F_spec_l05Pairs v0 = some r) : Con Tryz.prog 77 [.sl 1 (v0.map (eL 1 vI))] (res_spec_l05Pairs r) := by
 unfold F_spec_l05Pairs at hF
 refine con_of c77_.1 fun N => ?_
 refine ws 0 64 (qb (r_nil (w_seq (ws 64 128 (qr (AI 0) (r_nil (w_block ?_)))))))
 refine wr (l' := [(0, .val none (K0b v0)), (3, AI 0)]) (L := []) [0, 3] [] 1 ?_
 refine w_loopF (F_spec_l05Pairs_l0 v0) (fun s : Int => mkS [(0, .val none (K0b v0)), (3, AI s)] (fo []) 1) hF ?_
 rintro k0 x1 hF
 rw [F_spec_l05Pairs_l0] at hF
 try dsimp only
 refine w_seq (ws 1 257 (qr (AI x1) (qr (.val none (K0b v0)) (qp (AI (v0.length : Int)) (ev_len_n rfl) (qr (AB (decide (x1 < (v0.length : Int)))) (r_nil ?_))))))
 refine cF hF (fun hF => ?_) fun hF => ?_
 ·
  refine w_skip (thenQ_n (w_seq (w_block (w_seq (ws 257 641 (qr (.val none (K0b v0)) (qr (AI x1) (bk hF fun u0 e0 hF => qp (.val none (.ptr [.sl 1 (u0.map vI)])) (ev_iad_n rfl rfl e0 rfl) (qr (AL 1 (u0.map vI)) (bk hF fun u1 e1 hF => qC (AB u1) [] (con_spec_l05Pair e1) c91_ (qr (AB (!u1)) (r_nil ?_))))))))))))
  refine cF hF (fun hF => ws 641 705 (qb (r_nil (w_ret (thenQ_r (blockQ_r (thenQ_r (thenQ_r (blockQ_r (thenQ_r (eQ hF))))))))))) fun hF => ?_
  refine w_skip (thenQ_n (ws 641 3841 (qr (AI x1) (qr (AB (decide ((0 : Int) < x1))) (qr (AB (decide ((0 : Int) < x1))) ?_)))))
  refine q_case 18 hF rfl (fun hF => ?_) (fun hF => ?_)
  ·
   refine qg (.val none (K0b v0)) rfl rfl (qg (AI x1) rfl rfl (qg (AI (w64 (x1 - 1))) rfl rfl (bk hF fun u2 e2 hF => qg (.val none (.ptr [.sl 1 (u2.map vI)])) rfl (ev_iad_n rfl rfl e2 rfl) (qg (AL 1 (u2.map vI)) rfl rfl (bk hF fun u3 e3 hF => qg (.val none (.ptr [.int .i64 u3])) rfl (ev_iad_n rfl rfl e3 rfl) (qg (AI u3) rfl rfl (qg (.val none (K0b v0)) rfl rfl (qg (AI x1) rfl rfl (bk hF fun u4 e4 hF => qg (.val none (.ptr [.sl 1 (u4.map vI)])) rfl (ev_iad_n rfl rfl e4 rfl) (qg (AL 1 (u4.map vI)) rfl rfl (bk hF fun u5 e5 hF => qg (.val none (.ptr [.int .i64 u5])) rfl (ev_iad_n rfl rfl e5 rfl) (qg (AI u5) rfl rfl (qg (AB (decide (u5 < u3))) rfl rfl (qg (AB (decide (u5 < u3))) rfl rfl ?_))))))))))))))
   refine q_case 33 hF rfl (fun hF => ?_) (fun hF => ?_)
   ·
    refine qn8 (qn7 (qu rfl (qu rfl (qu rfl (qu rfl (qu rfl (qu rfl (qu rfl (qu rfl (qu rfl ?_))))))))))
    refine qu rfl (qu rfl (qu rfl (qu rfl (qu rfl (qn rfl (qg (AB true) rfl rfl (qt (r_nil (w_true rfl (ws 3841 3905 (qb (r_nil (w_ret ?_)))))))))))))
    exact blockQ_r (thenQ_r (thenQ_r (blockQ_r (thenQ_r (eQ hF)))))
   refine qg (.val none (K0b v0)) rfl rfl (qg (AI x1) rfl rfl (qg (AI (w64 (x1 - 1))) rfl rfl (bk hF fun u6 e6 hF => qg (.val none (.ptr [.sl 1 (u6.map vI)])) rfl (ev_iad_n rfl rfl e6 rfl) (qg (AL 1 (u6.map vI)) rfl rfl (bk hF fun u7 e7 hF => qg (.val none (.ptr [.int .i64 u7])) rfl (ev_iad_n rfl rfl e7 rfl) (qg (AI u7) rfl rfl (qg (.val none (K0b v0)) rfl rfl (qg (AI x1) rfl rfl (bk hF fun u8 e8 hF => qg (.val none (.ptr [.sl 1 (u8.map vI)])) rfl (ev_iad_n rfl rfl e8 rfl) (qg (AL 1 (u8.map vI)) rfl rfl (bk hF fun u9 e9 hF => qg (.val none (.ptr [.int .i64 u9])) rfl (ev_iad_n rfl rfl e9 rfl) (qg (AI u9) rfl rfl (qg (AB (decide (u7 = u9))) rfl rfl (qg (AB (decide (u7 = u9))) rfl rfl ?_))))))))))))))
   refine q_case 48 hF rfl (fun hF => ?_) (fun hF => ?_)
   ·
    refine qg (.val none (K0b v0)) rfl rfl (qg (AI x1) rfl rfl (qg (AI (w64 (x1 - 1))) rfl rfl (bk hF fun u10 e10 hF => qg (.val none (.ptr [.sl 1 (u10.map vI)])) rfl (ev_iad_n rfl rfl e10 rfl) (qg (AL 1 (u10.map vI)) rfl rfl (bk hF fun u11 e11 hF => qg (.val none (.ptr [.int .i64 u11])) rfl (ev_iad_n rfl rfl e11 rfl) (qg (AI u11) rfl rfl (qg (.val none (K0b v0)) rfl rfl (qg (AI x1) rfl rfl (bk hF fun u12 e12 hF => qg (.val none (.ptr [.sl 1 (u12.map vI)])) rfl (ev_iad_n rfl rfl e12 rfl) (qg (AL 1 (u12.map vI)) rfl rfl (bk hF fun u13 e13 hF => ?_)))))))))))
    refine qg (.val none (.ptr [.int .i64 u13])) rfl (ev_iad_n rfl rfl e13 rfl) (qg (AI u13) rfl rfl (qg (AB (decide (u13 ≤ u11))) rfl rfl (qg (AB (decide (u13 ≤ u11))) rfl rfl (qg (AB (decide (u13 ≤ u11))) rfl rfl (qr (AB (decide (u13 ≤ u11))) (r_nil ?_))))))
    refine cF hF (fun hF => ws 3841 3905 (qb (r_nil (w_ret (blockQ_r (thenQ_r (thenQ_r (blockQ_r (thenQ_r (eQ hF)))))))))) fun hF => ?_
    refine w_skip (blockQ_n (thenQ_n (w_reg 3841 4033 rfl rfl (qr (AI x1) (qr (AI (w64 (x1 + 1))) (qr (AI (w64 (x1 + 1))) (r_nil (thenQ_n ?_))))))))
    refine ar (l' := [(0, .val none (K0b v0)), (3, AI (w64 (x1 + 1)))]) (L := []) [0, 3] [] 1 ⟨_, by rfl, hF⟩
   refine qn8 (qn6 (qg (AB false) rfl rfl (qg (AB false) rfl rfl (qb (r_nil (w_false rfl (w_skip (blockQ_n (thenQ_n (w_reg 3841 4033 rfl rfl ?_))))))))))
   refine qr (AI x1) (qr (AI (w64 (x1 + 1))) (qr (AI (w64 (x1 + 1))) (r_nil (thenQ_n ?_))))
   refine ar (l' := [(0, .val none (K0b v0)), (3, AI (w64 (x1 + 1)))]) (L := []) [0, 3] [] 1 ⟨_, by rfl, hF⟩
  refine qn8 (qn7 (qu rfl (qu rfl (qu rfl (qu rfl (qu rfl (qu rfl (qu rfl (qu rfl (qu rfl ?_))))))))))
  refine qu rfl (qu rfl (qu rfl (qu rfl (qu rfl (qu rfl (qu rfl (qu rfl ?_)))))))
  refine qu rfl (qu rfl (qu rfl (qu rfl (qu rfl (qu rfl (qu rfl (qu rfl ?_)))))))
  refine qu rfl (qu rfl (qu rfl (qu rfl (qu rfl (qn rfl (qb (r_nil (w_false rfl (w_skip (blockQ_n (thenQ_n (w_reg 3841 4033 rfl rfl ?_))))))))))))
  refine qr (AI x1) (qr (AI (w64 (x1 + 1))) (qr (AI (w64 (x1 + 1))) (r_nil (thenQ_n ?_))))
  refine ar (l' := [(0, .val none (K0b v0)), (3, AI (w64 (x1 + 1)))]) (L := []) [0, 3] [] 1 ⟨_, by rfl, hF⟩
 exact w_exit (thenQ_e (thenQ_e (blockQ_e (thenQ_n (ws 257 513 (qr (.val none (K0b v0)) (qp (AI (v0.length : Int)) (ev_len_n rfl) (qr (AB (decide ((v0.length : Int) ≤ (8 : Int)))) (qr (AB (decide ((v0.length : Int) ≤ (8 : Int)))) (rR hF))))))))))

def c64 : MC := (sr [pT 2 (.mv cf)] (sr [mP 3 t0, pF 4 (.nck t3), pF 5 (.fad t4 0), lF 6 5, dF 7 75 [t6], mP 8 t7, mT 9 8 t0, gT 10 8 (.nck t9), gT 11 8 (.fad t10 1), lG 12 8 11, ⟨(some 13), (some (8, true)), (.call false 74 [t12])⟩, pF 14 (.pick t8 t13 cf), mP 15 t14, mT 16 15 t0, gT 17 15 (.nck t16), gT 18 15 (.fad t17 2), lG 19 15 18, ⟨(some 20), (some (15, true)), (.call false 74 [t19])⟩, pF 21 (.pick t15 t20 cf), mP 22 t21, mT 23 22 t0, mT 24 22 t0, gT 25 22 (.nck t24), gT 26 22 (.fad t25 3), lG 27 22 26, ⟨(some 28), (some (22, true)), (.call false 76 [t23, t27])⟩, pF 29 (.pick t22 t28 cf), mP 30 t29, mT 31 30 t0, mT 32 30 t0, gT 33 30 (.nck t32), gT 34 30 (.fad t33 4), lG 35 30 34, ⟨(some 36), (some (30, true)), (.call false 76 [t31, t35])⟩, pF 37 (.pick t30 t36 cf), mP 38 t37, mT 39 38 t0, gT 40 38 (.nck t39), gT 41 38 (.fad t40 3), lG 42 38 41, mT 43 38 t0, gT 44 38 (.nck t43), gT 45 38 (.fad t44 4), lG 46 38 45, bG 47 38 .neq t42 t46, pF 48 (.pick t38 t47 cf), mP 49 t48, mT 50 49 t0, gT 51 49 (.nck t50), gT 52 49 (.fad t51 5), lG 53 49 52, ⟨(some 54), (some (49, true)), (.call false 77 [t53])⟩, pF 55 (.pick t49 t54 cf), mP 2 t55] .ret))
theorem c64_ : IsF Tryz.prog 64 c64 [(.tmp 2)] := ⟨by kernel_rfl, by kernel_rfl⟩

def F_spec_l05Ok (v0 : TRaga) : Option (Bool) :=
 ((F_spec_l01Name v0.1).bind fun u0 => (bif u0 then ((F_spec_l03Scale v0.2.1).bind fun u1 => (bif u1 then ((F_spec_l03Scale v0.2.2.1).bind fun u2 => (bif u2 then ((F_spec_l05Tone v0 v0.2.2.2.1).bind fun u3 => (bif u3 then ((F_spec_l05Tone v0 v0.2.2.2.2.1).bind fun u4 => (bif u4 then (bif (decide (v0.2.2.2.1 ≠ v0.2.2.2.2.1)) then ((F_spec_l05Pairs v0.2.2.2.2.2).bind fun u5 => some u5)
 else some false)
 else some false))
 else some false))
 else some false))
 else some false))
 else some false))
@[simp] abbrev K0c (v0 : TRaga) : AV := .val none (.ptr [.str v0.1, .sl 1 (v0.2.1.map vI), .sl 1 (v0.2.2.1.map vI), .int .i64 v0.2.2.2.1, .int .i64 v0.2.2.2.2.1, .sl 1 (v0.2.2.2.2.2.map (eL 1 vI))])
@[simp] abbrev K0d (v0 : TRaga) : AV := .val none (.ptr [.int .i64 v0.2.2.2.1, .int .i64 v0.2.2.2.2.1, .sl 1 (v0.2.2.2.2.2.map (eL 1 vI))])
@[simp] def res_spec_l05Ok (r : Bool) : RV := .one (.one (.val (.bool r)))
theorem con_spec_l05Ok {v0 : TRaga} {r : Bool} (hF : F_spec_l05Ok v0 = some r) : Con Tryz.prog 64 [.ptr [.str v0.1, .sl 1 (v0.2.1.map vI), .sl 1 (v0.2.2.1.map vI), .int .i64 v0.2.2.2.1, .int .i64 v0.2.2.2.2.1, .sl 1 (v0.2.2.2.2.2.map (eL 1 vI))]] (res_spec_l05Ok r) := by
 unfold F_spec_l05Ok at hF
 refine con_of c64_.1 fun N => ?_
 refine ws 0 64 (qb (r_nil (ws 64 3520 (qr (K0c v0) (qr (K0c v0) (qr (K0c v0) (qr (AS v0.1) (bk hF fun u0 e0 hF => qC (AB u0) [] (con_spec_l01Name e0) c75_ (qr (AB u0) ?_)))))))))
 refine q_case 8 hF rfl (fun hF => ?_) (fun hF => ?_)
 ·
  refine qg (K0c v0) rfl rfl (qg (K0c v0) rfl rfl (qg (.val none (.ptr [.sl 1 (v0.2.1.map vI), .sl 1 (v0.2.2.1.map vI), .int .i64 v0.2.2.2.1, .int .i64 v0.2.2.2.2.1, .sl 1 (v0.2.2.2.2.2.map (eL 1 vI))])) rfl rfl (qg (AL 1 (v0.2.1.map vI)) rfl rfl (bk hF fun u1 e1 hF => qG (AB u1) [] (con_spec_l03Scale e1) c74_ (qr (AB u1) (qr (AB u1) ?_))))))
  refine q_case 15 hF rfl (fun hF => ?_) (fun hF => ?_)
  ·
   refine qg (K0c v0) rfl rfl (qg (K0c v0) rfl rfl (qg (.val none (.ptr [.sl 1 (v0.2.2.1.map vI), .int .i64 v0.2.2.2.1, .int .i64 v0.2.2.2.2.1, .sl 1 (v0.2.2.2.2.2.map (eL 1 vI))])) rfl rfl (qg (AL 1 (v0.2.2.1.map vI)) rfl rfl (bk hF fun u2 e2 hF => qG (AB u2) [] (con_spec_l03Scale e2) c74_ (qr (AB u2) (qr (AB u2) ?_))))))
   refine q_case 22 hF rfl (fun hF => ?_) (fun hF => ?_)
   ·
    refine qg (K0c v0) rfl rfl (qg (K0c v0) rfl rfl (qg (K0c v0) rfl rfl (qg (K0d v0) rfl rfl (qg (AI v0.2.2.2.1) rfl rfl (bk hF fun u3 e3 hF => qG (AB u3) [] (con_spec_l05Tone e3) c76_ (qr (AB u3) (qr (AB u3) ?_)))))))
    refine q_case 30 hF rfl (fun hF => ?_) (fun hF => ?_)
    ·
     refine qg (K0c v0) rfl rfl (qg (K0c v0) rfl rfl (qg (K0c v0) rfl rfl (qg (.val none (.ptr [.int .i64 v0.2.2.2.2.1, .sl 1 (v0.2.2.2.2.2.map (eL 1 vI))])) rfl rfl (qg (AI v0.2.2.2.2.1) rfl rfl (bk hF fun u4 e4 hF => qG (AB u4) [] (con_spec_l05Tone e4) c76_ (qr (AB u4) (qr (AB u4) ?_)))))))
     refine q_case 38 hF rfl (fun hF => ?_) (fun hF => ?_)
     ·
      refine qg (K0c v0) rfl rfl (qg (K0c v0) rfl rfl (qg (K0d v0) rfl rfl (qg (AI v0.2.2.2.1) rfl rfl (qg (K0c v0) rfl rfl (qg (K0c v0) rfl rfl (qg (.val none (.ptr [.int .i64 v0.2.2.2.2.1, .sl 1 (v0.2.2.2.2.2.map (eL 1 vI))])) rfl rfl (qg (AI v0.2.2.2.2.1) rfl rfl (qg (AB (decide (v0.2.2.2.1 ≠ v0.2.2.2.2.1))) rfl rfl (qr (AB (decide (v0.2.2.2.1 ≠ v0.2.2.2.2.1))) (qr (AB (decide (v0.2.2.2.1 ≠ v0.2.2.2.2.1))) ?_))))))))))
      refine q_case 49 hF rfl (fun hF => qg (K0c v0) rfl rfl (qg (K0c v0) rfl rfl (qg (.val none (.ptr [.sl 1 (v0.2.2.2.2.2.map (eL 1 vI))])) rfl rfl (qg (AL 1 (v0.2.2.2.2.2.map (eL 1 vI))) rfl rfl (bk hF fun u5 e5 hF => qG (AB u5) [] (con_spec_l05Pairs e5) c77_ (qr (AB u5) (qr (AB u5) (rR hF)))))))) fun hF => ?_
      exact qn5 (qb (qb (rR hF)))
     exact qn8 (qn rfl (qb (qb (qn rfl (qn rfl (qn rfl (qn rfl (qn rfl (qb (qb (rR hF)))))))))))
    exact qn6 (qb (qb (qn8 (qn rfl (qb (qb (qn rfl (qn rfl (qn rfl (qn rfl (qn rfl (qb (qb (rR hF))))))))))))))
   refine qn6 (qb (qb (qn6 (qb (qb (qn8 ?_))))))
   exact qn rfl (qb (qb (qn rfl (qn rfl (qn rfl (qn rfl (qn rfl (qb (qb (rR hF))))))))))
  refine qn5 (qb (qb (qn rfl (qn5 (qb (qb (qn rfl (qn5 (qb (qb (qn rfl (qn8 ?_))))))))))))
  exact qb (qb (qn5 (qb (qb (rR hF)))))
 refine qn5 (qb (qb (qn rfl (qn4 (qb (qb (qn2 (qn4 (qb (qb (qn2 ?_)))))))))))
 exact qn4 (qb (qb (qn2 (qn7 (qb (qb (qn5 (qb (qb (rR hF))))))))))

def c39 : MC := (sr [rg 2 (.f (.alloc [((.str []), (0, false)), ((.sl 0 []), (1, false)), ((.sl 0 []), (1, false)), ((.int .i64 0), (0, false)), ((.int .i64 0), (0, false)), ((.sl 0 []), (1, false))])), pT 3 (.mv cf)] (sr [mvt 15 0, dT 16 61 [t15, (.c (.int .u8 32))], mvt 4 16] (.seq (sr [mvt 17 4, zT 18 17, bT 19 .lss t18 (ci 4)] (.cond t19 (sr [rg 20 (.f (.bld [((.str []), (0, false)), ((.sl 0 []), (1, false)), ((.sl 0 []), (1, false)), ((.int .i64 0), (0, false)), ((.int .i64 0), (0, false)), ((.sl 0 []), (1, false))] [])), ⟨none, none, (.f (.st t2 t20 6))⟩, pT 3 (.mv cf)] .ret) .skip)) (sr [mvt 22 4, jT 23 22 1 1, lT 24 23, dT 25 62 [t24], mvt 21 25, pT 26 (.ext t21 0), pT 27 (.ext t21 1), mvt 5 26, mvt 6 27] (sr [mvt 29 4, jT 30 29 2 1, lT 31 30, dT 32 62 [t31], mvt 28 32, pT 33 (.ext t28 0), pT 34 (.ext t28 1), mvt 7 33, mvt 8 34] (sr [mvt 36 4, jT 37 36 3 1, lT 38 37, dT 39 63 [t38], mvt 35 39, pT 40 (.ext t35 0), pT 41 (.ext t35 1), mvt 9 40, mvt 10 41] (.seq (sr [mvt 42 6, pT 43 (.not t42), mvt 44 43, nF 45 44 t8, kF 46 44 (.not t45), pT 47 (.pick t44 ct t46), mvt 48 47, nF 49 48 t10, kF 50 48 (.not t49), pT 51 (.pick t48 ct t50)] (.cond t51 (sr [rg 52 (.f (.bld [((.str []), (0, false)), ((.sl 0 []), (1, false)), ((.sl 0 []), (1, false)), ((.int .i64 0), (0, false)), ((.int .i64 0), (0, false)), ((.sl 0 []), (1, false))] [])), ⟨none, none, (.f (.st t2 t52 6))⟩, pT 3 (.mv cf)] .ret) .skip)) (sr [mP 53 t4, jF 54 53 0 1, lF 55 54, mP 56 t5, mP 57 t7, mP 58 t9, jF 59 58 0 1, lF 60 59, mP 61 t9, jF 62 61 1 1, lF 63 62, rg 64 (.f (.bld [((.str []), (0, true)), ((.sl 0 []), (1, true)), ((.sl 0 []), (1, true)), ((.int .i64 0), (0, true)), ((.int .i64 0), (0, true)), ((.sl 0 []), (1, false))] [(0, (1, t55)), (1, (1, t56)), (2, (1, t57)), (3, (1, t60)), (4, (1, t63))])), rg 11 (.f (.alloc [((.str []), (0, false)), ((.sl 0 []), (1, false)), ((.sl 0 []), (1, false)), ((.int .i64 0), (0, false)), ((.int .i64 0), (0, false)), ((.sl 0 []), (1, false))])), ⟨none, none, (.f (.st t11 t64 6))⟩] (.seq (sr [pT 12 (.mv (ci 4))] (.block 0 (.loop (.seq (sr [mvt 65 12, mvt 66 4, zT 67 66, bT 68 .lss t65 t67] (cx t68 0)) (.seq (.block 1 (sr [mvt 72 4, mvt 73 12, iT 74 72 73 1, lT 75 74, dT 76 63 [t75], mvt 71 76, pT 77 (.ext t71 0), pT 78 (.ext t71 1), mvt 13 77, mvt 14 78] (.seq (sr [mvt 79 14, pT 80 (.not t79)] (.cond t80 (sr [rg 81 (.f (.bld [((.str []), (0, false)), ((.sl 0 []), (1, false)), ((.sl 0 []), (1, false)), ((.int .i64 0), (0, false)), ((.int .i64 0), (0, false)), ((.sl 0 []), (1, false))] [])), ⟨none, none, (.f (.st t2 t81 6))⟩, pT 3 (.mv cf)] .ret) .skip)) (.reg [pT 82 (.fad t11 5), lT 83 82, mvt 84 13, rg 85 (.f (.bsl 1 [t84])), rg 86 (.f (.app t83 t85 1 24 true)), pT 87 (.fad t11 5), ⟨none, none, (.f (.st t87 t86 1))⟩])))) (.reg [mvt 69 12, bT 70 .add t69 (ci 1), mvt 12 70])))))) (.seq (sr [dT 88 64 [t11], pT 89 (.not t88)] (.cond t89 (sr [rg 90 (.f (.bld [((.str []), (0, false)), ((.sl 0 []), (1, false)), ((.sl 0 []), (1, false)), ((.int .i64 0), (0, false)), ((.int .i64 0), (0, false)), ((.sl 0 []), (1, false))] [])), ⟨none, none, (.f (.st t2 t90 6))⟩, pT 3 (.mv cf)] .ret) .skip)) (sr [pT 91 (.ld t11 6 true), ⟨none, none, (.f (.st t2 t91 6))⟩, pT 3 (.mv ct)] .ret)))))))))))
theorem c39_ : IsF Tryz.prog 39 c39 [(.cell (.ld (.t 2) 6 true)), (.tmp 3)] := ⟨by kernel_rfl, by kernel_rfl⟩

def F_spec_l05Read_l0 (u0 : List (List UInt8)) (u2 : (List Int) × Bool) (u4 : (List Int) × Bool) (u7 : List UInt8) (u8 : Int) (u9 : Int) (k1 : Int × (List (List Int)) → Option (TRaga × Bool)) : Int × (List (List Int)) → Option (TRaga × Bool)
 | (x6, x7) => (bif (decide (x6 < (u0.length : Int))) then ((ix u0 x6).bind fun u16 => ((F_spec_l05Two u16).bind fun u17 => (bif (!u17.2) then some (([], [], [], 0, 0, []), false)
 else (need (room (x7.length + [u17.1].length) 24) (k1 (w64 (x6 + 1), x7 ++ [u17.1]))))))
 else ((F_spec_l05Ok (u7, u2.1, u4.1, u8, u9, x7)).bind fun u19 => (bif (!u19) then some (([], [], [], 0, 0, []), false)
 else some ((u7, u2.1, u4.1, u8, u9, x7), true))))
def F_spec_l05Read (v0 : List UInt8) : Option (TRaga × Bool) :=
 ((F_spec_l01Split v0 32).bind fun u0 => (bif (decide ((u0.length : Int) < (4 : Int))) then some (([], [], [], 0, 0, []), false)
 else ((ix u0 1).bind fun u1 => ((F_spec_l03Read u1).bind fun u2 => ((ix u0 2).bind fun u3 => ((F_spec_l03Read u3).bind fun u4 => ((ix u0 3).bind fun u5 => ((F_spec_l05Two u5).bind fun u6 => (bif (!u2.2) then some (([], [], [], 0, 0, []), false)
 else (bif (!u4.2) then some (([], [], [], 0, 0, []), false)
 else (bif (!u6.2) then some (([], [], [], 0, 0, []), false)
 else ((ix u0 0).bind fun u7 => ((ix u6.1 0).bind fun u8 => ((ix u6.1 1).bind fun u9 => loop (F_spec_l05Read_l0 u0 u2 u4 u7 u8 u9) (4, [])))))))))))))))
@[simp] abbrev K0u : Nat × Root := (3, .row true 1 (([] : List Int).map vI))
@[simp] abbrev K0e : List (Nat × Root) := [(0, .box [AS [], .sl 1 0 0, .sl 2 0 0, AI 0, AI 0, .sl 3 0 0]), K0u, (2, .row true 1 (([] : List Int).map vI)), (1, .row true 1 (([] : List Int).map vI))]
@[simp] abbrev K0f (u0 : List (List UInt8)) : List (Nat × Root) := ((192, .row true 1 (u0.map V.str)) :: K0e)
@[simp] abbrev K0g (u2 : (List Int) × Bool) (u0 : List (List UInt8)) : List (Nat × Root) := ((704, .row true 1 (u2.1.map vI)) :: (K0f u0))
@[simp] abbrev K0h (u4 : (List Int) × Bool) (u2 : (List Int) × Bool) (u0 : List (List UInt8)) : List (Nat × Root) := ((1280, .row true 1 (u4.1.map vI)) :: (K0g u2 u0))
@[simp] abbrev K0i (u0 : List (List UInt8)) : List (Nat × Root) := ((514, .row true 1 (([] : List (List Int)).map (eL 1 vI))) :: (513, .row true 1 (([] : List Int).map vI)) :: (512, .row true 1 (([] : List Int).map vI)) :: (K0f u0))
@[simp] abbrev K0j (u6 : (List Int) × Bool) (u4 : (List Int) × Bool) (u2 : (List Int) × Bool) (u0 : List (List UInt8)) : List (Nat × Root) := ((1856, .row true 1 (u6.1.map vI)) :: (K0h u4 u2 u0))
@[simp] abbrev K0k (u6 : (List Int) × Bool) (u4 : (List Int) × Bool) (u2 : (List Int) × Bool) (u0 : List (List UInt8)) : List (Nat × Root) := ((3584, .row true 1 (([] : List (List Int)).map (eL 1 vI))) :: (K0j u6 u4 u2 u0))
@[simp] abbrev K0x : Nat × Root := (5, .row true 1 (([] : List Int).map vI))
@[simp] abbrev K0y : Nat × Root := (4, .row true 1 (([] : List Int).map vI))
@[simp] abbrev K0v : Nat × Root := (0, .box [AS [], .sl 3 0 0, .sl 4 0 0, AI 0, AI 0, .sl 5 0 0])
@[simp] abbrev K0l (x7 : List (List Int)) (u4 : (List Int) × Bool) (u2 : (List Int) × Bool) (u7 : List UInt8) (u8 : Int) (u9 : Int) (u0 : List (List UInt8)) : List (Nat × Root) := [(8, .row true 1 (x7.map (eL 1 vI))), (7, .row true 1 (u4.1.map vI)), (6, .row true 1 (u2.1.map vI)), K0x, K0y, K0u, (2, .box [AS u7, .sl 6 0 u2.1.length, .sl 7 0 u4.1.length, AI u8, AI u9, .sl 8 0 x7.length]), (1, .row true 1 (u0.map V.str)), K0v]
@[simp] abbrev K0n (u6 : (List Int) × Bool) (u4 : (List Int) × Bool) (u2 : (List Int) × Bool) (u0 : List (List UInt8)) : List (Nat × Root) := ((2882, .row true 1 (([] : List (List Int)).map (eL 1 vI))) :: (2881, .row true 1 (([] : List Int).map vI)) :: (2880, .row true 1 (([] : List Int).map vI)) :: (K0j u6 u4 u2 u0))
@[simp] abbrev K0w : List AV := [AS [], .sl 2880 0 0, .sl 2881 0 0, AI 0, AI 0, .sl 2882 0 0]
@[simp] abbrev K0o (u6 : (List Int) × Bool) (u4 : (List Int) × Bool) (u2 : (List Int) × Bool) (u0 : List (List UInt8)) : List (Nat × Root) := ((0, .box K0w) :: (K0n u6 u4 u2 u0))
@[simp] abbrev K0p (u17 : (List Int) × Bool) (x7 : List (List Int)) (u4 : (List Int) × Bool) (u2 : (List Int) × Bool) (u7 : List UInt8) (u8 : Int) (u9 : Int) (u0 : List (List UInt8)) : List (Nat × Root) := ((1225, .row true 1 ([u17.1].map (eL 1 vI))) :: (521, .dead) :: (521, .row true 1 (u17.1.map vI)) :: (K0l x7 u4 u2 u7 u8 u9 u0))
@[simp] abbrev K0q (x7 : List (List Int)) (u4 : (List Int) × Bool) (u2 : (List Int) × Bool) (u7 : List UInt8) (u8 : Int) (u9 : Int) (u0 : List (List UInt8)) : List (Nat × Root) := ((395, .row true 1 (([] : List (List Int)).map (eL 1 vI))) :: (394, .row true 1 (([] : List Int).map vI)) :: (393, .row true 1 (([] : List Int).map vI)) :: (K0l x7 u4 u2 u7 u8 u9 u0))
@[simp] abbrev K0r (u6 : (List Int) × Bool) (u4 : (List Int) × Bool) (u2 : (List Int) × Bool) (u0 : List (List UInt8)) : List (Nat × Root) := ((3648, .box [AS [], .sl 3649 0 0, .sl 3650 0 0, AI 0, AI 0, .sl 3651 0 0]) :: (3651, .row true 1 (([] : List Int).map vI)) :: (3650, .row true 1 (([] : List Int).map vI)) :: (3649, .row true 1 (([] : List Int).map vI)) :: (K0k u6 u4 u2 u0))
@[simp] abbrev K0s (u17 : (List Int) × Bool) (x7 : List (List Int)) (u4 : (List Int) × Bool) (u2 : (List Int) × Bool) (u7 : List UInt8) (u8 : Int) (u9 : Int) (u0 : List (List UInt8)) : List (Nat × Root) := ((1035, .row true 1 (([] : List (List Int)).map (eL 1 vI))) :: (1034, .row true 1 (([] : List Int).map vI)) :: (1033, .row true 1 (([] : List Int).map vI)) :: (521, .row true 1 (u17.1.map vI)) :: (K0l x7 u4 u2 u7 u8 u9 u0))
@[simp] abbrev K0t (x7 : List (List Int)) (u17 : (List Int) × Bool) (u4 : (List Int) × Bool) (u2 : (List Int) × Bool) (u7 : List UInt8) (u8 : Int) (u9 : Int) (u0 : List (List UInt8)) : List (Nat × Root) := ((1289, .row true 1 ((x7 ++ [u17.1]).map (eL 1 vI))) :: (8, .dead) :: (1225, .dead) :: (K0p u17 x7 u4 u2 u7 u8 u9 u0))
@[simp] def res_spec_l05Read (r : TRaga × Bool) : RV := .tup [.agg [.val (.str r.1.1), .row true 1 (r.1.2.1.map vI), .row true 1 (r.1.2.2.1.map vI), .val (.int .i64 r.1.2.2.2.1), .val (.int .i64 r.1.2.2.2.2.1), .row true 1 (r.1.2.2.2.2.2.map (eL 1 vI))], .one (.val (.bool r.2))]
theorem con_spec_l05Read {v0 : List UInt8} {r : TRaga × Bool} (hF : F_spec_l05Read v0 = some r) : Con Tryz.prog 39 [.str v0] (res_spec_l05Read r) := by
 unfold F_spec_l05Read at hF
 refine con_of c39_.1 fun N => ?_
 refine ws 0 128 (qf (.ptr 0 0 0) K0e (by simp) (qb (r_nil (ws 128 320 (qr (AS v0) (bk hF fun u0 e0 hF => qc (.sl 192 0 u0.length) (K0f u0) false (con_spec_l01Split e0) c61_.2 (by first | rfl | simp) (by simp [res_spec_l01Split]) (qr (.sl 192 0 u0.length) (r_nil (w_seq (ws 320 512 (qr (.sl 192 0 u0.length) (qr (AI (u0.length : Int)) (qr (AB (decide ((u0.length : Int) < (4 : Int)))) (r_nil ?_))))))))))))))
 refine cF hF (fun hF => ?_) fun hF => ?_
 ·
  exact ws 512 704 (qf (.agg [AS [], .sl 512 0 0, .sl 513 0 0, AI 0, AI 0, .sl 514 0 0]) (K0i u0) (by simp) (qf0 (.undef) ((0, .box [AS [], .sl 512 0 0, .sl 513 0 0, AI 0, AI 0, .sl 514 0 0]) :: (K0i u0)) (by simp) (qb (r_nil (w_ret (thenQ_r (eQ hF)))))))
 refine w_skip (thenQ_n (ws 512 1088 (qr (.sl 192 0 u0.length) (bk hF fun u1 e1 hF => qp (.ptr 192 ((1 : Int).toNat) 0) (ev_iad_r rfl (by simp) rfl rfl e1) (qp (AS u1) (ev_ld_r rfl rfl (ix_some e1).2 rfl rfl) (bk hF fun u2 e2 hF => qc (.tup [.sl 704 0 u2.1.length, AB u2.2]) (K0g u2 u0) false (con_spec_l03Read e2) c62_.2 (by first | rfl | simp) (by simp [res_spec_l03Read]) (qr (.tup [.sl 704 0 u2.1.length, AB u2.2]) (qr (.sl 704 0 u2.1.length) (qr (AB u2.2) (qr (.sl 704 0 u2.1.length) (qr (AB u2.2) (r_nil (ws 1088 1664 (qr (.sl 192 0 u0.length) (bk hF fun u3 e3 hF => ?_)))))))))))))))
 refine qp (.ptr 192 ((2 : Int).toNat) 0) (ev_iad_r rfl (by simp) rfl rfl e3) (qp (AS u3) (ev_ld_r rfl rfl (ix_some e3).2 rfl rfl) (bk hF fun u4 e4 hF => qc (.tup [.sl 1280 0 u4.1.length, AB u4.2]) (K0h u4 u2 u0) false (con_spec_l03Read e4) c62_.2 (by first | rfl | simp) (by simp [res_spec_l03Read]) (qr (.tup [.sl 1280 0 u4.1.length, AB u4.2]) (qr (.sl 1280 0 u4.1.length) (qr (AB u4.2) (qr (.sl 1280 0 u4.1.length) (qr (AB u4.2) (r_nil (ws 1664 2240 (qr (.sl 192 0 u0.length) (bk hF fun u5 e5 hF => qp (.ptr 192 ((3 : Int).toNat) 0) (ev_iad_r rfl (by simp) rfl rfl e5) (qp (AS u5) (ev_ld_r rfl rfl (ix_some e5).2 rfl rfl) (bk hF fun u6 e6 hF => qc (.tup [.sl 1856 0 u6.1.length, AB u6.2]) (K0j u6 u4 u2 u0) false (con_spec_l05Two e6) c63_.2 (by first | rfl | simp) (by simp [res_spec_l05Two]) ?_)))))))))))))
 refine qr (.tup [.sl 1856 0 u6.1.length, AB u6.2]) (qr (.sl 1856 0 u6.1.length) (qr (AB u6.2) (qr (.sl 1856 0 u6.1.length) (qr (AB u6.2) (r_nil (w_seq (ws 2240 2880 (qr (AB u2.2) (qr (AB (!u2.2)) (qr (AB (!u2.2)) ?_))))))))))
 refine q_case 44 hF rfl (fun hF => ?_) (fun hF => ?_)
 ·
  exact qn2 (qt (qt (qn2 (qt (r_nil (w_true rfl (ws 2880 3072 (qf (.agg K0w) (K0n u6 u4 u2 u0) (by simp) (qf0 (.undef) (K0o u6 u4 u2 u0) (by simp) (qb (r_nil (w_ret (thenQ_r (eQ hF))))))))))))))
 refine qg (AB u4.2) rfl rfl (qg (AB (!u4.2)) rfl rfl (qr (AB (!u4.2)) (qr (AB (!u4.2)) ?_)))
 refine q_case 48 hF rfl (fun hF => ?_) (fun hF => ?_)
 ·
  exact qn2 (qt (r_nil (w_true rfl (ws 2880 3072 (qf (.agg K0w) (K0n u6 u4 u2 u0) (by simp) (qf0 (.undef) (K0o u6 u4 u2 u0) (by simp) (qb (r_nil (w_ret (thenQ_r (eQ hF)))))))))))
 refine qg (AB u6.2) rfl rfl (qg (AB (!u6.2)) rfl rfl (qr (AB (!u6.2)) (r_nil ?_)))
 refine cF hF (fun hF => ?_) fun hF => ?_
 ·
  exact ws 2880 3072 (qf (.agg K0w) (K0n u6 u4 u2 u0) (by simp) (qf0 (.undef) (K0o u6 u4 u2 u0) (by simp) (qb (r_nil (w_ret (thenQ_r (eQ hF)))))))
 refine w_skip (thenQ_n (ws 2880 3776 (qr (.sl 192 0 u0.length) (bk hF fun u7 e7 hF => qp (.ptr 192 ((0 : Int).toNat) 0) (ev_iad_r rfl (by simp) rfl rfl e7) (qp (AS u7) (ev_ld_r rfl rfl (ix_some e7).2 rfl rfl) (qr (.sl 704 0 u2.1.length) (qr (.sl 1280 0 u4.1.length) (qr (.sl 1856 0 u6.1.length) (bk hF fun u8 e8 hF => qp (.ptr 1856 ((0 : Int).toNat) 0) (ev_iad_r rfl (by simp) rfl rfl e8) (qp (AI u8) (ev_ld_r rfl rfl (ix_some e8).2 rfl rfl) (qr (.sl 1856 0 u6.1.length) (bk hF fun u9 e9 hF => qp (.ptr 1856 ((1 : Int).toNat) 0) (ev_iad_r rfl (by simp) rfl rfl e9) (qp (AI u9) (ev_ld_r rfl rfl (ix_some e9).2 rfl rfl) (qf (.agg [AS u7, .sl 704 0 u2.1.length, .sl 1280 0 u4.1.length, AI u8, AI u9, .sl 3584 0 0]) (K0k u6 u4 u2 u0) (by simp) (qf (.ptr 3648 0 0) (K0r u6 u4 u2 u0) (by simp) (qf0 (.undef) ((3648, .box [AS u7, .sl 704 0 u2.1.length, .sl 1280 0 u4.1.length, AI u8, AI u9, .sl 3584 0 0]) :: (K0r u6 u4 u2 u0)) (by simp) ?_))))))))))))))))
 refine r_nil (w_seq (ws 3776 3840 (qr (AI 4) (r_nil (w_block ?_)))))
 refine wr (l' := [(2, .ptr 0 0 0), (4, .sl 1 0 u0.length), (11, .ptr 2 0 0), (12, AI 4)]) (L := [(8, .row true 1 (([] : List (List Int)).map (eL 1 vI))), (7, .row true 1 (u4.1.map vI)), (6, .row true 1 (u2.1.map vI)), K0x, K0y, K0u, (2, .box [AS u7, .sl 6 0 u2.1.length, .sl 7 0 u4.1.length, AI u8, AI u9, .sl 8 0 0]), (1, .row true 1 (u0.map V.str)), K0v]) [2, 4, 11, 12] [(3584, 8), (1280, 7), (704, 6), (3, 5), (2, 4), (1, 3), (3648, 2), (192, 1), (0, 0)] 9 ?_
 refine w_loopF (F_spec_l05Read_l0 u0 u2 u4 u7 u8 u9) (fun s : Int × (List (List Int)) => mkS [(2, .ptr 0 0 0), (4, .sl 1 0 u0.length), (11, .ptr 2 0 0), (12, AI s.1)] (fo [(8, .row true 1 (s.2.map (eL 1 vI))), (7, .row true 1 (u4.1.map vI)), (6, .row true 1 (u2.1.map vI)), K0x, K0y, K0u, (2, .box [AS u7, .sl 6 0 u2.1.length, .sl 7 0 u4.1.length, AI u8, AI u9, .sl 8 0 s.2.length]), (1, .row true 1 (u0.map V.str)), K0v]) 9) hF ?_
 rintro k1 ⟨x6, x7⟩ hF
 rw [F_spec_l05Read_l0] at hF
 try dsimp only
 refine w_seq (ws 9 265 (qr (AI x6) (qr (.sl 1 0 u0.length) (qr (AI (u0.length : Int)) (qr (AB (decide (x6 < (u0.length : Int)))) (r_nil ?_))))))
 refine cF hF (fun hF => ?_) fun hF => ?_
 ·
  refine w_skip (thenQ_n (w_seq (w_block (ws 265 905 (qr (.sl 1 0 u0.length) (qr (AI x6) (bk hF fun u16 e16 hF => qp (.ptr 1 x6.toNat 0) (ev_iad_r rfl (by simp) rfl rfl e16) (qp (AS u16) (ev_ld_r rfl rfl (ix_some e16).2 rfl rfl) (bk hF fun u17 e17 hF => qc (.tup [.sl 521 0 u17.1.length, AB u17.2]) ((521, .row true 1 (u17.1.map vI)) :: (K0l x7 u4 u2 u7 u8 u9 u0)) false (con_spec_l05Two e17) c63_.2 (by first | rfl | simp) (by simp [res_spec_l05Two]) (qr (.tup [.sl 521 0 u17.1.length, AB u17.2]) (qr (.sl 521 0 u17.1.length) (qr (AB u17.2) (qr (.sl 521 0 u17.1.length) (qr (AB u17.2) (r_nil ?_)))))))))))))))
  refine w_seq (ws 905 1033 (qr (AB u17.2) (qr (AB (!u17.2)) (r_nil ?_))))
  refine cF hF (fun hF => ?_) fun hF => ?_
  ·
   exact ws 1033 1225 (qf (.agg [AS [], .sl 1033 0 0, .sl 1034 0 0, AI 0, AI 0, .sl 1035 0 0]) (K0s u17 x7 u4 u2 u7 u8 u9 u0) (by simp) (qf0 (.undef) ((0, .box [AS [], .sl 1033 0 0, .sl 1034 0 0, AI 0, AI 0, .sl 1035 0 0]) :: (K0s u17 x7 u4 u2 u7 u8 u9 u0)) (by simp) (qb (r_nil (w_ret (thenQ_r (blockQ_r (thenQ_r (thenQ_r (blockQ_r (thenQ_r (eQ hF))))))))))))
  refine w_skip (thenQ_n (w_reg 1033 1481 rfl rfl (qr (.ptr 2 0 5) (qr (.sl 8 0 x7.length) (qr (.sl 521 0 u17.1.length) (qf (.sl 1225 0 ([u17.1].length)) (K0p u17 x7 u4 u2 u7 u8 u9 u0) (by simp [List.take_of_length_le]) (nk hF fun g18 hF => qf (.sl 1289 0 ((x7 ++ [u17.1]).length)) (K0t x7 u17 u4 u2 u7 u8 u9 u0) (effT_app_l rfl (by simp) rfl rfl (by simp) rfl (by decide) g18 rfl) (qr (.ptr 2 0 5) (qf0 (.undef) ((2, .box [AS u7, .sl 6 0 u2.1.length, .sl 7 0 u4.1.length, AI u8, AI u9, .sl 1289 0 ((x7 ++ [u17.1]).length)]) :: (K0t x7 u17 u4 u2 u7 u8 u9 u0)) (by simp) (r_nil (blockQ_n (thenQ_n (w_reg 1481 1673 rfl rfl ?_)))))))))))))
  refine qr (AI x6) (qr (AI (w64 (x6 + 1))) (qr (AI (w64 (x6 + 1))) (r_nil (thenQ_n ?_))))
  refine ar (l' := [(2, .ptr 0 0 0), (4, .sl 1 0 u0.length), (11, .ptr 2 0 0), (12, AI (w64 (x6 + 1)))]) (L := [(8, .row true 1 ((x7 ++ [u17.1]).map (eL 1 vI))), (7, .row true 1 (u4.1.map vI)), (6, .row true 1 (u2.1.map vI)), K0x, K0y, K0u, (2, .box [AS u7, .sl 6 0 u2.1.length, .sl 7 0 u4.1.length, AI u8, AI u9, .sl 8 0 (x7 ++ [u17.1]).length]), (1, .row true 1 (u0.map V.str)), K0v]) [2, 4, 11, 12] [(1289, 8), (7, 7), (6, 6), (5, 5), (4, 4), (3, 3), (2, 2), (1, 1), (0, 0)] 9 ⟨_, by rfl, hF⟩
 refine w_exit (thenQ_e (thenQ_e (blockQ_e (thenQ_n (w_seq (ws 265 393 (bk hF fun u19 e19 hF => qc (AB u19) (K0l x7 u4 u2 u7 u8 u9 u0) true (con_spec_l05Ok e19) c64_.2 (by simp [List.take_of_length_le]) rfl (qr (AB (!u19)) (r_nil ?_)))))))))
 refine cF hF (fun hF => ?_) fun hF => ?_
 ·
  exact ws 393 585 (qf (.agg [AS [], .sl 393 0 0, .sl 394 0 0, AI 0, AI 0, .sl 395 0 0]) (K0q x7 u4 u2 u7 u8 u9 u0) (by simp) (qf0 (.undef) ((0, .box [AS [], .sl 393 0 0, .sl 394 0 0, AI 0, AI 0, .sl 395 0 0]) :: (K0q x7 u4 u2 u7 u8 u9 u0)) (by simp) (qb (r_nil (w_ret (thenQ_r (eQ hF)))))))
 exact w_skip (thenQ_n (ws 393 585 (qr (.agg [AS u7, .sl 6 0 u2.1.length, .sl 7 0 u4.1.length, AI u8, AI u9, .sl 8 0 x7.length]) (qf0 (.undef) ((0, .box [AS u7, .sl 6 0 u2.1.length, .sl 7 0 u4.1.length, AI u8, AI u9, .sl 8 0 x7.length]) :: (K0l x7 u4 u2 u7 u8 u9 u0)) (by simp) (qt (rR hF))))))

def c40 : MC := (sr [rg 0 (.f (.alloc [((.str []), (0, false)), ((.sl 0 []), (2, false))]))] (sr [rg 5 (.f (.bsl 1 [(ci 1), (ci 16), (ci 9), (ci 6), (ci 5), (ci 4), (ci 45), (ci 3), (ci 8), (ci 5), (ci 9), (ci 15)])), mvt 1 5] (sr [rg 6 (.f (.bsl 1 [(ci 1), (ci 15), (ci 8), (ci 5), (ci 4), (ci 3), (ci 32), (ci 2), (ci 5), (ci 3), (ci 5), (ci 8)])), mvt 2 6] (sr [rg 7 (.f (.bld [((.str []), (0, true)), ((.sl 0 []), (2, false))] [(0, (1, (.c (.str [106, 117, 115, 116]))))])), rg 3 (.f (.alloc [((.str []), (0, false)), ((.sl 0 []), (2, false))])), ⟨none, none, (.f (.st t3 t7 2))⟩] (.seq (sr [pT 4 (.mv (ci 0))] (.block 0 (.loop (.seq (sr [mvt 8 4, mvt 9 1, zT 10 9, bT 11 .lss t8 t10] (cx t11 0)) (.seq (.block 1 (.reg [pF 14 (.fad t3 1), lF 15 14, mP 16 t1, mP 17 t4, iF 18 16 17 1, lF 19 18, mP 20 t2, mP 21 t4, iF 22 20 21 1, lF 23 22, rg 24 (.f (.bld [((.int .i64 0), (0, true)), ((.int .i64 0), (0, true))] [(0, (1, t19)), (1, (1, t23))])), rg 25 (.f (.bslp 2 [t24])), rg 26 (.f (.app t15 t25 2 16 true)), pF 27 (.fad t3 1), ⟨none, none, (.f (.st t27 t26 1))⟩])) (.reg [mvt 12 4, bT 13 .add t12 (ci 1), mvt 4 13])))))) (sr [pT 28 (.ld t3 2 true), ⟨none, none, (.f (.st t0 t28 2))⟩] .ret))))))
theorem c40_ : IsF Tryz.prog 40 c40 [(.cell (.ld (.t 0) 2 true))] := ⟨by kernel_rfl, by kernel_rfl⟩

def F_spec_l04Just_l0 (k0 : Int × (List TNote) → Option (TTuning)) : Int × (List TNote) → Option (TTuning)
 | (x2, x3) => (bif (decide (x2 < ([(1 : Int), (16 : Int), (9 : Int), (6 : Int), (5 : Int), (4 : Int), (45 : Int), (3 : Int), (8 : Int), (5 : Int), (9 : Int), (15 : Int)].length : Int))) then ((ix [(1 : Int), (16 : Int), (9 : Int), (6 : Int), (5 : Int), (4 : Int), (45 : Int), (3 : Int), (8 : Int), (5 : Int), (9 : Int), (15 : Int)] x2).bind fun u0 => ((ix [(1 : Int), (15 : Int), (8 : Int), (5 : Int), (4 : Int), (3 : Int), (32 : Int), (2 : Int), (5 : Int), (3 : Int), (5 : Int), (8 : Int)] x2).bind fun u1 => (need (room (x3.length + [(u0, u1)].length) 16) (k0 (w64 (x2 + 1), x3 ++ [(u0, u1)])))))
 else some ([106, 117, 115, 116], x3))
def F_spec_l04Just : Option (TTuning) :=
 loop (F_spec_l04Just_l0) (0, [])
@[simp] abbrev K0z : List (Nat × Root) := [(0, .box [AS [], .sl 1 0 0]), (1, .row true 2 (([] : List Int).map vI))]
@[simp] abbrev K10 : List (Nat × Root) := ((64, .row true 1 ([(1 : Int), (16 : Int), (9 : Int), (6 : Int), (5 : Int), (4 : Int), (45 : Int), (3 : Int), (8 : Int), (5 : Int), (9 : Int), (15 : Int)].map vI)) :: K0z)
@[simp] abbrev K11 : List (Nat × Root) := ((192, .row true 1 ([(1 : Int), (15 : Int), (8 : Int), (5 : Int), (4 : Int), (3 : Int), (32 : Int), (2 : Int), (5 : Int), (3 : Int), (5 : Int), (8 : Int)].map vI)) :: K10)
@[simp] abbrev K12 : List (Nat × Root) := ((320, .row true 2 (([] : List TNote).map eNote)) :: K11)
@[simp] abbrev K1e : Nat × Root := (4, .row true 2 (([] : List Int).map vI))
@[simp] abbrev K18 : Nat × Root := (2, .row true 1 ([(1 : Int), (15 : Int), (8 : Int), (5 : Int), (4 : Int), (3 : Int), (32 : Int), (2 : Int), (5 : Int), (3 : Int), (5 : Int), (8 : Int)].map vI))
@[simp] abbrev K17 : Nat × Root := (1, .row true 1 ([(1 : Int), (16 : Int), (9 : Int), (6 : Int), (5 : Int), (4 : Int), (45 : Int), (3 : Int), (8 : Int), (5 : Int), (9 : Int), (15 : Int)].map vI))
@[simp] abbrev K1f : Nat × Root := (0, .box [AS [], .sl 4 0 0])
@[simp] abbrev K13 (x3 : List TNote) : List (Nat × Root) := [(5, .row true 2 (x3.map eNote)), K1e, (3, .box [AS [106, 117, 115, 116], .sl 5 0 x3.length]), K18, K17, K1f]
@[simp] abbrev K14 : List (Nat × Root) := ((384, .box [AS [], .sl 385 0 0]) :: (385, .row true 2 (([] : List Int).map vI)) :: K12)
@[simp] abbrev K15 (u0 : Int) (u1 : Int) (x3 : List TNote) : List (Nat × Root) := ((966, .row true 2 ([(u0, u1)].map eNote)) :: (K13 x3))
@[simp] abbrev K16 (x3 : List TNote) (u0 : Int) (u1 : Int) : List (Nat × Root) := ((1030, .row true 2 ((x3 ++ [(u0, u1)]).map eNote)) :: (5, .dead) :: (966, .dead) :: (K15 u0 u1 x3))
@[simp] abbrev K19 : Nat × AV := (1, .sl 1 0 ([(1 : Int), (16 : Int), (9 : Int), (6 : Int), (5 : Int), (4 : Int), (45 : Int), (3 : Int), (8 : Int), (5 : Int), (9 : Int), (15 : Int)].length))
@[simp] abbrev K1a : Nat × AV := (2, .sl 2 0 ([(1 : Int), (15 : Int), (8 : Int), (5 : Int), (4 : Int), (3 : Int), (32 : Int), (2 : Int), (5 : Int), (3 : Int), (5 : Int), (8 : Int)].length))
@[simp] abbrev K1b : AV := .sl 64 0 ([(1 : Int), (16 : Int), (9 : Int), (6 : Int), (5 : Int), (4 : Int), (45 : Int), (3 : Int), (8 : Int), (5 : Int), (9 : Int), (15 : Int)].length)
@[simp] abbrev K1c : AV := .sl 192 0 ([(1 : Int), (15 : Int), (8 : Int), (5 : Int), (4 : Int), (3 : Int), (32 : Int), (2 : Int), (5 : Int), (3 : Int), (5 : Int), (8 : Int)].length)
@[simp] abbrev K1d : AV := .sl 1 0 ([(1 : Int), (16 : Int), (9 : Int), (6 : Int), (5 : Int), (4 : Int), (45 : Int), (3 : Int), (8 : Int), (5 : Int), (9 : Int), (15 : Int)].length)
@[simp] def res_spec_l04Just (r : TTuning) : RV := .one (.agg [.val (.str r.1), .row true 2 (r.2.map eNote)])
theorem con_spec_l04Just {r : TTuning} (hF : F_spec_l04Just = some r) : Con Tryz.prog 40 [] (res_spec_l04Just r) := by
 unfold F_spec_l04Just at hF
 refine con_of c40_.1 fun N => ?_
 refine ws 0 64 (qf (.ptr 0 0 0) K0z (by simp) (r_nil (ws 64 192 (qf K1b K10 (by simp [List.take_of_length_le]) (qr K1b (r_nil (ws 192 320 (qf K1c K11 (by simp [List.take_of_length_le]) (qr K1c (r_nil (ws 320 512 (qf (.agg [AS [106, 117, 115, 116], .sl 320 0 0]) K12 (by simp) (qf (.ptr 384 0 0) K14 (by simp) ?_)))))))))))))
 refine qf0 (.undef) ((384, .box [AS [106, 117, 115, 116], .sl 320 0 0]) :: K14) (by simp) (r_nil (w_seq (ws 512 576 (qr (AI 0) (r_nil (w_block ?_))))))
 refine wr (l' := [(0, .ptr 0 0 0), K19, K1a, (3, .ptr 3 0 0), (4, AI 0)]) (L := [(5, .row true 2 (([] : List TNote).map eNote)), K1e, (3, .box [AS [106, 117, 115, 116], .sl 5 0 0]), K18, K17, K1f]) [0, 1, 2, 3, 4] [(320, 5), (1, 4), (384, 3), (192, 2), (64, 1), (0, 0)] 6 ?_
 refine w_loopF (F_spec_l04Just_l0) (fun s : Int × (List TNote) => mkS [(0, .ptr 0 0 0), K19, K1a, (3, .ptr 3 0 0), (4, AI s.1)] (fo [(5, .row true 2 (s.2.map eNote)), K1e, (3, .box [AS [106, 117, 115, 116], .sl 5 0 s.2.length]), K18, K17, K1f]) 6) hF ?_
 rintro k0 ⟨x2, x3⟩ hF
 rw [F_spec_l04Just_l0] at hF
 try dsimp only
 refine w_seq (ws 6 262 (qr (AI x2) (qr K1d (qr (AI ([(1 : Int), (16 : Int), (9 : Int), (6 : Int), (5 : Int), (4 : Int), (45 : Int), (3 : Int), (8 : Int), (5 : Int), (9 : Int), (15 : Int)].length : Int)) (qr (AB (decide (x2 < ([(1 : Int), (16 : Int), (9 : Int), (6 : Int), (5 : Int), (4 : Int), (45 : Int), (3 : Int), (8 : Int), (5 : Int), (9 : Int), (15 : Int)].length : Int)))) (r_nil ?_))))))
 refine cF hF (fun hF => ?_) fun hF => ?_
 ·
  refine w_skip (thenQ_n (w_seq (w_block (w_reg 262 1222 rfl rfl (qr (.ptr 3 0 1) (qr (.sl 5 0 x3.length) (qr K1d (qr (AI x2) (bk hF fun u0 e0 hF => qp (.ptr 1 x2.toNat 0) (ev_iad_r rfl (by simp) rfl rfl e0) (qp (AI u0) (ev_ld_r rfl rfl (ix_some e0).2 rfl rfl) (qr (.sl 2 0 ([(1 : Int), (15 : Int), (8 : Int), (5 : Int), (4 : Int), (3 : Int), (32 : Int), (2 : Int), (5 : Int), (3 : Int), (5 : Int), (8 : Int)].length)) (qr (AI x2) (bk hF fun u1 e1 hF => qp (.ptr 2 x2.toNat 0) (ev_iad_r rfl (by simp) rfl rfl e1) (qp (AI u1) (ev_ld_r rfl rfl (ix_some e1).2 rfl rfl) (qf (.agg [AI u0, AI u1]) (K13 x3) (by simp) ?_)))))))))))))))
  refine qf (.sl 966 0 ([(u0, u1)].length)) (K15 u0 u1 x3) (by simp [List.take_of_length_le]) (nk hF fun g2 hF => qf (.sl 1030 0 ((x3 ++ [(u0, u1)]).length)) (K16 x3 u0 u1) (effT_app_l rfl (by simp) rfl rfl (by simp) rfl (by decide) g2 rfl) (qr (.ptr 3 0 1) (qf0 (.undef) ((3, .box [AS [106, 117, 115, 116], .sl 1030 0 ((x3 ++ [(u0, u1)]).length)]) :: (K16 x3 u0 u1)) (by simp) (r_nil (blockQ_n (thenQ_n (w_reg 1222 1414 rfl rfl (qr (AI x2) (qr (AI (w64 (x2 + 1))) (qr (AI (w64 (x2 + 1))) (r_nil (thenQ_n ?_))))))))))))
  refine ar (l' := [(0, .ptr 0 0 0), K19, K1a, (3, .ptr 3 0 0), (4, AI (w64 (x2 + 1)))]) (L := [(5, .row true 2 ((x3 ++ [(u0, u1)]).map eNote)), K1e, (3, .box [AS [106, 117, 115, 116], .sl 5 0 (x3 ++ [(u0, u1)]).length]), K18, K17, K1f]) [0, 1, 2, 3, 4] [(1030, 5), (4, 4), (3, 3), (2, 2), (1, 1), (0, 0)] 6 ⟨_, by rfl, hF⟩
 exact w_exit (thenQ_e (thenQ_e (blockQ_e (thenQ_n (ws 262 390 (qr (.agg [AS [106, 117, 115, 116], .sl 5 0 x3.length]) (qf0 (.undef) ((0, .box [AS [106, 117, 115, 116], .sl 5 0 x3.length]) :: (K13 x3)) (by simp) (rR hF))))))))

def c9 : MC := (sr [rg 0 (.f (.alloc [((.str []), (0, false)), ((.sl 0 []), (1, false)), ((.sl 0 []), (1, false)), ((.int .i64 0), (0, false)), ((.int .i64 0), (0, false)), ((.sl 0 []), (1, false)), ((.sl 0 []), (2, false)), ((.str []), (0, false)), ((.sl 0 []), (2, false)), ((.sl 0 []), (1, false)), ((.sl 0 []), (3, false)), ((.sl 0 []), (2, false)), ((.sl 0 []), (6, false)), ((.sl 0 []), (5, false)), ((.sl 0 []), (3, false))]))] (sr [rg 4 (.call true 39 [(.c (.str [98, 104, 117, 112, 97, 108, 105, 32, 83, 82, 71, 80, 68, 32, 83, 82, 71, 80, 68, 32, 71, 68]))]), mvt 3 4, pT 5 (.ext t3 0), pT 6 (.ext t3 1), rg 1 (.f (.alloc [((.str []), (0, false)), ((.sl 0 []), (1, false)), ((.sl 0 []), (1, false)), ((.int .i64 0), (0, false)), ((.int .i64 0), (0, false)), ((.sl 0 []), (1, false))])), ⟨none, none, (.f (.st t1 t5 6))⟩, mvt 2 6] (sr [pF 7 (.ld t1 6 true), dF 8 40 [], rg 9 (.f (.bld [((.int .i64 0), (0, false)), ((.int .i64 0), (0, true))] [(1, (1, (ci 60)))])), rg 10 (.f (.bslp 2 [t9])), rg 11 (.f (.bld [((.str []), (0, true)), ((.sl 0 []), (1, true)), ((.sl 0 []), (1, true)), ((.int .i64 0), (0, true)), ((.int .i64 0), (0, true)), ((.sl 0 []), (1, true)), ((.sl 0 []), (2, false)), ((.str []), (0, true)), ((.sl 0 []), (2, true)), ((.sl 0 []), (1, false)), ((.sl 0 []), (3, false)), ((.sl 0 []), (2, true)), ((.sl 0 []), (6, false)), ((.sl 0 []), (5, false)), ((.sl 0 []), (3, false))] [(0, (6, t7)), (7, (2, t8)), (11, (1, t10))])), ⟨none, none, (.f (.st t0 t11 15))⟩] .ret)))
theorem c9_ : IsF Tryz.prog 9 c9 [(.cell (.ld (.t 0) 15 true))] := ⟨by kernel_rfl, by kernel_rfl⟩

def F_spec_l32New : Option (TDesk) :=
 ((F_spec_l05Read [98, 104, 117, 112, 97, 108, 105, 32, 83, 82, 71, 80, 68, 32, 83, 82, 71, 80, 68, 32, 71, 68]).bind fun u0 => ((F_spec_l04Just).bind fun u1 => some (u0.1.1, u0.1.2.1, u0.1.2.2.1, u0.1.2.2.2.1, u0.1.2.2.2.2.1, u0.1.2.2.2.2.2, [], u1.1, u1.2, [], [], ([(0, 60)] : List TNote), [], [], [])))
@[simp] abbrev K1g : List (Nat × Root) := [(0, .box [AS [], .sl 1 0 0, .sl 2 0 0, AI 0, AI 0, .sl 3 0 0, .sl 4 0 0, AS [], .sl 5 0 0, .sl 6 0 0, .sl 7 0 0, .sl 8 0 0, .sl 9 0 0, .sl 10 0 0, .sl 11 0 0]), (11, .row true 3 (([] : List Int).map vI)), (10, .row true 5 (([] : List Int).map vI)), (9, .row true 6 (([] : List Int).map vI)), (8, .row true 2 (([] : List Int).map vI)), (7, .row true 3 (([] : List Int).map vI)), (6, .row true 1 (([] : List Int).map vI)), (5, .row true 2 (([] : List Int).map vI)), (4, .row true 2 (([] : List Int).map vI)), (3, .row true 1 (([] : List Int).map vI)), (2, .row true 1 (([] : List Int).map vI)), (1, .row true 1 (([] : List Int).map vI))]
@[simp] abbrev K1h (u0 : TRaga × Bool) : List (Nat × Root) := ((69, .row true 1 (u0.1.2.2.2.2.2.map (eL 1 vI))) :: (66, .row true 1 (u0.1.2.2.1.map vI)) :: (65, .row true 1 (u0.1.2.1.map vI)) :: K1g)
@[simp] abbrev K1i (u0 : TRaga × Bool) : List (Nat × Root) := ((320, .box [AS [], .sl 321 0 0, .sl 322 0 0, AI 0, AI 0, .sl 323 0 0]) :: (323, .row true 1 (([] : List Int).map vI)) :: (322, .row true 1 (([] : List Int).map vI)) :: (321, .row true 1 (([] : List Int).map vI)) :: (K1h u0))
@[simp] abbrev K1n (u0 : TRaga × Bool) : List AV := [AS u0.1.1, .sl 65 0 u0.1.2.1.length, .sl 66 0 u0.1.2.2.1.length, AI u0.1.2.2.2.1, AI u0.1.2.2.2.2.1, .sl 69 0 u0.1.2.2.2.2.2.length]
@[simp] abbrev K1j (u0 : TRaga × Bool) : List (Nat × Root) := ((320, .box (K1n u0)) :: (K1i u0))
@[simp] abbrev K1k (u1 : TTuning) (u0 : TRaga × Bool) : List (Nat × Root) := ((577, .row true 2 (u1.2.map eNote)) :: (K1j u0))
@[simp] abbrev K1l (u1 : TTuning) (u0 : TRaga × Bool) : List (Nat × Root) := ((704, .row true 2 (([(0, 60)] : List TNote).map eNote)) :: (K1k u1 u0))
@[simp] abbrev K1m (u1 : TTuning) (u0 : TRaga × Bool) : List (Nat × Root) := ((773, .row true 3 (([] : List TPerson).map ePerson)) :: (772, .row true 5 (([] : List TLesson).map eLesson)) :: (771, .row true 6 (([] : List TItem).map eItem)) :: (770, .row true 3 (([] : List TSyllable).map eSyllable)) :: (769, .row true 1 (([] : List (List Int)).map (eL 1 vI))) :: (768, .row true 2 (([] : List TNote).map eNote)) :: (K1l u1 u0))
@[simp] abbrev K1o (u0 : TRaga × Bool) (u1 : TTuning) : List AV := [AS u0.1.1, .sl 65 0 u0.1.2.1.length, .sl 66 0 u0.1.2.2.1.length, AI u0.1.2.2.2.1, AI u0.1.2.2.2.2.1, .sl 69 0 u0.1.2.2.2.2.2.length, .sl 768 0 0, AS u1.1, .sl 577 0 u1.2.length, .sl 769 0 0, .sl 770 0 0, .sl 704 0 (([(0, 60)] : List TNote).length), .sl 771 0 0, .sl 772 0 0, .sl 773 0 0]
@[simp] def res_spec_l32New (r : TDesk) : RV := .one (.agg [.val (.str r.1), .row true 1 (r.2.1.map vI), .row true 1 (r.2.2.1.map vI), .val (.int .i64 r.2.2.2.1), .val (.int .i64 r.2.2.2.2.1), .row true 1 (r.2.2.2.2.2.1.map (eL 1 vI)), .row true 2 (r.2.2.2.2.2.2.1.map eNote), .val (.str r.2.2.2.2.2.2.2.1), .row true 2 (r.2.2.2.2.2.2.2.2.1.map eNote), .row true 1 (r.2.2.2.2.2.2.2.2.2.1.map (eL 1 vI)), .row true 3 (r.2.2.2.2.2.2.2.2.2.2.1.map eSyllable), .row true 2 (r.2.2.2.2.2.2.2.2.2.2.2.1.map eNote), .row true 6 (r.2.2.2.2.2.2.2.2.2.2.2.2.1.map eItem), .row true 5 (r.2.2.2.2.2.2.2.2.2.2.2.2.2.1.map eLesson), .row true 3 (r.2.2.2.2.2.2.2.2.2.2.2.2.2.2.map ePerson)])
theorem con_spec_l32New {r : TDesk} (hF : F_spec_l32New = some r) : Con Tryz.prog 9 [] (res_spec_l32New r) := by
 unfold F_spec_l32New at hF
 refine con_of c9_.1 fun N => ?_
 refine ws 0 64 (qf (.ptr 0 0 0) K1g (by simp) (r_nil (ws 64 512 (bk hF fun u0 e0 hF => qc (.tup [.agg (K1n u0), AB u0.2]) (K1h u0) false (con_spec_l05Read e0) c39_.2 (by first | rfl | simp) (by simp [res_spec_l05Read]) (qr (.tup [.agg (K1n u0), AB u0.2]) (qr (.agg (K1n u0)) (qr (AB u0.2) (qf (.ptr 320 0 0) (K1i u0) (by simp) (qf0 (.undef) (K1j u0) (by simp) (qr (AB u0.2) (r_nil (ws 512 896 (qr (.agg (K1n u0)) (bk hF fun u1 e1 hF => qc (.agg [AS u1.1, .sl 577 0 u1.2.length]) (K1k u1 u0) false (con_spec_l04Just e1) c40_.2 (by first | rfl | simp) (by simp [res_spec_l04Just]) (qf (.agg [AI 0, AI 60]) (K1k u1 u0) (by simp) ?_)))))))))))))))
 exact qf (.sl 704 0 (([(0, 60)] : List TNote).length)) (K1l u1 u0) (by simp [List.take_of_length_le]) (qf (.agg (K1o u0 u1)) (K1m u1 u0) (by simp) (qf0 (.undef) ((0, .box (K1o u0 u1)) :: (K1m u1 u0)) (by simp) (rR hF)))

def c4 : MC := (sr [rg 0 (.f (.alloc [((.str []), (0, false)), ((.sl 0 []), (1, false)), ((.sl 0 []), (1, false)), ((.int .i64 0), (0, false)), ((.int .i64 0), (0, false)), ((.sl 0 []), (1, false)), ((.sl 0 []), (2, false)), ((.str []), (0, false)), ((.sl 0 []), (2, false)), ((.sl 0 []), (1, false)), ((.sl 0 []), (3, false)), ((.sl 0 []), (2, false)), ((.sl 0 []), (6, false)), ((.sl 0 []), (5, false)), ((.sl 0 []), (3, false))]))] (sr [dT 1 9 [], ⟨none, none, (.f (.st t0 t1 15))⟩] .ret))
theorem c4_ : IsF Tryz.prog 4 c4 [(.cell (.ld (.t 0) 15 true))] := ⟨by kernel_rfl, by kernel_rfl⟩

def F_spec_NewDesk : Option (TDesk) :=
 ((F_spec_l32New).bind fun u0 => some u0)
@[simp] abbrev K1p : List (Nat × Root) := [(0, .box [AS [], .sl 1 0 0, .sl 2 0 0, AI 0, AI 0, .sl 3 0 0, .sl 4 0 0, AS [], .sl 5 0 0, .sl 6 0 0, .sl 7 0 0, .sl 8 0 0, .sl 9 0 0, .sl 10 0 0, .sl 11 0 0]), (11, .row true 3 (([] : List Int).map vI)), (10, .row true 5 (([] : List Int).map vI)), (9, .row true 6 (([] : List Int).map vI)), (8, .row true 2 (([] : List Int).map vI)), (7, .row true 3 (([] : List Int).map vI)), (6, .row true 1 (([] : List Int).map vI)), (5, .row true 2 (([] : List Int).map vI)), (4, .row true 2 (([] : List Int).map vI)), (3, .row true 1 (([] : List Int).map vI)), (2, .row true 1 (([] : List Int).map vI)), (1, .row true 1 (([] : List Int).map vI))]
@[simp] abbrev K1q (u0 : TDesk) : List (Nat × Root) := ((78, .row true 3 (u0.2.2.2.2.2.2.2.2.2.2.2.2.2.2.map ePerson)) :: (77, .row true 5 (u0.2.2.2.2.2.2.2.2.2.2.2.2.2.1.map eLesson)) :: (76, .row true 6 (u0.2.2.2.2.2.2.2.2.2.2.2.2.1.map eItem)) :: (75, .row true 2 (u0.2.2.2.2.2.2.2.2.2.2.2.1.map eNote)) :: (74, .row true 3 (u0.2.2.2.2.2.2.2.2.2.2.1.map eSyllable)) :: (73, .row true 1 (u0.2.2.2.2.2.2.2.2.2.1.map (eL 1 vI))) :: (72, .row true 2 (u0.2.2.2.2.2.2.2.2.1.map eNote)) :: (70, .row true 2 (u0.2.2.2.2.2.2.1.map eNote)) :: (69, .row true 1 (u0.2.2.2.2.2.1.map (eL 1 vI))) :: (66, .row true 1 (u0.2.2.1.map vI)) :: (65, .row true 1 (u0.2.1.map vI)) :: K1p)
@[simp] abbrev K1r (u0 : TDesk) : List AV := [AS u0.1, .sl 65 0 u0.2.1.length, .sl 66 0 u0.2.2.1.length, AI u0.2.2.2.1, AI u0.2.2.2.2.1, .sl 69 0 u0.2.2.2.2.2.1.length, .sl 70 0 u0.2.2.2.2.2.2.1.length, AS u0.2.2.2.2.2.2.2.1, .sl 72 0 u0.2.2.2.2.2.2.2.2.1.length, .sl 73 0 u0.2.2.2.2.2.2.2.2.2.1.length, .sl 74 0 u0.2.2.2.2.2.2.2.2.2.2.1.length, .sl 75 0 u0.2.2.2.2.2.2.2.2.2.2.2.1.length, .sl 76 0 u0.2.2.2.2.2.2.2.2.2.2.2.2.1.length, .sl 77 0 u0.2.2.2.2.2.2.2.2.2.2.2.2.2.1.length, .sl 78 0 u0.2.2.2.2.2.2.2.2.2.2.2.2.2.2.length]
@[simp] def res_spec_NewDesk (r : TDesk) : RV := .one (.agg [.val (.str r.1), .row true 1 (r.2.1.map vI), .row true 1 (r.2.2.1.map vI), .val (.int .i64 r.2.2.2.1), .val (.int .i64 r.2.2.2.2.1), .row true 1 (r.2.2.2.2.2.1.map (eL 1 vI)), .row true 2 (r.2.2.2.2.2.2.1.map eNote), .val (.str r.2.2.2.2.2.2.2.1), .row true 2 (r.2.2.2.2.2.2.2.2.1.map eNote), .row true 1 (r.2.2.2.2.2.2.2.2.2.1.map (eL 1 vI)), .row true 3 (r.2.2.2.2.2.2.2.2.2.2.1.map eSyllable), .row true 2 (r.2.2.2.2.2.2.2.2.2.2.2.1.map eNote), .row true 6 (r.2.2.2.2.2.2.2.2.2.2.2.2.1.map eItem), .row true 5 (r.2.2.2.2.2.2.2.2.2.2.2.2.2.1.map eLesson), .row true 3 (r.2.2.2.2.2.2.2.2.2.2.2.2.2.2.map ePerson)])
theorem con_spec_NewDesk {r : TDesk} (hF : F_spec_NewDesk = some r) : Con Tryz.prog 4 [] (res_spec_NewDesk r) := by
 unfold F_spec_NewDesk at hF
 refine con_of c4_.1 fun N => ?_
 exact ws 0 64 (qf (.ptr 0 0 0) K1p (by simp) (r_nil (ws 64 192 (bk hF fun u0 e0 hF => qc (.agg (K1r u0)) (K1q u0) false (con_spec_l32New e0) c9_.2 (by first | rfl | simp) (by simp [res_spec_l32New]) (qf0 (.undef) ((0, .box (K1r u0)) :: (K1q u0)) (by simp) (rR hF))))))

theorem c41_ok : okFn Tryz.prog 41 = true := by kernel_rfl




theorem c105_x : IsIdx Tryz.prog 105 := ⟨by kernel_rfl, by kernel_rfl, by kernel_rfl, by kernel_rfl⟩




def c95 : MC := (sr [pT 4 (.mv (ci 0))] (sr [mvt 5 0, mvt 6 1, dT 7 105 [t5, t6], mvt 4 7] .ret))
theorem c95_ : IsF Tryz.prog 95 c95 [(.tmp 4)] := ⟨by kernel_rfl, by kernel_rfl⟩

def F_stringslite_IndexByte (v0 : List UInt8) (v1 : Int) : Option (Int) :=
 some (byteIdx v0 (v1).toNat.toUInt8)
@[simp] def res_stringslite_IndexByte (r : Int) : RV := .one (.one (.val (.int .i64 r)))
theorem con_stringslite_IndexByte {v0 : List UInt8} {v1 : Int} {r : Int} (hF : F_stringslite_IndexByte v0 v1 = some r) : Con Tryz.prog 95 [.str v0, .int .u8 v1] (res_stringslite_IndexByte r) := by
 unfold F_stringslite_IndexByte at hF
 refine con_of c95_.1 fun N => ?_
 exact ws 0 64 (qr (AI 0) (r_nil (ws 64 320 (qr (AS v0) (qr (.val none (.int .u8 v1)) (qx (s := v0) (c := v1) c105_x (by first | rfl | simp) (qr (AI (byteIdx v0 (v1).toNat.toUInt8)) (rR hF))))))))

def c81 : MC := (sr [pT 4 (.mv (ci 0))] (sr [mvt 14 1, pT 15 (.lens t14), mvt 5 15] (.seq (.block 0 (sr [mvt 17 5, bT 18 .eql t17 (ci 0), mvt 19 18, nF 20 19 t1, nF 21 19 t0, kF 22 19 (.bin .eql t20 t21), pT 23 (.pick t19 ct t22), mvt 16 23] (.cond t16 (sr [pT 4 (.mv (ci 0))] .ret) (sr [mvt 25 5, bT 26 .eql t25 (ci 1), mvt 24 26] (.cond t24 (sr [mvt 27 0, mvt 28 1, pT 29 (.ixs t28 (ci 0)), dT 30 95 [t27, t29], mvt 4 30] .ret) (sr [mvt 32 5, mvt 33 0, pT 34 (.lens t33), bT 35 .geq t32 t34, mvt 31 35] (.cond t31 (sr [pT 4 (.mv (ci (-1)))] .ret) (.seq .bad (.cond t36 (sr [mvt 45 0, mvt 46 1, dT 47 96 [t45, t46], mvt 4 47] .ret) .skip))))))))) (sr [mvt 48 1, pT 49 (.ixs t48 (ci 0)), mvt 6 49] (sr [mvt 50 1, pT 51 (.ixs t50 (ci 1)), mvt 7 51] (sr [pT 8 (.mv (ci 0))] (sr [mvt 52 0, pT 53 (.lens t52), mvt 54 5, bT 55 .sub t53 t54, bT 56 .add t55 (ci 1), mvt 9 56] (sr [pT 10 (.mv (ci 0))] (.seq (.block 1 (.loop (.seq (sr [mvt 57 8, mvt 58 9, bT 59 .lss t57 t58] (cx t59 1)) (.block 2 (.seq (sr [mvt 60 0, mvt 61 8, pT 62 (.ixs t60 t61), mvt 63 6, bT 64 .neq t62 t63] (.cond t64 (sr [mvt 65 0, mvt 66 8, bT 67 .add t66 (ci 1), mvt 68 9, pT 69 (.slcs t65 (some t67) (some t68)), mvt 70 6, dT 71 95 [t69, t70], mvt 11 71] (.seq (sr [mvt 72 11, bT 73 .lss t72 (ci 0)] (.cond t73 (sr [pT 4 (.mv (ci (-1)))] .ret) .skip)) (.reg [mvt 74 8, mvt 75 11, bT 76 .add t75 (ci 1), bT 77 .add t74 t76, mvt 8 77]))) .skip)) (.seq (sr [mvt 78 0, mvt 79 8, bT 80 .add t79 (ci 1), pT 81 (.ixs t78 t80), mvt 82 7, bT 83 .eql t81 t82, mvt 84 83, nT 85 84 t0, nT 86 84 t8, nT 87 84 t8, nT 88 84 t5, kT 89 84 (.bin .add t87 t88), kT 90 84 (.slcs t85 (some t86) (some t89)), nT 91 84 t1, kT 92 84 (.bin .eql t90 t91), pT 93 (.pick t84 t92 cf)] (.cond t93 (sr [mvt 94 8, mvt 4 94] .ret) .skip)) (sr [mvt 95 8, bT 96 .add t95 (ci 1), mvt 8 96] (sr [mvt 97 10, bT 98 .add t97 (ci 1), mvt 10 98] (.seq .bad (.cond t107 (sr [mvt 108 0, mvt 109 8, pT 110 (.slcs t108 (some t109) none), mvt 111 1, dT 112 96 [t110, t111], mvt 12 112] (.seq (sr [mvt 113 12, bT 114 .geq t113 (ci 0)] (.cond t114 (sr [mvt 115 12, mvt 116 8, bT 117 .add t115 t116, mvt 4 117] .ret) .skip)) (sr [pT 4 (.mv (ci (-1)))] .ret))) (.seq .bad (.cond t132 (sr [mvt 133 0, mvt 134 8, pT 135 (.slcs t133 (some t134) none), mvt 136 1, dT 137 98 [t135, t136], mvt 13 137] (.seq (sr [mvt 138 13, bT 139 .lss t138 (ci 0)] (.cond t139 (sr [pT 4 (.mv (ci (-1)))] .ret) .skip)) (sr [mvt 140 8, mvt 141 13, bT 142 .add t140 t141, mvt 4 142] .ret))) .skip)))))))))))) (sr [pT 4 (.mv (ci (-1)))] .ret))))))))))
theorem c81_ : IsF Tryz.prog 81 c81 [(.tmp 4)] := ⟨by kernel_rfl, by kernel_rfl⟩

def F_stringslite_Index_j0 (v0 : List UInt8) (v1 : List UInt8) (x0 : Bool) : Option (Int) :=
 (bif x0 then some 0
 else (bif (decide ((v1.length : Int) = (1 : Int))) then ((ix v1 0).bind fun u0 => ((F_stringslite_IndexByte v0 (u0.toNat : Int)).bind fun u1 => some u1))
 else (bif (decide ((v0.length : Int) ≤ (v1.length : Int))) then some (-1)
 else none)))
def F_stringslite_Index (v0 : List UInt8) (v1 : List UInt8) : Option (Int) :=
 (bif (decide ((v1.length : Int) = (0 : Int))) then F_stringslite_Index_j0 v0 v1 true
 else F_stringslite_Index_j0 v0 v1 (decide (v1 = v0)))
@[simp] def res_stringslite_Index (r : Int) : RV := .one (.one (.val (.int .i64 r)))
theorem con_stringslite_Index {v0 : List UInt8} {v1 : List UInt8} {r : Int} (hF : F_stringslite_Index v0 v1 = some r) : Con Tryz.prog 81 [.str v0, .str v1] (res_stringslite_Index r) := by
 unfold F_stringslite_Index at hF
 refine con_of c81_.1 fun N => ?_
 refine ws 0 64 (qr (AI 0) (r_nil (ws 64 256 (qr (AS v1) (qr (AI (v1.length : Int)) (qr (AI (v1.length : Int)) (r_nil (w_seq (w_block ?_)))))))))
 refine w_meet (fun s' => ∃ (x0 : Bool), s' = mkS [(0, AS v0), (1, AS v1), (5, AI (v1.length : Int)), (16, AB x0)] (fo []) 1 ∧ F_stringslite_Index_j0 v0 v1 x0 = some r) ?_ ?_
 ·
  refine w_reg 256 768 rfl rfl (qr (AI (v1.length : Int)) (qr (AB (decide ((v1.length : Int) = (0 : Int)))) (qr (AB (decide ((v1.length : Int) = (0 : Int)))) ?_)))
  refine q_case 19 hF rfl (fun hF => ?_) (fun hF => ?_)
  ·
   refine qn3 (qt (qt (r_nil (thenQ_n ?_))))
   refine ar (l' := [(0, AS v0), (1, AS v1), (5, AI (v1.length : Int)), (16, AB true)]) (L := []) [0, 1, 5, 16] [] 1 ⟨_, rfl, hF⟩
  refine qg (AS v1) rfl rfl (qg (AS v0) rfl rfl (qg (AB (decide (v1 = v0))) rfl rfl (qr (AB (decide (v1 = v0))) (qr (AB (decide (v1 = v0))) (r_nil (thenQ_n ?_))))))
  refine ar (l' := [(0, AS v0), (1, AS v1), (5, AI (v1.length : Int)), (16, AB (decide (v1 = v0)))]) (L := []) [0, 1, 5, 16] [] 1 ⟨_, rfl, hF⟩
 rintro s' ⟨x0, rfl, hF⟩
 unfold F_stringslite_Index_j0 at hF
 refine cF hF (fun hF => ws 1 65 (qr (AI 0) (r_nil (w_ret (blockQ_r (thenQ_r (eQ hF))))))) fun hF => ws 1 193 (qr (AI (v1.length : Int)) (qr (AB (decide ((v1.length : Int) = (1 : Int)))) (qr (AB (decide ((v1.length : Int) = (1 : Int)))) (r_nil ?_))))
 refine cF hF (fun hF => ws 193 513 (qr (AS v0) (qr (AS v1) (bk hF fun u0 e0 hF => qp (.val none (.int .u8 (u0.toNat : Int))) (ev_ixs rfl rfl e0) (bk hF fun u1 e1 hF => qC (AI u1) [] (con_stringslite_IndexByte e1) c95_ (qr (AI u1) (r_nil (w_ret (blockQ_r (thenQ_r (eQ hF))))))))))) fun hF => ws 193 513 (qr (AI (v1.length : Int)) (qr (AS v0) (qr (AI (v0.length : Int)) (qr (AB (decide ((v0.length : Int) ≤ (v1.length : Int)))) (qr (AB (decide ((v0.length : Int) ≤ (v1.length : Int)))) (r_nil ?_))))))
 refine cF hF (fun hF => ws 513 577 (qr (AI (-1)) (r_nil (w_ret (blockQ_r (thenQ_r (eQ hF))))))) fun hF => w_seq ?_
 cases hF

def c67 : MC := (sr [pT 4 (.mv (ci 0))] (sr [mvt 5 0, mvt 6 1, dT 7 81 [t5, t6], mvt 4 7] .ret))
theorem c67_ : IsF Tryz.prog 67 c67 [(.tmp 4)] := ⟨by kernel_rfl, by kernel_rfl⟩

def F_strings_Index (v0 : List UInt8) (v1 : List UInt8) : Option (Int) :=
 ((F_stringslite_Index v0 v1).bind fun u0 => some u0)
@[simp] def res_strings_Index (r : Int) : RV := .one (.one (.val (.int .i64 r)))
theorem con_strings_Index {v0 : List UInt8} {v1 : List UInt8} {r : Int} (hF : F_strings_Index v0 v1 = some r) : Con Tryz.prog 67 [.str v0, .str v1] (res_strings_Index r) := by
 unfold F_strings_Index at hF
 refine con_of c67_.1 fun N => ?_
 exact ws 0 64 (qr (AI 0) (r_nil (ws 64 320 (qr (AS v0) (qr (AS v1) (bk hF fun u0 e0 hF => qC (AI u0) [] (con_stringslite_Index e0) c81_ (qr (AI u0) (rR hF))))))))

def c43 : MC := (sr [pT 2 (.mv (ci 0)), pT 3 (.mv cf)] (sr [mvt 5 0, rg 6 (.call true 67 [(.c (.str [83, 114, 82, 103, 71, 109, 77, 80, 100, 68, 110, 78])), t5]), mvt 4 6] (.seq (sr [mvt 7 0, pT 8 (.lens t7), bT 9 .neq t8 (ci 1), mvt 10 9, nF 11 10 t4, kF 12 10 (.bin .lss t11 (ci 0)), pT 13 (.pick t10 ct t12)] (.cond t13 (sr [pT 2 (.mv (ci 0)), pT 3 (.mv cf)] .ret) .skip)) (sr [mvt 14 4, mvt 2 14, pT 3 (.mv ct)] .ret))))
theorem c43_ : IsF Tryz.prog 43 c43 [(.tmp 2), (.tmp 3)] := ⟨by kernel_rfl, by kernel_rfl⟩

def F_impl_ToneNamed (v0 : List UInt8) : Option (Int × Bool) :=
 ((F_strings_Index [83, 114, 82, 103, 71, 109, 77, 80, 100, 68, 110, 78] v0).bind fun u0 => (bif (decide ((v0.length : Int) ≠ (1 : Int))) then some (0, false)
 else (bif (decide (u0 < (0 : Int))) then some (0, false)
 else some (u0, true))))
@[simp] def res_impl_ToneNamed (r : Int × Bool) : RV := .tup [.one (.val (.int .i64 r.1)), .one (.val (.bool r.2))]
theorem con_impl_ToneNamed {v0 : List UInt8} {r : Int × Bool} (hF : F_impl_ToneNamed v0 = some r) : Con Tryz.prog 43 [.str v0] (res_impl_ToneNamed r) := by
 unfold F_impl_ToneNamed at hF
 refine con_of c43_.1 fun N => ?_
 refine ws 0 128 (qr (AI 0) (qb (r_nil (ws 128 320 (qr (AS v0) (bk hF fun u0 e0 hF => qC (AI u0) [] (con_strings_Index e0) c67_ (qr (AI u0) (r_nil (w_seq (ws 320 768 (qr (AS v0) (qr (AI (v0.length : Int)) (qr (AB (decide ((v0.length : Int) ≠ (1 : Int)))) (qr (AB (decide ((v0.length : Int) ≠ (1 : Int)))) ?_))))))))))))))
 refine q_case 10 hF rfl (fun hF => qn2 (qt (r_nil (w_true rfl (ws 768 896 (qr (AI 0) (qb (r_nil (w_ret (thenQ_r (eQ hF))))))))))) fun hF => qg (AI u0) rfl rfl (qg (AB (decide (u0 < (0 : Int)))) rfl rfl (qr (AB (decide (u0 < (0 : Int)))) (r_nil ?_)))
 refine cF hF (fun hF => ws 768 896 (qr (AI 0) (qb (r_nil (w_ret (thenQ_r (eQ hF))))))) fun hF => ?_
 exact w_skip (thenQ_n (ws 768 960 (qr (AI u0) (qr (AI u0) (qt (rR hF))))))

def c80 : MC := (sr [pT 2 (.mv cf)] (.seq (sr [pT 3 (.mv (ci 1))] (.block 0 (.loop (.seq (sr [mvt 4 3, mvt 5 0, zT 6 5, bT 7 .lss t4 t6] (cx t7 0)) (.seq (.block 1 (sr [mP 10 t0, mP 11 t3, iF 12 10 11 1, lF 13 12, mP 14 t0, mP 15 t3, bF 16 .sub t15 (ci 1), iF 17 14 16 1, lF 18 17, bF 19 .leq t13 t18] (.cond t19 (sr [pT 2 (.mv cf)] .ret) .skip))) (.reg [mvt 8 3, bT 9 .add t8 (ci 1), mvt 3 9])))))) (sr [pT 2 (.mv ct)] .ret)))
theorem c80_ : IsF Tryz.prog 80 c80 [(.tmp 2)] := ⟨by kernel_rfl, by kernel_rfl⟩

def F_impl_increasing_l0 (v0 : List Int) (k0 : Int → Option (Bool)) : Int → Option (Bool)
 | x1 => (bif (decide (x1 < (v0.length : Int))) then ((ix v0 x1).bind fun u0 => ((ix v0 (w64 (x1 - 1))).bind fun u1 => (bif (decide (u0 ≤ u1)) then some false
 else k0 (w64 (x1 + 1)))))
 else some true)
def F_impl_increasing (v0 : List Int) : Option (Bool) :=
 loop (F_impl_increasing_l0 v0) 1
@[simp] abbrev K1s (v0 : List Int) : V := .sl 1 (v0.map vI)
@[simp] def res_impl_increasing (r : Bool) : RV := .one (.one (.val (.bool r)))
theorem con_impl_increasing {v0 : List Int} {r : Bool} (hF : F_impl_increasing v0 = some r) : Con Tryz.prog 80 [.sl 1 (v0.map vI)] (res_impl_increasing r) := by
 unfold F_impl_increasing at hF
 refine con_of c80_.1 fun N => ?_
 refine ws 0 64 (qb (r_nil (w_seq (ws 64 128 (qr (AI 1) (r_nil (w_block ?_)))))))
 refine wr (l' := [(0, .val none (K1s v0)), (3, AI 1)]) (L := []) [0, 3] [] 1 ?_
 refine w_loopF (F_impl_increasing_l0 v0) (fun s : Int => mkS [(0, .val none (K1s v0)), (3, AI s)] (fo []) 1) hF ?_
 rintro k0 x1 hF
 rw [F_impl_increasing_l0] at hF
 try dsimp only
 refine w_seq (ws 1 257 (qr (AI x1) (qr (.val none (K1s v0)) (qp (AI (v0.length : Int)) (ev_len_n rfl) (qr (AB (decide (x1 < (v0.length : Int)))) (r_nil ?_))))))
 refine cF hF (fun hF => ?_) fun hF => ?_
 ·
  refine w_skip (thenQ_n (w_seq (w_block (ws 257 897 (qr (.val none (K1s v0)) (qr (AI x1) (bk hF fun u0 e0 hF => qp (.val none (.ptr [.int .i64 u0])) (ev_iad_n rfl rfl e0 rfl) (qr (AI u0) (qr (.val none (K1s v0)) (qr (AI x1) (qr (AI (w64 (x1 - 1))) (bk hF fun u1 e1 hF => ?_))))))))))))
  refine qp (.val none (.ptr [.int .i64 u1])) (ev_iad_n rfl rfl e1 rfl) (qr (AI u1) (qr (AB (decide (u0 ≤ u1))) (r_nil (cF hF (fun hF => ws 897 961 (qb (r_nil (w_ret (blockQ_r (thenQ_r (thenQ_r (blockQ_r (thenQ_r (eQ hF)))))))))) fun hF => ?_))))
  refine w_skip (blockQ_n (thenQ_n (w_reg 897 1089 rfl rfl (qr (AI x1) (qr (AI (w64 (x1 + 1))) (qr (AI (w64 (x1 + 1))) (r_nil (thenQ_n ?_))))))))
  refine ar (l' := [(0, .val none (K1s v0)), (3, AI (w64 (x1 + 1)))]) (L := []) [0, 3] [] 1 ⟨_, by rfl, hF⟩
 exact w_exit (thenQ_e (thenQ_e (blockQ_e (thenQ_n (ws 257 321 (qt (rR hF)))))))

def c66 : MC := (sr [pT 2 (.mv cf)] (sr [mvt 3 0, zT 4 3, bT 5 .geq t4 (ci 5), mvt 6 5, nT 7 6 t0, kT 8 6 (.iad t7 (ci 0) 1), kT 9 6 (.ld t8 1 false), kT 10 6 (.bin .eql t9 (ci 0)), pT 11 (.pick t6 t10 cf), mvt 12 11, nT 13 12 t0, ⟨(some 14), (some (12, true)), (.call true 80 [t13])⟩, pT 15 (.pick t12 t14 cf), mvt 16 15, nT 17 16 t0, nT 18 16 t0, kT 19 16 (.len t18), kT 20 16 (.bin .sub t19 (ci 1)), kT 21 16 (.iad t17 t20 1), kT 22 16 (.ld t21 1 false), kT 23 16 (.bin .lss t22 (ci 12)), pT 24 (.pick t16 t23 cf), mvt 2 24] .ret))
theorem c66_ : IsF Tryz.prog 66 c66 [(.tmp 2)] := ⟨by kernel_rfl, by kernel_rfl⟩

def F_impl_ValidScale (v0 : List Int) : Option (Bool) :=
 (bif (decide ((5 : Int) ≤ (v0.length : Int))) then ((ix v0 0).bind fun u0 => (bif (decide (u0 = (0 : Int))) then ((F_impl_increasing v0).bind fun u1 => (bif u1 then ((ix v0 (w64 ((v0.length : Int) - 1))).bind fun u2 => some (decide (u2 < (12 : Int))))
 else some false))
 else some false))
 else some false)
@[simp] abbrev K1t (v0 : List Int) : AV := AL 1 (v0.map vI)
@[simp] def res_impl_ValidScale (r : Bool) : RV := .one (.one (.val (.bool r)))
theorem con_impl_ValidScale {v0 : List Int} {r : Bool} (hF : F_impl_ValidScale v0 = some r) : Con Tryz.prog 66 [.sl 1 (v0.map vI)] (res_impl_ValidScale r) := by
 unfold F_impl_ValidScale at hF
 refine con_of c66_.1 fun N => ?_
 refine ws 0 64 (qb (r_nil (ws 64 1536 (qr (K1t v0) (qp (AI (v0.length : Int)) (ev_len_n rfl) (qr (AB (decide ((5 : Int) ≤ (v0.length : Int)))) (qr (AB (decide ((5 : Int) ≤ (v0.length : Int)))) ?_)))))))
 refine q_case 6 hF rfl (fun hF => ?_) (fun hF => ?_)
 ·
  refine qg (K1t v0) rfl rfl (bk hF fun u0 e0 hF => qg (.val none (.ptr [.int .i64 u0])) rfl (ev_iad_n rfl rfl e0 rfl) (qg (AI u0) rfl rfl (qg (AB (decide (u0 = (0 : Int)))) rfl rfl (qr (AB (decide (u0 = (0 : Int)))) (qr (AB (decide (u0 = (0 : Int)))) ?_)))))
  refine q_case 12 hF rfl (fun hF => ?_) (fun hF => ?_)
  ·
   refine qg (K1t v0) rfl rfl (bk hF fun u1 e1 hF => qG (AB u1) [] (con_impl_increasing e1) c80_ (qr (AB u1) (qr (AB u1) (q_case 16 hF rfl (fun hF => qg (K1t v0) rfl rfl (qg (K1t v0) rfl rfl (qg (AI (v0.length : Int)) rfl (ev_len_n rfl) (qg (AI (w64 ((v0.length : Int) - 1))) rfl rfl (bk hF fun u2 e2 hF => qg (.val none (.ptr [.int .i64 u2])) rfl (ev_iad_n rfl rfl e2 rfl) (qg (AI u2) rfl rfl (qg (AB (decide (u2 < (12 : Int)))) rfl rfl (qr (AB (decide (u2 < (12 : Int)))) (qr (AB (decide (u2 < (12 : Int)))) (rR hF)))))))))) fun hF => ?_))))
   exact qn7 (qb (qb (rR hF)))
  exact qn2 (qb (qb (qn4 (qn3 (qb (qb (rR hF)))))))
 exact qn4 (qb (qb (qn2 (qb (qb (qn6 (qn rfl (qb (qb (rR hF))))))))))

end Go.Ab
