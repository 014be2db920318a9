/- Walks (printed by auto.py, a program of this session's own). -/
import Derived.Test.YtdedhldojkdceaaGreatDoorS0
import Derived.Test.YtdedhldojkdceaaGreatDoorProg
import Derived.KernelRfl
import Derived.Test.YtdedhldojkdceaaGreatDoorSQ
set_option linter.unusedVariables false
set_option linter.unusedSimpArgs false
set_option maxRecDepth 8000
set_option maxHeartbeats 8000000
namespace Go.Ab
open Go.RowKit Go.Proofs

abbrev TBlock := (List UInt8) × (List UInt8) × (List UInt8)
@[simp] def eBlock (p : TBlock) : V := .agg [.str p.1, .str p.2.1, .str p.2.2]
abbrev TNote := Int × Int
@[simp] def eNote (p : TNote) : V := .agg [.int .i64 p.1, .int .i64 p.2]
abbrev TNamedMelody := (List UInt8) × (List TNote)
@[simp] def eNamedMelody (p : TNamedMelody) : V := .agg [.str p.1, .sl 2 (p.2.map eNote)]
def c23 : MC := (.seq (.reg [rg 2 (.f (.box t0)), pT 4 (.mv (ci 0))]) (.seq (.reg [mvt 5 1, pT 6 (.fad t2 0), pT 7 (.ld t6 1 false), pT 8 (.lens t7), pT 9 (.bin .sub t5 t8), mvt 1 9]) (.seq (.seq (.reg [mvt 10 1, pT 11 (.bin .lss t10 (ci 0))]) (.cond t11 (.seq (.reg [pT 4 (.mv (ci (-1)))]) .ret) .skip)) (.seq (.reg [mvt 12 1, pT 13 (.fad t2 1), pT 14 (.ld t13 1 false), pT 15 (.lens t14), pT 16 (.bin .sub t12 t15), mvt 1 16]) (.seq (.seq (.reg [mvt 17 1, pT 18 (.bin .lss t17 (ci 0))]) (.cond t18 (.seq (.reg [pT 4 (.mv (ci (-1)))]) .ret) .skip)) (.seq (.reg [mvt 19 1, pT 20 (.fad t2 2), pT 21 (.ld t20 1 false), pT 22 (.lens t21), pT 23 (.bin .sub t19 t22), mvt 1 23]) (.seq (.seq (.reg [mvt 24 1, pT 25 (.bin .lss t24 (ci 0))]) (.cond t25 (.seq (.reg [pT 4 (.mv (ci (-1)))]) .ret) .skip)) (.seq (.reg [mvt 26 1, mvt 4 26]) .ret))))))))
theorem c23_is : compFn Tryz.prog 23 = some (c23, [(.tmp 4)]) := by kernel_rfl
theorem c23_ok : okFn Tryz.prog 23 = true := by kernel_rfl

noncomputable def F_laws_szBlock (v0 : TBlock) (v1 : Int) : Option (Int) :=
 (bif (decide (w64 (v1 - (v0.1.length : Int)) < (0 : Int))) then some (-1)
 else (bif (decide (w64 ((w64 (v1 - (v0.1.length : Int))) - (v0.2.1.length : Int)) < (0 : Int))) then some (-1)
 else (bif (decide (w64 ((w64 ((w64 (v1 - (v0.1.length : Int))) - (v0.2.1.length : Int))) - (v0.2.2.length : Int)) < (0 : Int))) then some (-1)
 else some (w64 ((w64 ((w64 (v1 - (v0.1.length : Int))) - (v0.2.1.length : Int))) - (v0.2.2.length : Int))))))
@[simp] abbrev K1 (v1 : Int) (v0 : TBlock) : AV := AI (w64 ((w64 ((w64 (v1 - (v0.1.length : Int))) - (v0.2.1.length : Int))) - (v0.2.2.length : Int)))
@[simp] abbrev K2 (v1 : Int) (v0 : TBlock) : AV := AI (w64 ((w64 (v1 - (v0.1.length : Int))) - (v0.2.1.length : Int)))
@[simp] def res_laws_szBlock (r : Int) : RV := .one (.one (.val (.int .i64 r)))
theorem con_laws_szBlock {v0 : TBlock} {v1 : Int} {r : Int} (hF : F_laws_szBlock v0 v1 = some r) : Con Tryz.prog 23 [eBlock v0, .int .i64 v1] (res_laws_szBlock r) := by
 unfold F_laws_szBlock at hF
 refine con_of c23_is fun N => ?_
 refine ws 0 128 ?_
 refine qf (.ptr 0 0 0) [(0, .box [AS v0.1, AS v0.2.1, AS v0.2.2])] (by simp) ?_
 refine qp (AI 0) rfl ?_
 refine r_nil ?_
 refine ws 128 512 ?_
 refine qp (AI v1) rfl (qp (.ptr 0 0 0) rfl (qp (AS v0.1) rfl (qp (AI (v0.1.length : Int)) rfl (qp (AI (w64 (v1 - (v0.1.length : Int)))) rfl (qp (AI (w64 (v1 - (v0.1.length : Int)))) rfl ?_)))))
 refine r_nil ?_
 refine w_seq ?_
 refine ws 512 640 ?_
 refine qp (AI (w64 (v1 - (v0.1.length : Int)))) rfl (qp (AB (decide (w64 (v1 - (v0.1.length : Int)) < (0 : Int)))) rfl ?_)
 refine r_nil ?_
 refine cF hF (fun hF => ?_) fun hF => ?_
 ·
  refine ws 640 704 ?_
  refine qp (AI (-1)) rfl ?_
  refine r_nil ?_
  refine w_ret ?_
  refine thenQ_r ?_
  cases hF
  exact eR
 ·
  refine w_skip ?_
  refine thenQ_n ?_
  refine ws 640 1024 ?_
  refine qp (AI (w64 (v1 - (v0.1.length : Int)))) rfl (qp (.ptr 0 0 1) rfl (qp (AS v0.2.1) rfl (qp (AI (v0.2.1.length : Int)) rfl (qp (K2 v1 v0) rfl (qp (K2 v1 v0) rfl ?_)))))
  refine r_nil ?_
  refine w_seq ?_
  refine ws 1024 1152 ?_
  refine qp (K2 v1 v0) rfl (qp (AB (decide (w64 ((w64 (v1 - (v0.1.length : Int))) - (v0.2.1.length : Int)) < (0 : Int)))) rfl ?_)
  refine r_nil ?_
  refine cF hF (fun hF => ?_) fun hF => ?_
  ·
   refine ws 1152 1216 ?_
   refine qp (AI (-1)) rfl ?_
   refine r_nil ?_
   refine w_ret ?_
   refine thenQ_r ?_
   cases hF
   exact eR
  ·
   refine w_skip ?_
   refine thenQ_n ?_
   refine ws 1152 1536 ?_
   refine qp (K2 v1 v0) rfl (qp (.ptr 0 0 2) rfl (qp (AS v0.2.2) rfl (qp (AI (v0.2.2.length : Int)) rfl (qp (K1 v1 v0) rfl (qp (K1 v1 v0) rfl ?_)))))
   refine r_nil ?_
   refine w_seq ?_
   refine ws 1536 1664 ?_
   refine qp (K1 v1 v0) rfl (qp (AB (decide (w64 ((w64 ((w64 (v1 - (v0.1.length : Int))) - (v0.2.1.length : Int))) - (v0.2.2.length : Int)) < (0 : Int)))) rfl ?_)
   refine r_nil ?_
   refine cF hF (fun hF => ?_) fun hF => ?_
   ·
    refine ws 1664 1728 ?_
    refine qp (AI (-1)) rfl ?_
    refine r_nil ?_
    refine w_ret ?_
    refine thenQ_r ?_
    cases hF
    exact eR
   ·
    refine w_skip ?_
    refine thenQ_n ?_
    refine ws 1664 1792 ?_
    refine qp (K1 v1 v0) rfl (qp (K1 v1 v0) rfl ?_)
    exact rR hF

def c5 : MC := (.seq (.reg [pT 4 (.mv (ci 0))]) (.seq (.reg [mvt 6 1, mvt 7 0, pT 8 (.len t7), pT 9 (.bin .sub t6 t8), mvt 1 9]) (.seq (.seq (.reg [mvt 10 1, pT 11 (.bin .lss t10 (ci 0))]) (.cond t11 (.seq (.reg [pT 4 (.mv (ci (-1)))]) .ret) .skip)) (.seq (.seq (.reg [pT 5 (.mv (ci 0))]) (.block 0 (.loop (.seq (.seq (.reg [mvt 12 5, mvt 13 0, pT 14 (.len t13), pT 15 (.bin .lss t12 t14)]) (.cond t15 .skip (.exit 0))) (.seq (.block 1 (.seq (.reg [mvt 18 0, mvt 19 5, pT 20 (.iad t18 t19 3), pT 21 (.ld t20 3 true), mvt 22 1, rg 23 (.call true 23 [t21, t22]), mvt 1 23]) (.seq (.reg [mvt 24 1, pT 25 (.bin .lss t24 (ci 0))]) (.cond t25 (.seq (.reg [pT 4 (.mv (ci (-1)))]) .ret) .skip)))) (.reg [mvt 16 5, pT 17 (.bin .add t16 (ci 1)), mvt 5 17])))))) (.seq (.reg [mvt 26 1, mvt 4 26]) .ret)))))
theorem c5_is : compFn Tryz.prog 5 = some (c5, [(.tmp 4)]) := by kernel_rfl
theorem c5_ok : okFn Tryz.prog 5 = true := by kernel_rfl

noncomputable def F_laws_szBlockS_l0 (v0 : List TBlock) (k0 : Int × Int → Option (Int)) : Int × Int → Option (Int)
 | (v50002, v50003) => (bif (decide (v50003 < (v0.length : Int))) then ((ix v0 v50003).bind fun v1000 => ((F_laws_szBlock v1000 v50002).bind fun v1001 => (bif (decide (v1001 < (0 : Int))) then some (-1)
 else k0 (v1001, w64 (v50003 + 1)))))
 else some v50002)
noncomputable def F_laws_szBlockS (v0 : List TBlock) (v1 : Int) : Option (Int) :=
 (bif (decide (w64 (v1 - (v0.length : Int)) < (0 : Int))) then some (-1)
 else loop (F_laws_szBlockS_l0 v0) (w64 (v1 - (v0.length : Int)), 0))
@[simp] def res_laws_szBlockS (r : Int) : RV := .one (.one (.val (.int .i64 r)))
theorem con_laws_szBlockS {v0 : List TBlock} {v1 : Int} {r : Int} (hF : F_laws_szBlockS v0 v1 = some r) : Con Tryz.prog 5 [.sl 3 (v0.map eBlock), .int .i64 v1] (res_laws_szBlockS r) := by
 unfold F_laws_szBlockS at hF
 refine con_of c5_is fun N => ?_
 refine ws 0 64 ?_
 refine qp (AI 0) rfl ?_
 refine r_nil ?_
 refine ws 64 384 ?_
 refine qp (AI v1) rfl (qp (AL 3 (v0.map eBlock)) rfl (qp (AI (v0.length : Int)) (ev_len_n rfl) (qp (AI (w64 (v1 - (v0.length : Int)))) rfl (qp (AI (w64 (v1 - (v0.length : Int)))) rfl ?_))))
 refine r_nil ?_
 refine w_seq ?_
 refine ws 384 512 ?_
 refine qp (AI (w64 (v1 - (v0.length : Int)))) rfl (qp (AB (decide (w64 (v1 - (v0.length : Int)) < (0 : Int)))) rfl ?_)
 refine r_nil ?_
 refine cF hF (fun hF => ?_) fun hF => ?_
 ·
  refine ws 512 576 ?_
  refine qp (AI (-1)) rfl ?_
  refine r_nil ?_
  refine w_ret ?_
  refine thenQ_r ?_
  cases hF
  exact eR
 ·
  refine w_skip ?_
  refine thenQ_n ?_
  refine w_seq ?_
  refine ws 512 576 ?_
  refine qp (AI 0) rfl ?_
  refine r_nil ?_
  refine w_block ?_
  refine wr (l' := [(0, AL 3 (v0.map eBlock)), (1, AI (w64 (v1 - (v0.length : Int)))), (5, AI 0)]) (L := []) [0, 1, 5] [] 1 ?_
  refine w_loopF (F_laws_szBlockS_l0 v0) (fun s : Int × Int => mkS [(0, AL 3 (v0.map eBlock)), (1, AI s.1), (5, AI s.2)] (fo []) 1) hF ?_
  rintro k0 ⟨v50002, v50003⟩ hF
  rw [F_laws_szBlockS_l0] at hF
  try dsimp only
  refine w_seq ?_
  refine ws 1 257 ?_
  refine qp (AI v50003) rfl (qp (AL 3 (v0.map eBlock)) rfl (qp (AI (v0.length : Int)) (ev_len_n rfl) (qp (AB (decide (v50003 < (v0.length : Int)))) rfl ?_)))
  refine r_nil ?_
  refine cF hF (fun hF => ?_) fun hF => ?_
  ·
   refine w_skip ?_
   refine thenQ_n ?_
   refine w_seq ?_
   refine w_block ?_
   refine ws 257 705 ?_
   refine qp (AL 3 (v0.map eBlock)) rfl (qp (AI v50003) rfl ?_)
   obtain ⟨v1000, e1000, hF⟩ := bind_get hF
   refine qp (.val none (.ptr [.str v1000.1, .str v1000.2.1, .str v1000.2.2])) (ev_iad_n rfl rfl e1000 rfl) (qp (.val none (eBlock v1000)) rfl (qp (AI v50002) rfl ?_))
   obtain ⟨v1001, e1001, hF⟩ := bind_get hF
   refine qc (AI v1001) [] false (con_laws_szBlock e1001) c23_ok (by first | rfl | simp) rfl ?_
   refine qp (AI v1001) rfl ?_
   refine r_nil ?_
   refine ws 705 833 ?_
   refine qp (AI v1001) rfl (qp (AB (decide (v1001 < (0 : Int)))) rfl ?_)
   refine r_nil ?_
   refine cF hF (fun hF => ?_) fun hF => ?_
   ·
    refine ws 833 897 ?_
    refine qp (AI (-1)) rfl ?_
    refine r_nil ?_
    refine w_ret ?_
    refine blockQ_r ?_
    refine thenQ_r ?_
    refine thenQ_r ?_
    refine blockQ_r ?_
    refine thenQ_r ?_
    cases hF
    exact eR
   ·
    refine w_skip ?_
    refine blockQ_n ?_
    refine thenQ_n ?_
    refine w_reg 833 1025 rfl rfl ?_
    refine qp (AI v50003) rfl (qp (AI (w64 (v50003 + 1))) rfl (qp (AI (w64 (v50003 + 1))) rfl ?_))
    refine r_nil ?_
    refine thenQ_n ?_
    refine ar (l' := [(0, AL 3 (v0.map eBlock)), (1, AI v1001), (5, AI (w64 (v50003 + 1)))]) (L := []) [0, 1, 5] [] 1 ⟨_, by rfl, hF⟩
  ·
   refine w_exit ?_
   refine thenQ_e ?_
   refine thenQ_e ?_
   refine blockQ_e ?_
   refine thenQ_n ?_
   refine ws 257 385 ?_
   refine qp (AI v50002) rfl (qp (AI v50002) rfl ?_)
   exact rR hF

def c26 : MC := (.seq (.reg [rg 1 (.f (.box t0)), rg 2 (.f (.alloc [((.str []), (0, false)), ((.str []), (0, false)), ((.str []), (0, false))]))]) (.seq (.reg [rg 3 (.f (.alloc [((.str []), (0, false)), ((.str []), (0, false)), ((.str []), (0, false))]))]) (.seq (.reg [pT 4 (.fad t1 0), pT 5 (.ld t4 1 false), pT 6 (.fad t3 0), ⟨none, none, (.f (.st t6 t5 1))⟩]) (.seq (.reg [pT 7 (.fad t1 1), pT 8 (.ld t7 1 false), pT 9 (.fad t3 1), ⟨none, none, (.f (.st t9 t8 1))⟩]) (.seq (.reg [pT 10 (.fad t1 2), pT 11 (.ld t10 1 false), pT 12 (.fad t3 2), ⟨none, none, (.f (.st t12 t11 1))⟩]) (.seq (.reg [pT 13 (.ld t3 3 true), ⟨none, none, (.f (.st t2 t13 3))⟩]) .ret))))))
theorem c26_is : compFn Tryz.prog 26 = some (c26, [(.cell (.ld (.t 2) 3 true))]) := by kernel_rfl
theorem c26_ok : okFn Tryz.prog 26 = true := by kernel_rfl

noncomputable def F_laws_toBlock (v0 : TBlock) : Option (TBlock) :=
 some v0
@[simp] abbrev K8 (v0 : TBlock) : List AV := [AS v0.1, AS v0.2.1, AS v0.2.2]
@[simp] abbrev K3 (v0 : TBlock) : List (Nat × Root) := [(64, .box [AS [], AS [], AS []]), (0, .box (K8 v0))]
@[simp] abbrev K4 (v0 : TBlock) : List (Nat × Root) := ((128, .box [AS [], AS [], AS []]) :: (K3 v0))
@[simp] abbrev K5 (v0 : TBlock) : List (Nat × Root) := ((128, .box [AS v0.1, AS [], AS []]) :: (K4 v0))
@[simp] abbrev K6 (v0 : TBlock) : List (Nat × Root) := ((128, .box [AS v0.1, AS v0.2.1, AS []]) :: (K5 v0))
@[simp] abbrev K7 (v0 : TBlock) : List (Nat × Root) := ((128, .box (K8 v0)) :: (K6 v0))
@[simp] def res_laws_toBlock (r : TBlock) : RV := .one (.one (.val (eBlock r)))
theorem con_laws_toBlock {v0 : TBlock} {r : TBlock} (hF : F_laws_toBlock v0 = some r) : Con Tryz.prog 26 [eBlock v0] (res_laws_toBlock r) := by
 unfold F_laws_toBlock at hF
 refine con_of c26_is fun N => ?_
 refine ws 0 128 ?_
 refine qf (.ptr 0 0 0) [(0, .box (K8 v0))] (by simp) ?_
 refine qf (.ptr 64 0 0) (K3 v0) (by simp) ?_
 refine r_nil ?_
 refine ws 128 192 ?_
 refine qf (.ptr 128 0 0) (K4 v0) (by simp) ?_
 refine r_nil ?_
 refine ws 192 448 ?_
 refine qp (.ptr 0 0 0) rfl (qp (AS v0.1) rfl (qp (.ptr 128 0 0) rfl ?_))
 refine qf0 (.undef) (K5 v0) (by simp) ?_
 refine r_nil ?_
 refine ws 448 704 ?_
 refine qp (.ptr 0 0 1) rfl (qp (AS v0.2.1) rfl (qp (.ptr 128 0 1) rfl ?_))
 refine qf0 (.undef) (K6 v0) (by simp) ?_
 refine r_nil ?_
 refine ws 704 960 ?_
 refine qp (.ptr 0 0 2) rfl (qp (AS v0.2.2) rfl (qp (.ptr 128 0 2) rfl ?_))
 refine qf0 (.undef) (K7 v0) (by simp) ?_
 refine r_nil ?_
 refine ws 960 1088 ?_
 refine qp (.agg (K8 v0)) rfl ?_
 refine qf0 (.undef) ((64, .box (K8 v0)) :: (K7 v0)) (by simp) ?_
 exact rR hF

def c7 : MC := (.seq (.reg [rg 2 (.f (.nilrow 3))]) (.seq (.reg [mvt 5 0, pT 6 (.len t5), rg 7 (.f (.mks 3 48 (.agg [(.str []), (.str []), (.str [])]) t6 t6)), mvt 3 7]) (.seq (.seq (.reg [pT 4 (.mv (ci 0))]) (.block 0 (.loop (.seq (.seq (.reg [mvt 8 4, mvt 9 0, pT 10 (.len t9), pT 11 (.bin .lss t8 t10)]) (.cond t11 .skip (.exit 0))) (.seq (.block 1 (.reg [mvt 14 3, mvt 15 4, mvt 16 0, mvt 17 4, pT 18 (.iad t16 t17 3), pT 19 (.ld t18 3 true), rg 20 (.call true 26 [t19]), pT 21 (.iad t14 t15 3), ⟨none, none, (.f (.st t21 t20 3))⟩])) (.reg [mvt 12 4, pT 13 (.bin .add t12 (ci 1)), mvt 4 13])))))) (.seq (.reg [mvt 22 3, mvt 2 22]) .ret))))
theorem c7_is : compFn Tryz.prog 7 = some (c7, [(.tmp 2)]) := by kernel_rfl
theorem c7_ok : okFn Tryz.prog 7 = true := by kernel_rfl

noncomputable def F_laws_toBlockS_l0 (v0 : List TBlock) (k1 : Int × (List TBlock) → Option (List TBlock)) : Int × (List TBlock) → Option (List TBlock)
 | (v50006, v50007) => (bif (decide (v50006 < (v0.length : Int))) then ((ix v0 v50006).bind fun v1007 => ((F_laws_toBlock v1007).bind fun v1008 => ((ix v50007 v50006).bind fun v1009 => k1 (w64 (v50006 + 1), List.set v50007 v50006.toNat v1008))))
 else some v50007)
noncomputable def F_laws_toBlockS (v0 : List TBlock) : Option (List TBlock) :=
 (need (0 ≤ (v0.length : Int) ∧ (v0.length : Int) ≤ (v0.length : Int) ∧ (v0.length : Int) ≤ 9223372036854775807 ∧ 48 * (v0.length : Int) ≤ 281474976710656) (loop (F_laws_toBlockS_l0 v0) (0, List.replicate ((v0.length : Int)).toNat (([], [], []) : TBlock))))
@[simp] abbrev K9 : List (Nat × Root) := [(0, .row true 3 (([] : List Int).map vI))]
@[simp] def res_laws_toBlockS (r : List TBlock) : RV := .one (.one (.row true 3 (r.map eBlock)))
theorem con_laws_toBlockS {v0 : List TBlock} {r : List TBlock} (hF : F_laws_toBlockS v0 = some r) : Con Tryz.prog 7 [.sl 3 (v0.map eBlock)] (res_laws_toBlockS r) := by
 unfold F_laws_toBlockS at hF
 refine con_of c7_is fun N => ?_
 refine ws 0 64 ?_
 refine qf (.sl 0 0 0) K9 (by simp) ?_
 refine r_nil ?_
 refine ws 64 320 ?_
 refine qp (AL 3 (v0.map eBlock)) rfl (qp (AI (v0.length : Int)) (ev_len_n rfl) ?_)
 obtain ⟨g1000, hF⟩ := need_some hF
 refine qf (.sl 192 0 ((List.replicate ((v0.length : Int)).toNat (([], [], []) : TBlock)).length)) ((192, .row true 3 ((List.replicate ((v0.length : Int)).toNat (([], [], []) : TBlock)).map eBlock)) :: K9) (effT_mks rfl rfl g1000 rfl) ?_
 refine qp (.sl 192 0 ((List.replicate ((v0.length : Int)).toNat (([], [], []) : TBlock)).length)) rfl ?_
 refine r_nil ?_
 refine w_seq ?_
 refine ws 320 384 ?_
 refine qp (AI 0) rfl ?_
 refine r_nil ?_
 refine w_block ?_
 refine wr (l' := [(0, AL 3 (v0.map eBlock)), (3, .sl 0 0 (List.replicate ((v0.length : Int)).toNat (([], [], []) : TBlock)).length), (4, AI 0)]) (L := [(0, .row true 3 ((List.replicate ((v0.length : Int)).toNat (([], [], []) : TBlock)).map eBlock))]) [0, 3, 4] [(192, 0)] 1 ?_
 refine w_loopF (F_laws_toBlockS_l0 v0) (fun s : Int × (List TBlock) => mkS [(0, AL 3 (v0.map eBlock)), (3, .sl 0 0 s.2.length), (4, AI s.1)] (fo [(0, .row true 3 (s.2.map eBlock))]) 1) hF ?_
 rintro k1 ⟨v50006, v50007⟩ hF
 rw [F_laws_toBlockS_l0] at hF
 try dsimp only
 refine w_seq ?_
 refine ws 1 257 ?_
 refine qp (AI v50006) rfl (qp (AL 3 (v0.map eBlock)) rfl (qp (AI (v0.length : Int)) (ev_len_n rfl) (qp (AB (decide (v50006 < (v0.length : Int)))) rfl ?_)))
 refine r_nil ?_
 refine cF hF (fun hF => ?_) fun hF => ?_
 ·
  refine w_skip ?_
  refine thenQ_n ?_
  refine w_seq ?_
  refine w_block ?_
  refine w_reg 257 833 rfl rfl ?_
  refine qp (.sl 0 0 v50007.length) rfl (qp (AI v50006) rfl (qp (AL 3 (v0.map eBlock)) rfl (qp (AI v50006) rfl ?_)))
  obtain ⟨v1007, e1007, hF⟩ := bind_get hF
  refine qp (.val none (.ptr [.str v1007.1, .str v1007.2.1, .str v1007.2.2])) (ev_iad_n rfl rfl e1007 rfl) (qp (.val none (eBlock v1007)) rfl ?_)
  obtain ⟨v1008, e1008, hF⟩ := bind_get hF
  refine qc (.val none (eBlock v1008)) [(0, .row true 3 (v50007.map eBlock))] false (con_laws_toBlock e1008) c26_ok (by first | rfl | simp) rfl ?_
  obtain ⟨v1009, e1009, hF⟩ := bind_get hF
  refine qp (.ptr 0 v50006.toNat 0) (ev_iad_r rfl (by simp) rfl rfl e1009) ?_
  refine qf0 (.undef) [(0, .row true 3 ((List.set v50007 v50006.toNat v1008).map eBlock)), (0, .row true 3 (v50007.map eBlock))] (effT_st rfl rfl (ix_some e1009).2 rfl rfl (by rfl) (by first | rfl | simp [patch, reb, List.take_of_length_le]) (by rfl) rfl) ?_
  refine r_nil ?_
  refine blockQ_n ?_
  refine thenQ_n ?_
  refine w_reg 833 1025 rfl rfl ?_
  refine qp (AI v50006) rfl (qp (AI (w64 (v50006 + 1))) rfl (qp (AI (w64 (v50006 + 1))) rfl ?_))
  refine r_nil ?_
  refine thenQ_n ?_
  refine ar (l' := [(0, AL 3 (v0.map eBlock)), (3, .sl 0 0 (List.set v50007 v50006.toNat v1008).length), (4, AI (w64 (v50006 + 1)))]) (L := [(0, .row true 3 ((List.set v50007 v50006.toNat v1008).map eBlock))]) [0, 3, 4] [(0, 0)] 1 ⟨_, by rfl, hF⟩
 ·
  refine w_exit ?_
  refine thenQ_e ?_
  refine thenQ_e ?_
  refine blockQ_e ?_
  refine thenQ_n ?_
  refine ws 257 385 ?_
  refine qp (.sl 0 0 v50007.length) rfl (qp (.sl 0 0 v50007.length) rfl ?_)
  exact rR hF

def c142 : MC := (.seq (.reg [pT 2 (.mv cf)]) (.seq (.reg [mvt 3 0, pT 4 (.bin .geq t3 (.c (.int .u8 97))), mvt 5 4, nT 6 5 t0, kT 7 5 (.bin .leq t6 (.c (.int .u8 122))), pT 8 (.pick t5 t7 cf), mvt 2 8]) .ret))
theorem c142_is : compFn Tryz.prog 142 = some (c142, [(.tmp 2)]) := by kernel_rfl
theorem c142_ok : okFn Tryz.prog 142 = true := by kernel_rfl

noncomputable def F_spec_l01Small (v0 : Int) : Option (Bool) :=
 (bif (decide ((97 : Int) ≤ v0)) then some (decide (v0 ≤ (122 : Int)))
 else some false)
@[simp] def res_spec_l01Small (r : Bool) : RV := .one (.one (.val (.bool r)))
theorem con_spec_l01Small {v0 : Int} {r : Bool} (hF : F_spec_l01Small v0 = some r) : Con Tryz.prog 142 [.int .u8 v0] (res_spec_l01Small r) := by
 unfold F_spec_l01Small at hF
 refine con_of c142_is fun N => ?_
 refine ws 0 64 ?_
 refine qp (AB false) rfl ?_
 refine r_nil ?_
 refine ws 64 512 ?_
 refine qp (.val none (.int .u8 v0)) rfl (qp (AB (decide ((97 : Int) ≤ v0))) rfl (qp (AB (decide ((97 : Int) ≤ v0))) rfl ?_))
 refine q_case 5 hF rfl (fun hF => ?_) (fun hF => ?_)
 ·
  refine qg (.val none (.int .u8 v0)) rfl rfl (qg (AB (decide (v0 ≤ (122 : Int)))) rfl rfl (qp (AB (decide (v0 ≤ (122 : Int)))) rfl (qp (AB (decide (v0 ≤ (122 : Int)))) rfl ?_)))
  exact rR hF
 ·
  refine qn2 (qp (AB false) rfl (qp (AB false) rfl ?_))
  exact rR hF

def c143 : MC := (.seq (.reg [pT 2 (.mv cf)]) (.seq (.reg [mvt 3 0, pT 4 (.bin .geq t3 (.c (.int .u8 48))), mvt 5 4, nT 6 5 t0, kT 7 5 (.bin .leq t6 (.c (.int .u8 57))), pT 8 (.pick t5 t7 cf), mvt 2 8]) .ret))
theorem c143_is : compFn Tryz.prog 143 = some (c143, [(.tmp 2)]) := by kernel_rfl
theorem c143_ok : okFn Tryz.prog 143 = true := by kernel_rfl

noncomputable def F_spec_l01Digit (v0 : Int) : Option (Bool) :=
 (bif (decide ((48 : Int) ≤ v0)) then some (decide (v0 ≤ (57 : Int)))
 else some false)
@[simp] def res_spec_l01Digit (r : Bool) : RV := .one (.one (.val (.bool r)))
theorem con_spec_l01Digit {v0 : Int} {r : Bool} (hF : F_spec_l01Digit v0 = some r) : Con Tryz.prog 143 [.int .u8 v0] (res_spec_l01Digit r) := by
 unfold F_spec_l01Digit at hF
 refine con_of c143_is fun N => ?_
 refine ws 0 64 ?_
 refine qp (AB false) rfl ?_
 refine r_nil ?_
 refine ws 64 512 ?_
 refine qp (.val none (.int .u8 v0)) rfl (qp (AB (decide ((48 : Int) ≤ v0))) rfl (qp (AB (decide ((48 : Int) ≤ v0))) rfl ?_))
 refine q_case 5 hF rfl (fun hF => ?_) (fun hF => ?_)
 ·
  refine qg (.val none (.int .u8 v0)) rfl rfl (qg (AB (decide (v0 ≤ (57 : Int)))) rfl rfl (qp (AB (decide (v0 ≤ (57 : Int)))) rfl (qp (AB (decide (v0 ≤ (57 : Int)))) rfl ?_)))
  exact rR hF
 ·
  refine qn2 (qp (AB false) rfl (qp (AB false) rfl ?_))
  exact rR hF

def c88 : MC := (.seq (.reg [pT 2 (.mv cf)]) (.seq (.seq (.reg [mvt 4 0, pT 5 (.bin .eql t4 (.c (.str []))), mvt 6 5, nF 7 6 t0, kF 8 6 (.lens t7), kF 9 6 (.bin .gtr t8 (ci 10)), pT 10 (.pick t6 ct t9), mvt 11 10, nF 12 11 t0, kF 13 11 (.ixs t12 (ci 0)), ⟨(some 14), (some (11, false)), (.call true 142 [t13])⟩, kF 15 11 (.not t14), pT 16 (.pick t11 ct t15)]) (.cond t16 (.seq (.reg [pT 2 (.mv cf)]) .ret) .skip)) (.seq (.seq (.reg [pT 3 (.mv (ci 0))]) (.block 0 (.loop (.seq (.seq (.reg [mvt 17 3, mvt 18 0, pT 19 (.lens t18), pT 20 (.bin .lss t17 t19)]) (.cond t20 .skip (.exit 0))) (.seq (.block 1 (.seq (.reg [mvt 23 0, mvt 24 3, pT 25 (.ixs t23 t24), rg 26 (.call true 142 [t25]), pT 27 (.not t26), mvt 28 27, nT 29 28 t0, nT 30 28 t3, kT 31 28 (.ixs t29 t30), ⟨(some 32), (some (28, true)), (.call true 143 [t31])⟩, kT 33 28 (.not t32), pT 34 (.pick t28 t33 cf)]) (.cond t34 (.seq (.reg [pT 2 (.mv cf)]) .ret) .skip))) (.reg [mvt 21 3, pT 22 (.bin .add t21 (ci 1)), mvt 3 22])))))) (.seq (.reg [pT 2 (.mv ct)]) .ret))))
theorem c88_is : compFn Tryz.prog 88 = some (c88, [(.tmp 2)]) := by kernel_rfl
theorem c88_ok : okFn Tryz.prog 88 = true := by kernel_rfl

noncomputable def F_spec_l01Name_l0 (v0 : List UInt8) (k1 : Int → Option (Bool)) : Int → Option (Bool)
 | v50003 => (bif (decide (v50003 < (v0.length : Int))) then ((ix v0 v50003).bind fun v1010 => ((F_spec_l01Small (v1010.toNat : Int)).bind fun v1011 => (bif (!v1011) then ((ix v0 v50003).bind fun v1012 => ((F_spec_l01Digit (v1012.toNat : Int)).bind fun v1013 => (bif (!v1013) then some false
 else k1 (w64 (v50003 + 1)))))
 else k1 (w64 (v50003 + 1)))))
 else some true)
noncomputable def F_spec_l01Name (v0 : List UInt8) : Option (Bool) :=
 (bif (decide (v0 = [])) then some false
 else (bif (decide ((10 : Int) < (v0.length : Int))) then some false
 else ((ix v0 0).bind fun v1000 => ((F_spec_l01Small (v1000.toNat : Int)).bind fun v1001 => (bif (!v1001) then some false
 else loop (F_spec_l01Name_l0 v0) 0)))))
@[simp] def res_spec_l01Name (r : Bool) : RV := .one (.one (.val (.bool r)))
theorem con_spec_l01Name {v0 : List UInt8} {r : Bool} (hF : F_spec_l01Name v0 = some r) : Con Tryz.prog 88 [.str v0] (res_spec_l01Name r) := by
 unfold F_spec_l01Name at hF
 refine con_of c88_is fun N => ?_
 refine ws 0 64 ?_
 refine qp (AB false) rfl ?_
 refine r_nil ?_
 refine w_seq ?_
 refine ws 64 896 ?_
 refine qp (AS v0) rfl (qp (AB (decide (v0 = []))) rfl (qp (AB (decide (v0 = []))) rfl ?_))
 refine q_case 6 hF rfl (fun hF => ?_) (fun hF => ?_)
 ·
  refine qn3 (qp (AB true) rfl (qp (AB true) rfl (qn3 ?_)))
  refine qn rfl (qp (AB true) rfl ?_)
  refine r_nil ?_
  refine w_true rfl ?_
  refine ws 896 960 ?_
  refine qp (AB false) rfl ?_
  refine r_nil ?_
  refine w_ret ?_
  refine thenQ_r ?_
  cases hF
  exact eR
 ·
  refine qg (AS v0) rfl rfl (qg (AI (v0.length : Int)) rfl rfl (qg (AB (decide ((10 : Int) < (v0.length : Int)))) rfl rfl (qp (AB (decide ((10 : Int) < (v0.length : Int)))) rfl (qp (AB (decide ((10 : Int) < (v0.length : Int)))) rfl ?_))))
  refine q_case 11 hF rfl (fun hF => ?_) (fun hF => ?_)
  ·
   refine qn4 (qp (AB true) rfl ?_)
   refine r_nil ?_
   refine w_true rfl ?_
   refine ws 896 960 ?_
   refine qp (AB false) rfl ?_
   refine r_nil ?_
   refine w_ret ?_
   refine thenQ_r ?_
   cases hF
   exact eR
  ·
   refine qg (AS v0) rfl rfl ?_
   obtain ⟨v1000, e1000, hF⟩ := bind_get hF
   refine qg (.val none (.int .u8 (v1000.toNat : Int))) rfl (ev_ixs rfl rfl e1000) ?_
   obtain ⟨v1001, e1001, hF⟩ := bind_get hF
   refine qcg (AB v1001) [] false rfl (con_spec_l01Small e1001) c142_ok (by first | rfl | simp) rfl ?_
   refine qg (AB (!v1001)) rfl rfl (qp (AB (!v1001)) rfl ?_)
   refine r_nil ?_
   refine cF hF (fun hF => ?_) fun hF => ?_
   ·
    refine ws 896 960 ?_
    refine qp (AB false) rfl ?_
    refine r_nil ?_
    refine w_ret ?_
    refine thenQ_r ?_
    cases hF
    exact eR
   ·
    refine w_skip ?_
    refine thenQ_n ?_
    refine w_seq ?_
    refine ws 896 960 ?_
    refine qp (AI 0) rfl ?_
    refine r_nil ?_
    refine w_block ?_
    refine wr (l' := [(0, AS v0), (3, AI 0)]) (L := []) [0, 3] [] 1 ?_
    refine w_loopF (F_spec_l01Name_l0 v0) (fun s : Int => mkS [(0, AS v0), (3, AI s)] (fo []) 1) hF ?_
    rintro k1 v50003 hF
    rw [F_spec_l01Name_l0] at hF
    try dsimp only
    refine w_seq ?_
    refine ws 1 257 ?_
    refine qp (AI v50003) rfl (qp (AS v0) rfl (qp (AI (v0.length : Int)) rfl (qp (AB (decide (v50003 < (v0.length : Int)))) rfl ?_)))
    refine r_nil ?_
    refine cF hF (fun hF => ?_) fun hF => ?_
    ·
     refine w_skip ?_
     refine thenQ_n ?_
     refine w_seq ?_
     refine w_block ?_
     refine ws 257 1025 ?_
     refine qp (AS v0) rfl (qp (AI v50003) rfl ?_)
     obtain ⟨v1010, e1010, hF⟩ := bind_get hF
     refine qp (.val none (.int .u8 (v1010.toNat : Int))) (ev_ixs rfl rfl e1010) ?_
     obtain ⟨v1011, e1011, hF⟩ := bind_get hF
     refine qc (AB v1011) [] false (con_spec_l01Small e1011) c142_ok (by first | rfl | simp) rfl ?_
     refine qp (AB (!v1011)) rfl (qp (AB (!v1011)) rfl ?_)
     refine q_case 28 hF rfl (fun hF => ?_) (fun hF => ?_)
     ·
      refine qg (AS v0) rfl rfl (qg (AI v50003) rfl rfl ?_)
      obtain ⟨v1012, e1012, hF⟩ := bind_get hF
      refine qg (.val none (.int .u8 (v1012.toNat : Int))) rfl (ev_ixs rfl rfl e1012) ?_
      obtain ⟨v1013, e1013, hF⟩ := bind_get hF
      refine qcg (AB v1013) [] false rfl (con_spec_l01Digit e1013) c143_ok (by first | rfl | simp) rfl ?_
      refine qg (AB (!v1013)) rfl rfl (qp (AB (!v1013)) rfl ?_)
      refine r_nil ?_
      refine cF hF (fun hF => ?_) fun hF => ?_
      ·
       refine ws 1025 1089 ?_
       refine qp (AB false) rfl ?_
       refine r_nil ?_
       refine w_ret ?_
       refine blockQ_r ?_
       refine thenQ_r ?_
       refine thenQ_r ?_
       refine blockQ_r ?_
       refine thenQ_r ?_
       cases hF
       exact eR
      ·
       refine w_skip ?_
       refine blockQ_n ?_
       refine thenQ_n ?_
       refine w_reg 1025 1217 rfl rfl ?_
       refine qp (AI v50003) rfl (qp (AI (w64 (v50003 + 1))) rfl (qp (AI (w64 (v50003 + 1))) rfl ?_))
       refine r_nil ?_
       refine thenQ_n ?_
       refine ar (l' := [(0, AS v0), (3, AI (w64 (v50003 + 1)))]) (L := []) [0, 3] [] 1 ⟨_, by rfl, hF⟩
     ·
      refine qn5 (qp (AB false) rfl ?_)
      refine r_nil ?_
      refine w_false rfl ?_
      refine w_skip ?_
      refine blockQ_n ?_
      refine thenQ_n ?_
      refine w_reg 1025 1217 rfl rfl ?_
      refine qp (AI v50003) rfl (qp (AI (w64 (v50003 + 1))) rfl (qp (AI (w64 (v50003 + 1))) rfl ?_))
      refine r_nil ?_
      refine thenQ_n ?_
      refine ar (l' := [(0, AS v0), (3, AI (w64 (v50003 + 1)))]) (L := []) [0, 3] [] 1 ⟨_, by rfl, hF⟩
    ·
     refine w_exit ?_
     refine thenQ_e ?_
     refine thenQ_e ?_
     refine blockQ_e ?_
     refine thenQ_n ?_
     refine ws 257 321 ?_
     refine qp (AB true) rfl ?_
     exact rR hF

def c53 : MC := (.seq (.reg [pT 2 (.mv cf)]) (.seq (.seq (.reg [pT 3 (.mv (ci 0))]) (.block 0 (.loop (.seq (.seq (.reg [mvt 4 3, mvt 5 0, pT 6 (.nck t5), pT 7 (.fad t6 2), pT 8 (.ld t7 1 false), pT 9 (.lens t8), pT 10 (.bin .lss t4 t9)]) (.cond t10 .skip (.exit 0))) (.seq (.block 1 (.seq (.reg [mvt 13 0, pT 14 (.nck t13), pT 15 (.fad t14 2), pT 16 (.ld t15 1 false), mvt 17 3, pT 18 (.ixs t16 t17), pT 19 (.bin .eql t18 (.c (.int .u8 10)))]) (.cond t19 (.seq (.reg [pT 2 (.mv cf)]) .ret) .skip))) (.reg [mvt 11 3, pT 12 (.bin .add t11 (ci 1)), mvt 3 12])))))) (.seq (.reg [mvt 20 0, pT 21 (.nck t20), pT 22 (.fad t21 0), pT 23 (.ld t22 1 false), rg 24 (.call true 88 [t23]), mvt 25 24, nT 26 25 t0, kT 27 25 (.nck t26), kT 28 25 (.fad t27 1), kT 29 25 (.ld t28 1 false), ⟨(some 30), (some (25, true)), (.call true 88 [t29])⟩, pT 31 (.pick t25 t30 cf), mvt 32 31, nT 33 32 t0, kT 34 32 (.nck t33), kT 35 32 (.fad t34 2), kT 36 32 (.ld t35 1 false), kT 37 32 (.lens t36), kT 38 32 (.bin .leq t37 (ci 400)), pT 39 (.pick t32 t38 cf), mvt 2 39]) .ret)))
theorem c53_is : compFn Tryz.prog 53 = some (c53, [(.tmp 2)]) := by kernel_rfl
theorem c53_ok : okFn Tryz.prog 53 = true := by kernel_rfl

noncomputable def F_spec_l29One_l0 (v0 : TBlock) (k0 : Int → Option (Bool)) : Int → Option (Bool)
 | v50001 => (bif (decide (v50001 < (v0.2.2.length : Int))) then ((ix v0.2.2 v50001).bind fun v1000 => (bif (decide ((v1000.toNat : Int) = (10 : Int))) then some false
 else k0 (w64 (v50001 + 1))))
 else ((F_spec_l01Name v0.1).bind fun v1001 => (bif v1001 then ((F_spec_l01Name v0.2.1).bind fun v1002 => (bif v1002 then some (decide ((v0.2.2.length : Int) ≤ (400 : Int)))
 else some false))
 else some false)))
noncomputable def F_spec_l29One (v0 : TBlock) : Option (Bool) :=
 loop (F_spec_l29One_l0 v0) 0
@[simp] abbrev K0b (v0 : TBlock) : V := .ptr [.str v0.1, .str v0.2.1, .str v0.2.2]
@[simp] abbrev K0a (v0 : TBlock) : AV := .val none (K0b v0)
@[simp] def res_spec_l29One (r : Bool) : RV := .one (.one (.val (.bool r)))
theorem con_spec_l29One {v0 : TBlock} {r : Bool} (hF : F_spec_l29One v0 = some r) : Con Tryz.prog 53 [.ptr [.str v0.1, .str v0.2.1, .str v0.2.2]] (res_spec_l29One r) := by
 unfold F_spec_l29One at hF
 refine con_of c53_is fun N => ?_
 refine ws 0 64 ?_
 refine qp (AB false) rfl ?_
 refine r_nil ?_
 refine w_seq ?_
 refine ws 64 128 ?_
 refine qp (AI 0) rfl ?_
 refine r_nil ?_
 refine w_block ?_
 refine wr (l' := [(0, .val none (K0b v0)), (3, AI 0)]) (L := []) [0, 3] [] 1 ?_
 refine w_loopF (F_spec_l29One_l0 v0) (fun s : Int => mkS [(0, .val none (K0b v0)), (3, AI s)] (fo []) 1) hF ?_
 rintro k0 v50001 hF
 rw [F_spec_l29One_l0] at hF
 try dsimp only
 refine w_seq ?_
 refine ws 1 449 ?_
 refine qp (AI v50001) rfl (qp (K0a v0) rfl (qp (K0a v0) rfl (qp (.val none (.ptr [.str v0.2.2])) rfl (qp (AS v0.2.2) rfl (qp (AI (v0.2.2.length : Int)) rfl (qp (AB (decide (v50001 < (v0.2.2.length : Int)))) rfl ?_))))))
 refine r_nil ?_
 refine cF hF (fun hF => ?_) fun hF => ?_
 ·
  refine w_skip ?_
  refine thenQ_n ?_
  refine w_seq ?_
  refine w_block ?_
  refine ws 449 897 ?_
  refine qp (K0a v0) rfl (qp (K0a v0) rfl (qp (.val none (.ptr [.str v0.2.2])) rfl (qp (AS v0.2.2) rfl (qp (AI v50001) rfl ?_))))
  obtain ⟨v1000, e1000, hF⟩ := bind_get hF
  refine qp (.val none (.int .u8 (v1000.toNat : Int))) (ev_ixs rfl rfl e1000) (qp (AB (decide ((v1000.toNat : Int) = (10 : Int)))) rfl ?_)
  refine r_nil ?_
  refine cF hF (fun hF => ?_) fun hF => ?_
  ·
   refine ws 897 961 ?_
   refine qp (AB false) rfl ?_
   refine r_nil ?_
   refine w_ret ?_
   refine blockQ_r ?_
   refine thenQ_r ?_
   refine thenQ_r ?_
   refine blockQ_r ?_
   refine thenQ_r ?_
   cases hF
   exact eR
  ·
   refine w_skip ?_
   refine blockQ_n ?_
   refine thenQ_n ?_
   refine w_reg 897 1089 rfl rfl ?_
   refine qp (AI v50001) rfl (qp (AI (w64 (v50001 + 1))) rfl (qp (AI (w64 (v50001 + 1))) rfl ?_))
   refine r_nil ?_
   refine thenQ_n ?_
   refine ar (l' := [(0, .val none (K0b v0)), (3, AI (w64 (v50001 + 1)))]) (L := []) [0, 3] [] 1 ⟨_, by rfl, hF⟩
 ·
  refine w_exit ?_
  refine thenQ_e ?_
  refine thenQ_e ?_
  refine blockQ_e ?_
  refine thenQ_n ?_
  refine ws 449 1793 ?_
  refine qp (K0a v0) rfl (qp (K0a v0) rfl (qp (K0a v0) rfl (qp (AS v0.1) rfl ?_)))
  obtain ⟨v1001, e1001, hF⟩ := bind_get hF
  refine qc (AB v1001) [] false (con_spec_l01Name e1001) c88_ok (by first | rfl | simp) rfl ?_
  refine qp (AB v1001) rfl ?_
  refine q_case 25 hF rfl (fun hF => ?_) (fun hF => ?_)
  ·
   refine qg (K0a v0) rfl rfl (qg (K0a v0) rfl rfl (qg (.val none (.ptr [.str v0.2.1, .str v0.2.2])) rfl rfl (qg (AS v0.2.1) rfl rfl ?_)))
   obtain ⟨v1002, e1002, hF⟩ := bind_get hF
   refine qcg (AB v1002) [] false rfl (con_spec_l01Name e1002) c88_ok (by first | rfl | simp) rfl ?_
   refine qp (AB v1002) rfl (qp (AB v1002) rfl ?_)
   refine q_case 32 hF rfl (fun hF => ?_) (fun hF => ?_)
   ·
    refine qg (K0a v0) rfl rfl (qg (K0a v0) rfl rfl (qg (.val none (.ptr [.str v0.2.2])) rfl rfl (qg (AS v0.2.2) rfl rfl (qg (AI (v0.2.2.length : Int)) rfl rfl (qg (AB (decide ((v0.2.2.length : Int) ≤ (400 : Int)))) rfl rfl (qp (AB (decide ((v0.2.2.length : Int) ≤ (400 : Int)))) rfl (qp (AB (decide ((v0.2.2.length : Int) ≤ (400 : Int)))) rfl ?_)))))))
    exact rR hF
   ·
    refine qn6 (qp (AB false) rfl (qp (AB false) rfl ?_))
    exact rR hF
  ·
   refine qn5 (qp (AB false) rfl (qp (AB false) rfl (qn rfl ?_)))
   refine qn5 (qp (AB false) rfl (qp (AB false) rfl ?_))
   exact rR hF

def c54 : MC := (.seq (.reg [pT 4 (.mv cf)]) (.seq (.reg [mP 5 t0, pF 6 (.nck t5), pF 7 (.fad t6 0), pF 8 (.ld t7 1 false), mP 9 t1, pF 10 (.nck t9), pF 11 (.fad t10 0), pF 12 (.ld t11 1 false), pF 13 (.bin .lss t8 t12), mP 14 t13, mF 15 14 t0, gF 16 14 (.nck t15), gF 17 14 (.fad t16 0), gF 18 14 (.ld t17 1 false), mF 19 14 t1, gF 20 14 (.nck t19), gF 21 14 (.fad t20 0), gF 22 14 (.ld t21 1 false), gF 23 14 (.bin .eql t18 t22), mF 24 14 t23, mT 25 24 t0, gT 26 24 (.nck t25), gT 27 24 (.fad t26 1), gT 28 24 (.ld t27 1 false), mT 29 24 t1, gT 30 24 (.nck t29), gT 31 24 (.fad t30 1), gT 32 24 (.ld t31 1 false), gT 33 24 (.bin .lss t28 t32), gF 34 14 (.pick t24 t33 cf), pF 35 (.pick t14 ct t34), mP 4 t35]) .ret))
theorem c54_is : compFn Tryz.prog 54 = some (c54, [(.tmp 4)]) := by kernel_rfl
theorem c54_ok : okFn Tryz.prog 54 = true := by kernel_rfl

noncomputable def F_spec_l29Before (v0 : TBlock) (v1 : TBlock) : Option (Bool) :=
 (bif (Op.bytesLess v0.1 v1.1) then some true
 else (bif (decide (v0.1 = v1.1)) then some (Op.bytesLess v0.2.1 v1.2.1)
 else some false))
@[simp] abbrev K0c (v0 : TBlock) : AV := .val none (.ptr [.str v0.1, .str v0.2.1, .str v0.2.2])
@[simp] abbrev K0d (v1 : TBlock) : AV := .val none (.ptr [.str v1.1, .str v1.2.1, .str v1.2.2])
@[simp] def res_spec_l29Before (r : Bool) : RV := .one (.one (.val (.bool r)))
theorem con_spec_l29Before {v0 : TBlock} {v1 : TBlock} {r : Bool} (hF : F_spec_l29Before v0 v1 = some r) : Con Tryz.prog 54 [.ptr [.str v0.1, .str v0.2.1, .str v0.2.2], .ptr [.str v1.1, .str v1.2.1, .str v1.2.2]] (res_spec_l29Before r) := by
 unfold F_spec_l29Before at hF
 refine con_of c54_is fun N => ?_
 refine ws 0 64 ?_
 refine qp (AB false) rfl ?_
 refine r_nil ?_
 refine ws 64 2112 ?_
 refine qp (K0c v0) rfl (qp (K0c v0) rfl (qp (K0c v0) rfl (qp (AS v0.1) rfl (qp (K0d v1) rfl (qp (K0d v1) rfl (qp (K0d v1) rfl (qp (AS v1.1) rfl ?_)))))))
 refine qp (AB (Op.bytesLess v0.1 v1.1)) rfl (qp (AB (Op.bytesLess v0.1 v1.1)) rfl ?_)
 refine q_case 14 hF rfl (fun hF => ?_) (fun hF => ?_)
 ·
  refine qn8 ?_
  refine qn2 (qu rfl (qu rfl (qu rfl (qu rfl (qu rfl (qu rfl ?_))))))
  refine qu rfl (qu rfl (qu rfl (qn rfl (qp (AB true) rfl (qp (AB true) rfl ?_)))))
  exact rR hF
 ·
  refine qg (K0c v0) rfl rfl (qg (K0c v0) rfl rfl (qg (K0c v0) rfl rfl (qg (AS v0.1) rfl rfl (qg (K0d v1) rfl rfl (qg (K0d v1) rfl rfl (qg (K0d v1) rfl rfl (qg (AS v1.1) rfl rfl ?_)))))))
  refine qg (AB (decide (v0.1 = v1.1))) rfl rfl (qg (AB (decide (v0.1 = v1.1))) rfl rfl ?_)
  refine q_case 24 hF rfl (fun hF => ?_) (fun hF => ?_)
  ·
   refine qg (K0c v0) rfl rfl (qg (K0c v0) rfl rfl (qg (.val none (.ptr [.str v0.2.1, .str v0.2.2])) rfl rfl (qg (AS v0.2.1) rfl rfl (qg (K0d v1) rfl rfl (qg (K0d v1) rfl rfl (qg (.val none (.ptr [.str v1.2.1, .str v1.2.2])) rfl rfl (qg (AS v1.2.1) rfl rfl ?_)))))))
   refine qg (AB (Op.bytesLess v0.2.1 v1.2.1)) rfl rfl (qg (AB (Op.bytesLess v0.2.1 v1.2.1)) rfl rfl (qp (AB (Op.bytesLess v0.2.1 v1.2.1)) rfl (qp (AB (Op.bytesLess v0.2.1 v1.2.1)) rfl ?_)))
   exact rR hF
  ·
   refine qn8 ?_
   refine qn rfl (qg (AB false) rfl rfl (qp (AB false) rfl (qp (AB false) rfl ?_)))
   exact rR hF

def c24 : MC := (.seq (.reg [pT 2 (.mv cf)]) (.seq (.seq (.reg [pT 3 (.mv (ci 0))]) (.block 0 (.loop (.seq (.seq (.reg [mvt 4 3, mvt 5 0, pT 6 (.len t5), pT 7 (.bin .lss t4 t6)]) (.cond t7 .skip (.exit 0))) (.seq (.block 1 (.seq (.reg [mP 10 t0, mP 11 t3, pF 12 (.iad t10 t11 3), rg 13 (.call false 53 [t12]), pF 14 (.not t13), mP 15 t14, mF 16 15 t3, gF 17 15 (.bin .gtr t16 (ci 0)), mF 18 15 t17, mT 19 18 t0, mT 20 18 t3, gT 21 18 (.bin .sub t20 (ci 1)), gT 22 18 (.iad t19 t21 3), mT 23 18 t0, mT 24 18 t3, gT 25 18 (.iad t23 t24 3), ⟨(some 26), (some (18, true)), (.call false 54 [t22, t25])⟩, gT 27 18 (.not t26), gF 28 15 (.pick t18 t27 cf), pF 29 (.pick t15 ct t28)]) (.cond t29 (.seq (.reg [pT 2 (.mv cf)]) .ret) .skip))) (.reg [mvt 8 3, pT 9 (.bin .add t8 (ci 1)), mvt 3 9])))))) (.seq (.reg [mvt 30 0, pT 31 (.len t30), pT 32 (.bin .leq t31 (ci 32)), mvt 2 32]) .ret)))
theorem c24_is : compFn Tryz.prog 24 = some (c24, [(.tmp 2)]) := by kernel_rfl
theorem c24_ok : okFn Tryz.prog 24 = true := by kernel_rfl

noncomputable def F_spec_l29Ok_l0 (v0 : List TBlock) (k0 : Int → Option (Bool)) : Int → Option (Bool)
 | v50001 => (bif (decide (v50001 < (v0.length : Int))) then ((ix v0 v50001).bind fun v1000 => ((F_spec_l29One v1000).bind fun v1001 => (bif (!v1001) then some false
 else (bif (decide ((0 : Int) < v50001)) then ((ix v0 (w64 (v50001 - 1))).bind fun v1002 => ((ix v0 v50001).bind fun v1003 => ((F_spec_l29Before v1002 v1003).bind fun v1004 => (bif (!v1004) then some false
 else k0 (w64 (v50001 + 1))))))
 else k0 (w64 (v50001 + 1))))))
 else some (decide ((v0.length : Int) ≤ (32 : Int))))
noncomputable def F_spec_l29Ok (v0 : List TBlock) : Option (Bool) :=
 loop (F_spec_l29Ok_l0 v0) 0
@[simp] abbrev K0e (v0 : List TBlock) : V := .sl 3 (v0.map eBlock)
@[simp] def res_spec_l29Ok (r : Bool) : RV := .one (.one (.val (.bool r)))
theorem con_spec_l29Ok {v0 : List TBlock} {r : Bool} (hF : F_spec_l29Ok v0 = some r) : Con Tryz.prog 24 [.sl 3 (v0.map eBlock)] (res_spec_l29Ok r) := by
 unfold F_spec_l29Ok at hF
 refine con_of c24_is fun N => ?_
 refine ws 0 64 ?_
 refine qp (AB false) rfl ?_
 refine r_nil ?_
 refine w_seq ?_
 refine ws 64 128 ?_
 refine qp (AI 0) rfl ?_
 refine r_nil ?_
 refine w_block ?_
 refine wr (l' := [(0, .val none (K0e v0)), (3, AI 0)]) (L := []) [0, 3] [] 1 ?_
 refine w_loopF (F_spec_l29Ok_l0 v0) (fun s : Int => mkS [(0, .val none (K0e v0)), (3, AI s)] (fo []) 1) hF ?_
 rintro k0 v50001 hF
 rw [F_spec_l29Ok_l0] at hF
 try dsimp only
 refine w_seq ?_
 refine ws 1 257 ?_
 refine qp (AI v50001) rfl (qp (.val none (K0e v0)) rfl (qp (AI (v0.length : Int)) (ev_len_n rfl) (qp (AB (decide (v50001 < (v0.length : Int)))) rfl ?_)))
 refine r_nil ?_
 refine cF hF (fun hF => ?_) fun hF => ?_
 ·
  refine w_skip ?_
  refine thenQ_n ?_
  refine w_seq ?_
  refine w_block ?_
  refine ws 257 1537 ?_
  refine qp (.val none (K0e v0)) rfl (qp (AI v50001) rfl ?_)
  obtain ⟨v1000, e1000, hF⟩ := bind_get hF
  refine qp (.val none (.ptr [.str v1000.1, .str v1000.2.1, .str v1000.2.2])) (ev_iad_n rfl rfl e1000 rfl) ?_
  obtain ⟨v1001, e1001, hF⟩ := bind_get hF
  refine qc (AB v1001) [] false (con_spec_l29One e1001) c53_ok (by first | rfl | simp) rfl ?_
  refine qp (AB (!v1001)) rfl (qp (AB (!v1001)) rfl ?_)
  refine q_case 15 hF rfl (fun hF => ?_) (fun hF => ?_)
  ·
   refine qn3 (qu rfl (qu rfl (qu rfl (qu rfl (qu rfl ?_)))))
   refine qu rfl (qu rfl (qu rfl (qu rfl (qn rfl (qp (AB true) rfl ?_)))))
   refine r_nil ?_
   refine w_true rfl ?_
   refine ws 1537 1601 ?_
   refine qp (AB false) rfl ?_
   refine r_nil ?_
   refine w_ret ?_
   refine blockQ_r ?_
   refine thenQ_r ?_
   refine thenQ_r ?_
   refine blockQ_r ?_
   refine thenQ_r ?_
   cases hF
   exact eR
  ·
   refine qg (AI v50001) rfl rfl (qg (AB (decide ((0 : Int) < v50001))) rfl rfl (qg (AB (decide ((0 : Int) < v50001))) rfl rfl ?_))
   refine q_case 18 hF rfl (fun hF => ?_) (fun hF => ?_)
   ·
    refine qg (.val none (K0e v0)) rfl rfl (qg (AI v50001) rfl rfl (qg (AI (w64 (v50001 - 1))) rfl rfl ?_))
    obtain ⟨v1002, e1002, hF⟩ := bind_get hF
    refine qg (.val none (.ptr [.str v1002.1, .str v1002.2.1, .str v1002.2.2])) rfl (ev_iad_n rfl rfl e1002 rfl) (qg (.val none (K0e v0)) rfl rfl (qg (AI v50001) rfl rfl ?_))
    obtain ⟨v1003, e1003, hF⟩ := bind_get hF
    refine qg (.val none (.ptr [.str v1003.1, .str v1003.2.1, .str v1003.2.2])) rfl (ev_iad_n rfl rfl e1003 rfl) ?_
    obtain ⟨v1004, e1004, hF⟩ := bind_get hF
    refine qcg (AB v1004) [] false rfl (con_spec_l29Before e1004) c54_ok (by first | rfl | simp) rfl ?_
    refine qg (AB (!v1004)) rfl rfl (qg (AB (!v1004)) rfl rfl (qp (AB (!v1004)) rfl ?_))
    refine r_nil ?_
    refine cF hF (fun hF => ?_) fun hF => ?_
    ·
     refine ws 1537 1601 ?_
     refine qp (AB false) rfl ?_
     refine r_nil ?_
     refine w_ret ?_
     refine blockQ_r ?_
     refine thenQ_r ?_
     refine thenQ_r ?_
     refine blockQ_r ?_
     refine thenQ_r ?_
     cases hF
     exact eR
    ·
     refine w_skip ?_
     refine blockQ_n ?_
     refine thenQ_n ?_
     refine w_reg 1537 1729 rfl rfl ?_
     refine qp (AI v50001) rfl (qp (AI (w64 (v50001 + 1))) rfl (qp (AI (w64 (v50001 + 1))) rfl ?_))
     refine r_nil ?_
     refine thenQ_n ?_
     refine ar (l' := [(0, .val none (K0e v0)), (3, AI (w64 (v50001 + 1)))]) (L := []) [0, 3] [] 1 ⟨_, by rfl, hF⟩
   ·
    refine qn8 ?_
    refine qn rfl (qg (AB false) rfl rfl (qp (AB false) rfl ?_))
    refine r_nil ?_
    refine w_false rfl ?_
    refine w_skip ?_
    refine blockQ_n ?_
    refine thenQ_n ?_
    refine w_reg 1537 1729 rfl rfl ?_
    refine qp (AI v50001) rfl (qp (AI (w64 (v50001 + 1))) rfl (qp (AI (w64 (v50001 + 1))) rfl ?_))
    refine r_nil ?_
    refine thenQ_n ?_
    refine ar (l' := [(0, .val none (K0e v0)), (3, AI (w64 (v50001 + 1)))]) (L := []) [0, 3] [] 1 ⟨_, by rfl, hF⟩
 ·
  refine w_exit ?_
  refine thenQ_e ?_
  refine thenQ_e ?_
  refine blockQ_e ?_
  refine thenQ_n ?_
  refine ws 257 513 ?_
  refine qp (.val none (K0e v0)) rfl (qp (AI (v0.length : Int)) (ev_len_n rfl) (qp (AB (decide ((v0.length : Int) ≤ (32 : Int)))) rfl (qp (AB (decide ((v0.length : Int) ≤ (32 : Int)))) rfl ?_)))
  exact rR hF

def c55 : MC := (.seq (.reg [rg 4 (.f (.nilrow 1))]) (.seq (.reg [rg 8 (.f (.bsl 1 [])), mvt 5 8]) (.seq (.reg [pT 6 (.mv (ci 0))]) (.seq (.seq (.reg [pT 7 (.mv (ci 0))]) (.block 0 (.loop (.seq (.seq (.reg [mvt 9 7, mvt 10 0, pT 11 (.lens t10), pT 12 (.bin .lss t9 t11)]) (.cond t12 .skip (.exit 0))) (.seq (.block 1 (.seq (.reg [mvt 15 0, mvt 16 7, pT 17 (.ixs t15 t16), mvt 18 1, pT 19 (.bin .eql t17 t18)]) (.cond t19 (.seq (.reg [mvt 20 5, mvt 21 0, mvt 22 6, mvt 23 7, pT 24 (.slcs t21 (some t22) (some t23)), rg 25 (.f (.bsl 1 [t24])), rg 26 (.f (.app t20 t25 1 16 true)), mvt 5 26]) (.reg [mvt 27 7, pT 28 (.bin .add t27 (ci 1)), mvt 6 28])) .skip))) (.reg [mvt 13 7, pT 14 (.bin .add t13 (ci 1)), mvt 7 14])))))) (.seq (.reg [mvt 29 5, mvt 30 0, mvt 31 6, pT 32 (.slcs t30 (some t31) none), rg 33 (.f (.bsl 1 [t32])), rg 34 (.f (.app t29 t33 1 16 true)), mvt 4 34]) .ret)))))
theorem c55_is : compFn Tryz.prog 55 = some (c55, [(.tmp 4)]) := by kernel_rfl
theorem c55_ok : okFn Tryz.prog 55 = true := by kernel_rfl

noncomputable def F_spec_l01Split_l0 (v0 : List UInt8) (v1 : Int) (k0 : Int × Int × (List (List UInt8)) → Option (List (List UInt8))) : Int × Int × (List (List UInt8)) → Option (List (List UInt8))
 | (v50003, v50004, v50005) => (bif (decide (v50004 < (v0.length : Int))) then ((ix v0 v50004).bind fun v1000 => (bif (decide ((v1000.toNat : Int) = v1)) then (need (0 ≤ v50003 ∧ v50003 ≤ v50004 ∧ v50004 ≤ (v0.length : Int)) ((need (room (v50005.length + [sub v0 v50003 v50004].length) 16) (k0 (w64 (v50004 + 1), w64 (v50004 + 1), v50005 ++ [sub v0 v50003 v50004])))))
 else k0 (v50003, w64 (v50004 + 1), v50005)))
 else (need (0 ≤ v50003 ∧ v50003 ≤ (v0.length : Int) ∧ (v0.length : Int) ≤ (v0.length : Int)) ((need (room (v50005.length + [sub v0 v50003 (v0.length : Int)].length) 16) (some (v50005 ++ [sub v0 v50003 (v0.length : Int)]))))))
noncomputable def F_spec_l01Split (v0 : List UInt8) (v1 : Int) : Option (List (List UInt8)) :=
 loop (F_spec_l01Split_l0 v0 v1) (0, 0, [])
@[simp] abbrev K0f : List (Nat × Root) := [(0, .row true 1 (([] : List Int).map vI))]
@[simp] abbrev K0g (v0 : List UInt8) (v50003 : Int) (v50004 : Int) (v50005 : List (List UInt8)) : List (Nat × Root) := [(897, .row true 1 ([sub v0 v50003 v50004].map V.str)), (0, .row true 1 (v50005.map V.str))]
@[simp] abbrev K0h (v0 : List UInt8) (v50003 : Int) (v50005 : List (List UInt8)) : List (Nat × Root) := [(513, .row true 1 ([sub v0 v50003 (v0.length : Int)].map V.str)), (0, .row true 1 (v50005.map V.str))]
@[simp] def res_spec_l01Split (r : List (List UInt8)) : RV := .one (.one (.row true 1 (r.map V.str)))
theorem con_spec_l01Split {v0 : List UInt8} {v1 : Int} {r : List (List UInt8)} (hF : F_spec_l01Split v0 v1 = some r) : Con Tryz.prog 55 [.str v0, .int .u8 v1] (res_spec_l01Split r) := by
 unfold F_spec_l01Split at hF
 refine con_of c55_is fun N => ?_
 refine ws 0 64 ?_
 refine qf (.sl 0 0 0) K0f (by simp) ?_
 refine r_nil ?_
 refine ws 64 192 ?_
 refine qf (.sl 64 0 0) ((64, .row true 1 (([] : List (List UInt8)).map V.str)) :: K0f) (by simp [List.take_of_length_le]) ?_
 refine qp (.sl 64 0 0) rfl ?_
 refine r_nil ?_
 refine ws 192 256 ?_
 refine qp (AI 0) rfl ?_
 refine r_nil ?_
 refine w_seq ?_
 refine ws 256 320 ?_
 refine qp (AI 0) rfl ?_
 refine r_nil ?_
 refine w_block ?_
 refine wr (l' := [(0, AS v0), (1, .val none (.int .u8 v1)), (5, .sl 0 0 0), (6, AI 0), (7, AI 0)]) (L := [(0, .row true 1 (([] : List (List UInt8)).map V.str))]) [0, 1, 5, 6, 7] [(64, 0)] 1 ?_
 refine w_loopF (F_spec_l01Split_l0 v0 v1) (fun s : Int × Int × (List (List UInt8)) => mkS [(0, AS v0), (1, .val none (.int .u8 v1)), (5, .sl 0 0 s.2.2.length), (6, AI s.1), (7, AI s.2.1)] (fo [(0, .row true 1 (s.2.2.map V.str))]) 1) hF ?_
 rintro k0 ⟨v50003, v50004, v50005⟩ hF
 rw [F_spec_l01Split_l0] at hF
 try dsimp only
 refine w_seq ?_
 refine ws 1 257 ?_
 refine qp (AI v50004) rfl (qp (AS v0) rfl (qp (AI (v0.length : Int)) rfl (qp (AB (decide (v50004 < (v0.length : Int)))) rfl ?_)))
 refine r_nil ?_
 refine cF hF (fun hF => ?_) fun hF => ?_
 ·
  refine w_skip ?_
  refine thenQ_n ?_
  refine w_seq ?_
  refine w_block ?_
  refine ws 257 577 ?_
  refine qp (AS v0) rfl (qp (AI v50004) rfl ?_)
  obtain ⟨v1000, e1000, hF⟩ := bind_get hF
  refine qp (.val none (.int .u8 (v1000.toNat : Int))) (ev_ixs rfl rfl e1000) (qp (.val none (.int .u8 v1)) rfl (qp (AB (decide ((v1000.toNat : Int) = v1))) rfl ?_))
  refine r_nil ?_
  refine cF hF (fun hF => ?_) fun hF => ?_
  ·
   refine ws 577 1089 ?_
   refine qp (.sl 0 0 v50005.length) rfl (qp (AS v0) rfl (qp (AI v50003) rfl (qp (AI v50004) rfl ?_)))
   obtain ⟨g1001, hF⟩ := need_some hF
   refine qp (AS (sub v0 v50003 v50004)) (ev_slcs rfl (bnd_some rfl g1001.1) (bnd_some rfl (Int.le_trans g1001.1 g1001.2.1)) g1001) ?_
   refine qf (.sl 897 0 ([sub v0 v50003 v50004].length)) (K0g v0 v50003 v50004 v50005) (by simp [List.take_of_length_le]) ?_
   obtain ⟨g1002, hF⟩ := need_some hF
   refine qf (.sl 961 0 ((v50005 ++ [sub v0 v50003 v50004]).length)) ((961, .row true 1 ((v50005 ++ [sub v0 v50003 v50004]).map V.str)) :: (0, .dead) :: (897, .dead) :: (K0g v0 v50003 v50004 v50005)) (effT_app_l rfl (by simp) rfl rfl (by simp) rfl (by decide) g1002 rfl) ?_
   refine qp (.sl 961 0 ((v50005 ++ [sub v0 v50003 v50004]).length)) rfl ?_
   refine r_nil ?_
   refine w_reg 1089 1281 rfl rfl ?_
   refine qp (AI v50004) rfl (qp (AI (w64 (v50004 + 1))) rfl (qp (AI (w64 (v50004 + 1))) rfl ?_))
   refine r_nil ?_
   refine blockQ_n ?_
   refine thenQ_n ?_
   refine w_reg 1281 1473 rfl rfl ?_
   refine qp (AI v50004) rfl (qp (AI (w64 (v50004 + 1))) rfl (qp (AI (w64 (v50004 + 1))) rfl ?_))
   refine r_nil ?_
   refine thenQ_n ?_
   refine ar (l' := [(0, AS v0), (1, .val none (.int .u8 v1)), (5, .sl 0 0 (v50005 ++ [sub v0 v50003 v50004]).length), (6, AI (w64 (v50004 + 1))), (7, AI (w64 (v50004 + 1)))]) (L := [(0, .row true 1 ((v50005 ++ [sub v0 v50003 v50004]).map V.str))]) [0, 1, 5, 6, 7] [(961, 0)] 1 ⟨_, by rfl, hF⟩
  ·
   refine w_skip ?_
   refine blockQ_n ?_
   refine thenQ_n ?_
   refine w_reg 577 769 rfl rfl ?_
   refine qp (AI v50004) rfl (qp (AI (w64 (v50004 + 1))) rfl (qp (AI (w64 (v50004 + 1))) rfl ?_))
   refine r_nil ?_
   refine thenQ_n ?_
   refine ar (l' := [(0, AS v0), (1, .val none (.int .u8 v1)), (5, .sl 0 0 v50005.length), (6, AI v50003), (7, AI (w64 (v50004 + 1)))]) (L := [(0, .row true 1 (v50005.map V.str))]) [0, 1, 5, 6, 7] [(0, 0)] 1 ⟨_, by rfl, hF⟩
 ·
  refine w_exit ?_
  refine thenQ_e ?_
  refine thenQ_e ?_
  refine blockQ_e ?_
  refine thenQ_n ?_
  refine ws 257 705 ?_
  refine qp (.sl 0 0 v50005.length) rfl (qp (AS v0) rfl (qp (AI v50003) rfl ?_))
  obtain ⟨g1003, hF⟩ := need_some hF
  refine qp (AS (sub v0 v50003 (v0.length : Int))) (ev_slcs rfl (bnd_some rfl g1003.1) rfl g1003) ?_
  refine qf (.sl 513 0 ([sub v0 v50003 (v0.length : Int)].length)) (K0h v0 v50003 v50005) (by simp [List.take_of_length_le]) ?_
  obtain ⟨g1004, hF⟩ := need_some hF
  refine qf (.sl 577 0 ((v50005 ++ [sub v0 v50003 (v0.length : Int)]).length)) ((577, .row true 1 ((v50005 ++ [sub v0 v50003 (v0.length : Int)]).map V.str)) :: (0, .dead) :: (513, .dead) :: (K0h v0 v50003 v50005)) (effT_app_l rfl (by simp) rfl rfl (by simp) rfl (by decide) g1004 rfl) ?_
  refine qp (.sl 577 0 ((v50005 ++ [sub v0 v50003 (v0.length : Int)]).length)) rfl ?_
  exact rR hF

def c144 : MC := (.seq (.reg [pT 0 (.mv (.c (.str [])))]) (.seq (.reg [pT 0 (.mv (.c (.str [83, 114, 82, 103, 71, 109, 77, 80, 100, 68, 110, 78])))]) .ret))
theorem c144_is : compFn Tryz.prog 144 = some (c144, [(.tmp 0)]) := by kernel_rfl
theorem c144_ok : okFn Tryz.prog 144 = true := by kernel_rfl

noncomputable def F_spec_l03Names : Option (List UInt8) :=
 some [83, 114, 82, 103, 71, 109, 77, 80, 100, 68, 110, 78]
@[simp] def res_spec_l03Names (r : List UInt8) : RV := .one (.one (.val (.str r)))
theorem con_spec_l03Names {r : List UInt8} (hF : F_spec_l03Names = some r) : Con Tryz.prog 144 [] (res_spec_l03Names r) := by
 unfold F_spec_l03Names at hF
 refine con_of c144_is fun N => ?_
 refine ws 0 64 ?_
 refine qp (AS []) rfl ?_
 refine r_nil ?_
 refine ws 64 128 ?_
 refine qp (AS [83, 114, 82, 103, 71, 109, 77, 80, 100, 68, 110, 78]) rfl ?_
 exact rR hF

def c89 : MC := (.seq (.reg [pT 2 (.mv (ci 0))]) (.seq (.reg [rg 5 (.call true 144 []), mvt 3 5]) (.seq (.seq (.reg [pT 4 (.mv (ci 0))]) (.block 0 (.loop (.seq (.seq (.reg [mvt 6 4, mvt 7 3, pT 8 (.lens t7), pT 9 (.bin .lss t6 t8)]) (.cond t9 .skip (.exit 0))) (.seq (.block 1 (.seq (.reg [mvt 12 3, mvt 13 4, pT 14 (.ixs t12 t13), mvt 15 0, pT 16 (.bin .eql t14 t15)]) (.cond t16 (.seq (.reg [mvt 17 4, mvt 2 17]) .ret) .skip))) (.reg [mvt 10 4, pT 11 (.bin .add t10 (ci 1)), mvt 4 11])))))) (.seq (.reg [pT 2 (.mv (ci (-1)))]) .ret))))
theorem c89_is : compFn Tryz.prog 89 = some (c89, [(.tmp 2)]) := by kernel_rfl
theorem c89_ok : okFn Tryz.prog 89 = true := by kernel_rfl

noncomputable def F_spec_l03Named_l0 (v0 : Int) (v1000 : List UInt8) (k1 : Int → Option (Int)) : Int → Option (Int)
 | v50003 => (bif (decide (v50003 < (v1000.length : Int))) then ((ix v1000 v50003).bind fun v1003 => (bif (decide ((v1003.toNat : Int) = v0)) then some v50003
 else k1 (w64 (v50003 + 1))))
 else some (-1))
noncomputable def F_spec_l03Named (v0 : Int) : Option (Int) :=
 ((F_spec_l03Names).bind fun v1000 => loop (F_spec_l03Named_l0 v0 v1000) 0)
@[simp] def res_spec_l03Named (r : Int) : RV := .one (.one (.val (.int .i64 r)))
theorem con_spec_l03Named {v0 : Int} {r : Int} (hF : F_spec_l03Named v0 = some r) : Con Tryz.prog 89 [.int .u8 v0] (res_spec_l03Named r) := by
 unfold F_spec_l03Named at hF
 refine con_of c89_is fun N => ?_
 refine ws 0 64 ?_
 refine qp (AI 0) rfl ?_
 refine r_nil ?_
 refine ws 64 192 ?_
 obtain ⟨v1000, e1000, hF⟩ := bind_get hF
 refine qc (AS v1000) [] false (con_spec_l03Names e1000) c144_ok (by first | rfl | simp) rfl ?_
 refine qp (AS v1000) rfl ?_
 refine r_nil ?_
 refine w_seq ?_
 refine ws 192 256 ?_
 refine qp (AI 0) rfl ?_
 refine r_nil ?_
 refine w_block ?_
 refine wr (l' := [(0, .val none (.int .u8 v0)), (3, AS v1000), (4, AI 0)]) (L := []) [0, 3, 4] [] 1 ?_
 refine w_loopF (F_spec_l03Named_l0 v0 v1000) (fun s : Int => mkS [(0, .val none (.int .u8 v0)), (3, AS v1000), (4, AI s)] (fo []) 1) hF ?_
 rintro k1 v50003 hF
 rw [F_spec_l03Named_l0] at hF
 try dsimp only
 refine w_seq ?_
 refine ws 1 257 ?_
 refine qp (AI v50003) rfl (qp (AS v1000) rfl (qp (AI (v1000.length : Int)) rfl (qp (AB (decide (v50003 < (v1000.length : Int)))) rfl ?_)))
 refine r_nil ?_
 refine cF hF (fun hF => ?_) fun hF => ?_
 ·
  refine w_skip ?_
  refine thenQ_n ?_
  refine w_seq ?_
  refine w_block ?_
  refine ws 257 577 ?_
  refine qp (AS v1000) rfl (qp (AI v50003) rfl ?_)
  obtain ⟨v1003, e1003, hF⟩ := bind_get hF
  refine qp (.val none (.int .u8 (v1003.toNat : Int))) (ev_ixs rfl rfl e1003) (qp (.val none (.int .u8 v0)) rfl (qp (AB (decide ((v1003.toNat : Int) = v0))) rfl ?_))
  refine r_nil ?_
  refine cF hF (fun hF => ?_) fun hF => ?_
  ·
   refine ws 577 705 ?_
   refine qp (AI v50003) rfl (qp (AI v50003) rfl ?_)
   refine r_nil ?_
   refine w_ret ?_
   refine blockQ_r ?_
   refine thenQ_r ?_
   refine thenQ_r ?_
   refine blockQ_r ?_
   refine thenQ_r ?_
   cases hF
   exact eR
  ·
   refine w_skip ?_
   refine blockQ_n ?_
   refine thenQ_n ?_
   refine w_reg 577 769 rfl rfl ?_
   refine qp (AI v50003) rfl (qp (AI (w64 (v50003 + 1))) rfl (qp (AI (w64 (v50003 + 1))) rfl ?_))
   refine r_nil ?_
   refine thenQ_n ?_
   refine ar (l' := [(0, .val none (.int .u8 v0)), (3, AS v1000), (4, AI (w64 (v50003 + 1)))]) (L := []) [0, 3, 4] [] 1 ⟨_, by rfl, hF⟩
 ·
  refine w_exit ?_
  refine thenQ_e ?_
  refine thenQ_e ?_
  refine blockQ_e ?_
  refine thenQ_n ?_
  refine ws 257 321 ?_
  refine qp (AI (-1)) rfl ?_
  exact rR hF

def c90 : MC := (.seq (.reg [pT 2 (.mv (ci 0)), pT 3 (.mv cf)]) (.seq (.reg [pT 4 (.mv (ci 0))]) (.seq (.seq (.reg [mvt 7 0, pT 8 (.lens t7), pT 9 (.bin .gtr t8 (ci 0)), mvt 10 9, nT 11 10 t0, kT 12 10 (.ixs t11 (ci 0)), kT 13 10 (.bin .eql t12 (.c (.int .u8 45))), pT 14 (.pick t10 t13 cf)]) (.cond t14 (.reg [pT 4 (.mv (ci 1))]) .skip)) (.seq (.seq (.reg [mvt 15 0, pT 16 (.lens t15), mvt 17 4, pT 18 (.bin .eql t16 t17), mvt 19 18, nF 20 19 t0, kF 21 19 (.lens t20), nF 22 19 t4, kF 23 19 (.bin .sub t21 t22), kF 24 19 (.bin .gtr t23 (ci 18)), pT 25 (.pick t19 ct t24), mvt 26 25, nF 27 26 t0, nF 28 26 t4, kF 29 26 (.ixs t27 t28), kF 30 26 (.bin .eql t29 (.c (.int .u8 48))), nF 31 26 t30, nT 32 31 t0, kT 33 31 (.lens t32), kT 34 31 (.bin .gtr t33 (ci 1)), kF 35 26 (.pick t31 t34 cf), pT 36 (.pick t26 ct t35)]) (.cond t36 (.seq (.reg [pT 2 (.mv (ci 0)), pT 3 (.mv cf)]) .ret) .skip)) (.seq (.reg [pT 5 (.mv (ci 0))]) (.seq (.seq (.reg [mvt 37 4, mvt 6 37]) (.block 0 (.loop (.seq (.seq (.reg [mvt 38 6, mvt 39 0, pT 40 (.lens t39), pT 41 (.bin .lss t38 t40)]) (.cond t41 .skip (.exit 0))) (.seq (.block 1 (.seq (.seq (.reg [mvt 44 0, mvt 45 6, pT 46 (.ixs t44 t45), rg 47 (.call true 143 [t46]), pT 48 (.not t47)]) (.cond t48 (.seq (.reg [pT 2 (.mv (ci 0)), pT 3 (.mv cf)]) .ret) .skip)) (.reg [mvt 49 5, pT 50 (.bin .mul (ci 10) t49), mvt 51 0, mvt 52 6, pT 53 (.ixs t51 t52), pT 54 (.bin .sub t53 (.c (.int .u8 48))), pT 55 (.conv .i64 t54), pT 56 (.bin .add t50 t55), mvt 5 56]))) (.reg [mvt 42 6, pT 43 (.bin .add t42 (ci 1)), mvt 6 43])))))) (.seq (.seq (.reg [mvt 57 4, pT 58 (.bin .eql t57 (ci 1))]) (.cond t58 (.reg [mvt 59 5, pT 60 (.neg t59), mvt 5 60]) .skip)) (.seq (.reg [mvt 61 5, mvt 2 61, pT 3 (.mv ct)]) .ret))))))))
theorem c90_is : compFn Tryz.prog 90 = some (c90, [(.tmp 2), (.tmp 3)]) := by kernel_rfl
theorem c90_ok : okFn Tryz.prog 90 = true := by kernel_rfl

noncomputable def F_spec_l01Number_l2 (v0 : List UInt8) (v50000 : Int) (k0 : Int × Int → Option (Int × Bool)) : Int × Int → Option (Int × Bool)
 | (v50003, v50004) => (bif (decide (v50004 < (v0.length : Int))) then ((ix v0 v50004).bind fun v1002 => ((F_spec_l01Digit (v1002.toNat : Int)).bind fun v1003 => (bif (!v1003) then some (0, false)
 else ((ix v0 v50004).bind fun v1004 => k0 (w64 ((w64 (10 * v50003)) + (w64 (IntKind.wrap .u8 ((v1004.toNat : Int) - 48)))), w64 (v50004 + 1))))))
 else (bif (decide (v50000 = (1 : Int))) then some (w64 (0 - v50003), true)
 else some (v50003, true)))
noncomputable def F_spec_l01Number_j1 (v0 : List UInt8) (v50000 : Int) : Option (Int × Bool) :=
 loop (F_spec_l01Number_l2 v0 v50000) (0, v50000)
noncomputable def F_spec_l01Number_j0 (v0 : List UInt8) (v50000 : Int) : Option (Int × Bool) :=
 (bif (decide ((v0.length : Int) = v50000)) then some (0, false)
 else (bif (decide ((18 : Int) < w64 ((v0.length : Int) - v50000))) then some (0, false)
 else ((ix v0 v50000).bind fun v1001 => (bif (decide ((v1001.toNat : Int) = (48 : Int))) then (bif (decide ((1 : Int) < (v0.length : Int))) then some (0, false)
 else F_spec_l01Number_j1 v0 v50000)
 else F_spec_l01Number_j1 v0 v50000))))
noncomputable def F_spec_l01Number (v0 : List UInt8) : Option (Int × Bool) :=
 (bif (decide ((0 : Int) < (v0.length : Int))) then ((ix v0 0).bind fun v1000 => (bif (decide ((v1000.toNat : Int) = (45 : Int))) then F_spec_l01Number_j0 v0 1
 else F_spec_l01Number_j0 v0 0))
 else F_spec_l01Number_j0 v0 0)
@[simp] def res_spec_l01Number (r : Int × Bool) : RV := .tup [.one (.val (.int .i64 r.1)), .one (.val (.bool r.2))]
theorem con_spec_l01Number {v0 : List UInt8} {r : Int × Bool} (hF : F_spec_l01Number v0 = some r) : Con Tryz.prog 90 [.str v0] (res_spec_l01Number r) := by
 unfold F_spec_l01Number at hF
 refine con_of c90_is fun N => ?_
 refine ws 0 128 ?_
 refine qp (AI 0) rfl (qp (AB false) rfl ?_)
 refine r_nil ?_
 refine ws 128 192 ?_
 refine qp (AI 0) rfl ?_
 refine r_nil ?_
 refine w_meet (fun s' => ∃ (v50000 : Int), s' = mkS [(0, AS v0), (4, AI v50000)] (fo []) 1 ∧ F_spec_l01Number_j0 v0 v50000 = some r) ?_ ?_
 ·
  refine ws 192 704 ?_
  refine qp (AS v0) rfl (qp (AI (v0.length : Int)) rfl (qp (AB (decide ((0 : Int) < (v0.length : Int)))) rfl (qp (AB (decide ((0 : Int) < (v0.length : Int)))) rfl ?_)))
  refine q_case 10 hF rfl (fun hF => ?_) (fun hF => ?_)
  ·
   refine qg (AS v0) rfl rfl ?_
   obtain ⟨v1000, e1000, hF⟩ := bind_get hF
   refine qg (.val none (.int .u8 (v1000.toNat : Int))) rfl (ev_ixs rfl rfl e1000) (qg (AB (decide ((v1000.toNat : Int) = (45 : Int)))) rfl rfl (qp (AB (decide ((v1000.toNat : Int) = (45 : Int)))) rfl ?_))
   refine r_nil ?_
   refine cF hF (fun hF => ?_) fun hF => ?_
   ·
    refine w_reg 704 768 rfl rfl ?_
    refine qp (AI 1) rfl ?_
    refine r_nil ?_
    refine thenQ_n ?_
    refine aw_ren (l' := [(0, AS v0), (4, AI 1)]) (L := []) [0, 4] [] 1 (by first | rfl | simp) (by first | rfl | simp) (by decide) (by decide) (by decide) ⟨_, rfl, hF⟩
   ·
    refine w_skip ?_
    refine thenQ_n ?_
    refine aw_ren (l' := [(0, AS v0), (4, AI 0)]) (L := []) [0, 4] [] 1 (by first | rfl | simp) (by first | rfl | simp) (by decide) (by decide) (by decide) ⟨_, rfl, hF⟩
  ·
   refine qn3 (qp (AB false) rfl ?_)
   refine r_nil ?_
   refine w_false rfl ?_
   refine w_skip ?_
   refine thenQ_n ?_
   refine aw_ren (l' := [(0, AS v0), (4, AI 0)]) (L := []) [0, 4] [] 1 (by first | rfl | simp) (by first | rfl | simp) (by decide) (by decide) (by decide) ⟨_, rfl, hF⟩
 ·
  rintro s' ⟨v50000, rfl, hF⟩
  unfold F_spec_l01Number_j0 at hF
  refine w_meet (fun s' => s' = mkS [(0, AS v0), (4, AI v50000)] (fo []) 1 ∧ F_spec_l01Number_j1 v0 v50000 = some r) ?_ ?_
  ·
   refine ws 1 1409 ?_
   refine qp (AS v0) rfl (qp (AI (v0.length : Int)) rfl (qp (AI v50000) rfl (qp (AB (decide ((v0.length : Int) = v50000))) rfl (qp (AB (decide ((v0.length : Int) = v50000))) rfl ?_))))
   refine q_case 19 hF rfl (fun hF => ?_) (fun hF => ?_)
   ·
    refine qn5 (qp (AB true) rfl (qp (AB true) rfl (qn rfl ?_)))
    refine qn4 (qu rfl (qu rfl (qu rfl (qn rfl ?_))))
    refine qp (AB true) rfl ?_
    refine r_nil ?_
    refine w_true rfl ?_
    refine ws 1409 1537 ?_
    refine qp (AI 0) rfl (qp (AB false) rfl ?_)
    refine r_nil ?_
    refine w_ret ?_
    refine thenQ_r ?_
    cases hF
    exact eR
   ·
    refine qg (AS v0) rfl rfl (qg (AI (v0.length : Int)) rfl rfl (qg (AI v50000) rfl rfl (qg (AI (w64 ((v0.length : Int) - v50000))) rfl rfl (qg (AB (decide ((18 : Int) < w64 ((v0.length : Int) - v50000)))) rfl rfl (qp (AB (decide ((18 : Int) < w64 ((v0.length : Int) - v50000)))) rfl (qp (AB (decide ((18 : Int) < w64 ((v0.length : Int) - v50000)))) rfl ?_))))))
    refine q_case 26 hF rfl (fun hF => ?_) (fun hF => ?_)
    ·
     refine qn5 (qu rfl (qu rfl (qu rfl ?_)))
     refine qn rfl (qp (AB true) rfl ?_)
     refine r_nil ?_
     refine w_true rfl ?_
     refine ws 1409 1537 ?_
     refine qp (AI 0) rfl (qp (AB false) rfl ?_)
     refine r_nil ?_
     refine w_ret ?_
     refine thenQ_r ?_
     cases hF
     exact eR
    ·
     refine qg (AS v0) rfl rfl (qg (AI v50000) rfl rfl ?_)
     obtain ⟨v1001, e1001, hF⟩ := bind_get hF
     refine qg (.val none (.int .u8 (v1001.toNat : Int))) rfl (ev_ixs rfl rfl e1001) (qg (AB (decide ((v1001.toNat : Int) = (48 : Int)))) rfl rfl (qg (AB (decide ((v1001.toNat : Int) = (48 : Int)))) rfl rfl ?_))
     refine q_case 31 hF rfl (fun hF => ?_) (fun hF => ?_)
     ·
      refine qg (AS v0) rfl rfl (qg (AI (v0.length : Int)) rfl rfl (qg (AB (decide ((1 : Int) < (v0.length : Int)))) rfl rfl (qg (AB (decide ((1 : Int) < (v0.length : Int)))) rfl rfl (qp (AB (decide ((1 : Int) < (v0.length : Int)))) rfl ?_))))
      refine r_nil ?_
      refine cF hF (fun hF => ?_) fun hF => ?_
      ·
       refine ws 1409 1537 ?_
       refine qp (AI 0) rfl (qp (AB false) rfl ?_)
       refine r_nil ?_
       refine w_ret ?_
       refine thenQ_r ?_
       cases hF
       exact eR
      ·
       refine w_skip ?_
       refine thenQ_n ?_
       refine aw_ren (l' := [(0, AS v0), (4, AI v50000)]) (L := []) [0, 4] [] 1 (by first | rfl | simp) (by first | rfl | simp) (by decide) (by decide) (by decide) ⟨rfl, hF⟩
     ·
      refine qn3 (qg (AB false) rfl rfl (qp (AB false) rfl ?_))
      refine r_nil ?_
      refine w_false rfl ?_
      refine w_skip ?_
      refine thenQ_n ?_
      refine aw_ren (l' := [(0, AS v0), (4, AI v50000)]) (L := []) [0, 4] [] 1 (by first | rfl | simp) (by first | rfl | simp) (by decide) (by decide) (by decide) ⟨rfl, hF⟩
  ·
   rintro s' ⟨rfl, hF⟩
   unfold F_spec_l01Number_j1 at hF
   refine ws 1 65 ?_
   refine qp (AI 0) rfl ?_
   refine r_nil ?_
   refine w_seq ?_
   refine ws 65 193 ?_
   refine qp (AI v50000) rfl (qp (AI v50000) rfl ?_)
   refine r_nil ?_
   refine w_block ?_
   refine wr (l' := [(0, AS v0), (4, AI v50000), (5, AI 0), (6, AI v50000)]) (L := []) [0, 4, 5, 6] [] 1 ?_
   refine w_loopF (F_spec_l01Number_l2 v0 v50000) (fun s : Int × Int => mkS [(0, AS v0), (4, AI v50000), (5, AI s.1), (6, AI s.2)] (fo []) 1) hF ?_
   rintro k0 ⟨v50003, v50004⟩ hF
   rw [F_spec_l01Number_l2] at hF
   try dsimp only
   refine w_seq ?_
   refine ws 1 257 ?_
   refine qp (AI v50004) rfl (qp (AS v0) rfl (qp (AI (v0.length : Int)) rfl (qp (AB (decide (v50004 < (v0.length : Int)))) rfl ?_)))
   refine r_nil ?_
   refine cF hF (fun hF => ?_) fun hF => ?_
   ·
    refine w_skip ?_
    refine thenQ_n ?_
    refine w_seq ?_
    refine w_block ?_
    refine w_seq ?_
    refine ws 257 577 ?_
    refine qp (AS v0) rfl (qp (AI v50004) rfl ?_)
    obtain ⟨v1002, e1002, hF⟩ := bind_get hF
    refine qp (.val none (.int .u8 (v1002.toNat : Int))) (ev_ixs rfl rfl e1002) ?_
    obtain ⟨v1003, e1003, hF⟩ := bind_get hF
    refine qc (AB v1003) [] false (con_spec_l01Digit e1003) c143_ok (by first | rfl | simp) rfl ?_
    refine qp (AB (!v1003)) rfl ?_
    refine r_nil ?_
    refine cF hF (fun hF => ?_) fun hF => ?_
    ·
     refine ws 577 705 ?_
     refine qp (AI 0) rfl (qp (AB false) rfl ?_)
     refine r_nil ?_
     refine w_ret ?_
     refine thenQ_r ?_
     refine blockQ_r ?_
     refine thenQ_r ?_
     refine thenQ_r ?_
     refine blockQ_r ?_
     refine thenQ_r ?_
     cases hF
     exact eR
    ·
     refine w_skip ?_
     refine thenQ_n ?_
     refine w_reg 577 1153 rfl rfl ?_
     refine qp (AI v50003) rfl (qp (AI (w64 (10 * v50003))) rfl (qp (AS v0) rfl (qp (AI v50004) rfl ?_)))
     obtain ⟨v1004, e1004, hF⟩ := bind_get hF
     refine qp (.val none (.int .u8 (v1004.toNat : Int))) (ev_ixs rfl rfl e1004) (qp (.val none (.int .u8 (IntKind.wrap .u8 ((v1004.toNat : Int) - 48)))) rfl (qp (AI (w64 (IntKind.wrap .u8 ((v1004.toNat : Int) - 48)))) rfl (qp (AI (w64 ((w64 (10 * v50003)) + (w64 (IntKind.wrap .u8 ((v1004.toNat : Int) - 48)))))) rfl (qp (AI (w64 ((w64 (10 * v50003)) + (w64 (IntKind.wrap .u8 ((v1004.toNat : Int) - 48)))))) rfl ?_))))
     refine r_nil ?_
     refine blockQ_n ?_
     refine thenQ_n ?_
     refine w_reg 1153 1345 rfl rfl ?_
     refine qp (AI v50004) rfl (qp (AI (w64 (v50004 + 1))) rfl (qp (AI (w64 (v50004 + 1))) rfl ?_))
     refine r_nil ?_
     refine thenQ_n ?_
     refine ar (l' := [(0, AS v0), (4, AI v50000), (5, AI (w64 ((w64 (10 * v50003)) + (w64 (IntKind.wrap .u8 ((v1004.toNat : Int) - 48)))))), (6, AI (w64 (v50004 + 1)))]) (L := []) [0, 4, 5, 6] [] 1 ⟨_, by rfl, hF⟩
   ·
    refine w_exit ?_
    refine thenQ_e ?_
    refine thenQ_e ?_
    refine blockQ_e ?_
    refine thenQ_n ?_
    refine w_seq ?_
    refine ws 257 385 ?_
    refine qp (AI v50000) rfl (qp (AB (decide (v50000 = (1 : Int)))) rfl ?_)
    refine r_nil ?_
    refine cF hF (fun hF => ?_) fun hF => ?_
    ·
     refine w_reg 385 577 rfl rfl ?_
     refine qp (AI v50003) rfl (qp (AI (w64 (0 - v50003))) rfl (qp (AI (w64 (0 - v50003))) rfl ?_))
     refine r_nil ?_
     refine thenQ_n ?_
     refine ws 577 769 ?_
     refine qp (AI (w64 (0 - v50003))) rfl (qp (AI (w64 (0 - v50003))) rfl (qp (AB true) rfl ?_))
     exact rR hF
    ·
     refine w_skip ?_
     refine thenQ_n ?_
     refine ws 385 577 ?_
     refine qp (AI v50003) rfl (qp (AI v50003) rfl (qp (AB true) rfl ?_))
     exact rR hF

def c110 : MC := (.seq (.reg [pT 6 (.mv cf)]) (.seq (.reg [mvt 7 0, mvt 8 1, pT 9 (.bin .geq t7 t8), mvt 10 9, nT 11 10 t0, nT 12 10 t2, kT 13 10 (.bin .leq t11 t12), pT 14 (.pick t10 t13 cf), mvt 6 14]) .ret))
theorem c110_is : compFn Tryz.prog 110 = some (c110, [(.tmp 6)]) := by kernel_rfl
theorem c110_ok : okFn Tryz.prog 110 = true := by kernel_rfl

noncomputable def F_spec_l00In (v0 : Int) (v1 : Int) (v2 : Int) : Option (Bool) :=
 (bif (decide (v1 ≤ v0)) then some (decide (v0 ≤ v2))
 else some false)
@[simp] def res_spec_l00In (r : Bool) : RV := .one (.one (.val (.bool r)))
theorem con_spec_l00In {v0 : Int} {v1 : Int} {v2 : Int} {r : Bool} (hF : F_spec_l00In v0 v1 v2 = some r) : Con Tryz.prog 110 [.int .i64 v0, .int .i64 v1, .int .i64 v2] (res_spec_l00In r) := by
 unfold F_spec_l00In at hF
 refine con_of c110_is fun N => ?_
 refine ws 0 64 ?_
 refine qp (AB false) rfl ?_
 refine r_nil ?_
 refine ws 64 640 ?_
 refine qp (AI v0) rfl (qp (AI v1) rfl (qp (AB (decide (v1 ≤ v0))) rfl (qp (AB (decide (v1 ≤ v0))) rfl ?_)))
 refine q_case 10 hF rfl (fun hF => ?_) (fun hF => ?_)
 ·
  refine qg (AI v0) rfl rfl (qg (AI v2) rfl rfl (qg (AB (decide (v0 ≤ v2))) rfl rfl (qp (AB (decide (v0 ≤ v2))) rfl (qp (AB (decide (v0 ≤ v2))) rfl ?_))))
  exact rR hF
 ·
  refine qn3 (qp (AB false) rfl (qp (AB false) rfl ?_))
  exact rR hF

def c91 : MC := (.seq (.reg [pT 2 (.mv cf)]) (.seq (.reg [mvt 3 0, rg 4 (.call true 110 [t3, (ci 1), (ci 64)]), mvt 2 4]) .ret))
theorem c91_is : compFn Tryz.prog 91 = some (c91, [(.tmp 2)]) := by kernel_rfl
theorem c91_ok : okFn Tryz.prog 91 = true := by kernel_rfl

noncomputable def F_spec_l09Length (v0 : Int) : Option (Bool) :=
 ((F_spec_l00In v0 1 64).bind fun v1000 => some v1000)
@[simp] def res_spec_l09Length (r : Bool) : RV := .one (.one (.val (.bool r)))
theorem con_spec_l09Length {v0 : Int} {r : Bool} (hF : F_spec_l09Length v0 = some r) : Con Tryz.prog 91 [.int .i64 v0] (res_spec_l09Length r) := by
 unfold F_spec_l09Length at hF
 refine con_of c91_is fun N => ?_
 refine ws 0 64 ?_
 refine qp (AB false) rfl ?_
 refine r_nil ?_
 refine ws 64 256 ?_
 refine qp (AI v0) rfl ?_
 obtain ⟨v1000, e1000, hF⟩ := bind_get hF
 refine qc (AB v1000) [] false (con_spec_l00In e1000) c110_ok (by first | rfl | simp) rfl ?_
 refine qp (AB v1000) rfl ?_
 exact rR hF

def c56 : MC := (.seq (.reg [rg 2 (.f (.alloc [((.int .i64 0), (0, false)), ((.int .i64 0), (0, false))])), pT 3 (.mv cf)]) (.seq (.seq (.reg [mvt 8 0, pT 9 (.bin .eql t8 (.c (.str []))), mvt 10 9, nF 11 10 t0, kF 12 10 (.ixs t11 (ci 0)), ⟨(some 13), (some (10, false)), (.call true 89 [t12])⟩, kF 14 10 (.bin .lss t13 (ci 0)), pT 15 (.pick t10 ct t14)]) (.cond t15 (.seq (.reg [rg 16 (.f (.bld [((.int .i64 0), (0, false)), ((.int .i64 0), (0, false))] [])), ⟨none, none, (.f (.st t2 t16 2))⟩, pT 3 (.mv cf)]) .ret) .skip)) (.seq (.reg [mvt 17 0, pT 18 (.ixs t17 (ci 0)), rg 19 (.call true 89 [t18]), mvt 4 19]) (.seq (.reg [mvt 20 0, pT 21 (.slcs t20 (some (ci 1)) none), mvt 5 21]) (.seq (.seq (.reg [mvt 22 5, pT 23 (.bin .neq t22 (.c (.str []))), mvt 24 23, nT 25 24 t5, kT 26 24 (.ixs t25 (ci 0)), kT 27 24 (.bin .eql t26 (.c (.int .u8 44))), pT 28 (.pick t24 t27 cf)]) (.cond t28 (.seq (.reg [mvt 29 4, pT 30 (.bin .sub t29 (ci 12)), mvt 4 30]) (.reg [mvt 31 5, pT 32 (.slcs t31 (some (ci 1)) none), mvt 5 32])) (.seq (.reg [mvt 33 5, pT 34 (.bin .neq t33 (.c (.str []))), mvt 35 34, nT 36 35 t5, kT 37 35 (.ixs t36 (ci 0)), kT 38 35 (.bin .eql t37 (.c (.int .u8 39))), pT 39 (.pick t35 t38 cf)]) (.cond t39 (.seq (.reg [mvt 40 4, pT 41 (.bin .add t40 (ci 12)), mvt 4 41]) (.reg [mvt 42 5, pT 43 (.slcs t42 (some (ci 1)) none), mvt 5 43])) .skip)))) (.seq (.seq (.reg [mvt 44 5, pT 45 (.bin .eql t44 (.c (.str [])))]) (.cond t45 (.seq (.reg [mvt 46 4, rg 47 (.f (.bld [((.int .i64 0), (0, true)), ((.int .i64 0), (0, true))] [(0, (1, t46)), (1, (1, (ci 1)))])), ⟨none, none, (.f (.st t2 t47 2))⟩, pT 3 (.mv ct)]) .ret) .skip)) (.seq (.reg [mvt 49 5, rg 50 (.call true 90 [t49]), mvt 48 50, pT 51 (.ext t48 0), pT 52 (.ext t48 1), mvt 6 51, mvt 7 52]) (.seq (.seq (.reg [mvt 53 7, pT 54 (.not t53), mvt 55 54, nF 56 55 t6, kF 57 55 (.bin .eql t56 (ci 1)), pT 58 (.pick t55 ct t57), mvt 59 58, nF 60 59 t6, ⟨(some 61), (some (59, false)), (.call true 91 [t60])⟩, kF 62 59 (.not t61), pT 63 (.pick t59 ct t62)]) (.cond t63 (.seq (.reg [rg 64 (.f (.bld [((.int .i64 0), (0, false)), ((.int .i64 0), (0, false))] [])), ⟨none, none, (.f (.st t2 t64 2))⟩, pT 3 (.mv cf)]) .ret) .skip)) (.seq (.reg [mvt 65 4, mvt 66 6, rg 67 (.f (.bld [((.int .i64 0), (0, true)), ((.int .i64 0), (0, true))] [(0, (1, t65)), (1, (1, t66))])), ⟨none, none, (.f (.st t2 t67 2))⟩, pT 3 (.mv ct)]) .ret)))))))))
theorem c56_is : compFn Tryz.prog 56 = some (c56, [(.cell (.ld (.t 2) 2 true)), (.tmp 3)]) := by kernel_rfl
theorem c56_ok : okFn Tryz.prog 56 = true := by kernel_rfl

noncomputable def F_spec_l09ReadOne_j1 (v50004 : Int) (v50005 : List UInt8) : Option (TNote × Bool) :=
 (bif (decide (v50005 = [])) then some ((v50004, 1), true)
 else ((F_spec_l01Number v50005).bind fun v1014 => (bif (!v1014.2) then some ((0, 0), false)
 else (bif (decide (v1014.1 = (1 : Int))) then some ((0, 0), false)
 else ((F_spec_l09Length v1014.1).bind fun v1016 => (bif (!v1016) then some ((0, 0), false)
 else some ((v50004, v1014.1), true)))))))
noncomputable def F_spec_l09ReadOne_j2 (v0 : List UInt8) (v1003 : Int) (v50003 : Bool) : Option (TNote × Bool) :=
 (bif v50003 then (need (0 ≤ (1 : Int) ∧ (1 : Int) ≤ ((sub v0 1 (v0.length : Int)).length : Int) ∧ ((sub v0 1 (v0.length : Int)).length : Int) ≤ ((sub v0 1 (v0.length : Int)).length : Int)) (F_spec_l09ReadOne_j1 (w64 (v1003 - 12)) (sub (sub v0 1 (v0.length : Int)) 1 ((sub v0 1 (v0.length : Int)).length : Int))))
 else (bif (decide (sub v0 1 (v0.length : Int) ≠ [])) then ((ix (sub v0 1 (v0.length : Int)) 0).bind fun v1012 => (bif (decide ((v1012.toNat : Int) = (39 : Int))) then (need (0 ≤ (1 : Int) ∧ (1 : Int) ≤ ((sub v0 1 (v0.length : Int)).length : Int) ∧ ((sub v0 1 (v0.length : Int)).length : Int) ≤ ((sub v0 1 (v0.length : Int)).length : Int)) (F_spec_l09ReadOne_j1 (w64 (v1003 + 12)) (sub (sub v0 1 (v0.length : Int)) 1 ((sub v0 1 (v0.length : Int)).length : Int))))
 else F_spec_l09ReadOne_j1 v1003 (sub v0 1 (v0.length : Int))))
 else F_spec_l09ReadOne_j1 v1003 (sub v0 1 (v0.length : Int))))
noncomputable def F_spec_l09ReadOne (v0 : List UInt8) : Option (TNote × Bool) :=
 (bif (decide (v0 = [])) then some ((0, 0), false)
 else ((ix v0 0).bind fun v1000 => ((F_spec_l03Named (v1000.toNat : Int)).bind fun v1001 => (bif (decide (v1001 < (0 : Int))) then some ((0, 0), false)
 else ((ix v0 0).bind fun v1002 => ((F_spec_l03Named (v1002.toNat : Int)).bind fun v1003 => (need (0 ≤ (1 : Int) ∧ (1 : Int) ≤ (v0.length : Int) ∧ (v0.length : Int) ≤ (v0.length : Int)) ((bif (decide (sub v0 1 (v0.length : Int) ≠ [])) then ((ix (sub v0 1 (v0.length : Int)) 0).bind fun v1010 => F_spec_l09ReadOne_j2 v0 v1003 (decide ((v1010.toNat : Int) = (44 : Int))))
 else F_spec_l09ReadOne_j2 v0 v1003 false)))))))))
@[simp] abbrev K0i : Nat × Root := (0, .box [AI 0, AI 0])
@[simp] abbrev K0j (v0 : List UInt8) : AV := AS (sub (sub v0 1 (v0.length : Int)) 1 ((sub v0 1 (v0.length : Int)).length : Int))
@[simp] abbrev K0k (v0 : List UInt8) : AV := AS (sub v0 1 (v0.length : Int))
@[simp] abbrev K0l (v0 : List UInt8) : AV := AB (decide (sub v0 1 (v0.length : Int) ≠ []))
@[simp] abbrev K0m (v0 : List UInt8) : Nat × AV := (5, AS (sub v0 1 (v0.length : Int)))
@[simp] def res_spec_l09ReadOne (r : TNote × Bool) : RV := .tup [.one (.val (eNote r.1)), .one (.val (.bool r.2))]
theorem con_spec_l09ReadOne {v0 : List UInt8} {r : TNote × Bool} (hF : F_spec_l09ReadOne v0 = some r) : Con Tryz.prog 56 [.str v0] (res_spec_l09ReadOne r) := by
 unfold F_spec_l09ReadOne at hF
 refine con_of c56_is fun N => ?_
 refine ws 0 128 ?_
 refine qf (.ptr 0 0 0) [K0i] (by simp) ?_
 refine qp (AB false) rfl ?_
 refine r_nil ?_
 refine w_seq ?_
 refine ws 128 640 ?_
 refine qp (AS v0) rfl (qp (AB (decide (v0 = []))) rfl (qp (AB (decide (v0 = []))) rfl ?_))
 refine q_case 10 hF rfl (fun hF => ?_) (fun hF => ?_)
 ·
  refine qn4 (qp (AB true) rfl ?_)
  refine r_nil ?_
  refine w_true rfl ?_
  refine ws 640 832 ?_
  refine qf (.agg [AI 0, AI 0]) [K0i] (by simp) ?_
  refine qf0 (.undef) [K0i, K0i] (by simp) ?_
  refine qp (AB false) rfl ?_
  refine r_nil ?_
  refine w_ret ?_
  refine thenQ_r ?_
  cases hF
  exact eR
 ·
  refine qg (AS v0) rfl rfl ?_
  obtain ⟨v1000, e1000, hF⟩ := bind_get hF
  refine qg (.val none (.int .u8 (v1000.toNat : Int))) rfl (ev_ixs rfl rfl e1000) ?_
  obtain ⟨v1001, e1001, hF⟩ := bind_get hF
  refine qcg (AI v1001) [K0i] false rfl (con_spec_l03Named e1001) c89_ok (by first | rfl | simp) rfl ?_
  refine qg (AB (decide (v1001 < (0 : Int)))) rfl rfl (qp (AB (decide (v1001 < (0 : Int)))) rfl ?_)
  refine r_nil ?_
  refine cF hF (fun hF => ?_) fun hF => ?_
  ·
   refine ws 640 832 ?_
   refine qf (.agg [AI 0, AI 0]) [K0i] (by simp) ?_
   refine qf0 (.undef) [K0i, K0i] (by simp) ?_
   refine qp (AB false) rfl ?_
   refine r_nil ?_
   refine w_ret ?_
   refine thenQ_r ?_
   cases hF
   exact eR
  ·
   refine w_skip ?_
   refine thenQ_n ?_
   refine ws 640 896 ?_
   refine qp (AS v0) rfl ?_
   obtain ⟨v1002, e1002, hF⟩ := bind_get hF
   refine qp (.val none (.int .u8 (v1002.toNat : Int))) (ev_ixs rfl rfl e1002) ?_
   obtain ⟨v1003, e1003, hF⟩ := bind_get hF
   refine qc (AI v1003) [K0i] false (con_spec_l03Named e1003) c89_ok (by first | rfl | simp) rfl ?_
   refine qp (AI v1003) rfl ?_
   refine r_nil ?_
   refine ws 896 1088 ?_
   refine qp (AS v0) rfl ?_
   obtain ⟨g1004, hF⟩ := need_some hF
   refine qp (K0k v0) (ev_slcs rfl rfl rfl g1004) (qp (K0k v0) rfl ?_)
   refine r_nil ?_
   refine w_meet (fun s' => ∃ (v50004 : Int) (v50005 : List UInt8), s' = mkS [(2, .ptr 0 0 0), (4, AI v50004), (5, AS v50005)] (fo [K0i]) 1 ∧ F_spec_l09ReadOne_j1 v50004 v50005 = some r) ?_ ?_
   ·
    refine w_meet (fun s' => ∃ (v50003 : Bool), s' = mkS [(2, .ptr 0 0 0), (4, AI v1003), (K0m v0), (28, AB v50003)] (fo [K0i]) 1 ∧ F_spec_l09ReadOne_j2 v0 v1003 v50003 = some r) ?_ ?_
    ·
     refine w_reg 1088 1536 rfl rfl ?_
     refine qp (K0k v0) rfl (qp (K0l v0) rfl (qp (K0l v0) rfl ?_))
     refine q_case 24 hF rfl (fun hF => ?_) (fun hF => ?_)
     ·
      refine qg (K0k v0) rfl rfl ?_
      obtain ⟨v1010, e1010, hF⟩ := bind_get hF
      refine qg (.val none (.int .u8 (v1010.toNat : Int))) rfl (ev_ixs rfl rfl e1010) (qg (AB (decide ((v1010.toNat : Int) = (44 : Int)))) rfl rfl (qp (AB (decide ((v1010.toNat : Int) = (44 : Int)))) rfl ?_))
      refine r_nil ?_
      refine thenQ_n ?_
      refine aw_ren (l' := [(2, .ptr 0 0 0), (4, AI v1003), (K0m v0), (28, AB (decide ((v1010.toNat : Int) = (44 : Int))))]) (L := [K0i]) [2, 4, 5, 28] [(0, 0)] 1 (by first | rfl | simp) (by first | rfl | simp) (by decide) (by decide) (by decide) ⟨_, rfl, hF⟩
     ·
      refine qn3 (qp (AB false) rfl ?_)
      refine r_nil ?_
      refine thenQ_n ?_
      refine aw_ren (l' := [(2, .ptr 0 0 0), (4, AI v1003), (K0m v0), (28, AB false)]) (L := [K0i]) [2, 4, 5, 28] [(0, 0)] 1 (by first | rfl | simp) (by first | rfl | simp) (by decide) (by decide) (by decide) ⟨_, rfl, hF⟩
    ·
     rintro s' ⟨v50003, rfl, hF⟩
     unfold F_spec_l09ReadOne_j2 at hF
     refine cF hF (fun hF => ?_) fun hF => ?_
     ·
      refine ws 1 193 ?_
      refine qp (AI v1003) rfl (qp (AI (w64 (v1003 - 12))) rfl (qp (AI (w64 (v1003 - 12))) rfl ?_))
      refine r_nil ?_
      refine w_reg 193 385 rfl rfl ?_
      refine qp (K0k v0) rfl ?_
      obtain ⟨g1011, hF⟩ := need_some hF
      refine qp (K0j v0) (ev_slcs rfl rfl rfl g1011) (qp (K0j v0) rfl ?_)
      refine r_nil ?_
      refine thenQ_n ?_
      refine aw_ren (l' := [(2, .ptr 0 0 0), (4, AI (w64 (v1003 - 12))), (5, AS (sub (sub v0 1 (v0.length : Int)) 1 ((sub v0 1 (v0.length : Int)).length : Int)))]) (L := [K0i]) [2, 4, 5] [(0, 0)] 1 (by first | rfl | simp) (by first | rfl | simp) (by decide) (by decide) (by decide) ⟨_, _, rfl, hF⟩
     ·
      refine ws 1 449 ?_
      refine qp (K0k v0) rfl (qp (K0l v0) rfl (qp (K0l v0) rfl ?_))
      refine q_case 35 hF rfl (fun hF => ?_) (fun hF => ?_)
      ·
       refine qg (K0k v0) rfl rfl ?_
       obtain ⟨v1012, e1012, hF⟩ := bind_get hF
       refine qg (.val none (.int .u8 (v1012.toNat : Int))) rfl (ev_ixs rfl rfl e1012) (qg (AB (decide ((v1012.toNat : Int) = (39 : Int)))) rfl rfl (qp (AB (decide ((v1012.toNat : Int) = (39 : Int)))) rfl ?_))
       refine r_nil ?_
       refine cF hF (fun hF => ?_) fun hF => ?_
       ·
        refine ws 449 641 ?_
        refine qp (AI v1003) rfl (qp (AI (w64 (v1003 + 12))) rfl (qp (AI (w64 (v1003 + 12))) rfl ?_))
        refine r_nil ?_
        refine w_reg 641 833 rfl rfl ?_
        refine qp (K0k v0) rfl ?_
        obtain ⟨g1013, hF⟩ := need_some hF
        refine qp (K0j v0) (ev_slcs rfl rfl rfl g1013) (qp (K0j v0) rfl ?_)
        refine r_nil ?_
        refine thenQ_n ?_
        refine aw_ren (l' := [(2, .ptr 0 0 0), (4, AI (w64 (v1003 + 12))), (5, AS (sub (sub v0 1 (v0.length : Int)) 1 ((sub v0 1 (v0.length : Int)).length : Int)))]) (L := [K0i]) [2, 4, 5] [(0, 0)] 1 (by first | rfl | simp) (by first | rfl | simp) (by decide) (by decide) (by decide) ⟨_, _, rfl, hF⟩
       ·
        refine w_skip ?_
        refine thenQ_n ?_
        refine aw_ren (l' := [(2, .ptr 0 0 0), (4, AI v1003), (K0m v0)]) (L := [K0i]) [2, 4, 5] [(0, 0)] 1 (by first | rfl | simp) (by first | rfl | simp) (by decide) (by decide) (by decide) ⟨_, _, rfl, hF⟩
      ·
       refine qn3 (qp (AB false) rfl ?_)
       refine r_nil ?_
       refine w_false rfl ?_
       refine w_skip ?_
       refine thenQ_n ?_
       refine aw_ren (l' := [(2, .ptr 0 0 0), (4, AI v1003), (K0m v0)]) (L := [K0i]) [2, 4, 5] [(0, 0)] 1 (by first | rfl | simp) (by first | rfl | simp) (by decide) (by decide) (by decide) ⟨_, _, rfl, hF⟩
   ·
    rintro s' ⟨v50004, v50005, rfl, hF⟩
    unfold F_spec_l09ReadOne_j1 at hF
    refine w_seq ?_
    refine ws 1 129 ?_
    refine qp (AS v50005) rfl (qp (AB (decide (v50005 = []))) rfl ?_)
    refine r_nil ?_
    refine cF hF (fun hF => ?_) fun hF => ?_
    ·
     refine ws 129 385 ?_
     refine qp (AI v50004) rfl ?_
     refine qf (.agg [AI v50004, AI 1]) [K0i] (by simp) ?_
     refine qf0 (.undef) [(0, .box [AI v50004, AI 1]), K0i] (by simp) ?_
     refine qp (AB true) rfl ?_
     refine r_nil ?_
     refine w_ret ?_
     refine thenQ_r ?_
     cases hF
     exact eR
    ·
     refine w_skip ?_
     refine thenQ_n ?_
     refine ws 129 577 ?_
     refine qp (AS v50005) rfl ?_
     obtain ⟨v1014, e1014, hF⟩ := bind_get hF
     refine qc (.tup [AI v1014.1, AB v1014.2]) [K0i] false (con_spec_l01Number e1014) c90_ok (by first | rfl | simp) rfl ?_
     refine qp (.tup [AI v1014.1, AB v1014.2]) rfl (qp (AI v1014.1) rfl (qp (AB v1014.2) rfl (qp (AI v1014.1) rfl (qp (AB v1014.2) rfl ?_))))
     refine r_nil ?_
     refine w_seq ?_
     refine ws 577 1281 ?_
     refine qp (AB v1014.2) rfl (qp (AB (!v1014.2)) rfl (qp (AB (!v1014.2)) rfl ?_))
     refine q_case 55 hF rfl (fun hF => ?_) (fun hF => ?_)
     ·
      refine qn2 (qp (AB true) rfl (qp (AB true) rfl (qn3 (qp (AB true) rfl ?_))))
      refine r_nil ?_
      refine w_true rfl ?_
      refine ws 1281 1473 ?_
      refine qf (.agg [AI 0, AI 0]) [K0i] (by simp) ?_
      refine qf0 (.undef) [K0i, K0i] (by simp) ?_
      refine qp (AB false) rfl ?_
      refine r_nil ?_
      refine w_ret ?_
      refine thenQ_r ?_
      cases hF
      exact eR
     ·
      refine qg (AI v1014.1) rfl rfl (qg (AB (decide (v1014.1 = (1 : Int)))) rfl rfl (qp (AB (decide (v1014.1 = (1 : Int)))) rfl (qp (AB (decide (v1014.1 = (1 : Int)))) rfl ?_)))
      refine q_case 59 hF rfl (fun hF => ?_) (fun hF => ?_)
      ·
       refine qn3 (qp (AB true) rfl ?_)
       refine r_nil ?_
       refine w_true rfl ?_
       refine ws 1281 1473 ?_
       refine qf (.agg [AI 0, AI 0]) [K0i] (by simp) ?_
       refine qf0 (.undef) [K0i, K0i] (by simp) ?_
       refine qp (AB false) rfl ?_
       refine r_nil ?_
       refine w_ret ?_
       refine thenQ_r ?_
       cases hF
       exact eR
      ·
       refine qg (AI v1014.1) rfl rfl ?_
       obtain ⟨v1016, e1016, hF⟩ := bind_get hF
       refine qcg (AB v1016) [K0i] false rfl (con_spec_l09Length e1016) c91_ok (by first | rfl | simp) rfl ?_
       refine qg (AB (!v1016)) rfl rfl (qp (AB (!v1016)) rfl ?_)
       refine r_nil ?_
       refine cF hF (fun hF => ?_) fun hF => ?_
       ·
        refine ws 1281 1473 ?_
        refine qf (.agg [AI 0, AI 0]) [K0i] (by simp) ?_
        refine qf0 (.undef) [K0i, K0i] (by simp) ?_
        refine qp (AB false) rfl ?_
        refine r_nil ?_
        refine w_ret ?_
        refine thenQ_r ?_
        cases hF
        exact eR
       ·
        refine w_skip ?_
        refine thenQ_n ?_
        refine ws 1281 1601 ?_
        refine qp (AI v50004) rfl (qp (AI v1014.1) rfl ?_)
        refine qf (.agg [AI v50004, AI v1014.1]) [K0i] (by simp) ?_
        refine qf0 (.undef) [(0, .box [AI v50004, AI v1014.1]), K0i] (by simp) ?_
        refine qp (AB true) rfl ?_
        exact rR hF

def c92 : MC := (.seq (.reg [pT 2 (.mv cf)]) (.seq (.reg [mvt 3 0, rg 4 (.call true 110 [t3, (ci (-12)), (ci 23)]), mvt 2 4]) .ret))
theorem c92_is : compFn Tryz.prog 92 = some (c92, [(.tmp 2)]) := by kernel_rfl
theorem c92_ok : okFn Tryz.prog 92 = true := by kernel_rfl

noncomputable def F_spec_l03Pitch (v0 : Int) : Option (Bool) :=
 ((F_spec_l00In v0 (-12) 23).bind fun v1000 => some v1000)
@[simp] def res_spec_l03Pitch (r : Bool) : RV := .one (.one (.val (.bool r)))
theorem con_spec_l03Pitch {v0 : Int} {r : Bool} (hF : F_spec_l03Pitch v0 = some r) : Con Tryz.prog 92 [.int .i64 v0] (res_spec_l03Pitch r) := by
 unfold F_spec_l03Pitch at hF
 refine con_of c92_is fun N => ?_
 refine ws 0 64 ?_
 refine qp (AB false) rfl ?_
 refine r_nil ?_
 refine ws 64 256 ?_
 refine qp (AI v0) rfl ?_
 obtain ⟨v1000, e1000, hF⟩ := bind_get hF
 refine qc (AB v1000) [] false (con_spec_l00In e1000) c110_ok (by first | rfl | simp) rfl ?_
 refine qp (AB v1000) rfl ?_
 exact rR hF

def c57 : MC := (.seq (.reg [pT 2 (.mv cf)]) (.seq (.seq (.reg [pT 3 (.mv (ci 0))]) (.block 0 (.loop (.seq (.seq (.reg [mvt 4 3, mvt 5 0, pT 6 (.len t5), pT 7 (.bin .lss t4 t6)]) (.cond t7 .skip (.exit 0))) (.seq (.block 1 (.seq (.reg [mvt 10 0, mvt 11 3, pT 12 (.iad t10 t11 2), pT 13 (.fad t12 0), pT 14 (.ld t13 1 false), rg 15 (.call true 92 [t14]), pT 16 (.not t15), mvt 17 16, nF 18 17 t0, nF 19 17 t3, kF 20 17 (.iad t18 t19 2), kF 21 17 (.fad t20 1), kF 22 17 (.ld t21 1 false), ⟨(some 23), (some (17, false)), (.call true 91 [t22])⟩, kF 24 17 (.not t23), pT 25 (.pick t17 ct t24)]) (.cond t25 (.seq (.reg [pT 2 (.mv cf)]) .ret) .skip))) (.reg [mvt 8 3, pT 9 (.bin .add t8 (ci 1)), mvt 3 9])))))) (.seq (.reg [mvt 26 0, pT 27 (.len t26), pT 28 (.bin .leq t27 (ci 48)), mvt 2 28]) .ret)))
theorem c57_is : compFn Tryz.prog 57 = some (c57, [(.tmp 2)]) := by kernel_rfl
theorem c57_ok : okFn Tryz.prog 57 = true := by kernel_rfl

noncomputable def F_spec_l09Ok_l0 (v0 : List TNote) (k0 : Int → Option (Bool)) : Int → Option (Bool)
 | v50001 => (bif (decide (v50001 < (v0.length : Int))) then ((ix v0 v50001).bind fun v1000 => ((F_spec_l03Pitch v1000.1).bind fun v1001 => (bif (!v1001) then some false
 else ((ix v0 v50001).bind fun v1002 => ((F_spec_l09Length v1002.2).bind fun v1003 => (bif (!v1003) then some false
 else k0 (w64 (v50001 + 1))))))))
 else some (decide ((v0.length : Int) ≤ (48 : Int))))
noncomputable def F_spec_l09Ok (v0 : List TNote) : Option (Bool) :=
 loop (F_spec_l09Ok_l0 v0) 0
@[simp] def res_spec_l09Ok (r : Bool) : RV := .one (.one (.val (.bool r)))
theorem con_spec_l09Ok {v0 : List TNote} {r : Bool} (hF : F_spec_l09Ok v0 = some r) : Con Tryz.prog 57 [.sl 2 (v0.map eNote)] (res_spec_l09Ok r) := by
 unfold F_spec_l09Ok at hF
 refine con_of c57_is fun N => ?_
 refine ws 0 64 ?_
 refine qp (AB false) rfl ?_
 refine r_nil ?_
 refine w_seq ?_
 refine ws 64 128 ?_
 refine qp (AI 0) rfl ?_
 refine r_nil ?_
 refine w_block ?_
 refine wr (l' := [(0, AL 2 (v0.map eNote)), (3, AI 0)]) (L := []) [0, 3] [] 1 ?_
 refine w_loopF (F_spec_l09Ok_l0 v0) (fun s : Int => mkS [(0, AL 2 (v0.map eNote)), (3, AI s)] (fo []) 1) hF ?_
 rintro k0 v50001 hF
 rw [F_spec_l09Ok_l0] at hF
 try dsimp only
 refine w_seq ?_
 refine ws 1 257 ?_
 refine qp (AI v50001) rfl (qp (AL 2 (v0.map eNote)) rfl (qp (AI (v0.length : Int)) (ev_len_n rfl) (qp (AB (decide (v50001 < (v0.length : Int)))) rfl ?_)))
 refine r_nil ?_
 refine cF hF (fun hF => ?_) fun hF => ?_
 ·
  refine w_skip ?_
  refine thenQ_n ?_
  refine w_seq ?_
  refine w_block ?_
  refine ws 257 1281 ?_
  refine qp (AL 2 (v0.map eNote)) rfl (qp (AI v50001) rfl ?_)
  obtain ⟨v1000, e1000, hF⟩ := bind_get hF
  refine qp (.val none (.ptr [.int .i64 v1000.1, .int .i64 v1000.2])) (ev_iad_n rfl rfl e1000 rfl) (qp (.val none (.ptr [.int .i64 v1000.1, .int .i64 v1000.2])) rfl (qp (AI v1000.1) rfl ?_))
  obtain ⟨v1001, e1001, hF⟩ := bind_get hF
  refine qc (AB v1001) [] false (con_spec_l03Pitch e1001) c92_ok (by first | rfl | simp) rfl ?_
  refine qp (AB (!v1001)) rfl (qp (AB (!v1001)) rfl ?_)
  refine q_case 17 hF rfl (fun hF => ?_) (fun hF => ?_)
  ·
   refine qn7 (qp (AB true) rfl ?_)
   refine r_nil ?_
   refine w_true rfl ?_
   refine ws 1281 1345 ?_
   refine qp (AB false) rfl ?_
   refine r_nil ?_
   refine w_ret ?_
   refine blockQ_r ?_
   refine thenQ_r ?_
   refine thenQ_r ?_
   refine blockQ_r ?_
   refine thenQ_r ?_
   cases hF
   exact eR
  ·
   refine qg (AL 2 (v0.map eNote)) rfl rfl (qg (AI v50001) rfl rfl ?_)
   obtain ⟨v1002, e1002, hF⟩ := bind_get hF
   refine qg (.val none (.ptr [.int .i64 v1002.1, .int .i64 v1002.2])) rfl (ev_iad_n rfl rfl e1002 rfl) (qg (.val none (.ptr [.int .i64 v1002.2])) rfl rfl (qg (AI v1002.2) rfl rfl ?_))
   obtain ⟨v1003, e1003, hF⟩ := bind_get hF
   refine qcg (AB v1003) [] false rfl (con_spec_l09Length e1003) c91_ok (by first | rfl | simp) rfl ?_
   refine qg (AB (!v1003)) rfl rfl (qp (AB (!v1003)) rfl ?_)
   refine r_nil ?_
   refine cF hF (fun hF => ?_) fun hF => ?_
   ·
    refine ws 1281 1345 ?_
    refine qp (AB false) rfl ?_
    refine r_nil ?_
    refine w_ret ?_
    refine blockQ_r ?_
    refine thenQ_r ?_
    refine thenQ_r ?_
    refine blockQ_r ?_
    refine thenQ_r ?_
    cases hF
    exact eR
   ·
    refine w_skip ?_
    refine blockQ_n ?_
    refine thenQ_n ?_
    refine w_reg 1281 1473 rfl rfl ?_
    refine qp (AI v50001) rfl (qp (AI (w64 (v50001 + 1))) rfl (qp (AI (w64 (v50001 + 1))) rfl ?_))
    refine r_nil ?_
    refine thenQ_n ?_
    refine ar (l' := [(0, AL 2 (v0.map eNote)), (3, AI (w64 (v50001 + 1)))]) (L := []) [0, 3] [] 1 ⟨_, by rfl, hF⟩
 ·
  refine w_exit ?_
  refine thenQ_e ?_
  refine thenQ_e ?_
  refine blockQ_e ?_
  refine thenQ_n ?_
  refine ws 257 513 ?_
  refine qp (AL 2 (v0.map eNote)) rfl (qp (AI (v0.length : Int)) (ev_len_n rfl) (qp (AB (decide ((v0.length : Int) ≤ (48 : Int)))) rfl (qp (AB (decide ((v0.length : Int) ≤ (48 : Int)))) rfl ?_)))
  exact rR hF

def c25 : MC := (.seq (.reg [rg 2 (.f (.nilrow 2)), pT 3 (.mv cf)]) (.seq (.seq (.reg [mvt 9 0, pT 10 (.bin .eql t9 (.c (.str [45])))]) (.cond t10 (.seq (.reg [rg 11 (.f (.bsl 2 [])), mvt 2 11, pT 3 (.mv ct)]) .ret) .skip)) (.seq (.reg [mvt 12 0, rg 13 (.call true 55 [t12, (.c (.int .u8 32))]), mvt 4 13]) (.seq (.reg [rg 14 (.f (.bsl 2 [])), mvt 5 14]) (.seq (.seq (.reg [pT 6 (.mv (ci 0))]) (.block 0 (.loop (.seq (.seq (.reg [mvt 15 6, mvt 16 4, pT 17 (.len t16), pT 18 (.bin .lss t15 t17)]) (.cond t18 .skip (.exit 0))) (.seq (.block 1 (.seq (.reg [mvt 22 4, mvt 23 6, pT 24 (.iad t22 t23 1), pT 25 (.ld t24 1 false), rg 26 (.call true 56 [t25]), mvt 21 26, pT 27 (.ext t21 0), pT 28 (.ext t21 1), rg 7 (.f (.alloc [((.int .i64 0), (0, false)), ((.int .i64 0), (0, false))])), ⟨none, none, (.f (.st t7 t27 2))⟩, mvt 8 28]) (.seq (.seq (.reg [mvt 29 8, pT 30 (.not t29)]) (.cond t30 (.seq (.reg [rg 2 (.f (.nilrow 2)), pT 3 (.mv cf)]) .ret) .skip)) (.reg [mvt 31 5, pT 32 (.ld t7 2 true), rg 33 (.f (.bsl 2 [t32])), rg 34 (.f (.app t31 t33 2 16 true)), mvt 5 34])))) (.reg [mvt 19 6, pT 20 (.bin .add t19 (ci 1)), mvt 6 20])))))) (.seq (.seq (.reg [mvt 35 5, rg 36 (.call true 57 [t35]), pT 37 (.not t36)]) (.cond t37 (.seq (.reg [rg 2 (.f (.nilrow 2)), pT 3 (.mv cf)]) .ret) .skip)) (.seq (.reg [mvt 38 5, mvt 2 38, pT 3 (.mv ct)]) .ret)))))))
theorem c25_is : compFn Tryz.prog 25 = some (c25, [(.tmp 2), (.tmp 3)]) := by kernel_rfl
theorem c25_ok : okFn Tryz.prog 25 = true := by kernel_rfl

noncomputable def F_spec_l09Read_l0 (v1000 : List (List UInt8)) (k1 : Int × (List TNote) → Option ((List TNote) × Bool)) : Int × (List TNote) → Option ((List TNote) × Bool)
 | (v50006, v50007) => (bif (decide (v50006 < (v1000.length : Int))) then ((ix v1000 v50006).bind fun v1007 => ((F_spec_l09ReadOne v1007).bind fun v1008 => (bif (!v1008.2) then some ([], false)
 else (need (room (v50007.length + [v1008.1].length) 16) (k1 (w64 (v50006 + 1), v50007 ++ [v1008.1]))))))
 else ((F_spec_l09Ok v50007).bind fun v1010 => (bif (!v1010) then some ([], false)
 else some (v50007, true))))
noncomputable def F_spec_l09Read (v0 : List UInt8) : Option ((List TNote) × Bool) :=
 (bif (decide (v0 = [45])) then some ([], true)
 else ((F_spec_l01Split v0 32).bind fun v1000 => loop (F_spec_l09Read_l0 v1000) (0, [])))
@[simp] abbrev K0n : List (Nat × Root) := [(0, .row true 2 (([] : List Int).map vI))]
@[simp] abbrev K0o (v1000 : List (List UInt8)) : List (Nat × Root) := ((320, .row true 1 (v1000.map V.str)) :: K0n)
@[simp] abbrev K0p (v50007 : List TNote) (v1000 : List (List UInt8)) : List (Nat × Root) := [(1, .row true 2 (v50007.map eNote)), (0, .row true 1 (v1000.map V.str))]
@[simp] abbrev K0r (v1008 : TNote × Bool) (v50007 : List TNote) (v1000 : List (List UInt8)) : List (Nat × Root) := ((770, .box [AI v1008.1.1, AI v1008.1.2]) :: (770, .box [AI 0, AI 0]) :: (K0p v50007 v1000))
@[simp] abbrev K0s (v1008 : TNote × Bool) (v50007 : List TNote) (v1000 : List (List UInt8)) : List (Nat × Root) := ((1218, .row true 2 ([v1008.1].map eNote)) :: (K0r v1008 v50007 v1000))
@[simp] def res_spec_l09Read (r : (List TNote) × Bool) : RV := .tup [.one (.row true 2 (r.1.map eNote)), .one (.val (.bool r.2))]
theorem con_spec_l09Read {v0 : List UInt8} {r : (List TNote) × Bool} (hF : F_spec_l09Read v0 = some r) : Con Tryz.prog 25 [.str v0] (res_spec_l09Read r) := by
 unfold F_spec_l09Read at hF
 refine con_of c25_is fun N => ?_
 refine ws 0 128 ?_
 refine qf (.sl 0 0 0) K0n (by simp) ?_
 refine qp (AB false) rfl ?_
 refine r_nil ?_
 refine w_seq ?_
 refine ws 128 256 ?_
 refine qp (AS v0) rfl (qp (AB (decide (v0 = [45]))) rfl ?_)
 refine r_nil ?_
 refine cF hF (fun hF => ?_) fun hF => ?_
 ·
  refine ws 256 448 ?_
  refine qf (.sl 256 0 0) ((256, .row true 2 (([] : List TNote).map eNote)) :: K0n) (by simp [List.take_of_length_le]) ?_
  refine qp (.sl 256 0 0) rfl (qp (AB true) rfl ?_)
  refine r_nil ?_
  refine w_ret ?_
  refine thenQ_r ?_
  cases hF
  exact eR
 ·
  refine w_skip ?_
  refine thenQ_n ?_
  refine ws 256 448 ?_
  refine qp (AS v0) rfl ?_
  obtain ⟨v1000, e1000, hF⟩ := bind_get hF
  refine qc (.sl 320 0 v1000.length) (K0o v1000) false (con_spec_l01Split e1000) c55_ok (by first | rfl | simp) (by simp [res_spec_l01Split]) ?_
  refine qp (.sl 320 0 v1000.length) rfl ?_
  refine r_nil ?_
  refine ws 448 576 ?_
  refine qf (.sl 448 0 0) ((448, .row true 2 (([] : List TNote).map eNote)) :: (K0o v1000)) (by simp [List.take_of_length_le]) ?_
  refine qp (.sl 448 0 0) rfl ?_
  refine r_nil ?_
  refine w_seq ?_
  refine ws 576 640 ?_
  refine qp (AI 0) rfl ?_
  refine r_nil ?_
  refine w_block ?_
  refine wr (l' := [(4, .sl 0 0 v1000.length), (5, .sl 1 0 0), (6, AI 0)]) (L := [(1, .row true 2 (([] : List TNote).map eNote)), (0, .row true 1 (v1000.map V.str))]) [4, 5, 6] [(448, 1), (320, 0)] 2 ?_
  refine w_loopF (F_spec_l09Read_l0 v1000) (fun s : Int × (List TNote) => mkS [(4, .sl 0 0 v1000.length), (5, .sl 1 0 s.2.length), (6, AI s.1)] (fo [(1, .row true 2 (s.2.map eNote)), (0, .row true 1 (v1000.map V.str))]) 2) hF ?_
  rintro k1 ⟨v50006, v50007⟩ hF
  rw [F_spec_l09Read_l0] at hF
  try dsimp only
  refine w_seq ?_
  refine ws 2 258 ?_
  refine qp (AI v50006) rfl (qp (.sl 0 0 v1000.length) rfl (qp (AI (v1000.length : Int)) rfl (qp (AB (decide (v50006 < (v1000.length : Int)))) rfl ?_)))
  refine r_nil ?_
  refine cF hF (fun hF => ?_) fun hF => ?_
  ·
   refine w_skip ?_
   refine thenQ_n ?_
   refine w_seq ?_
   refine w_block ?_
   refine ws 258 962 ?_
   refine qp (.sl 0 0 v1000.length) rfl (qp (AI v50006) rfl ?_)
   obtain ⟨v1007, e1007, hF⟩ := bind_get hF
   refine qp (.ptr 0 v50006.toNat 0) (ev_iad_r rfl (by simp) rfl rfl e1007) (qp (AS v1007) (ev_ld_r rfl rfl (ix_some e1007).2 rfl rfl) ?_)
   obtain ⟨v1008, e1008, hF⟩ := bind_get hF
   refine qc (.tup [.val none (eNote v1008.1), AB v1008.2]) (K0p v50007 v1000) false (con_spec_l09ReadOne e1008) c56_ok (by first | rfl | simp) rfl ?_
   refine qp (.tup [.val none (eNote v1008.1), AB v1008.2]) rfl (qp (.val none (eNote v1008.1)) rfl (qp (AB v1008.2) rfl ?_))
   refine qf (.ptr 770 0 0) ((770, .box [AI 0, AI 0]) :: (K0p v50007 v1000)) (by simp) ?_
   refine qf0 (.undef) (K0r v1008 v50007 v1000) (by simp) ?_
   refine qp (AB v1008.2) rfl ?_
   refine r_nil ?_
   refine w_seq ?_
   refine ws 962 1090 ?_
   refine qp (AB v1008.2) rfl (qp (AB (!v1008.2)) rfl ?_)
   refine r_nil ?_
   refine cF hF (fun hF => ?_) fun hF => ?_
   ·
    refine ws 1090 1218 ?_
    refine qf (.sl 1090 0 0) ((1090, .row true 2 (([] : List TNote).map eNote)) :: (K0r v1008 v50007 v1000)) (by simp) ?_
    refine qp (AB false) rfl ?_
    refine r_nil ?_
    refine w_ret ?_
    refine thenQ_r ?_
    refine blockQ_r ?_
    refine thenQ_r ?_
    refine thenQ_r ?_
    refine blockQ_r ?_
    refine thenQ_r ?_
    cases hF
    exact eR
   ·
    refine w_skip ?_
    refine thenQ_n ?_
    refine w_reg 1090 1410 rfl rfl ?_
    refine qp (.sl 1 0 v50007.length) rfl (qp (.agg [AI v1008.1.1, AI v1008.1.2]) rfl ?_)
    refine qf (.sl 1218 0 ([v1008.1].length)) (K0s v1008 v50007 v1000) (by simp [List.take_of_length_le]) ?_
    obtain ⟨g1009, hF⟩ := need_some hF
    refine qf (.sl 1282 0 ((v50007 ++ [v1008.1]).length)) ((1282, .row true 2 ((v50007 ++ [v1008.1]).map eNote)) :: (1, .dead) :: (1218, .dead) :: (K0s v1008 v50007 v1000)) (effT_app_l rfl (by simp) rfl rfl (by simp) rfl (by decide) g1009 rfl) ?_
    refine qp (.sl 1282 0 ((v50007 ++ [v1008.1]).length)) rfl ?_
    refine r_nil ?_
    refine blockQ_n ?_
    refine thenQ_n ?_
    refine w_reg 1410 1602 rfl rfl ?_
    refine qp (AI v50006) rfl (qp (AI (w64 (v50006 + 1))) rfl (qp (AI (w64 (v50006 + 1))) rfl ?_))
    refine r_nil ?_
    refine thenQ_n ?_
    refine ar (l' := [(4, .sl 0 0 v1000.length), (5, .sl 1 0 (v50007 ++ [v1008.1]).length), (6, AI (w64 (v50006 + 1)))]) (L := [(1, .row true 2 ((v50007 ++ [v1008.1]).map eNote)), (0, .row true 1 (v1000.map V.str))]) [4, 5, 6] [(1282, 1), (0, 0)] 2 ⟨_, by rfl, hF⟩
  ·
   refine w_exit ?_
   refine thenQ_e ?_
   refine thenQ_e ?_
   refine blockQ_e ?_
   refine thenQ_n ?_
   refine w_seq ?_
   refine ws 258 450 ?_
   refine qp (.sl 1 0 v50007.length) rfl ?_
   obtain ⟨v1010, e1010, hF⟩ := bind_get hF
   refine qc (AB v1010) (K0p v50007 v1000) true (con_spec_l09Ok e1010) c57_ok (by simp [List.take_of_length_le]) rfl ?_
   refine qp (AB (!v1010)) rfl ?_
   refine r_nil ?_
   refine cF hF (fun hF => ?_) fun hF => ?_
   ·
    refine ws 450 578 ?_
    refine qf (.sl 450 0 0) ((450, .row true 2 (([] : List TNote).map eNote)) :: (K0p v50007 v1000)) (by simp) ?_
    refine qp (AB false) rfl ?_
    refine r_nil ?_
    refine w_ret ?_
    refine thenQ_r ?_
    cases hF
    exact eR
   ·
    refine w_skip ?_
    refine thenQ_n ?_
    refine ws 450 642 ?_
    refine qp (.sl 1 0 v50007.length) rfl (qp (.sl 1 0 v50007.length) rfl (qp (AB true) rfl ?_))
    exact rR hF

def c6 : MC := (.seq (.reg [rg 2 (.f (.nilrow 2)), pT 3 (.mv (ci 0))]) (.seq (.seq (.reg [mvt 8 0, rg 9 (.call true 24 [t8]), pT 10 (.not t9)]) (.cond t10 (.seq (.reg [rg 2 (.f (.nilrow 2)), pT 3 (.mv (ci 1))]) .ret) .skip)) (.seq (.reg [rg 11 (.f (.bsl 2 [])), mvt 4 11]) (.seq (.seq (.reg [pT 5 (.mv (ci 0))]) (.block 0 (.loop (.seq (.seq (.reg [mvt 12 5, mvt 13 0, pT 14 (.len t13), pT 15 (.bin .lss t12 t14)]) (.cond t15 .skip (.exit 0))) (.seq (.block 1 (.seq (.seq (.reg [mvt 18 0, mvt 19 5, pT 20 (.iad t18 t19 3), pT 21 (.fad t20 0), pT 22 (.ld t21 1 false), pT 23 (.bin .neq t22 (.c (.str [109, 101, 108, 111, 100, 121])))]) (.cond t23 (.exit 1) .skip)) (.seq (.reg [mvt 25 0, mvt 26 5, pT 27 (.iad t25 t26 3), pT 28 (.fad t27 2), pT 29 (.ld t28 1 false), rg 30 (.call true 25 [t29]), mvt 24 30, pT 31 (.ext t24 0), pT 32 (.ext t24 1), mvt 6 31, mvt 7 32]) (.seq (.seq (.reg [mvt 33 7, pT 34 (.not t33)]) (.cond t34 (.seq (.reg [rg 2 (.f (.nilrow 2)), pT 3 (.mv (ci 9))]) .ret) .skip)) (.reg [mvt 35 4, mvt 36 0, mvt 37 5, pT 38 (.iad t36 t37 3), pT 39 (.fad t38 1), pT 40 (.ld t39 1 false), mvt 41 6, rg 42 (.f (.bld [((.str []), (0, true)), ((.sl 0 []), (2, true))] [(0, (1, t40)), (1, (1, t41))])), rg 43 (.f (.bsl 2 [t42])), rg 44 (.f (.app t35 t43 2 40 true)), mvt 4 44]))))) (.reg [mvt 16 5, pT 17 (.bin .add t16 (ci 1)), mvt 5 17])))))) (.seq (.seq (.reg [mvt 45 4, pT 46 (.len t45), pT 47 (.bin .gtr t46 (ci 12))]) (.cond t47 (.seq (.reg [rg 2 (.f (.nilrow 2)), pT 3 (.mv (ci 5))]) .ret) .skip)) (.seq (.reg [mvt 48 4, mvt 2 48, pT 3 (.mv (ci 0))]) .ret))))))
theorem c6_is : compFn Tryz.prog 6 = some (c6, [(.tmp 2), (.tmp 3)]) := by kernel_rfl
theorem c6_ok : okFn Tryz.prog 6 = true := by kernel_rfl

noncomputable def F_spec_LibraryOfBlocks_l0 (v0 : List TBlock) (k1 : Int × (List TNamedMelody) → Option ((List TNamedMelody) × Int)) : Int × (List TNamedMelody) → Option ((List TNamedMelody) × Int)
 | (v50006, v50007) => (bif (decide (v50006 < (v0.length : Int))) then ((ix v0 v50006).bind fun v1011 => (bif (decide (v1011.1 ≠ [109, 101, 108, 111, 100, 121])) then k1 (w64 (v50006 + 1), v50007)
 else ((ix v0 v50006).bind fun v1012 => ((F_spec_l09Read v1012.2.2).bind fun v1013 => (bif (!v1013.2) then some ([], 9)
 else ((ix v0 v50006).bind fun v1014 => (need (room (v50007.length + [(v1014.2.1, v1013.1)].length) 40) (k1 (w64 (v50006 + 1), v50007 ++ [(v1014.2.1, v1013.1)])))))))))
 else (bif (decide ((12 : Int) < (v50007.length : Int))) then some ([], 5)
 else some (v50007, 0)))
noncomputable def F_spec_LibraryOfBlocks (v0 : List TBlock) : Option ((List TNamedMelody) × Int) :=
 ((F_spec_l29Ok v0).bind fun v1000 => (bif (!v1000) then some ([], 1)
 else loop (F_spec_LibraryOfBlocks_l0 v0) (0, [])))
@[simp] abbrev K0t : List (Nat × Root) := [(0, .row true 2 (([] : List Int).map vI))]
@[simp] abbrev K0u : List (Nat × Root) := ((320, .row true 2 (([] : List TNamedMelody).map eNamedMelody)) :: K0t)
@[simp] abbrev K0v (v1013 : (List TNote) × Bool) (v50007 : List TNamedMelody) : List (Nat × Root) := [(961, .row true 2 (v1013.1.map eNote)), (0, .row true 2 (v50007.map eNamedMelody))]
@[simp] abbrev K0w (v1014 : TBlock) (v1013 : (List TNote) × Bool) (v50007 : List TNamedMelody) : List (Nat × Root) := ((1985, .row true 2 ([(v1014.2.1, v1013.1)].map eNamedMelody)) :: (961, .dead) :: (K0v v1013 v50007))
@[simp] abbrev K0x (v0 : List TBlock) : V := .sl 3 (v0.map eBlock)
@[simp] def res_spec_LibraryOfBlocks (r : (List TNamedMelody) × Int) : RV := .tup [.one (.row true 2 (r.1.map eNamedMelody)), .one (.val (.int .i64 r.2))]
theorem con_spec_LibraryOfBlocks {v0 : List TBlock} {r : (List TNamedMelody) × Int} (hF : F_spec_LibraryOfBlocks v0 = some r) : Con Tryz.prog 6 [.sl 3 (v0.map eBlock)] (res_spec_LibraryOfBlocks r) := by
 unfold F_spec_LibraryOfBlocks at hF
 refine con_of c6_is fun N => ?_
 refine ws 0 128 ?_
 refine qf (.sl 0 0 0) K0t (by simp) ?_
 refine qp (AI 0) rfl ?_
 refine r_nil ?_
 refine w_seq ?_
 refine ws 128 320 ?_
 refine qp (.val none (K0x v0)) rfl ?_
 obtain ⟨v1000, e1000, hF⟩ := bind_get hF
 refine qc (AB v1000) K0t false (con_spec_l29Ok e1000) c24_ok (by first | rfl | simp) rfl ?_
 refine qp (AB (!v1000)) rfl ?_
 refine r_nil ?_
 refine cF hF (fun hF => ?_) fun hF => ?_
 ·
  refine ws 320 448 ?_
  refine qf (.sl 320 0 0) K0u (by simp) ?_
  refine qp (AI 1) rfl ?_
  refine r_nil ?_
  refine w_ret ?_
  refine thenQ_r ?_
  cases hF
  exact eR
 ·
  refine w_skip ?_
  refine thenQ_n ?_
  refine ws 320 448 ?_
  refine qf (.sl 320 0 0) K0u (by simp [List.take_of_length_le]) ?_
  refine qp (.sl 320 0 0) rfl ?_
  refine r_nil ?_
  refine w_seq ?_
  refine ws 448 512 ?_
  refine qp (AI 0) rfl ?_
  refine r_nil ?_
  refine w_block ?_
  refine wr (l' := [(0, .val none (K0x v0)), (4, .sl 0 0 0), (5, AI 0)]) (L := [(0, .row true 2 (([] : List TNamedMelody).map eNamedMelody))]) [0, 4, 5] [(320, 0)] 1 ?_
  refine w_loopF (F_spec_LibraryOfBlocks_l0 v0) (fun s : Int × (List TNamedMelody) => mkS [(0, .val none (K0x v0)), (4, .sl 0 0 s.2.length), (5, AI s.1)] (fo [(0, .row true 2 (s.2.map eNamedMelody))]) 1) hF ?_
  rintro k1 ⟨v50006, v50007⟩ hF
  rw [F_spec_LibraryOfBlocks_l0] at hF
  try dsimp only
  refine w_seq ?_
  refine ws 1 257 ?_
  refine qp (AI v50006) rfl (qp (.val none (K0x v0)) rfl (qp (AI (v0.length : Int)) (ev_len_n rfl) (qp (AB (decide (v50006 < (v0.length : Int)))) rfl ?_)))
  refine r_nil ?_
  refine cF hF (fun hF => ?_) fun hF => ?_
  ·
   refine w_skip ?_
   refine thenQ_n ?_
   refine w_seq ?_
   refine w_block ?_
   refine w_seq ?_
   refine ws 257 641 ?_
   refine qp (.val none (K0x v0)) rfl (qp (AI v50006) rfl ?_)
   obtain ⟨v1011, e1011, hF⟩ := bind_get hF
   refine qp (.val none (.ptr [.str v1011.1, .str v1011.2.1, .str v1011.2.2])) (ev_iad_n rfl rfl e1011 rfl) (qp (.val none (.ptr [.str v1011.1, .str v1011.2.1, .str v1011.2.2])) rfl (qp (AS v1011.1) rfl (qp (AB (decide (v1011.1 ≠ [109, 101, 108, 111, 100, 121]))) rfl ?_)))
   refine r_nil ?_
   refine cF hF (fun hF => ?_) fun hF => ?_
   ·
    refine w_exit ?_
    refine thenQ_e ?_
    refine blockQ_e ?_
    refine thenQ_n ?_
    refine w_reg 641 833 rfl rfl ?_
    refine qp (AI v50006) rfl (qp (AI (w64 (v50006 + 1))) rfl (qp (AI (w64 (v50006 + 1))) rfl ?_))
    refine r_nil ?_
    refine thenQ_n ?_
    refine ar (l' := [(0, .val none (K0x v0)), (4, .sl 0 0 v50007.length), (5, AI (w64 (v50006 + 1)))]) (L := [(0, .row true 2 (v50007.map eNamedMelody))]) [0, 4, 5] [(0, 0)] 1 ⟨_, by rfl, hF⟩
   ·
    refine w_skip ?_
    refine thenQ_n ?_
    refine ws 641 1345 ?_
    refine qp (.val none (K0x v0)) rfl (qp (AI v50006) rfl ?_)
    obtain ⟨v1012, e1012, hF⟩ := bind_get hF
    refine qp (.val none (.ptr [.str v1012.1, .str v1012.2.1, .str v1012.2.2])) (ev_iad_n rfl rfl e1012 rfl) (qp (.val none (.ptr [.str v1012.2.2])) rfl (qp (AS v1012.2.2) rfl ?_))
    obtain ⟨v1013, e1013, hF⟩ := bind_get hF
    refine qc (.tup [.sl 961 0 v1013.1.length, AB v1013.2]) (K0v v1013 v50007) false (con_spec_l09Read e1013) c25_ok (by first | rfl | simp) (by simp [res_spec_l09Read]) ?_
    refine qp (.tup [.sl 961 0 v1013.1.length, AB v1013.2]) rfl (qp (.sl 961 0 v1013.1.length) rfl (qp (AB v1013.2) rfl (qp (.sl 961 0 v1013.1.length) rfl (qp (AB v1013.2) rfl ?_))))
    refine r_nil ?_
    refine w_seq ?_
    refine ws 1345 1473 ?_
    refine qp (AB v1013.2) rfl (qp (AB (!v1013.2)) rfl ?_)
    refine r_nil ?_
    refine cF hF (fun hF => ?_) fun hF => ?_
    ·
     refine ws 1473 1601 ?_
     refine qf (.sl 1473 0 0) ((1473, .row true 2 (([] : List TNamedMelody).map eNamedMelody)) :: (K0v v1013 v50007)) (by simp) ?_
     refine qp (AI 9) rfl ?_
     refine r_nil ?_
     refine w_ret ?_
     refine thenQ_r ?_
     refine blockQ_r ?_
     refine thenQ_r ?_
     refine thenQ_r ?_
     refine blockQ_r ?_
     refine thenQ_r ?_
     cases hF
     exact eR
    ·
     refine w_skip ?_
     refine thenQ_n ?_
     refine w_reg 1473 2177 rfl rfl ?_
     refine qp (.sl 0 0 v50007.length) rfl (qp (.val none (K0x v0)) rfl (qp (AI v50006) rfl ?_))
     obtain ⟨v1014, e1014, hF⟩ := bind_get hF
     refine qp (.val none (.ptr [.str v1014.1, .str v1014.2.1, .str v1014.2.2])) (ev_iad_n rfl rfl e1014 rfl) (qp (.val none (.ptr [.str v1014.2.1, .str v1014.2.2])) rfl (qp (AS v1014.2.1) rfl (qp (.sl 961 0 v1013.1.length) rfl ?_)))
     refine qf (.agg [AS v1014.2.1, .sl 961 0 v1013.1.length]) (K0v v1013 v50007) (by simp) ?_
     refine qf (.sl 1985 0 ([(v1014.2.1, v1013.1)].length)) (K0w v1014 v1013 v50007) (by simp [List.take_of_length_le]) ?_
     obtain ⟨g1015, hF⟩ := need_some hF
     refine qf (.sl 2049 0 ((v50007 ++ [(v1014.2.1, v1013.1)]).length)) ((2049, .row true 2 ((v50007 ++ [(v1014.2.1, v1013.1)]).map eNamedMelody)) :: (0, .dead) :: (1985, .dead) :: (K0w v1014 v1013 v50007)) (effT_app_l rfl (by simp) rfl rfl (by simp) rfl (by decide) g1015 rfl) ?_
     refine qp (.sl 2049 0 ((v50007 ++ [(v1014.2.1, v1013.1)]).length)) rfl ?_
     refine r_nil ?_
     refine blockQ_n ?_
     refine thenQ_n ?_
     refine w_reg 2177 2369 rfl rfl ?_
     refine qp (AI v50006) rfl (qp (AI (w64 (v50006 + 1))) rfl (qp (AI (w64 (v50006 + 1))) rfl ?_))
     refine r_nil ?_
     refine thenQ_n ?_
     refine ar (l' := [(0, .val none (K0x v0)), (4, .sl 0 0 (v50007 ++ [(v1014.2.1, v1013.1)]).length), (5, AI (w64 (v50006 + 1)))]) (L := [(0, .row true 2 ((v50007 ++ [(v1014.2.1, v1013.1)]).map eNamedMelody))]) [0, 4, 5] [(2049, 0)] 1 ⟨_, by rfl, hF⟩
  ·
   refine w_exit ?_
   refine thenQ_e ?_
   refine thenQ_e ?_
   refine blockQ_e ?_
   refine thenQ_n ?_
   refine w_seq ?_
   refine ws 257 449 ?_
   refine qp (.sl 0 0 v50007.length) rfl (qp (AI (v50007.length : Int)) rfl (qp (AB (decide ((12 : Int) < (v50007.length : Int)))) rfl ?_))
   refine r_nil ?_
   refine cF hF (fun hF => ?_) fun hF => ?_
   ·
    refine ws 449 577 ?_
    refine qf (.sl 449 0 0) [(449, .row true 2 (([] : List TNamedMelody).map eNamedMelody)), (0, .row true 2 (v50007.map eNamedMelody))] (by simp) ?_
    refine qp (AI 5) rfl ?_
    refine r_nil ?_
    refine w_ret ?_
    refine thenQ_r ?_
    cases hF
    exact eR
   ·
    refine w_skip ?_
    refine thenQ_n ?_
    refine ws 449 641 ?_
    refine qp (.sl 0 0 v50007.length) rfl (qp (.sl 0 0 v50007.length) rfl (qp (AI 0) rfl ?_))
    exact rR hF

def c145 : MC := (.seq (.reg [pT 2 (.mv cf)]) (.seq (.seq (.reg [mvt 5 0, pT 6 (.lens t5), pT 7 (.mv (ci 0))]) (.block 0 (.loop (.seq (.reg [pT 8 (.bin .lss t7 t6)]) (.seq (.cond t8 .skip (.exit 0)) (.seq (.block 1 (.seq (.reg [mvt 9 7, mvt 3 9]) (.seq (.reg [mvt 10 0, mvt 11 3, pT 12 (.ixs t10 t11), mvt 4 12]) (.seq (.reg [mvt 13 4, pT 14 (.bin .lss t13 (.c (.int .u8 97))), mvt 15 14, nF 16 15 t4, kF 17 15 (.bin .gtr t16 (.c (.int .u8 122))), pT 18 (.pick t15 ct t17), mvt 19 18, nT 20 19 t4, kT 21 19 (.bin .lss t20 (.c (.int .u8 48))), nT 22 19 t21, nF 23 22 t4, kF 24 22 (.bin .gtr t23 (.c (.int .u8 57))), kT 25 19 (.pick t22 ct t24), pT 26 (.pick t19 t25 cf)]) (.cond t26 (.seq (.reg [pT 2 (.mv cf)]) .ret) .skip))))) (.reg [pT 27 (.bin .add t7 (ci 1)), mvt 7 27]))))))) (.seq (.reg [pT 2 (.mv ct)]) .ret)))
theorem c145_is : compFn Tryz.prog 145 = some (c145, [(.tmp 2)]) := by kernel_rfl
theorem c145_ok : okFn Tryz.prog 145 = true := by kernel_rfl

noncomputable def F_impl_onlyNameBytes_l0 (v0 : List UInt8) (k0 : Int → Option (Bool)) : Int → Option (Bool)
 | v50001 => (bif (decide (v50001 < (v0.length : Int))) then ((ix v0 v50001).bind fun v1000 => (bif (decide ((v1000.toNat : Int) < (97 : Int))) then (bif (decide ((v1000.toNat : Int) < (48 : Int))) then some false
 else (bif (decide ((57 : Int) < (v1000.toNat : Int))) then some false
 else k0 (w64 (v50001 + 1))))
 else (bif (decide ((122 : Int) < (v1000.toNat : Int))) then (bif (decide ((v1000.toNat : Int) < (48 : Int))) then some false
 else (bif (decide ((57 : Int) < (v1000.toNat : Int))) then some false
 else k0 (w64 (v50001 + 1))))
 else k0 (w64 (v50001 + 1)))))
 else some true)
noncomputable def F_impl_onlyNameBytes (v0 : List UInt8) : Option (Bool) :=
 loop (F_impl_onlyNameBytes_l0 v0) 0
@[simp] def res_impl_onlyNameBytes (r : Bool) : RV := .one (.one (.val (.bool r)))
theorem con_impl_onlyNameBytes {v0 : List UInt8} {r : Bool} (hF : F_impl_onlyNameBytes v0 = some r) : Con Tryz.prog 145 [.str v0] (res_impl_onlyNameBytes r) := by
 unfold F_impl_onlyNameBytes at hF
 refine con_of c145_is fun N => ?_
 refine ws 0 64 ?_
 refine qp (AB false) rfl ?_
 refine r_nil ?_
 refine w_seq ?_
 refine ws 64 256 ?_
 refine qp (AS v0) rfl (qp (AI (v0.length : Int)) rfl (qp (AI 0) rfl ?_))
 refine r_nil ?_
 refine w_block ?_
 refine wr (l' := [(0, AS v0), (6, AI (v0.length : Int)), (7, AI 0)]) (L := []) [0, 6, 7] [] 1 ?_
 refine w_loopF (F_impl_onlyNameBytes_l0 v0) (fun s : Int => mkS [(0, AS v0), (6, AI (v0.length : Int)), (7, AI s)] (fo []) 1) hF ?_
 rintro k0 v50001 hF
 rw [F_impl_onlyNameBytes_l0] at hF
 try dsimp only
 refine ws 1 65 ?_
 refine qp (AB (decide (v50001 < (v0.length : Int)))) rfl ?_
 refine r_nil ?_
 refine w_seq ?_
 refine cF hF (fun hF => ?_) fun hF => ?_
 ·
  refine w_skip ?_
  refine thenQ_n ?_
  refine w_seq ?_
  refine w_block ?_
  refine ws 65 193 ?_
  refine qp (AI v50001) rfl (qp (AI v50001) rfl ?_)
  refine r_nil ?_
  refine ws 193 449 ?_
  refine qp (AS v0) rfl (qp (AI v50001) rfl ?_)
  obtain ⟨v1000, e1000, hF⟩ := bind_get hF
  refine qp (.val none (.int .u8 (v1000.toNat : Int))) (ev_ixs rfl rfl e1000) (qp (.val none (.int .u8 (v1000.toNat : Int))) rfl ?_)
  refine r_nil ?_
  refine ws 449 1345 ?_
  refine qp (.val none (.int .u8 (v1000.toNat : Int))) rfl (qp (AB (decide ((v1000.toNat : Int) < (97 : Int)))) rfl (qp (AB (decide ((v1000.toNat : Int) < (97 : Int)))) rfl ?_))
  refine q_case 15 hF rfl (fun hF => ?_) (fun hF => ?_)
  ·
   refine qn2 (qp (AB true) rfl (qp (AB true) rfl (qg (.val none (.int .u8 (v1000.toNat : Int))) rfl rfl (qg (AB (decide ((v1000.toNat : Int) < (48 : Int)))) rfl rfl (qg (AB (decide ((v1000.toNat : Int) < (48 : Int)))) rfl rfl ?_)))))
   refine q_case 22 hF rfl (fun hF => ?_) (fun hF => ?_)
   ·
    refine qn2 (qg (AB true) rfl rfl (qp (AB true) rfl ?_))
    refine r_nil ?_
    refine w_true rfl ?_
    refine ws 1345 1409 ?_
    refine qp (AB false) rfl ?_
    refine r_nil ?_
    refine w_ret ?_
    refine blockQ_r ?_
    refine thenQ_r ?_
    refine thenQ_r ?_
    refine blockQ_r ?_
    refine thenQ_r ?_
    cases hF
    exact eR
   ·
    refine qg (.val none (.int .u8 (v1000.toNat : Int))) rfl rfl (qg (AB (decide ((57 : Int) < (v1000.toNat : Int)))) rfl rfl (qg (AB (decide ((57 : Int) < (v1000.toNat : Int)))) rfl rfl (qp (AB (decide ((57 : Int) < (v1000.toNat : Int)))) rfl ?_)))
    refine r_nil ?_
    refine cF hF (fun hF => ?_) fun hF => ?_
    ·
     refine ws 1345 1409 ?_
     refine qp (AB false) rfl ?_
     refine r_nil ?_
     refine w_ret ?_
     refine blockQ_r ?_
     refine thenQ_r ?_
     refine thenQ_r ?_
     refine blockQ_r ?_
     refine thenQ_r ?_
     cases hF
     exact eR
    ·
     refine w_skip ?_
     refine blockQ_n ?_
     refine thenQ_n ?_
     refine w_reg 1345 1473 rfl rfl ?_
     refine qp (AI (w64 (v50001 + 1))) rfl (qp (AI (w64 (v50001 + 1))) rfl ?_)
     refine r_nil ?_
     refine thenQ_n ?_
     refine ar (l' := [(0, AS v0), (6, AI (v0.length : Int)), (7, AI (w64 (v50001 + 1)))]) (L := []) [0, 6, 7] [] 1 ⟨_, by rfl, hF⟩
  ·
   refine qg (.val none (.int .u8 (v1000.toNat : Int))) rfl rfl (qg (AB (decide ((122 : Int) < (v1000.toNat : Int)))) rfl rfl (qp (AB (decide ((122 : Int) < (v1000.toNat : Int)))) rfl (qp (AB (decide ((122 : Int) < (v1000.toNat : Int)))) rfl ?_)))
   refine q_case 19 hF rfl (fun hF => ?_) (fun hF => ?_)
   ·
    refine qg (.val none (.int .u8 (v1000.toNat : Int))) rfl rfl (qg (AB (decide ((v1000.toNat : Int) < (48 : Int)))) rfl rfl (qg (AB (decide ((v1000.toNat : Int) < (48 : Int)))) rfl rfl ?_))
    refine q_case 22 hF rfl (fun hF => ?_) (fun hF => ?_)
    ·
     refine qn2 (qg (AB true) rfl rfl (qp (AB true) rfl ?_))
     refine r_nil ?_
     refine w_true rfl ?_
     refine ws 1345 1409 ?_
     refine qp (AB false) rfl ?_
     refine r_nil ?_
     refine w_ret ?_
     refine blockQ_r ?_
     refine thenQ_r ?_
     refine thenQ_r ?_
     refine blockQ_r ?_
     refine thenQ_r ?_
     cases hF
     exact eR
    ·
     refine qg (.val none (.int .u8 (v1000.toNat : Int))) rfl rfl (qg (AB (decide ((57 : Int) < (v1000.toNat : Int)))) rfl rfl (qg (AB (decide ((57 : Int) < (v1000.toNat : Int)))) rfl rfl (qp (AB (decide ((57 : Int) < (v1000.toNat : Int)))) rfl ?_)))
     refine r_nil ?_
     refine cF hF (fun hF => ?_) fun hF => ?_
     ·
      refine ws 1345 1409 ?_
      refine qp (AB false) rfl ?_
      refine r_nil ?_
      refine w_ret ?_
      refine blockQ_r ?_
      refine thenQ_r ?_
      refine thenQ_r ?_
      refine blockQ_r ?_
      refine thenQ_r ?_
      cases hF
      exact eR
     ·
      refine w_skip ?_
      refine blockQ_n ?_
      refine thenQ_n ?_
      refine w_reg 1345 1473 rfl rfl ?_
      refine qp (AI (w64 (v50001 + 1))) rfl (qp (AI (w64 (v50001 + 1))) rfl ?_)
      refine r_nil ?_
      refine thenQ_n ?_
      refine ar (l' := [(0, AS v0), (6, AI (v0.length : Int)), (7, AI (w64 (v50001 + 1)))]) (L := []) [0, 6, 7] [] 1 ⟨_, by rfl, hF⟩
   ·
    refine qn3 (qu rfl (qu rfl (qn rfl (qp (AB false) rfl ?_))))
    refine r_nil ?_
    refine w_false rfl ?_
    refine w_skip ?_
    refine blockQ_n ?_
    refine thenQ_n ?_
    refine w_reg 1345 1473 rfl rfl ?_
    refine qp (AI (w64 (v50001 + 1))) rfl (qp (AI (w64 (v50001 + 1))) rfl ?_)
    refine r_nil ?_
    refine thenQ_n ?_
    refine ar (l' := [(0, AS v0), (6, AI (v0.length : Int)), (7, AI (w64 (v50001 + 1)))]) (L := []) [0, 6, 7] [] 1 ⟨_, by rfl, hF⟩
 ·
  refine w_exit ?_
  refine thenQ_e ?_
  refine thenQ_e ?_
  refine blockQ_e ?_
  refine thenQ_n ?_
  refine ws 65 129 ?_
  refine qp (AB true) rfl ?_
  exact rR hF

def c93 : MC := (.seq (.reg [pT 2 (.mv cf)]) (.seq (.seq (.reg [mvt 3 0, pT 4 (.lens t3), pT 5 (.bin .lss t4 (ci 1)), mvt 6 5, nF 7 6 t0, kF 8 6 (.lens t7), kF 9 6 (.bin .gtr t8 (ci 10)), pT 10 (.pick t6 ct t9), mvt 11 10, nF 12 11 t0, kF 13 11 (.ixs t12 (ci 0)), kF 14 11 (.bin .lss t13 (.c (.int .u8 97))), pT 15 (.pick t11 ct t14), mvt 16 15, nF 17 16 t0, kF 18 16 (.ixs t17 (ci 0)), kF 19 16 (.bin .gtr t18 (.c (.int .u8 122))), pT 20 (.pick t16 ct t19)]) (.cond t20 (.seq (.reg [pT 2 (.mv cf)]) .ret) .skip)) (.seq (.reg [mvt 21 0, rg 22 (.call true 145 [t21]), mvt 2 22]) .ret)))
theorem c93_is : compFn Tryz.prog 93 = some (c93, [(.tmp 2)]) := by kernel_rfl
theorem c93_ok : okFn Tryz.prog 93 = true := by kernel_rfl

noncomputable def F_impl_IsName (v0 : List UInt8) : Option (Bool) :=
 (bif (decide ((v0.length : Int) < (1 : Int))) then some false
 else (bif (decide ((10 : Int) < (v0.length : Int))) then some false
 else ((ix v0 0).bind fun v1000 => (bif (decide ((v1000.toNat : Int) < (97 : Int))) then some false
 else ((ix v0 0).bind fun v1001 => (bif (decide ((122 : Int) < (v1001.toNat : Int))) then some false
 else ((F_impl_onlyNameBytes v0).bind fun v1002 => some v1002)))))))
@[simp] def res_impl_IsName (r : Bool) : RV := .one (.one (.val (.bool r)))
theorem con_impl_IsName {v0 : List UInt8} {r : Bool} (hF : F_impl_IsName v0 = some r) : Con Tryz.prog 93 [.str v0] (res_impl_IsName r) := by
 unfold F_impl_IsName at hF
 refine con_of c93_is fun N => ?_
 refine ws 0 64 ?_
 refine qp (AB false) rfl ?_
 refine r_nil ?_
 refine w_seq ?_
 refine ws 64 1216 ?_
 refine qp (AS v0) rfl (qp (AI (v0.length : Int)) rfl (qp (AB (decide ((v0.length : Int) < (1 : Int)))) rfl (qp (AB (decide ((v0.length : Int) < (1 : Int)))) rfl ?_)))
 refine q_case 6 hF rfl (fun hF => ?_) (fun hF => ?_)
 ·
  refine qn3 (qp (AB true) rfl (qp (AB true) rfl (qn3 ?_)))
  refine qp (AB true) rfl (qp (AB true) rfl (qn3 (qp (AB true) rfl ?_)))
  refine r_nil ?_
  refine w_true rfl ?_
  refine ws 1216 1280 ?_
  refine qp (AB false) rfl ?_
  refine r_nil ?_
  refine w_ret ?_
  refine thenQ_r ?_
  cases hF
  exact eR
 ·
  refine qg (AS v0) rfl rfl (qg (AI (v0.length : Int)) rfl rfl (qg (AB (decide ((10 : Int) < (v0.length : Int)))) rfl rfl (qp (AB (decide ((10 : Int) < (v0.length : Int)))) rfl (qp (AB (decide ((10 : Int) < (v0.length : Int)))) rfl ?_))))
  refine q_case 11 hF rfl (fun hF => ?_) (fun hF => ?_)
  ·
   refine qn3 (qp (AB true) rfl (qp (AB true) rfl (qn3 ?_)))
   refine qp (AB true) rfl ?_
   refine r_nil ?_
   refine w_true rfl ?_
   refine ws 1216 1280 ?_
   refine qp (AB false) rfl ?_
   refine r_nil ?_
   refine w_ret ?_
   refine thenQ_r ?_
   cases hF
   exact eR
  ·
   refine qg (AS v0) rfl rfl ?_
   obtain ⟨v1000, e1000, hF⟩ := bind_get hF
   refine qg (.val none (.int .u8 (v1000.toNat : Int))) rfl (ev_ixs rfl rfl e1000) (qg (AB (decide ((v1000.toNat : Int) < (97 : Int)))) rfl rfl (qp (AB (decide ((v1000.toNat : Int) < (97 : Int)))) rfl (qp (AB (decide ((v1000.toNat : Int) < (97 : Int)))) rfl ?_)))
   refine q_case 16 hF rfl (fun hF => ?_) (fun hF => ?_)
   ·
    refine qn3 (qp (AB true) rfl ?_)
    refine r_nil ?_
    refine w_true rfl ?_
    refine ws 1216 1280 ?_
    refine qp (AB false) rfl ?_
    refine r_nil ?_
    refine w_ret ?_
    refine thenQ_r ?_
    cases hF
    exact eR
   ·
    refine qg (AS v0) rfl rfl ?_
    obtain ⟨v1001, e1001, hF⟩ := bind_get hF
    refine qg (.val none (.int .u8 (v1001.toNat : Int))) rfl (ev_ixs rfl rfl e1001) (qg (AB (decide ((122 : Int) < (v1001.toNat : Int)))) rfl rfl (qp (AB (decide ((122 : Int) < (v1001.toNat : Int)))) rfl ?_))
    refine r_nil ?_
    refine cF hF (fun hF => ?_) fun hF => ?_
    ·
     refine ws 1216 1280 ?_
     refine qp (AB false) rfl ?_
     refine r_nil ?_
     refine w_ret ?_
     refine thenQ_r ?_
     cases hF
     exact eR
    ·
     refine w_skip ?_
     refine thenQ_n ?_
     refine ws 1216 1408 ?_
     refine qp (AS v0) rfl ?_
     obtain ⟨v1002, e1002, hF⟩ := bind_get hF
     refine qc (AB v1002) [] false (con_impl_onlyNameBytes e1002) c145_ok (by first | rfl | simp) rfl ?_
     refine qp (AB v1002) rfl ?_
     exact rR hF

theorem c251_x : IsIdx Tryz.prog 251 := ⟨by kernel_rfl, by kernel_rfl, by kernel_rfl, by kernel_rfl⟩




def c228 : MC := (.seq (.reg [pT 4 (.mv (ci 0))]) (.seq (.reg [mvt 5 0, mvt 6 1, rg 7 (.call true 251 [t5, t6]), mvt 4 7]) .ret))
theorem c228_is : compFn Tryz.prog 228 = some (c228, [(.tmp 4)]) := by kernel_rfl
theorem c228_ok : okFn Tryz.prog 228 = true := by kernel_rfl

noncomputable def F_stringslite_IndexByte (v0 : List UInt8) (v1 : Int) : Option (Int) :=
 some (byteIdx v0 (v1).toNat.toUInt8)
@[simp] def res_stringslite_IndexByte (r : Int) : RV := .one (.one (.val (.int .i64 r)))
theorem con_stringslite_IndexByte {v0 : List UInt8} {v1 : Int} {r : Int} (hF : F_stringslite_IndexByte v0 v1 = some r) : Con Tryz.prog 228 [.str v0, .int .u8 v1] (res_stringslite_IndexByte r) := by
 unfold F_stringslite_IndexByte at hF
 refine con_of c228_is fun N => ?_
 refine ws 0 64 ?_
 refine qp (AI 0) rfl ?_
 refine r_nil ?_
 refine ws 64 320 ?_
 refine qp (AS v0) rfl (qp (.val none (.int .u8 v1)) rfl ?_)
 refine qx (s := v0) (c := v1) c251_x (by first | rfl | simp) ?_
 refine qp (AI (byteIdx v0 (v1).toNat.toUInt8)) rfl ?_
 exact rR hF

def c196 : MC := (.seq (.reg [pT 4 (.mv (ci 0))]) (.seq (.reg [mvt 14 1, pT 15 (.lens t14), mvt 5 15]) (.seq (.block 0 (.seq (.reg [mvt 17 5, pT 18 (.bin .eql t17 (ci 0)), mvt 19 18, nF 20 19 t1, nF 21 19 t0, kF 22 19 (.bin .eql t20 t21), pT 23 (.pick t19 ct t22), mvt 16 23]) (.cond t16 (.seq (.reg [pT 4 (.mv (ci 0))]) .ret) (.seq (.reg [mvt 25 5, pT 26 (.bin .eql t25 (ci 1)), mvt 24 26]) (.cond t24 (.seq (.reg [mvt 27 0, mvt 28 1, pT 29 (.ixs t28 (ci 0)), rg 30 (.call true 228 [t27, t29]), mvt 4 30]) .ret) (.seq (.reg [mvt 32 5, mvt 33 0, pT 34 (.lens t33), pT 35 (.bin .geq t32 t34), mvt 31 35]) (.cond t31 (.seq (.reg [pT 4 (.mv (ci (-1)))]) .ret) (.seq .bad (.cond t36 (.seq (.reg [mvt 45 0, mvt 46 1, rg 47 (.call true 229 [t45, t46]), mvt 4 47]) .ret) .skip))))))))) (.seq (.reg [mvt 48 1, pT 49 (.ixs t48 (ci 0)), mvt 6 49]) (.seq (.reg [mvt 50 1, pT 51 (.ixs t50 (ci 1)), mvt 7 51]) (.seq (.reg [pT 8 (.mv (ci 0))]) (.seq (.reg [mvt 52 0, pT 53 (.lens t52), mvt 54 5, pT 55 (.bin .sub t53 t54), pT 56 (.bin .add t55 (ci 1)), mvt 9 56]) (.seq (.reg [pT 10 (.mv (ci 0))]) (.seq (.block 1 (.loop (.seq (.seq (.reg [mvt 57 8, mvt 58 9, pT 59 (.bin .lss t57 t58)]) (.cond t59 .skip (.exit 1))) (.block 2 (.seq (.seq (.reg [mvt 60 0, mvt 61 8, pT 62 (.ixs t60 t61), mvt 63 6, pT 64 (.bin .neq t62 t63)]) (.cond t64 (.seq (.reg [mvt 65 0, mvt 66 8, pT 67 (.bin .add t66 (ci 1)), mvt 68 9, pT 69 (.slcs t65 (some t67) (some t68)), mvt 70 6, rg 71 (.call true 228 [t69, t70]), mvt 11 71]) (.seq (.seq (.reg [mvt 72 11, pT 73 (.bin .lss t72 (ci 0))]) (.cond t73 (.seq (.reg [pT 4 (.mv (ci (-1)))]) .ret) .skip)) (.reg [mvt 74 8, mvt 75 11, pT 76 (.bin .add t75 (ci 1)), pT 77 (.bin .add t74 t76), mvt 8 77]))) .skip)) (.seq (.seq (.reg [mvt 78 0, mvt 79 8, pT 80 (.bin .add t79 (ci 1)), pT 81 (.ixs t78 t80), mvt 82 7, pT 83 (.bin .eql t81 t82), mvt 84 83, nT 85 84 t0, nT 86 84 t8, nT 87 84 t8, nT 88 84 t5, kT 89 84 (.bin .add t87 t88), kT 90 84 (.slcs t85 (some t86) (some t89)), nT 91 84 t1, kT 92 84 (.bin .eql t90 t91), pT 93 (.pick t84 t92 cf)]) (.cond t93 (.seq (.reg [mvt 94 8, mvt 4 94]) .ret) .skip)) (.seq (.reg [mvt 95 8, pT 96 (.bin .add t95 (ci 1)), mvt 8 96]) (.seq (.reg [mvt 97 10, pT 98 (.bin .add t97 (ci 1)), mvt 10 98]) (.seq .bad (.cond t107 (.seq (.reg [mvt 108 0, mvt 109 8, pT 110 (.slcs t108 (some t109) none), mvt 111 1, rg 112 (.call true 229 [t110, t111]), mvt 12 112]) (.seq (.seq (.reg [mvt 113 12, pT 114 (.bin .geq t113 (ci 0))]) (.cond t114 (.seq (.reg [mvt 115 12, mvt 116 8, pT 117 (.bin .add t115 t116), mvt 4 117]) .ret) .skip)) (.seq (.reg [pT 4 (.mv (ci (-1)))]) .ret))) (.seq .bad (.cond t132 (.seq (.reg [mvt 133 0, mvt 134 8, pT 135 (.slcs t133 (some t134) none), mvt 136 1, rg 137 (.call true 231 [t135, t136]), mvt 13 137]) (.seq (.seq (.reg [mvt 138 13, pT 139 (.bin .lss t138 (ci 0))]) (.cond t139 (.seq (.reg [pT 4 (.mv (ci (-1)))]) .ret) .skip)) (.seq (.reg [mvt 140 8, mvt 141 13, pT 142 (.bin .add t140 t141), mvt 4 142]) .ret))) .skip)))))))))))) (.seq (.reg [pT 4 (.mv (ci (-1)))]) .ret))))))))))
theorem c196_is : compFn Tryz.prog 196 = some (c196, [(.tmp 4)]) := by kernel_rfl
theorem c196_ok : okFn Tryz.prog 196 = true := by kernel_rfl

noncomputable def F_stringslite_Index_j0 (v0 : List UInt8) (v1 : List UInt8) (v50000 : Bool) : Option (Int) :=
 (bif v50000 then some 0
 else (bif (decide ((v1.length : Int) = (1 : Int))) then ((ix v1 0).bind fun v1000 => ((F_stringslite_IndexByte v0 (v1000.toNat : Int)).bind fun v1001 => some v1001))
 else (bif (decide ((v0.length : Int) ≤ (v1.length : Int))) then some (-1)
 else none)))
noncomputable def F_stringslite_Index (v0 : List UInt8) (v1 : List UInt8) : Option (Int) :=
 (bif (decide ((v1.length : Int) = (0 : Int))) then F_stringslite_Index_j0 v0 v1 true
 else F_stringslite_Index_j0 v0 v1 (decide (v1 = v0)))
@[simp] def res_stringslite_Index (r : Int) : RV := .one (.one (.val (.int .i64 r)))
theorem con_stringslite_Index {v0 : List UInt8} {v1 : List UInt8} {r : Int} (hF : F_stringslite_Index v0 v1 = some r) : Con Tryz.prog 196 [.str v0, .str v1] (res_stringslite_Index r) := by
 unfold F_stringslite_Index at hF
 refine con_of c196_is fun N => ?_
 refine ws 0 64 ?_
 refine qp (AI 0) rfl ?_
 refine r_nil ?_
 refine ws 64 256 ?_
 refine qp (AS v1) rfl (qp (AI (v1.length : Int)) rfl (qp (AI (v1.length : Int)) rfl ?_))
 refine r_nil ?_
 refine w_seq ?_
 refine w_block ?_
 refine w_meet (fun s' => ∃ (v50000 : Bool), s' = mkS [(0, AS v0), (1, AS v1), (5, AI (v1.length : Int)), (16, AB v50000)] (fo []) 1 ∧ F_stringslite_Index_j0 v0 v1 v50000 = some r) ?_ ?_
 ·
  refine w_reg 256 768 rfl rfl ?_
  refine qp (AI (v1.length : Int)) rfl (qp (AB (decide ((v1.length : Int) = (0 : Int)))) rfl (qp (AB (decide ((v1.length : Int) = (0 : Int)))) rfl ?_))
  refine q_case 19 hF rfl (fun hF => ?_) (fun hF => ?_)
  ·
   refine qn3 (qp (AB true) rfl (qp (AB true) rfl ?_))
   refine r_nil ?_
   refine thenQ_n ?_
   refine aw_ren (l' := [(0, AS v0), (1, AS v1), (5, AI (v1.length : Int)), (16, AB true)]) (L := []) [0, 1, 5, 16] [] 1 (by first | rfl | simp) (by first | rfl | simp) (by decide) (by decide) (by decide) ⟨_, rfl, hF⟩
  ·
   refine qg (AS v1) rfl rfl (qg (AS v0) rfl rfl (qg (AB (decide (v1 = v0))) rfl rfl (qp (AB (decide (v1 = v0))) rfl (qp (AB (decide (v1 = v0))) rfl ?_))))
   refine r_nil ?_
   refine thenQ_n ?_
   refine aw_ren (l' := [(0, AS v0), (1, AS v1), (5, AI (v1.length : Int)), (16, AB (decide (v1 = v0)))]) (L := []) [0, 1, 5, 16] [] 1 (by first | rfl | simp) (by first | rfl | simp) (by decide) (by decide) (by decide) ⟨_, rfl, hF⟩
 ·
  rintro s' ⟨v50000, rfl, hF⟩
  unfold F_stringslite_Index_j0 at hF
  refine cF hF (fun hF => ?_) fun hF => ?_
  ·
   refine ws 1 65 ?_
   refine qp (AI 0) rfl ?_
   refine r_nil ?_
   refine w_ret ?_
   refine blockQ_r ?_
   refine thenQ_r ?_
   cases hF
   exact eR
  ·
   refine ws 1 193 ?_
   refine qp (AI (v1.length : Int)) rfl (qp (AB (decide ((v1.length : Int) = (1 : Int)))) rfl (qp (AB (decide ((v1.length : Int) = (1 : Int)))) rfl ?_))
   refine r_nil ?_
   refine cF hF (fun hF => ?_) fun hF => ?_
   ·
    refine ws 193 513 ?_
    refine qp (AS v0) rfl (qp (AS v1) rfl ?_)
    obtain ⟨v1000, e1000, hF⟩ := bind_get hF
    refine qp (.val none (.int .u8 (v1000.toNat : Int))) (ev_ixs rfl rfl e1000) ?_
    obtain ⟨v1001, e1001, hF⟩ := bind_get hF
    refine qc (AI v1001) [] false (con_stringslite_IndexByte e1001) c228_ok (by first | rfl | simp) rfl ?_
    refine qp (AI v1001) rfl ?_
    refine r_nil ?_
    refine w_ret ?_
    refine blockQ_r ?_
    refine thenQ_r ?_
    cases hF
    exact eR
   ·
    refine ws 193 513 ?_
    refine qp (AI (v1.length : Int)) rfl (qp (AS v0) rfl (qp (AI (v0.length : Int)) rfl (qp (AB (decide ((v0.length : Int) ≤ (v1.length : Int)))) rfl (qp (AB (decide ((v0.length : Int) ≤ (v1.length : Int)))) rfl ?_))))
    refine r_nil ?_
    refine cF hF (fun hF => ?_) fun hF => ?_
    ·
     refine ws 513 577 ?_
     refine qp (AI (-1)) rfl ?_
     refine r_nil ?_
     refine w_ret ?_
     refine blockQ_r ?_
     refine thenQ_r ?_
     cases hF
     exact eR
    ·
     refine w_seq ?_
     cases hF

def c146 : MC := (.seq (.reg [pT 4 (.mv (ci 0))]) (.seq (.reg [mvt 5 0, mvt 6 1, rg 7 (.call true 196 [t5, t6]), mvt 4 7]) .ret))
theorem c146_is : compFn Tryz.prog 146 = some (c146, [(.tmp 4)]) := by kernel_rfl
theorem c146_ok : okFn Tryz.prog 146 = true := by kernel_rfl

noncomputable def F_strings_Index (v0 : List UInt8) (v1 : List UInt8) : Option (Int) :=
 ((F_stringslite_Index v0 v1).bind fun v1000 => some v1000)
@[simp] def res_strings_Index (r : Int) : RV := .one (.one (.val (.int .i64 r)))
theorem con_strings_Index {v0 : List UInt8} {v1 : List UInt8} {r : Int} (hF : F_strings_Index v0 v1 = some r) : Con Tryz.prog 146 [.str v0, .str v1] (res_strings_Index r) := by
 unfold F_strings_Index at hF
 refine con_of c146_is fun N => ?_
 refine ws 0 64 ?_
 refine qp (AI 0) rfl ?_
 refine r_nil ?_
 refine ws 64 320 ?_
 refine qp (AS v0) rfl (qp (AS v1) rfl ?_)
 obtain ⟨v1000, e1000, hF⟩ := bind_get hF
 refine qc (AI v1000) [] false (con_stringslite_Index e1000) c196_ok (by first | rfl | simp) rfl ?_
 refine qp (AI v1000) rfl ?_
 exact rR hF

def c94 : MC := (.seq (.reg [pT 4 (.mv cf)]) (.seq (.reg [mvt 5 0, mvt 6 1, rg 7 (.call true 146 [t5, t6]), pT 8 (.bin .geq t7 (ci 0)), mvt 4 8]) .ret))
theorem c94_is : compFn Tryz.prog 94 = some (c94, [(.tmp 4)]) := by kernel_rfl
theorem c94_ok : okFn Tryz.prog 94 = true := by kernel_rfl

noncomputable def F_strings_Contains (v0 : List UInt8) (v1 : List UInt8) : Option (Bool) :=
 ((F_strings_Index v0 v1).bind fun v1000 => some (decide ((0 : Int) ≤ v1000)))
@[simp] def res_strings_Contains (r : Bool) : RV := .one (.one (.val (.bool r)))
theorem con_strings_Contains {v0 : List UInt8} {v1 : List UInt8} {r : Bool} (hF : F_strings_Contains v0 v1 = some r) : Con Tryz.prog 94 [.str v0, .str v1] (res_strings_Contains r) := by
 unfold F_strings_Contains at hF
 refine con_of c94_is fun N => ?_
 refine ws 0 64 ?_
 refine qp (AB false) rfl ?_
 refine r_nil ?_
 refine ws 64 384 ?_
 refine qp (AS v0) rfl (qp (AS v1) rfl ?_)
 obtain ⟨v1000, e1000, hF⟩ := bind_get hF
 refine qc (AI v1000) [] false (con_strings_Index e1000) c146_ok (by first | rfl | simp) rfl ?_
 refine qp (AB (decide ((0 : Int) ≤ v1000))) rfl (qp (AB (decide ((0 : Int) ≤ v1000))) rfl ?_)
 exact rR hF

def c58 : MC := (.seq (.reg [rg 1 (.f (.box t0)), pT 2 (.mv cf)]) (.seq (.reg [pT 3 (.fad t1 0), pT 4 (.ld t3 1 false), rg 5 (.call true 93 [t4]), mvt 6 5, kT 7 6 (.fad t1 1), kT 8 6 (.ld t7 1 false), ⟨(some 9), (some (6, true)), (.call true 93 [t8])⟩, pT 10 (.pick t6 t9 cf), mvt 11 10, kT 12 11 (.fad t1 2), kT 13 11 (.ld t12 1 false), kT 14 11 (.lens t13), kT 15 11 (.bin .leq t14 (ci 400)), pT 16 (.pick t11 t15 cf), mvt 17 16, kT 18 17 (.fad t1 2), kT 19 17 (.ld t18 1 false), ⟨(some 20), (some (17, true)), (.call true 94 [t19, (.c (.str [10]))])⟩, kT 21 17 (.not t20), pT 22 (.pick t17 t21 cf), mvt 2 22]) .ret))
theorem c58_is : compFn Tryz.prog 58 = some (c58, [(.tmp 2)]) := by kernel_rfl
theorem c58_ok : okFn Tryz.prog 58 = true := by kernel_rfl

noncomputable def F_impl_ValidBlock (v0 : TBlock) : Option (Bool) :=
 ((F_impl_IsName v0.1).bind fun v1000 => (bif v1000 then ((F_impl_IsName v0.2.1).bind fun v1001 => (bif v1001 then (bif (decide ((v0.2.2.length : Int) ≤ (400 : Int))) then ((F_strings_Contains v0.2.2 [10]).bind fun v1002 => some (!v1002))
 else some false)
 else some false))
 else some false))
@[simp] abbrev K0y (v0 : TBlock) : List (Nat × Root) := [(0, .box [AS v0.1, AS v0.2.1, AS v0.2.2])]
@[simp] def res_impl_ValidBlock (r : Bool) : RV := .one (.one (.val (.bool r)))
theorem con_impl_ValidBlock {v0 : TBlock} {r : Bool} (hF : F_impl_ValidBlock v0 = some r) : Con Tryz.prog 58 [eBlock v0] (res_impl_ValidBlock r) := by
 unfold F_impl_ValidBlock at hF
 refine con_of c58_is fun N => ?_
 refine ws 0 128 ?_
 refine qf (.ptr 0 0 0) (K0y v0) (by simp) ?_
 refine qp (AB false) rfl ?_
 refine r_nil ?_
 refine ws 128 1472 ?_
 refine qp (.ptr 0 0 0) rfl (qp (AS v0.1) rfl ?_)
 obtain ⟨v1000, e1000, hF⟩ := bind_get hF
 refine qc (AB v1000) (K0y v0) false (con_impl_IsName e1000) c93_ok (by first | rfl | simp) rfl ?_
 refine qp (AB v1000) rfl ?_
 refine q_case 6 hF rfl (fun hF => ?_) (fun hF => ?_)
 ·
  refine qg (.ptr 0 0 1) rfl rfl (qg (AS v0.2.1) rfl rfl ?_)
  obtain ⟨v1001, e1001, hF⟩ := bind_get hF
  refine qcg (AB v1001) (K0y v0) false rfl (con_impl_IsName e1001) c93_ok (by first | rfl | simp) rfl ?_
  refine qp (AB v1001) rfl (qp (AB v1001) rfl ?_)
  refine q_case 11 hF rfl (fun hF => ?_) (fun hF => ?_)
  ·
   refine qg (.ptr 0 0 2) rfl rfl (qg (AS v0.2.2) rfl rfl (qg (AI (v0.2.2.length : Int)) rfl rfl (qg (AB (decide ((v0.2.2.length : Int) ≤ (400 : Int)))) rfl rfl (qp (AB (decide ((v0.2.2.length : Int) ≤ (400 : Int)))) rfl (qp (AB (decide ((v0.2.2.length : Int) ≤ (400 : Int)))) rfl ?_)))))
   refine q_case 17 hF rfl (fun hF => ?_) (fun hF => ?_)
   ·
    refine qg (.ptr 0 0 2) rfl rfl (qg (AS v0.2.2) rfl rfl ?_)
    obtain ⟨v1002, e1002, hF⟩ := bind_get hF
    refine qcg (AB v1002) (K0y v0) false rfl (con_strings_Contains e1002) c94_ok (by first | rfl | simp) rfl ?_
    refine qg (AB (!v1002)) rfl rfl (qp (AB (!v1002)) rfl (qp (AB (!v1002)) rfl ?_))
    exact rR hF
   ·
    refine qn4 (qp (AB false) rfl (qp (AB false) rfl ?_))
    exact rR hF
  ·
   refine qn4 (qp (AB false) rfl (qp (AB false) rfl (qn2 ?_)))
   refine qn2 (qp (AB false) rfl (qp (AB false) rfl ?_))
   exact rR hF
 ·
  refine qn3 (qp (AB false) rfl (qp (AB false) rfl (qn3 ?_)))
  refine qn rfl (qp (AB false) rfl (qp (AB false) rfl (qn rfl (qn rfl (qn rfl (qn rfl (qp (AB false) rfl ?_)))))))
  refine qp (AB false) rfl ?_
  exact rR hF

def c147 : MC := (.seq (.reg [pT 2 (.mv cf)]) (.seq (.reg [mvt 3 0, mvt 4 0, pT 5 (.bin .neq t3 t4), mvt 2 5]) .ret))
theorem c147_is : compFn Tryz.prog 147 = some (c147, [(.tmp 2)]) := by kernel_rfl
theorem c147_ok : okFn Tryz.prog 147 = true := by kernel_rfl

noncomputable def F_cmp_isNaN_string (v0 : List UInt8) : Option (Bool) :=
 some (decide (v0 ≠ v0))
@[simp] def res_cmp_isNaN_string (r : Bool) : RV := .one (.one (.val (.bool r)))
theorem con_cmp_isNaN_string {v0 : List UInt8} {r : Bool} (hF : F_cmp_isNaN_string v0 = some r) : Con Tryz.prog 147 [.str v0] (res_cmp_isNaN_string r) := by
 unfold F_cmp_isNaN_string at hF
 refine con_of c147_is fun N => ?_
 refine ws 0 64 ?_
 refine qp (AB false) rfl ?_
 refine r_nil ?_
 refine ws 64 320 ?_
 refine qp (AS v0) rfl (qp (AS v0) rfl (qp (AB (decide (v0 ≠ v0))) rfl (qp (AB (decide (v0 ≠ v0))) rfl ?_)))
 exact rR hF

def c96 : MC := (.seq (.reg [pT 4 (.mv (ci 0))]) (.seq (.reg [mvt 7 0, rg 8 (.call true 147 [t7]), mvt 5 8]) (.seq (.reg [mvt 9 1, rg 10 (.call true 147 [t9]), mvt 6 10]) (.seq (.seq (.reg [mvt 11 5]) (.cond t11 (.seq (.seq (.reg [mvt 12 6]) (.cond t12 (.seq (.reg [pT 4 (.mv (ci 0))]) .ret) .skip)) (.seq (.reg [pT 4 (.mv (ci (-1)))]) .ret)) .skip)) (.seq (.seq (.reg [mvt 13 6]) (.cond t13 (.seq (.reg [pT 4 (.mv (ci 1))]) .ret) .skip)) (.seq (.seq (.reg [mvt 14 0, mvt 15 1, pT 16 (.bin .lss t14 t15)]) (.cond t16 (.seq (.reg [pT 4 (.mv (ci (-1)))]) .ret) .skip)) (.seq (.seq (.reg [mvt 17 0, mvt 18 1, pT 19 (.bin .gtr t17 t18)]) (.cond t19 (.seq (.reg [pT 4 (.mv (ci 1))]) .ret) .skip)) (.seq (.reg [pT 4 (.mv (ci 0))]) .ret))))))))
theorem c96_is : compFn Tryz.prog 96 = some (c96, [(.tmp 4)]) := by kernel_rfl
theorem c96_ok : okFn Tryz.prog 96 = true := by kernel_rfl

noncomputable def F_cmp_Compare_string (v0 : List UInt8) (v1 : List UInt8) : Option (Int) :=
 ((F_cmp_isNaN_string v0).bind fun v1000 => ((F_cmp_isNaN_string v1).bind fun v1001 => (bif v1000 then (bif v1001 then some 0
 else some (-1))
 else (bif v1001 then some 1
 else (bif (Op.bytesLess v0 v1) then some (-1)
 else (bif (!(Op.bytesLess v0 v1 || decide (v0 = v1))) then some 1
 else some 0))))))
@[simp] def res_cmp_Compare_string (r : Int) : RV := .one (.one (.val (.int .i64 r)))
theorem con_cmp_Compare_string {v0 : List UInt8} {v1 : List UInt8} {r : Int} (hF : F_cmp_Compare_string v0 v1 = some r) : Con Tryz.prog 96 [.str v0, .str v1] (res_cmp_Compare_string r) := by
 unfold F_cmp_Compare_string at hF
 refine con_of c96_is fun N => ?_
 refine ws 0 64 ?_
 refine qp (AI 0) rfl ?_
 refine r_nil ?_
 refine ws 64 256 ?_
 refine qp (AS v0) rfl ?_
 obtain ⟨v1000, e1000, hF⟩ := bind_get hF
 refine qc (AB v1000) [] false (con_cmp_isNaN_string e1000) c147_ok (by first | rfl | simp) rfl ?_
 refine qp (AB v1000) rfl ?_
 refine r_nil ?_
 refine ws 256 448 ?_
 refine qp (AS v1) rfl ?_
 obtain ⟨v1001, e1001, hF⟩ := bind_get hF
 refine qc (AB v1001) [] false (con_cmp_isNaN_string e1001) c147_ok (by first | rfl | simp) rfl ?_
 refine qp (AB v1001) rfl ?_
 refine r_nil ?_
 refine w_seq ?_
 refine ws 448 512 ?_
 refine qp (AB v1000) rfl ?_
 refine r_nil ?_
 refine cF hF (fun hF => ?_) fun hF => ?_
 ·
  refine w_seq ?_
  refine ws 512 576 ?_
  refine qp (AB v1001) rfl ?_
  refine r_nil ?_
  refine cF hF (fun hF => ?_) fun hF => ?_
  ·
   refine ws 576 640 ?_
   refine qp (AI 0) rfl ?_
   refine r_nil ?_
   refine w_ret ?_
   refine thenQ_r ?_
   refine thenQ_r ?_
   cases hF
   exact eR
  ·
   refine w_skip ?_
   refine thenQ_n ?_
   refine ws 576 640 ?_
   refine qp (AI (-1)) rfl ?_
   refine r_nil ?_
   refine w_ret ?_
   refine thenQ_r ?_
   cases hF
   exact eR
 ·
  refine w_skip ?_
  refine thenQ_n ?_
  refine w_seq ?_
  refine ws 512 576 ?_
  refine qp (AB v1001) rfl ?_
  refine r_nil ?_
  refine cF hF (fun hF => ?_) fun hF => ?_
  ·
   refine ws 576 640 ?_
   refine qp (AI 1) rfl ?_
   refine r_nil ?_
   refine w_ret ?_
   refine thenQ_r ?_
   cases hF
   exact eR
  ·
   refine w_skip ?_
   refine thenQ_n ?_
   refine w_seq ?_
   refine ws 576 768 ?_
   refine qp (AS v0) rfl (qp (AS v1) rfl (qp (AB (Op.bytesLess v0 v1)) rfl ?_))
   refine r_nil ?_
   refine cF hF (fun hF => ?_) fun hF => ?_
   ·
    refine ws 768 832 ?_
    refine qp (AI (-1)) rfl ?_
    refine r_nil ?_
    refine w_ret ?_
    refine thenQ_r ?_
    cases hF
    exact eR
   ·
    refine w_skip ?_
    refine thenQ_n ?_
    refine w_seq ?_
    refine ws 768 960 ?_
    refine qp (AS v0) rfl (qp (AS v1) rfl (qp (AB (!(Op.bytesLess v0 v1 || decide (v0 = v1)))) rfl ?_))
    refine r_nil ?_
    refine cF hF (fun hF => ?_) fun hF => ?_
    ·
     refine ws 960 1024 ?_
     refine qp (AI 1) rfl ?_
     refine r_nil ?_
     refine w_ret ?_
     refine thenQ_r ?_
     cases hF
     exact eR
    ·
     refine w_skip ?_
     refine thenQ_n ?_
     refine ws 960 1024 ?_
     refine qp (AI 0) rfl ?_
     exact rR hF

def c95 : MC := (.seq (.reg [pT 2 (.mv (ci 0))]) (.seq (.reg [pT 3 (.mv (ci 0))]) (.seq (.seq (.reg [mvt 6 0, pT 7 (.len t6), pT 8 (.mv (ci 0))]) (.block 0 (.loop (.seq (.reg [pT 9 (.bin .lss t8 t7)]) (.seq (.cond t9 .skip (.exit 0)) (.seq (.block 1 (.seq (.reg [pT 10 (.iad t6 t8 1), pT 11 (.ld t10 1 false), mvt 5 11]) (.seq (.reg [mvt 12 5, mvt 13 3, pT 14 (.bin .neq t12 t13)]) (.cond t14 (.seq (.reg [mvt 15 5, mvt 2 15]) .ret) .skip)))) (.reg [pT 16 (.bin .add t8 (ci 1)), mvt 8 16]))))))) (.seq (.reg [mvt 17 3, mvt 2 17]) .ret))))
theorem c95_is : compFn Tryz.prog 95 = some (c95, [(.tmp 2)]) := by kernel_rfl
theorem c95_ok : okFn Tryz.prog 95 = true := by kernel_rfl

noncomputable def F_cmp_Or_int_l0 (v0 : List Int) (k0 : Int → Option (Int)) : Int → Option (Int)
 | v50001 => (bif (decide (v50001 < (v0.length : Int))) then ((ix v0 v50001).bind fun v1000 => (bif (decide (v1000 ≠ (0 : Int))) then some v1000
 else k0 (w64 (v50001 + 1))))
 else some 0)
noncomputable def F_cmp_Or_int (v0 : List Int) : Option (Int) :=
 loop (F_cmp_Or_int_l0 v0) 0
@[simp] def res_cmp_Or_int (r : Int) : RV := .one (.one (.val (.int .i64 r)))
theorem con_cmp_Or_int {v0 : List Int} {r : Int} (hF : F_cmp_Or_int v0 = some r) : Con Tryz.prog 95 [.sl 1 (v0.map vI)] (res_cmp_Or_int r) := by
 unfold F_cmp_Or_int at hF
 refine con_of c95_is fun N => ?_
 refine ws 0 64 ?_
 refine qp (AI 0) rfl ?_
 refine r_nil ?_
 refine ws 64 128 ?_
 refine qp (AI 0) rfl ?_
 refine r_nil ?_
 refine w_seq ?_
 refine ws 128 320 ?_
 refine qp (AL 1 (v0.map vI)) rfl (qp (AI (v0.length : Int)) (ev_len_n rfl) (qp (AI 0) rfl ?_))
 refine r_nil ?_
 refine w_block ?_
 refine wr (l' := [(3, AI 0), (6, AL 1 (v0.map vI)), (7, AI (v0.length : Int)), (8, AI 0)]) (L := []) [3, 6, 7, 8] [] 1 ?_
 refine w_loopF (F_cmp_Or_int_l0 v0) (fun s : Int => mkS [(3, AI 0), (6, AL 1 (v0.map vI)), (7, AI (v0.length : Int)), (8, AI s)] (fo []) 1) hF ?_
 rintro k0 v50001 hF
 rw [F_cmp_Or_int_l0] at hF
 try dsimp only
 refine ws 1 65 ?_
 refine qp (AB (decide (v50001 < (v0.length : Int)))) rfl ?_
 refine r_nil ?_
 refine w_seq ?_
 refine cF hF (fun hF => ?_) fun hF => ?_
 ·
  refine w_skip ?_
  refine thenQ_n ?_
  refine w_seq ?_
  refine w_block ?_
  refine ws 65 257 ?_
  obtain ⟨v1000, e1000, hF⟩ := bind_get hF
  refine qp (.val none (.ptr [.int .i64 v1000])) (ev_iad_n rfl rfl e1000 rfl) (qp (AI v1000) rfl (qp (AI v1000) rfl ?_))
  refine r_nil ?_
  refine ws 257 449 ?_
  refine qp (AI v1000) rfl (qp (AI 0) rfl (qp (AB (decide (v1000 ≠ (0 : Int)))) rfl ?_))
  refine r_nil ?_
  refine cF hF (fun hF => ?_) fun hF => ?_
  ·
   refine ws 449 577 ?_
   refine qp (AI v1000) rfl (qp (AI v1000) rfl ?_)
   refine r_nil ?_
   refine w_ret ?_
   refine blockQ_r ?_
   refine thenQ_r ?_
   refine thenQ_r ?_
   refine blockQ_r ?_
   refine thenQ_r ?_
   cases hF
   exact eR
  ·
   refine w_skip ?_
   refine blockQ_n ?_
   refine thenQ_n ?_
   refine w_reg 449 577 rfl rfl ?_
   refine qp (AI (w64 (v50001 + 1))) rfl (qp (AI (w64 (v50001 + 1))) rfl ?_)
   refine r_nil ?_
   refine thenQ_n ?_
   refine ar (l' := [(3, AI 0), (6, AL 1 (v0.map vI)), (7, AI (v0.length : Int)), (8, AI (w64 (v50001 + 1)))]) (L := []) [3, 6, 7, 8] [] 1 ⟨_, by rfl, hF⟩
 ·
  refine w_exit ?_
  refine thenQ_e ?_
  refine thenQ_e ?_
  refine blockQ_e ?_
  refine thenQ_n ?_
  refine ws 65 193 ?_
  refine qp (AI 0) rfl (qp (AI 0) rfl ?_)
  exact rR hF

def c59 : MC := (.seq (.reg [rg 2 (.f (.box t0)), rg 3 (.f (.box t1)), pT 4 (.mv (ci 0))]) (.seq (.reg [pF 5 (.fad t2 0), pF 6 (.ld t5 1 false), pF 7 (.fad t3 0), pF 8 (.ld t7 1 false), rg 9 (.call false 96 [t6, t8]), pF 10 (.fad t2 1), pF 11 (.ld t10 1 false), pF 12 (.fad t3 1), pF 13 (.ld t12 1 false), rg 14 (.call false 96 [t11, t13]), rg 15 (.f (.bsl 1 [t9, t14])), rg 16 (.call false 95 [t15]), mP 4 t16]) .ret))
theorem c59_is : compFn Tryz.prog 59 = some (c59, [(.tmp 4)]) := by kernel_rfl
theorem c59_ok : okFn Tryz.prog 59 = true := by kernel_rfl

noncomputable def F_impl_compareBlocks (v0 : TBlock) (v1 : TBlock) : Option (Int) :=
 ((F_cmp_Compare_string v0.1 v1.1).bind fun v1000 => ((F_cmp_Compare_string v0.2.1 v1.2.1).bind fun v1001 => ((F_cmp_Or_int [v1000, v1001]).bind fun v1002 => some v1002)))
@[simp] abbrev K0z (v1 : TBlock) (v0 : TBlock) : List (Nat × Root) := [(64, .box [AS v1.1, AS v1.2.1, AS v1.2.2]), (0, .box [AS v0.1, AS v0.2.1, AS v0.2.2])]
@[simp] def res_impl_compareBlocks (r : Int) : RV := .one (.one (.val (.int .i64 r)))
theorem con_impl_compareBlocks {v0 : TBlock} {v1 : TBlock} {r : Int} (hF : F_impl_compareBlocks v0 v1 = some r) : Con Tryz.prog 59 [eBlock v0, eBlock v1] (res_impl_compareBlocks r) := by
 unfold F_impl_compareBlocks at hF
 refine con_of c59_is fun N => ?_
 refine ws 0 192 ?_
 refine qf (.ptr 0 0 0) [(0, .box [AS v0.1, AS v0.2.1, AS v0.2.2])] (by simp) ?_
 refine qf (.ptr 64 0 0) (K0z v1 v0) (by simp) ?_
 refine qp (AI 0) rfl ?_
 refine r_nil ?_
 refine ws 192 1024 ?_
 refine qp (.ptr 0 0 0) rfl (qp (AS v0.1) rfl (qp (.ptr 64 0 0) rfl (qp (AS v1.1) rfl ?_)))
 obtain ⟨v1000, e1000, hF⟩ := bind_get hF
 refine qc (AI v1000) (K0z v1 v0) false (con_cmp_Compare_string e1000) c96_ok (by first | rfl | simp) rfl ?_
 refine qp (.ptr 0 0 1) rfl (qp (AS v0.2.1) rfl (qp (.ptr 64 0 1) rfl (qp (AS v1.2.1) rfl ?_)))
 obtain ⟨v1001, e1001, hF⟩ := bind_get hF
 refine qc (AI v1001) (K0z v1 v0) false (con_cmp_Compare_string e1001) c96_ok (by first | rfl | simp) rfl ?_
 refine qf (.sl 832 0 ([v1000, v1001].length)) ((832, .row true 1 ([v1000, v1001].map vI)) :: (K0z v1 v0)) (by simp [List.take_of_length_le]) ?_
 obtain ⟨v1002, e1002, hF⟩ := bind_get hF
 refine qc (AI v1002) ((832, .row true 1 ([v1000, v1001].map vI)) :: (K0z v1 v0)) true (con_cmp_Or_int e1002) c95_ok (by simp [List.take_of_length_le]) rfl ?_
 refine qp (AI v1002) rfl ?_
 exact rR hF

def c27 : MC := (.seq (.reg [pT 2 (.mv cf)]) (.seq (.seq (.reg [mvt 5 0, pT 6 (.len t5), pT 7 (.bin .gtr t6 (ci 32))]) (.cond t7 (.seq (.reg [pT 2 (.mv cf)]) .ret) .skip)) (.seq (.seq (.reg [mvt 8 0, pT 9 (.len t8), pT 10 (.mv (ci 0))]) (.block 0 (.loop (.seq (.reg [pT 11 (.bin .lss t10 t9)]) (.seq (.cond t11 .skip (.exit 0)) (.seq (.block 1 (.seq (.reg [mvt 12 10, pT 13 (.iad t8 t10 3), pT 14 (.ld t13 3 true), rg 4 (.f (.alloc [((.str []), (0, false)), ((.str []), (0, false)), ((.str []), (0, false))])), mvt 3 12, ⟨none, none, (.f (.st t4 t14 3))⟩]) (.seq (.reg [pF 15 (.ld t4 3 true), rg 16 (.call false 58 [t15]), pF 17 (.not t16), mP 18 t17, mF 19 18 t3, gF 20 18 (.bin .gtr t19 (ci 0)), mF 21 18 t20, mT 22 21 t0, mT 23 21 t3, gT 24 21 (.bin .sub t23 (ci 1)), gT 25 21 (.iad t22 t24 3), gT 26 21 (.ld t25 3 true), gT 27 21 (.ld t4 3 true), ⟨(some 28), (some (21, true)), (.call false 59 [t26, t27])⟩, gT 29 21 (.bin .geq t28 (ci 0)), gF 30 18 (.pick t21 t29 cf), pF 31 (.pick t18 ct t30)]) (.cond t31 (.seq (.reg [pT 2 (.mv cf)]) .ret) .skip)))) (.reg [pT 32 (.bin .add t10 (ci 1)), mvt 10 32]))))))) (.seq (.reg [pT 2 (.mv ct)]) .ret))))
theorem c27_is : compFn Tryz.prog 27 = some (c27, [(.tmp 2)]) := by kernel_rfl
theorem c27_ok : okFn Tryz.prog 27 = true := by kernel_rfl

noncomputable def F_impl_ValidBlocks_l0 (v0 : List TBlock) (k0 : Int → Option (Bool)) : Int → Option (Bool)
 | v50001 => (bif (decide (v50001 < (v0.length : Int))) then ((ix v0 v50001).bind fun v1000 => ((F_impl_ValidBlock v1000).bind fun v1001 => (bif (!v1001) then some false
 else (bif (decide ((0 : Int) < v50001)) then ((ix v0 (w64 (v50001 - 1))).bind fun v1002 => ((F_impl_compareBlocks v1002 v1000).bind fun v1003 => (bif (decide ((0 : Int) ≤ v1003)) then some false
 else k0 (w64 (v50001 + 1)))))
 else k0 (w64 (v50001 + 1))))))
 else some true)
noncomputable def F_impl_ValidBlocks (v0 : List TBlock) : Option (Bool) :=
 (bif (decide ((32 : Int) < (v0.length : Int))) then some false
 else loop (F_impl_ValidBlocks_l0 v0) 0)
@[simp] abbrev K11 (v1000 : TBlock) : List (Nat × Root) := [(257, .box [AS v1000.1, AS v1000.2.1, AS v1000.2.2]), (257, .box [AS [], AS [], AS []])]
@[simp] abbrev K12 (v0 : List TBlock) : V := .sl 3 (v0.map eBlock)
@[simp] def res_impl_ValidBlocks (r : Bool) : RV := .one (.one (.val (.bool r)))
theorem con_impl_ValidBlocks {v0 : List TBlock} {r : Bool} (hF : F_impl_ValidBlocks v0 = some r) : Con Tryz.prog 27 [.sl 3 (v0.map eBlock)] (res_impl_ValidBlocks r) := by
 unfold F_impl_ValidBlocks at hF
 refine con_of c27_is fun N => ?_
 refine ws 0 64 ?_
 refine qp (AB false) rfl ?_
 refine r_nil ?_
 refine w_seq ?_
 refine ws 64 256 ?_
 refine qp (.val none (K12 v0)) rfl (qp (AI (v0.length : Int)) (ev_len_n rfl) (qp (AB (decide ((32 : Int) < (v0.length : Int)))) rfl ?_))
 refine r_nil ?_
 refine cF hF (fun hF => ?_) fun hF => ?_
 ·
  refine ws 256 320 ?_
  refine qp (AB false) rfl ?_
  refine r_nil ?_
  refine w_ret ?_
  refine thenQ_r ?_
  cases hF
  exact eR
 ·
  refine w_skip ?_
  refine thenQ_n ?_
  refine w_seq ?_
  refine ws 256 448 ?_
  refine qp (.val none (K12 v0)) rfl (qp (AI (v0.length : Int)) (ev_len_n rfl) (qp (AI 0) rfl ?_))
  refine r_nil ?_
  refine w_block ?_
  refine wr (l' := [(0, .val none (K12 v0)), (8, .val none (K12 v0)), (9, AI (v0.length : Int)), (10, AI 0)]) (L := []) [0, 8, 9, 10] [] 1 ?_
  refine w_loopF (F_impl_ValidBlocks_l0 v0) (fun s : Int => mkS [(0, .val none (K12 v0)), (8, .val none (K12 v0)), (9, AI (v0.length : Int)), (10, AI s)] (fo []) 1) hF ?_
  rintro k0 v50001 hF
  rw [F_impl_ValidBlocks_l0] at hF
  try dsimp only
  refine ws 1 65 ?_
  refine qp (AB (decide (v50001 < (v0.length : Int)))) rfl ?_
  refine r_nil ?_
  refine w_seq ?_
  refine cF hF (fun hF => ?_) fun hF => ?_
  ·
   refine w_skip ?_
   refine thenQ_n ?_
   refine w_seq ?_
   refine w_block ?_
   refine ws 65 449 ?_
   refine qp (AI v50001) rfl ?_
   obtain ⟨v1000, e1000, hF⟩ := bind_get hF
   refine qp (.val none (.ptr [.str v1000.1, .str v1000.2.1, .str v1000.2.2])) (ev_iad_n rfl rfl e1000 rfl) (qp (.val none (eBlock v1000)) rfl ?_)
   refine qf (.ptr 257 0 0) [(257, .box [AS [], AS [], AS []])] (by simp) ?_
   refine qp (AI v50001) rfl ?_
   refine qf0 (.undef) (K11 v1000) (by simp) ?_
   refine r_nil ?_
   refine ws 449 1537 ?_
   refine qp (.agg [AS v1000.1, AS v1000.2.1, AS v1000.2.2]) rfl ?_
   obtain ⟨v1001, e1001, hF⟩ := bind_get hF
   refine qc (AB v1001) (K11 v1000) false (con_impl_ValidBlock e1001) c58_ok (by first | rfl | simp) rfl ?_
   refine qp (AB (!v1001)) rfl (qp (AB (!v1001)) rfl ?_)
   refine q_case 18 hF rfl (fun hF => ?_) (fun hF => ?_)
   ·
    refine qn3 (qu rfl (qu rfl (qu rfl (qu rfl (qu rfl ?_)))))
    refine qu rfl (qu rfl (qu rfl (qn rfl (qp (AB true) rfl ?_))))
    refine r_nil ?_
    refine w_true rfl ?_
    refine ws 1537 1601 ?_
    refine qp (AB false) rfl ?_
    refine r_nil ?_
    refine w_ret ?_
    refine blockQ_r ?_
    refine thenQ_r ?_
    refine thenQ_r ?_
    refine blockQ_r ?_
    refine thenQ_r ?_
    cases hF
    exact eR
   ·
    refine qg (AI v50001) rfl rfl (qg (AB (decide ((0 : Int) < v50001))) rfl rfl (qg (AB (decide ((0 : Int) < v50001))) rfl rfl ?_))
    refine q_case 21 hF rfl (fun hF => ?_) (fun hF => ?_)
    ·
     refine qg (.val none (K12 v0)) rfl rfl (qg (AI v50001) rfl rfl (qg (AI (w64 (v50001 - 1))) rfl rfl ?_))
     obtain ⟨v1002, e1002, hF⟩ := bind_get hF
     refine qg (.val none (.ptr [.str v1002.1, .str v1002.2.1, .str v1002.2.2])) rfl (ev_iad_n rfl rfl e1002 rfl) (qg (.val none (eBlock v1002)) rfl rfl (qg (.agg [AS v1000.1, AS v1000.2.1, AS v1000.2.2]) rfl rfl ?_))
     obtain ⟨v1003, e1003, hF⟩ := bind_get hF
     refine qcg (AI v1003) (K11 v1000) false rfl (con_impl_compareBlocks e1003) c59_ok (by first | rfl | simp) rfl ?_
     refine qg (AB (decide ((0 : Int) ≤ v1003))) rfl rfl (qg (AB (decide ((0 : Int) ≤ v1003))) rfl rfl (qp (AB (decide ((0 : Int) ≤ v1003))) rfl ?_))
     refine r_nil ?_
     refine cF hF (fun hF => ?_) fun hF => ?_
     ·
      refine ws 1537 1601 ?_
      refine qp (AB false) rfl ?_
      refine r_nil ?_
      refine w_ret ?_
      refine blockQ_r ?_
      refine thenQ_r ?_
      refine thenQ_r ?_
      refine blockQ_r ?_
      refine thenQ_r ?_
      cases hF
      exact eR
     ·
      refine w_skip ?_
      refine blockQ_n ?_
      refine thenQ_n ?_
      refine w_reg 1537 1665 rfl rfl ?_
      refine qp (AI (w64 (v50001 + 1))) rfl (qp (AI (w64 (v50001 + 1))) rfl ?_)
      refine r_nil ?_
      refine thenQ_n ?_
      refine ar (l' := [(0, .val none (K12 v0)), (8, .val none (K12 v0)), (9, AI (v0.length : Int)), (10, AI (w64 (v50001 + 1)))]) (L := []) [0, 8, 9, 10] [] 1 ⟨_, by rfl, hF⟩
    ·
     refine qn8 ?_
     refine qg (AB false) rfl rfl (qp (AB false) rfl ?_)
     refine r_nil ?_
     refine w_false rfl ?_
     refine w_skip ?_
     refine blockQ_n ?_
     refine thenQ_n ?_
     refine w_reg 1537 1665 rfl rfl ?_
     refine qp (AI (w64 (v50001 + 1))) rfl (qp (AI (w64 (v50001 + 1))) rfl ?_)
     refine r_nil ?_
     refine thenQ_n ?_
     refine ar (l' := [(0, .val none (K12 v0)), (8, .val none (K12 v0)), (9, AI (v0.length : Int)), (10, AI (w64 (v50001 + 1)))]) (L := []) [0, 8, 9, 10] [] 1 ⟨_, by rfl, hF⟩
  ·
   refine w_exit ?_
   refine thenQ_e ?_
   refine thenQ_e ?_
   refine blockQ_e ?_
   refine thenQ_n ?_
   refine ws 65 129 ?_
   refine qp (AB true) rfl ?_
   exact rR hF

theorem c60_ok : okFn Tryz.prog 60 = true := by kernel_rfl




theorem c61_ok : okFn Tryz.prog 61 = true := by kernel_rfl




def c132 : MC := (.seq (.reg [pT 2 (.mv (ci 0))]) (.seq (.reg [mvt 3 0, pT 4 (.bin .rem t3 (ci 12)), pT 5 (.bin .add t4 (ci 12)), pT 6 (.bin .rem t5 (ci 12)), mvt 2 6]) .ret))
theorem c132_is : compFn Tryz.prog 132 = some (c132, [(.tmp 2)]) := by kernel_rfl
theorem c132_ok : okFn Tryz.prog 132 = true := by kernel_rfl

noncomputable def F_impl_ToneOf (v0 : Int) : Option (Int) :=
 some (Int.tmod (w64 ((Int.tmod v0 12) + 12)) 12)
@[simp] def res_impl_ToneOf (r : Int) : RV := .one (.one (.val (.int .i64 r)))
theorem con_impl_ToneOf {v0 : Int} {r : Int} (hF : F_impl_ToneOf v0 = some r) : Con Tryz.prog 132 [.int .i64 v0] (res_impl_ToneOf r) := by
 unfold F_impl_ToneOf at hF
 refine con_of c132_is fun N => ?_
 refine ws 0 64 ?_
 refine qp (AI 0) rfl ?_
 refine r_nil ?_
 refine ws 64 384 ?_
 refine qp (AI v0) rfl (qp (AI (Int.tmod v0 12)) (ev_rem rfl rfl (by decide)) (qp (AI (w64 ((Int.tmod v0 12) + 12))) rfl (qp (AI (Int.tmod (w64 ((Int.tmod v0 12) + 12)) 12)) (ev_rem rfl rfl (by decide)) (qp (AI (Int.tmod (w64 ((Int.tmod v0 12) + 12)) 12)) rfl ?_))))
 exact rR hF

def c137 : MC := (.seq (.reg [pT 6 (.mv cf)]) (.seq (.reg [mvt 7 0, mvt 8 1, pT 9 (.bin .geq t7 t8), mvt 10 9, nT 11 10 t0, nT 12 10 t2, kT 13 10 (.bin .leq t11 t12), pT 14 (.pick t10 t13 cf), mvt 6 14]) .ret))
theorem c137_is : compFn Tryz.prog 137 = some (c137, [(.tmp 6)]) := by kernel_rfl
theorem c137_ok : okFn Tryz.prog 137 = true := by kernel_rfl

noncomputable def F_impl_within (v0 : Int) (v1 : Int) (v2 : Int) : Option (Bool) :=
 (bif (decide (v1 ≤ v0)) then some (decide (v0 ≤ v2))
 else some false)
@[simp] def res_impl_within (r : Bool) : RV := .one (.one (.val (.bool r)))
theorem con_impl_within {v0 : Int} {v1 : Int} {v2 : Int} {r : Bool} (hF : F_impl_within v0 v1 v2 = some r) : Con Tryz.prog 137 [.int .i64 v0, .int .i64 v1, .int .i64 v2] (res_impl_within r) := by
 unfold F_impl_within at hF
 refine con_of c137_is fun N => ?_
 refine ws 0 64 ?_
 refine qp (AB false) rfl ?_
 refine r_nil ?_
 refine ws 64 640 ?_
 refine qp (AI v0) rfl (qp (AI v1) rfl (qp (AB (decide (v1 ≤ v0))) rfl (qp (AB (decide (v1 ≤ v0))) rfl ?_)))
 refine q_case 10 hF rfl (fun hF => ?_) (fun hF => ?_)
 ·
  refine qg (AI v0) rfl rfl (qg (AI v2) rfl rfl (qg (AB (decide (v0 ≤ v2))) rfl rfl (qp (AB (decide (v0 ≤ v2))) rfl (qp (AB (decide (v0 ≤ v2))) rfl ?_))))
  exact rR hF
 ·
  refine qn3 (qp (AB false) rfl (qp (AB false) rfl ?_))
  exact rR hF

end Go.Ab
