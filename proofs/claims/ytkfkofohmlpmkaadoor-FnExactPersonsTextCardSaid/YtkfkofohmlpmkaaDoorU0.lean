/- Walks (printed by auto.py, a program of this session's own). -/
import Derived.Test.YtkfkofohmlpmkaaDoorS0
import Derived.Test.YtkfkofohmlpmkaaDoorProg
import Derived.KernelRfl
import Derived.Test.YtkfkofohmlpmkaaDoorSQ
set_option linter.unusedVariables false
set_option linter.unusedSimpArgs false
set_option maxRecDepth 8000
set_option maxHeartbeats 8000000
namespace Go.Ab
open Go.RowKit Go.Proofs

abbrev TPerson := (List UInt8) × Int × (List (List UInt8))
@[simp] def ePerson (p : TPerson) : V := .agg [.str p.1, .int .i64 p.2.1, .sl 1 (p.2.2.map V.str)]
def c30 : MC := (.seq (.reg [rg 4 (.p true (.mv (.c (.int .i64 0))))]) (.seq (.reg [mvt 6 1, mvt 7 0, rg 8 (.p true (.len (.t 7))), rg 9 (.p true (.bin .sub (.t 6) (.t 8))), mvt 1 9]) (.seq (.seq (.reg [mvt 10 1, rg 11 (.p true (.bin .lss (.t 10) (.c (.int .i64 0))))]) (.cond (.t 11) (.seq (.reg [rg 4 (.p true (.mv (.c (.int .i64 (-1)))))]) .ret) .skip)) (.seq (.seq (.reg [rg 5 (.p true (.mv (.c (.int .i64 0))))]) (.block 0 (.loop (.seq (.seq (.reg [mvt 12 5, mvt 13 0, rg 14 (.p true (.len (.t 13))), rg 15 (.p true (.bin .lss (.t 12) (.t 14)))]) (.cond (.t 15) .skip (.exit 0))) (.seq (.block 1 (.seq (.reg [mvt 18 1, mvt 19 0, mvt 20 5, rg 21 (.p true (.iad (.t 19) (.t 20) 1)), rg 22 (.p true (.ld (.t 21) 1 false)), rg 23 (.p true (.lens (.t 22))), rg 24 (.p true (.bin .sub (.t 18) (.t 23))), mvt 1 24]) (.seq (.reg [mvt 25 1, rg 26 (.p true (.bin .lss (.t 25) (.c (.int .i64 0))))]) (.cond (.t 26) (.seq (.reg [rg 4 (.p true (.mv (.c (.int .i64 (-1)))))]) .ret) .skip)))) (.reg [mvt 16 5, rg 17 (.p true (.bin .add (.t 16) (.c (.int .i64 1)))), mvt 5 17])))))) (.seq (.reg [mvt 27 1, mvt 4 27]) .ret)))))
theorem c30_is : compFn Tryd.prog 30 = some (c30, [(.tmp 4)]) := by kernel_rfl
theorem c30_ok : okFn Tryd.prog 30 = true := by kernel_rfl

noncomputable def F_laws_szStringS_l0 (v0 : List (List UInt8)) (k0 : Int × Int → Option (Int)) : Int × Int → Option (Int)
 | (v50002, v50003) => (bif (decide (v50003 < (v0.length : Int))) then ((ix v0 v50003).bind fun v1000 => (bif (decide (w64 (v50002 - (v1000.length : Int)) < (0 : Int))) then some (-1)
 else k0 (w64 (v50002 - (v1000.length : Int)), w64 (v50003 + 1))))
 else some v50002)
noncomputable def F_laws_szStringS (v0 : List (List UInt8)) (v1 : Int) : Option (Int) :=
 (bif (decide (w64 (v1 - (v0.length : Int)) < (0 : Int))) then some (-1)
 else loop (F_laws_szStringS_l0 v0) (w64 (v1 - (v0.length : Int)), 0))
@[simp] def res_laws_szStringS (r : Int) : RV := .one (.one (.val (.int .i64 r)))
theorem con_laws_szStringS {v0 : List (List UInt8)} {v1 : Int} {r : Int} (hF : F_laws_szStringS v0 v1 = some r) : Con Tryd.prog 30 [.sl 1 (v0.map V.str), .int .i64 v1] (res_laws_szStringS r) := by
 unfold F_laws_szStringS at hF
 refine con_of c30_is fun N => ?_
 refine ws 0 64 ?_
 refine qp (AI 0) rfl ?_
 refine r_nil ?_
 refine ws 64 384 ?_
 refine qp (AI v1) rfl (qp (AL 1 (v0.map V.str)) rfl (qp (AI (v0.length : Int)) (ev_len_n rfl) (qp (AI (w64 (v1 - (v0.length : Int)))) rfl (qp (AI (w64 (v1 - (v0.length : Int)))) rfl ?_))))
 refine r_nil ?_
 refine w_seq ?_
 refine ws 384 512 ?_
 refine qp (AI (w64 (v1 - (v0.length : Int)))) rfl (qp (AB (decide (w64 (v1 - (v0.length : Int)) < (0 : Int)))) rfl ?_)
 refine r_nil ?_
 refine cF hF (fun hF => ?_) fun hF => ?_
 ·
  refine ws 512 576 ?_
  refine qp (AI (-1)) rfl ?_
  refine r_nil ?_
  refine w_ret ?_
  refine thenQ_r ?_
  cases hF
  exact eR
 ·
  refine w_skip ?_
  refine thenQ_n ?_
  refine w_seq ?_
  refine ws 512 576 ?_
  refine qp (AI 0) rfl ?_
  refine r_nil ?_
  refine w_block ?_
  refine wr (l' := [(0, AL 1 (v0.map V.str)), (1, AI (w64 (v1 - (v0.length : Int)))), (5, AI 0)]) (L := []) [0, 1, 5] [] 1 ?_
  refine w_loopF (F_laws_szStringS_l0 v0) (fun s : Int × Int => mkS [(0, AL 1 (v0.map V.str)), (1, AI s.1), (5, AI s.2)] (fo []) 1) hF ?_
  rintro k0 ⟨v50002, v50003⟩ hF
  rw [F_laws_szStringS_l0] at hF
  try dsimp only
  refine w_seq ?_
  refine ws 1 257 ?_
  refine qp (AI v50003) rfl (qp (AL 1 (v0.map V.str)) rfl (qp (AI (v0.length : Int)) (ev_len_n rfl) (qp (AB (decide (v50003 < (v0.length : Int)))) rfl ?_)))
  refine r_nil ?_
  refine cF hF (fun hF => ?_) fun hF => ?_
  ·
   refine w_skip ?_
   refine thenQ_n ?_
   refine w_seq ?_
   refine w_block ?_
   refine ws 257 769 ?_
   refine qp (AI v50002) rfl (qp (AL 1 (v0.map V.str)) rfl (qp (AI v50003) rfl ?_))
   obtain ⟨v1000, e1000, hF⟩ := bind_get hF
   refine qp (.val none (.ptr [.str v1000])) (ev_iad_n rfl rfl e1000 rfl) (qp (AS v1000) rfl (qp (AI (v1000.length : Int)) rfl (qp (AI (w64 (v50002 - (v1000.length : Int)))) rfl (qp (AI (w64 (v50002 - (v1000.length : Int)))) rfl ?_))))
   refine r_nil ?_
   refine ws 769 897 ?_
   refine qp (AI (w64 (v50002 - (v1000.length : Int)))) rfl (qp (AB (decide (w64 (v50002 - (v1000.length : Int)) < (0 : Int)))) rfl ?_)
   refine r_nil ?_
   refine cF hF (fun hF => ?_) fun hF => ?_
   ·
    refine ws 897 961 ?_
    refine qp (AI (-1)) rfl ?_
    refine r_nil ?_
    refine w_ret ?_
    refine blockQ_r ?_
    refine thenQ_r ?_
    refine thenQ_r ?_
    refine blockQ_r ?_
    refine thenQ_r ?_
    cases hF
    exact eR
   ·
    refine w_skip ?_
    refine blockQ_n ?_
    refine thenQ_n ?_
    refine w_reg 897 1089 rfl rfl ?_
    refine qp (AI v50003) rfl (qp (AI (w64 (v50003 + 1))) rfl (qp (AI (w64 (v50003 + 1))) rfl ?_))
    refine r_nil ?_
    refine thenQ_n ?_
    refine ar (l' := [(0, AL 1 (v0.map V.str)), (1, AI (w64 (v50002 - (v1000.length : Int)))), (5, AI (w64 (v50003 + 1)))]) (L := []) [0, 1, 5] [] 1 ⟨_, by rfl, hF⟩
  ·
   refine w_exit ?_
   refine thenQ_e ?_
   refine thenQ_e ?_
   refine blockQ_e ?_
   refine thenQ_n ?_
   refine ws 257 385 ?_
   refine qp (AI v50002) rfl (qp (AI v50002) rfl ?_)
   refine r_nil ?_
   refine w_ret ?_
   cases hF
   exact eR

def c14 : MC := (.seq (.reg [rg 2 (.f (.box (.t 0))), rg 4 (.p true (.mv (.c (.int .i64 0))))]) (.seq (.reg [mvt 5 1, rg 6 (.p true (.fad (.t 2) 0)), rg 7 (.p true (.ld (.t 6) 1 false)), rg 8 (.p true (.lens (.t 7))), rg 9 (.p true (.bin .sub (.t 5) (.t 8))), mvt 1 9]) (.seq (.seq (.reg [mvt 10 1, rg 11 (.p true (.bin .lss (.t 10) (.c (.int .i64 0))))]) (.cond (.t 11) (.seq (.reg [rg 4 (.p true (.mv (.c (.int .i64 (-1)))))]) .ret) .skip)) (.seq (.reg [rg 12 (.p true (.fad (.t 2) 2)), rg 13 (.p true (.ld (.t 12) 1 false)), mvt 14 1, rg 15 (.call true 30 [(.t 13), (.t 14)]), mvt 1 15]) (.seq (.seq (.reg [mvt 16 1, rg 17 (.p true (.bin .lss (.t 16) (.c (.int .i64 0))))]) (.cond (.t 17) (.seq (.reg [rg 4 (.p true (.mv (.c (.int .i64 (-1)))))]) .ret) .skip)) (.seq (.reg [mvt 18 1, mvt 4 18]) .ret))))))
theorem c14_is : compFn Tryd.prog 14 = some (c14, [(.tmp 4)]) := by kernel_rfl
theorem c14_ok : okFn Tryd.prog 14 = true := by kernel_rfl

noncomputable def F_laws_szPerson (v0 : TPerson) (v1 : Int) : Option (Int) :=
 (bif (decide (w64 (v1 - (v0.1.length : Int)) < (0 : Int))) then some (-1)
 else ((F_laws_szStringS v0.2.2 (w64 (v1 - (v0.1.length : Int)))).bind fun v1000 => (bif (decide (v1000 < (0 : Int))) then some (-1)
 else some v1000)))
@[simp] def res_laws_szPerson (r : Int) : RV := .one (.one (.val (.int .i64 r)))
theorem con_laws_szPerson {v0 : TPerson} {v1 : Int} {r : Int} (hF : F_laws_szPerson v0 v1 = some r) : Con Tryd.prog 14 [ePerson v0, .int .i64 v1] (res_laws_szPerson r) := by
 unfold F_laws_szPerson at hF
 refine con_of c14_is fun N => ?_
 refine ws 0 128 ?_
 refine qf (.ptr 0 0 0) [(0, .box [AS v0.1, AI v0.2.1, AL 1 (v0.2.2.map V.str)])] (by simp) ?_
 refine qp (AI 0) rfl ?_
 refine r_nil ?_
 refine ws 128 512 ?_
 refine qp (AI v1) rfl (qp (.ptr 0 0 0) rfl (qp (AS v0.1) rfl (qp (AI (v0.1.length : Int)) rfl (qp (AI (w64 (v1 - (v0.1.length : Int)))) rfl (qp (AI (w64 (v1 - (v0.1.length : Int)))) rfl ?_)))))
 refine r_nil ?_
 refine w_seq ?_
 refine ws 512 640 ?_
 refine qp (AI (w64 (v1 - (v0.1.length : Int)))) rfl (qp (AB (decide (w64 (v1 - (v0.1.length : Int)) < (0 : Int)))) rfl ?_)
 refine r_nil ?_
 refine cF hF (fun hF => ?_) fun hF => ?_
 ·
  refine ws 640 704 ?_
  refine qp (AI (-1)) rfl ?_
  refine r_nil ?_
  refine w_ret ?_
  refine thenQ_r ?_
  cases hF
  exact eR
 ·
  refine w_skip ?_
  refine thenQ_n ?_
  refine ws 640 960 ?_
  refine qp (.ptr 0 0 2) rfl (qp (AL 1 (v0.2.2.map V.str)) rfl (qp (AI (w64 (v1 - (v0.1.length : Int)))) rfl ?_))
  obtain ⟨v1000, e1000, hF⟩ := bind_get hF
  refine qc (AI v1000) [(0, .box [AS v0.1, AI v0.2.1, AL 1 (v0.2.2.map V.str)])] false (con_laws_szStringS e1000) c30_ok (by first | rfl | simp) rfl ?_
  refine qp (AI v1000) rfl ?_
  refine r_nil ?_
  refine w_seq ?_
  refine ws 960 1088 ?_
  refine qp (AI v1000) rfl (qp (AB (decide (v1000 < (0 : Int)))) rfl ?_)
  refine r_nil ?_
  refine cF hF (fun hF => ?_) fun hF => ?_
  ·
   refine ws 1088 1152 ?_
   refine qp (AI (-1)) rfl ?_
   refine r_nil ?_
   refine w_ret ?_
   refine thenQ_r ?_
   cases hF
   exact eR
  ·
   refine w_skip ?_
   refine thenQ_n ?_
   refine ws 1088 1216 ?_
   refine qp (AI v1000) rfl (qp (AI v1000) rfl ?_)
   refine r_nil ?_
   refine w_ret ?_
   cases hF
   exact eR

def c5 : MC := (.seq (.reg [rg 4 (.p true (.mv (.c (.int .i64 0))))]) (.seq (.reg [mvt 6 1, mvt 7 0, rg 8 (.p true (.len (.t 7))), rg 9 (.p true (.bin .sub (.t 6) (.t 8))), mvt 1 9]) (.seq (.seq (.reg [mvt 10 1, rg 11 (.p true (.bin .lss (.t 10) (.c (.int .i64 0))))]) (.cond (.t 11) (.seq (.reg [rg 4 (.p true (.mv (.c (.int .i64 (-1)))))]) .ret) .skip)) (.seq (.seq (.reg [rg 5 (.p true (.mv (.c (.int .i64 0))))]) (.block 0 (.loop (.seq (.seq (.reg [mvt 12 5, mvt 13 0, rg 14 (.p true (.len (.t 13))), rg 15 (.p true (.bin .lss (.t 12) (.t 14)))]) (.cond (.t 15) .skip (.exit 0))) (.seq (.block 1 (.seq (.reg [mvt 18 0, mvt 19 5, rg 20 (.p true (.iad (.t 18) (.t 19) 3)), rg 21 (.p true (.ld (.t 20) 3 true)), mvt 22 1, rg 23 (.call true 14 [(.t 21), (.t 22)]), mvt 1 23]) (.seq (.reg [mvt 24 1, rg 25 (.p true (.bin .lss (.t 24) (.c (.int .i64 0))))]) (.cond (.t 25) (.seq (.reg [rg 4 (.p true (.mv (.c (.int .i64 (-1)))))]) .ret) .skip)))) (.reg [mvt 16 5, rg 17 (.p true (.bin .add (.t 16) (.c (.int .i64 1)))), mvt 5 17])))))) (.seq (.reg [mvt 26 1, mvt 4 26]) .ret)))))
theorem c5_is : compFn Tryd.prog 5 = some (c5, [(.tmp 4)]) := by kernel_rfl
theorem c5_ok : okFn Tryd.prog 5 = true := by kernel_rfl

noncomputable def F_laws_szPersonS_l0 (v0 : List TPerson) (k0 : Int × Int → Option (Int)) : Int × Int → Option (Int)
 | (v50002, v50003) => (bif (decide (v50003 < (v0.length : Int))) then ((ix v0 v50003).bind fun v1000 => ((F_laws_szPerson v1000 v50002).bind fun v1001 => (bif (decide (v1001 < (0 : Int))) then some (-1)
 else k0 (v1001, w64 (v50003 + 1)))))
 else some v50002)
noncomputable def F_laws_szPersonS (v0 : List TPerson) (v1 : Int) : Option (Int) :=
 (bif (decide (w64 (v1 - (v0.length : Int)) < (0 : Int))) then some (-1)
 else loop (F_laws_szPersonS_l0 v0) (w64 (v1 - (v0.length : Int)), 0))
@[simp] def res_laws_szPersonS (r : Int) : RV := .one (.one (.val (.int .i64 r)))
theorem con_laws_szPersonS {v0 : List TPerson} {v1 : Int} {r : Int} (hF : F_laws_szPersonS v0 v1 = some r) : Con Tryd.prog 5 [.sl 3 (v0.map ePerson), .int .i64 v1] (res_laws_szPersonS r) := by
 unfold F_laws_szPersonS at hF
 refine con_of c5_is fun N => ?_
 refine ws 0 64 ?_
 refine qp (AI 0) rfl ?_
 refine r_nil ?_
 refine ws 64 384 ?_
 refine qp (AI v1) rfl (qp (AL 3 (v0.map ePerson)) rfl (qp (AI (v0.length : Int)) (ev_len_n rfl) (qp (AI (w64 (v1 - (v0.length : Int)))) rfl (qp (AI (w64 (v1 - (v0.length : Int)))) rfl ?_))))
 refine r_nil ?_
 refine w_seq ?_
 refine ws 384 512 ?_
 refine qp (AI (w64 (v1 - (v0.length : Int)))) rfl (qp (AB (decide (w64 (v1 - (v0.length : Int)) < (0 : Int)))) rfl ?_)
 refine r_nil ?_
 refine cF hF (fun hF => ?_) fun hF => ?_
 ·
  refine ws 512 576 ?_
  refine qp (AI (-1)) rfl ?_
  refine r_nil ?_
  refine w_ret ?_
  refine thenQ_r ?_
  cases hF
  exact eR
 ·
  refine w_skip ?_
  refine thenQ_n ?_
  refine w_seq ?_
  refine ws 512 576 ?_
  refine qp (AI 0) rfl ?_
  refine r_nil ?_
  refine w_block ?_
  refine wr (l' := [(0, AL 3 (v0.map ePerson)), (1, AI (w64 (v1 - (v0.length : Int)))), (5, AI 0)]) (L := []) [0, 1, 5] [] 1 ?_
  refine w_loopF (F_laws_szPersonS_l0 v0) (fun s : Int × Int => mkS [(0, AL 3 (v0.map ePerson)), (1, AI s.1), (5, AI s.2)] (fo []) 1) hF ?_
  rintro k0 ⟨v50002, v50003⟩ hF
  rw [F_laws_szPersonS_l0] at hF
  try dsimp only
  refine w_seq ?_
  refine ws 1 257 ?_
  refine qp (AI v50003) rfl (qp (AL 3 (v0.map ePerson)) rfl (qp (AI (v0.length : Int)) (ev_len_n rfl) (qp (AB (decide (v50003 < (v0.length : Int)))) rfl ?_)))
  refine r_nil ?_
  refine cF hF (fun hF => ?_) fun hF => ?_
  ·
   refine w_skip ?_
   refine thenQ_n ?_
   refine w_seq ?_
   refine w_block ?_
   refine ws 257 705 ?_
   refine qp (AL 3 (v0.map ePerson)) rfl (qp (AI v50003) rfl ?_)
   obtain ⟨v1000, e1000, hF⟩ := bind_get hF
   refine qp (.val none (.ptr [.str v1000.1, .int .i64 v1000.2.1, .sl 1 (v1000.2.2.map V.str)])) (ev_iad_n rfl rfl e1000 rfl) (qp (.val none (ePerson v1000)) rfl (qp (AI v50002) rfl ?_))
   obtain ⟨v1001, e1001, hF⟩ := bind_get hF
   refine qc (AI v1001) [] false (con_laws_szPerson e1001) c14_ok (by first | rfl | simp) rfl ?_
   refine qp (AI v1001) rfl ?_
   refine r_nil ?_
   refine ws 705 833 ?_
   refine qp (AI v1001) rfl (qp (AB (decide (v1001 < (0 : Int)))) rfl ?_)
   refine r_nil ?_
   refine cF hF (fun hF => ?_) fun hF => ?_
   ·
    refine ws 833 897 ?_
    refine qp (AI (-1)) rfl ?_
    refine r_nil ?_
    refine w_ret ?_
    refine blockQ_r ?_
    refine thenQ_r ?_
    refine thenQ_r ?_
    refine blockQ_r ?_
    refine thenQ_r ?_
    cases hF
    exact eR
   ·
    refine w_skip ?_
    refine blockQ_n ?_
    refine thenQ_n ?_
    refine w_reg 833 1025 rfl rfl ?_
    refine qp (AI v50003) rfl (qp (AI (w64 (v50003 + 1))) rfl (qp (AI (w64 (v50003 + 1))) rfl ?_))
    refine r_nil ?_
    refine thenQ_n ?_
    refine ar (l' := [(0, AL 3 (v0.map ePerson)), (1, AI v1001), (5, AI (w64 (v50003 + 1)))]) (L := []) [0, 1, 5] [] 1 ⟨_, by rfl, hF⟩
  ·
   refine w_exit ?_
   refine thenQ_e ?_
   refine thenQ_e ?_
   refine blockQ_e ?_
   refine thenQ_n ?_
   refine ws 257 385 ?_
   refine qp (AI v50002) rfl (qp (AI v50002) rfl ?_)
   refine r_nil ?_
   refine w_ret ?_
   cases hF
   exact eR

def c35 : MC := (.seq (.reg [rg 2 (.f (.nilrow 1))]) (.seq (.reg [mvt 5 0, rg 6 (.p true (.len (.t 5))), rg 7 (.f (.mks 1 16 (.str []) (.t 6) (.t 6))), mvt 3 7]) (.seq (.seq (.reg [rg 4 (.p true (.mv (.c (.int .i64 0))))]) (.block 0 (.loop (.seq (.seq (.reg [mvt 8 4, mvt 9 0, rg 10 (.p true (.len (.t 9))), rg 11 (.p true (.bin .lss (.t 8) (.t 10)))]) (.cond (.t 11) .skip (.exit 0))) (.seq (.block 1 (.reg [mvt 14 3, mvt 15 4, mvt 16 0, mvt 17 4, rg 18 (.p true (.iad (.t 16) (.t 17) 1)), rg 19 (.p true (.ld (.t 18) 1 false)), rg 20 (.p true (.iad (.t 14) (.t 15) 1)), ⟨none, none, (.f (.st (.t 20) (.t 19) 1))⟩])) (.reg [mvt 12 4, rg 13 (.p true (.bin .add (.t 12) (.c (.int .i64 1)))), mvt 4 13])))))) (.seq (.reg [mvt 21 3, mvt 2 21]) .ret))))
theorem c35_is : compFn Tryd.prog 35 = some (c35, [(.tmp 2)]) := by kernel_rfl
theorem c35_ok : okFn Tryd.prog 35 = true := by kernel_rfl

noncomputable def F_laws_toStringS_l0 (v0 : List (List UInt8)) (k1 : Int × (List (List UInt8)) → Option (List (List UInt8))) : Int × (List (List UInt8)) → Option (List (List UInt8))
 | (v50006, v50007) => (bif (decide (v50006 < (v0.length : Int))) then ((ix v0 v50006).bind fun v1005 => ((ix v50007 v50006).bind fun v1006 => k1 (w64 (v50006 + 1), List.set v50007 v50006.toNat v1005)))
 else some v50007)
noncomputable def F_laws_toStringS (v0 : List (List UInt8)) : Option (List (List UInt8)) :=
 (need (0 ≤ (v0.length : Int) ∧ (v0.length : Int) ≤ (v0.length : Int) ∧ (v0.length : Int) ≤ 9223372036854775807 ∧ 16 * (v0.length : Int) ≤ 281474976710656) (loop (F_laws_toStringS_l0 v0) (0, List.replicate ((v0.length : Int)).toNat ([] : List UInt8))))
@[simp] def res_laws_toStringS (r : List (List UInt8)) : RV := .one (.one (.row true 1 (r.map V.str)))
theorem con_laws_toStringS {v0 : List (List UInt8)} {r : List (List UInt8)} (hF : F_laws_toStringS v0 = some r) : Con Tryd.prog 35 [.sl 1 (v0.map V.str)] (res_laws_toStringS r) := by
 unfold F_laws_toStringS at hF
 refine con_of c35_is fun N => ?_
 refine ws 0 64 ?_
 refine qf (.sl 0 0 0) [(0, .row true 1 (([] : List Int).map vI))] (by simp) ?_
 refine r_nil ?_
 refine ws 64 320 ?_
 refine qp (AL 1 (v0.map V.str)) rfl (qp (AI (v0.length : Int)) (ev_len_n rfl) ?_)
 obtain ⟨g1000, hF⟩ := need_some hF
 refine qf (.sl 192 0 ((List.replicate ((v0.length : Int)).toNat ([] : List UInt8)).length)) [(192, .row true 1 ((List.replicate ((v0.length : Int)).toNat ([] : List UInt8)).map V.str)), (0, .row true 1 (([] : List Int).map vI))] (effT_mks rfl rfl g1000 rfl) ?_
 refine qp (.sl 192 0 ((List.replicate ((v0.length : Int)).toNat ([] : List UInt8)).length)) rfl ?_
 refine r_nil ?_
 refine w_seq ?_
 refine ws 320 384 ?_
 refine qp (AI 0) rfl ?_
 refine r_nil ?_
 refine w_block ?_
 refine wr (l' := [(0, AL 1 (v0.map V.str)), (3, .sl 0 0 (List.replicate ((v0.length : Int)).toNat ([] : List UInt8)).length), (4, AI 0)]) (L := [(0, .row true 1 ((List.replicate ((v0.length : Int)).toNat ([] : List UInt8)).map V.str))]) [0, 3, 4] [(192, 0)] 1 ?_
 refine w_loopF (F_laws_toStringS_l0 v0) (fun s : Int × (List (List UInt8)) => mkS [(0, AL 1 (v0.map V.str)), (3, .sl 0 0 s.2.length), (4, AI s.1)] (fo [(0, .row true 1 (s.2.map V.str))]) 1) hF ?_
 rintro k1 ⟨v50006, v50007⟩ hF
 rw [F_laws_toStringS_l0] at hF
 try dsimp only
 refine w_seq ?_
 refine ws 1 257 ?_
 refine qp (AI v50006) rfl (qp (AL 1 (v0.map V.str)) rfl (qp (AI (v0.length : Int)) (ev_len_n rfl) (qp (AB (decide (v50006 < (v0.length : Int)))) rfl ?_)))
 refine r_nil ?_
 refine cF hF (fun hF => ?_) fun hF => ?_
 ·
  refine w_skip ?_
  refine thenQ_n ?_
  refine w_seq ?_
  refine w_block ?_
  refine w_reg 257 769 rfl rfl ?_
  refine qp (.sl 0 0 v50007.length) rfl (qp (AI v50006) rfl (qp (AL 1 (v0.map V.str)) rfl (qp (AI v50006) rfl ?_)))
  obtain ⟨v1005, e1005, hF⟩ := bind_get hF
  refine qp (.val none (.ptr [.str v1005])) (ev_iad_n rfl rfl e1005 rfl) (qp (AS v1005) rfl ?_)
  obtain ⟨v1006, e1006, hF⟩ := bind_get hF
  refine qp (.ptr 0 v50006.toNat 0) (ev_iad_r rfl (by simp) rfl rfl e1006) ?_
  refine qf0 (.undef) [(0, .row true 1 ((List.set v50007 v50006.toNat v1005).map V.str)), (0, .row true 1 (v50007.map V.str))] (effT_st rfl rfl (ix_some e1006).2 rfl rfl (by rfl) (by first | rfl | simp [patch, reb, List.take_of_length_le]) (by rfl) rfl) ?_
  refine r_nil ?_
  refine blockQ_n ?_
  refine thenQ_n ?_
  refine w_reg 769 961 rfl rfl ?_
  refine qp (AI v50006) rfl (qp (AI (w64 (v50006 + 1))) rfl (qp (AI (w64 (v50006 + 1))) rfl ?_))
  refine r_nil ?_
  refine thenQ_n ?_
  refine ar (l' := [(0, AL 1 (v0.map V.str)), (3, .sl 0 0 (List.set v50007 v50006.toNat v1005).length), (4, AI (w64 (v50006 + 1)))]) (L := [(0, .row true 1 ((List.set v50007 v50006.toNat v1005).map V.str))]) [0, 3, 4] [(0, 0)] 1 ⟨_, by rfl, hF⟩
 ·
  refine w_exit ?_
  refine thenQ_e ?_
  refine thenQ_e ?_
  refine blockQ_e ?_
  refine thenQ_n ?_
  refine ws 257 385 ?_
  refine qp (.sl 0 0 v50007.length) rfl (qp (.sl 0 0 v50007.length) rfl ?_)
  refine r_nil ?_
  refine w_ret ?_
  cases hF
  exact eR

def c17 : MC := (.seq (.reg [rg 1 (.f (.box (.t 0))), rg 2 (.f (.alloc [((.str []), (0, false)), ((.int .i64 0), (0, false)), ((.sl 0 []), (1, false))]))]) (.seq (.reg [rg 3 (.f (.alloc [((.str []), (0, false)), ((.int .i64 0), (0, false)), ((.sl 0 []), (1, false))]))]) (.seq (.reg [rg 4 (.p true (.fad (.t 1) 0)), rg 5 (.p true (.ld (.t 4) 1 false)), rg 6 (.p true (.fad (.t 3) 0)), ⟨none, none, (.f (.st (.t 6) (.t 5) 1))⟩]) (.seq (.reg [rg 7 (.p true (.fad (.t 1) 1)), rg 8 (.p true (.ld (.t 7) 1 false)), rg 9 (.p true (.fad (.t 3) 1)), ⟨none, none, (.f (.st (.t 9) (.t 8) 1))⟩]) (.seq (.reg [rg 10 (.p true (.fad (.t 1) 2)), rg 11 (.p true (.ld (.t 10) 1 false)), rg 12 (.call true 35 [(.t 11)]), rg 13 (.p true (.fad (.t 3) 2)), ⟨none, none, (.f (.st (.t 13) (.t 12) 1))⟩]) (.seq (.reg [rg 14 (.p true (.ld (.t 3) 3 true)), ⟨none, none, (.f (.st (.t 2) (.t 14) 3))⟩]) .ret))))))
theorem c17_is : compFn Tryd.prog 17 = some (c17, [(.cell (.ld (.t 2) 3 true))]) := by kernel_rfl
theorem c17_ok : okFn Tryd.prog 17 = true := by kernel_rfl

noncomputable def F_laws_toPerson (v0 : TPerson) : Option (TPerson) :=
 ((F_laws_toStringS v0.2.2).bind fun v1000 => some (v0.1, v0.2.1, v1000))
@[simp] def res_laws_toPerson (r : TPerson) : RV := .one (.agg [.val (.str r.1), .val (.int .i64 r.2.1), .row true 1 (r.2.2.map V.str)])
theorem con_laws_toPerson {v0 : TPerson} {r : TPerson} (hF : F_laws_toPerson v0 = some r) : Con Tryd.prog 17 [ePerson v0] (res_laws_toPerson r) := by
 unfold F_laws_toPerson at hF
 refine con_of c17_is fun N => ?_
 refine ws 0 128 ?_
 refine qf (.ptr 0 0 0) [(0, .box [AS v0.1, AI v0.2.1, AL 1 (v0.2.2.map V.str)])] (by simp) ?_
 refine qf (.ptr 64 0 0) [(64, .box [AS [], AI 0, .sl 65 0 0]), (65, .row true 1 (([] : List Int).map vI)), (0, .box [AS v0.1, AI v0.2.1, AL 1 (v0.2.2.map V.str)])] (by simp) ?_
 refine r_nil ?_
 refine ws 128 192 ?_
 refine qf (.ptr 128 0 0) [(128, .box [AS [], AI 0, .sl 129 0 0]), (129, .row true 1 (([] : List Int).map vI)), (64, .box [AS [], AI 0, .sl 65 0 0]), (65, .row true 1 (([] : List Int).map vI)), (0, .box [AS v0.1, AI v0.2.1, AL 1 (v0.2.2.map V.str)])] (by simp) ?_
 refine r_nil ?_
 refine ws 192 448 ?_
 refine qp (.ptr 0 0 0) rfl (qp (AS v0.1) rfl (qp (.ptr 128 0 0) rfl ?_))
 refine qf0 (.undef) [(128, .box [AS v0.1, AI 0, .sl 129 0 0]), (128, .box [AS [], AI 0, .sl 129 0 0]), (129, .row true 1 (([] : List Int).map vI)), (64, .box [AS [], AI 0, .sl 65 0 0]), (65, .row true 1 (([] : List Int).map vI)), (0, .box [AS v0.1, AI v0.2.1, AL 1 (v0.2.2.map V.str)])] (by simp) ?_
 refine r_nil ?_
 refine ws 448 704 ?_
 refine qp (.ptr 0 0 1) rfl (qp (AI v0.2.1) rfl (qp (.ptr 128 0 1) rfl ?_))
 refine qf0 (.undef) [(128, .box [AS v0.1, AI v0.2.1, .sl 129 0 0]), (128, .box [AS v0.1, AI 0, .sl 129 0 0]), (128, .box [AS [], AI 0, .sl 129 0 0]), (129, .row true 1 (([] : List Int).map vI)), (64, .box [AS [], AI 0, .sl 65 0 0]), (65, .row true 1 (([] : List Int).map vI)), (0, .box [AS v0.1, AI v0.2.1, AL 1 (v0.2.2.map V.str)])] (by simp) ?_
 refine r_nil ?_
 refine ws 704 1024 ?_
 refine qp (.ptr 0 0 2) rfl (qp (AL 1 (v0.2.2.map V.str)) rfl ?_)
 obtain ⟨v1000, e1000, hF⟩ := bind_get hF
 refine qc (.sl 832 0 v1000.length) [(832, .row true 1 (v1000.map V.str)), (128, .box [AS v0.1, AI v0.2.1, .sl 129 0 0]), (128, .box [AS v0.1, AI 0, .sl 129 0 0]), (128, .box [AS [], AI 0, .sl 129 0 0]), (129, .row true 1 (([] : List Int).map vI)), (64, .box [AS [], AI 0, .sl 65 0 0]), (65, .row true 1 (([] : List Int).map vI)), (0, .box [AS v0.1, AI v0.2.1, AL 1 (v0.2.2.map V.str)])] false (con_laws_toStringS e1000) c35_ok (by first | rfl | simp) (by simp [res_laws_toStringS]) ?_
 refine qp (.ptr 128 0 2) rfl ?_
 refine qf0 (.undef) [(128, .box [AS v0.1, AI v0.2.1, .sl 832 0 v1000.length]), (832, .row true 1 (v1000.map V.str)), (128, .box [AS v0.1, AI v0.2.1, .sl 129 0 0]), (128, .box [AS v0.1, AI 0, .sl 129 0 0]), (128, .box [AS [], AI 0, .sl 129 0 0]), (129, .row true 1 (([] : List Int).map vI)), (64, .box [AS [], AI 0, .sl 65 0 0]), (65, .row true 1 (([] : List Int).map vI)), (0, .box [AS v0.1, AI v0.2.1, AL 1 (v0.2.2.map V.str)])] (by simp) ?_
 refine r_nil ?_
 refine ws 1024 1152 ?_
 refine qp (.agg [AS v0.1, AI v0.2.1, .sl 832 0 v1000.length]) rfl ?_
 refine qf0 (.undef) [(64, .box [AS v0.1, AI v0.2.1, .sl 832 0 v1000.length]), (128, .box [AS v0.1, AI v0.2.1, .sl 832 0 v1000.length]), (832, .row true 1 (v1000.map V.str)), (128, .box [AS v0.1, AI v0.2.1, .sl 129 0 0]), (128, .box [AS v0.1, AI 0, .sl 129 0 0]), (128, .box [AS [], AI 0, .sl 129 0 0]), (129, .row true 1 (([] : List Int).map vI)), (64, .box [AS [], AI 0, .sl 65 0 0]), (65, .row true 1 (([] : List Int).map vI)), (0, .box [AS v0.1, AI v0.2.1, AL 1 (v0.2.2.map V.str)])] (by simp) ?_
 refine r_nil ?_
 refine w_ret ?_
 cases hF
 exact eR

def c7 : MC := (.seq (.reg [rg 2 (.f (.nilrow 3))]) (.seq (.reg [mvt 5 0, rg 6 (.p true (.len (.t 5))), rg 7 (.f (.mks 3 48 (.agg [(.str []), (.int .i64 0), (.sl 1 [])]) (.t 6) (.t 6))), mvt 3 7]) (.seq (.seq (.reg [rg 4 (.p true (.mv (.c (.int .i64 0))))]) (.block 0 (.loop (.seq (.seq (.reg [mvt 8 4, mvt 9 0, rg 10 (.p true (.len (.t 9))), rg 11 (.p true (.bin .lss (.t 8) (.t 10)))]) (.cond (.t 11) .skip (.exit 0))) (.seq (.block 1 (.reg [mvt 14 3, mvt 15 4, mvt 16 0, mvt 17 4, rg 18 (.p true (.iad (.t 16) (.t 17) 3)), rg 19 (.p true (.ld (.t 18) 3 true)), rg 20 (.call true 17 [(.t 19)]), rg 21 (.p true (.iad (.t 14) (.t 15) 3)), ⟨none, none, (.f (.st (.t 21) (.t 20) 3))⟩])) (.reg [mvt 12 4, rg 13 (.p true (.bin .add (.t 12) (.c (.int .i64 1)))), mvt 4 13])))))) (.seq (.reg [mvt 22 3, mvt 2 22]) .ret))))
theorem c7_is : compFn Tryd.prog 7 = some (c7, [(.tmp 2)]) := by kernel_rfl
theorem c7_ok : okFn Tryd.prog 7 = true := by kernel_rfl

noncomputable def F_laws_toPersonS_l0 (v0 : List TPerson) (k1 : Int × (List TPerson) → Option (List TPerson)) : Int × (List TPerson) → Option (List TPerson)
 | (v50006, v50007) => (bif (decide (v50006 < (v0.length : Int))) then ((ix v0 v50006).bind fun v1007 => ((F_laws_toPerson v1007).bind fun v1008 => ((ix v50007 v50006).bind fun v1009 => k1 (w64 (v50006 + 1), List.set v50007 v50006.toNat v1008))))
 else some v50007)
noncomputable def F_laws_toPersonS (v0 : List TPerson) : Option (List TPerson) :=
 (need (0 ≤ (v0.length : Int) ∧ (v0.length : Int) ≤ (v0.length : Int) ∧ (v0.length : Int) ≤ 9223372036854775807 ∧ 48 * (v0.length : Int) ≤ 281474976710656) (loop (F_laws_toPersonS_l0 v0) (0, List.replicate ((v0.length : Int)).toNat (([], 0, []) : TPerson))))
@[simp] def res_laws_toPersonS (r : List TPerson) : RV := .one (.one (.row true 3 (r.map ePerson)))
theorem con_laws_toPersonS {v0 : List TPerson} {r : List TPerson} (hF : F_laws_toPersonS v0 = some r) : Con Tryd.prog 7 [.sl 3 (v0.map ePerson)] (res_laws_toPersonS r) := by
 unfold F_laws_toPersonS at hF
 refine con_of c7_is fun N => ?_
 refine ws 0 64 ?_
 refine qf (.sl 0 0 0) [(0, .row true 3 (([] : List Int).map vI))] (by simp) ?_
 refine r_nil ?_
 refine ws 64 320 ?_
 refine qp (AL 3 (v0.map ePerson)) rfl (qp (AI (v0.length : Int)) (ev_len_n rfl) ?_)
 obtain ⟨g1000, hF⟩ := need_some hF
 refine qf (.sl 192 0 ((List.replicate ((v0.length : Int)).toNat (([], 0, []) : TPerson)).length)) [(192, .row true 3 ((List.replicate ((v0.length : Int)).toNat (([], 0, []) : TPerson)).map ePerson)), (0, .row true 3 (([] : List Int).map vI))] (effT_mks rfl rfl g1000 rfl) ?_
 refine qp (.sl 192 0 ((List.replicate ((v0.length : Int)).toNat (([], 0, []) : TPerson)).length)) rfl ?_
 refine r_nil ?_
 refine w_seq ?_
 refine ws 320 384 ?_
 refine qp (AI 0) rfl ?_
 refine r_nil ?_
 refine w_block ?_
 refine wr (l' := [(0, AL 3 (v0.map ePerson)), (3, .sl 0 0 (List.replicate ((v0.length : Int)).toNat (([], 0, []) : TPerson)).length), (4, AI 0)]) (L := [(0, .row true 3 ((List.replicate ((v0.length : Int)).toNat (([], 0, []) : TPerson)).map ePerson))]) [0, 3, 4] [(192, 0)] 1 ?_
 refine w_loopF (F_laws_toPersonS_l0 v0) (fun s : Int × (List TPerson) => mkS [(0, AL 3 (v0.map ePerson)), (3, .sl 0 0 s.2.length), (4, AI s.1)] (fo [(0, .row true 3 (s.2.map ePerson))]) 1) hF ?_
 rintro k1 ⟨v50006, v50007⟩ hF
 rw [F_laws_toPersonS_l0] at hF
 try dsimp only
 refine w_seq ?_
 refine ws 1 257 ?_
 refine qp (AI v50006) rfl (qp (AL 3 (v0.map ePerson)) rfl (qp (AI (v0.length : Int)) (ev_len_n rfl) (qp (AB (decide (v50006 < (v0.length : Int)))) rfl ?_)))
 refine r_nil ?_
 refine cF hF (fun hF => ?_) fun hF => ?_
 ·
  refine w_skip ?_
  refine thenQ_n ?_
  refine w_seq ?_
  refine w_block ?_
  refine w_reg 257 833 rfl rfl ?_
  refine qp (.sl 0 0 v50007.length) rfl (qp (AI v50006) rfl (qp (AL 3 (v0.map ePerson)) rfl (qp (AI v50006) rfl ?_)))
  obtain ⟨v1007, e1007, hF⟩ := bind_get hF
  refine qp (.val none (.ptr [.str v1007.1, .int .i64 v1007.2.1, .sl 1 (v1007.2.2.map V.str)])) (ev_iad_n rfl rfl e1007 rfl) (qp (.val none (ePerson v1007)) rfl ?_)
  obtain ⟨v1008, e1008, hF⟩ := bind_get hF
  refine qc (.agg [AS v1008.1, AI v1008.2.1, .sl 643 0 v1008.2.2.length]) [(643, .row true 1 (v1008.2.2.map V.str)), (0, .row true 3 (v50007.map ePerson))] false (con_laws_toPerson e1008) c17_ok (by first | rfl | simp) (by simp [res_laws_toPerson]) ?_
  obtain ⟨v1009, e1009, hF⟩ := bind_get hF
  refine qp (.ptr 0 v50006.toNat 0) (ev_iad_r rfl (by simp) rfl rfl e1009) ?_
  refine qf0 (.undef) [(0, .row true 3 ((List.set v50007 v50006.toNat v1008).map ePerson)), (643, .dead), (643, .row true 1 (v1008.2.2.map V.str)), (0, .row true 3 (v50007.map ePerson))] (effT_st rfl rfl (ix_some e1009).2 rfl rfl (by rfl) (by first | rfl | simp [patch, reb, List.take_of_length_le]) (by rfl) rfl) ?_
  refine r_nil ?_
  refine blockQ_n ?_
  refine thenQ_n ?_
  refine w_reg 833 1025 rfl rfl ?_
  refine qp (AI v50006) rfl (qp (AI (w64 (v50006 + 1))) rfl (qp (AI (w64 (v50006 + 1))) rfl ?_))
  refine r_nil ?_
  refine thenQ_n ?_
  refine ar (l' := [(0, AL 3 (v0.map ePerson)), (3, .sl 0 0 (List.set v50007 v50006.toNat v1008).length), (4, AI (w64 (v50006 + 1)))]) (L := [(0, .row true 3 ((List.set v50007 v50006.toNat v1008).map ePerson))]) [0, 3, 4] [(0, 0)] 1 ⟨_, by rfl, hF⟩
 ·
  refine w_exit ?_
  refine thenQ_e ?_
  refine thenQ_e ?_
  refine blockQ_e ?_
  refine thenQ_n ?_
  refine ws 257 385 ?_
  refine qp (.sl 0 0 v50007.length) rfl (qp (.sl 0 0 v50007.length) rfl ?_)
  refine r_nil ?_
  refine w_ret ?_
  cases hF
  exact eR

def c49 : MC := (.seq (.reg [rg 2 (.p true (.mv (.c (.bool false))))]) (.seq (.reg [mvt 3 0, rg 4 (.p true (.bin .geq (.t 3) (.c (.int .u8 97)))), mvt 5 4, ⟨(some 6), (some (5, true)), (.p true (.mv (.t 0)))⟩, ⟨(some 7), (some (5, true)), (.p true (.bin .leq (.t 6) (.c (.int .u8 122))))⟩, rg 8 (.p true (.pick (.t 5) (.t 7) (.c (.bool false)))), mvt 2 8]) .ret))
theorem c49_is : compFn Tryd.prog 49 = some (c49, [(.tmp 2)]) := by kernel_rfl
theorem c49_ok : okFn Tryd.prog 49 = true := by kernel_rfl

noncomputable def F_spec_l01Small (v0 : Int) : Option (Bool) :=
 (bif (decide ((97 : Int) ≤ v0)) then some (decide (v0 ≤ (122 : Int)))
 else some false)
@[simp] def res_spec_l01Small (r : Bool) : RV := .one (.one (.val (.bool r)))
theorem con_spec_l01Small {v0 : Int} {r : Bool} (hF : F_spec_l01Small v0 = some r) : Con Tryd.prog 49 [.int .u8 v0] (res_spec_l01Small r) := by
 unfold F_spec_l01Small at hF
 refine con_of c49_is fun N => ?_
 refine ws 0 64 ?_
 refine qp (AB false) rfl ?_
 refine r_nil ?_
 refine ws 64 512 ?_
 refine qp (.val none (.int .u8 v0)) rfl (qp (AB (decide ((97 : Int) ≤ v0))) rfl (qp (AB (decide ((97 : Int) ≤ v0))) rfl ?_))
 refine q_case 5 hF rfl (fun hF => ?_) (fun hF => ?_)
 ·
  refine qg (.val none (.int .u8 v0)) rfl rfl (qg (AB (decide (v0 ≤ (122 : Int)))) rfl rfl (qp (AB (decide (v0 ≤ (122 : Int)))) rfl (qp (AB (decide (v0 ≤ (122 : Int)))) rfl ?_)))
  refine r_nil ?_
  refine w_ret ?_
  cases hF
  exact eR
 ·
  refine qn rfl (qn rfl (qp (AB false) rfl (qp (AB false) rfl ?_)))
  refine r_nil ?_
  refine w_ret ?_
  cases hF
  exact eR

def c50 : MC := (.seq (.reg [rg 2 (.p true (.mv (.c (.bool false))))]) (.seq (.reg [mvt 3 0, rg 4 (.p true (.bin .geq (.t 3) (.c (.int .u8 48)))), mvt 5 4, ⟨(some 6), (some (5, true)), (.p true (.mv (.t 0)))⟩, ⟨(some 7), (some (5, true)), (.p true (.bin .leq (.t 6) (.c (.int .u8 57))))⟩, rg 8 (.p true (.pick (.t 5) (.t 7) (.c (.bool false)))), mvt 2 8]) .ret))
theorem c50_is : compFn Tryd.prog 50 = some (c50, [(.tmp 2)]) := by kernel_rfl
theorem c50_ok : okFn Tryd.prog 50 = true := by kernel_rfl

noncomputable def F_spec_l01Digit (v0 : Int) : Option (Bool) :=
 (bif (decide ((48 : Int) ≤ v0)) then some (decide (v0 ≤ (57 : Int)))
 else some false)
@[simp] def res_spec_l01Digit (r : Bool) : RV := .one (.one (.val (.bool r)))
theorem con_spec_l01Digit {v0 : Int} {r : Bool} (hF : F_spec_l01Digit v0 = some r) : Con Tryd.prog 50 [.int .u8 v0] (res_spec_l01Digit r) := by
 unfold F_spec_l01Digit at hF
 refine con_of c50_is fun N => ?_
 refine ws 0 64 ?_
 refine qp (AB false) rfl ?_
 refine r_nil ?_
 refine ws 64 512 ?_
 refine qp (.val none (.int .u8 v0)) rfl (qp (AB (decide ((48 : Int) ≤ v0))) rfl (qp (AB (decide ((48 : Int) ≤ v0))) rfl ?_))
 refine q_case 5 hF rfl (fun hF => ?_) (fun hF => ?_)
 ·
  refine qg (.val none (.int .u8 v0)) rfl rfl (qg (AB (decide (v0 ≤ (57 : Int)))) rfl rfl (qp (AB (decide (v0 ≤ (57 : Int)))) rfl (qp (AB (decide (v0 ≤ (57 : Int)))) rfl ?_)))
  refine r_nil ?_
  refine w_ret ?_
  cases hF
  exact eR
 ·
  refine qn rfl (qn rfl (qp (AB false) rfl (qp (AB false) rfl ?_)))
  refine r_nil ?_
  refine w_ret ?_
  cases hF
  exact eR

def c31 : MC := (.seq (.reg [rg 2 (.p true (.mv (.c (.bool false))))]) (.seq (.seq (.reg [mvt 4 0, rg 5 (.p true (.bin .eql (.t 4) (.c (.str [])))), mvt 6 5, ⟨(some 7), (some (6, false)), (.p true (.mv (.t 0)))⟩, ⟨(some 8), (some (6, false)), (.p true (.lens (.t 7)))⟩, ⟨(some 9), (some (6, false)), (.p true (.bin .gtr (.t 8) (.c (.int .i64 10))))⟩, rg 10 (.p true (.pick (.t 6) (.c (.bool true)) (.t 9))), mvt 11 10, ⟨(some 12), (some (11, false)), (.p true (.mv (.t 0)))⟩, ⟨(some 13), (some (11, false)), (.p true (.ixs (.t 12) (.c (.int .i64 0))))⟩, ⟨(some 14), (some (11, false)), (.call true 49 [(.t 13)])⟩, ⟨(some 15), (some (11, false)), (.p true (.not (.t 14)))⟩, rg 16 (.p true (.pick (.t 11) (.c (.bool true)) (.t 15)))]) (.cond (.t 16) (.seq (.reg [rg 2 (.p true (.mv (.c (.bool false))))]) .ret) .skip)) (.seq (.seq (.reg [rg 3 (.p true (.mv (.c (.int .i64 0))))]) (.block 0 (.loop (.seq (.seq (.reg [mvt 17 3, mvt 18 0, rg 19 (.p true (.lens (.t 18))), rg 20 (.p true (.bin .lss (.t 17) (.t 19)))]) (.cond (.t 20) .skip (.exit 0))) (.seq (.block 1 (.seq (.reg [mvt 23 0, mvt 24 3, rg 25 (.p true (.ixs (.t 23) (.t 24))), rg 26 (.call true 49 [(.t 25)]), rg 27 (.p true (.not (.t 26))), mvt 28 27, ⟨(some 29), (some (28, true)), (.p true (.mv (.t 0)))⟩, ⟨(some 30), (some (28, true)), (.p true (.mv (.t 3)))⟩, ⟨(some 31), (some (28, true)), (.p true (.ixs (.t 29) (.t 30)))⟩, ⟨(some 32), (some (28, true)), (.call true 50 [(.t 31)])⟩, ⟨(some 33), (some (28, true)), (.p true (.not (.t 32)))⟩, rg 34 (.p true (.pick (.t 28) (.t 33) (.c (.bool false))))]) (.cond (.t 34) (.seq (.reg [rg 2 (.p true (.mv (.c (.bool false))))]) .ret) .skip))) (.reg [mvt 21 3, rg 22 (.p true (.bin .add (.t 21) (.c (.int .i64 1)))), mvt 3 22])))))) (.seq (.reg [rg 2 (.p true (.mv (.c (.bool true))))]) .ret))))
theorem c31_is : compFn Tryd.prog 31 = some (c31, [(.tmp 2)]) := by kernel_rfl
theorem c31_ok : okFn Tryd.prog 31 = true := by kernel_rfl

noncomputable def F_spec_l01Name_l0 (v0 : List UInt8) (k1 : Int → Option (Bool)) : Int → Option (Bool)
 | v50003 => (bif (decide (v50003 < (v0.length : Int))) then ((ix v0 v50003).bind fun v1010 => ((F_spec_l01Small (v1010.toNat : Int)).bind fun v1011 => (bif (!v1011) then ((ix v0 v50003).bind fun v1012 => ((F_spec_l01Digit (v1012.toNat : Int)).bind fun v1013 => (bif (!v1013) then some false
 else k1 (w64 (v50003 + 1)))))
 else k1 (w64 (v50003 + 1)))))
 else some true)
noncomputable def F_spec_l01Name (v0 : List UInt8) : Option (Bool) :=
 (bif (decide (v0 = [])) then some false
 else (bif (decide ((10 : Int) < (v0.length : Int))) then some false
 else ((ix v0 0).bind fun v1000 => ((F_spec_l01Small (v1000.toNat : Int)).bind fun v1001 => (bif (!v1001) then some false
 else loop (F_spec_l01Name_l0 v0) 0)))))
@[simp] def res_spec_l01Name (r : Bool) : RV := .one (.one (.val (.bool r)))
theorem con_spec_l01Name {v0 : List UInt8} {r : Bool} (hF : F_spec_l01Name v0 = some r) : Con Tryd.prog 31 [.str v0] (res_spec_l01Name r) := by
 unfold F_spec_l01Name at hF
 refine con_of c31_is fun N => ?_
 refine ws 0 64 ?_
 refine qp (AB false) rfl ?_
 refine r_nil ?_
 refine w_seq ?_
 refine ws 64 896 ?_
 refine qp (AS v0) rfl (qp (AB (decide (v0 = []))) rfl (qp (AB (decide (v0 = []))) rfl ?_))
 refine q_case 6 hF rfl (fun hF => ?_) (fun hF => ?_)
 ·
  refine qn rfl (qn rfl (qn rfl (qp (AB true) rfl (qp (AB true) rfl (qn rfl (qn rfl (qn rfl ?_)))))))
  refine qn rfl (qp (AB true) rfl ?_)
  refine r_nil ?_
  refine w_true rfl ?_
  refine ws 896 960 ?_
  refine qp (AB false) rfl ?_
  refine r_nil ?_
  refine w_ret ?_
  refine thenQ_r ?_
  cases hF
  exact eR
 ·
  refine qg (AS v0) rfl rfl (qg (AI (v0.length : Int)) rfl rfl (qg (AB (decide ((10 : Int) < (v0.length : Int)))) rfl rfl (qp (AB (decide ((10 : Int) < (v0.length : Int)))) rfl (qp (AB (decide ((10 : Int) < (v0.length : Int)))) rfl ?_))))
  refine q_case 11 hF rfl (fun hF => ?_) (fun hF => ?_)
  ·
   refine qn rfl (qn rfl (qn rfl (qn rfl (qp (AB true) rfl ?_))))
   refine r_nil ?_
   refine w_true rfl ?_
   refine ws 896 960 ?_
   refine qp (AB false) rfl ?_
   refine r_nil ?_
   refine w_ret ?_
   refine thenQ_r ?_
   cases hF
   exact eR
  ·
   refine qg (AS v0) rfl rfl ?_
   obtain ⟨v1000, e1000, hF⟩ := bind_get hF
   refine qg (.val none (.int .u8 (v1000.toNat : Int))) rfl (ev_ixs rfl rfl e1000) ?_
   obtain ⟨v1001, e1001, hF⟩ := bind_get hF
   refine qcg (AB v1001) [] false rfl (con_spec_l01Small e1001) c49_ok (by first | rfl | simp) rfl ?_
   refine qg (AB (!v1001)) rfl rfl (qp (AB (!v1001)) rfl ?_)
   refine r_nil ?_
   refine cF hF (fun hF => ?_) fun hF => ?_
   ·
    refine ws 896 960 ?_
    refine qp (AB false) rfl ?_
    refine r_nil ?_
    refine w_ret ?_
    refine thenQ_r ?_
    cases hF
    exact eR
   ·
    refine w_skip ?_
    refine thenQ_n ?_
    refine w_seq ?_
    refine ws 896 960 ?_
    refine qp (AI 0) rfl ?_
    refine r_nil ?_
    refine w_block ?_
    refine wr (l' := [(0, AS v0), (3, AI 0)]) (L := []) [0, 3] [] 1 ?_
    refine w_loopF (F_spec_l01Name_l0 v0) (fun s : Int => mkS [(0, AS v0), (3, AI s)] (fo []) 1) hF ?_
    rintro k1 v50003 hF
    rw [F_spec_l01Name_l0] at hF
    try dsimp only
    refine w_seq ?_
    refine ws 1 257 ?_
    refine qp (AI v50003) rfl (qp (AS v0) rfl (qp (AI (v0.length : Int)) rfl (qp (AB (decide (v50003 < (v0.length : Int)))) rfl ?_)))
    refine r_nil ?_
    refine cF hF (fun hF => ?_) fun hF => ?_
    ·
     refine w_skip ?_
     refine thenQ_n ?_
     refine w_seq ?_
     refine w_block ?_
     refine ws 257 1025 ?_
     refine qp (AS v0) rfl (qp (AI v50003) rfl ?_)
     obtain ⟨v1010, e1010, hF⟩ := bind_get hF
     refine qp (.val none (.int .u8 (v1010.toNat : Int))) (ev_ixs rfl rfl e1010) ?_
     obtain ⟨v1011, e1011, hF⟩ := bind_get hF
     refine qc (AB v1011) [] false (con_spec_l01Small e1011) c49_ok (by first | rfl | simp) rfl ?_
     refine qp (AB (!v1011)) rfl (qp (AB (!v1011)) rfl ?_)
     refine q_case 28 hF rfl (fun hF => ?_) (fun hF => ?_)
     ·
      refine qg (AS v0) rfl rfl (qg (AI v50003) rfl rfl ?_)
      obtain ⟨v1012, e1012, hF⟩ := bind_get hF
      refine qg (.val none (.int .u8 (v1012.toNat : Int))) rfl (ev_ixs rfl rfl e1012) ?_
      obtain ⟨v1013, e1013, hF⟩ := bind_get hF
      refine qcg (AB v1013) [] false rfl (con_spec_l01Digit e1013) c50_ok (by first | rfl | simp) rfl ?_
      refine qg (AB (!v1013)) rfl rfl (qp (AB (!v1013)) rfl ?_)
      refine r_nil ?_
      refine cF hF (fun hF => ?_) fun hF => ?_
      ·
       refine ws 1025 1089 ?_
       refine qp (AB false) rfl ?_
       refine r_nil ?_
       refine w_ret ?_
       refine blockQ_r ?_
       refine thenQ_r ?_
       refine thenQ_r ?_
       refine blockQ_r ?_
       refine thenQ_r ?_
       cases hF
       exact eR
      ·
       refine w_skip ?_
       refine blockQ_n ?_
       refine thenQ_n ?_
       refine w_reg 1025 1217 rfl rfl ?_
       refine qp (AI v50003) rfl (qp (AI (w64 (v50003 + 1))) rfl (qp (AI (w64 (v50003 + 1))) rfl ?_))
       refine r_nil ?_
       refine thenQ_n ?_
       refine ar (l' := [(0, AS v0), (3, AI (w64 (v50003 + 1)))]) (L := []) [0, 3] [] 1 ⟨_, by rfl, hF⟩
     ·
      refine qn rfl (qn rfl (qn rfl (qn rfl (qn rfl (qp (AB false) rfl ?_)))))
      refine r_nil ?_
      refine w_false rfl ?_
      refine w_skip ?_
      refine blockQ_n ?_
      refine thenQ_n ?_
      refine w_reg 1025 1217 rfl rfl ?_
      refine qp (AI v50003) rfl (qp (AI (w64 (v50003 + 1))) rfl (qp (AI (w64 (v50003 + 1))) rfl ?_))
      refine r_nil ?_
      refine thenQ_n ?_
      refine ar (l' := [(0, AS v0), (3, AI (w64 (v50003 + 1)))]) (L := []) [0, 3] [] 1 ⟨_, by rfl, hF⟩
    ·
     refine w_exit ?_
     refine thenQ_e ?_
     refine thenQ_e ?_
     refine blockQ_e ?_
     refine thenQ_n ?_
     refine ws 257 321 ?_
     refine qp (AB true) rfl ?_
     refine r_nil ?_
     refine w_ret ?_
     cases hF
     exact eR

def c32 : MC := (.seq (.reg [rg 6 (.p true (.mv (.c (.bool false))))]) (.seq (.reg [mvt 7 0, mvt 8 1, rg 9 (.p true (.bin .geq (.t 7) (.t 8))), mvt 10 9, ⟨(some 11), (some (10, true)), (.p true (.mv (.t 0)))⟩, ⟨(some 12), (some (10, true)), (.p true (.mv (.t 2)))⟩, ⟨(some 13), (some (10, true)), (.p true (.bin .leq (.t 11) (.t 12)))⟩, rg 14 (.p true (.pick (.t 10) (.t 13) (.c (.bool false)))), mvt 6 14]) .ret))
theorem c32_is : compFn Tryd.prog 32 = some (c32, [(.tmp 6)]) := by kernel_rfl
theorem c32_ok : okFn Tryd.prog 32 = true := by kernel_rfl

noncomputable def F_spec_l00In (v0 : Int) (v1 : Int) (v2 : Int) : Option (Bool) :=
 (bif (decide (v1 ≤ v0)) then some (decide (v0 ≤ v2))
 else some false)
@[simp] def res_spec_l00In (r : Bool) : RV := .one (.one (.val (.bool r)))
theorem con_spec_l00In {v0 : Int} {v1 : Int} {v2 : Int} {r : Bool} (hF : F_spec_l00In v0 v1 v2 = some r) : Con Tryd.prog 32 [.int .i64 v0, .int .i64 v1, .int .i64 v2] (res_spec_l00In r) := by
 unfold F_spec_l00In at hF
 refine con_of c32_is fun N => ?_
 refine ws 0 64 ?_
 refine qp (AB false) rfl ?_
 refine r_nil ?_
 refine ws 64 640 ?_
 refine qp (AI v0) rfl (qp (AI v1) rfl (qp (AB (decide (v1 ≤ v0))) rfl (qp (AB (decide (v1 ≤ v0))) rfl ?_)))
 refine q_case 10 hF rfl (fun hF => ?_) (fun hF => ?_)
 ·
  refine qg (AI v0) rfl rfl (qg (AI v2) rfl rfl (qg (AB (decide (v0 ≤ v2))) rfl rfl (qp (AB (decide (v0 ≤ v2))) rfl (qp (AB (decide (v0 ≤ v2))) rfl ?_))))
  refine r_nil ?_
  refine w_ret ?_
  cases hF
  exact eR
 ·
  refine qn rfl (qn rfl (qn rfl (qp (AB false) rfl (qp (AB false) rfl ?_))))
  refine r_nil ?_
  refine w_ret ?_
  cases hF
  exact eR

def c33 : MC := (.seq (.reg [rg 4 (.p true (.mv (.c (.int .i64 0))))]) (.seq (.seq (.reg [rg 5 (.p true (.mv (.c (.int .i64 0))))]) (.block 0 (.loop (.seq (.seq (.reg [mvt 6 5, mvt 7 0, rg 8 (.p true (.len (.t 7))), rg 9 (.p true (.bin .lss (.t 6) (.t 8)))]) (.cond (.t 9) .skip (.exit 0))) (.seq (.block 1 (.seq (.reg [mvt 12 0, mvt 13 5, rg 14 (.p true (.iad (.t 12) (.t 13) 3)), rg 15 (.p true (.fad (.t 14) 0)), rg 16 (.p true (.ld (.t 15) 1 false)), mvt 17 1, rg 18 (.p true (.bin .eql (.t 16) (.t 17)))]) (.cond (.t 18) (.seq (.reg [mvt 19 5, mvt 4 19]) .ret) .skip))) (.reg [mvt 10 5, rg 11 (.p true (.bin .add (.t 10) (.c (.int .i64 1)))), mvt 5 11])))))) (.seq (.reg [rg 4 (.p true (.mv (.c (.int .i64 (-1)))))]) .ret)))
theorem c33_is : compFn Tryd.prog 33 = some (c33, [(.tmp 4)]) := by kernel_rfl
theorem c33_ok : okFn Tryd.prog 33 = true := by kernel_rfl

noncomputable def F_spec_l30Find_l0 (v0 : List TPerson) (v1 : List UInt8) (k0 : Int → Option (Int)) : Int → Option (Int)
 | v50001 => (bif (decide (v50001 < (v0.length : Int))) then ((ix v0 v50001).bind fun v1000 => (bif (decide (v1000.1 = v1)) then some v50001
 else k0 (w64 (v50001 + 1))))
 else some (-1))
noncomputable def F_spec_l30Find (v0 : List TPerson) (v1 : List UInt8) : Option (Int) :=
 loop (F_spec_l30Find_l0 v0 v1) 0
@[simp] def res_spec_l30Find (r : Int) : RV := .one (.one (.val (.int .i64 r)))
theorem con_spec_l30Find {v0 : List TPerson} {v1 : List UInt8} {r : Int} (hF : F_spec_l30Find v0 v1 = some r) : Con Tryd.prog 33 [.sl 3 (v0.map ePerson), .str v1] (res_spec_l30Find r) := by
 unfold F_spec_l30Find at hF
 refine con_of c33_is fun N => ?_
 refine ws 0 64 ?_
 refine qp (AI 0) rfl ?_
 refine r_nil ?_
 refine w_seq ?_
 refine ws 64 128 ?_
 refine qp (AI 0) rfl ?_
 refine r_nil ?_
 refine w_block ?_
 refine wr (l' := [(0, AL 3 (v0.map ePerson)), (1, AS v1), (5, AI 0)]) (L := []) [0, 1, 5] [] 1 ?_
 refine w_loopF (F_spec_l30Find_l0 v0 v1) (fun s : Int => mkS [(0, AL 3 (v0.map ePerson)), (1, AS v1), (5, AI s)] (fo []) 1) hF ?_
 rintro k0 v50001 hF
 rw [F_spec_l30Find_l0] at hF
 try dsimp only
 refine w_seq ?_
 refine ws 1 257 ?_
 refine qp (AI v50001) rfl (qp (AL 3 (v0.map ePerson)) rfl (qp (AI (v0.length : Int)) (ev_len_n rfl) (qp (AB (decide (v50001 < (v0.length : Int)))) rfl ?_)))
 refine r_nil ?_
 refine cF hF (fun hF => ?_) fun hF => ?_
 ·
  refine w_skip ?_
  refine thenQ_n ?_
  refine w_seq ?_
  refine w_block ?_
  refine ws 257 705 ?_
  refine qp (AL 3 (v0.map ePerson)) rfl (qp (AI v50001) rfl ?_)
  obtain ⟨v1000, e1000, hF⟩ := bind_get hF
  refine qp (.val none (.ptr [.str v1000.1, .int .i64 v1000.2.1, .sl 1 (v1000.2.2.map V.str)])) (ev_iad_n rfl rfl e1000 rfl) (qp (.val none (.ptr [.str v1000.1, .int .i64 v1000.2.1, .sl 1 (v1000.2.2.map V.str)])) rfl (qp (AS v1000.1) rfl (qp (AS v1) rfl (qp (AB (decide (v1000.1 = v1))) rfl ?_))))
  refine r_nil ?_
  refine cF hF (fun hF => ?_) fun hF => ?_
  ·
   refine ws 705 833 ?_
   refine qp (AI v50001) rfl (qp (AI v50001) rfl ?_)
   refine r_nil ?_
   refine w_ret ?_
   refine blockQ_r ?_
   refine thenQ_r ?_
   refine thenQ_r ?_
   refine blockQ_r ?_
   refine thenQ_r ?_
   cases hF
   exact eR
  ·
   refine w_skip ?_
   refine blockQ_n ?_
   refine thenQ_n ?_
   refine w_reg 705 897 rfl rfl ?_
   refine qp (AI v50001) rfl (qp (AI (w64 (v50001 + 1))) rfl (qp (AI (w64 (v50001 + 1))) rfl ?_))
   refine r_nil ?_
   refine thenQ_n ?_
   refine ar (l' := [(0, AL 3 (v0.map ePerson)), (1, AS v1), (5, AI (w64 (v50001 + 1)))]) (L := []) [0, 1, 5] [] 1 ⟨_, by rfl, hF⟩
 ·
  refine w_exit ?_
  refine thenQ_e ?_
  refine thenQ_e ?_
  refine blockQ_e ?_
  refine thenQ_n ?_
  refine ws 257 321 ?_
  refine qp (AI (-1)) rfl ?_
  refine r_nil ?_
  refine w_ret ?_
  cases hF
  exact eR

def c15 : MC := (.seq (.reg [rg 2 (.p true (.mv (.c (.bool false))))]) (.seq (.seq (.reg [rg 3 (.p true (.mv (.c (.int .i64 0))))]) (.block 0 (.loop (.seq (.seq (.reg [mvt 7 3, mvt 8 0, rg 9 (.p true (.len (.t 8))), rg 10 (.p true (.bin .lss (.t 7) (.t 9)))]) (.cond (.t 10) .skip (.exit 0))) (.seq (.block 1 (.seq (.reg [mvt 13 0, mvt 14 3, rg 15 (.p true (.iad (.t 13) (.t 14) 3)), mvt 4 15]) (.seq (.seq (.reg [rg 16 (.p false (.mv (.t 4))), rg 17 (.p false (.nck (.t 16))), rg 18 (.p false (.fad (.t 17) 0)), rg 19 (.p false (.ld (.t 18) 1 false)), rg 20 (.call false 31 [(.t 19)]), rg 21 (.p false (.not (.t 20))), rg 22 (.p false (.mv (.t 21))), ⟨(some 23), (some (22, false)), (.p false (.mv (.t 4)))⟩, ⟨(some 24), (some (22, false)), (.p false (.nck (.t 23)))⟩, ⟨(some 25), (some (22, false)), (.p false (.fad (.t 24) 1))⟩, ⟨(some 26), (some (22, false)), (.p false (.ld (.t 25) 1 false))⟩, ⟨(some 27), (some (22, false)), (.call false 32 [(.t 26), (.c (.int .i64 0)), (.c (.int .i64 3000))])⟩, ⟨(some 28), (some (22, false)), (.p false (.not (.t 27)))⟩, rg 29 (.p false (.pick (.t 22) (.c (.bool true)) (.t 28))), rg 30 (.p false (.mv (.t 29))), ⟨(some 31), (some (30, false)), (.p false (.mv (.t 4)))⟩, ⟨(some 32), (some (30, false)), (.p false (.nck (.t 31)))⟩, ⟨(some 33), (some (30, false)), (.p false (.fad (.t 32) 2))⟩, ⟨(some 34), (some (30, false)), (.p false (.ld (.t 33) 1 false))⟩, ⟨(some 35), (some (30, false)), (.p false (.len (.t 34)))⟩, ⟨(some 36), (some (30, false)), (.p false (.bin .gtr (.t 35) (.c (.int .i64 4))))⟩, rg 37 (.p false (.pick (.t 30) (.c (.bool true)) (.t 36))), rg 38 (.p false (.mv (.t 37))), ⟨(some 39), (some (38, false)), (.p false (.mv (.t 3)))⟩, ⟨(some 40), (some (38, false)), (.p false (.bin .gtr (.t 39) (.c (.int .i64 0))))⟩, ⟨(some 41), (some (38, false)), (.p false (.mv (.t 40)))⟩, ⟨(some 42), (some (41, true)), (.p false (.mv (.t 0)))⟩, ⟨(some 43), (some (41, true)), (.p false (.mv (.t 3)))⟩, ⟨(some 44), (some (41, true)), (.p false (.bin .sub (.t 43) (.c (.int .i64 1))))⟩, ⟨(some 45), (some (41, true)), (.p false (.iad (.t 42) (.t 44) 3))⟩, ⟨(some 46), (some (41, true)), (.p false (.fad (.t 45) 0))⟩, ⟨(some 47), (some (41, true)), (.p false (.ld (.t 46) 1 false))⟩, ⟨(some 48), (some (41, true)), (.p false (.mv (.t 4)))⟩, ⟨(some 49), (some (41, true)), (.p false (.nck (.t 48)))⟩, ⟨(some 50), (some (41, true)), (.p false (.fad (.t 49) 0))⟩, ⟨(some 51), (some (41, true)), (.p false (.ld (.t 50) 1 false))⟩, ⟨(some 52), (some (41, true)), (.p false (.bin .geq (.t 47) (.t 51)))⟩, ⟨(some 53), (some (38, false)), (.p false (.pick (.t 41) (.t 52) (.c (.bool false))))⟩, rg 54 (.p false (.pick (.t 38) (.c (.bool true)) (.t 53)))]) (.cond (.t 54) (.seq (.reg [rg 2 (.p true (.mv (.c (.bool false))))]) .ret) .skip)) (.seq (.reg [rg 5 (.p true (.mv (.c (.int .i64 0))))]) (.block 2 (.loop (.seq (.seq (.reg [mvt 55 5, mvt 56 4, rg 57 (.p true (.nck (.t 56))), rg 58 (.p true (.fad (.t 57) 2)), rg 59 (.p true (.ld (.t 58) 1 false)), rg 60 (.p true (.len (.t 59))), rg 61 (.p true (.bin .lss (.t 55) (.t 60)))]) (.cond (.t 61) .skip (.exit 2))) (.seq (.block 3 (.seq (.reg [mvt 64 0, mvt 65 4, rg 66 (.p true (.nck (.t 65))), rg 67 (.p true (.fad (.t 66) 2)), rg 68 (.p true (.ld (.t 67) 1 false)), mvt 69 5, rg 70 (.p true (.iad (.t 68) (.t 69) 1)), rg 71 (.p true (.ld (.t 70) 1 false)), rg 72 (.call true 33 [(.t 64), (.t 71)]), mvt 6 72]) (.seq (.reg [rg 73 (.p false (.mv (.t 6))), rg 74 (.p false (.bin .lss (.t 73) (.c (.int .i64 0)))), rg 75 (.p false (.mv (.t 74))), ⟨(some 76), (some (75, false)), (.p false (.mv (.t 0)))⟩, ⟨(some 77), (some (75, false)), (.p false (.mv (.t 6)))⟩, ⟨(some 78), (some (75, false)), (.p false (.iad (.t 76) (.t 77) 3))⟩, ⟨(some 79), (some (75, false)), (.p false (.fad (.t 78) 1))⟩, ⟨(some 80), (some (75, false)), (.p false (.ld (.t 79) 1 false))⟩, ⟨(some 81), (some (75, false)), (.p false (.mv (.t 4)))⟩, ⟨(some 82), (some (75, false)), (.p false (.nck (.t 81)))⟩, ⟨(some 83), (some (75, false)), (.p false (.fad (.t 82) 1))⟩, ⟨(some 84), (some (75, false)), (.p false (.ld (.t 83) 1 false))⟩, ⟨(some 85), (some (75, false)), (.p false (.bin .geq (.t 80) (.t 84)))⟩, rg 86 (.p false (.pick (.t 75) (.c (.bool true)) (.t 85))), rg 87 (.p false (.mv (.t 86))), ⟨(some 88), (some (87, false)), (.p false (.mv (.t 5)))⟩, ⟨(some 89), (some (87, false)), (.p false (.bin .gtr (.t 88) (.c (.int .i64 0))))⟩, ⟨(some 90), (some (87, false)), (.p false (.mv (.t 89)))⟩, ⟨(some 91), (some (90, true)), (.p false (.mv (.t 4)))⟩, ⟨(some 92), (some (90, true)), (.p false (.nck (.t 91)))⟩, ⟨(some 93), (some (90, true)), (.p false (.fad (.t 92) 2))⟩, ⟨(some 94), (some (90, true)), (.p false (.ld (.t 93) 1 false))⟩, ⟨(some 95), (some (90, true)), (.p false (.mv (.t 5)))⟩, ⟨(some 96), (some (90, true)), (.p false (.bin .sub (.t 95) (.c (.int .i64 1))))⟩, ⟨(some 97), (some (90, true)), (.p false (.iad (.t 94) (.t 96) 1))⟩, ⟨(some 98), (some (90, true)), (.p false (.ld (.t 97) 1 false))⟩, ⟨(some 99), (some (90, true)), (.p false (.mv (.t 4)))⟩, ⟨(some 100), (some (90, true)), (.p false (.nck (.t 99)))⟩, ⟨(some 101), (some (90, true)), (.p false (.fad (.t 100) 2))⟩, ⟨(some 102), (some (90, true)), (.p false (.ld (.t 101) 1 false))⟩, ⟨(some 103), (some (90, true)), (.p false (.mv (.t 5)))⟩, ⟨(some 104), (some (90, true)), (.p false (.iad (.t 102) (.t 103) 1))⟩, ⟨(some 105), (some (90, true)), (.p false (.ld (.t 104) 1 false))⟩, ⟨(some 106), (some (90, true)), (.p false (.bin .geq (.t 98) (.t 105)))⟩, ⟨(some 107), (some (87, false)), (.p false (.pick (.t 90) (.t 106) (.c (.bool false))))⟩, rg 108 (.p false (.pick (.t 87) (.c (.bool true)) (.t 107)))]) (.cond (.t 108) (.seq (.reg [rg 2 (.p true (.mv (.c (.bool false))))]) .ret) .skip)))) (.reg [mvt 62 5, rg 63 (.p true (.bin .add (.t 62) (.c (.int .i64 1)))), mvt 5 63]))))))))) (.reg [mvt 11 3, rg 12 (.p true (.bin .add (.t 11) (.c (.int .i64 1)))), mvt 3 12])))))) (.seq (.reg [mvt 109 0, rg 110 (.p true (.len (.t 109))), rg 111 (.p true (.bin .leq (.t 110) (.c (.int .i64 24)))), mvt 2 111]) .ret)))
theorem c15_is : compFn Tryd.prog 15 = some (c15, [(.tmp 2)]) := by kernel_rfl
theorem c15_ok : okFn Tryd.prog 15 = true := by kernel_rfl

noncomputable def F_spec_l30Ok_l2 (v0 : List TPerson) (v1000 : TPerson) (v50005 : Int) (k2 : Int → Option (Bool)) (k4 : Int → Option (Bool)) : Int → Option (Bool)
 | v50009 => (bif (decide (v50009 < (v1000.2.2.length : Int))) then ((ix v1000.2.2 v50009).bind fun v1007 => ((F_spec_l30Find v0 v1007).bind fun v1008 => (bif (decide (v1008 < (0 : Int))) then some false
 else ((ix v0 v1008).bind fun v1009 => (bif (decide (v1000.2.1 ≤ v1009.2.1)) then some false
 else (bif (decide ((0 : Int) < v50009)) then ((ix v1000.2.2 (w64 (v50009 - 1))).bind fun v1010 => ((ix v1000.2.2 v50009).bind fun v1011 => (bif (!Op.bytesLess v1010 v1011) then some false
 else k4 (w64 (v50009 + 1)))))
 else k4 (w64 (v50009 + 1))))))))
 else k2 (w64 (v50005 + 1)))
noncomputable def F_spec_l30Ok_j1 (v0 : List TPerson) (v1000 : TPerson) (v50005 : Int) (k2 : Int → Option (Bool)) : Option (Bool) :=
 loop (F_spec_l30Ok_l2 v0 v1000 v50005 k2) 0
noncomputable def F_spec_l30Ok_l0 (v0 : List TPerson) (k2 : Int → Option (Bool)) : Int → Option (Bool)
 | v50005 => (bif (decide (v50005 < (v0.length : Int))) then ((ix v0 v50005).bind fun v1000 => ((F_spec_l01Name v1000.1).bind fun v1004 => (bif (!v1004) then some false
 else ((F_spec_l00In v1000.2.1 0 3000).bind fun v1005 => (bif (!v1005) then some false
 else (bif (decide ((4 : Int) < (v1000.2.2.length : Int))) then some false
 else (bif (decide ((0 : Int) < v50005)) then ((ix v0 (w64 (v50005 - 1))).bind fun v1006 => (bif (!Op.bytesLess v1006.1 v1000.1) then some false
 else F_spec_l30Ok_j1 v0 v1000 v50005 k2))
 else F_spec_l30Ok_j1 v0 v1000 v50005 k2)))))))
 else some (decide ((v0.length : Int) ≤ (24 : Int))))
noncomputable def F_spec_l30Ok (v0 : List TPerson) : Option (Bool) :=
 loop (F_spec_l30Ok_l0 v0) 0
@[simp] def res_spec_l30Ok (r : Bool) : RV := .one (.one (.val (.bool r)))
theorem con_spec_l30Ok {v0 : List TPerson} {r : Bool} (hF : F_spec_l30Ok v0 = some r) : Con Tryd.prog 15 [.sl 3 (v0.map ePerson)] (res_spec_l30Ok r) := by
 unfold F_spec_l30Ok at hF
 refine con_of c15_is fun N => ?_
 refine ws 0 64 ?_
 refine qp (AB false) rfl ?_
 refine r_nil ?_
 refine w_seq ?_
 refine ws 64 128 ?_
 refine qp (AI 0) rfl ?_
 refine r_nil ?_
 refine w_block ?_
 refine wr (l' := [(0, AL 3 (v0.map ePerson)), (3, AI 0)]) (L := []) [0, 3] [] 1 ?_
 refine w_loopF (F_spec_l30Ok_l0 v0) (fun s : Int => mkS [(0, AL 3 (v0.map ePerson)), (3, AI s)] (fo []) 1) hF ?_
 rintro k2 v50005 hF
 rw [F_spec_l30Ok_l0] at hF
 try dsimp only
 refine w_seq ?_
 refine ws 1 257 ?_
 refine qp (AI v50005) rfl (qp (AL 3 (v0.map ePerson)) rfl (qp (AI (v0.length : Int)) (ev_len_n rfl) (qp (AB (decide (v50005 < (v0.length : Int)))) rfl ?_)))
 refine r_nil ?_
 refine cF hF (fun hF => ?_) fun hF => ?_
 ·
  refine w_skip ?_
  refine thenQ_n ?_
  refine w_seq ?_
  refine w_block ?_
  refine ws 257 513 ?_
  refine qp (AL 3 (v0.map ePerson)) rfl (qp (AI v50005) rfl ?_)
  obtain ⟨v1000, e1000, hF⟩ := bind_get hF
  refine qp (.val none (.ptr [.str v1000.1, .int .i64 v1000.2.1, .sl 1 (v1000.2.2.map V.str)])) (ev_iad_n rfl rfl e1000 rfl) (qp (.val none (.ptr [.str v1000.1, .int .i64 v1000.2.1, .sl 1 (v1000.2.2.map V.str)])) rfl ?_)
  refine r_nil ?_
  refine w_meet (fun s' => s' = mkS [(0, AL 3 (v0.map ePerson)), (3, AI v50005), (4, .val none (.ptr [.str v1000.1, .int .i64 v1000.2.1, .sl 1 (v1000.2.2.map V.str)]))] (fo []) 1 ∧ F_spec_l30Ok_j1 v0 v1000 v50005 k2 = some r) ?_ ?_
  ·
   refine ws 513 3009 ?_
   refine qp (.val none (.ptr [.str v1000.1, .int .i64 v1000.2.1, .sl 1 (v1000.2.2.map V.str)])) rfl (qp (.val none (.ptr [.str v1000.1, .int .i64 v1000.2.1, .sl 1 (v1000.2.2.map V.str)])) rfl (qp (.val none (.ptr [.str v1000.1, .int .i64 v1000.2.1, .sl 1 (v1000.2.2.map V.str)])) rfl (qp (AS v1000.1) rfl ?_)))
   obtain ⟨v1004, e1004, hF⟩ := bind_get hF
   refine qc (AB v1004) [] false (con_spec_l01Name e1004) c31_ok (by first | rfl | simp) rfl ?_
   refine qp (AB (!v1004)) rfl (qp (AB (!v1004)) rfl ?_)
   refine q_case 22 hF rfl (fun hF => ?_) (fun hF => ?_)
   ·
    refine qn rfl (qn rfl (qn rfl (qn rfl (qn rfl (qn rfl (qp (AB true) rfl (qp (AB true) rfl ?_)))))))
    refine qn rfl (qn rfl (qn rfl (qn rfl (qn rfl (qn rfl (qp (AB true) rfl (qp (AB true) rfl ?_)))))))
    refine qn rfl (qn rfl (qn rfl (qu rfl (qu rfl (qu rfl (qu rfl (qu rfl ?_)))))))
    refine qu rfl (qu rfl (qu rfl (qu rfl (qu rfl (qu rfl (qn rfl (qp (AB true) rfl ?_)))))))
    refine r_nil ?_
    refine w_true rfl ?_
    refine ws 3009 3073 ?_
    refine qp (AB false) rfl ?_
    refine r_nil ?_
    refine w_ret ?_
    refine thenQ_r ?_
    refine blockQ_r ?_
    refine thenQ_r ?_
    refine thenQ_r ?_
    refine blockQ_r ?_
    refine thenQ_r ?_
    cases hF
    exact eR
   ·
    refine qg (.val none (.ptr [.str v1000.1, .int .i64 v1000.2.1, .sl 1 (v1000.2.2.map V.str)])) rfl rfl (qg (.val none (.ptr [.str v1000.1, .int .i64 v1000.2.1, .sl 1 (v1000.2.2.map V.str)])) rfl rfl (qg (.val none (.ptr [.int .i64 v1000.2.1, .sl 1 (v1000.2.2.map V.str)])) rfl rfl (qg (AI v1000.2.1) rfl rfl ?_)))
    obtain ⟨v1005, e1005, hF⟩ := bind_get hF
    refine qcg (AB v1005) [] false rfl (con_spec_l00In e1005) c32_ok (by first | rfl | simp) rfl ?_
    refine qg (AB (!v1005)) rfl rfl (qp (AB (!v1005)) rfl (qp (AB (!v1005)) rfl ?_))
    refine q_case 30 hF rfl (fun hF => ?_) (fun hF => ?_)
    ·
     refine qn rfl (qn rfl (qn rfl (qn rfl (qn rfl (qn rfl (qp (AB true) rfl (qp (AB true) rfl ?_)))))))
     refine qn rfl (qn rfl (qn rfl (qu rfl (qu rfl (qu rfl (qu rfl (qu rfl ?_)))))))
     refine qu rfl (qu rfl (qu rfl (qu rfl (qu rfl (qu rfl (qn rfl (qp (AB true) rfl ?_)))))))
     refine r_nil ?_
     refine w_true rfl ?_
     refine ws 3009 3073 ?_
     refine qp (AB false) rfl ?_
     refine r_nil ?_
     refine w_ret ?_
     refine thenQ_r ?_
     refine blockQ_r ?_
     refine thenQ_r ?_
     refine thenQ_r ?_
     refine blockQ_r ?_
     refine thenQ_r ?_
     cases hF
     exact eR
    ·
     refine qg (.val none (.ptr [.str v1000.1, .int .i64 v1000.2.1, .sl 1 (v1000.2.2.map V.str)])) rfl rfl (qg (.val none (.ptr [.str v1000.1, .int .i64 v1000.2.1, .sl 1 (v1000.2.2.map V.str)])) rfl rfl (qg (.val none (.ptr [.sl 1 (v1000.2.2.map V.str)])) rfl rfl (qg (AL 1 (v1000.2.2.map V.str)) rfl rfl (qg (AI (v1000.2.2.length : Int)) rfl (ev_len_n rfl) (qg (AB (decide ((4 : Int) < (v1000.2.2.length : Int)))) rfl rfl (qp (AB (decide ((4 : Int) < (v1000.2.2.length : Int)))) rfl (qp (AB (decide ((4 : Int) < (v1000.2.2.length : Int)))) rfl ?_)))))))
     refine q_case 38 hF rfl (fun hF => ?_) (fun hF => ?_)
     ·
      refine qn rfl (qn rfl (qn rfl (qu rfl (qu rfl (qu rfl (qu rfl (qu rfl ?_)))))))
      refine qu rfl (qu rfl (qu rfl (qu rfl (qu rfl (qu rfl (qn rfl (qp (AB true) rfl ?_)))))))
      refine r_nil ?_
      refine w_true rfl ?_
      refine ws 3009 3073 ?_
      refine qp (AB false) rfl ?_
      refine r_nil ?_
      refine w_ret ?_
      refine thenQ_r ?_
      refine blockQ_r ?_
      refine thenQ_r ?_
      refine thenQ_r ?_
      refine blockQ_r ?_
      refine thenQ_r ?_
      cases hF
      exact eR
     ·
      refine qg (AI v50005) rfl rfl (qg (AB (decide ((0 : Int) < v50005))) rfl rfl (qg (AB (decide ((0 : Int) < v50005))) rfl rfl ?_))
      refine q_case 41 hF rfl (fun hF => ?_) (fun hF => ?_)
      ·
       refine qg (AL 3 (v0.map ePerson)) rfl rfl (qg (AI v50005) rfl rfl (qg (AI (w64 (v50005 - 1))) rfl rfl ?_))
       obtain ⟨v1006, e1006, hF⟩ := bind_get hF
       refine qg (.val none (.ptr [.str v1006.1, .int .i64 v1006.2.1, .sl 1 (v1006.2.2.map V.str)])) rfl (ev_iad_n rfl rfl e1006 rfl) (qg (.val none (.ptr [.str v1006.1, .int .i64 v1006.2.1, .sl 1 (v1006.2.2.map V.str)])) rfl rfl (qg (AS v1006.1) rfl rfl (qg (.val none (.ptr [.str v1000.1, .int .i64 v1000.2.1, .sl 1 (v1000.2.2.map V.str)])) rfl rfl (qg (.val none (.ptr [.str v1000.1, .int .i64 v1000.2.1, .sl 1 (v1000.2.2.map V.str)])) rfl rfl (qg (.val none (.ptr [.str v1000.1, .int .i64 v1000.2.1, .sl 1 (v1000.2.2.map V.str)])) rfl rfl (qg (AS v1000.1) rfl rfl (qg (AB (!Op.bytesLess v1006.1 v1000.1)) rfl rfl ?_)))))))
       refine qg (AB (!Op.bytesLess v1006.1 v1000.1)) rfl rfl (qp (AB (!Op.bytesLess v1006.1 v1000.1)) rfl ?_)
       refine r_nil ?_
       refine cF hF (fun hF => ?_) fun hF => ?_
       ·
        refine ws 3009 3073 ?_
        refine qp (AB false) rfl ?_
        refine r_nil ?_
        refine w_ret ?_
        refine thenQ_r ?_
        refine blockQ_r ?_
        refine thenQ_r ?_
        refine thenQ_r ?_
        refine blockQ_r ?_
        refine thenQ_r ?_
        cases hF
        exact eR
       ·
        refine w_skip ?_
        refine thenQ_n ?_
        refine aw_ren (l' := [(0, AL 3 (v0.map ePerson)), (3, AI v50005), (4, .val none (.ptr [.str v1000.1, .int .i64 v1000.2.1, .sl 1 (v1000.2.2.map V.str)]))]) (L := []) [0, 3, 4] [] 1 (by first | rfl | simp) (by first | rfl | simp) (by decide) (by decide) (by decide) ⟨rfl, hF⟩
      ·
       refine qn rfl (qn rfl (qn rfl (qn rfl (qn rfl (qn rfl (qn rfl (qn rfl ?_)))))))
       refine qn rfl (qn rfl (qn rfl (qg (AB false) rfl rfl (qp (AB false) rfl ?_))))
       refine r_nil ?_
       refine w_false rfl ?_
       refine w_skip ?_
       refine thenQ_n ?_
       refine aw_ren (l' := [(0, AL 3 (v0.map ePerson)), (3, AI v50005), (4, .val none (.ptr [.str v1000.1, .int .i64 v1000.2.1, .sl 1 (v1000.2.2.map V.str)]))]) (L := []) [0, 3, 4] [] 1 (by first | rfl | simp) (by first | rfl | simp) (by decide) (by decide) (by decide) ⟨rfl, hF⟩
  ·
   rintro s' ⟨rfl, hF⟩
   unfold F_spec_l30Ok_j1 at hF
   refine ws 1 65 ?_
   refine qp (AI 0) rfl ?_
   refine r_nil ?_
   refine w_block ?_
   refine wr (l' := [(0, AL 3 (v0.map ePerson)), (3, AI v50005), (4, .val none (.ptr [.str v1000.1, .int .i64 v1000.2.1, .sl 1 (v1000.2.2.map V.str)])), (5, AI 0)]) (L := []) [0, 3, 4, 5] [] 1 ?_
   refine w_loopF (F_spec_l30Ok_l2 v0 v1000 v50005 k2) (fun s : Int => mkS [(0, AL 3 (v0.map ePerson)), (3, AI v50005), (4, .val none (.ptr [.str v1000.1, .int .i64 v1000.2.1, .sl 1 (v1000.2.2.map V.str)])), (5, AI s)] (fo []) 1) hF ?_
   rintro k4 v50009 hF
   rw [F_spec_l30Ok_l2] at hF
   try dsimp only
   refine w_seq ?_
   refine ws 1 449 ?_
   refine qp (AI v50009) rfl (qp (.val none (.ptr [.str v1000.1, .int .i64 v1000.2.1, .sl 1 (v1000.2.2.map V.str)])) rfl (qp (.val none (.ptr [.str v1000.1, .int .i64 v1000.2.1, .sl 1 (v1000.2.2.map V.str)])) rfl (qp (.val none (.ptr [.sl 1 (v1000.2.2.map V.str)])) rfl (qp (AL 1 (v1000.2.2.map V.str)) rfl (qp (AI (v1000.2.2.length : Int)) (ev_len_n rfl) (qp (AB (decide (v50009 < (v1000.2.2.length : Int)))) rfl ?_))))))
   refine r_nil ?_
   refine cF hF (fun hF => ?_) fun hF => ?_
   ·
    refine w_skip ?_
    refine thenQ_n ?_
    refine w_seq ?_
    refine w_block ?_
    refine ws 449 1089 ?_
    refine qp (AL 3 (v0.map ePerson)) rfl (qp (.val none (.ptr [.str v1000.1, .int .i64 v1000.2.1, .sl 1 (v1000.2.2.map V.str)])) rfl (qp (.val none (.ptr [.str v1000.1, .int .i64 v1000.2.1, .sl 1 (v1000.2.2.map V.str)])) rfl (qp (.val none (.ptr [.sl 1 (v1000.2.2.map V.str)])) rfl (qp (AL 1 (v1000.2.2.map V.str)) rfl (qp (AI v50009) rfl ?_)))))
    obtain ⟨v1007, e1007, hF⟩ := bind_get hF
    refine qp (.val none (.ptr [.str v1007])) (ev_iad_n rfl rfl e1007 rfl) (qp (AS v1007) rfl ?_)
    obtain ⟨v1008, e1008, hF⟩ := bind_get hF
    refine qc (AI v1008) [] false (con_spec_l30Find e1008) c33_ok (by first | rfl | simp) rfl ?_
    refine qp (AI v1008) rfl ?_
    refine r_nil ?_
    refine ws 1089 3393 ?_
    refine qp (AI v1008) rfl (qp (AB (decide (v1008 < (0 : Int)))) rfl (qp (AB (decide (v1008 < (0 : Int)))) rfl ?_))
    refine q_case 75 hF rfl (fun hF => ?_) (fun hF => ?_)
    ·
     refine qn rfl (qn rfl (qn rfl (qn rfl (qn rfl (qn rfl (qn rfl (qn rfl ?_)))))))
     refine qn rfl (qn rfl (qp (AB true) rfl (qp (AB true) rfl (qn rfl (qn rfl (qn rfl (qu rfl ?_)))))))
     refine qu rfl (qu rfl (qu rfl (qu rfl (qu rfl (qu rfl (qu rfl (qu rfl ?_)))))))
     refine qu rfl (qu rfl (qu rfl (qu rfl (qu rfl (qu rfl (qu rfl (qn rfl ?_)))))))
     refine qp (AB true) rfl ?_
     refine r_nil ?_
     refine w_true rfl ?_
     refine ws 3393 3457 ?_
     refine qp (AB false) rfl ?_
     refine r_nil ?_
     refine w_ret ?_
     refine blockQ_r ?_
     refine thenQ_r ?_
     refine thenQ_r ?_
     refine blockQ_r ?_
     refine blockQ_r ?_
     refine thenQ_r ?_
     refine thenQ_r ?_
     refine blockQ_r ?_
     refine thenQ_r ?_
     cases hF
     exact eR
    ·
     refine qg (AL 3 (v0.map ePerson)) rfl rfl (qg (AI v1008) rfl rfl ?_)
     obtain ⟨v1009, e1009, hF⟩ := bind_get hF
     refine qg (.val none (.ptr [.str v1009.1, .int .i64 v1009.2.1, .sl 1 (v1009.2.2.map V.str)])) rfl (ev_iad_n rfl rfl e1009 rfl) (qg (.val none (.ptr [.int .i64 v1009.2.1, .sl 1 (v1009.2.2.map V.str)])) rfl rfl (qg (AI v1009.2.1) rfl rfl (qg (.val none (.ptr [.str v1000.1, .int .i64 v1000.2.1, .sl 1 (v1000.2.2.map V.str)])) rfl rfl (qg (.val none (.ptr [.str v1000.1, .int .i64 v1000.2.1, .sl 1 (v1000.2.2.map V.str)])) rfl rfl (qg (.val none (.ptr [.int .i64 v1000.2.1, .sl 1 (v1000.2.2.map V.str)])) rfl rfl (qg (AI v1000.2.1) rfl rfl (qg (AB (decide (v1000.2.1 ≤ v1009.2.1))) rfl rfl ?_)))))))
     refine qp (AB (decide (v1000.2.1 ≤ v1009.2.1))) rfl (qp (AB (decide (v1000.2.1 ≤ v1009.2.1))) rfl ?_)
     refine q_case 87 hF rfl (fun hF => ?_) (fun hF => ?_)
     ·
      refine qn rfl (qn rfl (qn rfl (qu rfl (qu rfl (qu rfl (qu rfl (qu rfl ?_)))))))
      refine qu rfl (qu rfl (qu rfl (qu rfl (qu rfl (qu rfl (qu rfl (qu rfl ?_)))))))
      refine qu rfl (qu rfl (qu rfl (qn rfl (qp (AB true) rfl ?_))))
      refine r_nil ?_
      refine w_true rfl ?_
      refine ws 3393 3457 ?_
      refine qp (AB false) rfl ?_
      refine r_nil ?_
      refine w_ret ?_
      refine blockQ_r ?_
      refine thenQ_r ?_
      refine thenQ_r ?_
      refine blockQ_r ?_
      refine blockQ_r ?_
      refine thenQ_r ?_
      refine thenQ_r ?_
      refine blockQ_r ?_
      refine thenQ_r ?_
      cases hF
      exact eR
     ·
      refine qg (AI v50009) rfl rfl (qg (AB (decide ((0 : Int) < v50009))) rfl rfl (qg (AB (decide ((0 : Int) < v50009))) rfl rfl ?_))
      refine q_case 90 hF rfl (fun hF => ?_) (fun hF => ?_)
      ·
       refine qg (.val none (.ptr [.str v1000.1, .int .i64 v1000.2.1, .sl 1 (v1000.2.2.map V.str)])) rfl rfl (qg (.val none (.ptr [.str v1000.1, .int .i64 v1000.2.1, .sl 1 (v1000.2.2.map V.str)])) rfl rfl (qg (.val none (.ptr [.sl 1 (v1000.2.2.map V.str)])) rfl rfl (qg (AL 1 (v1000.2.2.map V.str)) rfl rfl (qg (AI v50009) rfl rfl (qg (AI (w64 (v50009 - 1))) rfl rfl ?_)))))
       obtain ⟨v1010, e1010, hF⟩ := bind_get hF
       refine qg (.val none (.ptr [.str v1010])) rfl (ev_iad_n rfl rfl e1010 rfl) (qg (AS v1010) rfl rfl (qg (.val none (.ptr [.str v1000.1, .int .i64 v1000.2.1, .sl 1 (v1000.2.2.map V.str)])) rfl rfl (qg (.val none (.ptr [.str v1000.1, .int .i64 v1000.2.1, .sl 1 (v1000.2.2.map V.str)])) rfl rfl (qg (.val none (.ptr [.sl 1 (v1000.2.2.map V.str)])) rfl rfl (qg (AL 1 (v1000.2.2.map V.str)) rfl rfl (qg (AI v50009) rfl rfl ?_))))))
       obtain ⟨v1011, e1011, hF⟩ := bind_get hF
       refine qg (.val none (.ptr [.str v1011])) rfl (ev_iad_n rfl rfl e1011 rfl) (qg (AS v1011) rfl rfl (qg (AB (!Op.bytesLess v1010 v1011)) rfl rfl (qg (AB (!Op.bytesLess v1010 v1011)) rfl rfl (qp (AB (!Op.bytesLess v1010 v1011)) rfl ?_))))
       refine r_nil ?_
       refine cF hF (fun hF => ?_) fun hF => ?_
       ·
        refine ws 3393 3457 ?_
        refine qp (AB false) rfl ?_
        refine r_nil ?_
        refine w_ret ?_
        refine blockQ_r ?_
        refine thenQ_r ?_
        refine thenQ_r ?_
        refine blockQ_r ?_
        refine blockQ_r ?_
        refine thenQ_r ?_
        refine thenQ_r ?_
        refine blockQ_r ?_
        refine thenQ_r ?_
        cases hF
        exact eR
       ·
        refine w_skip ?_
        refine blockQ_n ?_
        refine thenQ_n ?_
        refine w_reg 3393 3585 rfl rfl ?_
        refine qp (AI v50009) rfl (qp (AI (w64 (v50009 + 1))) rfl (qp (AI (w64 (v50009 + 1))) rfl ?_))
        refine r_nil ?_
        refine thenQ_n ?_
        refine ar (l' := [(0, AL 3 (v0.map ePerson)), (3, AI v50005), (4, .val none (.ptr [.str v1000.1, .int .i64 v1000.2.1, .sl 1 (v1000.2.2.map V.str)])), (5, AI (w64 (v50009 + 1)))]) (L := []) [0, 3, 4, 5] [] 1 ⟨_, by rfl, hF⟩
      ·
       refine qn rfl (qn rfl (qn rfl (qn rfl (qn rfl (qn rfl (qn rfl (qn rfl ?_)))))))
       refine qn rfl (qn rfl (qn rfl (qn rfl (qn rfl (qn rfl (qn rfl (qn rfl ?_)))))))
       refine qg (AB false) rfl rfl (qp (AB false) rfl ?_)
       refine r_nil ?_
       refine w_false rfl ?_
       refine w_skip ?_
       refine blockQ_n ?_
       refine thenQ_n ?_
       refine w_reg 3393 3585 rfl rfl ?_
       refine qp (AI v50009) rfl (qp (AI (w64 (v50009 + 1))) rfl (qp (AI (w64 (v50009 + 1))) rfl ?_))
       refine r_nil ?_
       refine thenQ_n ?_
       refine ar (l' := [(0, AL 3 (v0.map ePerson)), (3, AI v50005), (4, .val none (.ptr [.str v1000.1, .int .i64 v1000.2.1, .sl 1 (v1000.2.2.map V.str)])), (5, AI (w64 (v50009 + 1)))]) (L := []) [0, 3, 4, 5] [] 1 ⟨_, by rfl, hF⟩
   ·
    refine w_exit ?_
    refine thenQ_e ?_
    refine thenQ_e ?_
    refine blockQ_e ?_
    refine blockQ_n ?_
    refine thenQ_n ?_
    refine w_reg 449 641 rfl rfl ?_
    refine qp (AI v50005) rfl (qp (AI (w64 (v50005 + 1))) rfl (qp (AI (w64 (v50005 + 1))) rfl ?_))
    refine r_nil ?_
    refine thenQ_n ?_
    refine ar (l' := [(0, AL 3 (v0.map ePerson)), (3, AI (w64 (v50005 + 1)))]) (L := []) [0, 3] [] 1 ⟨_, by rfl, hF⟩
 ·
  refine w_exit ?_
  refine thenQ_e ?_
  refine thenQ_e ?_
  refine blockQ_e ?_
  refine thenQ_n ?_
  refine ws 257 513 ?_
  refine qp (AL 3 (v0.map ePerson)) rfl (qp (AI (v0.length : Int)) (ev_len_n rfl) (qp (AB (decide ((v0.length : Int) ≤ (24 : Int)))) rfl (qp (AB (decide ((v0.length : Int) ≤ (24 : Int)))) rfl ?_)))
  refine r_nil ?_
  refine w_ret ?_
  cases hF
  exact eR

def c34 : MC := (.seq (.reg [rg 2 (.p true (.mv (.c (.str []))))]) (.seq (.seq (.reg [mvt 8 0, rg 9 (.p true (.bin .eql (.t 8) (.c (.int .i64 0))))]) (.cond (.t 9) (.seq (.reg [rg 2 (.p true (.mv (.c (.str [48]))))]) .ret) .skip)) (.seq (.reg [rg 10 (.f (.bsl 1 [])), mvt 3 10]) (.seq (.seq (.reg [mvt 11 0, mvt 4 11]) (.block 0 (.loop (.seq (.seq (.reg [mvt 12 4, rg 13 (.p true (.bin .neq (.t 12) (.c (.int .i64 0))))]) (.cond (.t 13) .skip (.exit 0))) (.seq (.block 1 (.seq (.reg [mvt 16 4, rg 17 (.p true (.bin .rem (.t 16) (.c (.int .i64 10)))), mvt 5 17]) (.seq (.seq (.reg [mvt 18 5, rg 19 (.p true (.bin .lss (.t 18) (.c (.int .i64 0))))]) (.cond (.t 19) (.reg [mvt 20 5, rg 21 (.p true (.neg (.t 20))), mvt 5 21]) .skip)) (.reg [mvt 22 3, mvt 23 5, rg 24 (.p true (.bin .add (.c (.int .i64 48)) (.t 23))), rg 25 (.p true (.conv .u8 (.t 24))), rg 26 (.f (.bsl 1 [(.t 25)])), rg 27 (.f (.app (.t 22) (.t 26) 1 1 true)), mvt 3 27])))) (.reg [mvt 14 4, rg 15 (.p true (.bin .quo (.t 14) (.c (.int .i64 10)))), mvt 4 15])))))) (.seq (.seq (.reg [mvt 28 0, rg 29 (.p true (.bin .lss (.t 28) (.c (.int .i64 0))))]) (.cond (.t 29) (.reg [mvt 30 3, rg 31 (.f (.bsl 1 [(.c (.int .u8 45))])), rg 32 (.f (.app (.t 30) (.t 31) 1 1 true)), mvt 3 32]) .skip)) (.seq (.reg [rg 33 (.f (.bsl 1 [])), mvt 6 33]) (.seq (.seq (.reg [mvt 34 3, rg 35 (.p true (.len (.t 34))), rg 36 (.p true (.bin .sub (.t 35) (.c (.int .i64 1)))), mvt 7 36]) (.block 2 (.loop (.seq (.seq (.reg [mvt 37 7, rg 38 (.p true (.bin .geq (.t 37) (.c (.int .i64 0))))]) (.cond (.t 38) .skip (.exit 2))) (.seq (.block 3 (.reg [mvt 41 6, mvt 42 3, mvt 43 7, rg 44 (.p true (.iad (.t 42) (.t 43) 1)), rg 45 (.p true (.ld (.t 44) 1 false)), rg 46 (.f (.bsl 1 [(.t 45)])), rg 47 (.f (.app (.t 41) (.t 46) 1 1 true)), mvt 6 47])) (.reg [mvt 39 7, rg 40 (.p true (.bin .sub (.t 39) (.c (.int .i64 1)))), mvt 7 40])))))) (.seq (.reg [mvt 48 6, rg 49 (.p true (.bts (.t 48))), mvt 2 49]) .ret))))))))
theorem c34_is : compFn Tryd.prog 34 = some (c34, [(.tmp 2)]) := by kernel_rfl
theorem c34_ok : okFn Tryd.prog 34 = true := by kernel_rfl

noncomputable def F_spec_l01Dec_j1 (v50004 : Int) (v50005 : List Int) (k0 : Int × (List Int) → Option (List UInt8)) (v50006 : Int) : Option (List UInt8) :=
 (need (room (v50005.length + [IntKind.wrap .u8 (w64 (48 + v50006))].length) 1) (k0 (w64 (Int.tdiv v50004 10), v50005 ++ [IntKind.wrap .u8 (w64 (48 + v50006))])))
noncomputable def F_spec_l01Dec_l3 (v50007 : List Int) (k1 : Int × (List Int) → Option (List UInt8)) : Int × (List Int) → Option (List UInt8)
 | (v50010, v50011) => (bif (decide ((0 : Int) ≤ v50010)) then ((ix v50007 v50010).bind fun v1002 => (need (room (v50011.length + [v1002].length) 1) (k1 (w64 (v50010 - 1), v50011 ++ [v1002]))))
 else some (bytesI v50011))
noncomputable def F_spec_l01Dec_j2 (v50007 : List Int) : Option (List UInt8) :=
 loop (F_spec_l01Dec_l3 v50007) (w64 ((v50007.length : Int) - 1), [])
noncomputable def F_spec_l01Dec_l0 (v0 : Int) (k0 : Int × (List Int) → Option (List UInt8)) : Int × (List Int) → Option (List UInt8)
 | (v50004, v50005) => (bif (decide (v50004 ≠ (0 : Int))) then (bif (decide (Int.tmod v50004 10 < (0 : Int))) then F_spec_l01Dec_j1 v50004 v50005 k0 (w64 (0 - (Int.tmod v50004 10)))
 else F_spec_l01Dec_j1 v50004 v50005 k0 (Int.tmod v50004 10))
 else (bif (decide (v0 < (0 : Int))) then (need (room (v50005.length + [(45 : Int)].length) 1) (F_spec_l01Dec_j2 (v50005 ++ [(45 : Int)])))
 else F_spec_l01Dec_j2 v50005))
noncomputable def F_spec_l01Dec (v0 : Int) : Option (List UInt8) :=
 (bif (decide (v0 = (0 : Int))) then some [48]
 else loop (F_spec_l01Dec_l0 v0) (v0, []))
@[simp] def res_spec_l01Dec (r : List UInt8) : RV := .one (.one (.val (.str r)))
theorem con_spec_l01Dec {v0 : Int} {r : List UInt8} (hF : F_spec_l01Dec v0 = some r) : Con Tryd.prog 34 [.int .i64 v0] (res_spec_l01Dec r) := by
 unfold F_spec_l01Dec at hF
 refine con_of c34_is fun N => ?_
 refine ws 0 64 ?_
 refine qp (AS []) rfl ?_
 refine r_nil ?_
 refine w_seq ?_
 refine ws 64 192 ?_
 refine qp (AI v0) rfl (qp (AB (decide (v0 = (0 : Int)))) rfl ?_)
 refine r_nil ?_
 refine cF hF (fun hF => ?_) fun hF => ?_
 ·
  refine ws 192 256 ?_
  refine qp (AS [48]) rfl ?_
  refine r_nil ?_
  refine w_ret ?_
  refine thenQ_r ?_
  cases hF
  exact eR
 ·
  refine w_skip ?_
  refine thenQ_n ?_
  refine ws 192 320 ?_
  refine qf (.sl 192 0 0) [(192, .row true 1 (([] : List Int).map (V.int .u8)))] (by simp [List.take_of_length_le]) ?_
  refine qp (.sl 192 0 0) rfl ?_
  refine r_nil ?_
  refine w_seq ?_
  refine ws 320 448 ?_
  refine qp (AI v0) rfl (qp (AI v0) rfl ?_)
  refine r_nil ?_
  refine w_block ?_
  refine wr (l' := [(0, AI v0), (3, .sl 0 0 0), (4, AI v0)]) (L := [(0, .row true 1 (([] : List Int).map (V.int .u8)))]) [0, 3, 4] [(192, 0)] 1 ?_
  refine w_loopF (F_spec_l01Dec_l0 v0) (fun s : Int × (List Int) => mkS [(0, AI v0), (3, .sl 0 0 s.2.length), (4, AI s.1)] (fo [(0, .row true 1 (s.2.map (V.int .u8)))]) 1) hF ?_
  rintro k0 ⟨v50004, v50005⟩ hF
  rw [F_spec_l01Dec_l0] at hF
  try dsimp only
  refine w_seq ?_
  refine ws 1 129 ?_
  refine qp (AI v50004) rfl (qp (AB (decide (v50004 ≠ (0 : Int)))) rfl ?_)
  refine r_nil ?_
  refine cF hF (fun hF => ?_) fun hF => ?_
  ·
   refine w_skip ?_
   refine thenQ_n ?_
   refine w_seq ?_
   refine w_block ?_
   refine ws 129 321 ?_
   refine qp (AI v50004) rfl (qp (AI (Int.tmod v50004 10)) (ev_rem rfl rfl (by decide)) (qp (AI (Int.tmod v50004 10)) rfl ?_))
   refine r_nil ?_
   refine w_meet (fun s' => ∃ (v50006 : Int), s' = mkS [(0, AI v0), (3, .sl 0 0 v50005.length), (4, AI v50004), (5, AI v50006)] (fo [(0, .row true 1 (v50005.map (V.int .u8)))]) 1 ∧ F_spec_l01Dec_j1 v50004 v50005 k0 v50006 = some r) ?_ ?_
   ·
    refine ws 321 449 ?_
    refine qp (AI (Int.tmod v50004 10)) rfl (qp (AB (decide (Int.tmod v50004 10 < (0 : Int)))) rfl ?_)
    refine r_nil ?_
    refine cF hF (fun hF => ?_) fun hF => ?_
    ·
     refine w_reg 449 641 rfl rfl ?_
     refine qp (AI (Int.tmod v50004 10)) rfl (qp (AI (w64 (0 - (Int.tmod v50004 10)))) rfl (qp (AI (w64 (0 - (Int.tmod v50004 10)))) rfl ?_))
     refine r_nil ?_
     refine thenQ_n ?_
     refine aw_ren (l' := [(0, AI v0), (3, .sl 0 0 v50005.length), (4, AI v50004), (5, AI (w64 (0 - (Int.tmod v50004 10))))]) (L := [(0, .row true 1 (v50005.map (V.int .u8)))]) [0, 3, 4, 5] [(0, 0)] 1 (by first | rfl | simp) (by first | rfl | simp) (by decide) (by decide) (by decide) ⟨_, rfl, hF⟩
    ·
     refine w_skip ?_
     refine thenQ_n ?_
     refine aw_ren (l' := [(0, AI v0), (3, .sl 0 0 v50005.length), (4, AI v50004), (5, AI (Int.tmod v50004 10))]) (L := [(0, .row true 1 (v50005.map (V.int .u8)))]) [0, 3, 4, 5] [(0, 0)] 1 (by first | rfl | simp) (by first | rfl | simp) (by decide) (by decide) (by decide) ⟨_, rfl, hF⟩
   ·
    rintro s' ⟨v50006, rfl, hF⟩
    unfold F_spec_l01Dec_j1 at hF
    refine w_reg 1 449 rfl rfl ?_
    refine qp (.sl 0 0 v50005.length) rfl (qp (AI v50006) rfl (qp (AI (w64 (48 + v50006))) rfl (qp (.val none (.int .u8 (IntKind.wrap .u8 (w64 (48 + v50006))))) rfl ?_)))
    refine qf (.sl 257 0 ([IntKind.wrap .u8 (w64 (48 + v50006))].length)) [(257, .row true 1 ([IntKind.wrap .u8 (w64 (48 + v50006))].map (V.int .u8))), (0, .row true 1 (v50005.map (V.int .u8)))] (by simp [List.take_of_length_le]) ?_
    obtain ⟨g1000, hF⟩ := need_some hF
    refine qf (.sl 321 0 ((v50005 ++ [IntKind.wrap .u8 (w64 (48 + v50006))]).length)) [(321, .row true 1 ((v50005 ++ [IntKind.wrap .u8 (w64 (48 + v50006))]).map (V.int .u8))), (0, .dead), (257, .dead), (257, .row true 1 ([IntKind.wrap .u8 (w64 (48 + v50006))].map (V.int .u8))), (0, .row true 1 (v50005.map (V.int .u8)))] (effT_app_l rfl (by simp) rfl rfl (by simp) rfl (by decide) g1000 rfl) ?_
    refine qp (.sl 321 0 ((v50005 ++ [IntKind.wrap .u8 (w64 (48 + v50006))]).length)) rfl ?_
    refine r_nil ?_
    refine blockQ_n ?_
    refine thenQ_n ?_
    refine w_reg 449 641 rfl rfl ?_
    refine qp (AI v50004) rfl (qp (AI (w64 (Int.tdiv v50004 10))) (ev_quo rfl rfl (by decide)) (qp (AI (w64 (Int.tdiv v50004 10))) rfl ?_))
    refine r_nil ?_
    refine thenQ_n ?_
    refine ar (l' := [(0, AI v0), (3, .sl 0 0 (v50005 ++ [IntKind.wrap .u8 (w64 (48 + v50006))]).length), (4, AI (w64 (Int.tdiv v50004 10)))]) (L := [(0, .row true 1 ((v50005 ++ [IntKind.wrap .u8 (w64 (48 + v50006))]).map (V.int .u8)))]) [0, 3, 4] [(321, 0)] 1 ⟨_, by rfl, hF⟩
  ·
   refine w_exit ?_
   refine thenQ_e ?_
   refine thenQ_e ?_
   refine blockQ_e ?_
   refine thenQ_n ?_
   refine w_meet (fun s' => ∃ (v50007 : List Int), s' = mkS [(3, .sl 0 0 v50007.length)] (fo [(0, .row true 1 (v50007.map (V.int .u8)))]) 1 ∧ F_spec_l01Dec_j2 v50007 = some r) ?_ ?_
   ·
    refine ws 129 257 ?_
    refine qp (AI v0) rfl (qp (AB (decide (v0 < (0 : Int)))) rfl ?_)
    refine r_nil ?_
    refine cF hF (fun hF => ?_) fun hF => ?_
    ·
     refine w_reg 257 513 rfl rfl ?_
     refine qp (.sl 0 0 v50005.length) rfl ?_
     refine qf (.sl 321 0 ([(45 : Int)].length)) [(321, .row true 1 ([(45 : Int)].map (V.int .u8))), (0, .row true 1 (v50005.map (V.int .u8)))] (by simp [List.take_of_length_le]) ?_
     obtain ⟨g1001, hF⟩ := need_some hF
     refine qf (.sl 385 0 ((v50005 ++ [(45 : Int)]).length)) [(385, .row true 1 ((v50005 ++ [(45 : Int)]).map (V.int .u8))), (0, .dead), (321, .dead), (321, .row true 1 ([(45 : Int)].map (V.int .u8))), (0, .row true 1 (v50005.map (V.int .u8)))] (effT_app_l rfl (by simp) rfl rfl (by simp) rfl (by decide) g1001 rfl) ?_
     refine qp (.sl 385 0 ((v50005 ++ [(45 : Int)]).length)) rfl ?_
     refine r_nil ?_
     refine thenQ_n ?_
     refine aw_ren (l' := [(3, .sl 0 0 (v50005 ++ [(45 : Int)]).length)]) (L := [(0, .row true 1 ((v50005 ++ [(45 : Int)]).map (V.int .u8)))]) [3] [(385, 0)] 1 (by first | rfl | simp) (by first | rfl | simp) (by decide) (by decide) (by decide) ⟨_, rfl, hF⟩
    ·
     refine w_skip ?_
     refine thenQ_n ?_
     refine aw_ren (l' := [(3, .sl 0 0 v50005.length)]) (L := [(0, .row true 1 (v50005.map (V.int .u8)))]) [3] [(0, 0)] 1 (by first | rfl | simp) (by first | rfl | simp) (by decide) (by decide) (by decide) ⟨_, rfl, hF⟩
   ·
    rintro s' ⟨v50007, rfl, hF⟩
    unfold F_spec_l01Dec_j2 at hF
    refine ws 1 129 ?_
    refine qf (.sl 1 0 0) [(1, .row true 1 (([] : List Int).map (V.int .u8))), (0, .row true 1 (v50007.map (V.int .u8)))] (by simp [List.take_of_length_le]) ?_
    refine qp (.sl 1 0 0) rfl ?_
    refine r_nil ?_
    refine w_seq ?_
    refine ws 129 385 ?_
    refine qp (.sl 0 0 v50007.length) rfl (qp (AI (v50007.length : Int)) rfl (qp (AI (w64 ((v50007.length : Int) - 1))) rfl (qp (AI (w64 ((v50007.length : Int) - 1))) rfl ?_)))
    refine r_nil ?_
    refine w_block ?_
    refine wr (l' := [(3, .sl 0 0 v50007.length), (6, .sl 1 0 0), (7, AI (w64 ((v50007.length : Int) - 1)))]) (L := [(1, .row true 1 (([] : List Int).map (V.int .u8))), (0, .row true 1 (v50007.map (V.int .u8)))]) [3, 6, 7] [(1, 1), (0, 0)] 2 ?_
    refine w_loopF (F_spec_l01Dec_l3 v50007) (fun s : Int × (List Int) => mkS [(3, .sl 0 0 v50007.length), (6, .sl 1 0 s.2.length), (7, AI s.1)] (fo [(1, .row true 1 (s.2.map (V.int .u8))), (0, .row true 1 (v50007.map (V.int .u8)))]) 2) hF ?_
    rintro k1 ⟨v50010, v50011⟩ hF
    rw [F_spec_l01Dec_l3] at hF
    try dsimp only
    refine w_seq ?_
    refine ws 2 130 ?_
    refine qp (AI v50010) rfl (qp (AB (decide ((0 : Int) ≤ v50010))) rfl ?_)
    refine r_nil ?_
    refine cF hF (fun hF => ?_) fun hF => ?_
    ·
     refine w_skip ?_
     refine thenQ_n ?_
     refine w_seq ?_
     refine w_block ?_
     refine w_reg 130 642 rfl rfl ?_
     refine qp (.sl 1 0 v50011.length) rfl (qp (.sl 0 0 v50007.length) rfl (qp (AI v50010) rfl ?_))
     obtain ⟨v1002, e1002, hF⟩ := bind_get hF
     refine qp (.ptr 0 v50010.toNat 0) (ev_iad_r rfl (by simp) rfl rfl e1002) (qp (.val none (.int .u8 v1002)) (ev_ld_r rfl rfl (ix_some e1002).2 rfl rfl) ?_)
     refine qf (.sl 450 0 ([v1002].length)) [(450, .row true 1 ([v1002].map (V.int .u8))), (1, .row true 1 (v50011.map (V.int .u8))), (0, .row true 1 (v50007.map (V.int .u8)))] (by simp [List.take_of_length_le]) ?_
     obtain ⟨g1003, hF⟩ := need_some hF
     refine qf (.sl 514 0 ((v50011 ++ [v1002]).length)) [(514, .row true 1 ((v50011 ++ [v1002]).map (V.int .u8))), (1, .dead), (450, .dead), (450, .row true 1 ([v1002].map (V.int .u8))), (1, .row true 1 (v50011.map (V.int .u8))), (0, .row true 1 (v50007.map (V.int .u8)))] (effT_app_l rfl (by simp) rfl rfl (by simp) rfl (by decide) g1003 rfl) ?_
     refine qp (.sl 514 0 ((v50011 ++ [v1002]).length)) rfl ?_
     refine r_nil ?_
     refine blockQ_n ?_
     refine thenQ_n ?_
     refine w_reg 642 834 rfl rfl ?_
     refine qp (AI v50010) rfl (qp (AI (w64 (v50010 - 1))) rfl (qp (AI (w64 (v50010 - 1))) rfl ?_))
     refine r_nil ?_
     refine thenQ_n ?_
     refine ar (l' := [(3, .sl 0 0 v50007.length), (6, .sl 1 0 (v50011 ++ [v1002]).length), (7, AI (w64 (v50010 - 1)))]) (L := [(1, .row true 1 ((v50011 ++ [v1002]).map (V.int .u8))), (0, .row true 1 (v50007.map (V.int .u8)))]) [3, 6, 7] [(514, 1), (0, 0)] 2 ⟨_, by rfl, hF⟩
    ·
     refine w_exit ?_
     refine thenQ_e ?_
     refine thenQ_e ?_
     refine blockQ_e ?_
     refine thenQ_n ?_
     refine ws 130 322 ?_
     refine qp (.sl 1 0 v50011.length) rfl (qp (AS (bytesI v50011)) (ev_bts_r rfl (by simp) rfl) (qp (AS (bytesI v50011)) rfl ?_))
     refine r_nil ?_
     refine w_ret ?_
     cases hF
     exact eR

def c16 : MC := (.seq (.reg [rg 2 (.p true (.mv (.c (.str []))))]) (.seq (.reg [rg 3 (.p true (.mv (.c (.str []))))]) (.seq (.seq (.reg [rg 4 (.p true (.mv (.c (.int .i64 0))))]) (.block 0 (.loop (.seq (.seq (.reg [mvt 6 4, mvt 7 0, rg 8 (.p true (.len (.t 7))), rg 9 (.p true (.bin .lss (.t 6) (.t 8)))]) (.cond (.t 9) .skip (.exit 0))) (.seq (.block 1 (.seq (.seq (.reg [mvt 12 4, rg 13 (.p true (.bin .gtr (.t 12) (.c (.int .i64 0))))]) (.cond (.t 13) (.reg [mvt 14 3, rg 15 (.p true (.bin .add (.t 14) (.c (.str [47])))), mvt 3 15]) .skip)) (.seq (.reg [rg 16 (.p false (.mv (.t 3))), rg 17 (.p false (.mv (.t 0))), rg 18 (.p false (.mv (.t 4))), rg 19 (.p false (.iad (.t 17) (.t 18) 3)), rg 20 (.p false (.fad (.t 19) 0)), rg 21 (.p false (.ld (.t 20) 1 false)), rg 22 (.p false (.bin .add (.t 21) (.c (.str [32])))), rg 23 (.p false (.mv (.t 0))), rg 24 (.p false (.mv (.t 4))), rg 25 (.p false (.iad (.t 23) (.t 24) 3)), rg 26 (.p false (.fad (.t 25) 1)), rg 27 (.p false (.ld (.t 26) 1 false)), rg 28 (.call false 34 [(.t 27)]), rg 29 (.p false (.bin .add (.t 22) (.t 28))), rg 30 (.p false (.bin .add (.t 16) (.t 29))), rg 3 (.p false (.mv (.t 30)))]) (.seq (.reg [rg 5 (.p true (.mv (.c (.int .i64 0))))]) (.block 2 (.loop (.seq (.seq (.reg [mvt 31 5, mvt 32 0, mvt 33 4, rg 34 (.p true (.iad (.t 32) (.t 33) 3)), rg 35 (.p true (.fad (.t 34) 2)), rg 36 (.p true (.ld (.t 35) 1 false)), rg 37 (.p true (.len (.t 36))), rg 38 (.p true (.bin .lss (.t 31) (.t 37)))]) (.cond (.t 38) .skip (.exit 2))) (.seq (.block 3 (.reg [mvt 41 3, mvt 42 0, mvt 43 4, rg 44 (.p true (.iad (.t 42) (.t 43) 3)), rg 45 (.p true (.fad (.t 44) 2)), rg 46 (.p true (.ld (.t 45) 1 false)), mvt 47 5, rg 48 (.p true (.iad (.t 46) (.t 47) 1)), rg 49 (.p true (.ld (.t 48) 1 false)), rg 50 (.p true (.bin .add (.c (.str [32])) (.t 49))), rg 51 (.p true (.bin .add (.t 41) (.t 50))), mvt 3 51])) (.reg [mvt 39 5, rg 40 (.p true (.bin .add (.t 39) (.c (.int .i64 1)))), mvt 5 40]))))))))) (.reg [mvt 10 4, rg 11 (.p true (.bin .add (.t 10) (.c (.int .i64 1)))), mvt 4 11])))))) (.seq (.reg [mvt 52 3, mvt 2 52]) .ret))))
theorem c16_is : compFn Tryd.prog 16 = some (c16, [(.tmp 2)]) := by kernel_rfl
theorem c16_ok : okFn Tryd.prog 16 = true := by kernel_rfl

noncomputable def F_spec_l30Text_l2 (v0 : List TPerson) (v50021 : Int) (k4 : (List UInt8) × Int → Option (List UInt8)) (k7 : (List UInt8) × Int → Option (List UInt8)) : (List UInt8) × Int → Option (List UInt8)
 | (v50033, v50034) => ((ix v0 v50021).bind fun v1017 => (bif (decide (v50034 < (v1017.2.2.length : Int))) then ((ix v0 v50021).bind fun v1018 => ((ix v1018.2.2 v50034).bind fun v1019 => (need ([32].length + v1019.length < 9223372036854775808) ((need (v50033.length + ([32] ++ v1019).length < 9223372036854775808) (k7 (v50033 ++ ([32] ++ v1019), w64 (v50034 + 1))))))))
 else k4 (v50033, w64 (v50021 + 1))))
noncomputable def F_spec_l30Text_j1 (v0 : List TPerson) (v50021 : Int) (k4 : (List UInt8) × Int → Option (List UInt8)) (v50022 : List UInt8) : Option (List UInt8) :=
 ((ix v0 v50021).bind fun v1001 => (need (v1001.1.length + [32].length < 9223372036854775808) (((ix v0 v50021).bind fun v1003 => ((F_spec_l01Dec v1003.2.1).bind fun v1004 => (need ((v1001.1 ++ [32]).length + v1004.length < 9223372036854775808) ((need (v50022.length + ((v1001.1 ++ [32]) ++ v1004).length < 9223372036854775808) (loop (F_spec_l30Text_l2 v0 v50021 k4) (v50022 ++ ((v1001.1 ++ [32]) ++ v1004), 0))))))))))
noncomputable def F_spec_l30Text_l0 (v0 : List TPerson) (k4 : (List UInt8) × Int → Option (List UInt8)) : (List UInt8) × Int → Option (List UInt8)
 | (v50020, v50021) => (bif (decide (v50021 < (v0.length : Int))) then (bif (decide ((0 : Int) < v50021)) then (need (v50020.length + [47].length < 9223372036854775808) (F_spec_l30Text_j1 v0 v50021 k4 (v50020 ++ [47])))
 else F_spec_l30Text_j1 v0 v50021 k4 v50020)
 else some v50020)
noncomputable def F_spec_l30Text (v0 : List TPerson) : Option (List UInt8) :=
 loop (F_spec_l30Text_l0 v0) ([], 0)
@[simp] def res_spec_l30Text (r : List UInt8) : RV := .one (.one (.val (.str r)))
theorem con_spec_l30Text {v0 : List TPerson} {r : List UInt8} (hF : F_spec_l30Text v0 = some r) : Con Tryd.prog 16 [.sl 3 (v0.map ePerson)] (res_spec_l30Text r) := by
 unfold F_spec_l30Text at hF
 refine con_of c16_is fun N => ?_
 refine ws 0 64 ?_
 refine qp (AS []) rfl ?_
 refine r_nil ?_
 refine ws 64 128 ?_
 refine qp (AS []) rfl ?_
 refine r_nil ?_
 refine w_seq ?_
 refine ws 128 192 ?_
 refine qp (AI 0) rfl ?_
 refine r_nil ?_
 refine w_block ?_
 refine wr (l' := [(0, AL 3 (v0.map ePerson)), (3, AS ([] : List UInt8)), (4, AI 0)]) (L := []) [0, 3, 4] [] 1 ?_
 refine w_loopF (F_spec_l30Text_l0 v0) (fun s : (List UInt8) × Int => mkS [(0, AL 3 (v0.map ePerson)), (3, AS s.1), (4, AI s.2)] (fo []) 1) hF ?_
 rintro k4 ⟨v50020, v50021⟩ hF
 rw [F_spec_l30Text_l0] at hF
 try dsimp only
 refine w_seq ?_
 refine ws 1 257 ?_
 refine qp (AI v50021) rfl (qp (AL 3 (v0.map ePerson)) rfl (qp (AI (v0.length : Int)) (ev_len_n rfl) (qp (AB (decide (v50021 < (v0.length : Int)))) rfl ?_)))
 refine r_nil ?_
 refine cF hF (fun hF => ?_) fun hF => ?_
 ·
  refine w_skip ?_
  refine thenQ_n ?_
  refine w_seq ?_
  refine w_block ?_
  refine w_meet (fun s' => ∃ (v50022 : List UInt8), s' = mkS [(0, AL 3 (v0.map ePerson)), (3, AS v50022), (4, AI v50021)] (fo []) 1 ∧ F_spec_l30Text_j1 v0 v50021 k4 v50022 = some r) ?_ ?_
  ·
   refine ws 257 385 ?_
   refine qp (AI v50021) rfl (qp (AB (decide ((0 : Int) < v50021))) rfl ?_)
   refine r_nil ?_
   refine cF hF (fun hF => ?_) fun hF => ?_
   ·
    refine w_reg 385 577 rfl rfl ?_
    refine qp (AS v50020) rfl ?_
    obtain ⟨g1000, hF⟩ := need_some hF
    refine qp (AS (v50020 ++ [47])) (ev_add_s rfl rfl g1000) (qp (AS (v50020 ++ [47])) rfl ?_)
    refine r_nil ?_
    refine thenQ_n ?_
    refine aw_ren (l' := [(0, AL 3 (v0.map ePerson)), (3, AS (v50020 ++ [47])), (4, AI v50021)]) (L := []) [0, 3, 4] [] 1 (by first | rfl | simp) (by first | rfl | simp) (by decide) (by decide) (by decide) ⟨_, rfl, hF⟩
   ·
    refine w_skip ?_
    refine thenQ_n ?_
    refine aw_ren (l' := [(0, AL 3 (v0.map ePerson)), (3, AS v50020), (4, AI v50021)]) (L := []) [0, 3, 4] [] 1 (by first | rfl | simp) (by first | rfl | simp) (by decide) (by decide) (by decide) ⟨_, rfl, hF⟩
  ·
   rintro s' ⟨v50022, rfl, hF⟩
   unfold F_spec_l30Text_j1 at hF
   refine ws 1 1025 ?_
   refine qp (AS v50022) rfl (qp (AL 3 (v0.map ePerson)) rfl (qp (AI v50021) rfl ?_))
   obtain ⟨v1001, e1001, hF⟩ := bind_get hF
   refine qp (.val none (.ptr [.str v1001.1, .int .i64 v1001.2.1, .sl 1 (v1001.2.2.map V.str)])) (ev_iad_n rfl rfl e1001 rfl) (qp (.val none (.ptr [.str v1001.1, .int .i64 v1001.2.1, .sl 1 (v1001.2.2.map V.str)])) rfl (qp (AS v1001.1) rfl ?_))
   obtain ⟨g1002, hF⟩ := need_some hF
   refine qp (AS (v1001.1 ++ [32])) (ev_add_s rfl rfl g1002) (qp (AL 3 (v0.map ePerson)) rfl (qp (AI v50021) rfl ?_))
   obtain ⟨v1003, e1003, hF⟩ := bind_get hF
   refine qp (.val none (.ptr [.str v1003.1, .int .i64 v1003.2.1, .sl 1 (v1003.2.2.map V.str)])) (ev_iad_n rfl rfl e1003 rfl) (qp (.val none (.ptr [.int .i64 v1003.2.1, .sl 1 (v1003.2.2.map V.str)])) rfl (qp (AI v1003.2.1) rfl ?_))
   obtain ⟨v1004, e1004, hF⟩ := bind_get hF
   refine qc (AS v1004) [] false (con_spec_l01Dec e1004) c34_ok (by first | rfl | simp) rfl ?_
   obtain ⟨g1005, hF⟩ := need_some hF
   refine qp (AS ((v1001.1 ++ [32]) ++ v1004)) (ev_add_s rfl rfl g1005) ?_
   obtain ⟨g1006, hF⟩ := need_some hF
   refine qp (AS (v50022 ++ ((v1001.1 ++ [32]) ++ v1004))) (ev_add_s rfl rfl g1006) (qp (AS (v50022 ++ ((v1001.1 ++ [32]) ++ v1004))) rfl ?_)
   refine r_nil ?_
   refine ws 1025 1089 ?_
   refine qp (AI 0) rfl ?_
   refine r_nil ?_
   refine w_block ?_
   refine wr (l' := [(0, AL 3 (v0.map ePerson)), (3, AS (v50022 ++ ((v1001.1 ++ [32]) ++ v1004))), (4, AI v50021), (5, AI 0)]) (L := []) [0, 3, 4, 5] [] 1 ?_
   refine w_loopF (F_spec_l30Text_l2 v0 v50021 k4) (fun s : (List UInt8) × Int => mkS [(0, AL 3 (v0.map ePerson)), (3, AS s.1), (4, AI v50021), (5, AI s.2)] (fo []) 1) hF ?_
   rintro k7 ⟨v50033, v50034⟩ hF
   rw [F_spec_l30Text_l2] at hF
   try dsimp only
   refine w_seq ?_
   refine ws 1 513 ?_
   refine qp (AI v50034) rfl (qp (AL 3 (v0.map ePerson)) rfl (qp (AI v50021) rfl ?_))
   obtain ⟨v1017, e1017, hF⟩ := bind_get hF
   refine qp (.val none (.ptr [.str v1017.1, .int .i64 v1017.2.1, .sl 1 (v1017.2.2.map V.str)])) (ev_iad_n rfl rfl e1017 rfl) (qp (.val none (.ptr [.sl 1 (v1017.2.2.map V.str)])) rfl (qp (AL 1 (v1017.2.2.map V.str)) rfl (qp (AI (v1017.2.2.length : Int)) (ev_len_n rfl) (qp (AB (decide (v50034 < (v1017.2.2.length : Int)))) rfl ?_))))
   refine r_nil ?_
   refine cF hF (fun hF => ?_) fun hF => ?_
   ·
    refine w_skip ?_
    refine thenQ_n ?_
    refine w_seq ?_
    refine w_block ?_
    refine w_reg 513 1281 rfl rfl ?_
    refine qp (AS v50033) rfl (qp (AL 3 (v0.map ePerson)) rfl (qp (AI v50021) rfl ?_))
    obtain ⟨v1018, e1018, hF⟩ := bind_get hF
    refine qp (.val none (.ptr [.str v1018.1, .int .i64 v1018.2.1, .sl 1 (v1018.2.2.map V.str)])) (ev_iad_n rfl rfl e1018 rfl) (qp (.val none (.ptr [.sl 1 (v1018.2.2.map V.str)])) rfl (qp (AL 1 (v1018.2.2.map V.str)) rfl (qp (AI v50034) rfl ?_)))
    obtain ⟨v1019, e1019, hF⟩ := bind_get hF
    refine qp (.val none (.ptr [.str v1019])) (ev_iad_n rfl rfl e1019 rfl) (qp (AS v1019) rfl ?_)
    obtain ⟨g1020, hF⟩ := need_some hF
    refine qp (AS ([32] ++ v1019)) (ev_add_s rfl rfl g1020) ?_
    obtain ⟨g1021, hF⟩ := need_some hF
    refine qp (AS (v50033 ++ ([32] ++ v1019))) (ev_add_s rfl rfl g1021) (qp (AS (v50033 ++ ([32] ++ v1019))) rfl ?_)
    refine r_nil ?_
    refine blockQ_n ?_
    refine thenQ_n ?_
    refine w_reg 1281 1473 rfl rfl ?_
    refine qp (AI v50034) rfl (qp (AI (w64 (v50034 + 1))) rfl (qp (AI (w64 (v50034 + 1))) rfl ?_))
    refine r_nil ?_
    refine thenQ_n ?_
    refine ar (l' := [(0, AL 3 (v0.map ePerson)), (3, AS (v50033 ++ ([32] ++ v1019))), (4, AI v50021), (5, AI (w64 (v50034 + 1)))]) (L := []) [0, 3, 4, 5] [] 1 ⟨_, by rfl, hF⟩
   ·
    refine w_exit ?_
    refine thenQ_e ?_
    refine thenQ_e ?_
    refine blockQ_e ?_
    refine blockQ_n ?_
    refine thenQ_n ?_
    refine w_reg 513 705 rfl rfl ?_
    refine qp (AI v50021) rfl (qp (AI (w64 (v50021 + 1))) rfl (qp (AI (w64 (v50021 + 1))) rfl ?_))
    refine r_nil ?_
    refine thenQ_n ?_
    refine ar (l' := [(0, AL 3 (v0.map ePerson)), (3, AS v50033), (4, AI (w64 (v50021 + 1)))]) (L := []) [0, 3, 4] [] 1 ⟨_, by rfl, hF⟩
 ·
  refine w_exit ?_
  refine thenQ_e ?_
  refine thenQ_e ?_
  refine blockQ_e ?_
  refine thenQ_n ?_
  refine ws 257 385 ?_
  refine qp (AS v50020) rfl (qp (AS v50020) rfl ?_)
  refine r_nil ?_
  refine w_ret ?_
  cases hF
  exact eR

def c6 : MC := (.seq (.reg [rg 2 (.p true (.mv (.c (.str []))))]) (.seq (.seq (.reg [mvt 3 0, rg 4 (.call true 15 [(.t 3)]), rg 5 (.p true (.not (.t 4)))]) (.cond (.t 5) (.seq (.reg [rg 2 (.p true (.mv (.c (.str []))))]) .ret) .skip)) (.seq (.reg [mvt 6 0, rg 7 (.call true 16 [(.t 6)]), mvt 2 7]) .ret)))
theorem c6_is : compFn Tryd.prog 6 = some (c6, [(.tmp 2)]) := by kernel_rfl
theorem c6_ok : okFn Tryd.prog 6 = true := by kernel_rfl

noncomputable def F_spec_PersonsText (v0 : List TPerson) : Option (List UInt8) :=
 ((F_spec_l30Ok v0).bind fun v1000 => (bif (!v1000) then some []
 else ((F_spec_l30Text v0).bind fun v1001 => some v1001)))
@[simp] def res_spec_PersonsText (r : List UInt8) : RV := .one (.one (.val (.str r)))
theorem con_spec_PersonsText {v0 : List TPerson} {r : List UInt8} (hF : F_spec_PersonsText v0 = some r) : Con Tryd.prog 6 [.sl 3 (v0.map ePerson)] (res_spec_PersonsText r) := by
 unfold F_spec_PersonsText at hF
 refine con_of c6_is fun N => ?_
 refine ws 0 64 ?_
 refine qp (AS []) rfl ?_
 refine r_nil ?_
 refine w_seq ?_
 refine ws 64 256 ?_
 refine qp (AL 3 (v0.map ePerson)) rfl ?_
 obtain ⟨v1000, e1000, hF⟩ := bind_get hF
 refine qc (AB v1000) [] false (con_spec_l30Ok e1000) c15_ok (by first | rfl | simp) rfl ?_
 refine qp (AB (!v1000)) rfl ?_
 refine r_nil ?_
 refine cF hF (fun hF => ?_) fun hF => ?_
 ·
  refine ws 256 320 ?_
  refine qp (AS []) rfl ?_
  refine r_nil ?_
  refine w_ret ?_
  refine thenQ_r ?_
  cases hF
  exact eR
 ·
  refine w_skip ?_
  refine thenQ_n ?_
  refine ws 256 448 ?_
  refine qp (AL 3 (v0.map ePerson)) rfl ?_
  obtain ⟨v1001, e1001, hF⟩ := bind_get hF
  refine qc (AS v1001) [] false (con_spec_l30Text e1001) c16_ok (by first | rfl | simp) rfl ?_
  refine qp (AS v1001) rfl ?_
  refine r_nil ?_
  refine w_ret ?_
  cases hF
  exact eR

def c51 : MC := (.seq (.reg [rg 2 (.p true (.mv (.c (.bool false))))]) (.seq (.seq (.reg [mvt 5 0, rg 6 (.p true (.lens (.t 5))), rg 7 (.p true (.mv (.c (.int .i64 0))))]) (.block 0 (.loop (.seq (.reg [rg 8 (.p true (.bin .lss (.t 7) (.t 6)))]) (.seq (.cond (.t 8) .skip (.exit 0)) (.seq (.block 1 (.seq (.reg [mvt 9 7, mvt 3 9]) (.seq (.reg [mvt 10 0, mvt 11 3, rg 12 (.p true (.ixs (.t 10) (.t 11))), mvt 4 12]) (.seq (.reg [mvt 13 4, rg 14 (.p true (.bin .lss (.t 13) (.c (.int .u8 97)))), mvt 15 14, ⟨(some 16), (some (15, false)), (.p true (.mv (.t 4)))⟩, ⟨(some 17), (some (15, false)), (.p true (.bin .gtr (.t 16) (.c (.int .u8 122))))⟩, rg 18 (.p true (.pick (.t 15) (.c (.bool true)) (.t 17))), mvt 19 18, ⟨(some 20), (some (19, true)), (.p true (.mv (.t 4)))⟩, ⟨(some 21), (some (19, true)), (.p true (.bin .lss (.t 20) (.c (.int .u8 48))))⟩, ⟨(some 22), (some (19, true)), (.p true (.mv (.t 21)))⟩, ⟨(some 23), (some (22, false)), (.p true (.mv (.t 4)))⟩, ⟨(some 24), (some (22, false)), (.p true (.bin .gtr (.t 23) (.c (.int .u8 57))))⟩, ⟨(some 25), (some (19, true)), (.p true (.pick (.t 22) (.c (.bool true)) (.t 24)))⟩, rg 26 (.p true (.pick (.t 19) (.t 25) (.c (.bool false))))]) (.cond (.t 26) (.seq (.reg [rg 2 (.p true (.mv (.c (.bool false))))]) .ret) .skip))))) (.reg [rg 27 (.p true (.bin .add (.t 7) (.c (.int .i64 1)))), mvt 7 27]))))))) (.seq (.reg [rg 2 (.p true (.mv (.c (.bool true))))]) .ret)))
theorem c51_is : compFn Tryd.prog 51 = some (c51, [(.tmp 2)]) := by kernel_rfl
theorem c51_ok : okFn Tryd.prog 51 = true := by kernel_rfl

noncomputable def F_impl_onlyNameBytes_l0 (v0 : List UInt8) (k0 : Int → Option (Bool)) : Int → Option (Bool)
 | v50001 => (bif (decide (v50001 < (v0.length : Int))) then ((ix v0 v50001).bind fun v1000 => (bif (decide ((v1000.toNat : Int) < (97 : Int))) then (bif (decide ((v1000.toNat : Int) < (48 : Int))) then some false
 else (bif (decide ((57 : Int) < (v1000.toNat : Int))) then some false
 else k0 (w64 (v50001 + 1))))
 else (bif (decide ((122 : Int) < (v1000.toNat : Int))) then (bif (decide ((v1000.toNat : Int) < (48 : Int))) then some false
 else (bif (decide ((57 : Int) < (v1000.toNat : Int))) then some false
 else k0 (w64 (v50001 + 1))))
 else k0 (w64 (v50001 + 1)))))
 else some true)
noncomputable def F_impl_onlyNameBytes (v0 : List UInt8) : Option (Bool) :=
 loop (F_impl_onlyNameBytes_l0 v0) 0
@[simp] def res_impl_onlyNameBytes (r : Bool) : RV := .one (.one (.val (.bool r)))
theorem con_impl_onlyNameBytes {v0 : List UInt8} {r : Bool} (hF : F_impl_onlyNameBytes v0 = some r) : Con Tryd.prog 51 [.str v0] (res_impl_onlyNameBytes r) := by
 unfold F_impl_onlyNameBytes at hF
 refine con_of c51_is fun N => ?_
 refine ws 0 64 ?_
 refine qp (AB false) rfl ?_
 refine r_nil ?_
 refine w_seq ?_
 refine ws 64 256 ?_
 refine qp (AS v0) rfl (qp (AI (v0.length : Int)) rfl (qp (AI 0) rfl ?_))
 refine r_nil ?_
 refine w_block ?_
 refine wr (l' := [(0, AS v0), (6, AI (v0.length : Int)), (7, AI 0)]) (L := []) [0, 6, 7] [] 1 ?_
 refine w_loopF (F_impl_onlyNameBytes_l0 v0) (fun s : Int => mkS [(0, AS v0), (6, AI (v0.length : Int)), (7, AI s)] (fo []) 1) hF ?_
 rintro k0 v50001 hF
 rw [F_impl_onlyNameBytes_l0] at hF
 try dsimp only
 refine ws 1 65 ?_
 refine qp (AB (decide (v50001 < (v0.length : Int)))) rfl ?_
 refine r_nil ?_
 refine w_seq ?_
 refine cF hF (fun hF => ?_) fun hF => ?_
 ·
  refine w_skip ?_
  refine thenQ_n ?_
  refine w_seq ?_
  refine w_block ?_
  refine ws 65 193 ?_
  refine qp (AI v50001) rfl (qp (AI v50001) rfl ?_)
  refine r_nil ?_
  refine ws 193 449 ?_
  refine qp (AS v0) rfl (qp (AI v50001) rfl ?_)
  obtain ⟨v1000, e1000, hF⟩ := bind_get hF
  refine qp (.val none (.int .u8 (v1000.toNat : Int))) (ev_ixs rfl rfl e1000) (qp (.val none (.int .u8 (v1000.toNat : Int))) rfl ?_)
  refine r_nil ?_
  refine ws 449 1345 ?_
  refine qp (.val none (.int .u8 (v1000.toNat : Int))) rfl (qp (AB (decide ((v1000.toNat : Int) < (97 : Int)))) rfl (qp (AB (decide ((v1000.toNat : Int) < (97 : Int)))) rfl ?_))
  refine q_case 15 hF rfl (fun hF => ?_) (fun hF => ?_)
  ·
   refine qn rfl (qn rfl (qp (AB true) rfl (qp (AB true) rfl (qg (.val none (.int .u8 (v1000.toNat : Int))) rfl rfl (qg (AB (decide ((v1000.toNat : Int) < (48 : Int)))) rfl rfl (qg (AB (decide ((v1000.toNat : Int) < (48 : Int)))) rfl rfl ?_))))))
   refine q_case 22 hF rfl (fun hF => ?_) (fun hF => ?_)
   ·
    refine qn rfl (qn rfl (qg (AB true) rfl rfl (qp (AB true) rfl ?_)))
    refine r_nil ?_
    refine w_true rfl ?_
    refine ws 1345 1409 ?_
    refine qp (AB false) rfl ?_
    refine r_nil ?_
    refine w_ret ?_
    refine blockQ_r ?_
    refine thenQ_r ?_
    refine thenQ_r ?_
    refine blockQ_r ?_
    refine thenQ_r ?_
    cases hF
    exact eR
   ·
    refine qg (.val none (.int .u8 (v1000.toNat : Int))) rfl rfl (qg (AB (decide ((57 : Int) < (v1000.toNat : Int)))) rfl rfl (qg (AB (decide ((57 : Int) < (v1000.toNat : Int)))) rfl rfl (qp (AB (decide ((57 : Int) < (v1000.toNat : Int)))) rfl ?_)))
    refine r_nil ?_
    refine cF hF (fun hF => ?_) fun hF => ?_
    ·
     refine ws 1345 1409 ?_
     refine qp (AB false) rfl ?_
     refine r_nil ?_
     refine w_ret ?_
     refine blockQ_r ?_
     refine thenQ_r ?_
     refine thenQ_r ?_
     refine blockQ_r ?_
     refine thenQ_r ?_
     cases hF
     exact eR
    ·
     refine w_skip ?_
     refine blockQ_n ?_
     refine thenQ_n ?_
     refine w_reg 1345 1473 rfl rfl ?_
     refine qp (AI (w64 (v50001 + 1))) rfl (qp (AI (w64 (v50001 + 1))) rfl ?_)
     refine r_nil ?_
     refine thenQ_n ?_
     refine ar (l' := [(0, AS v0), (6, AI (v0.length : Int)), (7, AI (w64 (v50001 + 1)))]) (L := []) [0, 6, 7] [] 1 ⟨_, by rfl, hF⟩
  ·
   refine qg (.val none (.int .u8 (v1000.toNat : Int))) rfl rfl (qg (AB (decide ((122 : Int) < (v1000.toNat : Int)))) rfl rfl (qp (AB (decide ((122 : Int) < (v1000.toNat : Int)))) rfl (qp (AB (decide ((122 : Int) < (v1000.toNat : Int)))) rfl ?_)))
   refine q_case 19 hF rfl (fun hF => ?_) (fun hF => ?_)
   ·
    refine qg (.val none (.int .u8 (v1000.toNat : Int))) rfl rfl (qg (AB (decide ((v1000.toNat : Int) < (48 : Int)))) rfl rfl (qg (AB (decide ((v1000.toNat : Int) < (48 : Int)))) rfl rfl ?_))
    refine q_case 22 hF rfl (fun hF => ?_) (fun hF => ?_)
    ·
     refine qn rfl (qn rfl (qg (AB true) rfl rfl (qp (AB true) rfl ?_)))
     refine r_nil ?_
     refine w_true rfl ?_
     refine ws 1345 1409 ?_
     refine qp (AB false) rfl ?_
     refine r_nil ?_
     refine w_ret ?_
     refine blockQ_r ?_
     refine thenQ_r ?_
     refine thenQ_r ?_
     refine blockQ_r ?_
     refine thenQ_r ?_
     cases hF
     exact eR
    ·
     refine qg (.val none (.int .u8 (v1000.toNat : Int))) rfl rfl (qg (AB (decide ((57 : Int) < (v1000.toNat : Int)))) rfl rfl (qg (AB (decide ((57 : Int) < (v1000.toNat : Int)))) rfl rfl (qp (AB (decide ((57 : Int) < (v1000.toNat : Int)))) rfl ?_)))
     refine r_nil ?_
     refine cF hF (fun hF => ?_) fun hF => ?_
     ·
      refine ws 1345 1409 ?_
      refine qp (AB false) rfl ?_
      refine r_nil ?_
      refine w_ret ?_
      refine blockQ_r ?_
      refine thenQ_r ?_
      refine thenQ_r ?_
      refine blockQ_r ?_
      refine thenQ_r ?_
      cases hF
      exact eR
     ·
      refine w_skip ?_
      refine blockQ_n ?_
      refine thenQ_n ?_
      refine w_reg 1345 1473 rfl rfl ?_
      refine qp (AI (w64 (v50001 + 1))) rfl (qp (AI (w64 (v50001 + 1))) rfl ?_)
      refine r_nil ?_
      refine thenQ_n ?_
      refine ar (l' := [(0, AS v0), (6, AI (v0.length : Int)), (7, AI (w64 (v50001 + 1)))]) (L := []) [0, 6, 7] [] 1 ⟨_, by rfl, hF⟩
   ·
    refine qn rfl (qn rfl (qn rfl (qu rfl (qu rfl (qn rfl (qp (AB false) rfl ?_))))))
    refine r_nil ?_
    refine w_false rfl ?_
    refine w_skip ?_
    refine blockQ_n ?_
    refine thenQ_n ?_
    refine w_reg 1345 1473 rfl rfl ?_
    refine qp (AI (w64 (v50001 + 1))) rfl (qp (AI (w64 (v50001 + 1))) rfl ?_)
    refine r_nil ?_
    refine thenQ_n ?_
    refine ar (l' := [(0, AS v0), (6, AI (v0.length : Int)), (7, AI (w64 (v50001 + 1)))]) (L := []) [0, 6, 7] [] 1 ⟨_, by rfl, hF⟩
 ·
  refine w_exit ?_
  refine thenQ_e ?_
  refine thenQ_e ?_
  refine blockQ_e ?_
  refine thenQ_n ?_
  refine ws 65 129 ?_
  refine qp (AB true) rfl ?_
  refine r_nil ?_
  refine w_ret ?_
  cases hF
  exact eR

def c36 : MC := (.seq (.reg [rg 2 (.p true (.mv (.c (.bool false))))]) (.seq (.seq (.reg [mvt 3 0, rg 4 (.p true (.lens (.t 3))), rg 5 (.p true (.bin .lss (.t 4) (.c (.int .i64 1)))), mvt 6 5, ⟨(some 7), (some (6, false)), (.p true (.mv (.t 0)))⟩, ⟨(some 8), (some (6, false)), (.p true (.lens (.t 7)))⟩, ⟨(some 9), (some (6, false)), (.p true (.bin .gtr (.t 8) (.c (.int .i64 10))))⟩, rg 10 (.p true (.pick (.t 6) (.c (.bool true)) (.t 9))), mvt 11 10, ⟨(some 12), (some (11, false)), (.p true (.mv (.t 0)))⟩, ⟨(some 13), (some (11, false)), (.p true (.ixs (.t 12) (.c (.int .i64 0))))⟩, ⟨(some 14), (some (11, false)), (.p true (.bin .lss (.t 13) (.c (.int .u8 97))))⟩, rg 15 (.p true (.pick (.t 11) (.c (.bool true)) (.t 14))), mvt 16 15, ⟨(some 17), (some (16, false)), (.p true (.mv (.t 0)))⟩, ⟨(some 18), (some (16, false)), (.p true (.ixs (.t 17) (.c (.int .i64 0))))⟩, ⟨(some 19), (some (16, false)), (.p true (.bin .gtr (.t 18) (.c (.int .u8 122))))⟩, rg 20 (.p true (.pick (.t 16) (.c (.bool true)) (.t 19)))]) (.cond (.t 20) (.seq (.reg [rg 2 (.p true (.mv (.c (.bool false))))]) .ret) .skip)) (.seq (.reg [mvt 21 0, rg 22 (.call true 51 [(.t 21)]), mvt 2 22]) .ret)))
theorem c36_is : compFn Tryd.prog 36 = some (c36, [(.tmp 2)]) := by kernel_rfl
theorem c36_ok : okFn Tryd.prog 36 = true := by kernel_rfl

noncomputable def F_impl_IsName (v0 : List UInt8) : Option (Bool) :=
 (bif (decide ((v0.length : Int) < (1 : Int))) then some false
 else (bif (decide ((10 : Int) < (v0.length : Int))) then some false
 else ((ix v0 0).bind fun v1000 => (bif (decide ((v1000.toNat : Int) < (97 : Int))) then some false
 else ((ix v0 0).bind fun v1001 => (bif (decide ((122 : Int) < (v1001.toNat : Int))) then some false
 else ((F_impl_onlyNameBytes v0).bind fun v1002 => some v1002)))))))
@[simp] def res_impl_IsName (r : Bool) : RV := .one (.one (.val (.bool r)))
theorem con_impl_IsName {v0 : List UInt8} {r : Bool} (hF : F_impl_IsName v0 = some r) : Con Tryd.prog 36 [.str v0] (res_impl_IsName r) := by
 unfold F_impl_IsName at hF
 refine con_of c36_is fun N => ?_
 refine ws 0 64 ?_
 refine qp (AB false) rfl ?_
 refine r_nil ?_
 refine w_seq ?_
 refine ws 64 1216 ?_
 refine qp (AS v0) rfl (qp (AI (v0.length : Int)) rfl (qp (AB (decide ((v0.length : Int) < (1 : Int)))) rfl (qp (AB (decide ((v0.length : Int) < (1 : Int)))) rfl ?_)))
 refine q_case 6 hF rfl (fun hF => ?_) (fun hF => ?_)
 ·
  refine qn rfl (qn rfl (qn rfl (qp (AB true) rfl (qp (AB true) rfl (qn rfl (qn rfl (qn rfl ?_)))))))
  refine qp (AB true) rfl (qp (AB true) rfl (qn rfl (qn rfl (qn rfl (qp (AB true) rfl ?_)))))
  refine r_nil ?_
  refine w_true rfl ?_
  refine ws 1216 1280 ?_
  refine qp (AB false) rfl ?_
  refine r_nil ?_
  refine w_ret ?_
  refine thenQ_r ?_
  cases hF
  exact eR
 ·
  refine qg (AS v0) rfl rfl (qg (AI (v0.length : Int)) rfl rfl (qg (AB (decide ((10 : Int) < (v0.length : Int)))) rfl rfl (qp (AB (decide ((10 : Int) < (v0.length : Int)))) rfl (qp (AB (decide ((10 : Int) < (v0.length : Int)))) rfl ?_))))
  refine q_case 11 hF rfl (fun hF => ?_) (fun hF => ?_)
  ·
   refine qn rfl (qn rfl (qn rfl (qp (AB true) rfl (qp (AB true) rfl (qn rfl (qn rfl (qn rfl ?_)))))))
   refine qp (AB true) rfl ?_
   refine r_nil ?_
   refine w_true rfl ?_
   refine ws 1216 1280 ?_
   refine qp (AB false) rfl ?_
   refine r_nil ?_
   refine w_ret ?_
   refine thenQ_r ?_
   cases hF
   exact eR
  ·
   refine qg (AS v0) rfl rfl ?_
   obtain ⟨v1000, e1000, hF⟩ := bind_get hF
   refine qg (.val none (.int .u8 (v1000.toNat : Int))) rfl (ev_ixs rfl rfl e1000) (qg (AB (decide ((v1000.toNat : Int) < (97 : Int)))) rfl rfl (qp (AB (decide ((v1000.toNat : Int) < (97 : Int)))) rfl (qp (AB (decide ((v1000.toNat : Int) < (97 : Int)))) rfl ?_)))
   refine q_case 16 hF rfl (fun hF => ?_) (fun hF => ?_)
   ·
    refine qn rfl (qn rfl (qn rfl (qp (AB true) rfl ?_)))
    refine r_nil ?_
    refine w_true rfl ?_
    refine ws 1216 1280 ?_
    refine qp (AB false) rfl ?_
    refine r_nil ?_
    refine w_ret ?_
    refine thenQ_r ?_
    cases hF
    exact eR
   ·
    refine qg (AS v0) rfl rfl ?_
    obtain ⟨v1001, e1001, hF⟩ := bind_get hF
    refine qg (.val none (.int .u8 (v1001.toNat : Int))) rfl (ev_ixs rfl rfl e1001) (qg (AB (decide ((122 : Int) < (v1001.toNat : Int)))) rfl rfl (qp (AB (decide ((122 : Int) < (v1001.toNat : Int)))) rfl ?_))
    refine r_nil ?_
    refine cF hF (fun hF => ?_) fun hF => ?_
    ·
     refine ws 1216 1280 ?_
     refine qp (AB false) rfl ?_
     refine r_nil ?_
     refine w_ret ?_
     refine thenQ_r ?_
     cases hF
     exact eR
    ·
     refine w_skip ?_
     refine thenQ_n ?_
     refine ws 1216 1408 ?_
     refine qp (AS v0) rfl ?_
     obtain ⟨v1002, e1002, hF⟩ := bind_get hF
     refine qc (AB v1002) [] false (con_impl_onlyNameBytes e1002) c51_ok (by first | rfl | simp) rfl ?_
     refine qp (AB v1002) rfl ?_
     refine r_nil ?_
     refine w_ret ?_
     cases hF
     exact eR

def c37 : MC := (.seq (.reg [rg 6 (.p true (.mv (.c (.bool false))))]) (.seq (.reg [mvt 7 0, mvt 8 1, rg 9 (.p true (.bin .geq (.t 7) (.t 8))), mvt 10 9, ⟨(some 11), (some (10, true)), (.p true (.mv (.t 0)))⟩, ⟨(some 12), (some (10, true)), (.p true (.mv (.t 2)))⟩, ⟨(some 13), (some (10, true)), (.p true (.bin .leq (.t 11) (.t 12)))⟩, rg 14 (.p true (.pick (.t 10) (.t 13) (.c (.bool false)))), mvt 6 14]) .ret))
theorem c37_is : compFn Tryd.prog 37 = some (c37, [(.tmp 6)]) := by kernel_rfl
theorem c37_ok : okFn Tryd.prog 37 = true := by kernel_rfl

noncomputable def F_impl_within (v0 : Int) (v1 : Int) (v2 : Int) : Option (Bool) :=
 (bif (decide (v1 ≤ v0)) then some (decide (v0 ≤ v2))
 else some false)
@[simp] def res_impl_within (r : Bool) : RV := .one (.one (.val (.bool r)))
theorem con_impl_within {v0 : Int} {v1 : Int} {v2 : Int} {r : Bool} (hF : F_impl_within v0 v1 v2 = some r) : Con Tryd.prog 37 [.int .i64 v0, .int .i64 v1, .int .i64 v2] (res_impl_within r) := by
 unfold F_impl_within at hF
 refine con_of c37_is fun N => ?_
 refine ws 0 64 ?_
 refine qp (AB false) rfl ?_
 refine r_nil ?_
 refine ws 64 640 ?_
 refine qp (AI v0) rfl (qp (AI v1) rfl (qp (AB (decide (v1 ≤ v0))) rfl (qp (AB (decide (v1 ≤ v0))) rfl ?_)))
 refine q_case 10 hF rfl (fun hF => ?_) (fun hF => ?_)
 ·
  refine qg (AI v0) rfl rfl (qg (AI v2) rfl rfl (qg (AB (decide (v0 ≤ v2))) rfl rfl (qp (AB (decide (v0 ≤ v2))) rfl (qp (AB (decide (v0 ≤ v2))) rfl ?_))))
  refine r_nil ?_
  refine w_ret ?_
  cases hF
  exact eR
 ·
  refine qn rfl (qn rfl (qn rfl (qp (AB false) rfl (qp (AB false) rfl ?_))))
  refine r_nil ?_
  refine w_ret ?_
  cases hF
  exact eR

def c53 : MC := (.seq (.reg [rg 2 (.f (.box (.t 0))), rg 3 (.p true (.mv (.c (.bool false))))]) (.seq (.reg [rg 4 (.p true (.fad (.t 2) 0)), rg 5 (.p true (.ld (.t 4) 1 false)), rg 6 (.p true (.ld (.t 1) 1 false)), rg 7 (.p true (.bin .eql (.t 5) (.t 6))), mvt 3 7]) .ret))
theorem c53_is : compFn Tryd.prog 53 = some (c53, [(.tmp 3)]) := by kernel_rfl
theorem c53_ok : okFn Tryd.prog 53 = true := by kernel_rfl

noncomputable def F_impl_personAt_1 (v0 : TPerson) (v1 : List UInt8) : Option (Bool) :=
 some (decide (v0.1 = v1))
@[simp] def res_impl_personAt_1 (r : Bool) : RV := .one (.one (.val (.bool r)))
theorem con_impl_personAt_1 {v0 : TPerson} {v1 : List UInt8} {r : Bool} (hF : F_impl_personAt_1 v0 v1 = some r) : Con Tryd.prog 53 [ePerson v0, .ptr [.str v1]] (res_impl_personAt_1 r) := by
 unfold F_impl_personAt_1 at hF
 refine con_of c53_is fun N => ?_
 refine ws 0 128 ?_
 refine qf (.ptr 0 0 0) [(0, .box [AS v0.1, AI v0.2.1, AL 1 (v0.2.2.map V.str)])] (by simp) ?_
 refine qp (AB false) rfl ?_
 refine r_nil ?_
 refine ws 128 448 ?_
 refine qp (.ptr 0 0 0) rfl (qp (AS v0.1) rfl (qp (AS v1) rfl (qp (AB (decide (v0.1 = v1))) rfl (qp (AB (decide (v0.1 = v1))) rfl ?_))))
 refine r_nil ?_
 refine w_ret ?_
 cases hF
 exact eR

def c52 : MC := (.seq (.reg [rg 4 (.p true (.mv (.c (.int .i64 0))))]) (.seq (.seq (.reg [mvt 6 0, rg 7 (.p true (.len (.t 6))), rg 8 (.p true (.mv (.c (.int .i64 0))))]) (.block 0 (.loop (.seq (.reg [rg 9 (.p true (.bin .lss (.t 8) (.t 7)))]) (.seq (.cond (.t 9) .skip (.exit 0)) (.seq (.block 1 (.seq (.reg [mvt 10 8, mvt 5 10]) (.seq (.reg [mvt 11 1, mvt 12 0, mvt 13 5, rg 14 (.p true (.iad (.t 12) (.t 13) 3)), rg 15 (.p true (.ld (.t 14) 3 true)), rg 16 (.callv (.t 11) [(.t 15)])]) (.cond (.t 16) (.seq (.reg [mvt 17 5, mvt 4 17]) .ret) .skip)))) (.reg [rg 18 (.p true (.bin .add (.t 8) (.c (.int .i64 1)))), mvt 8 18]))))))) (.seq (.reg [rg 4 (.p true (.mv (.c (.int .i64 (-1)))))]) .ret)))
theorem c52_is : compFn Tryd.prog 52 = some (c52, [(.tmp 4)]) := by kernel_rfl
theorem c52_ok : okFn Tryd.prog 52 = true := by kernel_rfl

noncomputable def F_slices_IndexFunc_SPerson_Person_l0 (v0 : List TPerson) (v1 : List UInt8) (k0 : Int → Option (Int)) : Int → Option (Int)
 | v50001 => (bif (decide (v50001 < (v0.length : Int))) then ((ix v0 v50001).bind fun v1000 => ((F_impl_personAt_1 v1000 v1).bind fun v1001 => (bif v1001 then some v50001
 else k0 (w64 (v50001 + 1)))))
 else some (-1))
noncomputable def F_slices_IndexFunc_SPerson_Person (v0 : List TPerson) (v1 : List UInt8) : Option (Int) :=
 loop (F_slices_IndexFunc_SPerson_Person_l0 v0 v1) 0
@[simp] def res_slices_IndexFunc_SPerson_Person (r : Int) : RV := .one (.one (.val (.int .i64 r)))
theorem con_slices_IndexFunc_SPerson_Person {v0 : List TPerson} {v1 : List UInt8} {r : Int} (hF : F_slices_IndexFunc_SPerson_Person v0 v1 = some r) : Con Tryd.prog 52 [.sl 3 (v0.map ePerson), .fn 53 [.ptr [.str v1]]] (res_slices_IndexFunc_SPerson_Person r) := by
 unfold F_slices_IndexFunc_SPerson_Person at hF
 refine con_of c52_is fun N => ?_
 refine ws 0 64 ?_
 refine qp (AI 0) rfl ?_
 refine r_nil ?_
 refine w_seq ?_
 refine ws 64 256 ?_
 refine qp (AL 3 (v0.map ePerson)) rfl (qp (AI (v0.length : Int)) (ev_len_n rfl) (qp (AI 0) rfl ?_))
 refine r_nil ?_
 refine w_block ?_
 refine wr (l' := [(0, AL 3 (v0.map ePerson)), (1, .val none (.fn 53 [.ptr [.str v1]])), (7, AI (v0.length : Int)), (8, AI 0)]) (L := []) [0, 1, 7, 8] [] 1 ?_
 refine w_loopF (F_slices_IndexFunc_SPerson_Person_l0 v0 v1) (fun s : Int => mkS [(0, AL 3 (v0.map ePerson)), (1, .val none (.fn 53 [.ptr [.str v1]])), (7, AI (v0.length : Int)), (8, AI s)] (fo []) 1) hF ?_
 rintro k0 v50001 hF
 rw [F_slices_IndexFunc_SPerson_Person_l0] at hF
 try dsimp only
 refine ws 1 65 ?_
 refine qp (AB (decide (v50001 < (v0.length : Int)))) rfl ?_
 refine r_nil ?_
 refine w_seq ?_
 refine cF hF (fun hF => ?_) fun hF => ?_
 ·
  refine w_skip ?_
  refine thenQ_n ?_
  refine w_seq ?_
  refine w_block ?_
  refine ws 65 193 ?_
  refine qp (AI v50001) rfl (qp (AI v50001) rfl ?_)
  refine r_nil ?_
  refine ws 193 577 ?_
  refine qp (.val none (.fn 53 [.ptr [.str v1]])) rfl (qp (AL 3 (v0.map ePerson)) rfl (qp (AI v50001) rfl ?_))
  obtain ⟨v1000, e1000, hF⟩ := bind_get hF
  refine qp (.val none (.ptr [.str v1000.1, .int .i64 v1000.2.1, .sl 1 (v1000.2.2.map V.str)])) (ev_iad_n rfl rfl e1000 rfl) (qp (.val none (ePerson v1000)) rfl ?_)
  obtain ⟨v1001, e1001, hF⟩ := bind_get hF
  refine qcv (AB v1001) [] false rfl (con_impl_personAt_1 e1001) c53_ok (by first | rfl | simp) rfl ?_
  refine r_nil ?_
  refine cF hF (fun hF => ?_) fun hF => ?_
  ·
   refine ws 577 705 ?_
   refine qp (AI v50001) rfl (qp (AI v50001) rfl ?_)
   refine r_nil ?_
   refine w_ret ?_
   refine blockQ_r ?_
   refine thenQ_r ?_
   refine thenQ_r ?_
   refine blockQ_r ?_
   refine thenQ_r ?_
   cases hF
   exact eR
  ·
   refine w_skip ?_
   refine blockQ_n ?_
   refine thenQ_n ?_
   refine w_reg 577 705 rfl rfl ?_
   refine qp (AI (w64 (v50001 + 1))) rfl (qp (AI (w64 (v50001 + 1))) rfl ?_)
   refine r_nil ?_
   refine thenQ_n ?_
   refine ar (l' := [(0, AL 3 (v0.map ePerson)), (1, .val none (.fn 53 [.ptr [.str v1]])), (7, AI (v0.length : Int)), (8, AI (w64 (v50001 + 1)))]) (L := []) [0, 1, 7, 8] [] 1 ⟨_, by rfl, hF⟩
 ·
  refine w_exit ?_
  refine thenQ_e ?_
  refine thenQ_e ?_
  refine blockQ_e ?_
  refine thenQ_n ?_
  refine ws 65 129 ?_
  refine qp (AI (-1)) rfl ?_
  refine r_nil ?_
  refine w_ret ?_
  cases hF
  exact eR

def c38 : MC := (.seq (.reg [rg 3 (.f (.box (.t 1))), rg 4 (.p true (.mv (.c (.int .i64 0))))]) (.seq (.reg [mvt 5 0, rg 6 (.p true (.mkf 53 [(.t 3)])), rg 7 (.call true 52 [(.t 5), (.t 6)]), mvt 4 7]) .ret))
theorem c38_is : compFn Tryd.prog 38 = some (c38, [(.tmp 4)]) := by kernel_rfl
theorem c38_ok : okFn Tryd.prog 38 = true := by kernel_rfl

noncomputable def F_impl_personAt (v0 : List TPerson) (v1 : List UInt8) : Option (Int) :=
 ((F_slices_IndexFunc_SPerson_Person v0 v1).bind fun v1000 => some v1000)
@[simp] def res_impl_personAt (r : Int) : RV := .one (.one (.val (.int .i64 r)))
theorem con_impl_personAt {v0 : List TPerson} {v1 : List UInt8} {r : Int} (hF : F_impl_personAt v0 v1 = some r) : Con Tryd.prog 38 [.sl 3 (v0.map ePerson), .str v1] (res_impl_personAt r) := by
 unfold F_impl_personAt at hF
 refine con_of c38_is fun N => ?_
 refine ws 0 128 ?_
 refine qf (.ptr 0 0 0) [(0, .box [AS v1])] (by simp) ?_
 refine qp (AI 0) rfl ?_
 refine r_nil ?_
 refine ws 128 384 ?_
 refine qp (AL 3 (v0.map ePerson)) rfl (qp (.fn 53 [.ptr 0 0 0]) rfl ?_)
 obtain ⟨v1000, e1000, hF⟩ := bind_get hF
 refine qc (AI v1000) [(0, .box [AS v1])] true (con_slices_IndexFunc_SPerson_Person e1000) c52_ok (by simp [List.take_of_length_le]) rfl ?_
 refine qp (AI v1000) rfl ?_
 refine r_nil ?_
 refine w_ret ?_
 cases hF
 exact eR

def c18 : MC := (.seq (.reg [rg 2 (.p true (.mv (.c (.bool false))))]) (.seq (.seq (.reg [mvt 8 0, rg 9 (.p true (.len (.t 8))), rg 10 (.p true (.bin .gtr (.t 9) (.c (.int .i64 24))))]) (.cond (.t 10) (.seq (.reg [rg 2 (.p true (.mv (.c (.bool false))))]) .ret) .skip)) (.seq (.seq (.reg [mvt 11 0, rg 12 (.p true (.len (.t 11))), rg 13 (.p true (.mv (.c (.int .i64 0))))]) (.block 0 (.loop (.seq (.reg [rg 14 (.p true (.bin .lss (.t 13) (.t 12)))]) (.seq (.cond (.t 14) .skip (.exit 0)) (.seq (.block 1 (.seq (.reg [mvt 15 13, rg 16 (.p true (.iad (.t 11) (.t 13) 3)), rg 17 (.p true (.ld (.t 16) 3 true)), rg 4 (.f (.alloc [((.str []), (0, false)), ((.int .i64 0), (0, false)), ((.sl 0 []), (1, false))])), mvt 3 15, ⟨none, none, (.f (.st (.t 4) (.t 17) 3))⟩]) (.seq (.seq (.reg [rg 18 (.p false (.fad (.t 4) 0)), rg 19 (.p false (.ld (.t 18) 1 false)), rg 20 (.call false 36 [(.t 19)]), rg 21 (.p false (.not (.t 20))), rg 22 (.p false (.mv (.t 21))), ⟨(some 23), (some (22, false)), (.p false (.fad (.t 4) 1))⟩, ⟨(some 24), (some (22, false)), (.p false (.ld (.t 23) 1 false))⟩, ⟨(some 25), (some (22, false)), (.call false 37 [(.t 24), (.c (.int .i64 0)), (.c (.int .i64 3000))])⟩, ⟨(some 26), (some (22, false)), (.p false (.not (.t 25)))⟩, rg 27 (.p false (.pick (.t 22) (.c (.bool true)) (.t 26))), rg 28 (.p false (.mv (.t 27))), ⟨(some 29), (some (28, false)), (.p false (.fad (.t 4) 2))⟩, ⟨(some 30), (some (28, false)), (.p false (.ld (.t 29) 1 false))⟩, ⟨(some 31), (some (28, false)), (.p false (.len (.t 30)))⟩, ⟨(some 32), (some (28, false)), (.p false (.bin .gtr (.t 31) (.c (.int .i64 4))))⟩, rg 33 (.p false (.pick (.t 28) (.c (.bool true)) (.t 32))), rg 34 (.p false (.mv (.t 33))), ⟨(some 35), (some (34, false)), (.p false (.mv (.t 3)))⟩, ⟨(some 36), (some (34, false)), (.p false (.bin .gtr (.t 35) (.c (.int .i64 0))))⟩, ⟨(some 37), (some (34, false)), (.p false (.mv (.t 36)))⟩, ⟨(some 38), (some (37, true)), (.p false (.fad (.t 4) 0))⟩, ⟨(some 39), (some (37, true)), (.p false (.ld (.t 38) 1 false))⟩, ⟨(some 40), (some (37, true)), (.p false (.mv (.t 0)))⟩, ⟨(some 41), (some (37, true)), (.p false (.mv (.t 3)))⟩, ⟨(some 42), (some (37, true)), (.p false (.bin .sub (.t 41) (.c (.int .i64 1))))⟩, ⟨(some 43), (some (37, true)), (.p false (.iad (.t 40) (.t 42) 3))⟩, ⟨(some 44), (some (37, true)), (.p false (.fad (.t 43) 0))⟩, ⟨(some 45), (some (37, true)), (.p false (.ld (.t 44) 1 false))⟩, ⟨(some 46), (some (37, true)), (.p false (.bin .leq (.t 39) (.t 45)))⟩, ⟨(some 47), (some (34, false)), (.p false (.pick (.t 37) (.t 46) (.c (.bool false))))⟩, rg 48 (.p false (.pick (.t 34) (.c (.bool true)) (.t 47)))]) (.cond (.t 48) (.seq (.reg [rg 2 (.p true (.mv (.c (.bool false))))]) .ret) .skip)) (.seq (.reg [rg 49 (.p true (.fad (.t 4) 2)), rg 50 (.p true (.ld (.t 49) 1 false)), rg 51 (.p true (.len (.t 50))), rg 52 (.p true (.mv (.c (.int .i64 0))))]) (.block 2 (.loop (.seq (.reg [rg 53 (.p true (.bin .lss (.t 52) (.t 51)))]) (.seq (.cond (.t 53) .skip (.exit 2)) (.seq (.block 3 (.seq (.reg [mvt 54 52, rg 55 (.p true (.iad (.t 50) (.t 52) 1)), rg 56 (.p true (.ld (.t 55) 1 false)), mvt 5 54, mvt 6 56]) (.seq (.reg [mvt 57 0, mvt 58 6, rg 59 (.call true 38 [(.t 57), (.t 58)]), mvt 7 59]) (.seq (.reg [rg 60 (.p false (.mv (.t 7))), rg 61 (.p false (.bin .lss (.t 60) (.c (.int .i64 0)))), rg 62 (.p false (.mv (.t 61))), ⟨(some 63), (some (62, false)), (.p false (.mv (.t 0)))⟩, ⟨(some 64), (some (62, false)), (.p false (.mv (.t 7)))⟩, ⟨(some 65), (some (62, false)), (.p false (.iad (.t 63) (.t 64) 3))⟩, ⟨(some 66), (some (62, false)), (.p false (.fad (.t 65) 1))⟩, ⟨(some 67), (some (62, false)), (.p false (.ld (.t 66) 1 false))⟩, ⟨(some 68), (some (62, false)), (.p false (.fad (.t 4) 1))⟩, ⟨(some 69), (some (62, false)), (.p false (.ld (.t 68) 1 false))⟩, ⟨(some 70), (some (62, false)), (.p false (.bin .geq (.t 67) (.t 69)))⟩, rg 71 (.p false (.pick (.t 62) (.c (.bool true)) (.t 70))), rg 72 (.p false (.mv (.t 71))), ⟨(some 73), (some (72, false)), (.p false (.mv (.t 5)))⟩, ⟨(some 74), (some (72, false)), (.p false (.bin .gtr (.t 73) (.c (.int .i64 0))))⟩, ⟨(some 75), (some (72, false)), (.p false (.mv (.t 74)))⟩, ⟨(some 76), (some (75, true)), (.p false (.mv (.t 6)))⟩, ⟨(some 77), (some (75, true)), (.p false (.fad (.t 4) 2))⟩, ⟨(some 78), (some (75, true)), (.p false (.ld (.t 77) 1 false))⟩, ⟨(some 79), (some (75, true)), (.p false (.mv (.t 5)))⟩, ⟨(some 80), (some (75, true)), (.p false (.bin .sub (.t 79) (.c (.int .i64 1))))⟩, ⟨(some 81), (some (75, true)), (.p false (.iad (.t 78) (.t 80) 1))⟩, ⟨(some 82), (some (75, true)), (.p false (.ld (.t 81) 1 false))⟩, ⟨(some 83), (some (75, true)), (.p false (.bin .leq (.t 76) (.t 82)))⟩, ⟨(some 84), (some (72, false)), (.p false (.pick (.t 75) (.t 83) (.c (.bool false))))⟩, rg 85 (.p false (.pick (.t 72) (.c (.bool true)) (.t 84)))]) (.cond (.t 85) (.seq (.reg [rg 2 (.p true (.mv (.c (.bool false))))]) .ret) .skip))))) (.reg [rg 86 (.p true (.bin .add (.t 52) (.c (.int .i64 1)))), mvt 52 86])))))))))) (.reg [rg 87 (.p true (.bin .add (.t 13) (.c (.int .i64 1)))), mvt 13 87]))))))) (.seq (.reg [rg 2 (.p true (.mv (.c (.bool true))))]) .ret))))
theorem c18_is : compFn Tryd.prog 18 = some (c18, [(.tmp 2)]) := by kernel_rfl
theorem c18_ok : okFn Tryd.prog 18 = true := by kernel_rfl

noncomputable def F_impl_ValidPersons_l2 (v0 : List TPerson) (v1000 : TPerson) (v50005 : Int) (k2 : Int → Option (Bool)) (k4 : Int → Option (Bool)) : Int → Option (Bool)
 | v50009 => (bif (decide (v50009 < (v1000.2.2.length : Int))) then ((ix v1000.2.2 v50009).bind fun v1007 => ((F_impl_personAt v0 v1007).bind fun v1008 => (bif (decide (v1008 < (0 : Int))) then some false
 else ((ix v0 v1008).bind fun v1009 => (bif (decide (v1000.2.1 ≤ v1009.2.1)) then some false
 else (bif (decide ((0 : Int) < v50009)) then ((ix v1000.2.2 (w64 (v50009 - 1))).bind fun v1010 => (bif (Op.bytesLess v1007 v1010 || decide (v1007 = v1010)) then some false
 else k4 (w64 (v50009 + 1))))
 else k4 (w64 (v50009 + 1))))))))
 else k2 (w64 (v50005 + 1)))
noncomputable def F_impl_ValidPersons_j1 (v0 : List TPerson) (v1000 : TPerson) (v50005 : Int) (k2 : Int → Option (Bool)) : Option (Bool) :=
 loop (F_impl_ValidPersons_l2 v0 v1000 v50005 k2) 0
noncomputable def F_impl_ValidPersons_l0 (v0 : List TPerson) (k2 : Int → Option (Bool)) : Int → Option (Bool)
 | v50005 => (bif (decide (v50005 < (v0.length : Int))) then ((ix v0 v50005).bind fun v1000 => ((F_impl_IsName v1000.1).bind fun v1004 => (bif (!v1004) then some false
 else ((F_impl_within v1000.2.1 0 3000).bind fun v1005 => (bif (!v1005) then some false
 else (bif (decide ((4 : Int) < (v1000.2.2.length : Int))) then some false
 else (bif (decide ((0 : Int) < v50005)) then ((ix v0 (w64 (v50005 - 1))).bind fun v1006 => (bif (Op.bytesLess v1000.1 v1006.1 || decide (v1000.1 = v1006.1)) then some false
 else F_impl_ValidPersons_j1 v0 v1000 v50005 k2))
 else F_impl_ValidPersons_j1 v0 v1000 v50005 k2)))))))
 else some true)
noncomputable def F_impl_ValidPersons (v0 : List TPerson) : Option (Bool) :=
 (bif (decide ((24 : Int) < (v0.length : Int))) then some false
 else loop (F_impl_ValidPersons_l0 v0) 0)
@[simp] def res_impl_ValidPersons (r : Bool) : RV := .one (.one (.val (.bool r)))
theorem con_impl_ValidPersons {v0 : List TPerson} {r : Bool} (hF : F_impl_ValidPersons v0 = some r) : Con Tryd.prog 18 [.sl 3 (v0.map ePerson)] (res_impl_ValidPersons r) := by
 unfold F_impl_ValidPersons at hF
 refine con_of c18_is fun N => ?_
 refine ws 0 64 ?_
 refine qp (AB false) rfl ?_
 refine r_nil ?_
 refine w_seq ?_
 refine ws 64 256 ?_
 refine qp (AL 3 (v0.map ePerson)) rfl (qp (AI (v0.length : Int)) (ev_len_n rfl) (qp (AB (decide ((24 : Int) < (v0.length : Int)))) rfl ?_))
 refine r_nil ?_
 refine cF hF (fun hF => ?_) fun hF => ?_
 ·
  refine ws 256 320 ?_
  refine qp (AB false) rfl ?_
  refine r_nil ?_
  refine w_ret ?_
  refine thenQ_r ?_
  cases hF
  exact eR
 ·
  refine w_skip ?_
  refine thenQ_n ?_
  refine w_seq ?_
  refine ws 256 448 ?_
  refine qp (AL 3 (v0.map ePerson)) rfl (qp (AI (v0.length : Int)) (ev_len_n rfl) (qp (AI 0) rfl ?_))
  refine r_nil ?_
  refine w_block ?_
  refine wr (l' := [(0, AL 3 (v0.map ePerson)), (11, AL 3 (v0.map ePerson)), (12, AI (v0.length : Int)), (13, AI 0)]) (L := []) [0, 11, 12, 13] [] 1 ?_
  refine w_loopF (F_impl_ValidPersons_l0 v0) (fun s : Int => mkS [(0, AL 3 (v0.map ePerson)), (11, AL 3 (v0.map ePerson)), (12, AI (v0.length : Int)), (13, AI s)] (fo []) 1) hF ?_
  rintro k2 v50005 hF
  rw [F_impl_ValidPersons_l0] at hF
  try dsimp only
  refine ws 1 65 ?_
  refine qp (AB (decide (v50005 < (v0.length : Int)))) rfl ?_
  refine r_nil ?_
  refine w_seq ?_
  refine cF hF (fun hF => ?_) fun hF => ?_
  ·
   refine w_skip ?_
   refine thenQ_n ?_
   refine w_seq ?_
   refine w_block ?_
   refine ws 65 449 ?_
   refine qp (AI v50005) rfl ?_
   obtain ⟨v1000, e1000, hF⟩ := bind_get hF
   refine qp (.val none (.ptr [.str v1000.1, .int .i64 v1000.2.1, .sl 1 (v1000.2.2.map V.str)])) (ev_iad_n rfl rfl e1000 rfl) (qp (.val none (ePerson v1000)) rfl ?_)
   refine qf (.ptr 257 0 0) [(257, .box [AS [], AI 0, .sl 258 0 0]), (258, .row true 1 (([] : List Int).map vI))] (by simp) ?_
   refine qp (AI v50005) rfl ?_
   refine qf0 (.undef) [(257, .box [AS v1000.1, AI v1000.2.1, AL 1 (v1000.2.2.map V.str)]), (257, .box [AS [], AI 0, .sl 258 0 0]), (258, .row true 1 (([] : List Int).map vI))] (by simp) ?_
   refine r_nil ?_
   refine w_meet (fun s' => s' = mkS [(0, AL 3 (v0.map ePerson)), (4, .ptr 0 0 0), (11, AL 3 (v0.map ePerson)), (12, AI (v0.length : Int)), (13, AI v50005)] (fo [(0, .box [AS v1000.1, AI v1000.2.1, AL 1 (v1000.2.2.map V.str)])]) 1 ∧ F_impl_ValidPersons_j1 v0 v1000 v50005 k2 = some r) ?_ ?_
   ·
    refine ws 449 2433 ?_
    refine qp (.ptr 257 0 0) rfl (qp (AS v1000.1) rfl ?_)
    obtain ⟨v1004, e1004, hF⟩ := bind_get hF
    refine qc (AB v1004) [(257, .box [AS v1000.1, AI v1000.2.1, AL 1 (v1000.2.2.map V.str)]), (257, .box [AS [], AI 0, .sl 258 0 0]), (258, .row true 1 (([] : List Int).map vI))] false (con_impl_IsName e1004) c36_ok (by first | rfl | simp) rfl ?_
    refine qp (AB (!v1004)) rfl (qp (AB (!v1004)) rfl ?_)
    refine q_case 22 hF rfl (fun hF => ?_) (fun hF => ?_)
    ·
     refine qn rfl (qn rfl (qn rfl (qn rfl (qp (AB true) rfl (qp (AB true) rfl (qn rfl (qn rfl ?_)))))))
     refine qn rfl (qn rfl (qp (AB true) rfl (qp (AB true) rfl (qn rfl (qn rfl (qn rfl (qu rfl ?_)))))))
     refine qu rfl (qu rfl (qu rfl (qu rfl (qu rfl (qu rfl (qu rfl (qu rfl ?_)))))))
     refine qn rfl (qp (AB true) rfl ?_)
     refine r_nil ?_
     refine w_true rfl ?_
     refine ws 2433 2497 ?_
     refine qp (AB false) rfl ?_
     refine r_nil ?_
     refine w_ret ?_
     refine thenQ_r ?_
     refine blockQ_r ?_
     refine thenQ_r ?_
     refine thenQ_r ?_
     refine blockQ_r ?_
     refine thenQ_r ?_
     cases hF
     exact eR
    ·
     refine qg (.ptr 257 0 1) rfl rfl (qg (AI v1000.2.1) rfl rfl ?_)
     obtain ⟨v1005, e1005, hF⟩ := bind_get hF
     refine qcg (AB v1005) [(257, .box [AS v1000.1, AI v1000.2.1, AL 1 (v1000.2.2.map V.str)]), (257, .box [AS [], AI 0, .sl 258 0 0]), (258, .row true 1 (([] : List Int).map vI))] false rfl (con_impl_within e1005) c37_ok (by first | rfl | simp) rfl ?_
     refine qg (AB (!v1005)) rfl rfl (qp (AB (!v1005)) rfl (qp (AB (!v1005)) rfl ?_))
     refine q_case 28 hF rfl (fun hF => ?_) (fun hF => ?_)
     ·
      refine qn rfl (qn rfl (qn rfl (qn rfl (qp (AB true) rfl (qp (AB true) rfl (qn rfl (qn rfl ?_)))))))
      refine qn rfl (qu rfl (qu rfl (qu rfl (qu rfl (qu rfl (qu rfl (qu rfl ?_)))))))
      refine qu rfl (qu rfl (qn rfl (qp (AB true) rfl ?_)))
      refine r_nil ?_
      refine w_true rfl ?_
      refine ws 2433 2497 ?_
      refine qp (AB false) rfl ?_
      refine r_nil ?_
      refine w_ret ?_
      refine thenQ_r ?_
      refine blockQ_r ?_
      refine thenQ_r ?_
      refine thenQ_r ?_
      refine blockQ_r ?_
      refine thenQ_r ?_
      cases hF
      exact eR
     ·
      refine qg (.ptr 257 0 2) rfl rfl (qg (AL 1 (v1000.2.2.map V.str)) rfl rfl (qg (AI (v1000.2.2.length : Int)) rfl (ev_len_n rfl) (qg (AB (decide ((4 : Int) < (v1000.2.2.length : Int)))) rfl rfl (qp (AB (decide ((4 : Int) < (v1000.2.2.length : Int)))) rfl (qp (AB (decide ((4 : Int) < (v1000.2.2.length : Int)))) rfl ?_)))))
      refine q_case 34 hF rfl (fun hF => ?_) (fun hF => ?_)
      ·
       refine qn rfl (qn rfl (qn rfl (qu rfl (qu rfl (qu rfl (qu rfl (qu rfl ?_)))))))
       refine qu rfl (qu rfl (qu rfl (qu rfl (qn rfl (qp (AB true) rfl ?_)))))
       refine r_nil ?_
       refine w_true rfl ?_
       refine ws 2433 2497 ?_
       refine qp (AB false) rfl ?_
       refine r_nil ?_
       refine w_ret ?_
       refine thenQ_r ?_
       refine blockQ_r ?_
       refine thenQ_r ?_
       refine thenQ_r ?_
       refine blockQ_r ?_
       refine thenQ_r ?_
       cases hF
       exact eR
      ·
       refine qg (AI v50005) rfl rfl (qg (AB (decide ((0 : Int) < v50005))) rfl rfl (qg (AB (decide ((0 : Int) < v50005))) rfl rfl ?_))
       refine q_case 37 hF rfl (fun hF => ?_) (fun hF => ?_)
       ·
        refine qg (.ptr 257 0 0) rfl rfl (qg (AS v1000.1) rfl rfl (qg (AL 3 (v0.map ePerson)) rfl rfl (qg (AI v50005) rfl rfl (qg (AI (w64 (v50005 - 1))) rfl rfl ?_))))
        obtain ⟨v1006, e1006, hF⟩ := bind_get hF
        refine qg (.val none (.ptr [.str v1006.1, .int .i64 v1006.2.1, .sl 1 (v1006.2.2.map V.str)])) rfl (ev_iad_n rfl rfl e1006 rfl) (qg (.val none (.ptr [.str v1006.1, .int .i64 v1006.2.1, .sl 1 (v1006.2.2.map V.str)])) rfl rfl (qg (AS v1006.1) rfl rfl (qg (AB (Op.bytesLess v1000.1 v1006.1 || decide (v1000.1 = v1006.1))) rfl rfl (qg (AB (Op.bytesLess v1000.1 v1006.1 || decide (v1000.1 = v1006.1))) rfl rfl (qp (AB (Op.bytesLess v1000.1 v1006.1 || decide (v1000.1 = v1006.1))) rfl ?_)))))
        refine r_nil ?_
        refine cF hF (fun hF => ?_) fun hF => ?_
        ·
         refine ws 2433 2497 ?_
         refine qp (AB false) rfl ?_
         refine r_nil ?_
         refine w_ret ?_
         refine thenQ_r ?_
         refine blockQ_r ?_
         refine thenQ_r ?_
         refine thenQ_r ?_
         refine blockQ_r ?_
         refine thenQ_r ?_
         cases hF
         exact eR
        ·
         refine w_skip ?_
         refine thenQ_n ?_
         refine aw_ren (l' := [(0, AL 3 (v0.map ePerson)), (4, .ptr 0 0 0), (11, AL 3 (v0.map ePerson)), (12, AI (v0.length : Int)), (13, AI v50005)]) (L := [(0, .box [AS v1000.1, AI v1000.2.1, AL 1 (v1000.2.2.map V.str)])]) [0, 4, 11, 12, 13] [(257, 0)] 1 (by first | rfl | simp) (by first | rfl | simp) (by decide) (by decide) (by decide) ⟨rfl, hF⟩
       ·
        refine qn rfl (qn rfl (qn rfl (qn rfl (qn rfl (qn rfl (qn rfl (qn rfl ?_)))))))
        refine qn rfl (qg (AB false) rfl rfl (qp (AB false) rfl ?_))
        refine r_nil ?_
        refine w_false rfl ?_
        refine w_skip ?_
        refine thenQ_n ?_
        refine aw_ren (l' := [(0, AL 3 (v0.map ePerson)), (4, .ptr 0 0 0), (11, AL 3 (v0.map ePerson)), (12, AI (v0.length : Int)), (13, AI v50005)]) (L := [(0, .box [AS v1000.1, AI v1000.2.1, AL 1 (v1000.2.2.map V.str)])]) [0, 4, 11, 12, 13] [(257, 0)] 1 (by first | rfl | simp) (by first | rfl | simp) (by decide) (by decide) (by decide) ⟨rfl, hF⟩
   ·
    rintro s' ⟨rfl, hF⟩
    unfold F_impl_ValidPersons_j1 at hF
    refine ws 1 257 ?_
    refine qp (.ptr 0 0 2) rfl (qp (AL 1 (v1000.2.2.map V.str)) rfl (qp (AI (v1000.2.2.length : Int)) (ev_len_n rfl) (qp (AI 0) rfl ?_)))
    refine r_nil ?_
    refine w_block ?_
    refine wr (l' := [(0, AL 3 (v0.map ePerson)), (4, .ptr 0 0 0), (11, AL 3 (v0.map ePerson)), (12, AI (v0.length : Int)), (13, AI v50005), (50, AL 1 (v1000.2.2.map V.str)), (51, AI (v1000.2.2.length : Int)), (52, AI 0)]) (L := [(0, .box [AS v1000.1, AI v1000.2.1, AL 1 (v1000.2.2.map V.str)])]) [0, 4, 11, 12, 13, 50, 51, 52] [(0, 0)] 1 ?_
    refine w_loopF (F_impl_ValidPersons_l2 v0 v1000 v50005 k2) (fun s : Int => mkS [(0, AL 3 (v0.map ePerson)), (4, .ptr 0 0 0), (11, AL 3 (v0.map ePerson)), (12, AI (v0.length : Int)), (13, AI v50005), (50, AL 1 (v1000.2.2.map V.str)), (51, AI (v1000.2.2.length : Int)), (52, AI s)] (fo [(0, .box [AS v1000.1, AI v1000.2.1, AL 1 (v1000.2.2.map V.str)])]) 1) hF ?_
    rintro k4 v50009 hF
    rw [F_impl_ValidPersons_l2] at hF
    try dsimp only
    refine ws 1 65 ?_
    refine qp (AB (decide (v50009 < (v1000.2.2.length : Int)))) rfl ?_
    refine r_nil ?_
    refine w_seq ?_
    refine cF hF (fun hF => ?_) fun hF => ?_
    ·
     refine w_skip ?_
     refine thenQ_n ?_
     refine w_seq ?_
     refine w_block ?_
     refine ws 65 385 ?_
     refine qp (AI v50009) rfl ?_
     obtain ⟨v1007, e1007, hF⟩ := bind_get hF
     refine qp (.val none (.ptr [.str v1007])) (ev_iad_n rfl rfl e1007 rfl) (qp (AS v1007) rfl (qp (AI v50009) rfl (qp (AS v1007) rfl ?_)))
     refine r_nil ?_
     refine ws 385 641 ?_
     refine qp (AL 3 (v0.map ePerson)) rfl (qp (AS v1007) rfl ?_)
     obtain ⟨v1008, e1008, hF⟩ := bind_get hF
     refine qc (AI v1008) [(0, .box [AS v1000.1, AI v1000.2.1, AL 1 (v1000.2.2.map V.str)])] false (con_impl_personAt e1008) c38_ok (by first | rfl | simp) rfl ?_
     refine qp (AI v1008) rfl ?_
     refine r_nil ?_
     refine ws 641 2305 ?_
     refine qp (AI v1008) rfl (qp (AB (decide (v1008 < (0 : Int)))) rfl (qp (AB (decide (v1008 < (0 : Int)))) rfl ?_))
     refine q_case 62 hF rfl (fun hF => ?_) (fun hF => ?_)
     ·
      refine qn rfl (qn rfl (qn rfl (qn rfl (qn rfl (qn rfl (qn rfl (qn rfl ?_)))))))
      refine qp (AB true) rfl (qp (AB true) rfl (qn rfl (qn rfl (qn rfl (qu rfl (qu rfl (qu rfl ?_)))))))
      refine qu rfl (qu rfl (qu rfl (qu rfl (qu rfl (qn rfl (qp (AB true) rfl ?_))))))
      refine r_nil ?_
      refine w_true rfl ?_
      refine ws 2305 2369 ?_
      refine qp (AB false) rfl ?_
      refine r_nil ?_
      refine w_ret ?_
      refine blockQ_r ?_
      refine thenQ_r ?_
      refine thenQ_r ?_
      refine blockQ_r ?_
      refine blockQ_r ?_
      refine thenQ_r ?_
      refine thenQ_r ?_
      refine blockQ_r ?_
      refine thenQ_r ?_
      cases hF
      exact eR
     ·
      refine qg (AL 3 (v0.map ePerson)) rfl rfl (qg (AI v1008) rfl rfl ?_)
      obtain ⟨v1009, e1009, hF⟩ := bind_get hF
      refine qg (.val none (.ptr [.str v1009.1, .int .i64 v1009.2.1, .sl 1 (v1009.2.2.map V.str)])) rfl (ev_iad_n rfl rfl e1009 rfl) (qg (.val none (.ptr [.int .i64 v1009.2.1, .sl 1 (v1009.2.2.map V.str)])) rfl rfl (qg (AI v1009.2.1) rfl rfl (qg (.ptr 0 0 1) rfl rfl (qg (AI v1000.2.1) rfl rfl (qg (AB (decide (v1000.2.1 ≤ v1009.2.1))) rfl rfl (qp (AB (decide (v1000.2.1 ≤ v1009.2.1))) rfl (qp (AB (decide (v1000.2.1 ≤ v1009.2.1))) rfl ?_)))))))
      refine q_case 72 hF rfl (fun hF => ?_) (fun hF => ?_)
      ·
       refine qn rfl (qn rfl (qn rfl (qu rfl (qu rfl (qu rfl (qu rfl (qu rfl ?_)))))))
       refine qu rfl (qu rfl (qu rfl (qn rfl (qp (AB true) rfl ?_))))
       refine r_nil ?_
       refine w_true rfl ?_
       refine ws 2305 2369 ?_
       refine qp (AB false) rfl ?_
       refine r_nil ?_
       refine w_ret ?_
       refine blockQ_r ?_
       refine thenQ_r ?_
       refine thenQ_r ?_
       refine blockQ_r ?_
       refine blockQ_r ?_
       refine thenQ_r ?_
       refine thenQ_r ?_
       refine blockQ_r ?_
       refine thenQ_r ?_
       cases hF
       exact eR
      ·
       refine qg (AI v50009) rfl rfl (qg (AB (decide ((0 : Int) < v50009))) rfl rfl (qg (AB (decide ((0 : Int) < v50009))) rfl rfl ?_))
       refine q_case 75 hF rfl (fun hF => ?_) (fun hF => ?_)
       ·
        refine qg (AS v1007) rfl rfl (qg (.ptr 0 0 2) rfl rfl (qg (AL 1 (v1000.2.2.map V.str)) rfl rfl (qg (AI v50009) rfl rfl (qg (AI (w64 (v50009 - 1))) rfl rfl ?_))))
        obtain ⟨v1010, e1010, hF⟩ := bind_get hF
        refine qg (.val none (.ptr [.str v1010])) rfl (ev_iad_n rfl rfl e1010 rfl) (qg (AS v1010) rfl rfl (qg (AB (Op.bytesLess v1007 v1010 || decide (v1007 = v1010))) rfl rfl (qg (AB (Op.bytesLess v1007 v1010 || decide (v1007 = v1010))) rfl rfl (qp (AB (Op.bytesLess v1007 v1010 || decide (v1007 = v1010))) rfl ?_))))
        refine r_nil ?_
        refine cF hF (fun hF => ?_) fun hF => ?_
        ·
         refine ws 2305 2369 ?_
         refine qp (AB false) rfl ?_
         refine r_nil ?_
         refine w_ret ?_
         refine blockQ_r ?_
         refine thenQ_r ?_
         refine thenQ_r ?_
         refine blockQ_r ?_
         refine blockQ_r ?_
         refine thenQ_r ?_
         refine thenQ_r ?_
         refine blockQ_r ?_
         refine thenQ_r ?_
         cases hF
         exact eR
        ·
         refine w_skip ?_
         refine blockQ_n ?_
         refine thenQ_n ?_
         refine w_reg 2305 2433 rfl rfl ?_
         refine qp (AI (w64 (v50009 + 1))) rfl (qp (AI (w64 (v50009 + 1))) rfl ?_)
         refine r_nil ?_
         refine thenQ_n ?_
         refine ar (l' := [(0, AL 3 (v0.map ePerson)), (4, .ptr 0 0 0), (11, AL 3 (v0.map ePerson)), (12, AI (v0.length : Int)), (13, AI v50005), (50, AL 1 (v1000.2.2.map V.str)), (51, AI (v1000.2.2.length : Int)), (52, AI (w64 (v50009 + 1)))]) (L := [(0, .box [AS v1000.1, AI v1000.2.1, AL 1 (v1000.2.2.map V.str)])]) [0, 4, 11, 12, 13, 50, 51, 52] [(0, 0)] 1 ⟨_, by rfl, hF⟩
       ·
        refine qn rfl (qn rfl (qn rfl (qn rfl (qn rfl (qn rfl (qn rfl (qn rfl ?_)))))))
        refine qg (AB false) rfl rfl (qp (AB false) rfl ?_)
        refine r_nil ?_
        refine w_false rfl ?_
        refine w_skip ?_
        refine blockQ_n ?_
        refine thenQ_n ?_
        refine w_reg 2305 2433 rfl rfl ?_
        refine qp (AI (w64 (v50009 + 1))) rfl (qp (AI (w64 (v50009 + 1))) rfl ?_)
        refine r_nil ?_
        refine thenQ_n ?_
        refine ar (l' := [(0, AL 3 (v0.map ePerson)), (4, .ptr 0 0 0), (11, AL 3 (v0.map ePerson)), (12, AI (v0.length : Int)), (13, AI v50005), (50, AL 1 (v1000.2.2.map V.str)), (51, AI (v1000.2.2.length : Int)), (52, AI (w64 (v50009 + 1)))]) (L := [(0, .box [AS v1000.1, AI v1000.2.1, AL 1 (v1000.2.2.map V.str)])]) [0, 4, 11, 12, 13, 50, 51, 52] [(0, 0)] 1 ⟨_, by rfl, hF⟩
    ·
     refine w_exit ?_
     refine thenQ_e ?_
     refine thenQ_e ?_
     refine blockQ_e ?_
     refine blockQ_n ?_
     refine thenQ_n ?_
     refine w_reg 65 193 rfl rfl ?_
     refine qp (AI (w64 (v50005 + 1))) rfl (qp (AI (w64 (v50005 + 1))) rfl ?_)
     refine r_nil ?_
     refine thenQ_n ?_
     refine ar (l' := [(0, AL 3 (v0.map ePerson)), (11, AL 3 (v0.map ePerson)), (12, AI (v0.length : Int)), (13, AI (w64 (v50005 + 1)))]) (L := []) [0, 11, 12, 13] [] 1 ⟨_, by rfl, hF⟩
  ·
   refine w_exit ?_
   refine thenQ_e ?_
   refine thenQ_e ?_
   refine blockQ_e ?_
   refine thenQ_n ?_
   refine ws 65 129 ?_
   refine qp (AB true) rfl ?_
   refine r_nil ?_
   refine w_ret ?_
   cases hF
   exact eR

theorem c42_ok : okFn Tryd.prog 42 = true := by kernel_rfl




def c20 : MC := (.seq (.reg [rg 2 (.p true (.mv (.c (.str []))))]) (.seq (.reg [mvt 3 0, rg 4 (.call true 42 [(.t 3), (.c (.int .i64 10))]), mvt 2 4]) .ret))
theorem c20_is : compFn Tryd.prog 20 = some (c20, [(.tmp 2)]) := by kernel_rfl
theorem c20_ok : okFn Tryd.prog 20 = true := by kernel_rfl

noncomputable def F_impl_Decimal (v0 : Int) : Option (List UInt8) :=
 ((F_formatInt v0 10).bind fun v1000 => some v1000)
@[simp] def res_impl_Decimal (r : List UInt8) : RV := .one (.one (.val (.str r)))
theorem con_impl_Decimal {v0 : Int} {r : List UInt8} (hF : F_impl_Decimal v0 = some r) : Con Tryd.prog 20 [.int .i64 v0] (res_impl_Decimal r) := by
 unfold F_impl_Decimal at hF
 refine con_of c20_is fun N => ?_
 refine ws 0 64 ?_
 refine qp (AS []) rfl ?_
 refine r_nil ?_
 refine ws 64 256 ?_
 refine qp (AI v0) rfl ?_
 obtain ⟨v1000, e1000, hF⟩ := bind_get hF
 refine qc (AS v1000) [] false (con_formatInt e1000) c42_ok (by first | rfl | simp) rfl ?_
 refine qp (AS v1000) rfl ?_
 refine r_nil ?_
 refine w_ret ?_
 cases hF
 exact eR

theorem c19_ok : okFn Tryd.prog 19 = true := by kernel_rfl




def c8 : MC := (.seq (.reg [rg 2 (.p true (.mv (.c (.str []))))]) (.seq (.seq (.reg [mvt 6 0, rg 7 (.call true 18 [(.t 6)]), rg 8 (.p true (.not (.t 7)))]) (.cond (.t 8) (.seq (.reg [rg 2 (.p true (.mv (.c (.str []))))]) .ret) .skip)) (.seq (.reg [rg 3 (.f (.nilrow 1))]) (.seq (.seq (.reg [mvt 9 0, rg 10 (.p true (.len (.t 9))), rg 11 (.p true (.mv (.c (.int .i64 0))))]) (.block 0 (.loop (.seq (.reg [rg 12 (.p true (.bin .lss (.t 11) (.t 10)))]) (.seq (.cond (.t 12) .skip (.exit 0)) (.seq (.block 1 (.seq (.reg [rg 13 (.p true (.iad (.t 9) (.t 11) 3)), rg 14 (.p true (.ld (.t 13) 3 true)), rg 5 (.f (.alloc [((.str []), (0, false)), ((.int .i64 0), (0, false)), ((.sl 0 []), (1, false))])), ⟨none, none, (.f (.st (.t 5) (.t 14) 3))⟩]) (.reg [rg 15 (.p false (.mv (.t 3))), rg 16 (.p false (.fad (.t 5) 0)), rg 17 (.p false (.ld (.t 16) 1 false)), rg 18 (.p false (.fad (.t 5) 1)), rg 19 (.p false (.ld (.t 18) 1 false)), rg 20 (.call false 20 [(.t 19)]), rg 21 (.f (.bslp 1 [(.t 17), (.t 20)])), rg 22 (.p false (.fad (.t 5) 2)), rg 23 (.p false (.ld (.t 22) 1 false)), rg 24 (.f (.app (.t 21) (.t 23) 1 16 false)), rg 25 (.call false 19 [(.t 24), (.c (.str [32]))]), rg 26 (.f (.bslp 1 [(.t 25)])), rg 27 (.f (.app (.t 15) (.t 26) 1 16 true)), rg 3 (.p false (.mv (.t 27)))]))) (.reg [rg 28 (.p true (.bin .add (.t 11) (.c (.int .i64 1)))), mvt 11 28]))))))) (.seq (.reg [mvt 29 3, rg 30 (.call true 19 [(.t 29), (.c (.str [47]))]), mvt 2 30]) .ret)))))
theorem c8_is : compFn Tryd.prog 8 = some (c8, [(.tmp 2)]) := by kernel_rfl
theorem c8_ok : okFn Tryd.prog 8 = true := by kernel_rfl

noncomputable def F_impl_PersonsText_l0 (v0 : List TPerson) (k1 : Int × (List (List UInt8)) → Option (List UInt8)) : Int × (List (List UInt8)) → Option (List UInt8)
 | (v50006, v50007) => (bif (decide (v50006 < (v0.length : Int))) then ((ix v0 v50006).bind fun v1011 => ((F_impl_Decimal v1011.2.1).bind fun v1012 => (need (room ([v1011.1, v1012].length + v1011.2.2.length) 16) (((F_join ([v1011.1, v1012] ++ v1011.2.2) [32]).bind fun v1014 => (need (room (v50007.length + [v1014].length) 16) (k1 (w64 (v50006 + 1), v50007 ++ [v1014]))))))))
 else ((F_join v50007 [47]).bind fun v1016 => some v1016))
noncomputable def F_impl_PersonsText (v0 : List TPerson) : Option (List UInt8) :=
 ((F_impl_ValidPersons v0).bind fun v1000 => (bif (!v1000) then some []
 else loop (F_impl_PersonsText_l0 v0) (0, [])))
@[simp] def res_impl_PersonsText (r : List UInt8) : RV := .one (.one (.val (.str r)))
theorem con_impl_PersonsText {v0 : List TPerson} {r : List UInt8} (hF : F_impl_PersonsText v0 = some r) : Con Tryd.prog 8 [.sl 3 (v0.map ePerson)] (res_impl_PersonsText r) := by
 unfold F_impl_PersonsText at hF
 refine con_of c8_is fun N => ?_
 refine ws 0 64 ?_
 refine qp (AS []) rfl ?_
 refine r_nil ?_
 refine w_seq ?_
 refine ws 64 256 ?_
 refine qp (AL 3 (v0.map ePerson)) rfl ?_
 obtain ⟨v1000, e1000, hF⟩ := bind_get hF
 refine qc (AB v1000) [] false (con_impl_ValidPersons e1000) c18_ok (by first | rfl | simp) rfl ?_
 refine qp (AB (!v1000)) rfl ?_
 refine r_nil ?_
 refine cF hF (fun hF => ?_) fun hF => ?_
 ·
  refine ws 256 320 ?_
  refine qp (AS []) rfl ?_
  refine r_nil ?_
  refine w_ret ?_
  refine thenQ_r ?_
  cases hF
  exact eR
 ·
  refine w_skip ?_
  refine thenQ_n ?_
  refine ws 256 320 ?_
  refine qf (.sl 256 0 0) [(256, .row true 1 (([] : List (List UInt8)).map V.str))] (by simp) ?_
  refine r_nil ?_
  refine w_seq ?_
  refine ws 320 512 ?_
  refine qp (AL 3 (v0.map ePerson)) rfl (qp (AI (v0.length : Int)) (ev_len_n rfl) (qp (AI 0) rfl ?_))
  refine r_nil ?_
  refine w_block ?_
  refine wr (l' := [(3, .sl 0 0 0), (9, AL 3 (v0.map ePerson)), (10, AI (v0.length : Int)), (11, AI 0)]) (L := [(0, .row true 1 (([] : List (List UInt8)).map V.str))]) [3, 9, 10, 11] [(256, 0)] 1 ?_
  refine w_loopF (F_impl_PersonsText_l0 v0) (fun s : Int × (List (List UInt8)) => mkS [(3, .sl 0 0 s.2.length), (9, AL 3 (v0.map ePerson)), (10, AI (v0.length : Int)), (11, AI s.1)] (fo [(0, .row true 1 (s.2.map V.str))]) 1) hF ?_
  rintro k1 ⟨v50006, v50007⟩ hF
  rw [F_impl_PersonsText_l0] at hF
  try dsimp only
  refine ws 1 65 ?_
  refine qp (AB (decide (v50006 < (v0.length : Int)))) rfl ?_
  refine r_nil ?_
  refine w_seq ?_
  refine cF hF (fun hF => ?_) fun hF => ?_
  ·
   refine w_skip ?_
   refine thenQ_n ?_
   refine w_seq ?_
   refine w_block ?_
   refine ws 65 321 ?_
   obtain ⟨v1011, e1011, hF⟩ := bind_get hF
   refine qp (.val none (.ptr [.str v1011.1, .int .i64 v1011.2.1, .sl 1 (v1011.2.2.map V.str)])) (ev_iad_n rfl rfl e1011 rfl) (qp (.val none (ePerson v1011)) rfl ?_)
   refine qf (.ptr 193 0 0) [(193, .box [AS [], AI 0, .sl 194 0 0]), (194, .row true 1 (([] : List Int).map vI)), (0, .row true 1 (v50007.map V.str))] (by simp) ?_
   refine qf0 (.undef) [(193, .box [AS v1011.1, AI v1011.2.1, AL 1 (v1011.2.2.map V.str)]), (193, .box [AS [], AI 0, .sl 194 0 0]), (194, .row true 1 (([] : List Int).map vI)), (0, .row true 1 (v50007.map V.str))] (by simp) ?_
   refine r_nil ?_
   refine w_reg 321 1217 rfl rfl ?_
   refine qp (.sl 0 0 v50007.length) rfl (qp (.ptr 193 0 0) rfl (qp (AS v1011.1) rfl (qp (.ptr 193 0 1) rfl (qp (AI v1011.2.1) rfl ?_))))
   obtain ⟨v1012, e1012, hF⟩ := bind_get hF
   refine qc (AS v1012) [(193, .box [AS v1011.1, AI v1011.2.1, AL 1 (v1011.2.2.map V.str)]), (193, .box [AS [], AI 0, .sl 194 0 0]), (194, .row true 1 (([] : List Int).map vI)), (0, .row true 1 (v50007.map V.str))] false (con_impl_Decimal e1012) c20_ok (by first | rfl | simp) rfl ?_
   refine qf (.sl 705 0 ([v1011.1, v1012].length)) [(705, .row true 1 ([v1011.1, v1012].map V.str)), (193, .box [AS v1011.1, AI v1011.2.1, AL 1 (v1011.2.2.map V.str)]), (193, .box [AS [], AI 0, .sl 194 0 0]), (194, .row true 1 (([] : List Int).map vI)), (0, .row true 1 (v50007.map V.str))] (by simp [List.take_of_length_le]) ?_
   refine qp (.ptr 193 0 2) rfl (qp (AL 1 (v1011.2.2.map V.str)) rfl ?_)
   obtain ⟨g1013, hF⟩ := need_some hF
   refine qf (.sl 897 0 (([v1011.1, v1012] ++ v1011.2.2).length)) [(897, .row true 1 (([v1011.1, v1012] ++ v1011.2.2).map V.str)), (705, .dead), (705, .row true 1 ([v1011.1, v1012].map V.str)), (193, .box [AS v1011.1, AI v1011.2.1, AL 1 (v1011.2.2.map V.str)]), (193, .box [AS [], AI 0, .sl 194 0 0]), (194, .row true 1 (([] : List Int).map vI)), (0, .row true 1 (v50007.map V.str))] (effT_app_v rfl (by simp) rfl rfl (fun _ => rfl) g1013) ?_
   obtain ⟨v1014, e1014, hF⟩ := bind_get hF
   refine qc (AS v1014) [(897, .row true 1 (([v1011.1, v1012] ++ v1011.2.2).map V.str)), (705, .dead), (705, .row true 1 ([v1011.1, v1012].map V.str)), (193, .box [AS v1011.1, AI v1011.2.1, AL 1 (v1011.2.2.map V.str)]), (193, .box [AS [], AI 0, .sl 194 0 0]), (194, .row true 1 (([] : List Int).map vI)), (0, .row true 1 (v50007.map V.str))] true (con_join e1014) c19_ok (by simp [List.take_of_length_le]) rfl ?_
   refine qf (.sl 1025 0 ([v1014].length)) [(1025, .row true 1 ([v1014].map V.str)), (897, .row true 1 (([v1011.1, v1012] ++ v1011.2.2).map V.str)), (705, .dead), (705, .row true 1 ([v1011.1, v1012].map V.str)), (193, .box [AS v1011.1, AI v1011.2.1, AL 1 (v1011.2.2.map V.str)]), (193, .box [AS [], AI 0, .sl 194 0 0]), (194, .row true 1 (([] : List Int).map vI)), (0, .row true 1 (v50007.map V.str))] (by simp [List.take_of_length_le]) ?_
   obtain ⟨g1015, hF⟩ := need_some hF
   refine qf (.sl 1089 0 ((v50007 ++ [v1014]).length)) [(1089, .row true 1 ((v50007 ++ [v1014]).map V.str)), (0, .dead), (1025, .dead), (1025, .row true 1 ([v1014].map V.str)), (897, .row true 1 (([v1011.1, v1012] ++ v1011.2.2).map V.str)), (705, .dead), (705, .row true 1 ([v1011.1, v1012].map V.str)), (193, .box [AS v1011.1, AI v1011.2.1, AL 1 (v1011.2.2.map V.str)]), (193, .box [AS [], AI 0, .sl 194 0 0]), (194, .row true 1 (([] : List Int).map vI)), (0, .row true 1 (v50007.map V.str))] (effT_app_l rfl (by simp) rfl rfl (by simp) rfl (by decide) g1015 rfl) ?_
   refine qp (.sl 1089 0 ((v50007 ++ [v1014]).length)) rfl ?_
   refine r_nil ?_
   refine blockQ_n ?_
   refine thenQ_n ?_
   refine w_reg 1217 1345 rfl rfl ?_
   refine qp (AI (w64 (v50006 + 1))) rfl (qp (AI (w64 (v50006 + 1))) rfl ?_)
   refine r_nil ?_
   refine thenQ_n ?_
   refine ar (l' := [(3, .sl 0 0 (v50007 ++ [v1014]).length), (9, AL 3 (v0.map ePerson)), (10, AI (v0.length : Int)), (11, AI (w64 (v50006 + 1)))]) (L := [(0, .row true 1 ((v50007 ++ [v1014]).map V.str))]) [3, 9, 10, 11] [(1089, 0)] 1 ⟨_, by rfl, hF⟩
  ·
   refine w_exit ?_
   refine thenQ_e ?_
   refine thenQ_e ?_
   refine blockQ_e ?_
   refine thenQ_n ?_
   refine ws 65 257 ?_
   refine qp (.sl 0 0 v50007.length) rfl ?_
   obtain ⟨v1016, e1016, hF⟩ := bind_get hF
   refine qc (AS v1016) [(0, .row true 1 (v50007.map V.str))] true (con_join e1016) c19_ok (by simp [List.take_of_length_le]) rfl ?_
   refine qp (AS v1016) rfl ?_
   refine r_nil ?_
   refine w_ret ?_
   cases hF
   exact eR

def c43 : MC := (.seq (.reg [rg 4 (.p true (.mv (.c (.bool false))))]) (.seq (.seq (.reg [mvt 6 0, rg 7 (.p true (.len (.t 6))), mvt 8 1, rg 9 (.p true (.len (.t 8))), rg 10 (.p true (.bin .neq (.t 7) (.t 9)))]) (.cond (.t 10) (.seq (.reg [rg 4 (.p true (.mv (.c (.bool false))))]) .ret) .skip)) (.seq (.seq (.reg [rg 5 (.p true (.mv (.c (.int .i64 0))))]) (.block 0 (.loop (.seq (.seq (.reg [mvt 11 5, mvt 12 0, rg 13 (.p true (.len (.t 12))), rg 14 (.p true (.bin .lss (.t 11) (.t 13)))]) (.cond (.t 14) .skip (.exit 0))) (.seq (.block 1 (.seq (.reg [rg 17 (.p false (.mv (.t 0))), rg 18 (.p false (.mv (.t 5))), rg 19 (.p false (.iad (.t 17) (.t 18) 1)), rg 20 (.p false (.ld (.t 19) 1 false)), rg 21 (.p false (.mv (.t 1))), rg 22 (.p false (.mv (.t 5))), rg 23 (.p false (.iad (.t 21) (.t 22) 1)), rg 24 (.p false (.ld (.t 23) 1 false)), rg 25 (.p false (.bin .neq (.t 20) (.t 24)))]) (.cond (.t 25) (.seq (.reg [rg 4 (.p true (.mv (.c (.bool false))))]) .ret) .skip))) (.reg [mvt 15 5, rg 16 (.p true (.bin .add (.t 15) (.c (.int .i64 1)))), mvt 5 16])))))) (.seq (.reg [rg 4 (.p true (.mv (.c (.bool true))))]) .ret))))
theorem c43_is : compFn Tryd.prog 43 = some (c43, [(.tmp 4)]) := by kernel_rfl
theorem c43_ok : okFn Tryd.prog 43 = true := by kernel_rfl

noncomputable def F_laws_eqStringS_l0 (v0 : List (List UInt8)) (v1 : List (List UInt8)) (k0 : Int → Option (Bool)) : Int → Option (Bool)
 | v50001 => (bif (decide (v50001 < (v0.length : Int))) then ((ix v0 v50001).bind fun v1000 => ((ix v1 v50001).bind fun v1001 => (bif (decide (v1000 ≠ v1001)) then some false
 else k0 (w64 (v50001 + 1)))))
 else some true)
noncomputable def F_laws_eqStringS (v0 : List (List UInt8)) (v1 : List (List UInt8)) : Option (Bool) :=
 (bif (decide ((v0.length : Int) ≠ (v1.length : Int))) then some false
 else loop (F_laws_eqStringS_l0 v0 v1) 0)
@[simp] def res_laws_eqStringS (r : Bool) : RV := .one (.one (.val (.bool r)))
theorem con_laws_eqStringS {v0 : List (List UInt8)} {v1 : List (List UInt8)} {r : Bool} (hF : F_laws_eqStringS v0 v1 = some r) : Con Tryd.prog 43 [.sl 1 (v0.map V.str), .sl 1 (v1.map V.str)] (res_laws_eqStringS r) := by
 unfold F_laws_eqStringS at hF
 refine con_of c43_is fun N => ?_
 refine ws 0 64 ?_
 refine qp (AB false) rfl ?_
 refine r_nil ?_
 refine w_seq ?_
 refine ws 64 384 ?_
 refine qp (AL 1 (v0.map V.str)) rfl (qp (AI (v0.length : Int)) (ev_len_n rfl) (qp (AL 1 (v1.map V.str)) rfl (qp (AI (v1.length : Int)) (ev_len_n rfl) (qp (AB (decide ((v0.length : Int) ≠ (v1.length : Int)))) rfl ?_))))
 refine r_nil ?_
 refine cF hF (fun hF => ?_) fun hF => ?_
 ·
  refine ws 384 448 ?_
  refine qp (AB false) rfl ?_
  refine r_nil ?_
  refine w_ret ?_
  refine thenQ_r ?_
  cases hF
  exact eR
 ·
  refine w_skip ?_
  refine thenQ_n ?_
  refine w_seq ?_
  refine ws 384 448 ?_
  refine qp (AI 0) rfl ?_
  refine r_nil ?_
  refine w_block ?_
  refine wr (l' := [(0, AL 1 (v0.map V.str)), (1, AL 1 (v1.map V.str)), (5, AI 0)]) (L := []) [0, 1, 5] [] 1 ?_
  refine w_loopF (F_laws_eqStringS_l0 v0 v1) (fun s : Int => mkS [(0, AL 1 (v0.map V.str)), (1, AL 1 (v1.map V.str)), (5, AI s)] (fo []) 1) hF ?_
  rintro k0 v50001 hF
  rw [F_laws_eqStringS_l0] at hF
  try dsimp only
  refine w_seq ?_
  refine ws 1 257 ?_
  refine qp (AI v50001) rfl (qp (AL 1 (v0.map V.str)) rfl (qp (AI (v0.length : Int)) (ev_len_n rfl) (qp (AB (decide (v50001 < (v0.length : Int)))) rfl ?_)))
  refine r_nil ?_
  refine cF hF (fun hF => ?_) fun hF => ?_
  ·
   refine w_skip ?_
   refine thenQ_n ?_
   refine w_seq ?_
   refine w_block ?_
   refine ws 257 833 ?_
   refine qp (AL 1 (v0.map V.str)) rfl (qp (AI v50001) rfl ?_)
   obtain ⟨v1000, e1000, hF⟩ := bind_get hF
   refine qp (.val none (.ptr [.str v1000])) (ev_iad_n rfl rfl e1000 rfl) (qp (AS v1000) rfl (qp (AL 1 (v1.map V.str)) rfl (qp (AI v50001) rfl ?_)))
   obtain ⟨v1001, e1001, hF⟩ := bind_get hF
   refine qp (.val none (.ptr [.str v1001])) (ev_iad_n rfl rfl e1001 rfl) (qp (AS v1001) rfl (qp (AB (decide (v1000 ≠ v1001))) rfl ?_))
   refine r_nil ?_
   refine cF hF (fun hF => ?_) fun hF => ?_
   ·
    refine ws 833 897 ?_
    refine qp (AB false) rfl ?_
    refine r_nil ?_
    refine w_ret ?_
    refine blockQ_r ?_
    refine thenQ_r ?_
    refine thenQ_r ?_
    refine blockQ_r ?_
    refine thenQ_r ?_
    cases hF
    exact eR
   ·
    refine w_skip ?_
    refine blockQ_n ?_
    refine thenQ_n ?_
    refine w_reg 833 1025 rfl rfl ?_
    refine qp (AI v50001) rfl (qp (AI (w64 (v50001 + 1))) rfl (qp (AI (w64 (v50001 + 1))) rfl ?_))
    refine r_nil ?_
    refine thenQ_n ?_
    refine ar (l' := [(0, AL 1 (v0.map V.str)), (1, AL 1 (v1.map V.str)), (5, AI (w64 (v50001 + 1)))]) (L := []) [0, 1, 5] [] 1 ⟨_, by rfl, hF⟩
  ·
   refine w_exit ?_
   refine thenQ_e ?_
   refine thenQ_e ?_
   refine blockQ_e ?_
   refine thenQ_n ?_
   refine ws 257 321 ?_
   refine qp (AB true) rfl ?_
   refine r_nil ?_
   refine w_ret ?_
   cases hF
   exact eR

def c21 : MC := (.seq (.reg [rg 2 (.f (.box (.t 0))), rg 3 (.f (.box (.t 1))), rg 4 (.p true (.mv (.c (.bool false))))]) (.seq (.seq (.reg [rg 5 (.p true (.fad (.t 2) 0)), rg 6 (.p true (.ld (.t 5) 1 false)), rg 7 (.p true (.fad (.t 3) 0)), rg 8 (.p true (.ld (.t 7) 1 false)), rg 9 (.p true (.bin .neq (.t 6) (.t 8)))]) (.cond (.t 9) (.seq (.reg [rg 4 (.p true (.mv (.c (.bool false))))]) .ret) .skip)) (.seq (.seq (.reg [rg 10 (.p true (.fad (.t 2) 1)), rg 11 (.p true (.ld (.t 10) 1 false)), rg 12 (.p true (.fad (.t 3) 1)), rg 13 (.p true (.ld (.t 12) 1 false)), rg 14 (.p true (.bin .neq (.t 11) (.t 13)))]) (.cond (.t 14) (.seq (.reg [rg 4 (.p true (.mv (.c (.bool false))))]) .ret) .skip)) (.seq (.seq (.reg [rg 15 (.p true (.fad (.t 2) 2)), rg 16 (.p true (.ld (.t 15) 1 false)), rg 17 (.p true (.fad (.t 3) 2)), rg 18 (.p true (.ld (.t 17) 1 false)), rg 19 (.call true 43 [(.t 16), (.t 18)]), rg 20 (.p true (.not (.t 19)))]) (.cond (.t 20) (.seq (.reg [rg 4 (.p true (.mv (.c (.bool false))))]) .ret) .skip)) (.seq (.reg [rg 4 (.p true (.mv (.c (.bool true))))]) .ret)))))
theorem c21_is : compFn Tryd.prog 21 = some (c21, [(.tmp 4)]) := by kernel_rfl
theorem c21_ok : okFn Tryd.prog 21 = true := by kernel_rfl

noncomputable def F_laws_eqPerson (v0 : TPerson) (v1 : TPerson) : Option (Bool) :=
 (bif (decide (v0.1 ≠ v1.1)) then some false
 else (bif (decide (v0.2.1 ≠ v1.2.1)) then some false
 else ((F_laws_eqStringS v0.2.2 v1.2.2).bind fun v1000 => (bif (!v1000) then some false
 else some true))))
@[simp] def res_laws_eqPerson (r : Bool) : RV := .one (.one (.val (.bool r)))
theorem con_laws_eqPerson {v0 : TPerson} {v1 : TPerson} {r : Bool} (hF : F_laws_eqPerson v0 v1 = some r) : Con Tryd.prog 21 [ePerson v0, ePerson v1] (res_laws_eqPerson r) := by
 unfold F_laws_eqPerson at hF
 refine con_of c21_is fun N => ?_
 refine ws 0 192 ?_
 refine qf (.ptr 0 0 0) [(0, .box [AS v0.1, AI v0.2.1, AL 1 (v0.2.2.map V.str)])] (by simp) ?_
 refine qf (.ptr 64 0 0) [(64, .box [AS v1.1, AI v1.2.1, AL 1 (v1.2.2.map V.str)]), (0, .box [AS v0.1, AI v0.2.1, AL 1 (v0.2.2.map V.str)])] (by simp) ?_
 refine qp (AB false) rfl ?_
 refine r_nil ?_
 refine w_seq ?_
 refine ws 192 512 ?_
 refine qp (.ptr 0 0 0) rfl (qp (AS v0.1) rfl (qp (.ptr 64 0 0) rfl (qp (AS v1.1) rfl (qp (AB (decide (v0.1 ≠ v1.1))) rfl ?_))))
 refine r_nil ?_
 refine cF hF (fun hF => ?_) fun hF => ?_
 ·
  refine ws 512 576 ?_
  refine qp (AB false) rfl ?_
  refine r_nil ?_
  refine w_ret ?_
  refine thenQ_r ?_
  cases hF
  exact eR
 ·
  refine w_skip ?_
  refine thenQ_n ?_
  refine w_seq ?_
  refine ws 512 832 ?_
  refine qp (.ptr 0 0 1) rfl (qp (AI v0.2.1) rfl (qp (.ptr 64 0 1) rfl (qp (AI v1.2.1) rfl (qp (AB (decide (v0.2.1 ≠ v1.2.1))) rfl ?_))))
  refine r_nil ?_
  refine cF hF (fun hF => ?_) fun hF => ?_
  ·
   refine ws 832 896 ?_
   refine qp (AB false) rfl ?_
   refine r_nil ?_
   refine w_ret ?_
   refine thenQ_r ?_
   cases hF
   exact eR
  ·
   refine w_skip ?_
   refine thenQ_n ?_
   refine w_seq ?_
   refine ws 832 1216 ?_
   refine qp (.ptr 0 0 2) rfl (qp (AL 1 (v0.2.2.map V.str)) rfl (qp (.ptr 64 0 2) rfl (qp (AL 1 (v1.2.2.map V.str)) rfl ?_)))
   obtain ⟨v1000, e1000, hF⟩ := bind_get hF
   refine qc (AB v1000) [(64, .box [AS v1.1, AI v1.2.1, AL 1 (v1.2.2.map V.str)]), (0, .box [AS v0.1, AI v0.2.1, AL 1 (v0.2.2.map V.str)])] false (con_laws_eqStringS e1000) c43_ok (by first | rfl | simp) rfl ?_
   refine qp (AB (!v1000)) rfl ?_
   refine r_nil ?_
   refine cF hF (fun hF => ?_) fun hF => ?_
   ·
    refine ws 1216 1280 ?_
    refine qp (AB false) rfl ?_
    refine r_nil ?_
    refine w_ret ?_
    refine thenQ_r ?_
    cases hF
    exact eR
   ·
    refine w_skip ?_
    refine thenQ_n ?_
    refine ws 1216 1280 ?_
    refine qp (AB true) rfl ?_
    refine r_nil ?_
    refine w_ret ?_
    cases hF
    exact eR

def c9 : MC := (.seq (.reg [rg 4 (.p true (.mv (.c (.bool false))))]) (.seq (.seq (.reg [mvt 6 0, rg 7 (.p true (.len (.t 6))), mvt 8 1, rg 9 (.p true (.len (.t 8))), rg 10 (.p true (.bin .neq (.t 7) (.t 9)))]) (.cond (.t 10) (.seq (.reg [rg 4 (.p true (.mv (.c (.bool false))))]) .ret) .skip)) (.seq (.seq (.reg [rg 5 (.p true (.mv (.c (.int .i64 0))))]) (.block 0 (.loop (.seq (.seq (.reg [mvt 11 5, mvt 12 0, rg 13 (.p true (.len (.t 12))), rg 14 (.p true (.bin .lss (.t 11) (.t 13)))]) (.cond (.t 14) .skip (.exit 0))) (.seq (.block 1 (.seq (.reg [rg 17 (.p false (.mv (.t 0))), rg 18 (.p false (.mv (.t 5))), rg 19 (.p false (.iad (.t 17) (.t 18) 3)), rg 20 (.p false (.ld (.t 19) 3 true)), rg 21 (.p false (.mv (.t 1))), rg 22 (.p false (.mv (.t 5))), rg 23 (.p false (.iad (.t 21) (.t 22) 3)), rg 24 (.p false (.ld (.t 23) 3 true)), rg 25 (.call false 21 [(.t 20), (.t 24)]), rg 26 (.p false (.not (.t 25)))]) (.cond (.t 26) (.seq (.reg [rg 4 (.p true (.mv (.c (.bool false))))]) .ret) .skip))) (.reg [mvt 15 5, rg 16 (.p true (.bin .add (.t 15) (.c (.int .i64 1)))), mvt 5 16])))))) (.seq (.reg [rg 4 (.p true (.mv (.c (.bool true))))]) .ret))))
theorem c9_is : compFn Tryd.prog 9 = some (c9, [(.tmp 4)]) := by kernel_rfl
theorem c9_ok : okFn Tryd.prog 9 = true := by kernel_rfl

noncomputable def F_laws_eqPersonS_l0 (v0 : List TPerson) (v1 : List TPerson) (k0 : Int → Option (Bool)) : Int → Option (Bool)
 | v50001 => (bif (decide (v50001 < (v0.length : Int))) then ((ix v0 v50001).bind fun v1000 => ((ix v1 v50001).bind fun v1001 => ((F_laws_eqPerson v1000 v1001).bind fun v1002 => (bif (!v1002) then some false
 else k0 (w64 (v50001 + 1))))))
 else some true)
noncomputable def F_laws_eqPersonS (v0 : List TPerson) (v1 : List TPerson) : Option (Bool) :=
 (bif (decide ((v0.length : Int) ≠ (v1.length : Int))) then some false
 else loop (F_laws_eqPersonS_l0 v0 v1) 0)
@[simp] def res_laws_eqPersonS (r : Bool) : RV := .one (.one (.val (.bool r)))
theorem con_laws_eqPersonS {v0 : List TPerson} {v1 : List TPerson} {r : Bool} (hF : F_laws_eqPersonS v0 v1 = some r) : Con Tryd.prog 9 [.sl 3 (v0.map ePerson), .sl 3 (v1.map ePerson)] (res_laws_eqPersonS r) := by
 unfold F_laws_eqPersonS at hF
 refine con_of c9_is fun N => ?_
 refine ws 0 64 ?_
 refine qp (AB false) rfl ?_
 refine r_nil ?_
 refine w_seq ?_
 refine ws 64 384 ?_
 refine qp (AL 3 (v0.map ePerson)) rfl (qp (AI (v0.length : Int)) (ev_len_n rfl) (qp (AL 3 (v1.map ePerson)) rfl (qp (AI (v1.length : Int)) (ev_len_n rfl) (qp (AB (decide ((v0.length : Int) ≠ (v1.length : Int)))) rfl ?_))))
 refine r_nil ?_
 refine cF hF (fun hF => ?_) fun hF => ?_
 ·
  refine ws 384 448 ?_
  refine qp (AB false) rfl ?_
  refine r_nil ?_
  refine w_ret ?_
  refine thenQ_r ?_
  cases hF
  exact eR
 ·
  refine w_skip ?_
  refine thenQ_n ?_
  refine w_seq ?_
  refine ws 384 448 ?_
  refine qp (AI 0) rfl ?_
  refine r_nil ?_
  refine w_block ?_
  refine wr (l' := [(0, AL 3 (v0.map ePerson)), (1, AL 3 (v1.map ePerson)), (5, AI 0)]) (L := []) [0, 1, 5] [] 1 ?_
  refine w_loopF (F_laws_eqPersonS_l0 v0 v1) (fun s : Int => mkS [(0, AL 3 (v0.map ePerson)), (1, AL 3 (v1.map ePerson)), (5, AI s)] (fo []) 1) hF ?_
  rintro k0 v50001 hF
  rw [F_laws_eqPersonS_l0] at hF
  try dsimp only
  refine w_seq ?_
  refine ws 1 257 ?_
  refine qp (AI v50001) rfl (qp (AL 3 (v0.map ePerson)) rfl (qp (AI (v0.length : Int)) (ev_len_n rfl) (qp (AB (decide (v50001 < (v0.length : Int)))) rfl ?_)))
  refine r_nil ?_
  refine cF hF (fun hF => ?_) fun hF => ?_
  ·
   refine w_skip ?_
   refine thenQ_n ?_
   refine w_seq ?_
   refine w_block ?_
   refine ws 257 897 ?_
   refine qp (AL 3 (v0.map ePerson)) rfl (qp (AI v50001) rfl ?_)
   obtain ⟨v1000, e1000, hF⟩ := bind_get hF
   refine qp (.val none (.ptr [.str v1000.1, .int .i64 v1000.2.1, .sl 1 (v1000.2.2.map V.str)])) (ev_iad_n rfl rfl e1000 rfl) (qp (.val none (ePerson v1000)) rfl (qp (AL 3 (v1.map ePerson)) rfl (qp (AI v50001) rfl ?_)))
   obtain ⟨v1001, e1001, hF⟩ := bind_get hF
   refine qp (.val none (.ptr [.str v1001.1, .int .i64 v1001.2.1, .sl 1 (v1001.2.2.map V.str)])) (ev_iad_n rfl rfl e1001 rfl) (qp (.val none (ePerson v1001)) rfl ?_)
   obtain ⟨v1002, e1002, hF⟩ := bind_get hF
   refine qc (AB v1002) [] false (con_laws_eqPerson e1002) c21_ok (by first | rfl | simp) rfl ?_
   refine qp (AB (!v1002)) rfl ?_
   refine r_nil ?_
   refine cF hF (fun hF => ?_) fun hF => ?_
   ·
    refine ws 897 961 ?_
    refine qp (AB false) rfl ?_
    refine r_nil ?_
    refine w_ret ?_
    refine blockQ_r ?_
    refine thenQ_r ?_
    refine thenQ_r ?_
    refine blockQ_r ?_
    refine thenQ_r ?_
    cases hF
    exact eR
   ·
    refine w_skip ?_
    refine blockQ_n ?_
    refine thenQ_n ?_
    refine w_reg 897 1089 rfl rfl ?_
    refine qp (AI v50001) rfl (qp (AI (w64 (v50001 + 1))) rfl (qp (AI (w64 (v50001 + 1))) rfl ?_))
    refine r_nil ?_
    refine thenQ_n ?_
    refine ar (l' := [(0, AL 3 (v0.map ePerson)), (1, AL 3 (v1.map ePerson)), (5, AI (w64 (v50001 + 1)))]) (L := []) [0, 1, 5] [] 1 ⟨_, by rfl, hF⟩
  ·
   refine w_exit ?_
   refine thenQ_e ?_
   refine thenQ_e ?_
   refine blockQ_e ?_
   refine thenQ_n ?_
   refine ws 257 321 ?_
   refine qp (AB true) rfl ?_
   refine r_nil ?_
   refine w_ret ?_
   cases hF
   exact eR

def c3 : MC := (.seq (.reg [rg 2 (.p true (.mv (.c (.bool false))))]) (.seq (.reg [rg 3 (.p true (.mv (.c (.int .i64 1048576))))]) (.seq (.reg [mvt 7 0, mvt 8 3, rg 9 (.call true 5 [(.t 7), (.t 8)]), mvt 3 9]) (.seq (.seq (.reg [mvt 10 3, rg 11 (.p true (.bin .lss (.t 10) (.c (.int .i64 0))))]) (.cond (.t 11) (.seq (.reg [rg 2 (.p true (.mv (.c (.bool true))))]) .ret) .skip)) (.seq (.reg [mvt 12 0, rg 13 (.call true 7 [(.t 12)]), rg 14 (.call true 6 [(.t 13)]), mvt 4 14]) (.seq (.reg [mvt 15 0, rg 16 (.call true 7 [(.t 15)]), mvt 5 16]) (.seq (.reg [mvt 17 5, rg 18 (.call true 8 [(.t 17)]), mvt 6 18]) (.seq (.seq (.reg [mvt 19 6, mvt 20 4, rg 21 (.p true (.bin .neq (.t 19) (.t 20)))]) (.cond (.t 21) (.seq (.reg [rg 2 (.p true (.mv (.c (.bool false))))]) .ret) .skip)) (.seq (.seq (.reg [mvt 22 5, mvt 23 0, rg 24 (.call true 7 [(.t 23)]), rg 25 (.call true 9 [(.t 22), (.t 24)]), rg 26 (.p true (.not (.t 25)))]) (.cond (.t 26) (.seq (.reg [rg 2 (.p true (.mv (.c (.bool false))))]) .ret) .skip)) (.seq (.reg [rg 2 (.p true (.mv (.c (.bool true))))]) .ret))))))))))
theorem c3_is : compFn Tryd.prog 3 = some (c3, [(.tmp 2)]) := by kernel_rfl
theorem c3_ok : okFn Tryd.prog 3 = true := by kernel_rfl

noncomputable def F_laws_FnExactPersonsText (v0 : List TPerson) : Option (Bool) :=
 ((F_laws_szPersonS v0 1048576).bind fun v1000 => (bif (decide (v1000 < (0 : Int))) then some true
 else ((F_laws_toPersonS v0).bind fun v1001 => ((F_spec_PersonsText v1001).bind fun v1002 => ((F_laws_toPersonS v0).bind fun v1003 => ((F_impl_PersonsText v1003).bind fun v1004 => (bif (decide (v1004 ≠ v1002)) then some false
 else ((F_laws_toPersonS v0).bind fun v1005 => ((F_laws_eqPersonS v1003 v1005).bind fun v1006 => (bif (!v1006) then some false
 else some true))))))))))
@[simp] def res_laws_FnExactPersonsText (r : Bool) : RV := .one (.one (.val (.bool r)))
theorem con_laws_FnExactPersonsText {v0 : List TPerson} {r : Bool} (hF : F_laws_FnExactPersonsText v0 = some r) : Con Tryd.prog 3 [.sl 3 (v0.map ePerson)] (res_laws_FnExactPersonsText r) := by
 unfold F_laws_FnExactPersonsText at hF
 refine con_of c3_is fun N => ?_
 refine ws 0 64 ?_
 refine qp (AB false) rfl ?_
 refine r_nil ?_
 refine ws 64 128 ?_
 refine qp (AI 1048576) rfl ?_
 refine r_nil ?_
 refine ws 128 384 ?_
 refine qp (AL 3 (v0.map ePerson)) rfl (qp (AI 1048576) rfl ?_)
 obtain ⟨v1000, e1000, hF⟩ := bind_get hF
 refine qc (AI v1000) [] false (con_laws_szPersonS e1000) c5_ok (by first | rfl | simp) rfl ?_
 refine qp (AI v1000) rfl ?_
 refine r_nil ?_
 refine w_seq ?_
 refine ws 384 512 ?_
 refine qp (AI v1000) rfl (qp (AB (decide (v1000 < (0 : Int)))) rfl ?_)
 refine r_nil ?_
 refine cF hF (fun hF => ?_) fun hF => ?_
 ·
  refine ws 512 576 ?_
  refine qp (AB true) rfl ?_
  refine r_nil ?_
  refine w_ret ?_
  refine thenQ_r ?_
  cases hF
  exact eR
 ·
  refine w_skip ?_
  refine thenQ_n ?_
  refine ws 512 768 ?_
  refine qp (AL 3 (v0.map ePerson)) rfl ?_
  obtain ⟨v1001, e1001, hF⟩ := bind_get hF
  refine qc (.sl 576 0 v1001.length) [(576, .row true 3 (v1001.map ePerson))] false (con_laws_toPersonS e1001) c7_ok (by first | rfl | simp) (by simp [res_laws_toPersonS]) ?_
  obtain ⟨v1002, e1002, hF⟩ := bind_get hF
  refine qc (AS v1002) [(576, .row true 3 (v1001.map ePerson))] true (con_spec_PersonsText e1002) c6_ok (by simp [List.take_of_length_le]) rfl ?_
  refine qp (AS v1002) rfl ?_
  refine r_nil ?_
  refine ws 768 960 ?_
  refine qp (AL 3 (v0.map ePerson)) rfl ?_
  obtain ⟨v1003, e1003, hF⟩ := bind_get hF
  refine qc (.sl 832 0 v1003.length) [(832, .row true 3 (v1003.map ePerson)), (576, .row true 3 (v1001.map ePerson))] false (con_laws_toPersonS e1003) c7_ok (by first | rfl | simp) (by simp [res_laws_toPersonS]) ?_
  refine qp (.sl 832 0 v1003.length) rfl ?_
  refine r_nil ?_
  refine ws 960 1152 ?_
  refine qp (.sl 832 0 v1003.length) rfl ?_
  obtain ⟨v1004, e1004, hF⟩ := bind_get hF
  refine qc (AS v1004) [(832, .row true 3 (v1003.map ePerson)), (576, .row true 3 (v1001.map ePerson))] true (con_impl_PersonsText e1004) c8_ok (by simp [List.take_of_length_le]) rfl ?_
  refine qp (AS v1004) rfl ?_
  refine r_nil ?_
  refine w_seq ?_
  refine ws 1152 1344 ?_
  refine qp (AS v1004) rfl (qp (AS v1002) rfl (qp (AB (decide (v1004 ≠ v1002))) rfl ?_))
  refine r_nil ?_
  refine cF hF (fun hF => ?_) fun hF => ?_
  ·
   refine ws 1344 1408 ?_
   refine qp (AB false) rfl ?_
   refine r_nil ?_
   refine w_ret ?_
   refine thenQ_r ?_
   cases hF
   exact eR
  ·
   refine w_skip ?_
   refine thenQ_n ?_
   refine w_seq ?_
   refine ws 1344 1664 ?_
   refine qp (.sl 832 0 v1003.length) rfl (qp (AL 3 (v0.map ePerson)) rfl ?_)
   obtain ⟨v1005, e1005, hF⟩ := bind_get hF
   refine qc (.sl 1472 0 v1005.length) [(1472, .row true 3 (v1005.map ePerson)), (832, .row true 3 (v1003.map ePerson)), (576, .row true 3 (v1001.map ePerson))] false (con_laws_toPersonS e1005) c7_ok (by first | rfl | simp) (by simp [res_laws_toPersonS]) ?_
   obtain ⟨v1006, e1006, hF⟩ := bind_get hF
   refine qc (AB v1006) [(1472, .row true 3 (v1005.map ePerson)), (832, .row true 3 (v1003.map ePerson)), (576, .row true 3 (v1001.map ePerson))] true (con_laws_eqPersonS e1006) c9_ok (by simp [List.take_of_length_le]) rfl ?_
   refine qp (AB (!v1006)) rfl ?_
   refine r_nil ?_
   refine cF hF (fun hF => ?_) fun hF => ?_
   ·
    refine ws 1664 1728 ?_
    refine qp (AB false) rfl ?_
    refine r_nil ?_
    refine w_ret ?_
    refine thenQ_r ?_
    cases hF
    exact eR
   ·
    refine w_skip ?_
    refine thenQ_n ?_
    refine ws 1664 1728 ?_
    refine qp (AB true) rfl ?_
    refine r_nil ?_
    refine w_ret ?_
    cases hF
    exact eR

end Go.Ab
