/- Walks (printed by auto.py, a program of this session's own). -/
import Derived.Test.YtcoeihkaikmdpaaMP
import Derived.Test.YtcoeihkaikmdpaaProg
import Derived.KernelRfl
import Derived.Test.YtcoeihkaikmdpaaSQ
set_option linter.unusedVariables false
set_option linter.unusedSimpArgs false
set_option maxRecDepth 8000
set_option maxHeartbeats 8000000
namespace Go.Ab
open Go.RowKit Go.Proofs

abbrev TPerson := (List UInt8) × Int × (List (List UInt8))
@[simp] def ePerson (p : TPerson) : V := .agg [.str p.1, .int .i64 p.2.1, .sl 1 (p.2.2.map V.str)]
def c68 : MC := (.seq (.reg [rg 4 (.p true (.mv (.c (.int .i64 0))))]) (.seq (.reg [mvt 6 1, mvt 7 0, rg 8 (.p true (.len (.t 7))), rg 9 (.p true (.bin .sub (.t 6) (.t 8))), mvt 1 9]) (.seq (.seq (.reg [mvt 10 1, rg 11 (.p true (.bin .lss (.t 10) (.c (.int .i64 0))))]) (.cond (.t 11) (.seq (.reg [rg 4 (.p true (.mv (.c (.int .i64 (-1)))))]) .ret) .skip)) (.seq (.seq (.reg [rg 5 (.p true (.mv (.c (.int .i64 0))))]) (.block 0 (.loop (.seq (.seq (.reg [mvt 12 5, mvt 13 0, rg 14 (.p true (.len (.t 13))), rg 15 (.p true (.bin .lss (.t 12) (.t 14)))]) (.cond (.t 15) .skip (.exit 0))) (.seq (.block 1 (.seq (.reg [mvt 18 1, mvt 19 0, mvt 20 5, rg 21 (.p true (.iad (.t 19) (.t 20) 1)), rg 22 (.p true (.ld (.t 21) 1 false)), rg 23 (.p true (.lens (.t 22))), rg 24 (.p true (.bin .sub (.t 18) (.t 23))), mvt 1 24]) (.seq (.reg [mvt 25 1, rg 26 (.p true (.bin .lss (.t 25) (.c (.int .i64 0))))]) (.cond (.t 26) (.seq (.reg [rg 4 (.p true (.mv (.c (.int .i64 (-1)))))]) .ret) .skip)))) (.reg [mvt 16 5, rg 17 (.p true (.bin .add (.t 16) (.c (.int .i64 1)))), mvt 5 17])))))) (.seq (.reg [mvt 27 1, mvt 4 27]) .ret)))))
theorem c68_is : compFn Try.prog 68 = some (c68, [(.tmp 4)]) := by kernel_rfl
theorem c68_ok : okFn Try.prog 68 = true := by kernel_rfl

noncomputable def F_laws_szStringS_l0 (v0 : List (List UInt8)) (k0 : Int × Int → Option (Int)) : Int × Int → Option (Int)
 | (v6, v7) => (bif (decide (v7 < (v0.length : Int))) then ((ix v0 v7).bind fun v1000 => (bif (decide (w64 (v6 - (v1000.length : Int)) < (0 : Int))) then some (-1)
 else k0 (w64 (v6 - (v1000.length : Int)), w64 (v7 + 1))))
 else some v6)
noncomputable def F_laws_szStringS (v0 : List (List UInt8)) (v1 : Int) : Option (Int) :=
 (bif (decide (w64 (v1 - (v0.length : Int)) < (0 : Int))) then some (-1)
 else loop (F_laws_szStringS_l0 v0) (w64 (v1 - (v0.length : Int)), 0))
@[simp] def res_laws_szStringS (r : Int) : RV := .one (.one (.val (.int .i64 r)))
theorem con_laws_szStringS {v0 : List (List UInt8)} {v1 : Int} {r : Int} (hF : F_laws_szStringS v0 v1 = some r) : Con Try.prog 68 [.sl 1 (v0.map V.str), .int .i64 v1] (res_laws_szStringS r) := by
 unfold F_laws_szStringS at hF
 refine con_of c68_is fun N => ?_
 refine ws 0 64 ?_
 refine qp (AI 0) rfl ?_
 refine r_nil ?_
 refine ws 64 384 ?_
 refine qp (AI v1) rfl (qp (AL 1 (v0.map V.str)) rfl (qp (AI (v0.length : Int)) (ev_len_n rfl) (qp (AI (w64 (v1 - (v0.length : Int)))) rfl (qp (AI (w64 (v1 - (v0.length : Int)))) rfl ?_))))
 refine r_nil ?_
 refine w_seq ?_
 refine ws 384 512 ?_
 refine qp (AI (w64 (v1 - (v0.length : Int)))) rfl (qp (AB (decide (w64 (v1 - (v0.length : Int)) < (0 : Int)))) rfl ?_)
 refine r_nil ?_
 refine cF hF (fun hF => ?_) fun hF => ?_
 ·
  refine ws 512 576 ?_
  refine qp (AI (-1)) rfl ?_
  refine r_nil ?_
  refine w_ret ?_
  refine thenQ_r ?_
  cases hF
  exact eR
 ·
  refine w_skip ?_
  refine thenQ_n ?_
  refine w_seq ?_
  refine ws 512 576 ?_
  refine qp (AI 0) rfl ?_
  refine r_nil ?_
  refine w_block ?_
  refine wr (l' := [(0, AL 1 (v0.map V.str)), (1, AI (w64 (v1 - (v0.length : Int)))), (5, AI 0)]) (L := []) [0, 1, 5] [] 1 ?_
  refine w_loopF (F_laws_szStringS_l0 v0) (fun s : Int × Int => mkS [(0, AL 1 (v0.map V.str)), (1, AI s.1), (5, AI s.2)] (fo []) 1) hF ?_
  rintro k0 ⟨v6, v7⟩ hF
  rw [F_laws_szStringS_l0] at hF
  try dsimp only
  refine w_seq ?_
  refine ws 1 257 ?_
  refine qp (AI v7) rfl (qp (AL 1 (v0.map V.str)) rfl (qp (AI (v0.length : Int)) (ev_len_n rfl) (qp (AB (decide (v7 < (v0.length : Int)))) rfl ?_)))
  refine r_nil ?_
  refine cF hF (fun hF => ?_) fun hF => ?_
  ·
   refine w_skip ?_
   refine thenQ_n ?_
   refine w_seq ?_
   refine w_block ?_
   refine ws 257 769 ?_
   refine qp (AI v6) rfl (qp (AL 1 (v0.map V.str)) rfl (qp (AI v7) rfl ?_))
   obtain ⟨v1000, e1000, hF⟩ := bind_get hF
   refine qp (.val none (.ptr [.str v1000])) (ev_iad_n rfl rfl e1000 rfl) (qp (AS v1000) rfl (qp (AI (v1000.length : Int)) rfl (qp (AI (w64 (v6 - (v1000.length : Int)))) rfl (qp (AI (w64 (v6 - (v1000.length : Int)))) rfl ?_))))
   refine r_nil ?_
   refine ws 769 897 ?_
   refine qp (AI (w64 (v6 - (v1000.length : Int)))) rfl (qp (AB (decide (w64 (v6 - (v1000.length : Int)) < (0 : Int)))) rfl ?_)
   refine r_nil ?_
   refine cF hF (fun hF => ?_) fun hF => ?_
   ·
    refine ws 897 961 ?_
    refine qp (AI (-1)) rfl ?_
    refine r_nil ?_
    refine w_ret ?_
    refine blockQ_r ?_
    refine thenQ_r ?_
    refine thenQ_r ?_
    refine blockQ_r ?_
    refine thenQ_r ?_
    cases hF
    exact eR
   ·
    refine w_skip ?_
    refine blockQ_n ?_
    refine thenQ_n ?_
    refine w_reg 897 1089 rfl rfl ?_
    refine qp (AI v7) rfl (qp (AI (w64 (v7 + 1))) rfl (qp (AI (w64 (v7 + 1))) rfl ?_))
    refine r_nil ?_
    refine thenQ_n ?_
    refine ar (l' := [(0, AL 1 (v0.map V.str)), (1, AI (w64 (v6 - (v1000.length : Int)))), (5, AI (w64 (v7 + 1)))]) (L := []) [0, 1, 5] [] 1 ⟨_, by rfl, hF⟩
  ·
   refine w_exit ?_
   refine thenQ_e ?_
   refine thenQ_e ?_
   refine blockQ_e ?_
   refine thenQ_n ?_
   refine ws 257 385 ?_
   refine qp (AI v6) rfl (qp (AI v6) rfl ?_)
   refine r_nil ?_
   refine w_ret ?_
   cases hF
   exact eR

def c20 : MC := (.seq (.reg [rg 2 (.f (.box (.t 0))), rg 4 (.p true (.mv (.c (.int .i64 0))))]) (.seq (.reg [mvt 5 1, rg 6 (.p true (.fad (.t 2) 0)), rg 7 (.p true (.ld (.t 6) 1 false)), rg 8 (.p true (.lens (.t 7))), rg 9 (.p true (.bin .sub (.t 5) (.t 8))), mvt 1 9]) (.seq (.seq (.reg [mvt 10 1, rg 11 (.p true (.bin .lss (.t 10) (.c (.int .i64 0))))]) (.cond (.t 11) (.seq (.reg [rg 4 (.p true (.mv (.c (.int .i64 (-1)))))]) .ret) .skip)) (.seq (.reg [rg 12 (.p true (.fad (.t 2) 2)), rg 13 (.p true (.ld (.t 12) 1 false)), mvt 14 1, rg 15 (.call true 68 [(.t 13), (.t 14)]), mvt 1 15]) (.seq (.seq (.reg [mvt 16 1, rg 17 (.p true (.bin .lss (.t 16) (.c (.int .i64 0))))]) (.cond (.t 17) (.seq (.reg [rg 4 (.p true (.mv (.c (.int .i64 (-1)))))]) .ret) .skip)) (.seq (.reg [mvt 18 1, mvt 4 18]) .ret))))))
theorem c20_is : compFn Try.prog 20 = some (c20, [(.tmp 4)]) := by kernel_rfl
theorem c20_ok : okFn Try.prog 20 = true := by kernel_rfl

noncomputable def F_laws_szPerson (v0 : TPerson) (v1 : Int) : Option (Int) :=
 (bif (decide (w64 (v1 - (v0.1.length : Int)) < (0 : Int))) then some (-1)
 else ((F_laws_szStringS v0.2.2 (w64 (v1 - (v0.1.length : Int)))).bind fun v1000 => (bif (decide (v1000 < (0 : Int))) then some (-1)
 else some v1000)))
@[simp] def res_laws_szPerson (r : Int) : RV := .one (.one (.val (.int .i64 r)))
theorem con_laws_szPerson {v0 : TPerson} {v1 : Int} {r : Int} (hF : F_laws_szPerson v0 v1 = some r) : Con Try.prog 20 [ePerson v0, .int .i64 v1] (res_laws_szPerson r) := by
 unfold F_laws_szPerson at hF
 refine con_of c20_is fun N => ?_
 refine ws 0 128 ?_
 refine qf (.ptr 0 0 0) [(0, .box [AS v0.1, AI v0.2.1, AL 1 (v0.2.2.map V.str)])] (by simp) ?_
 refine qp (AI 0) rfl ?_
 refine r_nil ?_
 refine ws 128 512 ?_
 refine qp (AI v1) rfl (qp (.ptr 0 0 0) rfl (qp (AS v0.1) rfl (qp (AI (v0.1.length : Int)) rfl (qp (AI (w64 (v1 - (v0.1.length : Int)))) rfl (qp (AI (w64 (v1 - (v0.1.length : Int)))) rfl ?_)))))
 refine r_nil ?_
 refine w_seq ?_
 refine ws 512 640 ?_
 refine qp (AI (w64 (v1 - (v0.1.length : Int)))) rfl (qp (AB (decide (w64 (v1 - (v0.1.length : Int)) < (0 : Int)))) rfl ?_)
 refine r_nil ?_
 refine cF hF (fun hF => ?_) fun hF => ?_
 ·
  refine ws 640 704 ?_
  refine qp (AI (-1)) rfl ?_
  refine r_nil ?_
  refine w_ret ?_
  refine thenQ_r ?_
  cases hF
  exact eR
 ·
  refine w_skip ?_
  refine thenQ_n ?_
  refine ws 640 960 ?_
  refine qp (.ptr 0 0 2) rfl (qp (AL 1 (v0.2.2.map V.str)) rfl (qp (AI (w64 (v1 - (v0.1.length : Int)))) rfl ?_))
  obtain ⟨v1000, e1000, hF⟩ := bind_get hF
  refine qc (AI v1000) [(0, .box [AS v0.1, AI v0.2.1, AL 1 (v0.2.2.map V.str)])] false (con_laws_szStringS e1000) c68_ok (by first | rfl | simp) rfl ?_
  refine qp (AI v1000) rfl ?_
  refine r_nil ?_
  refine w_seq ?_
  refine ws 960 1088 ?_
  refine qp (AI v1000) rfl (qp (AB (decide (v1000 < (0 : Int)))) rfl ?_)
  refine r_nil ?_
  refine cF hF (fun hF => ?_) fun hF => ?_
  ·
   refine ws 1088 1152 ?_
   refine qp (AI (-1)) rfl ?_
   refine r_nil ?_
   refine w_ret ?_
   refine thenQ_r ?_
   cases hF
   exact eR
  ·
   refine w_skip ?_
   refine thenQ_n ?_
   refine ws 1088 1216 ?_
   refine qp (AI v1000) rfl (qp (AI v1000) rfl ?_)
   refine r_nil ?_
   refine w_ret ?_
   cases hF
   exact eR

def c11 : MC := (.seq (.reg [rg 4 (.p true (.mv (.c (.int .i64 0))))]) (.seq (.reg [mvt 6 1, mvt 7 0, rg 8 (.p true (.len (.t 7))), rg 9 (.p true (.bin .sub (.t 6) (.t 8))), mvt 1 9]) (.seq (.seq (.reg [mvt 10 1, rg 11 (.p true (.bin .lss (.t 10) (.c (.int .i64 0))))]) (.cond (.t 11) (.seq (.reg [rg 4 (.p true (.mv (.c (.int .i64 (-1)))))]) .ret) .skip)) (.seq (.seq (.reg [rg 5 (.p true (.mv (.c (.int .i64 0))))]) (.block 0 (.loop (.seq (.seq (.reg [mvt 12 5, mvt 13 0, rg 14 (.p true (.len (.t 13))), rg 15 (.p true (.bin .lss (.t 12) (.t 14)))]) (.cond (.t 15) .skip (.exit 0))) (.seq (.block 1 (.seq (.reg [mvt 18 0, mvt 19 5, rg 20 (.p true (.iad (.t 18) (.t 19) 3)), rg 21 (.p true (.ld (.t 20) 3 true)), mvt 22 1, rg 23 (.call true 20 [(.t 21), (.t 22)]), mvt 1 23]) (.seq (.reg [mvt 24 1, rg 25 (.p true (.bin .lss (.t 24) (.c (.int .i64 0))))]) (.cond (.t 25) (.seq (.reg [rg 4 (.p true (.mv (.c (.int .i64 (-1)))))]) .ret) .skip)))) (.reg [mvt 16 5, rg 17 (.p true (.bin .add (.t 16) (.c (.int .i64 1)))), mvt 5 17])))))) (.seq (.reg [mvt 26 1, mvt 4 26]) .ret)))))
theorem c11_is : compFn Try.prog 11 = some (c11, [(.tmp 4)]) := by kernel_rfl
theorem c11_ok : okFn Try.prog 11 = true := by kernel_rfl

noncomputable def F_laws_szPersonS_l0 (v0 : List TPerson) (k0 : Int × Int → Option (Int)) : Int × Int → Option (Int)
 | (v8, v9) => (bif (decide (v9 < (v0.length : Int))) then ((ix v0 v9).bind fun v1000 => ((F_laws_szPerson v1000 v8).bind fun v1001 => (bif (decide (v1001 < (0 : Int))) then some (-1)
 else k0 (v1001, w64 (v9 + 1)))))
 else some v8)
noncomputable def F_laws_szPersonS (v0 : List TPerson) (v1 : Int) : Option (Int) :=
 (bif (decide (w64 (v1 - (v0.length : Int)) < (0 : Int))) then some (-1)
 else loop (F_laws_szPersonS_l0 v0) (w64 (v1 - (v0.length : Int)), 0))
@[simp] def res_laws_szPersonS (r : Int) : RV := .one (.one (.val (.int .i64 r)))
theorem con_laws_szPersonS {v0 : List TPerson} {v1 : Int} {r : Int} (hF : F_laws_szPersonS v0 v1 = some r) : Con Try.prog 11 [.sl 3 (v0.map ePerson), .int .i64 v1] (res_laws_szPersonS r) := by
 unfold F_laws_szPersonS at hF
 refine con_of c11_is fun N => ?_
 refine ws 0 64 ?_
 refine qp (AI 0) rfl ?_
 refine r_nil ?_
 refine ws 64 384 ?_
 refine qp (AI v1) rfl (qp (AL 3 (v0.map ePerson)) rfl (qp (AI (v0.length : Int)) (ev_len_n rfl) (qp (AI (w64 (v1 - (v0.length : Int)))) rfl (qp (AI (w64 (v1 - (v0.length : Int)))) rfl ?_))))
 refine r_nil ?_
 refine w_seq ?_
 refine ws 384 512 ?_
 refine qp (AI (w64 (v1 - (v0.length : Int)))) rfl (qp (AB (decide (w64 (v1 - (v0.length : Int)) < (0 : Int)))) rfl ?_)
 refine r_nil ?_
 refine cF hF (fun hF => ?_) fun hF => ?_
 ·
  refine ws 512 576 ?_
  refine qp (AI (-1)) rfl ?_
  refine r_nil ?_
  refine w_ret ?_
  refine thenQ_r ?_
  cases hF
  exact eR
 ·
  refine w_skip ?_
  refine thenQ_n ?_
  refine w_seq ?_
  refine ws 512 576 ?_
  refine qp (AI 0) rfl ?_
  refine r_nil ?_
  refine w_block ?_
  refine wr (l' := [(0, AL 3 (v0.map ePerson)), (1, AI (w64 (v1 - (v0.length : Int)))), (5, AI 0)]) (L := []) [0, 1, 5] [] 1 ?_
  refine w_loopF (F_laws_szPersonS_l0 v0) (fun s : Int × Int => mkS [(0, AL 3 (v0.map ePerson)), (1, AI s.1), (5, AI s.2)] (fo []) 1) hF ?_
  rintro k0 ⟨v8, v9⟩ hF
  rw [F_laws_szPersonS_l0] at hF
  try dsimp only
  refine w_seq ?_
  refine ws 1 257 ?_
  refine qp (AI v9) rfl (qp (AL 3 (v0.map ePerson)) rfl (qp (AI (v0.length : Int)) (ev_len_n rfl) (qp (AB (decide (v9 < (v0.length : Int)))) rfl ?_)))
  refine r_nil ?_
  refine cF hF (fun hF => ?_) fun hF => ?_
  ·
   refine w_skip ?_
   refine thenQ_n ?_
   refine w_seq ?_
   refine w_block ?_
   refine ws 257 705 ?_
   refine qp (AL 3 (v0.map ePerson)) rfl (qp (AI v9) rfl ?_)
   obtain ⟨v1000, e1000, hF⟩ := bind_get hF
   refine qp (.val none (.ptr [.str v1000.1, .int .i64 v1000.2.1, .sl 1 (v1000.2.2.map V.str)])) (ev_iad_n rfl rfl e1000 rfl) (qp (.val none (ePerson v1000)) rfl (qp (AI v8) rfl ?_))
   obtain ⟨v1001, e1001, hF⟩ := bind_get hF
   refine qc (AI v1001) [] false (con_laws_szPerson e1001) c20_ok (by first | rfl | simp) rfl ?_
   refine qp (AI v1001) rfl ?_
   refine r_nil ?_
   refine ws 705 833 ?_
   refine qp (AI v1001) rfl (qp (AB (decide (v1001 < (0 : Int)))) rfl ?_)
   refine r_nil ?_
   refine cF hF (fun hF => ?_) fun hF => ?_
   ·
    refine ws 833 897 ?_
    refine qp (AI (-1)) rfl ?_
    refine r_nil ?_
    refine w_ret ?_
    refine blockQ_r ?_
    refine thenQ_r ?_
    refine thenQ_r ?_
    refine blockQ_r ?_
    refine thenQ_r ?_
    cases hF
    exact eR
   ·
    refine w_skip ?_
    refine blockQ_n ?_
    refine thenQ_n ?_
    refine w_reg 833 1025 rfl rfl ?_
    refine qp (AI v9) rfl (qp (AI (w64 (v9 + 1))) rfl (qp (AI (w64 (v9 + 1))) rfl ?_))
    refine r_nil ?_
    refine thenQ_n ?_
    refine ar (l' := [(0, AL 3 (v0.map ePerson)), (1, AI v1001), (5, AI (w64 (v9 + 1)))]) (L := []) [0, 1, 5] [] 1 ⟨_, by rfl, hF⟩
  ·
   refine w_exit ?_
   refine thenQ_e ?_
   refine thenQ_e ?_
   refine blockQ_e ?_
   refine thenQ_n ?_
   refine ws 257 385 ?_
   refine qp (AI v8) rfl (qp (AI v8) rfl ?_)
   refine r_nil ?_
   refine w_ret ?_
   cases hF
   exact eR

def c71 : MC := (.seq (.reg [rg 2 (.f (.nilrow 1))]) (.seq (.reg [mvt 5 0, rg 6 (.p true (.len (.t 5))), rg 7 (.f (.mks 1 16 (.str []) (.t 6) (.t 6))), mvt 3 7]) (.seq (.seq (.reg [rg 4 (.p true (.mv (.c (.int .i64 0))))]) (.block 0 (.loop (.seq (.seq (.reg [mvt 8 4, mvt 9 0, rg 10 (.p true (.len (.t 9))), rg 11 (.p true (.bin .lss (.t 8) (.t 10)))]) (.cond (.t 11) .skip (.exit 0))) (.seq (.block 1 (.reg [mvt 14 3, mvt 15 4, mvt 16 0, mvt 17 4, rg 18 (.p true (.iad (.t 16) (.t 17) 1)), rg 19 (.p true (.ld (.t 18) 1 false)), rg 20 (.p true (.iad (.t 14) (.t 15) 1)), ⟨none, none, (.f (.st (.t 20) (.t 19) 1))⟩])) (.reg [mvt 12 4, rg 13 (.p true (.bin .add (.t 12) (.c (.int .i64 1)))), mvt 4 13])))))) (.seq (.reg [mvt 21 3, mvt 2 21]) .ret))))
theorem c71_is : compFn Try.prog 71 = some (c71, [(.tmp 2)]) := by kernel_rfl
theorem c71_ok : okFn Try.prog 71 = true := by kernel_rfl

noncomputable def F_laws_toStringS_l0 (v0 : List (List UInt8)) (k1 : Int × (List (List UInt8)) → Option (List (List UInt8))) : Int × (List (List UInt8)) → Option (List (List UInt8))
 | (v1007, v1008) => (bif (decide (v1007 < (v0.length : Int))) then ((ix v0 v1007).bind fun v1009 => ((ix v1008 v1007).bind fun v1010 => k1 (w64 (v1007 + 1), List.set v1008 v1007.toNat v1009)))
 else some v1008)
noncomputable def F_laws_toStringS (v0 : List (List UInt8)) : Option (List (List UInt8)) :=
 (need (0 ≤ (v0.length : Int) ∧ (v0.length : Int) ≤ (v0.length : Int) ∧ (v0.length : Int) ≤ 9223372036854775807 ∧ 16 * (v0.length : Int) ≤ 281474976710656) (loop (F_laws_toStringS_l0 v0) (0, List.replicate ((v0.length : Int)).toNat ([] : List UInt8))))
@[simp] def res_laws_toStringS (r : List (List UInt8)) : RV := .one (.one (.row true 1 (r.map V.str)))
theorem con_laws_toStringS {v0 : List (List UInt8)} {r : List (List UInt8)} (hF : F_laws_toStringS v0 = some r) : Con Try.prog 71 [.sl 1 (v0.map V.str)] (res_laws_toStringS r) := by
 unfold F_laws_toStringS at hF
 refine con_of c71_is fun N => ?_
 refine ws 0 64 ?_
 refine qf (.sl 0 0 0) [(0, .row true 1 (([] : List Int).map vI))] (by simp) ?_
 refine r_nil ?_
 refine ws 64 320 ?_
 refine qp (AL 1 (v0.map V.str)) rfl (qp (AI (v0.length : Int)) (ev_len_n rfl) ?_)
 obtain ⟨g1000, hF⟩ := need_some hF
 refine qf (.sl 192 0 ((List.replicate ((v0.length : Int)).toNat ([] : List UInt8)).length)) [(192, .row true 1 ((List.replicate ((v0.length : Int)).toNat ([] : List UInt8)).map V.str)), (0, .row true 1 (([] : List Int).map vI))] (effT_mks rfl rfl g1000 rfl) ?_
 refine qp (.sl 192 0 ((List.replicate ((v0.length : Int)).toNat ([] : List UInt8)).length)) rfl ?_
 refine r_nil ?_
 refine w_seq ?_
 refine ws 320 384 ?_
 refine qp (AI 0) rfl ?_
 refine r_nil ?_
 refine w_block ?_
 refine wr (l' := [(0, AL 1 (v0.map V.str)), (3, .sl 0 0 (List.replicate ((v0.length : Int)).toNat ([] : List UInt8)).length), (4, AI 0)]) (L := [(0, .row true 1 ((List.replicate ((v0.length : Int)).toNat ([] : List UInt8)).map V.str))]) [0, 3, 4] [(192, 0)] 1 ?_
 refine w_loopF (F_laws_toStringS_l0 v0) (fun s : Int × (List (List UInt8)) => mkS [(0, AL 1 (v0.map V.str)), (3, .sl 0 0 s.2.length), (4, AI s.1)] (fo [(0, .row true 1 (s.2.map V.str))]) 1) hF ?_
 rintro k1 ⟨v1007, v1008⟩ hF
 rw [F_laws_toStringS_l0] at hF
 try dsimp only
 refine w_seq ?_
 refine ws 1 257 ?_
 refine qp (AI v1007) rfl (qp (AL 1 (v0.map V.str)) rfl (qp (AI (v0.length : Int)) (ev_len_n rfl) (qp (AB (decide (v1007 < (v0.length : Int)))) rfl ?_)))
 refine r_nil ?_
 refine cF hF (fun hF => ?_) fun hF => ?_
 ·
  refine w_skip ?_
  refine thenQ_n ?_
  refine w_seq ?_
  refine w_block ?_
  refine w_reg 257 769 rfl rfl ?_
  refine qp (.sl 0 0 v1008.length) rfl (qp (AI v1007) rfl (qp (AL 1 (v0.map V.str)) rfl (qp (AI v1007) rfl ?_)))
  obtain ⟨v1009, e1009, hF⟩ := bind_get hF
  refine qp (.val none (.ptr [.str v1009])) (ev_iad_n rfl rfl e1009 rfl) (qp (AS v1009) rfl ?_)
  obtain ⟨v1010, e1010, hF⟩ := bind_get hF
  refine qp (.ptr 0 v1007.toNat 0) (ev_iad_r rfl (by simp) rfl rfl e1010) ?_
  refine qf0 (.undef) [(0, .row true 1 ((List.set v1008 v1007.toNat v1009).map V.str)), (0, .row true 1 (v1008.map V.str))] (effT_st rfl rfl (ix_some e1010).2 rfl rfl (by rfl) (by first | rfl | simp [patch, reb, List.take_of_length_le]) (by rfl) rfl) ?_
  refine r_nil ?_
  refine blockQ_n ?_
  refine thenQ_n ?_
  refine w_reg 769 961 rfl rfl ?_
  refine qp (AI v1007) rfl (qp (AI (w64 (v1007 + 1))) rfl (qp (AI (w64 (v1007 + 1))) rfl ?_))
  refine r_nil ?_
  refine thenQ_n ?_
  refine ar (l' := [(0, AL 1 (v0.map V.str)), (3, .sl 0 0 (List.set v1008 v1007.toNat v1009).length), (4, AI (w64 (v1007 + 1)))]) (L := [(0, .row true 1 ((List.set v1008 v1007.toNat v1009).map V.str))]) [0, 3, 4] [(0, 0)] 1 ⟨_, by rfl, hF⟩
 ·
  refine w_exit ?_
  refine thenQ_e ?_
  refine thenQ_e ?_
  refine blockQ_e ?_
  refine thenQ_n ?_
  refine ws 257 385 ?_
  refine qp (.sl 0 0 v1008.length) rfl (qp (.sl 0 0 v1008.length) rfl ?_)
  refine r_nil ?_
  refine w_ret ?_
  cases hF
  exact eR

def c22 : MC := (.seq (.reg [rg 1 (.f (.box (.t 0))), rg 2 (.f (.alloc [((.str []), (0, false)), ((.int .i64 0), (0, false)), ((.sl 0 []), (1, false))]))]) (.seq (.reg [rg 3 (.f (.alloc [((.str []), (0, false)), ((.int .i64 0), (0, false)), ((.sl 0 []), (1, false))]))]) (.seq (.reg [rg 4 (.p true (.fad (.t 1) 0)), rg 5 (.p true (.ld (.t 4) 1 false)), rg 6 (.p true (.fad (.t 3) 0)), ⟨none, none, (.f (.st (.t 6) (.t 5) 1))⟩]) (.seq (.reg [rg 7 (.p true (.fad (.t 1) 1)), rg 8 (.p true (.ld (.t 7) 1 false)), rg 9 (.p true (.fad (.t 3) 1)), ⟨none, none, (.f (.st (.t 9) (.t 8) 1))⟩]) (.seq (.reg [rg 10 (.p true (.fad (.t 1) 2)), rg 11 (.p true (.ld (.t 10) 1 false)), rg 12 (.call true 71 [(.t 11)]), rg 13 (.p true (.fad (.t 3) 2)), ⟨none, none, (.f (.st (.t 13) (.t 12) 1))⟩]) (.seq (.reg [rg 14 (.p true (.ld (.t 3) 3 true)), ⟨none, none, (.f (.st (.t 2) (.t 14) 3))⟩]) .ret))))))
theorem c22_is : compFn Try.prog 22 = some (c22, [(.cell (.ld (.t 2) 3 true))]) := by kernel_rfl
theorem c22_ok : okFn Try.prog 22 = true := by kernel_rfl

noncomputable def F_laws_toPerson (v0 : TPerson) : Option (TPerson) :=
 ((F_laws_toStringS v0.2.2).bind fun v1000 => some (v0.1, v0.2.1, v1000))
@[simp] def res_laws_toPerson (r : TPerson) : RV := .one (.agg [.val (.str r.1), .val (.int .i64 r.2.1), .row true 1 (r.2.2.map V.str)])
theorem con_laws_toPerson {v0 : TPerson} {r : TPerson} (hF : F_laws_toPerson v0 = some r) : Con Try.prog 22 [ePerson v0] (res_laws_toPerson r) := by
 unfold F_laws_toPerson at hF
 refine con_of c22_is fun N => ?_
 refine ws 0 128 ?_
 refine qf (.ptr 0 0 0) [(0, .box [AS v0.1, AI v0.2.1, AL 1 (v0.2.2.map V.str)])] (by simp) ?_
 refine qf (.ptr 64 0 0) [(64, .box [AS [], AI 0, .sl 65 0 0]), (65, .row true 1 (([] : List Int).map vI)), (0, .box [AS v0.1, AI v0.2.1, AL 1 (v0.2.2.map V.str)])] (by simp) ?_
 refine r_nil ?_
 refine ws 128 192 ?_
 refine qf (.ptr 128 0 0) [(128, .box [AS [], AI 0, .sl 129 0 0]), (129, .row true 1 (([] : List Int).map vI)), (64, .box [AS [], AI 0, .sl 65 0 0]), (65, .row true 1 (([] : List Int).map vI)), (0, .box [AS v0.1, AI v0.2.1, AL 1 (v0.2.2.map V.str)])] (by simp) ?_
 refine r_nil ?_
 refine ws 192 448 ?_
 refine qp (.ptr 0 0 0) rfl (qp (AS v0.1) rfl (qp (.ptr 128 0 0) rfl ?_))
 refine qf0 (.undef) [(128, .box [AS v0.1, AI 0, .sl 129 0 0]), (128, .box [AS [], AI 0, .sl 129 0 0]), (129, .row true 1 (([] : List Int).map vI)), (64, .box [AS [], AI 0, .sl 65 0 0]), (65, .row true 1 (([] : List Int).map vI)), (0, .box [AS v0.1, AI v0.2.1, AL 1 (v0.2.2.map V.str)])] (by simp) ?_
 refine r_nil ?_
 refine ws 448 704 ?_
 refine qp (.ptr 0 0 1) rfl (qp (AI v0.2.1) rfl (qp (.ptr 128 0 1) rfl ?_))
 refine qf0 (.undef) [(128, .box [AS v0.1, AI v0.2.1, .sl 129 0 0]), (128, .box [AS v0.1, AI 0, .sl 129 0 0]), (128, .box [AS [], AI 0, .sl 129 0 0]), (129, .row true 1 (([] : List Int).map vI)), (64, .box [AS [], AI 0, .sl 65 0 0]), (65, .row true 1 (([] : List Int).map vI)), (0, .box [AS v0.1, AI v0.2.1, AL 1 (v0.2.2.map V.str)])] (by simp) ?_
 refine r_nil ?_
 refine ws 704 1024 ?_
 refine qp (.ptr 0 0 2) rfl (qp (AL 1 (v0.2.2.map V.str)) rfl ?_)
 obtain ⟨v1000, e1000, hF⟩ := bind_get hF
 refine qc (.sl 832 0 v1000.length) [(832, .row true 1 (v1000.map V.str)), (128, .box [AS v0.1, AI v0.2.1, .sl 129 0 0]), (128, .box [AS v0.1, AI 0, .sl 129 0 0]), (128, .box [AS [], AI 0, .sl 129 0 0]), (129, .row true 1 (([] : List Int).map vI)), (64, .box [AS [], AI 0, .sl 65 0 0]), (65, .row true 1 (([] : List Int).map vI)), (0, .box [AS v0.1, AI v0.2.1, AL 1 (v0.2.2.map V.str)])] false (con_laws_toStringS e1000) c71_ok (by first | rfl | simp) (by simp [res_laws_toStringS]) ?_
 refine qp (.ptr 128 0 2) rfl ?_
 refine qf0 (.undef) [(128, .box [AS v0.1, AI v0.2.1, .sl 832 0 v1000.length]), (832, .row true 1 (v1000.map V.str)), (128, .box [AS v0.1, AI v0.2.1, .sl 129 0 0]), (128, .box [AS v0.1, AI 0, .sl 129 0 0]), (128, .box [AS [], AI 0, .sl 129 0 0]), (129, .row true 1 (([] : List Int).map vI)), (64, .box [AS [], AI 0, .sl 65 0 0]), (65, .row true 1 (([] : List Int).map vI)), (0, .box [AS v0.1, AI v0.2.1, AL 1 (v0.2.2.map V.str)])] (by simp) ?_
 refine r_nil ?_
 refine ws 1024 1152 ?_
 refine qp (.agg [AS v0.1, AI v0.2.1, .sl 832 0 v1000.length]) rfl ?_
 refine qf0 (.undef) [(64, .box [AS v0.1, AI v0.2.1, .sl 832 0 v1000.length]), (128, .box [AS v0.1, AI v0.2.1, .sl 832 0 v1000.length]), (832, .row true 1 (v1000.map V.str)), (128, .box [AS v0.1, AI v0.2.1, .sl 129 0 0]), (128, .box [AS v0.1, AI 0, .sl 129 0 0]), (128, .box [AS [], AI 0, .sl 129 0 0]), (129, .row true 1 (([] : List Int).map vI)), (64, .box [AS [], AI 0, .sl 65 0 0]), (65, .row true 1 (([] : List Int).map vI)), (0, .box [AS v0.1, AI v0.2.1, AL 1 (v0.2.2.map V.str)])] (by simp) ?_
 refine r_nil ?_
 refine w_ret ?_
 cases hF
 exact eR

def c13 : MC := (.seq (.reg [rg 2 (.f (.nilrow 3))]) (.seq (.reg [mvt 5 0, rg 6 (.p true (.len (.t 5))), rg 7 (.f (.mks 3 48 (.agg [(.str []), (.int .i64 0), (.sl 1 [])]) (.t 6) (.t 6))), mvt 3 7]) (.seq (.seq (.reg [rg 4 (.p true (.mv (.c (.int .i64 0))))]) (.block 0 (.loop (.seq (.seq (.reg [mvt 8 4, mvt 9 0, rg 10 (.p true (.len (.t 9))), rg 11 (.p true (.bin .lss (.t 8) (.t 10)))]) (.cond (.t 11) .skip (.exit 0))) (.seq (.block 1 (.reg [mvt 14 3, mvt 15 4, mvt 16 0, mvt 17 4, rg 18 (.p true (.iad (.t 16) (.t 17) 3)), rg 19 (.p true (.ld (.t 18) 3 true)), rg 20 (.call true 22 [(.t 19)]), rg 21 (.p true (.iad (.t 14) (.t 15) 3)), ⟨none, none, (.f (.st (.t 21) (.t 20) 3))⟩])) (.reg [mvt 12 4, rg 13 (.p true (.bin .add (.t 12) (.c (.int .i64 1)))), mvt 4 13])))))) (.seq (.reg [mvt 22 3, mvt 2 22]) .ret))))
theorem c13_is : compFn Try.prog 13 = some (c13, [(.tmp 2)]) := by kernel_rfl
theorem c13_ok : okFn Try.prog 13 = true := by kernel_rfl

noncomputable def F_laws_toPersonS_l0 (v0 : List TPerson) (k1 : Int × (List TPerson) → Option (List TPerson)) : Int × (List TPerson) → Option (List TPerson)
 | (v1009, v1010) => (bif (decide (v1009 < (v0.length : Int))) then ((ix v0 v1009).bind fun v1011 => ((F_laws_toPerson v1011).bind fun v1012 => ((ix v1010 v1009).bind fun v1013 => k1 (w64 (v1009 + 1), List.set v1010 v1009.toNat v1012))))
 else some v1010)
noncomputable def F_laws_toPersonS (v0 : List TPerson) : Option (List TPerson) :=
 (need (0 ≤ (v0.length : Int) ∧ (v0.length : Int) ≤ (v0.length : Int) ∧ (v0.length : Int) ≤ 9223372036854775807 ∧ 48 * (v0.length : Int) ≤ 281474976710656) (loop (F_laws_toPersonS_l0 v0) (0, List.replicate ((v0.length : Int)).toNat (([], 0, []) : TPerson))))
@[simp] def res_laws_toPersonS (r : List TPerson) : RV := .one (.one (.row true 3 (r.map ePerson)))
theorem con_laws_toPersonS {v0 : List TPerson} {r : List TPerson} (hF : F_laws_toPersonS v0 = some r) : Con Try.prog 13 [.sl 3 (v0.map ePerson)] (res_laws_toPersonS r) := by
 unfold F_laws_toPersonS at hF
 refine con_of c13_is fun N => ?_
 refine ws 0 64 ?_
 refine qf (.sl 0 0 0) [(0, .row true 3 (([] : List Int).map vI))] (by simp) ?_
 refine r_nil ?_
 refine ws 64 320 ?_
 refine qp (AL 3 (v0.map ePerson)) rfl (qp (AI (v0.length : Int)) (ev_len_n rfl) ?_)
 obtain ⟨g1000, hF⟩ := need_some hF
 refine qf (.sl 192 0 ((List.replicate ((v0.length : Int)).toNat (([], 0, []) : TPerson)).length)) [(192, .row true 3 ((List.replicate ((v0.length : Int)).toNat (([], 0, []) : TPerson)).map ePerson)), (0, .row true 3 (([] : List Int).map vI))] (effT_mks rfl rfl g1000 rfl) ?_
 refine qp (.sl 192 0 ((List.replicate ((v0.length : Int)).toNat (([], 0, []) : TPerson)).length)) rfl ?_
 refine r_nil ?_
 refine w_seq ?_
 refine ws 320 384 ?_
 refine qp (AI 0) rfl ?_
 refine r_nil ?_
 refine w_block ?_
 refine wr (l' := [(0, AL 3 (v0.map ePerson)), (3, .sl 0 0 (List.replicate ((v0.length : Int)).toNat (([], 0, []) : TPerson)).length), (4, AI 0)]) (L := [(0, .row true 3 ((List.replicate ((v0.length : Int)).toNat (([], 0, []) : TPerson)).map ePerson))]) [0, 3, 4] [(192, 0)] 1 ?_
 refine w_loopF (F_laws_toPersonS_l0 v0) (fun s : Int × (List TPerson) => mkS [(0, AL 3 (v0.map ePerson)), (3, .sl 0 0 s.2.length), (4, AI s.1)] (fo [(0, .row true 3 (s.2.map ePerson))]) 1) hF ?_
 rintro k1 ⟨v1009, v1010⟩ hF
 rw [F_laws_toPersonS_l0] at hF
 try dsimp only
 refine w_seq ?_
 refine ws 1 257 ?_
 refine qp (AI v1009) rfl (qp (AL 3 (v0.map ePerson)) rfl (qp (AI (v0.length : Int)) (ev_len_n rfl) (qp (AB (decide (v1009 < (v0.length : Int)))) rfl ?_)))
 refine r_nil ?_
 refine cF hF (fun hF => ?_) fun hF => ?_
 ·
  refine w_skip ?_
  refine thenQ_n ?_
  refine w_seq ?_
  refine w_block ?_
  refine w_reg 257 833 rfl rfl ?_
  refine qp (.sl 0 0 v1010.length) rfl (qp (AI v1009) rfl (qp (AL 3 (v0.map ePerson)) rfl (qp (AI v1009) rfl ?_)))
  obtain ⟨v1011, e1011, hF⟩ := bind_get hF
  refine qp (.val none (.ptr [.str v1011.1, .int .i64 v1011.2.1, .sl 1 (v1011.2.2.map V.str)])) (ev_iad_n rfl rfl e1011 rfl) (qp (.val none (ePerson v1011)) rfl ?_)
  obtain ⟨v1012, e1012, hF⟩ := bind_get hF
  refine qc (.agg [AS v1012.1, AI v1012.2.1, .sl 643 0 v1012.2.2.length]) [(643, .row true 1 (v1012.2.2.map V.str)), (0, .row true 3 (v1010.map ePerson))] false (con_laws_toPerson e1012) c22_ok (by first | rfl | simp) (by simp [res_laws_toPerson]) ?_
  obtain ⟨v1013, e1013, hF⟩ := bind_get hF
  refine qp (.ptr 0 v1009.toNat 0) (ev_iad_r rfl (by simp) rfl rfl e1013) ?_
  refine qf0 (.undef) [(0, .row true 3 ((List.set v1010 v1009.toNat v1012).map ePerson)), (643, .dead), (643, .row true 1 (v1012.2.2.map V.str)), (0, .row true 3 (v1010.map ePerson))] (effT_st rfl rfl (ix_some e1013).2 rfl rfl (by rfl) (by first | rfl | simp [patch, reb, List.take_of_length_le]) (by rfl) rfl) ?_
  refine r_nil ?_
  refine blockQ_n ?_
  refine thenQ_n ?_
  refine w_reg 833 1025 rfl rfl ?_
  refine qp (AI v1009) rfl (qp (AI (w64 (v1009 + 1))) rfl (qp (AI (w64 (v1009 + 1))) rfl ?_))
  refine r_nil ?_
  refine thenQ_n ?_
  refine ar (l' := [(0, AL 3 (v0.map ePerson)), (3, .sl 0 0 (List.set v1010 v1009.toNat v1012).length), (4, AI (w64 (v1009 + 1)))]) (L := [(0, .row true 3 ((List.set v1010 v1009.toNat v1012).map ePerson))]) [0, 3, 4] [(0, 0)] 1 ⟨_, by rfl, hF⟩
 ·
  refine w_exit ?_
  refine thenQ_e ?_
  refine thenQ_e ?_
  refine blockQ_e ?_
  refine thenQ_n ?_
  refine ws 257 385 ?_
  refine qp (.sl 0 0 v1010.length) rfl (qp (.sl 0 0 v1010.length) rfl ?_)
  refine r_nil ?_
  refine w_ret ?_
  cases hF
  exact eR

def c191 : MC := (.seq (.reg [rg 2 (.p true (.mv (.c (.bool false))))]) (.seq (.reg [mvt 3 0, rg 4 (.p true (.bin .geq (.t 3) (.c (.int .u8 97)))), mvt 5 4, ⟨(some 6), (some (5, true)), (.p true (.mv (.t 0)))⟩, ⟨(some 7), (some (5, true)), (.p true (.bin .leq (.t 6) (.c (.int .u8 122))))⟩, rg 8 (.p true (.pick (.t 5) (.t 7) (.c (.bool false)))), mvt 2 8]) .ret))
theorem c191_is : compFn Try.prog 191 = some (c191, [(.tmp 2)]) := by kernel_rfl
theorem c191_ok : okFn Try.prog 191 = true := by kernel_rfl

noncomputable def F_spec_l01Small (v0 : Int) : Option (Bool) :=
 (bif (decide ((97 : Int) ≤ v0)) then some (decide (v0 ≤ (122 : Int)))
 else some false)
@[simp] def res_spec_l01Small (r : Bool) : RV := .one (.one (.val (.bool r)))
theorem con_spec_l01Small {v0 : Int} {r : Bool} (hF : F_spec_l01Small v0 = some r) : Con Try.prog 191 [.int .u8 v0] (res_spec_l01Small r) := by
 unfold F_spec_l01Small at hF
 refine con_of c191_is fun N => ?_
 refine ws 0 64 ?_
 refine qp (AB false) rfl ?_
 refine r_nil ?_
 refine ws 64 512 ?_
 refine qp (.val none (.int .u8 v0)) rfl (qp (AB (decide ((97 : Int) ≤ v0))) rfl (qp (AB (decide ((97 : Int) ≤ v0))) rfl ?_))
 refine q_case 5 hF rfl (fun hF => ?_) (fun hF => ?_)
 ·
  refine qg (.val none (.int .u8 v0)) rfl rfl (qg (AB (decide (v0 ≤ (122 : Int)))) rfl rfl (qp (AB (decide (v0 ≤ (122 : Int)))) rfl (qp (AB (decide (v0 ≤ (122 : Int)))) rfl ?_)))
  refine r_nil ?_
  refine w_ret ?_
  cases hF
  exact eR
 ·
  refine qn rfl (qn rfl (qp (AB false) rfl (qp (AB false) rfl ?_)))
  refine r_nil ?_
  refine w_ret ?_
  cases hF
  exact eR

def c192 : MC := (.seq (.reg [rg 2 (.p true (.mv (.c (.bool false))))]) (.seq (.reg [mvt 3 0, rg 4 (.p true (.bin .geq (.t 3) (.c (.int .u8 48)))), mvt 5 4, ⟨(some 6), (some (5, true)), (.p true (.mv (.t 0)))⟩, ⟨(some 7), (some (5, true)), (.p true (.bin .leq (.t 6) (.c (.int .u8 57))))⟩, rg 8 (.p true (.pick (.t 5) (.t 7) (.c (.bool false)))), mvt 2 8]) .ret))
theorem c192_is : compFn Try.prog 192 = some (c192, [(.tmp 2)]) := by kernel_rfl
theorem c192_ok : okFn Try.prog 192 = true := by kernel_rfl

noncomputable def F_spec_l01Digit (v0 : Int) : Option (Bool) :=
 (bif (decide ((48 : Int) ≤ v0)) then some (decide (v0 ≤ (57 : Int)))
 else some false)
@[simp] def res_spec_l01Digit (r : Bool) : RV := .one (.one (.val (.bool r)))
theorem con_spec_l01Digit {v0 : Int} {r : Bool} (hF : F_spec_l01Digit v0 = some r) : Con Try.prog 192 [.int .u8 v0] (res_spec_l01Digit r) := by
 unfold F_spec_l01Digit at hF
 refine con_of c192_is fun N => ?_
 refine ws 0 64 ?_
 refine qp (AB false) rfl ?_
 refine r_nil ?_
 refine ws 64 512 ?_
 refine qp (.val none (.int .u8 v0)) rfl (qp (AB (decide ((48 : Int) ≤ v0))) rfl (qp (AB (decide ((48 : Int) ≤ v0))) rfl ?_))
 refine q_case 5 hF rfl (fun hF => ?_) (fun hF => ?_)
 ·
  refine qg (.val none (.int .u8 v0)) rfl rfl (qg (AB (decide (v0 ≤ (57 : Int)))) rfl rfl (qp (AB (decide (v0 ≤ (57 : Int)))) rfl (qp (AB (decide (v0 ≤ (57 : Int)))) rfl ?_)))
  refine r_nil ?_
  refine w_ret ?_
  cases hF
  exact eR
 ·
  refine qn rfl (qn rfl (qp (AB false) rfl (qp (AB false) rfl ?_)))
  refine r_nil ?_
  refine w_ret ?_
  cases hF
  exact eR

def c137 : MC := (.seq (.reg [rg 2 (.p true (.mv (.c (.bool false))))]) (.seq (.seq (.reg [mvt 4 0, rg 5 (.p true (.bin .eql (.t 4) (.c (.str [])))), mvt 6 5, ⟨(some 7), (some (6, false)), (.p true (.mv (.t 0)))⟩, ⟨(some 8), (some (6, false)), (.p true (.lens (.t 7)))⟩, ⟨(some 9), (some (6, false)), (.p true (.bin .gtr (.t 8) (.c (.int .i64 10))))⟩, rg 10 (.p true (.pick (.t 6) (.c (.bool true)) (.t 9))), mvt 11 10, ⟨(some 12), (some (11, false)), (.p true (.mv (.t 0)))⟩, ⟨(some 13), (some (11, false)), (.p true (.ixs (.t 12) (.c (.int .i64 0))))⟩, ⟨(some 14), (some (11, false)), (.call true 191 [(.t 13)])⟩, ⟨(some 15), (some (11, false)), (.p true (.not (.t 14)))⟩, rg 16 (.p true (.pick (.t 11) (.c (.bool true)) (.t 15)))]) (.cond (.t 16) (.seq (.reg [rg 2 (.p true (.mv (.c (.bool false))))]) .ret) .skip)) (.seq (.seq (.reg [rg 3 (.p true (.mv (.c (.int .i64 0))))]) (.block 0 (.loop (.seq (.seq (.reg [mvt 17 3, mvt 18 0, rg 19 (.p true (.lens (.t 18))), rg 20 (.p true (.bin .lss (.t 17) (.t 19)))]) (.cond (.t 20) .skip (.exit 0))) (.seq (.block 1 (.seq (.reg [mvt 23 0, mvt 24 3, rg 25 (.p true (.ixs (.t 23) (.t 24))), rg 26 (.call true 191 [(.t 25)]), rg 27 (.p true (.not (.t 26))), mvt 28 27, ⟨(some 29), (some (28, true)), (.p true (.mv (.t 0)))⟩, ⟨(some 30), (some (28, true)), (.p true (.mv (.t 3)))⟩, ⟨(some 31), (some (28, true)), (.p true (.ixs (.t 29) (.t 30)))⟩, ⟨(some 32), (some (28, true)), (.call true 192 [(.t 31)])⟩, ⟨(some 33), (some (28, true)), (.p true (.not (.t 32)))⟩, rg 34 (.p true (.pick (.t 28) (.t 33) (.c (.bool false))))]) (.cond (.t 34) (.seq (.reg [rg 2 (.p true (.mv (.c (.bool false))))]) .ret) .skip))) (.reg [mvt 21 3, rg 22 (.p true (.bin .add (.t 21) (.c (.int .i64 1)))), mvt 3 22])))))) (.seq (.reg [rg 2 (.p true (.mv (.c (.bool true))))]) .ret))))
theorem c137_is : compFn Try.prog 137 = some (c137, [(.tmp 2)]) := by kernel_rfl
theorem c137_ok : okFn Try.prog 137 = true := by kernel_rfl

noncomputable def F_spec_l01Name_l0 (v0 : List UInt8) (k1 : Int → Option (Bool)) : Int → Option (Bool)
 | v1011 => (bif (decide (v1011 < (v0.length : Int))) then ((ix v0 v1011).bind fun v1012 => ((F_spec_l01Small (v1012.toNat : Int)).bind fun v1013 => (bif (!v1013) then ((ix v0 v1011).bind fun v1014 => ((F_spec_l01Digit (v1014.toNat : Int)).bind fun v1015 => (bif (!v1015) then some false
 else k1 (w64 (v1011 + 1)))))
 else k1 (w64 (v1011 + 1)))))
 else some true)
noncomputable def F_spec_l01Name (v0 : List UInt8) : Option (Bool) :=
 (bif (decide (v0 = [])) then some false
 else (bif (decide ((10 : Int) < (v0.length : Int))) then some false
 else ((ix v0 0).bind fun v1000 => ((F_spec_l01Small (v1000.toNat : Int)).bind fun v1001 => (bif (!v1001) then some false
 else loop (F_spec_l01Name_l0 v0) 0)))))
@[simp] def res_spec_l01Name (r : Bool) : RV := .one (.one (.val (.bool r)))
theorem con_spec_l01Name {v0 : List UInt8} {r : Bool} (hF : F_spec_l01Name v0 = some r) : Con Try.prog 137 [.str v0] (res_spec_l01Name r) := by
 unfold F_spec_l01Name at hF
 refine con_of c137_is fun N => ?_
 refine ws 0 64 ?_
 refine qp (AB false) rfl ?_
 refine r_nil ?_
 refine w_seq ?_
 refine ws 64 896 ?_
 refine qp (AS v0) rfl (qp (AB (decide (v0 = []))) rfl (qp (AB (decide (v0 = []))) rfl ?_))
 refine q_case 6 hF rfl (fun hF => ?_) (fun hF => ?_)
 ·
  refine qn rfl (qn rfl (qn rfl (qp (AB true) rfl (qp (AB true) rfl (qn rfl (qn rfl (qn rfl ?_)))))))
  refine qn rfl (qp (AB true) rfl ?_)
  refine r_nil ?_
  refine w_true rfl ?_
  refine ws 896 960 ?_
  refine qp (AB false) rfl ?_
  refine r_nil ?_
  refine w_ret ?_
  refine thenQ_r ?_
  cases hF
  exact eR
 ·
  refine qg (AS v0) rfl rfl (qg (AI (v0.length : Int)) rfl rfl (qg (AB (decide ((10 : Int) < (v0.length : Int)))) rfl rfl (qp (AB (decide ((10 : Int) < (v0.length : Int)))) rfl (qp (AB (decide ((10 : Int) < (v0.length : Int)))) rfl ?_))))
  refine q_case 11 hF rfl (fun hF => ?_) (fun hF => ?_)
  ·
   refine qn rfl (qn rfl (qn rfl (qn rfl (qp (AB true) rfl ?_))))
   refine r_nil ?_
   refine w_true rfl ?_
   refine ws 896 960 ?_
   refine qp (AB false) rfl ?_
   refine r_nil ?_
   refine w_ret ?_
   refine thenQ_r ?_
   cases hF
   exact eR
  ·
   refine qg (AS v0) rfl rfl ?_
   obtain ⟨v1000, e1000, hF⟩ := bind_get hF
   refine qg (.val none (.int .u8 (v1000.toNat : Int))) rfl (ev_ixs rfl rfl e1000) ?_
   obtain ⟨v1001, e1001, hF⟩ := bind_get hF
   refine qcg (AB v1001) [] false rfl (con_spec_l01Small e1001) c191_ok (by first | rfl | simp) rfl ?_
   refine qg (AB (!v1001)) rfl rfl (qp (AB (!v1001)) rfl ?_)
   refine r_nil ?_
   refine cF hF (fun hF => ?_) fun hF => ?_
   ·
    refine ws 896 960 ?_
    refine qp (AB false) rfl ?_
    refine r_nil ?_
    refine w_ret ?_
    refine thenQ_r ?_
    cases hF
    exact eR
   ·
    refine w_skip ?_
    refine thenQ_n ?_
    refine w_seq ?_
    refine ws 896 960 ?_
    refine qp (AI 0) rfl ?_
    refine r_nil ?_
    refine w_block ?_
    refine wr (l' := [(0, AS v0), (3, AI 0)]) (L := []) [0, 3] [] 1 ?_
    refine w_loopF (F_spec_l01Name_l0 v0) (fun s : Int => mkS [(0, AS v0), (3, AI s)] (fo []) 1) hF ?_
    rintro k1 v1011 hF
    rw [F_spec_l01Name_l0] at hF
    try dsimp only
    refine w_seq ?_
    refine ws 1 257 ?_
    refine qp (AI v1011) rfl (qp (AS v0) rfl (qp (AI (v0.length : Int)) rfl (qp (AB (decide (v1011 < (v0.length : Int)))) rfl ?_)))
    refine r_nil ?_
    refine cF hF (fun hF => ?_) fun hF => ?_
    ·
     refine w_skip ?_
     refine thenQ_n ?_
     refine w_seq ?_
     refine w_block ?_
     refine ws 257 1025 ?_
     refine qp (AS v0) rfl (qp (AI v1011) rfl ?_)
     obtain ⟨v1012, e1012, hF⟩ := bind_get hF
     refine qp (.val none (.int .u8 (v1012.toNat : Int))) (ev_ixs rfl rfl e1012) ?_
     obtain ⟨v1013, e1013, hF⟩ := bind_get hF
     refine qc (AB v1013) [] false (con_spec_l01Small e1013) c191_ok (by first | rfl | simp) rfl ?_
     refine qp (AB (!v1013)) rfl (qp (AB (!v1013)) rfl ?_)
     refine q_case 28 hF rfl (fun hF => ?_) (fun hF => ?_)
     ·
      refine qg (AS v0) rfl rfl (qg (AI v1011) rfl rfl ?_)
      obtain ⟨v1014, e1014, hF⟩ := bind_get hF
      refine qg (.val none (.int .u8 (v1014.toNat : Int))) rfl (ev_ixs rfl rfl e1014) ?_
      obtain ⟨v1015, e1015, hF⟩ := bind_get hF
      refine qcg (AB v1015) [] false rfl (con_spec_l01Digit e1015) c192_ok (by first | rfl | simp) rfl ?_
      refine qg (AB (!v1015)) rfl rfl (qp (AB (!v1015)) rfl ?_)
      refine r_nil ?_
      refine cF hF (fun hF => ?_) fun hF => ?_
      ·
       refine ws 1025 1089 ?_
       refine qp (AB false) rfl ?_
       refine r_nil ?_
       refine w_ret ?_
       refine blockQ_r ?_
       refine thenQ_r ?_
       refine thenQ_r ?_
       refine blockQ_r ?_
       refine thenQ_r ?_
       cases hF
       exact eR
      ·
       refine w_skip ?_
       refine blockQ_n ?_
       refine thenQ_n ?_
       refine w_reg 1025 1217 rfl rfl ?_
       refine qp (AI v1011) rfl (qp (AI (w64 (v1011 + 1))) rfl (qp (AI (w64 (v1011 + 1))) rfl ?_))
       refine r_nil ?_
       refine thenQ_n ?_
       refine ar (l' := [(0, AS v0), (3, AI (w64 (v1011 + 1)))]) (L := []) [0, 3] [] 1 ⟨_, by rfl, hF⟩
     ·
      refine qn rfl (qn rfl (qn rfl (qn rfl (qn rfl (qp (AB false) rfl ?_)))))
      refine r_nil ?_
      refine w_false rfl ?_
      refine w_skip ?_
      refine blockQ_n ?_
      refine thenQ_n ?_
      refine w_reg 1025 1217 rfl rfl ?_
      refine qp (AI v1011) rfl (qp (AI (w64 (v1011 + 1))) rfl (qp (AI (w64 (v1011 + 1))) rfl ?_))
      refine r_nil ?_
      refine thenQ_n ?_
      refine ar (l' := [(0, AS v0), (3, AI (w64 (v1011 + 1)))]) (L := []) [0, 3] [] 1 ⟨_, by rfl, hF⟩
    ·
     refine w_exit ?_
     refine thenQ_e ?_
     refine thenQ_e ?_
     refine blockQ_e ?_
     refine thenQ_n ?_
     refine ws 257 321 ?_
     refine qp (AB true) rfl ?_
     refine r_nil ?_
     refine w_ret ?_
     cases hF
     exact eR

def c138 : MC := (.seq (.reg [rg 6 (.p true (.mv (.c (.bool false))))]) (.seq (.reg [mvt 7 0, mvt 8 1, rg 9 (.p true (.bin .geq (.t 7) (.t 8))), mvt 10 9, ⟨(some 11), (some (10, true)), (.p true (.mv (.t 0)))⟩, ⟨(some 12), (some (10, true)), (.p true (.mv (.t 2)))⟩, ⟨(some 13), (some (10, true)), (.p true (.bin .leq (.t 11) (.t 12)))⟩, rg 14 (.p true (.pick (.t 10) (.t 13) (.c (.bool false)))), mvt 6 14]) .ret))
theorem c138_is : compFn Try.prog 138 = some (c138, [(.tmp 6)]) := by kernel_rfl
theorem c138_ok : okFn Try.prog 138 = true := by kernel_rfl

noncomputable def F_spec_l00In (v0 : Int) (v1 : Int) (v2 : Int) : Option (Bool) :=
 (bif (decide (v1 ≤ v0)) then some (decide (v0 ≤ v2))
 else some false)
@[simp] def res_spec_l00In (r : Bool) : RV := .one (.one (.val (.bool r)))
theorem con_spec_l00In {v0 : Int} {v1 : Int} {v2 : Int} {r : Bool} (hF : F_spec_l00In v0 v1 v2 = some r) : Con Try.prog 138 [.int .i64 v0, .int .i64 v1, .int .i64 v2] (res_spec_l00In r) := by
 unfold F_spec_l00In at hF
 refine con_of c138_is fun N => ?_
 refine ws 0 64 ?_
 refine qp (AB false) rfl ?_
 refine r_nil ?_
 refine ws 64 640 ?_
 refine qp (AI v0) rfl (qp (AI v1) rfl (qp (AB (decide (v1 ≤ v0))) rfl (qp (AB (decide (v1 ≤ v0))) rfl ?_)))
 refine q_case 10 hF rfl (fun hF => ?_) (fun hF => ?_)
 ·
  refine qg (AI v0) rfl rfl (qg (AI v2) rfl rfl (qg (AB (decide (v0 ≤ v2))) rfl rfl (qp (AB (decide (v0 ≤ v2))) rfl (qp (AB (decide (v0 ≤ v2))) rfl ?_))))
  refine r_nil ?_
  refine w_ret ?_
  cases hF
  exact eR
 ·
  refine qn rfl (qn rfl (qn rfl (qp (AB false) rfl (qp (AB false) rfl ?_))))
  refine r_nil ?_
  refine w_ret ?_
  cases hF
  exact eR

def c62 : MC := (.seq (.reg [rg 4 (.p true (.mv (.c (.int .i64 0))))]) (.seq (.seq (.reg [rg 5 (.p true (.mv (.c (.int .i64 0))))]) (.block 0 (.loop (.seq (.seq (.reg [mvt 6 5, mvt 7 0, rg 8 (.p true (.len (.t 7))), rg 9 (.p true (.bin .lss (.t 6) (.t 8)))]) (.cond (.t 9) .skip (.exit 0))) (.seq (.block 1 (.seq (.reg [mvt 12 0, mvt 13 5, rg 14 (.p true (.iad (.t 12) (.t 13) 3)), rg 15 (.p true (.fad (.t 14) 0)), rg 16 (.p true (.ld (.t 15) 1 false)), mvt 17 1, rg 18 (.p true (.bin .eql (.t 16) (.t 17)))]) (.cond (.t 18) (.seq (.reg [mvt 19 5, mvt 4 19]) .ret) .skip))) (.reg [mvt 10 5, rg 11 (.p true (.bin .add (.t 10) (.c (.int .i64 1)))), mvt 5 11])))))) (.seq (.reg [rg 4 (.p true (.mv (.c (.int .i64 (-1)))))]) .ret)))
theorem c62_is : compFn Try.prog 62 = some (c62, [(.tmp 4)]) := by kernel_rfl
theorem c62_ok : okFn Try.prog 62 = true := by kernel_rfl

noncomputable def F_spec_l30Find_l0 (v0 : List TPerson) (v1 : List UInt8) (k0 : Int → Option (Int)) : Int → Option (Int)
 | v5 => (bif (decide (v5 < (v0.length : Int))) then ((ix v0 v5).bind fun v1000 => (bif (decide (v1000.1 = v1)) then some v5
 else k0 (w64 (v5 + 1))))
 else some (-1))
noncomputable def F_spec_l30Find (v0 : List TPerson) (v1 : List UInt8) : Option (Int) :=
 loop (F_spec_l30Find_l0 v0 v1) 0
@[simp] def res_spec_l30Find (r : Int) : RV := .one (.one (.val (.int .i64 r)))
theorem con_spec_l30Find {v0 : List TPerson} {v1 : List UInt8} {r : Int} (hF : F_spec_l30Find v0 v1 = some r) : Con Try.prog 62 [.sl 3 (v0.map ePerson), .str v1] (res_spec_l30Find r) := by
 unfold F_spec_l30Find at hF
 refine con_of c62_is fun N => ?_
 refine ws 0 64 ?_
 refine qp (AI 0) rfl ?_
 refine r_nil ?_
 refine w_seq ?_
 refine ws 64 128 ?_
 refine qp (AI 0) rfl ?_
 refine r_nil ?_
 refine w_block ?_
 refine wr (l' := [(0, AL 3 (v0.map ePerson)), (1, AS v1), (5, AI 0)]) (L := []) [0, 1, 5] [] 1 ?_
 refine w_loopF (F_spec_l30Find_l0 v0 v1) (fun s : Int => mkS [(0, AL 3 (v0.map ePerson)), (1, AS v1), (5, AI s)] (fo []) 1) hF ?_
 rintro k0 v5 hF
 rw [F_spec_l30Find_l0] at hF
 try dsimp only
 refine w_seq ?_
 refine ws 1 257 ?_
 refine qp (AI v5) rfl (qp (AL 3 (v0.map ePerson)) rfl (qp (AI (v0.length : Int)) (ev_len_n rfl) (qp (AB (decide (v5 < (v0.length : Int)))) rfl ?_)))
 refine r_nil ?_
 refine cF hF (fun hF => ?_) fun hF => ?_
 ·
  refine w_skip ?_
  refine thenQ_n ?_
  refine w_seq ?_
  refine w_block ?_
  refine ws 257 705 ?_
  refine qp (AL 3 (v0.map ePerson)) rfl (qp (AI v5) rfl ?_)
  obtain ⟨v1000, e1000, hF⟩ := bind_get hF
  refine qp (.val none (.ptr [.str v1000.1, .int .i64 v1000.2.1, .sl 1 (v1000.2.2.map V.str)])) (ev_iad_n rfl rfl e1000 rfl) (qp (.val none (.ptr [.str v1000.1, .int .i64 v1000.2.1, .sl 1 (v1000.2.2.map V.str)])) rfl (qp (AS v1000.1) rfl (qp (AS v1) rfl (qp (AB (decide (v1000.1 = v1))) rfl ?_))))
  refine r_nil ?_
  refine cF hF (fun hF => ?_) fun hF => ?_
  ·
   refine ws 705 833 ?_
   refine qp (AI v5) rfl (qp (AI v5) rfl ?_)
   refine r_nil ?_
   refine w_ret ?_
   refine blockQ_r ?_
   refine thenQ_r ?_
   refine thenQ_r ?_
   refine blockQ_r ?_
   refine thenQ_r ?_
   cases hF
   exact eR
  ·
   refine w_skip ?_
   refine blockQ_n ?_
   refine thenQ_n ?_
   refine w_reg 705 897 rfl rfl ?_
   refine qp (AI v5) rfl (qp (AI (w64 (v5 + 1))) rfl (qp (AI (w64 (v5 + 1))) rfl ?_))
   refine r_nil ?_
   refine thenQ_n ?_
   refine ar (l' := [(0, AL 3 (v0.map ePerson)), (1, AS v1), (5, AI (w64 (v5 + 1)))]) (L := []) [0, 1, 5] [] 1 ⟨_, by rfl, hF⟩
 ·
  refine w_exit ?_
  refine thenQ_e ?_
  refine thenQ_e ?_
  refine blockQ_e ?_
  refine thenQ_n ?_
  refine ws 257 321 ?_
  refine qp (AI (-1)) rfl ?_
  refine r_nil ?_
  refine w_ret ?_
  cases hF
  exact eR

def c69 : MC := (.seq (.reg [rg 2 (.p true (.mv (.c (.bool false))))]) (.seq (.seq (.reg [rg 3 (.p true (.mv (.c (.int .i64 0))))]) (.block 0 (.loop (.seq (.seq (.reg [mvt 7 3, mvt 8 0, rg 9 (.p true (.len (.t 8))), rg 10 (.p true (.bin .lss (.t 7) (.t 9)))]) (.cond (.t 10) .skip (.exit 0))) (.seq (.block 1 (.seq (.reg [mvt 13 0, mvt 14 3, rg 15 (.p true (.iad (.t 13) (.t 14) 3)), mvt 4 15]) (.seq (.seq (.reg [rg 16 (.p false (.mv (.t 4))), rg 17 (.p false (.nck (.t 16))), rg 18 (.p false (.fad (.t 17) 0)), rg 19 (.p false (.ld (.t 18) 1 false)), rg 20 (.call false 137 [(.t 19)]), rg 21 (.p false (.not (.t 20))), rg 22 (.p false (.mv (.t 21))), ⟨(some 23), (some (22, false)), (.p false (.mv (.t 4)))⟩, ⟨(some 24), (some (22, false)), (.p false (.nck (.t 23)))⟩, ⟨(some 25), (some (22, false)), (.p false (.fad (.t 24) 1))⟩, ⟨(some 26), (some (22, false)), (.p false (.ld (.t 25) 1 false))⟩, ⟨(some 27), (some (22, false)), (.call false 138 [(.t 26), (.c (.int .i64 0)), (.c (.int .i64 3000))])⟩, ⟨(some 28), (some (22, false)), (.p false (.not (.t 27)))⟩, rg 29 (.p false (.pick (.t 22) (.c (.bool true)) (.t 28))), rg 30 (.p false (.mv (.t 29))), ⟨(some 31), (some (30, false)), (.p false (.mv (.t 4)))⟩, ⟨(some 32), (some (30, false)), (.p false (.nck (.t 31)))⟩, ⟨(some 33), (some (30, false)), (.p false (.fad (.t 32) 2))⟩, ⟨(some 34), (some (30, false)), (.p false (.ld (.t 33) 1 false))⟩, ⟨(some 35), (some (30, false)), (.p false (.len (.t 34)))⟩, ⟨(some 36), (some (30, false)), (.p false (.bin .gtr (.t 35) (.c (.int .i64 4))))⟩, rg 37 (.p false (.pick (.t 30) (.c (.bool true)) (.t 36))), rg 38 (.p false (.mv (.t 37))), ⟨(some 39), (some (38, false)), (.p false (.mv (.t 3)))⟩, ⟨(some 40), (some (38, false)), (.p false (.bin .gtr (.t 39) (.c (.int .i64 0))))⟩, ⟨(some 41), (some (38, false)), (.p false (.mv (.t 40)))⟩, ⟨(some 42), (some (41, true)), (.p false (.mv (.t 0)))⟩, ⟨(some 43), (some (41, true)), (.p false (.mv (.t 3)))⟩, ⟨(some 44), (some (41, true)), (.p false (.bin .sub (.t 43) (.c (.int .i64 1))))⟩, ⟨(some 45), (some (41, true)), (.p false (.iad (.t 42) (.t 44) 3))⟩, ⟨(some 46), (some (41, true)), (.p false (.fad (.t 45) 0))⟩, ⟨(some 47), (some (41, true)), (.p false (.ld (.t 46) 1 false))⟩, ⟨(some 48), (some (41, true)), (.p false (.mv (.t 4)))⟩, ⟨(some 49), (some (41, true)), (.p false (.nck (.t 48)))⟩, ⟨(some 50), (some (41, true)), (.p false (.fad (.t 49) 0))⟩, ⟨(some 51), (some (41, true)), (.p false (.ld (.t 50) 1 false))⟩, ⟨(some 52), (some (41, true)), (.p false (.bin .geq (.t 47) (.t 51)))⟩, ⟨(some 53), (some (38, false)), (.p false (.pick (.t 41) (.t 52) (.c (.bool false))))⟩, rg 54 (.p false (.pick (.t 38) (.c (.bool true)) (.t 53)))]) (.cond (.t 54) (.seq (.reg [rg 2 (.p true (.mv (.c (.bool false))))]) .ret) .skip)) (.seq (.reg [rg 5 (.p true (.mv (.c (.int .i64 0))))]) (.block 2 (.loop (.seq (.seq (.reg [mvt 55 5, mvt 56 4, rg 57 (.p true (.nck (.t 56))), rg 58 (.p true (.fad (.t 57) 2)), rg 59 (.p true (.ld (.t 58) 1 false)), rg 60 (.p true (.len (.t 59))), rg 61 (.p true (.bin .lss (.t 55) (.t 60)))]) (.cond (.t 61) .skip (.exit 2))) (.seq (.block 3 (.seq (.reg [mvt 64 0, mvt 65 4, rg 66 (.p true (.nck (.t 65))), rg 67 (.p true (.fad (.t 66) 2)), rg 68 (.p true (.ld (.t 67) 1 false)), mvt 69 5, rg 70 (.p true (.iad (.t 68) (.t 69) 1)), rg 71 (.p true (.ld (.t 70) 1 false)), rg 72 (.call true 62 [(.t 64), (.t 71)]), mvt 6 72]) (.seq (.reg [rg 73 (.p false (.mv (.t 6))), rg 74 (.p false (.bin .lss (.t 73) (.c (.int .i64 0)))), rg 75 (.p false (.mv (.t 74))), ⟨(some 76), (some (75, false)), (.p false (.mv (.t 0)))⟩, ⟨(some 77), (some (75, false)), (.p false (.mv (.t 6)))⟩, ⟨(some 78), (some (75, false)), (.p false (.iad (.t 76) (.t 77) 3))⟩, ⟨(some 79), (some (75, false)), (.p false (.fad (.t 78) 1))⟩, ⟨(some 80), (some (75, false)), (.p false (.ld (.t 79) 1 false))⟩, ⟨(some 81), (some (75, false)), (.p false (.mv (.t 4)))⟩, ⟨(some 82), (some (75, false)), (.p false (.nck (.t 81)))⟩, ⟨(some 83), (some (75, false)), (.p false (.fad (.t 82) 1))⟩, ⟨(some 84), (some (75, false)), (.p false (.ld (.t 83) 1 false))⟩, ⟨(some 85), (some (75, false)), (.p false (.bin .geq (.t 80) (.t 84)))⟩, rg 86 (.p false (.pick (.t 75) (.c (.bool true)) (.t 85))), rg 87 (.p false (.mv (.t 86))), ⟨(some 88), (some (87, false)), (.p false (.mv (.t 5)))⟩, ⟨(some 89), (some (87, false)), (.p false (.bin .gtr (.t 88) (.c (.int .i64 0))))⟩, ⟨(some 90), (some (87, false)), (.p false (.mv (.t 89)))⟩, ⟨(some 91), (some (90, true)), (.p false (.mv (.t 4)))⟩, ⟨(some 92), (some (90, true)), (.p false (.nck (.t 91)))⟩, ⟨(some 93), (some (90, true)), (.p false (.fad (.t 92) 2))⟩, ⟨(some 94), (some (90, true)), (.p false (.ld (.t 93) 1 false))⟩, ⟨(some 95), (some (90, true)), (.p false (.mv (.t 5)))⟩, ⟨(some 96), (some (90, true)), (.p false (.bin .sub (.t 95) (.c (.int .i64 1))))⟩, ⟨(some 97), (some (90, true)), (.p false (.iad (.t 94) (.t 96) 1))⟩, ⟨(some 98), (some (90, true)), (.p false (.ld (.t 97) 1 false))⟩, ⟨(some 99), (some (90, true)), (.p false (.mv (.t 4)))⟩, ⟨(some 100), (some (90, true)), (.p false (.nck (.t 99)))⟩, ⟨(some 101), (some (90, true)), (.p false (.fad (.t 100) 2))⟩, ⟨(some 102), (some (90, true)), (.p false (.ld (.t 101) 1 false))⟩, ⟨(some 103), (some (90, true)), (.p false (.mv (.t 5)))⟩, ⟨(some 104), (some (90, true)), (.p false (.iad (.t 102) (.t 103) 1))⟩, ⟨(some 105), (some (90, true)), (.p false (.ld (.t 104) 1 false))⟩, ⟨(some 106), (some (90, true)), (.p false (.bin .geq (.t 98) (.t 105)))⟩, ⟨(some 107), (some (87, false)), (.p false (.pick (.t 90) (.t 106) (.c (.bool false))))⟩, rg 108 (.p false (.pick (.t 87) (.c (.bool true)) (.t 107)))]) (.cond (.t 108) (.seq (.reg [rg 2 (.p true (.mv (.c (.bool false))))]) .ret) .skip)))) (.reg [mvt 62 5, rg 63 (.p true (.bin .add (.t 62) (.c (.int .i64 1)))), mvt 5 63]))))))))) (.reg [mvt 11 3, rg 12 (.p true (.bin .add (.t 11) (.c (.int .i64 1)))), mvt 3 12])))))) (.seq (.reg [mvt 109 0, rg 110 (.p true (.len (.t 109))), rg 111 (.p true (.bin .leq (.t 110) (.c (.int .i64 24)))), mvt 2 111]) .ret)))
theorem c69_is : compFn Try.prog 69 = some (c69, [(.tmp 2)]) := by kernel_rfl
theorem c69_ok : okFn Try.prog 69 = true := by kernel_rfl

noncomputable def F_spec_l30Ok_l2 (v0 : List TPerson) (v26 : Int) (v1000 : TPerson) (k2 : Int → Option (Bool)) (k4 : Int → Option (Bool)) : Int → Option (Bool)
 | v1015 => (bif (decide (v1015 < (v1000.2.2.length : Int))) then ((ix v1000.2.2 v1015).bind fun v1007 => ((F_spec_l30Find v0 v1007).bind fun v1008 => (bif (decide (v1008 < (0 : Int))) then some false
 else ((ix v0 v1008).bind fun v1009 => (bif (decide (v1000.2.1 ≤ v1009.2.1)) then some false
 else (bif (decide ((0 : Int) < v1015)) then ((ix v1000.2.2 (w64 (v1015 - 1))).bind fun v1010 => ((ix v1000.2.2 v1015).bind fun v1011 => (bif (!Op.bytesLess v1010 v1011) then some false
 else k4 (w64 (v1015 + 1)))))
 else k4 (w64 (v1015 + 1))))))))
 else k2 (w64 (v26 + 1)))
noncomputable def F_spec_l30Ok_j1 (v0 : List TPerson) (v26 : Int) (v1000 : TPerson) (k2 : Int → Option (Bool)) : Option (Bool) :=
 loop (F_spec_l30Ok_l2 v0 v26 v1000 k2) 0
noncomputable def F_spec_l30Ok_l0 (v0 : List TPerson) (k2 : Int → Option (Bool)) : Int → Option (Bool)
 | v26 => (bif (decide (v26 < (v0.length : Int))) then ((ix v0 v26).bind fun v1000 => ((F_spec_l01Name v1000.1).bind fun v1004 => (bif (!v1004) then some false
 else ((F_spec_l00In v1000.2.1 0 3000).bind fun v1005 => (bif (!v1005) then some false
 else (bif (decide ((4 : Int) < (v1000.2.2.length : Int))) then some false
 else (bif (decide ((0 : Int) < v26)) then ((ix v0 (w64 (v26 - 1))).bind fun v1006 => (bif (!Op.bytesLess v1006.1 v1000.1) then some false
 else F_spec_l30Ok_j1 v0 v26 v1000 k2))
 else F_spec_l30Ok_j1 v0 v26 v1000 k2)))))))
 else some (decide ((v0.length : Int) ≤ (24 : Int))))
noncomputable def F_spec_l30Ok (v0 : List TPerson) : Option (Bool) :=
 loop (F_spec_l30Ok_l0 v0) 0
@[simp] def res_spec_l30Ok (r : Bool) : RV := .one (.one (.val (.bool r)))
theorem con_spec_l30Ok {v0 : List TPerson} {r : Bool} (hF : F_spec_l30Ok v0 = some r) : Con Try.prog 69 [.sl 3 (v0.map ePerson)] (res_spec_l30Ok r) := by
 unfold F_spec_l30Ok at hF
 refine con_of c69_is fun N => ?_
 refine ws 0 64 ?_
 refine qp (AB false) rfl ?_
 refine r_nil ?_
 refine w_seq ?_
 refine ws 64 128 ?_
 refine qp (AI 0) rfl ?_
 refine r_nil ?_
 refine w_block ?_
 refine wr (l' := [(0, AL 3 (v0.map ePerson)), (3, AI 0)]) (L := []) [0, 3] [] 1 ?_
 refine w_loopF (F_spec_l30Ok_l0 v0) (fun s : Int => mkS [(0, AL 3 (v0.map ePerson)), (3, AI s)] (fo []) 1) hF ?_
 rintro k2 v26 hF
 rw [F_spec_l30Ok_l0] at hF
 try dsimp only
 refine w_seq ?_
 refine ws 1 257 ?_
 refine qp (AI v26) rfl (qp (AL 3 (v0.map ePerson)) rfl (qp (AI (v0.length : Int)) (ev_len_n rfl) (qp (AB (decide (v26 < (v0.length : Int)))) rfl ?_)))
 refine r_nil ?_
 refine cF hF (fun hF => ?_) fun hF => ?_
 ·
  refine w_skip ?_
  refine thenQ_n ?_
  refine w_seq ?_
  refine w_block ?_
  refine ws 257 513 ?_
  refine qp (AL 3 (v0.map ePerson)) rfl (qp (AI v26) rfl ?_)
  obtain ⟨v1000, e1000, hF⟩ := bind_get hF
  refine qp (.val none (.ptr [.str v1000.1, .int .i64 v1000.2.1, .sl 1 (v1000.2.2.map V.str)])) (ev_iad_n rfl rfl e1000 rfl) (qp (.val none (.ptr [.str v1000.1, .int .i64 v1000.2.1, .sl 1 (v1000.2.2.map V.str)])) rfl ?_)
  refine r_nil ?_
  refine w_meet (fun s' => s' = mkS [(0, AL 3 (v0.map ePerson)), (3, AI v26), (4, .val none (.ptr [.str v1000.1, .int .i64 v1000.2.1, .sl 1 (v1000.2.2.map V.str)]))] (fo []) 1 ∧ F_spec_l30Ok_j1 v0 v26 v1000 k2 = some r) ?_ ?_
  ·
   refine ws 513 3009 ?_
   refine qp (.val none (.ptr [.str v1000.1, .int .i64 v1000.2.1, .sl 1 (v1000.2.2.map V.str)])) rfl (qp (.val none (.ptr [.str v1000.1, .int .i64 v1000.2.1, .sl 1 (v1000.2.2.map V.str)])) rfl (qp (.val none (.ptr [.str v1000.1, .int .i64 v1000.2.1, .sl 1 (v1000.2.2.map V.str)])) rfl (qp (AS v1000.1) rfl ?_)))
   obtain ⟨v1004, e1004, hF⟩ := bind_get hF
   refine qc (AB v1004) [] false (con_spec_l01Name e1004) c137_ok (by first | rfl | simp) rfl ?_
   refine qp (AB (!v1004)) rfl (qp (AB (!v1004)) rfl ?_)
   refine q_case 22 hF rfl (fun hF => ?_) (fun hF => ?_)
   ·
    refine qn rfl (qn rfl (qn rfl (qn rfl (qn rfl (qn rfl (qp (AB true) rfl (qp (AB true) rfl ?_)))))))
    refine qn rfl (qn rfl (qn rfl (qn rfl (qn rfl (qn rfl (qp (AB true) rfl (qp (AB true) rfl ?_)))))))
    refine qn rfl (qn rfl (qn rfl (qu rfl (qu rfl (qu rfl (qu rfl (qu rfl ?_)))))))
    refine qu rfl (qu rfl (qu rfl (qu rfl (qu rfl (qu rfl (qn rfl (qp (AB true) rfl ?_)))))))
    refine r_nil ?_
    refine w_true rfl ?_
    refine ws 3009 3073 ?_
    refine qp (AB false) rfl ?_
    refine r_nil ?_
    refine w_ret ?_
    refine thenQ_r ?_
    refine blockQ_r ?_
    refine thenQ_r ?_
    refine thenQ_r ?_
    refine blockQ_r ?_
    refine thenQ_r ?_
    cases hF
    exact eR
   ·
    refine qg (.val none (.ptr [.str v1000.1, .int .i64 v1000.2.1, .sl 1 (v1000.2.2.map V.str)])) rfl rfl (qg (.val none (.ptr [.str v1000.1, .int .i64 v1000.2.1, .sl 1 (v1000.2.2.map V.str)])) rfl rfl (qg (.val none (.ptr [.int .i64 v1000.2.1, .sl 1 (v1000.2.2.map V.str)])) rfl rfl (qg (AI v1000.2.1) rfl rfl ?_)))
    obtain ⟨v1005, e1005, hF⟩ := bind_get hF
    refine qcg (AB v1005) [] false rfl (con_spec_l00In e1005) c138_ok (by first | rfl | simp) rfl ?_
    refine qg (AB (!v1005)) rfl rfl (qp (AB (!v1005)) rfl (qp (AB (!v1005)) rfl ?_))
    refine q_case 30 hF rfl (fun hF => ?_) (fun hF => ?_)
    ·
     refine qn rfl (qn rfl (qn rfl (qn rfl (qn rfl (qn rfl (qp (AB true) rfl (qp (AB true) rfl ?_)))))))
     refine qn rfl (qn rfl (qn rfl (qu rfl (qu rfl (qu rfl (qu rfl (qu rfl ?_)))))))
     refine qu rfl (qu rfl (qu rfl (qu rfl (qu rfl (qu rfl (qn rfl (qp (AB true) rfl ?_)))))))
     refine r_nil ?_
     refine w_true rfl ?_
     refine ws 3009 3073 ?_
     refine qp (AB false) rfl ?_
     refine r_nil ?_
     refine w_ret ?_
     refine thenQ_r ?_
     refine blockQ_r ?_
     refine thenQ_r ?_
     refine thenQ_r ?_
     refine blockQ_r ?_
     refine thenQ_r ?_
     cases hF
     exact eR
    ·
     refine qg (.val none (.ptr [.str v1000.1, .int .i64 v1000.2.1, .sl 1 (v1000.2.2.map V.str)])) rfl rfl (qg (.val none (.ptr [.str v1000.1, .int .i64 v1000.2.1, .sl 1 (v1000.2.2.map V.str)])) rfl rfl (qg (.val none (.ptr [.sl 1 (v1000.2.2.map V.str)])) rfl rfl (qg (AL 1 (v1000.2.2.map V.str)) rfl rfl (qg (AI (v1000.2.2.length : Int)) rfl (ev_len_n rfl) (qg (AB (decide ((4 : Int) < (v1000.2.2.length : Int)))) rfl rfl (qp (AB (decide ((4 : Int) < (v1000.2.2.length : Int)))) rfl (qp (AB (decide ((4 : Int) < (v1000.2.2.length : Int)))) rfl ?_)))))))
     refine q_case 38 hF rfl (fun hF => ?_) (fun hF => ?_)
     ·
      refine qn rfl (qn rfl (qn rfl (qu rfl (qu rfl (qu rfl (qu rfl (qu rfl ?_)))))))
      refine qu rfl (qu rfl (qu rfl (qu rfl (qu rfl (qu rfl (qn rfl (qp (AB true) rfl ?_)))))))
      refine r_nil ?_
      refine w_true rfl ?_
      refine ws 3009 3073 ?_
      refine qp (AB false) rfl ?_
      refine r_nil ?_
      refine w_ret ?_
      refine thenQ_r ?_
      refine blockQ_r ?_
      refine thenQ_r ?_
      refine thenQ_r ?_
      refine blockQ_r ?_
      refine thenQ_r ?_
      cases hF
      exact eR
     ·
      refine qg (AI v26) rfl rfl (qg (AB (decide ((0 : Int) < v26))) rfl rfl (qg (AB (decide ((0 : Int) < v26))) rfl rfl ?_))
      refine q_case 41 hF rfl (fun hF => ?_) (fun hF => ?_)
      ·
       refine qg (AL 3 (v0.map ePerson)) rfl rfl (qg (AI v26) rfl rfl (qg (AI (w64 (v26 - 1))) rfl rfl ?_))
       obtain ⟨v1006, e1006, hF⟩ := bind_get hF
       refine qg (.val none (.ptr [.str v1006.1, .int .i64 v1006.2.1, .sl 1 (v1006.2.2.map V.str)])) rfl (ev_iad_n rfl rfl e1006 rfl) (qg (.val none (.ptr [.str v1006.1, .int .i64 v1006.2.1, .sl 1 (v1006.2.2.map V.str)])) rfl rfl (qg (AS v1006.1) rfl rfl (qg (.val none (.ptr [.str v1000.1, .int .i64 v1000.2.1, .sl 1 (v1000.2.2.map V.str)])) rfl rfl (qg (.val none (.ptr [.str v1000.1, .int .i64 v1000.2.1, .sl 1 (v1000.2.2.map V.str)])) rfl rfl (qg (.val none (.ptr [.str v1000.1, .int .i64 v1000.2.1, .sl 1 (v1000.2.2.map V.str)])) rfl rfl (qg (AS v1000.1) rfl rfl (qg (AB (!Op.bytesLess v1006.1 v1000.1)) rfl rfl ?_)))))))
       refine qg (AB (!Op.bytesLess v1006.1 v1000.1)) rfl rfl (qp (AB (!Op.bytesLess v1006.1 v1000.1)) rfl ?_)
       refine r_nil ?_
       refine cF hF (fun hF => ?_) fun hF => ?_
       ·
        refine ws 3009 3073 ?_
        refine qp (AB false) rfl ?_
        refine r_nil ?_
        refine w_ret ?_
        refine thenQ_r ?_
        refine blockQ_r ?_
        refine thenQ_r ?_
        refine thenQ_r ?_
        refine blockQ_r ?_
        refine thenQ_r ?_
        cases hF
        exact eR
       ·
        refine w_skip ?_
        refine thenQ_n ?_
        refine aw_ren (l' := [(0, AL 3 (v0.map ePerson)), (3, AI v26), (4, .val none (.ptr [.str v1000.1, .int .i64 v1000.2.1, .sl 1 (v1000.2.2.map V.str)]))]) (L := []) [0, 3, 4] [] 1 (by first | rfl | simp) (by first | rfl | simp) (by decide) (by decide) (by decide) ⟨rfl, hF⟩
      ·
       refine qn rfl (qn rfl (qn rfl (qn rfl (qn rfl (qn rfl (qn rfl (qn rfl ?_)))))))
       refine qn rfl (qn rfl (qn rfl (qg (AB false) rfl rfl (qp (AB false) rfl ?_))))
       refine r_nil ?_
       refine w_false rfl ?_
       refine w_skip ?_
       refine thenQ_n ?_
       refine aw_ren (l' := [(0, AL 3 (v0.map ePerson)), (3, AI v26), (4, .val none (.ptr [.str v1000.1, .int .i64 v1000.2.1, .sl 1 (v1000.2.2.map V.str)]))]) (L := []) [0, 3, 4] [] 1 (by first | rfl | simp) (by first | rfl | simp) (by decide) (by decide) (by decide) ⟨rfl, hF⟩
  ·
   rintro s' ⟨rfl, hF⟩
   unfold F_spec_l30Ok_j1 at hF
   refine ws 1 65 ?_
   refine qp (AI 0) rfl ?_
   refine r_nil ?_
   refine w_block ?_
   refine wr (l' := [(0, AL 3 (v0.map ePerson)), (3, AI v26), (4, .val none (.ptr [.str v1000.1, .int .i64 v1000.2.1, .sl 1 (v1000.2.2.map V.str)])), (5, AI 0)]) (L := []) [0, 3, 4, 5] [] 1 ?_
   refine w_loopF (F_spec_l30Ok_l2 v0 v26 v1000 k2) (fun s : Int => mkS [(0, AL 3 (v0.map ePerson)), (3, AI v26), (4, .val none (.ptr [.str v1000.1, .int .i64 v1000.2.1, .sl 1 (v1000.2.2.map V.str)])), (5, AI s)] (fo []) 1) hF ?_
   rintro k4 v1015 hF
   rw [F_spec_l30Ok_l2] at hF
   try dsimp only
   refine w_seq ?_
   refine ws 1 449 ?_
   refine qp (AI v1015) rfl (qp (.val none (.ptr [.str v1000.1, .int .i64 v1000.2.1, .sl 1 (v1000.2.2.map V.str)])) rfl (qp (.val none (.ptr [.str v1000.1, .int .i64 v1000.2.1, .sl 1 (v1000.2.2.map V.str)])) rfl (qp (.val none (.ptr [.sl 1 (v1000.2.2.map V.str)])) rfl (qp (AL 1 (v1000.2.2.map V.str)) rfl (qp (AI (v1000.2.2.length : Int)) (ev_len_n rfl) (qp (AB (decide (v1015 < (v1000.2.2.length : Int)))) rfl ?_))))))
   refine r_nil ?_
   refine cF hF (fun hF => ?_) fun hF => ?_
   ·
    refine w_skip ?_
    refine thenQ_n ?_
    refine w_seq ?_
    refine w_block ?_
    refine ws 449 1089 ?_
    refine qp (AL 3 (v0.map ePerson)) rfl (qp (.val none (.ptr [.str v1000.1, .int .i64 v1000.2.1, .sl 1 (v1000.2.2.map V.str)])) rfl (qp (.val none (.ptr [.str v1000.1, .int .i64 v1000.2.1, .sl 1 (v1000.2.2.map V.str)])) rfl (qp (.val none (.ptr [.sl 1 (v1000.2.2.map V.str)])) rfl (qp (AL 1 (v1000.2.2.map V.str)) rfl (qp (AI v1015) rfl ?_)))))
    obtain ⟨v1007, e1007, hF⟩ := bind_get hF
    refine qp (.val none (.ptr [.str v1007])) (ev_iad_n rfl rfl e1007 rfl) (qp (AS v1007) rfl ?_)
    obtain ⟨v1008, e1008, hF⟩ := bind_get hF
    refine qc (AI v1008) [] false (con_spec_l30Find e1008) c62_ok (by first | rfl | simp) rfl ?_
    refine qp (AI v1008) rfl ?_
    refine r_nil ?_
    refine ws 1089 3393 ?_
    refine qp (AI v1008) rfl (qp (AB (decide (v1008 < (0 : Int)))) rfl (qp (AB (decide (v1008 < (0 : Int)))) rfl ?_))
    refine q_case 75 hF rfl (fun hF => ?_) (fun hF => ?_)
    ·
     refine qn rfl (qn rfl (qn rfl (qn rfl (qn rfl (qn rfl (qn rfl (qn rfl ?_)))))))
     refine qn rfl (qn rfl (qp (AB true) rfl (qp (AB true) rfl (qn rfl (qn rfl (qn rfl (qu rfl ?_)))))))
     refine qu rfl (qu rfl (qu rfl (qu rfl (qu rfl (qu rfl (qu rfl (qu rfl ?_)))))))
     refine qu rfl (qu rfl (qu rfl (qu rfl (qu rfl (qu rfl (qu rfl (qn rfl ?_)))))))
     refine qp (AB true) rfl ?_
     refine r_nil ?_
     refine w_true rfl ?_
     refine ws 3393 3457 ?_
     refine qp (AB false) rfl ?_
     refine r_nil ?_
     refine w_ret ?_
     refine blockQ_r ?_
     refine thenQ_r ?_
     refine thenQ_r ?_
     refine blockQ_r ?_
     refine blockQ_r ?_
     refine thenQ_r ?_
     refine thenQ_r ?_
     refine blockQ_r ?_
     refine thenQ_r ?_
     cases hF
     exact eR
    ·
     refine qg (AL 3 (v0.map ePerson)) rfl rfl (qg (AI v1008) rfl rfl ?_)
     obtain ⟨v1009, e1009, hF⟩ := bind_get hF
     refine qg (.val none (.ptr [.str v1009.1, .int .i64 v1009.2.1, .sl 1 (v1009.2.2.map V.str)])) rfl (ev_iad_n rfl rfl e1009 rfl) (qg (.val none (.ptr [.int .i64 v1009.2.1, .sl 1 (v1009.2.2.map V.str)])) rfl rfl (qg (AI v1009.2.1) rfl rfl (qg (.val none (.ptr [.str v1000.1, .int .i64 v1000.2.1, .sl 1 (v1000.2.2.map V.str)])) rfl rfl (qg (.val none (.ptr [.str v1000.1, .int .i64 v1000.2.1, .sl 1 (v1000.2.2.map V.str)])) rfl rfl (qg (.val none (.ptr [.int .i64 v1000.2.1, .sl 1 (v1000.2.2.map V.str)])) rfl rfl (qg (AI v1000.2.1) rfl rfl (qg (AB (decide (v1000.2.1 ≤ v1009.2.1))) rfl rfl ?_)))))))
     refine qp (AB (decide (v1000.2.1 ≤ v1009.2.1))) rfl (qp (AB (decide (v1000.2.1 ≤ v1009.2.1))) rfl ?_)
     refine q_case 87 hF rfl (fun hF => ?_) (fun hF => ?_)
     ·
      refine qn rfl (qn rfl (qn rfl (qu rfl (qu rfl (qu rfl (qu rfl (qu rfl ?_)))))))
      refine qu rfl (qu rfl (qu rfl (qu rfl (qu rfl (qu rfl (qu rfl (qu rfl ?_)))))))
      refine qu rfl (qu rfl (qu rfl (qn rfl (qp (AB true) rfl ?_))))
      refine r_nil ?_
      refine w_true rfl ?_
      refine ws 3393 3457 ?_
      refine qp (AB false) rfl ?_
      refine r_nil ?_
      refine w_ret ?_
      refine blockQ_r ?_
      refine thenQ_r ?_
      refine thenQ_r ?_
      refine blockQ_r ?_
      refine blockQ_r ?_
      refine thenQ_r ?_
      refine thenQ_r ?_
      refine blockQ_r ?_
      refine thenQ_r ?_
      cases hF
      exact eR
     ·
      refine qg (AI v1015) rfl rfl (qg (AB (decide ((0 : Int) < v1015))) rfl rfl (qg (AB (decide ((0 : Int) < v1015))) rfl rfl ?_))
      refine q_case 90 hF rfl (fun hF => ?_) (fun hF => ?_)
      ·
       refine qg (.val none (.ptr [.str v1000.1, .int .i64 v1000.2.1, .sl 1 (v1000.2.2.map V.str)])) rfl rfl (qg (.val none (.ptr [.str v1000.1, .int .i64 v1000.2.1, .sl 1 (v1000.2.2.map V.str)])) rfl rfl (qg (.val none (.ptr [.sl 1 (v1000.2.2.map V.str)])) rfl rfl (qg (AL 1 (v1000.2.2.map V.str)) rfl rfl (qg (AI v1015) rfl rfl (qg (AI (w64 (v1015 - 1))) rfl rfl ?_)))))
       obtain ⟨v1010, e1010, hF⟩ := bind_get hF
       refine qg (.val none (.ptr [.str v1010])) rfl (ev_iad_n rfl rfl e1010 rfl) (qg (AS v1010) rfl rfl (qg (.val none (.ptr [.str v1000.1, .int .i64 v1000.2.1, .sl 1 (v1000.2.2.map V.str)])) rfl rfl (qg (.val none (.ptr [.str v1000.1, .int .i64 v1000.2.1, .sl 1 (v1000.2.2.map V.str)])) rfl rfl (qg (.val none (.ptr [.sl 1 (v1000.2.2.map V.str)])) rfl rfl (qg (AL 1 (v1000.2.2.map V.str)) rfl rfl (qg (AI v1015) rfl rfl ?_))))))
       obtain ⟨v1011, e1011, hF⟩ := bind_get hF
       refine qg (.val none (.ptr [.str v1011])) rfl (ev_iad_n rfl rfl e1011 rfl) (qg (AS v1011) rfl rfl (qg (AB (!Op.bytesLess v1010 v1011)) rfl rfl (qg (AB (!Op.bytesLess v1010 v1011)) rfl rfl (qp (AB (!Op.bytesLess v1010 v1011)) rfl ?_))))
       refine r_nil ?_
       refine cF hF (fun hF => ?_) fun hF => ?_
       ·
        refine ws 3393 3457 ?_
        refine qp (AB false) rfl ?_
        refine r_nil ?_
        refine w_ret ?_
        refine blockQ_r ?_
        refine thenQ_r ?_
        refine thenQ_r ?_
        refine blockQ_r ?_
        refine blockQ_r ?_
        refine thenQ_r ?_
        refine thenQ_r ?_
        refine blockQ_r ?_
        refine thenQ_r ?_
        cases hF
        exact eR
       ·
        refine w_skip ?_
        refine blockQ_n ?_
        refine thenQ_n ?_
        refine w_reg 3393 3585 rfl rfl ?_
        refine qp (AI v1015) rfl (qp (AI (w64 (v1015 + 1))) rfl (qp (AI (w64 (v1015 + 1))) rfl ?_))
        refine r_nil ?_
        refine thenQ_n ?_
        refine ar (l' := [(0, AL 3 (v0.map ePerson)), (3, AI v26), (4, .val none (.ptr [.str v1000.1, .int .i64 v1000.2.1, .sl 1 (v1000.2.2.map V.str)])), (5, AI (w64 (v1015 + 1)))]) (L := []) [0, 3, 4, 5] [] 1 ⟨_, by rfl, hF⟩
      ·
       refine qn rfl (qn rfl (qn rfl (qn rfl (qn rfl (qn rfl (qn rfl (qn rfl ?_)))))))
       refine qn rfl (qn rfl (qn rfl (qn rfl (qn rfl (qn rfl (qn rfl (qn rfl ?_)))))))
       refine qg (AB false) rfl rfl (qp (AB false) rfl ?_)
       refine r_nil ?_
       refine w_false rfl ?_
       refine w_skip ?_
       refine blockQ_n ?_
       refine thenQ_n ?_
       refine w_reg 3393 3585 rfl rfl ?_
       refine qp (AI v1015) rfl (qp (AI (w64 (v1015 + 1))) rfl (qp (AI (w64 (v1015 + 1))) rfl ?_))
       refine r_nil ?_
       refine thenQ_n ?_
       refine ar (l' := [(0, AL 3 (v0.map ePerson)), (3, AI v26), (4, .val none (.ptr [.str v1000.1, .int .i64 v1000.2.1, .sl 1 (v1000.2.2.map V.str)])), (5, AI (w64 (v1015 + 1)))]) (L := []) [0, 3, 4, 5] [] 1 ⟨_, by rfl, hF⟩
   ·
    refine w_exit ?_
    refine thenQ_e ?_
    refine thenQ_e ?_
    refine blockQ_e ?_
    refine blockQ_n ?_
    refine thenQ_n ?_
    refine w_reg 449 641 rfl rfl ?_
    refine qp (AI v26) rfl (qp (AI (w64 (v26 + 1))) rfl (qp (AI (w64 (v26 + 1))) rfl ?_))
    refine r_nil ?_
    refine thenQ_n ?_
    refine ar (l' := [(0, AL 3 (v0.map ePerson)), (3, AI (w64 (v26 + 1)))]) (L := []) [0, 3] [] 1 ⟨_, by rfl, hF⟩
 ·
  refine w_exit ?_
  refine thenQ_e ?_
  refine thenQ_e ?_
  refine blockQ_e ?_
  refine thenQ_n ?_
  refine ws 257 513 ?_
  refine qp (AL 3 (v0.map ePerson)) rfl (qp (AI (v0.length : Int)) (ev_len_n rfl) (qp (AB (decide ((v0.length : Int) ≤ (24 : Int)))) rfl (qp (AB (decide ((v0.length : Int) ≤ (24 : Int)))) rfl ?_)))
  refine r_nil ?_
  refine w_ret ?_
  cases hF
  exact eR

def c60 : MC := (.seq (.reg [rg 4 (.p true (.mv (.c (.int .i64 0))))]) (.seq (.seq (.reg [mvt 5 0, rg 6 (.call true 69 [(.t 5)]), rg 7 (.p true (.not (.t 6)))]) (.cond (.t 7) (.seq (.reg [rg 4 (.p true (.mv (.c (.int .i64 1))))]) .ret) .skip)) (.seq (.seq (.reg [mvt 8 0, mvt 9 1, rg 10 (.call true 62 [(.t 8), (.t 9)]), rg 11 (.p true (.bin .lss (.t 10) (.c (.int .i64 0))))]) (.cond (.t 11) (.seq (.reg [rg 4 (.p true (.mv (.c (.int .i64 3))))]) .ret) .skip)) (.seq (.reg [rg 4 (.p true (.mv (.c (.int .i64 0))))]) .ret))))
theorem c60_is : compFn Try.prog 60 = some (c60, [(.tmp 4)]) := by kernel_rfl
theorem c60_ok : okFn Try.prog 60 = true := by kernel_rfl

noncomputable def F_spec_l30Ask (v0 : List TPerson) (v1 : List UInt8) : Option (Int) :=
 ((F_spec_l30Ok v0).bind fun v1000 => (bif (!v1000) then some 1
 else ((F_spec_l30Find v0 v1).bind fun v1001 => (bif (decide (v1001 < (0 : Int))) then some 3
 else some 0))))
@[simp] def res_spec_l30Ask (r : Int) : RV := .one (.one (.val (.int .i64 r)))
theorem con_spec_l30Ask {v0 : List TPerson} {v1 : List UInt8} {r : Int} (hF : F_spec_l30Ask v0 v1 = some r) : Con Try.prog 60 [.sl 3 (v0.map ePerson), .str v1] (res_spec_l30Ask r) := by
 unfold F_spec_l30Ask at hF
 refine con_of c60_is fun N => ?_
 refine ws 0 64 ?_
 refine qp (AI 0) rfl ?_
 refine r_nil ?_
 refine w_seq ?_
 refine ws 64 256 ?_
 refine qp (AL 3 (v0.map ePerson)) rfl ?_
 obtain ⟨v1000, e1000, hF⟩ := bind_get hF
 refine qc (AB v1000) [] false (con_spec_l30Ok e1000) c69_ok (by first | rfl | simp) rfl ?_
 refine qp (AB (!v1000)) rfl ?_
 refine r_nil ?_
 refine cF hF (fun hF => ?_) fun hF => ?_
 ·
  refine ws 256 320 ?_
  refine qp (AI 1) rfl ?_
  refine r_nil ?_
  refine w_ret ?_
  refine thenQ_r ?_
  cases hF
  exact eR
 ·
  refine w_skip ?_
  refine thenQ_n ?_
  refine w_seq ?_
  refine ws 256 512 ?_
  refine qp (AL 3 (v0.map ePerson)) rfl (qp (AS v1) rfl ?_)
  obtain ⟨v1001, e1001, hF⟩ := bind_get hF
  refine qc (AI v1001) [] false (con_spec_l30Find e1001) c62_ok (by first | rfl | simp) rfl ?_
  refine qp (AB (decide (v1001 < (0 : Int)))) rfl ?_
  refine r_nil ?_
  refine cF hF (fun hF => ?_) fun hF => ?_
  ·
   refine ws 512 576 ?_
   refine qp (AI 3) rfl ?_
   refine r_nil ?_
   refine w_ret ?_
   refine thenQ_r ?_
   cases hF
   exact eR
  ·
   refine w_skip ?_
   refine thenQ_n ?_
   refine ws 512 576 ?_
   refine qp (AI 0) rfl ?_
   refine r_nil ?_
   refine w_ret ?_
   cases hF
   exact eR

def c16 : MC := (.seq (.reg [rg 6 (.p true (.mv (.c (.int .i64 0)))), rg 7 (.p true (.mv (.c (.int .i64 0))))]) (.seq (.reg [mvt 16 0, mvt 17 1, rg 18 (.call true 60 [(.t 16), (.t 17)]), mvt 8 18]) (.seq (.seq (.reg [mvt 19 8, rg 20 (.p true (.bin .eql (.t 19) (.c (.int .i64 0)))), mvt 21 20, ⟨(some 22), (some (21, true)), (.p true (.mv (.t 0)))⟩, ⟨(some 23), (some (21, true)), (.p true (.mv (.t 2)))⟩, ⟨(some 24), (some (21, true)), (.call true 62 [(.t 22), (.t 23)])⟩, ⟨(some 25), (some (21, true)), (.p true (.bin .lss (.t 24) (.c (.int .i64 0))))⟩, rg 26 (.p true (.pick (.t 21) (.t 25) (.c (.bool false))))]) (.cond (.t 26) (.reg [rg 8 (.p true (.mv (.c (.int .i64 3))))]) .skip)) (.seq (.seq (.reg [mvt 27 8, rg 28 (.p true (.bin .neq (.t 27) (.c (.int .i64 0))))]) (.cond (.t 28) (.seq (.reg [mvt 29 8, rg 6 (.p true (.mv (.c (.int .i64 0)))), mvt 7 29]) .ret) .skip)) (.seq (.reg [rg 30 (.f (.bsl 1 [])), mvt 9 30]) (.seq (.seq (.reg [rg 10 (.p true (.mv (.c (.int .i64 0))))]) (.block 0 (.loop (.seq (.seq (.reg [mvt 31 10, mvt 32 0, rg 33 (.p true (.len (.t 32))), rg 34 (.p true (.bin .lss (.t 31) (.t 33)))]) (.cond (.t 34) .skip (.exit 0))) (.seq (.block 1 (.reg [mvt 37 9, rg 38 (.f (.bsl 1 [(.c (.int .i64 (-1)))])), rg 39 (.f (.app (.t 37) (.t 38) 1 8 true)), mvt 9 39])) (.reg [mvt 35 10, rg 36 (.p true (.bin .add (.t 35) (.c (.int .i64 1)))), mvt 10 36])))))) (.seq (.reg [mvt 40 9, mvt 41 0, mvt 42 1, rg 43 (.call true 62 [(.t 41), (.t 42)]), rg 44 (.p true (.iad (.t 40) (.t 43) 1)), ⟨none, none, (.f (.st (.t 44) (.c (.int .i64 0)) 1))⟩]) (.seq (.seq (.reg [rg 11 (.p true (.mv (.c (.int .i64 0))))]) (.block 2 (.loop (.seq (.seq (.reg [mvt 45 11, mvt 46 0, rg 47 (.p true (.len (.t 46))), rg 48 (.p true (.bin .lss (.t 45) (.t 47)))]) (.cond (.t 48) .skip (.exit 2))) (.seq (.block 3 (.seq (.reg [rg 12 (.p true (.mv (.c (.int .i64 0))))]) (.block 4 (.loop (.seq (.seq (.reg [mvt 51 12, mvt 52 0, rg 53 (.p true (.len (.t 52))), rg 54 (.p true (.bin .lss (.t 51) (.t 53)))]) (.cond (.t 54) .skip (.exit 4))) (.seq (.block 5 (.seq (.reg [rg 13 (.p true (.mv (.c (.int .i64 0))))]) (.block 6 (.loop (.seq (.seq (.reg [mvt 57 13, mvt 58 0, mvt 59 12, rg 60 (.p true (.iad (.t 58) (.t 59) 3)), rg 61 (.p true (.fad (.t 60) 2)), rg 62 (.p true (.ld (.t 61) 1 false)), rg 63 (.p true (.len (.t 62))), rg 64 (.p true (.bin .lss (.t 57) (.t 63)))]) (.cond (.t 64) .skip (.exit 6))) (.seq (.block 7 (.seq (.reg [mvt 67 0, mvt 68 0, mvt 69 12, rg 70 (.p true (.iad (.t 68) (.t 69) 3)), rg 71 (.p true (.fad (.t 70) 2)), rg 72 (.p true (.ld (.t 71) 1 false)), mvt 73 13, rg 74 (.p true (.iad (.t 72) (.t 73) 1)), rg 75 (.p true (.ld (.t 74) 1 false)), rg 76 (.call true 62 [(.t 67), (.t 75)]), mvt 14 76]) (.seq (.seq (.reg [mvt 77 9, mvt 78 12, rg 79 (.p true (.iad (.t 77) (.t 78) 1)), rg 80 (.p true (.ld (.t 79) 1 false)), mvt 81 11, rg 82 (.p true (.bin .eql (.t 80) (.t 81))), mvt 83 82, ⟨(some 84), (some (83, true)), (.p true (.mv (.t 9)))⟩, ⟨(some 85), (some (83, true)), (.p true (.mv (.t 14)))⟩, ⟨(some 86), (some (83, true)), (.p true (.iad (.t 84) (.t 85) 1))⟩, ⟨(some 87), (some (83, true)), (.p true (.ld (.t 86) 1 false))⟩, ⟨(some 88), (some (83, true)), (.p true (.bin .lss (.t 87) (.c (.int .i64 0))))⟩, rg 89 (.p true (.pick (.t 83) (.t 88) (.c (.bool false))))]) (.cond (.t 89) (.reg [mvt 90 9, mvt 91 14, mvt 92 11, rg 93 (.p true (.bin .add (.t 92) (.c (.int .i64 1)))), rg 94 (.p true (.iad (.t 90) (.t 91) 1)), ⟨none, none, (.f (.st (.t 94) (.t 93) 1))⟩]) .skip)) (.seq (.reg [mvt 95 9, mvt 96 14, rg 97 (.p true (.iad (.t 95) (.t 96) 1)), rg 98 (.p true (.ld (.t 97) 1 false)), mvt 99 11, rg 100 (.p true (.bin .eql (.t 98) (.t 99))), mvt 101 100, ⟨(some 102), (some (101, true)), (.p true (.mv (.t 9)))⟩, ⟨(some 103), (some (101, true)), (.p true (.mv (.t 12)))⟩, ⟨(some 104), (some (101, true)), (.p true (.iad (.t 102) (.t 103) 1))⟩, ⟨(some 105), (some (101, true)), (.p true (.ld (.t 104) 1 false))⟩, ⟨(some 106), (some (101, true)), (.p true (.bin .lss (.t 105) (.c (.int .i64 0))))⟩, rg 107 (.p true (.pick (.t 101) (.t 106) (.c (.bool false))))]) (.cond (.t 107) (.reg [mvt 108 9, mvt 109 12, mvt 110 11, rg 111 (.p true (.bin .add (.t 110) (.c (.int .i64 1)))), rg 112 (.p true (.iad (.t 108) (.t 109) 1)), ⟨none, none, (.f (.st (.t 112) (.t 111) 1))⟩]) .skip))))) (.reg [mvt 65 13, rg 66 (.p true (.bin .add (.t 65) (.c (.int .i64 1)))), mvt 13 66]))))))) (.reg [mvt 55 12, rg 56 (.p true (.bin .add (.t 55) (.c (.int .i64 1)))), mvt 12 56]))))))) (.reg [mvt 49 11, rg 50 (.p true (.bin .add (.t 49) (.c (.int .i64 1)))), mvt 11 50])))))) (.seq (.reg [mvt 113 9, mvt 114 0, mvt 115 2, rg 116 (.call true 62 [(.t 114), (.t 115)]), rg 117 (.p true (.iad (.t 113) (.t 116) 1)), rg 118 (.p true (.ld (.t 117) 1 false)), mvt 15 118]) (.seq (.seq (.reg [mvt 119 15, rg 120 (.p true (.bin .lss (.t 119) (.c (.int .i64 0))))]) (.cond (.t 120) (.seq (.reg [rg 6 (.p true (.mv (.c (.int .i64 0)))), rg 7 (.p true (.mv (.c (.int .i64 6))))]) .ret) .skip)) (.seq (.reg [mvt 121 15, mvt 6 121, rg 7 (.p true (.mv (.c (.int .i64 0))))]) .ret)))))))))))
theorem c16_is : compFn Try.prog 16 = some (c16, [(.tmp 6), (.tmp 7)]) := by kernel_rfl
theorem c16_ok : okFn Try.prog 16 = true := by kernel_rfl

noncomputable def F_spec_RelationOf_j41 (v1293 : Int) (v1389 : Int) (v1421 : Int) (v1426 : Int) (k53 : Int × (List Int) → Option (Int × Int)) (v1430 : List Int) : Option (Int × Int) :=
 ((ix v1430 v1426).bind fun v1434 => (bif (decide (v1434 = v1293)) then ((ix v1430 v1389).bind fun v1435 => (bif (decide (v1435 < (0 : Int))) then ((ix v1430 v1389).bind fun v1436 => k53 (w64 (v1421 + 1), List.set v1430 v1389.toNat (w64 (v1293 + 1))))
 else k53 (w64 (v1421 + 1), v1430)))
 else k53 (w64 (v1421 + 1), v1430)))
noncomputable def F_spec_RelationOf_l40 (v0 : List TPerson) (v1293 : Int) (v1389 : Int) (k52 : Int × (List Int) → Option (Int × Int)) (k53 : Int × (List Int) → Option (Int × Int)) : Int × (List Int) → Option (Int × Int)
 | (v1421, v1422) => ((ix v0 v1389).bind fun v1423 => (bif (decide (v1421 < (v1423.2.2.length : Int))) then ((ix v0 v1389).bind fun v1424 => ((ix v1424.2.2 v1421).bind fun v1425 => ((F_spec_l30Find v0 v1425).bind fun v1426 => ((ix v1422 v1389).bind fun v1431 => (bif (decide (v1431 = v1293)) then ((ix v1422 v1426).bind fun v1432 => (bif (decide (v1432 < (0 : Int))) then ((ix v1422 v1426).bind fun v1433 => F_spec_RelationOf_j41 v1293 v1389 v1421 v1426 k53 (List.set v1422 v1426.toNat (w64 (v1293 + 1))))
 else F_spec_RelationOf_j41 v1293 v1389 v1421 v1426 k53 v1422))
 else F_spec_RelationOf_j41 v1293 v1389 v1421 v1426 k53 v1422)))))
 else k52 (w64 (v1389 + 1), v1422)))
noncomputable def F_spec_RelationOf_l37 (v0 : List TPerson) (v1293 : Int) (k49 : Int × (List Int) → Option (Int × Int)) (k52 : Int × (List Int) → Option (Int × Int)) : Int × (List Int) → Option (Int × Int)
 | (v1389, v1390) => (bif (decide (v1389 < (v0.length : Int))) then loop (F_spec_RelationOf_l40 v0 v1293 v1389 k52) (0, v1390)
 else k49 (w64 (v1293 + 1), v1390))
noncomputable def F_spec_RelationOf_l28 (v0 : List TPerson) (v2 : List UInt8) (k49 : Int × (List Int) → Option (Int × Int)) : Int × (List Int) → Option (Int × Int)
 | (v1293, v1294) => (bif (decide (v1293 < (v0.length : Int))) then loop (F_spec_RelationOf_l37 v0 v1293 k49) (0, v1294)
 else ((F_spec_l30Find v0 v2).bind fun v1437 => ((ix v1294 v1437).bind fun v1438 => (bif (decide (v1438 < (0 : Int))) then some (0, 6)
 else some (v1438, 0)))))
noncomputable def F_spec_RelationOf_l1 (v0 : List TPerson) (v1 : List UInt8) (v2 : List UInt8) (k27 : Int × (List Int) → Option (Int × Int)) : Int × (List Int) → Option (Int × Int)
 | (v1007, v1008) => (bif (decide (v1007 < (v0.length : Int))) then (need (room (v1008.length + ([((-1) : Int)] : List Int).length) 8) (k27 (w64 (v1007 + 1), v1008 ++ ([((-1) : Int)] : List Int))))
 else ((F_spec_l30Find v0 v1).bind fun v1005 => ((ix v1008 v1005).bind fun v1006 => loop (F_spec_RelationOf_l28 v0 v2) (0, List.set v1008 v1005.toNat 0))))
noncomputable def F_spec_RelationOf_j0 (v0 : List TPerson) (v1 : List UInt8) (v2 : List UInt8) (v1002 : Int) : Option (Int × Int) :=
 (bif (decide (v1002 ≠ (0 : Int))) then some (0, v1002)
 else loop (F_spec_RelationOf_l1 v0 v1 v2) (0, []))
noncomputable def F_spec_RelationOf (v0 : List TPerson) (v1 : List UInt8) (v2 : List UInt8) : Option (Int × Int) :=
 ((F_spec_l30Ask v0 v1).bind fun v1000 => (bif (decide (v1000 = (0 : Int))) then ((F_spec_l30Find v0 v2).bind fun v1003 => (bif (decide (v1003 < (0 : Int))) then F_spec_RelationOf_j0 v0 v1 v2 3
 else F_spec_RelationOf_j0 v0 v1 v2 v1000))
 else F_spec_RelationOf_j0 v0 v1 v2 v1000))
@[simp] def res_spec_RelationOf (r : Int × Int) : RV := .tup [.one (.val (.int .i64 r.1)), .one (.val (.int .i64 r.2))]
theorem con_spec_RelationOf {v0 : List TPerson} {v1 : List UInt8} {v2 : List UInt8} {r : Int × Int} (hF : F_spec_RelationOf v0 v1 v2 = some r) : Con Try.prog 16 [.sl 3 (v0.map ePerson), .str v1, .str v2] (res_spec_RelationOf r) := by
 unfold F_spec_RelationOf at hF
 refine con_of c16_is fun N => ?_
 refine ws 0 128 ?_
 refine qp (AI 0) rfl (qp (AI 0) rfl ?_)
 refine r_nil ?_
 refine ws 128 384 ?_
 refine qp (AL 3 (v0.map ePerson)) rfl (qp (AS v1) rfl ?_)
 obtain ⟨v1000, e1000, hF⟩ := bind_get hF
 refine qc (AI v1000) [] false (con_spec_l30Ask e1000) c60_ok (by first | rfl | simp) rfl ?_
 refine qp (AI v1000) rfl ?_
 refine r_nil ?_
 refine w_meet (fun s' => ∃ (v1002 : Int), s' = mkS [(0, AL 3 (v0.map ePerson)), (1, AS v1), (2, AS v2), (8, AI v1002)] (fo []) 1 ∧ F_spec_RelationOf_j0 v0 v1 v2 v1002 = some r) ?_ ?_
 ·
  refine ws 384 896 ?_
  refine qp (AI v1000) rfl (qp (AB (decide (v1000 = (0 : Int)))) rfl (qp (AB (decide (v1000 = (0 : Int)))) rfl ?_))
  refine q_case 21 hF rfl (fun hF => ?_) (fun hF => ?_)
  ·
   refine qg (AL 3 (v0.map ePerson)) rfl rfl (qg (AS v2) rfl rfl ?_)
   obtain ⟨v1003, e1003, hF⟩ := bind_get hF
   refine qcg (AI v1003) [] false rfl (con_spec_l30Find e1003) c62_ok (by first | rfl | simp) rfl ?_
   refine qg (AB (decide (v1003 < (0 : Int)))) rfl rfl (qp (AB (decide (v1003 < (0 : Int)))) rfl ?_)
   refine r_nil ?_
   refine cF hF (fun hF => ?_) fun hF => ?_
   ·
    refine w_reg 896 960 rfl rfl ?_
    refine qp (AI 3) rfl ?_
    refine r_nil ?_
    refine thenQ_n ?_
    refine aw_ren (l' := [(0, AL 3 (v0.map ePerson)), (1, AS v1), (2, AS v2), (8, AI 3)]) (L := []) [0, 1, 2, 8] [] 1 (by first | rfl | simp) (by first | rfl | simp) (by decide) (by decide) (by decide) ⟨_, rfl, hF⟩
   ·
    refine w_skip ?_
    refine thenQ_n ?_
    refine aw_ren (l' := [(0, AL 3 (v0.map ePerson)), (1, AS v1), (2, AS v2), (8, AI v1000)]) (L := []) [0, 1, 2, 8] [] 1 (by first | rfl | simp) (by first | rfl | simp) (by decide) (by decide) (by decide) ⟨_, rfl, hF⟩
  ·
   refine qn rfl (qn rfl (qn rfl (qn rfl (qp (AB false) rfl ?_))))
   refine r_nil ?_
   refine w_false rfl ?_
   refine w_skip ?_
   refine thenQ_n ?_
   refine aw_ren (l' := [(0, AL 3 (v0.map ePerson)), (1, AS v1), (2, AS v2), (8, AI v1000)]) (L := []) [0, 1, 2, 8] [] 1 (by first | rfl | simp) (by first | rfl | simp) (by decide) (by decide) (by decide) ⟨_, rfl, hF⟩
 ·
  rintro s' ⟨v1002, rfl, hF⟩
  unfold F_spec_RelationOf_j0 at hF
  refine w_seq ?_
  refine ws 1 129 ?_
  refine qp (AI v1002) rfl (qp (AB (decide (v1002 ≠ (0 : Int)))) rfl ?_)
  refine r_nil ?_
  refine cF hF (fun hF => ?_) fun hF => ?_
  ·
   refine ws 129 321 ?_
   refine qp (AI v1002) rfl (qp (AI 0) rfl (qp (AI v1002) rfl ?_))
   refine r_nil ?_
   refine w_ret ?_
   refine thenQ_r ?_
   cases hF
   exact eR
  ·
   refine w_skip ?_
   refine thenQ_n ?_
   refine ws 129 257 ?_
   refine qf (.sl 129 0 0) [(129, .row true 1 (([] : List Int).map vI))] (by simp [List.take_of_length_le]) ?_
   refine qp (.sl 129 0 0) rfl ?_
   refine r_nil ?_
   refine w_seq ?_
   refine ws 257 321 ?_
   refine qp (AI 0) rfl ?_
   refine r_nil ?_
   refine w_block ?_
   refine wr (l' := [(0, AL 3 (v0.map ePerson)), (1, AS v1), (2, AS v2), (9, .sl 0 0 0), (10, AI 0)]) (L := [(0, .row true 1 (([] : List Int).map vI))]) [0, 1, 2, 9, 10] [(129, 0)] 1 ?_
   refine w_loopF (F_spec_RelationOf_l1 v0 v1 v2) (fun s : Int × (List Int) => mkS [(0, AL 3 (v0.map ePerson)), (1, AS v1), (2, AS v2), (9, .sl 0 0 s.2.length), (10, AI s.1)] (fo [(0, .row true 1 (s.2.map vI))]) 1) hF ?_
   rintro k27 ⟨v1007, v1008⟩ hF
   rw [F_spec_RelationOf_l1] at hF
   try dsimp only
   refine w_seq ?_
   refine ws 1 257 ?_
   refine qp (AI v1007) rfl (qp (AL 3 (v0.map ePerson)) rfl (qp (AI (v0.length : Int)) (ev_len_n rfl) (qp (AB (decide (v1007 < (v0.length : Int)))) rfl ?_)))
   refine r_nil ?_
   refine cF hF (fun hF => ?_) fun hF => ?_
   ·
    refine w_skip ?_
    refine thenQ_n ?_
    refine w_seq ?_
    refine w_block ?_
    refine w_reg 257 513 rfl rfl ?_
    refine qp (.sl 0 0 v1008.length) rfl ?_
    refine qf (.sl 321 0 (([((-1) : Int)] : List Int).length)) [(321, .row true 1 (([((-1) : Int)] : List Int).map vI)), (0, .row true 1 (v1008.map vI))] (by simp [List.take_of_length_le]) ?_
    obtain ⟨g1004, hF⟩ := need_some hF
    refine qf (.sl 385 0 ((v1008 ++ ([((-1) : Int)] : List Int)).length)) [(385, .row true 1 ((v1008 ++ ([((-1) : Int)] : List Int)).map vI)), (0, .dead), (321, .dead), (321, .row true 1 (([((-1) : Int)] : List Int).map vI)), (0, .row true 1 (v1008.map vI))] (effT_app_l rfl (by simp) rfl rfl (by simp) rfl (by decide) g1004 rfl) ?_
    refine qp (.sl 385 0 ((v1008 ++ ([((-1) : Int)] : List Int)).length)) rfl ?_
    refine r_nil ?_
    refine blockQ_n ?_
    refine thenQ_n ?_
    refine w_reg 513 705 rfl rfl ?_
    refine qp (AI v1007) rfl (qp (AI (w64 (v1007 + 1))) rfl (qp (AI (w64 (v1007 + 1))) rfl ?_))
    refine r_nil ?_
    refine thenQ_n ?_
    refine ar (l' := [(0, AL 3 (v0.map ePerson)), (1, AS v1), (2, AS v2), (9, .sl 0 0 (v1008 ++ ([((-1) : Int)] : List Int)).length), (10, AI (w64 (v1007 + 1)))]) (L := [(0, .row true 1 ((v1008 ++ ([((-1) : Int)] : List Int)).map vI))]) [0, 1, 2, 9, 10] [(385, 0)] 1 ⟨_, by rfl, hF⟩
   ·
    refine w_exit ?_
    refine thenQ_e ?_
    refine thenQ_e ?_
    refine blockQ_e ?_
    refine thenQ_n ?_
    refine ws 257 641 ?_
    refine qp (.sl 0 0 v1008.length) rfl (qp (AL 3 (v0.map ePerson)) rfl (qp (AS v1) rfl ?_))
    obtain ⟨v1005, e1005, hF⟩ := bind_get hF
    refine qc (AI v1005) [(0, .row true 1 (v1008.map vI))] false (con_spec_l30Find e1005) c62_ok (by first | rfl | simp) rfl ?_
    obtain ⟨v1006, e1006, hF⟩ := bind_get hF
    refine qp (.ptr 0 v1005.toNat 0) (ev_iad_r rfl (by simp) rfl rfl e1006) ?_
    refine qf0 (.undef) [(0, .row true 1 ((List.set v1008 v1005.toNat 0).map vI)), (0, .row true 1 (v1008.map vI))] (effT_st rfl rfl (ix_some e1006).2 rfl rfl (by rfl) (by first | rfl | simp [patch, reb, List.take_of_length_le]) (by rfl) rfl) ?_
    refine r_nil ?_
    refine w_seq ?_
    refine ws 641 705 ?_
    refine qp (AI 0) rfl ?_
    refine r_nil ?_
    refine w_block ?_
    refine wr (l' := [(0, AL 3 (v0.map ePerson)), (2, AS v2), (9, .sl 0 0 (List.set v1008 v1005.toNat 0).length), (11, AI 0)]) (L := [(0, .row true 1 ((List.set v1008 v1005.toNat 0).map vI))]) [0, 2, 9, 11] [(0, 0)] 1 ?_
    refine w_loopF (F_spec_RelationOf_l28 v0 v2) (fun s : Int × (List Int) => mkS [(0, AL 3 (v0.map ePerson)), (2, AS v2), (9, .sl 0 0 s.2.length), (11, AI s.1)] (fo [(0, .row true 1 (s.2.map vI))]) 1) hF ?_
    rintro k49 ⟨v1293, v1294⟩ hF
    rw [F_spec_RelationOf_l28] at hF
    try dsimp only
    refine w_seq ?_
    refine ws 1 257 ?_
    refine qp (AI v1293) rfl (qp (AL 3 (v0.map ePerson)) rfl (qp (AI (v0.length : Int)) (ev_len_n rfl) (qp (AB (decide (v1293 < (v0.length : Int)))) rfl ?_)))
    refine r_nil ?_
    refine cF hF (fun hF => ?_) fun hF => ?_
    ·
     refine w_skip ?_
     refine thenQ_n ?_
     refine w_seq ?_
     refine w_block ?_
     refine ws 257 321 ?_
     refine qp (AI 0) rfl ?_
     refine r_nil ?_
     refine w_block ?_
     refine wr (l' := [(0, AL 3 (v0.map ePerson)), (2, AS v2), (9, .sl 0 0 v1294.length), (11, AI v1293), (12, AI 0)]) (L := [(0, .row true 1 (v1294.map vI))]) [0, 2, 9, 11, 12] [(0, 0)] 1 ?_
     refine w_loopF (F_spec_RelationOf_l37 v0 v1293 k49) (fun s : Int × (List Int) => mkS [(0, AL 3 (v0.map ePerson)), (2, AS v2), (9, .sl 0 0 s.2.length), (11, AI v1293), (12, AI s.1)] (fo [(0, .row true 1 (s.2.map vI))]) 1) hF ?_
     rintro k52 ⟨v1389, v1390⟩ hF
     rw [F_spec_RelationOf_l37] at hF
     try dsimp only
     refine w_seq ?_
     refine ws 1 257 ?_
     refine qp (AI v1389) rfl (qp (AL 3 (v0.map ePerson)) rfl (qp (AI (v0.length : Int)) (ev_len_n rfl) (qp (AB (decide (v1389 < (v0.length : Int)))) rfl ?_)))
     refine r_nil ?_
     refine cF hF (fun hF => ?_) fun hF => ?_
     ·
      refine w_skip ?_
      refine thenQ_n ?_
      refine w_seq ?_
      refine w_block ?_
      refine ws 257 321 ?_
      refine qp (AI 0) rfl ?_
      refine r_nil ?_
      refine w_block ?_
      refine wr (l' := [(0, AL 3 (v0.map ePerson)), (2, AS v2), (9, .sl 0 0 v1390.length), (11, AI v1293), (12, AI v1389), (13, AI 0)]) (L := [(0, .row true 1 (v1390.map vI))]) [0, 2, 9, 11, 12, 13] [(0, 0)] 1 ?_
      refine w_loopF (F_spec_RelationOf_l40 v0 v1293 v1389 k52) (fun s : Int × (List Int) => mkS [(0, AL 3 (v0.map ePerson)), (2, AS v2), (9, .sl 0 0 s.2.length), (11, AI v1293), (12, AI v1389), (13, AI s.1)] (fo [(0, .row true 1 (s.2.map vI))]) 1) hF ?_
      rintro k53 ⟨v1421, v1422⟩ hF
      rw [F_spec_RelationOf_l40] at hF
      try dsimp only
      refine w_seq ?_
      refine ws 1 513 ?_
      refine qp (AI v1421) rfl (qp (AL 3 (v0.map ePerson)) rfl (qp (AI v1389) rfl ?_))
      obtain ⟨v1423, e1423, hF⟩ := bind_get hF
      refine qp (.val none (.ptr [.str v1423.1, .int .i64 v1423.2.1, .sl 1 (v1423.2.2.map V.str)])) (ev_iad_n rfl rfl e1423 rfl) (qp (.val none (.ptr [.sl 1 (v1423.2.2.map V.str)])) rfl (qp (AL 1 (v1423.2.2.map V.str)) rfl (qp (AI (v1423.2.2.length : Int)) (ev_len_n rfl) (qp (AB (decide (v1421 < (v1423.2.2.length : Int)))) rfl ?_))))
      refine r_nil ?_
      refine cF hF (fun hF => ?_) fun hF => ?_
      ·
       refine w_skip ?_
       refine thenQ_n ?_
       refine w_seq ?_
       refine w_block ?_
       refine ws 513 1217 ?_
       refine qp (AL 3 (v0.map ePerson)) rfl (qp (AL 3 (v0.map ePerson)) rfl (qp (AI v1389) rfl ?_))
       obtain ⟨v1424, e1424, hF⟩ := bind_get hF
       refine qp (.val none (.ptr [.str v1424.1, .int .i64 v1424.2.1, .sl 1 (v1424.2.2.map V.str)])) (ev_iad_n rfl rfl e1424 rfl) (qp (.val none (.ptr [.sl 1 (v1424.2.2.map V.str)])) rfl (qp (AL 1 (v1424.2.2.map V.str)) rfl (qp (AI v1421) rfl ?_)))
       obtain ⟨v1425, e1425, hF⟩ := bind_get hF
       refine qp (.val none (.ptr [.str v1425])) (ev_iad_n rfl rfl e1425 rfl) (qp (AS v1425) rfl ?_)
       obtain ⟨v1426, e1426, hF⟩ := bind_get hF
       refine qc (AI v1426) [(0, .row true 1 (v1422.map vI))] false (con_spec_l30Find e1426) c62_ok (by first | rfl | simp) rfl ?_
       refine qp (AI v1426) rfl ?_
       refine r_nil ?_
       refine w_meet (fun s' => ∃ (v1430 : List Int), s' = mkS [(0, AL 3 (v0.map ePerson)), (2, AS v2), (9, .sl 0 0 v1430.length), (11, AI v1293), (12, AI v1389), (13, AI v1421), (14, AI v1426)] (fo [(0, .row true 1 (v1430.map vI))]) 1 ∧ F_spec_RelationOf_j41 v1293 v1389 v1421 v1426 k53 v1430 = some r) ?_ ?_
       ·
        refine ws 1217 2049 ?_
        refine qp (.sl 0 0 v1422.length) rfl (qp (AI v1389) rfl ?_)
        obtain ⟨v1431, e1431, hF⟩ := bind_get hF
        refine qp (.ptr 0 v1389.toNat 0) (ev_iad_r rfl (by simp) rfl rfl e1431) (qp (AI v1431) (ev_ld_r rfl rfl (ix_some e1431).2 rfl rfl) (qp (AI v1293) rfl (qp (AB (decide (v1431 = v1293))) rfl (qp (AB (decide (v1431 = v1293))) rfl ?_))))
        refine q_case 83 hF rfl (fun hF => ?_) (fun hF => ?_)
        ·
         refine qg (.sl 0 0 v1422.length) rfl rfl (qg (AI v1426) rfl rfl ?_)
         obtain ⟨v1432, e1432, hF⟩ := bind_get hF
         refine qg (.ptr 0 v1426.toNat 0) rfl (ev_iad_r rfl (by simp) rfl rfl e1432) (qg (AI v1432) rfl (ev_ld_r rfl rfl (ix_some e1432).2 rfl rfl) (qg (AB (decide (v1432 < (0 : Int)))) rfl rfl (qp (AB (decide (v1432 < (0 : Int)))) rfl ?_)))
         refine r_nil ?_
         refine cF hF (fun hF => ?_) fun hF => ?_
         ·
          refine w_reg 2049 2433 rfl rfl ?_
          refine qp (.sl 0 0 v1422.length) rfl (qp (AI v1426) rfl (qp (AI v1293) rfl (qp (AI (w64 (v1293 + 1))) rfl ?_)))
          obtain ⟨v1433, e1433, hF⟩ := bind_get hF
          refine qp (.ptr 0 v1426.toNat 0) (ev_iad_r rfl (by simp) rfl rfl e1433) ?_
          refine qf0 (.undef) [(0, .row true 1 ((List.set v1422 v1426.toNat (w64 (v1293 + 1))).map vI)), (0, .row true 1 (v1422.map vI))] (effT_st rfl rfl (ix_some e1433).2 rfl rfl (by rfl) (by first | rfl | simp [patch, reb, List.take_of_length_le]) (by rfl) rfl) ?_
          refine r_nil ?_
          refine thenQ_n ?_
          refine aw_ren (l' := [(0, AL 3 (v0.map ePerson)), (2, AS v2), (9, .sl 0 0 (List.set v1422 v1426.toNat (w64 (v1293 + 1))).length), (11, AI v1293), (12, AI v1389), (13, AI v1421), (14, AI v1426)]) (L := [(0, .row true 1 ((List.set v1422 v1426.toNat (w64 (v1293 + 1))).map vI))]) [0, 2, 9, 11, 12, 13, 14] [(0, 0)] 1 (by first | rfl | simp) (by first | rfl | simp) (by decide) (by decide) (by decide) ⟨_, rfl, hF⟩
         ·
          refine w_skip ?_
          refine thenQ_n ?_
          refine aw_ren (l' := [(0, AL 3 (v0.map ePerson)), (2, AS v2), (9, .sl 0 0 v1422.length), (11, AI v1293), (12, AI v1389), (13, AI v1421), (14, AI v1426)]) (L := [(0, .row true 1 (v1422.map vI))]) [0, 2, 9, 11, 12, 13, 14] [(0, 0)] 1 (by first | rfl | simp) (by first | rfl | simp) (by decide) (by decide) (by decide) ⟨_, rfl, hF⟩
        ·
         refine qn rfl (qn rfl (qn rfl (qn rfl (qn rfl (qp (AB false) rfl ?_)))))
         refine r_nil ?_
         refine w_false rfl ?_
         refine w_skip ?_
         refine thenQ_n ?_
         refine aw_ren (l' := [(0, AL 3 (v0.map ePerson)), (2, AS v2), (9, .sl 0 0 v1422.length), (11, AI v1293), (12, AI v1389), (13, AI v1421), (14, AI v1426)]) (L := [(0, .row true 1 (v1422.map vI))]) [0, 2, 9, 11, 12, 13, 14] [(0, 0)] 1 (by first | rfl | simp) (by first | rfl | simp) (by decide) (by decide) (by decide) ⟨_, rfl, hF⟩
       ·
        rintro s' ⟨v1430, rfl, hF⟩
        unfold F_spec_RelationOf_j41 at hF
        refine ws 1 833 ?_
        refine qp (.sl 0 0 v1430.length) rfl (qp (AI v1426) rfl ?_)
        obtain ⟨v1434, e1434, hF⟩ := bind_get hF
        refine qp (.ptr 0 v1426.toNat 0) (ev_iad_r rfl (by simp) rfl rfl e1434) (qp (AI v1434) (ev_ld_r rfl rfl (ix_some e1434).2 rfl rfl) (qp (AI v1293) rfl (qp (AB (decide (v1434 = v1293))) rfl (qp (AB (decide (v1434 = v1293))) rfl ?_))))
        refine q_case 101 hF rfl (fun hF => ?_) (fun hF => ?_)
        ·
         refine qg (.sl 0 0 v1430.length) rfl rfl (qg (AI v1389) rfl rfl ?_)
         obtain ⟨v1435, e1435, hF⟩ := bind_get hF
         refine qg (.ptr 0 v1389.toNat 0) rfl (ev_iad_r rfl (by simp) rfl rfl e1435) (qg (AI v1435) rfl (ev_ld_r rfl rfl (ix_some e1435).2 rfl rfl) (qg (AB (decide (v1435 < (0 : Int)))) rfl rfl (qp (AB (decide (v1435 < (0 : Int)))) rfl ?_)))
         refine r_nil ?_
         refine cF hF (fun hF => ?_) fun hF => ?_
         ·
          refine w_reg 833 1217 rfl rfl ?_
          refine qp (.sl 0 0 v1430.length) rfl (qp (AI v1389) rfl (qp (AI v1293) rfl (qp (AI (w64 (v1293 + 1))) rfl ?_)))
          obtain ⟨v1436, e1436, hF⟩ := bind_get hF
          refine qp (.ptr 0 v1389.toNat 0) (ev_iad_r rfl (by simp) rfl rfl e1436) ?_
          refine qf0 (.undef) [(0, .row true 1 ((List.set v1430 v1389.toNat (w64 (v1293 + 1))).map vI)), (0, .row true 1 (v1430.map vI))] (effT_st rfl rfl (ix_some e1436).2 rfl rfl (by rfl) (by first | rfl | simp [patch, reb, List.take_of_length_le]) (by rfl) rfl) ?_
          refine r_nil ?_
          refine blockQ_n ?_
          refine thenQ_n ?_
          refine w_reg 1217 1409 rfl rfl ?_
          refine qp (AI v1421) rfl (qp (AI (w64 (v1421 + 1))) rfl (qp (AI (w64 (v1421 + 1))) rfl ?_))
          refine r_nil ?_
          refine thenQ_n ?_
          refine ar (l' := [(0, AL 3 (v0.map ePerson)), (2, AS v2), (9, .sl 0 0 (List.set v1430 v1389.toNat (w64 (v1293 + 1))).length), (11, AI v1293), (12, AI v1389), (13, AI (w64 (v1421 + 1)))]) (L := [(0, .row true 1 ((List.set v1430 v1389.toNat (w64 (v1293 + 1))).map vI))]) [0, 2, 9, 11, 12, 13] [(0, 0)] 1 ⟨_, by rfl, hF⟩
         ·
          refine w_skip ?_
          refine blockQ_n ?_
          refine thenQ_n ?_
          refine w_reg 833 1025 rfl rfl ?_
          refine qp (AI v1421) rfl (qp (AI (w64 (v1421 + 1))) rfl (qp (AI (w64 (v1421 + 1))) rfl ?_))
          refine r_nil ?_
          refine thenQ_n ?_
          refine ar (l' := [(0, AL 3 (v0.map ePerson)), (2, AS v2), (9, .sl 0 0 v1430.length), (11, AI v1293), (12, AI v1389), (13, AI (w64 (v1421 + 1)))]) (L := [(0, .row true 1 (v1430.map vI))]) [0, 2, 9, 11, 12, 13] [(0, 0)] 1 ⟨_, by rfl, hF⟩
        ·
         refine qn rfl (qn rfl (qn rfl (qn rfl (qn rfl (qp (AB false) rfl ?_)))))
         refine r_nil ?_
         refine w_false rfl ?_
         refine w_skip ?_
         refine blockQ_n ?_
         refine thenQ_n ?_
         refine w_reg 833 1025 rfl rfl ?_
         refine qp (AI v1421) rfl (qp (AI (w64 (v1421 + 1))) rfl (qp (AI (w64 (v1421 + 1))) rfl ?_))
         refine r_nil ?_
         refine thenQ_n ?_
         refine ar (l' := [(0, AL 3 (v0.map ePerson)), (2, AS v2), (9, .sl 0 0 v1430.length), (11, AI v1293), (12, AI v1389), (13, AI (w64 (v1421 + 1)))]) (L := [(0, .row true 1 (v1430.map vI))]) [0, 2, 9, 11, 12, 13] [(0, 0)] 1 ⟨_, by rfl, hF⟩
      ·
       refine w_exit ?_
       refine thenQ_e ?_
       refine thenQ_e ?_
       refine blockQ_e ?_
       refine blockQ_n ?_
       refine thenQ_n ?_
       refine w_reg 513 705 rfl rfl ?_
       refine qp (AI v1389) rfl (qp (AI (w64 (v1389 + 1))) rfl (qp (AI (w64 (v1389 + 1))) rfl ?_))
       refine r_nil ?_
       refine thenQ_n ?_
       refine ar (l' := [(0, AL 3 (v0.map ePerson)), (2, AS v2), (9, .sl 0 0 v1422.length), (11, AI v1293), (12, AI (w64 (v1389 + 1)))]) (L := [(0, .row true 1 (v1422.map vI))]) [0, 2, 9, 11, 12] [(0, 0)] 1 ⟨_, by rfl, hF⟩
     ·
      refine w_exit ?_
      refine thenQ_e ?_
      refine thenQ_e ?_
      refine blockQ_e ?_
      refine blockQ_n ?_
      refine thenQ_n ?_
      refine w_reg 257 449 rfl rfl ?_
      refine qp (AI v1293) rfl (qp (AI (w64 (v1293 + 1))) rfl (qp (AI (w64 (v1293 + 1))) rfl ?_))
      refine r_nil ?_
      refine thenQ_n ?_
      refine ar (l' := [(0, AL 3 (v0.map ePerson)), (2, AS v2), (9, .sl 0 0 v1390.length), (11, AI (w64 (v1293 + 1)))]) (L := [(0, .row true 1 (v1390.map vI))]) [0, 2, 9, 11] [(0, 0)] 1 ⟨_, by rfl, hF⟩
    ·
     refine w_exit ?_
     refine thenQ_e ?_
     refine thenQ_e ?_
     refine blockQ_e ?_
     refine thenQ_n ?_
     refine ws 257 705 ?_
     refine qp (.sl 0 0 v1294.length) rfl (qp (AL 3 (v0.map ePerson)) rfl (qp (AS v2) rfl ?_))
     obtain ⟨v1437, e1437, hF⟩ := bind_get hF
     refine qc (AI v1437) [(0, .row true 1 (v1294.map vI))] false (con_spec_l30Find e1437) c62_ok (by first | rfl | simp) rfl ?_
     obtain ⟨v1438, e1438, hF⟩ := bind_get hF
     refine qp (.ptr 0 v1437.toNat 0) (ev_iad_r rfl (by simp) rfl rfl e1438) (qp (AI v1438) (ev_ld_r rfl rfl (ix_some e1438).2 rfl rfl) (qp (AI v1438) rfl ?_))
     refine r_nil ?_
     refine w_seq ?_
     refine ws 705 833 ?_
     refine qp (AI v1438) rfl (qp (AB (decide (v1438 < (0 : Int)))) rfl ?_)
     refine r_nil ?_
     refine cF hF (fun hF => ?_) fun hF => ?_
     ·
      refine ws 833 961 ?_
      refine qp (AI 0) rfl (qp (AI 6) rfl ?_)
      refine r_nil ?_
      refine w_ret ?_
      refine thenQ_r ?_
      cases hF
      exact eR
     ·
      refine w_skip ?_
      refine thenQ_n ?_
      refine ws 833 1025 ?_
      refine qp (AI v1438) rfl (qp (AI v1438) rfl (qp (AI 0) rfl ?_))
      refine r_nil ?_
      refine w_ret ?_
      cases hF
      exact eR

def c193 : MC := (.seq (.reg [rg 2 (.p true (.mv (.c (.bool false))))]) (.seq (.seq (.reg [mvt 5 0, rg 6 (.p true (.lens (.t 5))), rg 7 (.p true (.mv (.c (.int .i64 0))))]) (.block 0 (.loop (.seq (.reg [rg 8 (.p true (.bin .lss (.t 7) (.t 6)))]) (.seq (.cond (.t 8) .skip (.exit 0)) (.seq (.block 1 (.seq (.reg [mvt 9 7, mvt 3 9]) (.seq (.reg [mvt 10 0, mvt 11 3, rg 12 (.p true (.ixs (.t 10) (.t 11))), mvt 4 12]) (.seq (.reg [mvt 13 4, rg 14 (.p true (.bin .lss (.t 13) (.c (.int .u8 97)))), mvt 15 14, ⟨(some 16), (some (15, false)), (.p true (.mv (.t 4)))⟩, ⟨(some 17), (some (15, false)), (.p true (.bin .gtr (.t 16) (.c (.int .u8 122))))⟩, rg 18 (.p true (.pick (.t 15) (.c (.bool true)) (.t 17))), mvt 19 18, ⟨(some 20), (some (19, true)), (.p true (.mv (.t 4)))⟩, ⟨(some 21), (some (19, true)), (.p true (.bin .lss (.t 20) (.c (.int .u8 48))))⟩, ⟨(some 22), (some (19, true)), (.p true (.mv (.t 21)))⟩, ⟨(some 23), (some (22, false)), (.p true (.mv (.t 4)))⟩, ⟨(some 24), (some (22, false)), (.p true (.bin .gtr (.t 23) (.c (.int .u8 57))))⟩, ⟨(some 25), (some (19, true)), (.p true (.pick (.t 22) (.c (.bool true)) (.t 24)))⟩, rg 26 (.p true (.pick (.t 19) (.t 25) (.c (.bool false))))]) (.cond (.t 26) (.seq (.reg [rg 2 (.p true (.mv (.c (.bool false))))]) .ret) .skip))))) (.reg [rg 27 (.p true (.bin .add (.t 7) (.c (.int .i64 1)))), mvt 7 27]))))))) (.seq (.reg [rg 2 (.p true (.mv (.c (.bool true))))]) .ret)))
theorem c193_is : compFn Try.prog 193 = some (c193, [(.tmp 2)]) := by kernel_rfl
theorem c193_ok : okFn Try.prog 193 = true := by kernel_rfl

noncomputable def F_impl_onlyNameBytes_l0 (v0 : List UInt8) (k0 : Int → Option (Bool)) : Int → Option (Bool)
 | v4 => (bif (decide (v4 < (v0.length : Int))) then ((ix v0 v4).bind fun v1000 => (bif (decide ((v1000.toNat : Int) < (97 : Int))) then (bif (decide ((v1000.toNat : Int) < (48 : Int))) then some false
 else (bif (decide ((57 : Int) < (v1000.toNat : Int))) then some false
 else k0 (w64 (v4 + 1))))
 else (bif (decide ((122 : Int) < (v1000.toNat : Int))) then (bif (decide ((v1000.toNat : Int) < (48 : Int))) then some false
 else (bif (decide ((57 : Int) < (v1000.toNat : Int))) then some false
 else k0 (w64 (v4 + 1))))
 else k0 (w64 (v4 + 1)))))
 else some true)
noncomputable def F_impl_onlyNameBytes (v0 : List UInt8) : Option (Bool) :=
 loop (F_impl_onlyNameBytes_l0 v0) 0
@[simp] def res_impl_onlyNameBytes (r : Bool) : RV := .one (.one (.val (.bool r)))
theorem con_impl_onlyNameBytes {v0 : List UInt8} {r : Bool} (hF : F_impl_onlyNameBytes v0 = some r) : Con Try.prog 193 [.str v0] (res_impl_onlyNameBytes r) := by
 unfold F_impl_onlyNameBytes at hF
 refine con_of c193_is fun N => ?_
 refine ws 0 64 ?_
 refine qp (AB false) rfl ?_
 refine r_nil ?_
 refine w_seq ?_
 refine ws 64 256 ?_
 refine qp (AS v0) rfl (qp (AI (v0.length : Int)) rfl (qp (AI 0) rfl ?_))
 refine r_nil ?_
 refine w_block ?_
 refine wr (l' := [(0, AS v0), (6, AI (v0.length : Int)), (7, AI 0)]) (L := []) [0, 6, 7] [] 1 ?_
 refine w_loopF (F_impl_onlyNameBytes_l0 v0) (fun s : Int => mkS [(0, AS v0), (6, AI (v0.length : Int)), (7, AI s)] (fo []) 1) hF ?_
 rintro k0 v4 hF
 rw [F_impl_onlyNameBytes_l0] at hF
 try dsimp only
 refine ws 1 65 ?_
 refine qp (AB (decide (v4 < (v0.length : Int)))) rfl ?_
 refine r_nil ?_
 refine w_seq ?_
 refine cF hF (fun hF => ?_) fun hF => ?_
 ·
  refine w_skip ?_
  refine thenQ_n ?_
  refine w_seq ?_
  refine w_block ?_
  refine ws 65 193 ?_
  refine qp (AI v4) rfl (qp (AI v4) rfl ?_)
  refine r_nil ?_
  refine ws 193 449 ?_
  refine qp (AS v0) rfl (qp (AI v4) rfl ?_)
  obtain ⟨v1000, e1000, hF⟩ := bind_get hF
  refine qp (.val none (.int .u8 (v1000.toNat : Int))) (ev_ixs rfl rfl e1000) (qp (.val none (.int .u8 (v1000.toNat : Int))) rfl ?_)
  refine r_nil ?_
  refine ws 449 1345 ?_
  refine qp (.val none (.int .u8 (v1000.toNat : Int))) rfl (qp (AB (decide ((v1000.toNat : Int) < (97 : Int)))) rfl (qp (AB (decide ((v1000.toNat : Int) < (97 : Int)))) rfl ?_))
  refine q_case 15 hF rfl (fun hF => ?_) (fun hF => ?_)
  ·
   refine qn rfl (qn rfl (qp (AB true) rfl (qp (AB true) rfl (qg (.val none (.int .u8 (v1000.toNat : Int))) rfl rfl (qg (AB (decide ((v1000.toNat : Int) < (48 : Int)))) rfl rfl (qg (AB (decide ((v1000.toNat : Int) < (48 : Int)))) rfl rfl ?_))))))
   refine q_case 22 hF rfl (fun hF => ?_) (fun hF => ?_)
   ·
    refine qn rfl (qn rfl (qg (AB true) rfl rfl (qp (AB true) rfl ?_)))
    refine r_nil ?_
    refine w_true rfl ?_
    refine ws 1345 1409 ?_
    refine qp (AB false) rfl ?_
    refine r_nil ?_
    refine w_ret ?_
    refine blockQ_r ?_
    refine thenQ_r ?_
    refine thenQ_r ?_
    refine blockQ_r ?_
    refine thenQ_r ?_
    cases hF
    exact eR
   ·
    refine qg (.val none (.int .u8 (v1000.toNat : Int))) rfl rfl (qg (AB (decide ((57 : Int) < (v1000.toNat : Int)))) rfl rfl (qg (AB (decide ((57 : Int) < (v1000.toNat : Int)))) rfl rfl (qp (AB (decide ((57 : Int) < (v1000.toNat : Int)))) rfl ?_)))
    refine r_nil ?_
    refine cF hF (fun hF => ?_) fun hF => ?_
    ·
     refine ws 1345 1409 ?_
     refine qp (AB false) rfl ?_
     refine r_nil ?_
     refine w_ret ?_
     refine blockQ_r ?_
     refine thenQ_r ?_
     refine thenQ_r ?_
     refine blockQ_r ?_
     refine thenQ_r ?_
     cases hF
     exact eR
    ·
     refine w_skip ?_
     refine blockQ_n ?_
     refine thenQ_n ?_
     refine w_reg 1345 1473 rfl rfl ?_
     refine qp (AI (w64 (v4 + 1))) rfl (qp (AI (w64 (v4 + 1))) rfl ?_)
     refine r_nil ?_
     refine thenQ_n ?_
     refine ar (l' := [(0, AS v0), (6, AI (v0.length : Int)), (7, AI (w64 (v4 + 1)))]) (L := []) [0, 6, 7] [] 1 ⟨_, by rfl, hF⟩
  ·
   refine qg (.val none (.int .u8 (v1000.toNat : Int))) rfl rfl (qg (AB (decide ((122 : Int) < (v1000.toNat : Int)))) rfl rfl (qp (AB (decide ((122 : Int) < (v1000.toNat : Int)))) rfl (qp (AB (decide ((122 : Int) < (v1000.toNat : Int)))) rfl ?_)))
   refine q_case 19 hF rfl (fun hF => ?_) (fun hF => ?_)
   ·
    refine qg (.val none (.int .u8 (v1000.toNat : Int))) rfl rfl (qg (AB (decide ((v1000.toNat : Int) < (48 : Int)))) rfl rfl (qg (AB (decide ((v1000.toNat : Int) < (48 : Int)))) rfl rfl ?_))
    refine q_case 22 hF rfl (fun hF => ?_) (fun hF => ?_)
    ·
     refine qn rfl (qn rfl (qg (AB true) rfl rfl (qp (AB true) rfl ?_)))
     refine r_nil ?_
     refine w_true rfl ?_
     refine ws 1345 1409 ?_
     refine qp (AB false) rfl ?_
     refine r_nil ?_
     refine w_ret ?_
     refine blockQ_r ?_
     refine thenQ_r ?_
     refine thenQ_r ?_
     refine blockQ_r ?_
     refine thenQ_r ?_
     cases hF
     exact eR
    ·
     refine qg (.val none (.int .u8 (v1000.toNat : Int))) rfl rfl (qg (AB (decide ((57 : Int) < (v1000.toNat : Int)))) rfl rfl (qg (AB (decide ((57 : Int) < (v1000.toNat : Int)))) rfl rfl (qp (AB (decide ((57 : Int) < (v1000.toNat : Int)))) rfl ?_)))
     refine r_nil ?_
     refine cF hF (fun hF => ?_) fun hF => ?_
     ·
      refine ws 1345 1409 ?_
      refine qp (AB false) rfl ?_
      refine r_nil ?_
      refine w_ret ?_
      refine blockQ_r ?_
      refine thenQ_r ?_
      refine thenQ_r ?_
      refine blockQ_r ?_
      refine thenQ_r ?_
      cases hF
      exact eR
     ·
      refine w_skip ?_
      refine blockQ_n ?_
      refine thenQ_n ?_
      refine w_reg 1345 1473 rfl rfl ?_
      refine qp (AI (w64 (v4 + 1))) rfl (qp (AI (w64 (v4 + 1))) rfl ?_)
      refine r_nil ?_
      refine thenQ_n ?_
      refine ar (l' := [(0, AS v0), (6, AI (v0.length : Int)), (7, AI (w64 (v4 + 1)))]) (L := []) [0, 6, 7] [] 1 ⟨_, by rfl, hF⟩
   ·
    refine qn rfl (qn rfl (qn rfl (qu rfl (qu rfl (qn rfl (qp (AB false) rfl ?_))))))
    refine r_nil ?_
    refine w_false rfl ?_
    refine w_skip ?_
    refine blockQ_n ?_
    refine thenQ_n ?_
    refine w_reg 1345 1473 rfl rfl ?_
    refine qp (AI (w64 (v4 + 1))) rfl (qp (AI (w64 (v4 + 1))) rfl ?_)
    refine r_nil ?_
    refine thenQ_n ?_
    refine ar (l' := [(0, AS v0), (6, AI (v0.length : Int)), (7, AI (w64 (v4 + 1)))]) (L := []) [0, 6, 7] [] 1 ⟨_, by rfl, hF⟩
 ·
  refine w_exit ?_
  refine thenQ_e ?_
  refine thenQ_e ?_
  refine blockQ_e ?_
  refine thenQ_n ?_
  refine ws 65 129 ?_
  refine qp (AB true) rfl ?_
  refine r_nil ?_
  refine w_ret ?_
  cases hF
  exact eR

def c139 : MC := (.seq (.reg [rg 2 (.p true (.mv (.c (.bool false))))]) (.seq (.seq (.reg [mvt 3 0, rg 4 (.p true (.lens (.t 3))), rg 5 (.p true (.bin .lss (.t 4) (.c (.int .i64 1)))), mvt 6 5, ⟨(some 7), (some (6, false)), (.p true (.mv (.t 0)))⟩, ⟨(some 8), (some (6, false)), (.p true (.lens (.t 7)))⟩, ⟨(some 9), (some (6, false)), (.p true (.bin .gtr (.t 8) (.c (.int .i64 10))))⟩, rg 10 (.p true (.pick (.t 6) (.c (.bool true)) (.t 9))), mvt 11 10, ⟨(some 12), (some (11, false)), (.p true (.mv (.t 0)))⟩, ⟨(some 13), (some (11, false)), (.p true (.ixs (.t 12) (.c (.int .i64 0))))⟩, ⟨(some 14), (some (11, false)), (.p true (.bin .lss (.t 13) (.c (.int .u8 97))))⟩, rg 15 (.p true (.pick (.t 11) (.c (.bool true)) (.t 14))), mvt 16 15, ⟨(some 17), (some (16, false)), (.p true (.mv (.t 0)))⟩, ⟨(some 18), (some (16, false)), (.p true (.ixs (.t 17) (.c (.int .i64 0))))⟩, ⟨(some 19), (some (16, false)), (.p true (.bin .gtr (.t 18) (.c (.int .u8 122))))⟩, rg 20 (.p true (.pick (.t 16) (.c (.bool true)) (.t 19)))]) (.cond (.t 20) (.seq (.reg [rg 2 (.p true (.mv (.c (.bool false))))]) .ret) .skip)) (.seq (.reg [mvt 21 0, rg 22 (.call true 193 [(.t 21)]), mvt 2 22]) .ret)))
theorem c139_is : compFn Try.prog 139 = some (c139, [(.tmp 2)]) := by kernel_rfl
theorem c139_ok : okFn Try.prog 139 = true := by kernel_rfl

noncomputable def F_impl_IsName (v0 : List UInt8) : Option (Bool) :=
 (bif (decide ((v0.length : Int) < (1 : Int))) then some false
 else (bif (decide ((10 : Int) < (v0.length : Int))) then some false
 else ((ix v0 0).bind fun v1000 => (bif (decide ((v1000.toNat : Int) < (97 : Int))) then some false
 else ((ix v0 0).bind fun v1001 => (bif (decide ((122 : Int) < (v1001.toNat : Int))) then some false
 else ((F_impl_onlyNameBytes v0).bind fun v1002 => some v1002)))))))
@[simp] def res_impl_IsName (r : Bool) : RV := .one (.one (.val (.bool r)))
theorem con_impl_IsName {v0 : List UInt8} {r : Bool} (hF : F_impl_IsName v0 = some r) : Con Try.prog 139 [.str v0] (res_impl_IsName r) := by
 unfold F_impl_IsName at hF
 refine con_of c139_is fun N => ?_
 refine ws 0 64 ?_
 refine qp (AB false) rfl ?_
 refine r_nil ?_
 refine w_seq ?_
 refine ws 64 1216 ?_
 refine qp (AS v0) rfl (qp (AI (v0.length : Int)) rfl (qp (AB (decide ((v0.length : Int) < (1 : Int)))) rfl (qp (AB (decide ((v0.length : Int) < (1 : Int)))) rfl ?_)))
 refine q_case 6 hF rfl (fun hF => ?_) (fun hF => ?_)
 ·
  refine qn rfl (qn rfl (qn rfl (qp (AB true) rfl (qp (AB true) rfl (qn rfl (qn rfl (qn rfl ?_)))))))
  refine qp (AB true) rfl (qp (AB true) rfl (qn rfl (qn rfl (qn rfl (qp (AB true) rfl ?_)))))
  refine r_nil ?_
  refine w_true rfl ?_
  refine ws 1216 1280 ?_
  refine qp (AB false) rfl ?_
  refine r_nil ?_
  refine w_ret ?_
  refine thenQ_r ?_
  cases hF
  exact eR
 ·
  refine qg (AS v0) rfl rfl (qg (AI (v0.length : Int)) rfl rfl (qg (AB (decide ((10 : Int) < (v0.length : Int)))) rfl rfl (qp (AB (decide ((10 : Int) < (v0.length : Int)))) rfl (qp (AB (decide ((10 : Int) < (v0.length : Int)))) rfl ?_))))
  refine q_case 11 hF rfl (fun hF => ?_) (fun hF => ?_)
  ·
   refine qn rfl (qn rfl (qn rfl (qp (AB true) rfl (qp (AB true) rfl (qn rfl (qn rfl (qn rfl ?_)))))))
   refine qp (AB true) rfl ?_
   refine r_nil ?_
   refine w_true rfl ?_
   refine ws 1216 1280 ?_
   refine qp (AB false) rfl ?_
   refine r_nil ?_
   refine w_ret ?_
   refine thenQ_r ?_
   cases hF
   exact eR
  ·
   refine qg (AS v0) rfl rfl ?_
   obtain ⟨v1000, e1000, hF⟩ := bind_get hF
   refine qg (.val none (.int .u8 (v1000.toNat : Int))) rfl (ev_ixs rfl rfl e1000) (qg (AB (decide ((v1000.toNat : Int) < (97 : Int)))) rfl rfl (qp (AB (decide ((v1000.toNat : Int) < (97 : Int)))) rfl (qp (AB (decide ((v1000.toNat : Int) < (97 : Int)))) rfl ?_)))
   refine q_case 16 hF rfl (fun hF => ?_) (fun hF => ?_)
   ·
    refine qn rfl (qn rfl (qn rfl (qp (AB true) rfl ?_)))
    refine r_nil ?_
    refine w_true rfl ?_
    refine ws 1216 1280 ?_
    refine qp (AB false) rfl ?_
    refine r_nil ?_
    refine w_ret ?_
    refine thenQ_r ?_
    cases hF
    exact eR
   ·
    refine qg (AS v0) rfl rfl ?_
    obtain ⟨v1001, e1001, hF⟩ := bind_get hF
    refine qg (.val none (.int .u8 (v1001.toNat : Int))) rfl (ev_ixs rfl rfl e1001) (qg (AB (decide ((122 : Int) < (v1001.toNat : Int)))) rfl rfl (qp (AB (decide ((122 : Int) < (v1001.toNat : Int)))) rfl ?_))
    refine r_nil ?_
    refine cF hF (fun hF => ?_) fun hF => ?_
    ·
     refine ws 1216 1280 ?_
     refine qp (AB false) rfl ?_
     refine r_nil ?_
     refine w_ret ?_
     refine thenQ_r ?_
     cases hF
     exact eR
    ·
     refine w_skip ?_
     refine thenQ_n ?_
     refine ws 1216 1408 ?_
     refine qp (AS v0) rfl ?_
     obtain ⟨v1002, e1002, hF⟩ := bind_get hF
     refine qc (AB v1002) [] false (con_impl_onlyNameBytes e1002) c193_ok (by first | rfl | simp) rfl ?_
     refine qp (AB v1002) rfl ?_
     refine r_nil ?_
     refine w_ret ?_
     cases hF
     exact eR

def c140 : MC := (.seq (.reg [rg 6 (.p true (.mv (.c (.bool false))))]) (.seq (.reg [mvt 7 0, mvt 8 1, rg 9 (.p true (.bin .geq (.t 7) (.t 8))), mvt 10 9, ⟨(some 11), (some (10, true)), (.p true (.mv (.t 0)))⟩, ⟨(some 12), (some (10, true)), (.p true (.mv (.t 2)))⟩, ⟨(some 13), (some (10, true)), (.p true (.bin .leq (.t 11) (.t 12)))⟩, rg 14 (.p true (.pick (.t 10) (.t 13) (.c (.bool false)))), mvt 6 14]) .ret))
theorem c140_is : compFn Try.prog 140 = some (c140, [(.tmp 6)]) := by kernel_rfl
theorem c140_ok : okFn Try.prog 140 = true := by kernel_rfl

noncomputable def F_impl_within (v0 : Int) (v1 : Int) (v2 : Int) : Option (Bool) :=
 (bif (decide (v1 ≤ v0)) then some (decide (v0 ≤ v2))
 else some false)
@[simp] def res_impl_within (r : Bool) : RV := .one (.one (.val (.bool r)))
theorem con_impl_within {v0 : Int} {v1 : Int} {v2 : Int} {r : Bool} (hF : F_impl_within v0 v1 v2 = some r) : Con Try.prog 140 [.int .i64 v0, .int .i64 v1, .int .i64 v2] (res_impl_within r) := by
 unfold F_impl_within at hF
 refine con_of c140_is fun N => ?_
 refine ws 0 64 ?_
 refine qp (AB false) rfl ?_
 refine r_nil ?_
 refine ws 64 640 ?_
 refine qp (AI v0) rfl (qp (AI v1) rfl (qp (AB (decide (v1 ≤ v0))) rfl (qp (AB (decide (v1 ≤ v0))) rfl ?_)))
 refine q_case 10 hF rfl (fun hF => ?_) (fun hF => ?_)
 ·
  refine qg (AI v0) rfl rfl (qg (AI v2) rfl rfl (qg (AB (decide (v0 ≤ v2))) rfl rfl (qp (AB (decide (v0 ≤ v2))) rfl (qp (AB (decide (v0 ≤ v2))) rfl ?_))))
  refine r_nil ?_
  refine w_ret ?_
  cases hF
  exact eR
 ·
  refine qn rfl (qn rfl (qn rfl (qp (AB false) rfl (qp (AB false) rfl ?_))))
  refine r_nil ?_
  refine w_ret ?_
  cases hF
  exact eR

def c134 : MC := (.seq (.reg [rg 2 (.f (.box (.t 0))), rg 3 (.p true (.mv (.c (.bool false))))]) (.seq (.reg [rg 4 (.p true (.fad (.t 2) 0)), rg 5 (.p true (.ld (.t 4) 1 false)), rg 6 (.p true (.ld (.t 1) 1 false)), rg 7 (.p true (.bin .eql (.t 5) (.t 6))), mvt 3 7]) .ret))
theorem c134_is : compFn Try.prog 134 = some (c134, [(.tmp 3)]) := by kernel_rfl
theorem c134_ok : okFn Try.prog 134 = true := by kernel_rfl

noncomputable def F_impl_personAt_1 (v0 : TPerson) (v1 : List UInt8) : Option (Bool) :=
 some (decide (v0.1 = v1))
@[simp] def res_impl_personAt_1 (r : Bool) : RV := .one (.one (.val (.bool r)))
theorem con_impl_personAt_1 {v0 : TPerson} {v1 : List UInt8} {r : Bool} (hF : F_impl_personAt_1 v0 v1 = some r) : Con Try.prog 134 [ePerson v0, .ptr [.str v1]] (res_impl_personAt_1 r) := by
 unfold F_impl_personAt_1 at hF
 refine con_of c134_is fun N => ?_
 refine ws 0 128 ?_
 refine qf (.ptr 0 0 0) [(0, .box [AS v0.1, AI v0.2.1, AL 1 (v0.2.2.map V.str)])] (by simp) ?_
 refine qp (AB false) rfl ?_
 refine r_nil ?_
 refine ws 128 448 ?_
 refine qp (.ptr 0 0 0) rfl (qp (AS v0.1) rfl (qp (AS v1) rfl (qp (AB (decide (v0.1 = v1))) rfl (qp (AB (decide (v0.1 = v1))) rfl ?_))))
 refine r_nil ?_
 refine w_ret ?_
 cases hF
 exact eR

def c133 : MC := (.seq (.reg [rg 4 (.p true (.mv (.c (.int .i64 0))))]) (.seq (.seq (.reg [mvt 6 0, rg 7 (.p true (.len (.t 6))), rg 8 (.p true (.mv (.c (.int .i64 0))))]) (.block 0 (.loop (.seq (.reg [rg 9 (.p true (.bin .lss (.t 8) (.t 7)))]) (.seq (.cond (.t 9) .skip (.exit 0)) (.seq (.block 1 (.seq (.reg [mvt 10 8, mvt 5 10]) (.seq (.reg [mvt 11 1, mvt 12 0, mvt 13 5, rg 14 (.p true (.iad (.t 12) (.t 13) 3)), rg 15 (.p true (.ld (.t 14) 3 true)), rg 16 (.callv (.t 11) [(.t 15)])]) (.cond (.t 16) (.seq (.reg [mvt 17 5, mvt 4 17]) .ret) .skip)))) (.reg [rg 18 (.p true (.bin .add (.t 8) (.c (.int .i64 1)))), mvt 8 18]))))))) (.seq (.reg [rg 4 (.p true (.mv (.c (.int .i64 (-1)))))]) .ret)))
theorem c133_is : compFn Try.prog 133 = some (c133, [(.tmp 4)]) := by kernel_rfl
theorem c133_ok : okFn Try.prog 133 = true := by kernel_rfl

noncomputable def F_slices_IndexFunc_SPerson_Person_l0 (v0 : List TPerson) (v1 : List UInt8) (k0 : Int → Option (Int)) : Int → Option (Int)
 | v7 => (bif (decide (v7 < (v0.length : Int))) then ((ix v0 v7).bind fun v1000 => ((F_impl_personAt_1 v1000 v1).bind fun v1001 => (bif v1001 then some v7
 else k0 (w64 (v7 + 1)))))
 else some (-1))
noncomputable def F_slices_IndexFunc_SPerson_Person (v0 : List TPerson) (v1 : List UInt8) : Option (Int) :=
 loop (F_slices_IndexFunc_SPerson_Person_l0 v0 v1) 0
@[simp] def res_slices_IndexFunc_SPerson_Person (r : Int) : RV := .one (.one (.val (.int .i64 r)))
theorem con_slices_IndexFunc_SPerson_Person {v0 : List TPerson} {v1 : List UInt8} {r : Int} (hF : F_slices_IndexFunc_SPerson_Person v0 v1 = some r) : Con Try.prog 133 [.sl 3 (v0.map ePerson), .fn 134 [.ptr [.str v1]]] (res_slices_IndexFunc_SPerson_Person r) := by
 unfold F_slices_IndexFunc_SPerson_Person at hF
 refine con_of c133_is fun N => ?_
 refine ws 0 64 ?_
 refine qp (AI 0) rfl ?_
 refine r_nil ?_
 refine w_seq ?_
 refine ws 64 256 ?_
 refine qp (AL 3 (v0.map ePerson)) rfl (qp (AI (v0.length : Int)) (ev_len_n rfl) (qp (AI 0) rfl ?_))
 refine r_nil ?_
 refine w_block ?_
 refine wr (l' := [(0, AL 3 (v0.map ePerson)), (1, .val none (.fn 134 [.ptr [.str v1]])), (7, AI (v0.length : Int)), (8, AI 0)]) (L := []) [0, 1, 7, 8] [] 1 ?_
 refine w_loopF (F_slices_IndexFunc_SPerson_Person_l0 v0 v1) (fun s : Int => mkS [(0, AL 3 (v0.map ePerson)), (1, .val none (.fn 134 [.ptr [.str v1]])), (7, AI (v0.length : Int)), (8, AI s)] (fo []) 1) hF ?_
 rintro k0 v7 hF
 rw [F_slices_IndexFunc_SPerson_Person_l0] at hF
 try dsimp only
 refine ws 1 65 ?_
 refine qp (AB (decide (v7 < (v0.length : Int)))) rfl ?_
 refine r_nil ?_
 refine w_seq ?_
 refine cF hF (fun hF => ?_) fun hF => ?_
 ·
  refine w_skip ?_
  refine thenQ_n ?_
  refine w_seq ?_
  refine w_block ?_
  refine ws 65 193 ?_
  refine qp (AI v7) rfl (qp (AI v7) rfl ?_)
  refine r_nil ?_
  refine ws 193 577 ?_
  refine qp (.val none (.fn 134 [.ptr [.str v1]])) rfl (qp (AL 3 (v0.map ePerson)) rfl (qp (AI v7) rfl ?_))
  obtain ⟨v1000, e1000, hF⟩ := bind_get hF
  refine qp (.val none (.ptr [.str v1000.1, .int .i64 v1000.2.1, .sl 1 (v1000.2.2.map V.str)])) (ev_iad_n rfl rfl e1000 rfl) (qp (.val none (ePerson v1000)) rfl ?_)
  obtain ⟨v1001, e1001, hF⟩ := bind_get hF
  refine qcv (AB v1001) [] false rfl (con_impl_personAt_1 e1001) c134_ok (by first | rfl | simp) rfl ?_
  refine r_nil ?_
  refine cF hF (fun hF => ?_) fun hF => ?_
  ·
   refine ws 577 705 ?_
   refine qp (AI v7) rfl (qp (AI v7) rfl ?_)
   refine r_nil ?_
   refine w_ret ?_
   refine blockQ_r ?_
   refine thenQ_r ?_
   refine thenQ_r ?_
   refine blockQ_r ?_
   refine thenQ_r ?_
   cases hF
   exact eR
  ·
   refine w_skip ?_
   refine blockQ_n ?_
   refine thenQ_n ?_
   refine w_reg 577 705 rfl rfl ?_
   refine qp (AI (w64 (v7 + 1))) rfl (qp (AI (w64 (v7 + 1))) rfl ?_)
   refine r_nil ?_
   refine thenQ_n ?_
   refine ar (l' := [(0, AL 3 (v0.map ePerson)), (1, .val none (.fn 134 [.ptr [.str v1]])), (7, AI (v0.length : Int)), (8, AI (w64 (v7 + 1)))]) (L := []) [0, 1, 7, 8] [] 1 ⟨_, by rfl, hF⟩
 ·
  refine w_exit ?_
  refine thenQ_e ?_
  refine thenQ_e ?_
  refine blockQ_e ?_
  refine thenQ_n ?_
  refine ws 65 129 ?_
  refine qp (AI (-1)) rfl ?_
  refine r_nil ?_
  refine w_ret ?_
  cases hF
  exact eR

def c66 : MC := (.seq (.reg [rg 3 (.f (.box (.t 1))), rg 4 (.p true (.mv (.c (.int .i64 0))))]) (.seq (.reg [mvt 5 0, rg 6 (.p true (.mkf 134 [(.t 3)])), rg 7 (.call true 133 [(.t 5), (.t 6)]), mvt 4 7]) .ret))
theorem c66_is : compFn Try.prog 66 = some (c66, [(.tmp 4)]) := by kernel_rfl
theorem c66_ok : okFn Try.prog 66 = true := by kernel_rfl

noncomputable def F_impl_personAt (v0 : List TPerson) (v1 : List UInt8) : Option (Int) :=
 ((F_slices_IndexFunc_SPerson_Person v0 v1).bind fun v1000 => some v1000)
@[simp] def res_impl_personAt (r : Int) : RV := .one (.one (.val (.int .i64 r)))
theorem con_impl_personAt {v0 : List TPerson} {v1 : List UInt8} {r : Int} (hF : F_impl_personAt v0 v1 = some r) : Con Try.prog 66 [.sl 3 (v0.map ePerson), .str v1] (res_impl_personAt r) := by
 unfold F_impl_personAt at hF
 refine con_of c66_is fun N => ?_
 refine ws 0 128 ?_
 refine qf (.ptr 0 0 0) [(0, .box [AS v1])] (by simp) ?_
 refine qp (AI 0) rfl ?_
 refine r_nil ?_
 refine ws 128 384 ?_
 refine qp (AL 3 (v0.map ePerson)) rfl (qp (.fn 134 [.ptr 0 0 0]) rfl ?_)
 obtain ⟨v1000, e1000, hF⟩ := bind_get hF
 refine qc (AI v1000) [(0, .box [AS v1])] true (con_slices_IndexFunc_SPerson_Person e1000) c133_ok (by simp [List.take_of_length_le]) rfl ?_
 refine qp (AI v1000) rfl ?_
 refine r_nil ?_
 refine w_ret ?_
 cases hF
 exact eR

def c72 : MC := (.seq (.reg [rg 2 (.p true (.mv (.c (.bool false))))]) (.seq (.seq (.reg [mvt 8 0, rg 9 (.p true (.len (.t 8))), rg 10 (.p true (.bin .gtr (.t 9) (.c (.int .i64 24))))]) (.cond (.t 10) (.seq (.reg [rg 2 (.p true (.mv (.c (.bool false))))]) .ret) .skip)) (.seq (.seq (.reg [mvt 11 0, rg 12 (.p true (.len (.t 11))), rg 13 (.p true (.mv (.c (.int .i64 0))))]) (.block 0 (.loop (.seq (.reg [rg 14 (.p true (.bin .lss (.t 13) (.t 12)))]) (.seq (.cond (.t 14) .skip (.exit 0)) (.seq (.block 1 (.seq (.reg [mvt 15 13, rg 16 (.p true (.iad (.t 11) (.t 13) 3)), rg 17 (.p true (.ld (.t 16) 3 true)), rg 4 (.f (.alloc [((.str []), (0, false)), ((.int .i64 0), (0, false)), ((.sl 0 []), (1, false))])), mvt 3 15, ⟨none, none, (.f (.st (.t 4) (.t 17) 3))⟩]) (.seq (.seq (.reg [rg 18 (.p false (.fad (.t 4) 0)), rg 19 (.p false (.ld (.t 18) 1 false)), rg 20 (.call false 139 [(.t 19)]), rg 21 (.p false (.not (.t 20))), rg 22 (.p false (.mv (.t 21))), ⟨(some 23), (some (22, false)), (.p false (.fad (.t 4) 1))⟩, ⟨(some 24), (some (22, false)), (.p false (.ld (.t 23) 1 false))⟩, ⟨(some 25), (some (22, false)), (.call false 140 [(.t 24), (.c (.int .i64 0)), (.c (.int .i64 3000))])⟩, ⟨(some 26), (some (22, false)), (.p false (.not (.t 25)))⟩, rg 27 (.p false (.pick (.t 22) (.c (.bool true)) (.t 26))), rg 28 (.p false (.mv (.t 27))), ⟨(some 29), (some (28, false)), (.p false (.fad (.t 4) 2))⟩, ⟨(some 30), (some (28, false)), (.p false (.ld (.t 29) 1 false))⟩, ⟨(some 31), (some (28, false)), (.p false (.len (.t 30)))⟩, ⟨(some 32), (some (28, false)), (.p false (.bin .gtr (.t 31) (.c (.int .i64 4))))⟩, rg 33 (.p false (.pick (.t 28) (.c (.bool true)) (.t 32))), rg 34 (.p false (.mv (.t 33))), ⟨(some 35), (some (34, false)), (.p false (.mv (.t 3)))⟩, ⟨(some 36), (some (34, false)), (.p false (.bin .gtr (.t 35) (.c (.int .i64 0))))⟩, ⟨(some 37), (some (34, false)), (.p false (.mv (.t 36)))⟩, ⟨(some 38), (some (37, true)), (.p false (.fad (.t 4) 0))⟩, ⟨(some 39), (some (37, true)), (.p false (.ld (.t 38) 1 false))⟩, ⟨(some 40), (some (37, true)), (.p false (.mv (.t 0)))⟩, ⟨(some 41), (some (37, true)), (.p false (.mv (.t 3)))⟩, ⟨(some 42), (some (37, true)), (.p false (.bin .sub (.t 41) (.c (.int .i64 1))))⟩, ⟨(some 43), (some (37, true)), (.p false (.iad (.t 40) (.t 42) 3))⟩, ⟨(some 44), (some (37, true)), (.p false (.fad (.t 43) 0))⟩, ⟨(some 45), (some (37, true)), (.p false (.ld (.t 44) 1 false))⟩, ⟨(some 46), (some (37, true)), (.p false (.bin .leq (.t 39) (.t 45)))⟩, ⟨(some 47), (some (34, false)), (.p false (.pick (.t 37) (.t 46) (.c (.bool false))))⟩, rg 48 (.p false (.pick (.t 34) (.c (.bool true)) (.t 47)))]) (.cond (.t 48) (.seq (.reg [rg 2 (.p true (.mv (.c (.bool false))))]) .ret) .skip)) (.seq (.reg [rg 49 (.p true (.fad (.t 4) 2)), rg 50 (.p true (.ld (.t 49) 1 false)), rg 51 (.p true (.len (.t 50))), rg 52 (.p true (.mv (.c (.int .i64 0))))]) (.block 2 (.loop (.seq (.reg [rg 53 (.p true (.bin .lss (.t 52) (.t 51)))]) (.seq (.cond (.t 53) .skip (.exit 2)) (.seq (.block 3 (.seq (.reg [mvt 54 52, rg 55 (.p true (.iad (.t 50) (.t 52) 1)), rg 56 (.p true (.ld (.t 55) 1 false)), mvt 5 54, mvt 6 56]) (.seq (.reg [mvt 57 0, mvt 58 6, rg 59 (.call true 66 [(.t 57), (.t 58)]), mvt 7 59]) (.seq (.reg [rg 60 (.p false (.mv (.t 7))), rg 61 (.p false (.bin .lss (.t 60) (.c (.int .i64 0)))), rg 62 (.p false (.mv (.t 61))), ⟨(some 63), (some (62, false)), (.p false (.mv (.t 0)))⟩, ⟨(some 64), (some (62, false)), (.p false (.mv (.t 7)))⟩, ⟨(some 65), (some (62, false)), (.p false (.iad (.t 63) (.t 64) 3))⟩, ⟨(some 66), (some (62, false)), (.p false (.fad (.t 65) 1))⟩, ⟨(some 67), (some (62, false)), (.p false (.ld (.t 66) 1 false))⟩, ⟨(some 68), (some (62, false)), (.p false (.fad (.t 4) 1))⟩, ⟨(some 69), (some (62, false)), (.p false (.ld (.t 68) 1 false))⟩, ⟨(some 70), (some (62, false)), (.p false (.bin .geq (.t 67) (.t 69)))⟩, rg 71 (.p false (.pick (.t 62) (.c (.bool true)) (.t 70))), rg 72 (.p false (.mv (.t 71))), ⟨(some 73), (some (72, false)), (.p false (.mv (.t 5)))⟩, ⟨(some 74), (some (72, false)), (.p false (.bin .gtr (.t 73) (.c (.int .i64 0))))⟩, ⟨(some 75), (some (72, false)), (.p false (.mv (.t 74)))⟩, ⟨(some 76), (some (75, true)), (.p false (.mv (.t 6)))⟩, ⟨(some 77), (some (75, true)), (.p false (.fad (.t 4) 2))⟩, ⟨(some 78), (some (75, true)), (.p false (.ld (.t 77) 1 false))⟩, ⟨(some 79), (some (75, true)), (.p false (.mv (.t 5)))⟩, ⟨(some 80), (some (75, true)), (.p false (.bin .sub (.t 79) (.c (.int .i64 1))))⟩, ⟨(some 81), (some (75, true)), (.p false (.iad (.t 78) (.t 80) 1))⟩, ⟨(some 82), (some (75, true)), (.p false (.ld (.t 81) 1 false))⟩, ⟨(some 83), (some (75, true)), (.p false (.bin .leq (.t 76) (.t 82)))⟩, ⟨(some 84), (some (72, false)), (.p false (.pick (.t 75) (.t 83) (.c (.bool false))))⟩, rg 85 (.p false (.pick (.t 72) (.c (.bool true)) (.t 84)))]) (.cond (.t 85) (.seq (.reg [rg 2 (.p true (.mv (.c (.bool false))))]) .ret) .skip))))) (.reg [rg 86 (.p true (.bin .add (.t 52) (.c (.int .i64 1)))), mvt 52 86])))))))))) (.reg [rg 87 (.p true (.bin .add (.t 13) (.c (.int .i64 1)))), mvt 13 87]))))))) (.seq (.reg [rg 2 (.p true (.mv (.c (.bool true))))]) .ret))))
theorem c72_is : compFn Try.prog 72 = some (c72, [(.tmp 2)]) := by kernel_rfl
theorem c72_ok : okFn Try.prog 72 = true := by kernel_rfl

noncomputable def F_impl_ValidPersons_l2 (v0 : List TPerson) (v24 : Int) (v1000 : TPerson) (k2 : Int → Option (Bool)) (k4 : Int → Option (Bool)) : Int → Option (Bool)
 | v1013 => (bif (decide (v1013 < (v1000.2.2.length : Int))) then ((ix v1000.2.2 v1013).bind fun v1007 => ((F_impl_personAt v0 v1007).bind fun v1008 => (bif (decide (v1008 < (0 : Int))) then some false
 else ((ix v0 v1008).bind fun v1009 => (bif (decide (v1000.2.1 ≤ v1009.2.1)) then some false
 else (bif (decide ((0 : Int) < v1013)) then ((ix v1000.2.2 (w64 (v1013 - 1))).bind fun v1010 => (bif (Op.bytesLess v1007 v1010 || decide (v1007 = v1010)) then some false
 else k4 (w64 (v1013 + 1))))
 else k4 (w64 (v1013 + 1))))))))
 else k2 (w64 (v24 + 1)))
noncomputable def F_impl_ValidPersons_j1 (v0 : List TPerson) (v24 : Int) (v1000 : TPerson) (k2 : Int → Option (Bool)) : Option (Bool) :=
 loop (F_impl_ValidPersons_l2 v0 v24 v1000 k2) 0
noncomputable def F_impl_ValidPersons_l0 (v0 : List TPerson) (k2 : Int → Option (Bool)) : Int → Option (Bool)
 | v24 => (bif (decide (v24 < (v0.length : Int))) then ((ix v0 v24).bind fun v1000 => ((F_impl_IsName v1000.1).bind fun v1004 => (bif (!v1004) then some false
 else ((F_impl_within v1000.2.1 0 3000).bind fun v1005 => (bif (!v1005) then some false
 else (bif (decide ((4 : Int) < (v1000.2.2.length : Int))) then some false
 else (bif (decide ((0 : Int) < v24)) then ((ix v0 (w64 (v24 - 1))).bind fun v1006 => (bif (Op.bytesLess v1000.1 v1006.1 || decide (v1000.1 = v1006.1)) then some false
 else F_impl_ValidPersons_j1 v0 v24 v1000 k2))
 else F_impl_ValidPersons_j1 v0 v24 v1000 k2)))))))
 else some true)
noncomputable def F_impl_ValidPersons (v0 : List TPerson) : Option (Bool) :=
 (bif (decide ((24 : Int) < (v0.length : Int))) then some false
 else loop (F_impl_ValidPersons_l0 v0) 0)
@[simp] def res_impl_ValidPersons (r : Bool) : RV := .one (.one (.val (.bool r)))
theorem con_impl_ValidPersons {v0 : List TPerson} {r : Bool} (hF : F_impl_ValidPersons v0 = some r) : Con Try.prog 72 [.sl 3 (v0.map ePerson)] (res_impl_ValidPersons r) := by
 unfold F_impl_ValidPersons at hF
 refine con_of c72_is fun N => ?_
 refine ws 0 64 ?_
 refine qp (AB false) rfl ?_
 refine r_nil ?_
 refine w_seq ?_
 refine ws 64 256 ?_
 refine qp (AL 3 (v0.map ePerson)) rfl (qp (AI (v0.length : Int)) (ev_len_n rfl) (qp (AB (decide ((24 : Int) < (v0.length : Int)))) rfl ?_))
 refine r_nil ?_
 refine cF hF (fun hF => ?_) fun hF => ?_
 ·
  refine ws 256 320 ?_
  refine qp (AB false) rfl ?_
  refine r_nil ?_
  refine w_ret ?_
  refine thenQ_r ?_
  cases hF
  exact eR
 ·
  refine w_skip ?_
  refine thenQ_n ?_
  refine w_seq ?_
  refine ws 256 448 ?_
  refine qp (AL 3 (v0.map ePerson)) rfl (qp (AI (v0.length : Int)) (ev_len_n rfl) (qp (AI 0) rfl ?_))
  refine r_nil ?_
  refine w_block ?_
  refine wr (l' := [(0, AL 3 (v0.map ePerson)), (11, AL 3 (v0.map ePerson)), (12, AI (v0.length : Int)), (13, AI 0)]) (L := []) [0, 11, 12, 13] [] 1 ?_
  refine w_loopF (F_impl_ValidPersons_l0 v0) (fun s : Int => mkS [(0, AL 3 (v0.map ePerson)), (11, AL 3 (v0.map ePerson)), (12, AI (v0.length : Int)), (13, AI s)] (fo []) 1) hF ?_
  rintro k2 v24 hF
  rw [F_impl_ValidPersons_l0] at hF
  try dsimp only
  refine ws 1 65 ?_
  refine qp (AB (decide (v24 < (v0.length : Int)))) rfl ?_
  refine r_nil ?_
  refine w_seq ?_
  refine cF hF (fun hF => ?_) fun hF => ?_
  ·
   refine w_skip ?_
   refine thenQ_n ?_
   refine w_seq ?_
   refine w_block ?_
   refine ws 65 449 ?_
   refine qp (AI v24) rfl ?_
   obtain ⟨v1000, e1000, hF⟩ := bind_get hF
   refine qp (.val none (.ptr [.str v1000.1, .int .i64 v1000.2.1, .sl 1 (v1000.2.2.map V.str)])) (ev_iad_n rfl rfl e1000 rfl) (qp (.val none (ePerson v1000)) rfl ?_)
   refine qf (.ptr 257 0 0) [(257, .box [AS [], AI 0, .sl 258 0 0]), (258, .row true 1 (([] : List Int).map vI))] (by simp) ?_
   refine qp (AI v24) rfl ?_
   refine qf0 (.undef) [(257, .box [AS v1000.1, AI v1000.2.1, AL 1 (v1000.2.2.map V.str)]), (257, .box [AS [], AI 0, .sl 258 0 0]), (258, .row true 1 (([] : List Int).map vI))] (by simp) ?_
   refine r_nil ?_
   refine w_meet (fun s' => s' = mkS [(0, AL 3 (v0.map ePerson)), (4, .ptr 0 0 0), (11, AL 3 (v0.map ePerson)), (12, AI (v0.length : Int)), (13, AI v24)] (fo [(0, .box [AS v1000.1, AI v1000.2.1, AL 1 (v1000.2.2.map V.str)])]) 1 ∧ F_impl_ValidPersons_j1 v0 v24 v1000 k2 = some r) ?_ ?_
   ·
    refine ws 449 2433 ?_
    refine qp (.ptr 257 0 0) rfl (qp (AS v1000.1) rfl ?_)
    obtain ⟨v1004, e1004, hF⟩ := bind_get hF
    refine qc (AB v1004) [(257, .box [AS v1000.1, AI v1000.2.1, AL 1 (v1000.2.2.map V.str)]), (257, .box [AS [], AI 0, .sl 258 0 0]), (258, .row true 1 (([] : List Int).map vI))] false (con_impl_IsName e1004) c139_ok (by first | rfl | simp) rfl ?_
    refine qp (AB (!v1004)) rfl (qp (AB (!v1004)) rfl ?_)
    refine q_case 22 hF rfl (fun hF => ?_) (fun hF => ?_)
    ·
     refine qn rfl (qn rfl (qn rfl (qn rfl (qp (AB true) rfl (qp (AB true) rfl (qn rfl (qn rfl ?_)))))))
     refine qn rfl (qn rfl (qp (AB true) rfl (qp (AB true) rfl (qn rfl (qn rfl (qn rfl (qu rfl ?_)))))))
     refine qu rfl (qu rfl (qu rfl (qu rfl (qu rfl (qu rfl (qu rfl (qu rfl ?_)))))))
     refine qn rfl (qp (AB true) rfl ?_)
     refine r_nil ?_
     refine w_true rfl ?_
     refine ws 2433 2497 ?_
     refine qp (AB false) rfl ?_
     refine r_nil ?_
     refine w_ret ?_
     refine thenQ_r ?_
     refine blockQ_r ?_
     refine thenQ_r ?_
     refine thenQ_r ?_
     refine blockQ_r ?_
     refine thenQ_r ?_
     cases hF
     exact eR
    ·
     refine qg (.ptr 257 0 1) rfl rfl (qg (AI v1000.2.1) rfl rfl ?_)
     obtain ⟨v1005, e1005, hF⟩ := bind_get hF
     refine qcg (AB v1005) [(257, .box [AS v1000.1, AI v1000.2.1, AL 1 (v1000.2.2.map V.str)]), (257, .box [AS [], AI 0, .sl 258 0 0]), (258, .row true 1 (([] : List Int).map vI))] false rfl (con_impl_within e1005) c140_ok (by first | rfl | simp) rfl ?_
     refine qg (AB (!v1005)) rfl rfl (qp (AB (!v1005)) rfl (qp (AB (!v1005)) rfl ?_))
     refine q_case 28 hF rfl (fun hF => ?_) (fun hF => ?_)
     ·
      refine qn rfl (qn rfl (qn rfl (qn rfl (qp (AB true) rfl (qp (AB true) rfl (qn rfl (qn rfl ?_)))))))
      refine qn rfl (qu rfl (qu rfl (qu rfl (qu rfl (qu rfl (qu rfl (qu rfl ?_)))))))
      refine qu rfl (qu rfl (qn rfl (qp (AB true) rfl ?_)))
      refine r_nil ?_
      refine w_true rfl ?_
      refine ws 2433 2497 ?_
      refine qp (AB false) rfl ?_
      refine r_nil ?_
      refine w_ret ?_
      refine thenQ_r ?_
      refine blockQ_r ?_
      refine thenQ_r ?_
      refine thenQ_r ?_
      refine blockQ_r ?_
      refine thenQ_r ?_
      cases hF
      exact eR
     ·
      refine qg (.ptr 257 0 2) rfl rfl (qg (AL 1 (v1000.2.2.map V.str)) rfl rfl (qg (AI (v1000.2.2.length : Int)) rfl (ev_len_n rfl) (qg (AB (decide ((4 : Int) < (v1000.2.2.length : Int)))) rfl rfl (qp (AB (decide ((4 : Int) < (v1000.2.2.length : Int)))) rfl (qp (AB (decide ((4 : Int) < (v1000.2.2.length : Int)))) rfl ?_)))))
      refine q_case 34 hF rfl (fun hF => ?_) (fun hF => ?_)
      ·
       refine qn rfl (qn rfl (qn rfl (qu rfl (qu rfl (qu rfl (qu rfl (qu rfl ?_)))))))
       refine qu rfl (qu rfl (qu rfl (qu rfl (qn rfl (qp (AB true) rfl ?_)))))
       refine r_nil ?_
       refine w_true rfl ?_
       refine ws 2433 2497 ?_
       refine qp (AB false) rfl ?_
       refine r_nil ?_
       refine w_ret ?_
       refine thenQ_r ?_
       refine blockQ_r ?_
       refine thenQ_r ?_
       refine thenQ_r ?_
       refine blockQ_r ?_
       refine thenQ_r ?_
       cases hF
       exact eR
      ·
       refine qg (AI v24) rfl rfl (qg (AB (decide ((0 : Int) < v24))) rfl rfl (qg (AB (decide ((0 : Int) < v24))) rfl rfl ?_))
       refine q_case 37 hF rfl (fun hF => ?_) (fun hF => ?_)
       ·
        refine qg (.ptr 257 0 0) rfl rfl (qg (AS v1000.1) rfl rfl (qg (AL 3 (v0.map ePerson)) rfl rfl (qg (AI v24) rfl rfl (qg (AI (w64 (v24 - 1))) rfl rfl ?_))))
        obtain ⟨v1006, e1006, hF⟩ := bind_get hF
        refine qg (.val none (.ptr [.str v1006.1, .int .i64 v1006.2.1, .sl 1 (v1006.2.2.map V.str)])) rfl (ev_iad_n rfl rfl e1006 rfl) (qg (.val none (.ptr [.str v1006.1, .int .i64 v1006.2.1, .sl 1 (v1006.2.2.map V.str)])) rfl rfl (qg (AS v1006.1) rfl rfl (qg (AB (Op.bytesLess v1000.1 v1006.1 || decide (v1000.1 = v1006.1))) rfl rfl (qg (AB (Op.bytesLess v1000.1 v1006.1 || decide (v1000.1 = v1006.1))) rfl rfl (qp (AB (Op.bytesLess v1000.1 v1006.1 || decide (v1000.1 = v1006.1))) rfl ?_)))))
        refine r_nil ?_
        refine cF hF (fun hF => ?_) fun hF => ?_
        ·
         refine ws 2433 2497 ?_
         refine qp (AB false) rfl ?_
         refine r_nil ?_
         refine w_ret ?_
         refine thenQ_r ?_
         refine blockQ_r ?_
         refine thenQ_r ?_
         refine thenQ_r ?_
         refine blockQ_r ?_
         refine thenQ_r ?_
         cases hF
         exact eR
        ·
         refine w_skip ?_
         refine thenQ_n ?_
         refine aw_ren (l' := [(0, AL 3 (v0.map ePerson)), (4, .ptr 0 0 0), (11, AL 3 (v0.map ePerson)), (12, AI (v0.length : Int)), (13, AI v24)]) (L := [(0, .box [AS v1000.1, AI v1000.2.1, AL 1 (v1000.2.2.map V.str)])]) [0, 4, 11, 12, 13] [(257, 0)] 1 (by first | rfl | simp) (by first | rfl | simp) (by decide) (by decide) (by decide) ⟨rfl, hF⟩
       ·
        refine qn rfl (qn rfl (qn rfl (qn rfl (qn rfl (qn rfl (qn rfl (qn rfl ?_)))))))
        refine qn rfl (qg (AB false) rfl rfl (qp (AB false) rfl ?_))
        refine r_nil ?_
        refine w_false rfl ?_
        refine w_skip ?_
        refine thenQ_n ?_
        refine aw_ren (l' := [(0, AL 3 (v0.map ePerson)), (4, .ptr 0 0 0), (11, AL 3 (v0.map ePerson)), (12, AI (v0.length : Int)), (13, AI v24)]) (L := [(0, .box [AS v1000.1, AI v1000.2.1, AL 1 (v1000.2.2.map V.str)])]) [0, 4, 11, 12, 13] [(257, 0)] 1 (by first | rfl | simp) (by first | rfl | simp) (by decide) (by decide) (by decide) ⟨rfl, hF⟩
   ·
    rintro s' ⟨rfl, hF⟩
    unfold F_impl_ValidPersons_j1 at hF
    refine ws 1 257 ?_
    refine qp (.ptr 0 0 2) rfl (qp (AL 1 (v1000.2.2.map V.str)) rfl (qp (AI (v1000.2.2.length : Int)) (ev_len_n rfl) (qp (AI 0) rfl ?_)))
    refine r_nil ?_
    refine w_block ?_
    refine wr (l' := [(0, AL 3 (v0.map ePerson)), (4, .ptr 0 0 0), (11, AL 3 (v0.map ePerson)), (12, AI (v0.length : Int)), (13, AI v24), (50, AL 1 (v1000.2.2.map V.str)), (51, AI (v1000.2.2.length : Int)), (52, AI 0)]) (L := [(0, .box [AS v1000.1, AI v1000.2.1, AL 1 (v1000.2.2.map V.str)])]) [0, 4, 11, 12, 13, 50, 51, 52] [(0, 0)] 1 ?_
    refine w_loopF (F_impl_ValidPersons_l2 v0 v24 v1000 k2) (fun s : Int => mkS [(0, AL 3 (v0.map ePerson)), (4, .ptr 0 0 0), (11, AL 3 (v0.map ePerson)), (12, AI (v0.length : Int)), (13, AI v24), (50, AL 1 (v1000.2.2.map V.str)), (51, AI (v1000.2.2.length : Int)), (52, AI s)] (fo [(0, .box [AS v1000.1, AI v1000.2.1, AL 1 (v1000.2.2.map V.str)])]) 1) hF ?_
    rintro k4 v1013 hF
    rw [F_impl_ValidPersons_l2] at hF
    try dsimp only
    refine ws 1 65 ?_
    refine qp (AB (decide (v1013 < (v1000.2.2.length : Int)))) rfl ?_
    refine r_nil ?_
    refine w_seq ?_
    refine cF hF (fun hF => ?_) fun hF => ?_
    ·
     refine w_skip ?_
     refine thenQ_n ?_
     refine w_seq ?_
     refine w_block ?_
     refine ws 65 385 ?_
     refine qp (AI v1013) rfl ?_
     obtain ⟨v1007, e1007, hF⟩ := bind_get hF
     refine qp (.val none (.ptr [.str v1007])) (ev_iad_n rfl rfl e1007 rfl) (qp (AS v1007) rfl (qp (AI v1013) rfl (qp (AS v1007) rfl ?_)))
     refine r_nil ?_
     refine ws 385 641 ?_
     refine qp (AL 3 (v0.map ePerson)) rfl (qp (AS v1007) rfl ?_)
     obtain ⟨v1008, e1008, hF⟩ := bind_get hF
     refine qc (AI v1008) [(0, .box [AS v1000.1, AI v1000.2.1, AL 1 (v1000.2.2.map V.str)])] false (con_impl_personAt e1008) c66_ok (by first | rfl | simp) rfl ?_
     refine qp (AI v1008) rfl ?_
     refine r_nil ?_
     refine ws 641 2305 ?_
     refine qp (AI v1008) rfl (qp (AB (decide (v1008 < (0 : Int)))) rfl (qp (AB (decide (v1008 < (0 : Int)))) rfl ?_))
     refine q_case 62 hF rfl (fun hF => ?_) (fun hF => ?_)
     ·
      refine qn rfl (qn rfl (qn rfl (qn rfl (qn rfl (qn rfl (qn rfl (qn rfl ?_)))))))
      refine qp (AB true) rfl (qp (AB true) rfl (qn rfl (qn rfl (qn rfl (qu rfl (qu rfl (qu rfl ?_)))))))
      refine qu rfl (qu rfl (qu rfl (qu rfl (qu rfl (qn rfl (qp (AB true) rfl ?_))))))
      refine r_nil ?_
      refine w_true rfl ?_
      refine ws 2305 2369 ?_
      refine qp (AB false) rfl ?_
      refine r_nil ?_
      refine w_ret ?_
      refine blockQ_r ?_
      refine thenQ_r ?_
      refine thenQ_r ?_
      refine blockQ_r ?_
      refine blockQ_r ?_
      refine thenQ_r ?_
      refine thenQ_r ?_
      refine blockQ_r ?_
      refine thenQ_r ?_
      cases hF
      exact eR
     ·
      refine qg (AL 3 (v0.map ePerson)) rfl rfl (qg (AI v1008) rfl rfl ?_)
      obtain ⟨v1009, e1009, hF⟩ := bind_get hF
      refine qg (.val none (.ptr [.str v1009.1, .int .i64 v1009.2.1, .sl 1 (v1009.2.2.map V.str)])) rfl (ev_iad_n rfl rfl e1009 rfl) (qg (.val none (.ptr [.int .i64 v1009.2.1, .sl 1 (v1009.2.2.map V.str)])) rfl rfl (qg (AI v1009.2.1) rfl rfl (qg (.ptr 0 0 1) rfl rfl (qg (AI v1000.2.1) rfl rfl (qg (AB (decide (v1000.2.1 ≤ v1009.2.1))) rfl rfl (qp (AB (decide (v1000.2.1 ≤ v1009.2.1))) rfl (qp (AB (decide (v1000.2.1 ≤ v1009.2.1))) rfl ?_)))))))
      refine q_case 72 hF rfl (fun hF => ?_) (fun hF => ?_)
      ·
       refine qn rfl (qn rfl (qn rfl (qu rfl (qu rfl (qu rfl (qu rfl (qu rfl ?_)))))))
       refine qu rfl (qu rfl (qu rfl (qn rfl (qp (AB true) rfl ?_))))
       refine r_nil ?_
       refine w_true rfl ?_
       refine ws 2305 2369 ?_
       refine qp (AB false) rfl ?_
       refine r_nil ?_
       refine w_ret ?_
       refine blockQ_r ?_
       refine thenQ_r ?_
       refine thenQ_r ?_
       refine blockQ_r ?_
       refine blockQ_r ?_
       refine thenQ_r ?_
       refine thenQ_r ?_
       refine blockQ_r ?_
       refine thenQ_r ?_
       cases hF
       exact eR
      ·
       refine qg (AI v1013) rfl rfl (qg (AB (decide ((0 : Int) < v1013))) rfl rfl (qg (AB (decide ((0 : Int) < v1013))) rfl rfl ?_))
       refine q_case 75 hF rfl (fun hF => ?_) (fun hF => ?_)
       ·
        refine qg (AS v1007) rfl rfl (qg (.ptr 0 0 2) rfl rfl (qg (AL 1 (v1000.2.2.map V.str)) rfl rfl (qg (AI v1013) rfl rfl (qg (AI (w64 (v1013 - 1))) rfl rfl ?_))))
        obtain ⟨v1010, e1010, hF⟩ := bind_get hF
        refine qg (.val none (.ptr [.str v1010])) rfl (ev_iad_n rfl rfl e1010 rfl) (qg (AS v1010) rfl rfl (qg (AB (Op.bytesLess v1007 v1010 || decide (v1007 = v1010))) rfl rfl (qg (AB (Op.bytesLess v1007 v1010 || decide (v1007 = v1010))) rfl rfl (qp (AB (Op.bytesLess v1007 v1010 || decide (v1007 = v1010))) rfl ?_))))
        refine r_nil ?_
        refine cF hF (fun hF => ?_) fun hF => ?_
        ·
         refine ws 2305 2369 ?_
         refine qp (AB false) rfl ?_
         refine r_nil ?_
         refine w_ret ?_
         refine blockQ_r ?_
         refine thenQ_r ?_
         refine thenQ_r ?_
         refine blockQ_r ?_
         refine blockQ_r ?_
         refine thenQ_r ?_
         refine thenQ_r ?_
         refine blockQ_r ?_
         refine thenQ_r ?_
         cases hF
         exact eR
        ·
         refine w_skip ?_
         refine blockQ_n ?_
         refine thenQ_n ?_
         refine w_reg 2305 2433 rfl rfl ?_
         refine qp (AI (w64 (v1013 + 1))) rfl (qp (AI (w64 (v1013 + 1))) rfl ?_)
         refine r_nil ?_
         refine thenQ_n ?_
         refine ar (l' := [(0, AL 3 (v0.map ePerson)), (4, .ptr 0 0 0), (11, AL 3 (v0.map ePerson)), (12, AI (v0.length : Int)), (13, AI v24), (50, AL 1 (v1000.2.2.map V.str)), (51, AI (v1000.2.2.length : Int)), (52, AI (w64 (v1013 + 1)))]) (L := [(0, .box [AS v1000.1, AI v1000.2.1, AL 1 (v1000.2.2.map V.str)])]) [0, 4, 11, 12, 13, 50, 51, 52] [(0, 0)] 1 ⟨_, by rfl, hF⟩
       ·
        refine qn rfl (qn rfl (qn rfl (qn rfl (qn rfl (qn rfl (qn rfl (qn rfl ?_)))))))
        refine qg (AB false) rfl rfl (qp (AB false) rfl ?_)
        refine r_nil ?_
        refine w_false rfl ?_
        refine w_skip ?_
        refine blockQ_n ?_
        refine thenQ_n ?_
        refine w_reg 2305 2433 rfl rfl ?_
        refine qp (AI (w64 (v1013 + 1))) rfl (qp (AI (w64 (v1013 + 1))) rfl ?_)
        refine r_nil ?_
        refine thenQ_n ?_
        refine ar (l' := [(0, AL 3 (v0.map ePerson)), (4, .ptr 0 0 0), (11, AL 3 (v0.map ePerson)), (12, AI (v0.length : Int)), (13, AI v24), (50, AL 1 (v1000.2.2.map V.str)), (51, AI (v1000.2.2.length : Int)), (52, AI (w64 (v1013 + 1)))]) (L := [(0, .box [AS v1000.1, AI v1000.2.1, AL 1 (v1000.2.2.map V.str)])]) [0, 4, 11, 12, 13, 50, 51, 52] [(0, 0)] 1 ⟨_, by rfl, hF⟩
    ·
     refine w_exit ?_
     refine thenQ_e ?_
     refine thenQ_e ?_
     refine blockQ_e ?_
     refine blockQ_n ?_
     refine thenQ_n ?_
     refine w_reg 65 193 rfl rfl ?_
     refine qp (AI (w64 (v24 + 1))) rfl (qp (AI (w64 (v24 + 1))) rfl ?_)
     refine r_nil ?_
     refine thenQ_n ?_
     refine ar (l' := [(0, AL 3 (v0.map ePerson)), (11, AL 3 (v0.map ePerson)), (12, AI (v0.length : Int)), (13, AI (w64 (v24 + 1)))]) (L := []) [0, 11, 12, 13] [] 1 ⟨_, by rfl, hF⟩
  ·
   refine w_exit ?_
   refine thenQ_e ?_
   refine thenQ_e ?_
   refine blockQ_e ?_
   refine thenQ_n ?_
   refine ws 65 129 ?_
   refine qp (AB true) rfl ?_
   refine r_nil ?_
   refine w_ret ?_
   cases hF
   exact eR

def c131 : MC := (.seq (.reg [rg 3 (.p true (.mv (.c (.bool false))))]) (.seq (.reg [rg 4 (.p true (.ld (.t 1) 1 false)), mvt 5 0, rg 6 (.call true 66 [(.t 4), (.t 5)]), rg 7 (.p true (.bin .lss (.t 6) (.c (.int .i64 0)))), mvt 3 7]) .ret))
theorem c131_is : compFn Try.prog 131 = some (c131, [(.tmp 3)]) := by kernel_rfl
theorem c131_ok : okFn Try.prog 131 = true := by kernel_rfl

noncomputable def F_impl_personsCode_1 (v0 : List UInt8) (v1 : List TPerson) : Option (Bool) :=
 ((F_impl_personAt v1 v0).bind fun v1000 => some (decide (v1000 < (0 : Int))))
@[simp] def res_impl_personsCode_1 (r : Bool) : RV := .one (.one (.val (.bool r)))
theorem con_impl_personsCode_1 {v0 : List UInt8} {v1 : List TPerson} {r : Bool} (hF : F_impl_personsCode_1 v0 v1 = some r) : Con Try.prog 131 [.str v0, .ptr [.sl 3 (v1.map ePerson)]] (res_impl_personsCode_1 r) := by
 unfold F_impl_personsCode_1 at hF
 refine con_of c131_is fun N => ?_
 refine ws 0 64 ?_
 refine qp (AB false) rfl ?_
 refine r_nil ?_
 refine ws 64 384 ?_
 refine qp (AL 3 (v1.map ePerson)) rfl (qp (AS v0) rfl ?_)
 obtain ⟨v1000, e1000, hF⟩ := bind_get hF
 refine qc (AI v1000) [] false (con_impl_personAt e1000) c66_ok (by first | rfl | simp) rfl ?_
 refine qp (AB (decide (v1000 < (0 : Int)))) rfl (qp (AB (decide (v1000 < (0 : Int)))) rfl ?_)
 refine r_nil ?_
 refine w_ret ?_
 cases hF
 exact eR

def c189 : MC := (.seq (.reg [rg 4 (.p true (.mv (.c (.int .i64 0))))]) (.seq (.seq (.reg [mvt 6 0, rg 7 (.p true (.len (.t 6))), rg 8 (.p true (.mv (.c (.int .i64 0))))]) (.block 0 (.loop (.seq (.reg [rg 9 (.p true (.bin .lss (.t 8) (.t 7)))]) (.seq (.cond (.t 9) .skip (.exit 0)) (.seq (.block 1 (.seq (.reg [mvt 10 8, mvt 5 10]) (.seq (.reg [mvt 11 1, mvt 12 0, mvt 13 5, rg 14 (.p true (.iad (.t 12) (.t 13) 1)), rg 15 (.p true (.ld (.t 14) 1 false)), rg 16 (.callv (.t 11) [(.t 15)])]) (.cond (.t 16) (.seq (.reg [mvt 17 5, mvt 4 17]) .ret) .skip)))) (.reg [rg 18 (.p true (.bin .add (.t 8) (.c (.int .i64 1)))), mvt 8 18]))))))) (.seq (.reg [rg 4 (.p true (.mv (.c (.int .i64 (-1)))))]) .ret)))
theorem c189_is : compFn Try.prog 189 = some (c189, [(.tmp 4)]) := by kernel_rfl
theorem c189_ok : okFn Try.prog 189 = true := by kernel_rfl

noncomputable def F_slices_IndexFunc_Sstring_string_l0 (v0 : List (List UInt8)) (v1 : List TPerson) (k0 : Int → Option (Int)) : Int → Option (Int)
 | v7 => (bif (decide (v7 < (v0.length : Int))) then ((ix v0 v7).bind fun v1000 => ((F_impl_personsCode_1 v1000 v1).bind fun v1001 => (bif v1001 then some v7
 else k0 (w64 (v7 + 1)))))
 else some (-1))
noncomputable def F_slices_IndexFunc_Sstring_string (v0 : List (List UInt8)) (v1 : List TPerson) : Option (Int) :=
 loop (F_slices_IndexFunc_Sstring_string_l0 v0 v1) 0
@[simp] def res_slices_IndexFunc_Sstring_string (r : Int) : RV := .one (.one (.val (.int .i64 r)))
theorem con_slices_IndexFunc_Sstring_string {v0 : List (List UInt8)} {v1 : List TPerson} {r : Int} (hF : F_slices_IndexFunc_Sstring_string v0 v1 = some r) : Con Try.prog 189 [.sl 1 (v0.map V.str), .fn 131 [.ptr [.sl 3 (v1.map ePerson)]]] (res_slices_IndexFunc_Sstring_string r) := by
 unfold F_slices_IndexFunc_Sstring_string at hF
 refine con_of c189_is fun N => ?_
 refine ws 0 64 ?_
 refine qp (AI 0) rfl ?_
 refine r_nil ?_
 refine w_seq ?_
 refine ws 64 256 ?_
 refine qp (AL 1 (v0.map V.str)) rfl (qp (AI (v0.length : Int)) (ev_len_n rfl) (qp (AI 0) rfl ?_))
 refine r_nil ?_
 refine w_block ?_
 refine wr (l' := [(0, AL 1 (v0.map V.str)), (1, .val none (.fn 131 [.ptr [.sl 3 (v1.map ePerson)]])), (7, AI (v0.length : Int)), (8, AI 0)]) (L := []) [0, 1, 7, 8] [] 1 ?_
 refine w_loopF (F_slices_IndexFunc_Sstring_string_l0 v0 v1) (fun s : Int => mkS [(0, AL 1 (v0.map V.str)), (1, .val none (.fn 131 [.ptr [.sl 3 (v1.map ePerson)]])), (7, AI (v0.length : Int)), (8, AI s)] (fo []) 1) hF ?_
 rintro k0 v7 hF
 rw [F_slices_IndexFunc_Sstring_string_l0] at hF
 try dsimp only
 refine ws 1 65 ?_
 refine qp (AB (decide (v7 < (v0.length : Int)))) rfl ?_
 refine r_nil ?_
 refine w_seq ?_
 refine cF hF (fun hF => ?_) fun hF => ?_
 ·
  refine w_skip ?_
  refine thenQ_n ?_
  refine w_seq ?_
  refine w_block ?_
  refine ws 65 193 ?_
  refine qp (AI v7) rfl (qp (AI v7) rfl ?_)
  refine r_nil ?_
  refine ws 193 577 ?_
  refine qp (.val none (.fn 131 [.ptr [.sl 3 (v1.map ePerson)]])) rfl (qp (AL 1 (v0.map V.str)) rfl (qp (AI v7) rfl ?_))
  obtain ⟨v1000, e1000, hF⟩ := bind_get hF
  refine qp (.val none (.ptr [.str v1000])) (ev_iad_n rfl rfl e1000 rfl) (qp (AS v1000) rfl ?_)
  obtain ⟨v1001, e1001, hF⟩ := bind_get hF
  refine qcv (AB v1001) [] false rfl (con_impl_personsCode_1 e1001) c131_ok (by first | rfl | simp) rfl ?_
  refine r_nil ?_
  refine cF hF (fun hF => ?_) fun hF => ?_
  ·
   refine ws 577 705 ?_
   refine qp (AI v7) rfl (qp (AI v7) rfl ?_)
   refine r_nil ?_
   refine w_ret ?_
   refine blockQ_r ?_
   refine thenQ_r ?_
   refine thenQ_r ?_
   refine blockQ_r ?_
   refine thenQ_r ?_
   cases hF
   exact eR
  ·
   refine w_skip ?_
   refine blockQ_n ?_
   refine thenQ_n ?_
   refine w_reg 577 705 rfl rfl ?_
   refine qp (AI (w64 (v7 + 1))) rfl (qp (AI (w64 (v7 + 1))) rfl ?_)
   refine r_nil ?_
   refine thenQ_n ?_
   refine ar (l' := [(0, AL 1 (v0.map V.str)), (1, .val none (.fn 131 [.ptr [.sl 3 (v1.map ePerson)]])), (7, AI (v0.length : Int)), (8, AI (w64 (v7 + 1)))]) (L := []) [0, 1, 7, 8] [] 1 ⟨_, by rfl, hF⟩
 ·
  refine w_exit ?_
  refine thenQ_e ?_
  refine thenQ_e ?_
  refine blockQ_e ?_
  refine thenQ_n ?_
  refine ws 65 129 ?_
  refine qp (AI (-1)) rfl ?_
  refine r_nil ?_
  refine w_ret ?_
  cases hF
  exact eR

def c130 : MC := (.seq (.reg [rg 4 (.p true (.mv (.c (.bool false))))]) (.seq (.reg [mvt 5 0, mvt 6 1, rg 7 (.call true 189 [(.t 5), (.t 6)]), rg 8 (.p true (.bin .geq (.t 7) (.c (.int .i64 0)))), mvt 4 8]) .ret))
theorem c130_is : compFn Try.prog 130 = some (c130, [(.tmp 4)]) := by kernel_rfl
theorem c130_ok : okFn Try.prog 130 = true := by kernel_rfl

noncomputable def F_slices_ContainsFunc_Sstring_string (v0 : List (List UInt8)) (v1 : List TPerson) : Option (Bool) :=
 ((F_slices_IndexFunc_Sstring_string v0 v1).bind fun v1000 => some (decide ((0 : Int) ≤ v1000)))
@[simp] def res_slices_ContainsFunc_Sstring_string (r : Bool) : RV := .one (.one (.val (.bool r)))
theorem con_slices_ContainsFunc_Sstring_string {v0 : List (List UInt8)} {v1 : List TPerson} {r : Bool} (hF : F_slices_ContainsFunc_Sstring_string v0 v1 = some r) : Con Try.prog 130 [.sl 1 (v0.map V.str), .fn 131 [.ptr [.sl 3 (v1.map ePerson)]]] (res_slices_ContainsFunc_Sstring_string r) := by
 unfold F_slices_ContainsFunc_Sstring_string at hF
 refine con_of c130_is fun N => ?_
 refine ws 0 64 ?_
 refine qp (AB false) rfl ?_
 refine r_nil ?_
 refine ws 64 384 ?_
 refine qp (AL 1 (v0.map V.str)) rfl (qp (.val none (.fn 131 [.ptr [.sl 3 (v1.map ePerson)]])) rfl ?_)
 obtain ⟨v1000, e1000, hF⟩ := bind_get hF
 refine qc (AI v1000) [] false (con_slices_IndexFunc_Sstring_string e1000) c189_ok (by first | rfl | simp) rfl ?_
 refine qp (AB (decide ((0 : Int) ≤ v1000))) rfl (qp (AB (decide ((0 : Int) ≤ v1000))) rfl ?_)
 refine r_nil ?_
 refine w_ret ?_
 cases hF
 exact eR

def c63 : MC := (.seq (.reg [rg 2 (.f (.box (.t 0))), rg 4 (.p true (.mv (.c (.int .i64 0))))]) (.seq (.block 0 (.seq (.reg [rg 6 (.p true (.ld (.t 2) 1 false)), rg 7 (.call true 72 [(.t 6)]), rg 8 (.p true (.not (.t 7))), mvt 5 8]) (.cond (.t 5) (.seq (.reg [rg 4 (.p true (.mv (.c (.int .i64 1))))]) .ret) (.seq (.reg [mvt 10 1, rg 11 (.p true (.mkf 131 [(.t 2)])), rg 12 (.call true 130 [(.t 10), (.t 11)]), mvt 9 12]) (.cond (.t 9) (.seq (.reg [rg 4 (.p true (.mv (.c (.int .i64 3))))]) .ret) .skip))))) (.seq (.reg [rg 4 (.p true (.mv (.c (.int .i64 0))))]) .ret)))
theorem c63_is : compFn Try.prog 63 = some (c63, [(.tmp 4)]) := by kernel_rfl
theorem c63_ok : okFn Try.prog 63 = true := by kernel_rfl

noncomputable def F_impl_personsCode (v0 : List TPerson) (v1 : List (List UInt8)) : Option (Int) :=
 ((F_impl_ValidPersons v0).bind fun v1000 => (bif (!v1000) then some 1
 else ((F_slices_ContainsFunc_Sstring_string v1 v0).bind fun v1001 => (bif v1001 then some 3
 else some 0))))
@[simp] def res_impl_personsCode (r : Int) : RV := .one (.one (.val (.int .i64 r)))
theorem con_impl_personsCode {v0 : List TPerson} {v1 : List (List UInt8)} {r : Int} (hF : F_impl_personsCode v0 v1 = some r) : Con Try.prog 63 [.sl 3 (v0.map ePerson), .sl 1 (v1.map V.str)] (res_impl_personsCode r) := by
 unfold F_impl_personsCode at hF
 refine con_of c63_is fun N => ?_
 refine ws 0 128 ?_
 refine qf (.ptr 0 0 0) [(0, .box [.val none (.sl 3 (v0.map ePerson))])] (by simp) ?_
 refine qp (AI 0) rfl ?_
 refine r_nil ?_
 refine w_seq ?_
 refine w_block ?_
 refine ws 128 384 ?_
 refine qp (AL 3 (v0.map ePerson)) rfl ?_
 obtain ⟨v1000, e1000, hF⟩ := bind_get hF
 refine qc (AB v1000) [(0, .box [.val none (.sl 3 (v0.map ePerson))])] false (con_impl_ValidPersons e1000) c72_ok (by first | rfl | simp) rfl ?_
 refine qp (AB (!v1000)) rfl (qp (AB (!v1000)) rfl ?_)
 refine r_nil ?_
 refine cF hF (fun hF => ?_) fun hF => ?_
 ·
  refine ws 384 448 ?_
  refine qp (AI 1) rfl ?_
  refine r_nil ?_
  refine w_ret ?_
  refine blockQ_r ?_
  refine thenQ_r ?_
  cases hF
  exact eR
 ·
  refine ws 384 640 ?_
  refine qp (AL 1 (v1.map V.str)) rfl (qp (.fn 131 [.ptr 0 0 0]) rfl ?_)
  obtain ⟨v1001, e1001, hF⟩ := bind_get hF
  refine qc (AB v1001) [(0, .box [.val none (.sl 3 (v0.map ePerson))])] true (con_slices_ContainsFunc_Sstring_string e1001) c130_ok (by simp [List.take_of_length_le]) rfl ?_
  refine qp (AB v1001) rfl ?_
  refine r_nil ?_
  refine cF hF (fun hF => ?_) fun hF => ?_
  ·
   refine ws 640 704 ?_
   refine qp (AI 3) rfl ?_
   refine r_nil ?_
   refine w_ret ?_
   refine blockQ_r ?_
   refine thenQ_r ?_
   cases hF
   exact eR
  ·
   refine w_skip ?_
   refine blockQ_n ?_
   refine thenQ_n ?_
   refine ws 640 704 ?_
   refine qp (AI 0) rfl ?_
   refine r_nil ?_
   refine w_ret ?_
   cases hF
   exact eR

def c132 : MC := (.seq (.reg [rg 4 (.p true (.mv (.c (.int .i64 0))))]) (.seq (.seq (.reg [mvt 6 0, rg 7 (.p true (.len (.t 6))), rg 8 (.p true (.mv (.c (.int .i64 0))))]) (.block 0 (.loop (.seq (.reg [rg 9 (.p true (.bin .lss (.t 8) (.t 7)))]) (.seq (.cond (.t 9) .skip (.exit 0)) (.seq (.block 1 (.seq (.reg [mvt 10 8, mvt 5 10]) (.seq (.reg [mvt 11 1, mvt 12 0, mvt 13 5, rg 14 (.p true (.iad (.t 12) (.t 13) 1)), rg 15 (.p true (.ld (.t 14) 1 false)), rg 16 (.p true (.bin .eql (.t 11) (.t 15)))]) (.cond (.t 16) (.seq (.reg [mvt 17 5, mvt 4 17]) .ret) .skip)))) (.reg [rg 18 (.p true (.bin .add (.t 8) (.c (.int .i64 1)))), mvt 8 18]))))))) (.seq (.reg [rg 4 (.p true (.mv (.c (.int .i64 (-1)))))]) .ret)))
theorem c132_is : compFn Try.prog 132 = some (c132, [(.tmp 4)]) := by kernel_rfl
theorem c132_ok : okFn Try.prog 132 = true := by kernel_rfl

noncomputable def F_slices_Index_Sstring_string_l0 (v0 : List (List UInt8)) (v1 : List UInt8) (k0 : Int → Option (Int)) : Int → Option (Int)
 | v5 => (bif (decide (v5 < (v0.length : Int))) then ((ix v0 v5).bind fun v1000 => (bif (decide (v1 = v1000)) then some v5
 else k0 (w64 (v5 + 1))))
 else some (-1))
noncomputable def F_slices_Index_Sstring_string (v0 : List (List UInt8)) (v1 : List UInt8) : Option (Int) :=
 loop (F_slices_Index_Sstring_string_l0 v0 v1) 0
@[simp] def res_slices_Index_Sstring_string (r : Int) : RV := .one (.one (.val (.int .i64 r)))
theorem con_slices_Index_Sstring_string {v0 : List (List UInt8)} {v1 : List UInt8} {r : Int} (hF : F_slices_Index_Sstring_string v0 v1 = some r) : Con Try.prog 132 [.sl 1 (v0.map V.str), .str v1] (res_slices_Index_Sstring_string r) := by
 unfold F_slices_Index_Sstring_string at hF
 refine con_of c132_is fun N => ?_
 refine ws 0 64 ?_
 refine qp (AI 0) rfl ?_
 refine r_nil ?_
 refine w_seq ?_
 refine ws 64 256 ?_
 refine qp (AL 1 (v0.map V.str)) rfl (qp (AI (v0.length : Int)) (ev_len_n rfl) (qp (AI 0) rfl ?_))
 refine r_nil ?_
 refine w_block ?_
 refine wr (l' := [(0, AL 1 (v0.map V.str)), (1, AS v1), (7, AI (v0.length : Int)), (8, AI 0)]) (L := []) [0, 1, 7, 8] [] 1 ?_
 refine w_loopF (F_slices_Index_Sstring_string_l0 v0 v1) (fun s : Int => mkS [(0, AL 1 (v0.map V.str)), (1, AS v1), (7, AI (v0.length : Int)), (8, AI s)] (fo []) 1) hF ?_
 rintro k0 v5 hF
 rw [F_slices_Index_Sstring_string_l0] at hF
 try dsimp only
 refine ws 1 65 ?_
 refine qp (AB (decide (v5 < (v0.length : Int)))) rfl ?_
 refine r_nil ?_
 refine w_seq ?_
 refine cF hF (fun hF => ?_) fun hF => ?_
 ·
  refine w_skip ?_
  refine thenQ_n ?_
  refine w_seq ?_
  refine w_block ?_
  refine ws 65 193 ?_
  refine qp (AI v5) rfl (qp (AI v5) rfl ?_)
  refine r_nil ?_
  refine ws 193 577 ?_
  refine qp (AS v1) rfl (qp (AL 1 (v0.map V.str)) rfl (qp (AI v5) rfl ?_))
  obtain ⟨v1000, e1000, hF⟩ := bind_get hF
  refine qp (.val none (.ptr [.str v1000])) (ev_iad_n rfl rfl e1000 rfl) (qp (AS v1000) rfl (qp (AB (decide (v1 = v1000))) rfl ?_))
  refine r_nil ?_
  refine cF hF (fun hF => ?_) fun hF => ?_
  ·
   refine ws 577 705 ?_
   refine qp (AI v5) rfl (qp (AI v5) rfl ?_)
   refine r_nil ?_
   refine w_ret ?_
   refine blockQ_r ?_
   refine thenQ_r ?_
   refine thenQ_r ?_
   refine blockQ_r ?_
   refine thenQ_r ?_
   cases hF
   exact eR
  ·
   refine w_skip ?_
   refine blockQ_n ?_
   refine thenQ_n ?_
   refine w_reg 577 705 rfl rfl ?_
   refine qp (AI (w64 (v5 + 1))) rfl (qp (AI (w64 (v5 + 1))) rfl ?_)
   refine r_nil ?_
   refine thenQ_n ?_
   refine ar (l' := [(0, AL 1 (v0.map V.str)), (1, AS v1), (7, AI (v0.length : Int)), (8, AI (w64 (v5 + 1)))]) (L := []) [0, 1, 7, 8] [] 1 ⟨_, by rfl, hF⟩
 ·
  refine w_exit ?_
  refine thenQ_e ?_
  refine thenQ_e ?_
  refine blockQ_e ?_
  refine thenQ_n ?_
  refine ws 65 129 ?_
  refine qp (AI (-1)) rfl ?_
  refine r_nil ?_
  refine w_ret ?_
  cases hF
  exact eR

def c65 : MC := (.seq (.reg [rg 4 (.p true (.mv (.c (.bool false))))]) (.seq (.reg [mvt 5 0, mvt 6 1, rg 7 (.call true 132 [(.t 5), (.t 6)]), rg 8 (.p true (.bin .geq (.t 7) (.c (.int .i64 0)))), mvt 4 8]) .ret))
theorem c65_is : compFn Try.prog 65 = some (c65, [(.tmp 4)]) := by kernel_rfl
theorem c65_ok : okFn Try.prog 65 = true := by kernel_rfl

noncomputable def F_slices_Contains_Sstring_string (v0 : List (List UInt8)) (v1 : List UInt8) : Option (Bool) :=
 ((F_slices_Index_Sstring_string v0 v1).bind fun v1000 => some (decide ((0 : Int) ≤ v1000)))
@[simp] def res_slices_Contains_Sstring_string (r : Bool) : RV := .one (.one (.val (.bool r)))
theorem con_slices_Contains_Sstring_string {v0 : List (List UInt8)} {v1 : List UInt8} {r : Bool} (hF : F_slices_Contains_Sstring_string v0 v1 = some r) : Con Try.prog 65 [.sl 1 (v0.map V.str), .str v1] (res_slices_Contains_Sstring_string r) := by
 unfold F_slices_Contains_Sstring_string at hF
 refine con_of c65_is fun N => ?_
 refine ws 0 64 ?_
 refine qp (AB false) rfl ?_
 refine r_nil ?_
 refine ws 64 384 ?_
 refine qp (AL 1 (v0.map V.str)) rfl (qp (AS v1) rfl ?_)
 obtain ⟨v1000, e1000, hF⟩ := bind_get hF
 refine qc (AI v1000) [] false (con_slices_Index_Sstring_string e1000) c132_ok (by first | rfl | simp) rfl ?_
 refine qp (AB (decide ((0 : Int) ≤ v1000))) rfl (qp (AB (decide ((0 : Int) ≤ v1000))) rfl ?_)
 refine r_nil ?_
 refine w_ret ?_
 cases hF
 exact eR

end Go.Ab
