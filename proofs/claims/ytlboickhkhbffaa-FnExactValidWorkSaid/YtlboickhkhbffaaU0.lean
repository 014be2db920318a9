/- Walks (printed by auto.py, a program of this session's own). -/
import Derived.Test.YtlboickhkhbffaaB5
import Derived.Test.YtlboickhkhbffaaProg
import Derived.KernelRfl
import Derived.Test.YtlboickhkhbffaaSQ
set_option linter.unusedVariables false
set_option linter.unusedSimpArgs false
set_option maxRecDepth 8000
set_option maxHeartbeats 8000000
namespace Go.Ab
open Go.RowKit Go.Proofs

abbrev TRaga := (List UInt8) × (List Int) × (List Int) × Int × Int × (List (List Int))
@[simp] def eRaga (p : TRaga) : V := .agg [.str p.1, .sl 1 (p.2.1.map vI), .sl 1 (p.2.2.1.map vI), .int .i64 p.2.2.2.1, .int .i64 p.2.2.2.2.1, .sl 1 (p.2.2.2.2.2.map (eL 1 vI))]
abbrev TNote := Int × Int
@[simp] def eNote (p : TNote) : V := .agg [.int .i64 p.1, .int .i64 p.2]
abbrev TTala := (List UInt8) × (List Int) × (List Int)
@[simp] def eTala (p : TTala) : V := .agg [.str p.1, .sl 1 (p.2.1.map vI), .sl 1 (p.2.2.map vI)]
abbrev TTurn := (List UInt8) × Int × Int
@[simp] def eTurn (p : TTurn) : V := .agg [.str p.1, .int .i64 p.2.1, .int .i64 p.2.2]
abbrev TWork := (List UInt8) × (List Int) × (List Int) × Int × Int × (List (List Int)) × Int × Int × (List TNote) × (List UInt8) × (List Int) × (List Int) × Int × (List UInt8) × Int × Int × Int × (List TTurn)
@[simp] def eWork (p : TWork) : V := .agg [.str p.1, .sl 1 (p.2.1.map vI), .sl 1 (p.2.2.1.map vI), .int .i64 p.2.2.2.1, .int .i64 p.2.2.2.2.1, .sl 1 (p.2.2.2.2.2.1.map (eL 1 vI)), .int .i64 p.2.2.2.2.2.2.1, .int .i64 p.2.2.2.2.2.2.2.1, .sl 2 (p.2.2.2.2.2.2.2.2.1.map eNote), .str p.2.2.2.2.2.2.2.2.2.1, .sl 1 (p.2.2.2.2.2.2.2.2.2.2.1.map vI), .sl 1 (p.2.2.2.2.2.2.2.2.2.2.2.1.map vI), .int .i64 p.2.2.2.2.2.2.2.2.2.2.2.2.1, .str p.2.2.2.2.2.2.2.2.2.2.2.2.2.1, .int .i64 p.2.2.2.2.2.2.2.2.2.2.2.2.2.2.1, .int .i64 p.2.2.2.2.2.2.2.2.2.2.2.2.2.2.2.1, .int .i64 p.2.2.2.2.2.2.2.2.2.2.2.2.2.2.2.2.1, .sl 3 (p.2.2.2.2.2.2.2.2.2.2.2.2.2.2.2.2.2.map eTurn)]
abbrev TArc := Int × Int × Int
abbrev TGrammar := Int × Int × (List Int) × (List TArc)
@[simp] def eArc (p : TArc) : V := .agg [.int .i64 p.1, .int .i64 p.2.1, .int .i64 p.2.2]
def c139 : MC := (.seq (.reg [rg 4 (.p true (.mv (.c (.int .i64 0))))]) (.seq (.reg [mvt 5 1, mvt 6 0, rg 7 (.p true (.len (.t 6))), rg 8 (.p true (.bin .sub (.t 5) (.t 7))), mvt 1 8]) (.seq (.seq (.reg [mvt 9 1, rg 10 (.p true (.bin .lss (.t 9) (.c (.int .i64 0))))]) (.cond (.t 10) (.seq (.reg [rg 4 (.p true (.mv (.c (.int .i64 (-1)))))]) .ret) .skip)) (.seq (.reg [mvt 11 1, mvt 4 11]) .ret))))
theorem c139_is : compFn Try.prog 139 = some (c139, [(.tmp 4)]) := by kernel_rfl
theorem c139_ok : okFn Try.prog 139 = true := by kernel_rfl

noncomputable def F_laws_szInt64S (v0 : List Int) (v1 : Int) : Option (Int) :=
 (bif (decide (w64 (v1 - (v0.length : Int)) < (0 : Int))) then some (-1)
 else some (w64 (v1 - (v0.length : Int))))
@[simp] def res_laws_szInt64S (r : Int) : RV := .one (.one (.val (.int .i64 r)))
theorem con_laws_szInt64S {v0 : List Int} {v1 : Int} {r : Int} (hF : F_laws_szInt64S v0 v1 = some r) : Con Try.prog 139 [.sl 1 (v0.map vI), .int .i64 v1] (res_laws_szInt64S r) := by
 unfold F_laws_szInt64S at hF
 refine con_of c139_is fun N => ?_
 refine ws 0 64 ?_
 refine qp (AI 0) rfl ?_
 refine r_nil ?_
 refine ws 64 384 ?_
 refine qp (AI v1) rfl (qp (AL 1 (v0.map vI)) rfl (qp (AI (v0.length : Int)) (ev_len_n rfl) (qp (AI (w64 (v1 - (v0.length : Int)))) rfl (qp (AI (w64 (v1 - (v0.length : Int)))) rfl ?_))))
 refine r_nil ?_
 refine w_seq ?_
 refine ws 384 512 ?_
 refine qp (AI (w64 (v1 - (v0.length : Int)))) rfl (qp (AB (decide (w64 (v1 - (v0.length : Int)) < (0 : Int)))) rfl ?_)
 refine r_nil ?_
 refine cF hF (fun hF => ?_) fun hF => ?_
 ·
  refine ws 512 576 ?_
  refine qp (AI (-1)) rfl ?_
  refine r_nil ?_
  refine w_ret ?_
  refine thenQ_r ?_
  cases hF
  exact eR
 ·
  refine w_skip ?_
  refine thenQ_n ?_
  refine ws 512 640 ?_
  refine qp (AI (w64 (v1 - (v0.length : Int)))) rfl (qp (AI (w64 (v1 - (v0.length : Int)))) rfl ?_)
  refine r_nil ?_
  refine w_ret ?_
  cases hF
  exact eR

def c58 : MC := (.seq (.reg [rg 4 (.p true (.mv (.c (.int .i64 0))))]) (.seq (.reg [mvt 6 1, mvt 7 0, rg 8 (.p true (.len (.t 7))), rg 9 (.p true (.bin .sub (.t 6) (.t 8))), mvt 1 9]) (.seq (.seq (.reg [mvt 10 1, rg 11 (.p true (.bin .lss (.t 10) (.c (.int .i64 0))))]) (.cond (.t 11) (.seq (.reg [rg 4 (.p true (.mv (.c (.int .i64 (-1)))))]) .ret) .skip)) (.seq (.seq (.reg [rg 5 (.p true (.mv (.c (.int .i64 0))))]) (.block 0 (.loop (.seq (.seq (.reg [mvt 12 5, mvt 13 0, rg 14 (.p true (.len (.t 13))), rg 15 (.p true (.bin .lss (.t 12) (.t 14)))]) (.cond (.t 15) .skip (.exit 0))) (.seq (.block 1 (.seq (.reg [mvt 18 0, mvt 19 5, rg 20 (.p true (.iad (.t 18) (.t 19) 1)), rg 21 (.p true (.ld (.t 20) 1 false)), mvt 22 1, rg 23 (.call true 139 [(.t 21), (.t 22)]), mvt 1 23]) (.seq (.reg [mvt 24 1, rg 25 (.p true (.bin .lss (.t 24) (.c (.int .i64 0))))]) (.cond (.t 25) (.seq (.reg [rg 4 (.p true (.mv (.c (.int .i64 (-1)))))]) .ret) .skip)))) (.reg [mvt 16 5, rg 17 (.p true (.bin .add (.t 16) (.c (.int .i64 1)))), mvt 5 17])))))) (.seq (.reg [mvt 26 1, mvt 4 26]) .ret)))))
theorem c58_is : compFn Try.prog 58 = some (c58, [(.tmp 4)]) := by kernel_rfl
theorem c58_ok : okFn Try.prog 58 = true := by kernel_rfl

noncomputable def F_laws_szInt64SS_l0 (v0 : List (List Int)) (k0 : Int × Int → Option (Int)) : Int × Int → Option (Int)
 | (v8, v9) => (bif (decide (v9 < (v0.length : Int))) then ((ix v0 v9).bind fun v1000 => ((F_laws_szInt64S v1000 v8).bind fun v1001 => (bif (decide (v1001 < (0 : Int))) then some (-1)
 else k0 (v1001, w64 (v9 + 1)))))
 else some v8)
noncomputable def F_laws_szInt64SS (v0 : List (List Int)) (v1 : Int) : Option (Int) :=
 (bif (decide (w64 (v1 - (v0.length : Int)) < (0 : Int))) then some (-1)
 else loop (F_laws_szInt64SS_l0 v0) (w64 (v1 - (v0.length : Int)), 0))
@[simp] def res_laws_szInt64SS (r : Int) : RV := .one (.one (.val (.int .i64 r)))
theorem con_laws_szInt64SS {v0 : List (List Int)} {v1 : Int} {r : Int} (hF : F_laws_szInt64SS v0 v1 = some r) : Con Try.prog 58 [.sl 1 (v0.map (eL 1 vI)), .int .i64 v1] (res_laws_szInt64SS r) := by
 unfold F_laws_szInt64SS at hF
 refine con_of c58_is fun N => ?_
 refine ws 0 64 ?_
 refine qp (AI 0) rfl ?_
 refine r_nil ?_
 refine ws 64 384 ?_
 refine qp (AI v1) rfl (qp (AL 1 (v0.map (eL 1 vI))) rfl (qp (AI (v0.length : Int)) (ev_len_n rfl) (qp (AI (w64 (v1 - (v0.length : Int)))) rfl (qp (AI (w64 (v1 - (v0.length : Int)))) rfl ?_))))
 refine r_nil ?_
 refine w_seq ?_
 refine ws 384 512 ?_
 refine qp (AI (w64 (v1 - (v0.length : Int)))) rfl (qp (AB (decide (w64 (v1 - (v0.length : Int)) < (0 : Int)))) rfl ?_)
 refine r_nil ?_
 refine cF hF (fun hF => ?_) fun hF => ?_
 ·
  refine ws 512 576 ?_
  refine qp (AI (-1)) rfl ?_
  refine r_nil ?_
  refine w_ret ?_
  refine thenQ_r ?_
  cases hF
  exact eR
 ·
  refine w_skip ?_
  refine thenQ_n ?_
  refine w_seq ?_
  refine ws 512 576 ?_
  refine qp (AI 0) rfl ?_
  refine r_nil ?_
  refine w_block ?_
  refine wr (l' := [(0, AL 1 (v0.map (eL 1 vI))), (1, AI (w64 (v1 - (v0.length : Int)))), (5, AI 0)]) (L := []) [0, 1, 5] [] 1 ?_
  refine w_loopF (F_laws_szInt64SS_l0 v0) (fun s : Int × Int => mkS [(0, AL 1 (v0.map (eL 1 vI))), (1, AI s.1), (5, AI s.2)] (fo []) 1) hF ?_
  rintro k0 ⟨v8, v9⟩ hF
  rw [F_laws_szInt64SS_l0] at hF
  try dsimp only
  refine w_seq ?_
  refine ws 1 257 ?_
  refine qp (AI v9) rfl (qp (AL 1 (v0.map (eL 1 vI))) rfl (qp (AI (v0.length : Int)) (ev_len_n rfl) (qp (AB (decide (v9 < (v0.length : Int)))) rfl ?_)))
  refine r_nil ?_
  refine cF hF (fun hF => ?_) fun hF => ?_
  ·
   refine w_skip ?_
   refine thenQ_n ?_
   refine w_seq ?_
   refine w_block ?_
   refine ws 257 705 ?_
   refine qp (AL 1 (v0.map (eL 1 vI))) rfl (qp (AI v9) rfl ?_)
   obtain ⟨v1000, e1000, hF⟩ := bind_get hF
   refine qp (.val none (.ptr [.sl 1 (v1000.map vI)])) (ev_iad_n rfl rfl e1000 rfl) (qp (AL 1 (v1000.map vI)) rfl (qp (AI v8) rfl ?_))
   obtain ⟨v1001, e1001, hF⟩ := bind_get hF
   refine qc (AI v1001) [] false (con_laws_szInt64S e1001) c139_ok (by first | rfl | simp) rfl ?_
   refine qp (AI v1001) rfl ?_
   refine r_nil ?_
   refine ws 705 833 ?_
   refine qp (AI v1001) rfl (qp (AB (decide (v1001 < (0 : Int)))) rfl ?_)
   refine r_nil ?_
   refine cF hF (fun hF => ?_) fun hF => ?_
   ·
    refine ws 833 897 ?_
    refine qp (AI (-1)) rfl ?_
    refine r_nil ?_
    refine w_ret ?_
    refine blockQ_r ?_
    refine thenQ_r ?_
    refine thenQ_r ?_
    refine blockQ_r ?_
    refine thenQ_r ?_
    cases hF
    exact eR
   ·
    refine w_skip ?_
    refine blockQ_n ?_
    refine thenQ_n ?_
    refine w_reg 833 1025 rfl rfl ?_
    refine qp (AI v9) rfl (qp (AI (w64 (v9 + 1))) rfl (qp (AI (w64 (v9 + 1))) rfl ?_))
    refine r_nil ?_
    refine thenQ_n ?_
    refine ar (l' := [(0, AL 1 (v0.map (eL 1 vI))), (1, AI v1001), (5, AI (w64 (v9 + 1)))]) (L := []) [0, 1, 5] [] 1 ⟨_, by rfl, hF⟩
  ·
   refine w_exit ?_
   refine thenQ_e ?_
   refine thenQ_e ?_
   refine blockQ_e ?_
   refine thenQ_n ?_
   refine ws 257 385 ?_
   refine qp (AI v8) rfl (qp (AI v8) rfl ?_)
   refine r_nil ?_
   refine w_ret ?_
   cases hF
   exact eR

def c40 : MC := (.seq (.reg [rg 2 (.f (.box (.t 0))), rg 4 (.p true (.mv (.c (.int .i64 0))))]) (.seq (.reg [mvt 5 1, rg 6 (.p true (.fad (.t 2) 0)), rg 7 (.p true (.ld (.t 6) 1 false)), rg 8 (.p true (.lens (.t 7))), rg 9 (.p true (.bin .sub (.t 5) (.t 8))), mvt 1 9]) (.seq (.seq (.reg [mvt 10 1, rg 11 (.p true (.bin .lss (.t 10) (.c (.int .i64 0))))]) (.cond (.t 11) (.seq (.reg [rg 4 (.p true (.mv (.c (.int .i64 (-1)))))]) .ret) .skip)) (.seq (.reg [rg 12 (.p true (.fad (.t 2) 1)), rg 13 (.p true (.ld (.t 12) 1 false)), mvt 14 1, rg 15 (.call true 139 [(.t 13), (.t 14)]), mvt 1 15]) (.seq (.seq (.reg [mvt 16 1, rg 17 (.p true (.bin .lss (.t 16) (.c (.int .i64 0))))]) (.cond (.t 17) (.seq (.reg [rg 4 (.p true (.mv (.c (.int .i64 (-1)))))]) .ret) .skip)) (.seq (.reg [rg 18 (.p true (.fad (.t 2) 2)), rg 19 (.p true (.ld (.t 18) 1 false)), mvt 20 1, rg 21 (.call true 139 [(.t 19), (.t 20)]), mvt 1 21]) (.seq (.seq (.reg [mvt 22 1, rg 23 (.p true (.bin .lss (.t 22) (.c (.int .i64 0))))]) (.cond (.t 23) (.seq (.reg [rg 4 (.p true (.mv (.c (.int .i64 (-1)))))]) .ret) .skip)) (.seq (.reg [rg 24 (.p true (.fad (.t 2) 5)), rg 25 (.p true (.ld (.t 24) 1 false)), mvt 26 1, rg 27 (.call true 58 [(.t 25), (.t 26)]), mvt 1 27]) (.seq (.seq (.reg [mvt 28 1, rg 29 (.p true (.bin .lss (.t 28) (.c (.int .i64 0))))]) (.cond (.t 29) (.seq (.reg [rg 4 (.p true (.mv (.c (.int .i64 (-1)))))]) .ret) .skip)) (.seq (.reg [mvt 30 1, mvt 4 30]) .ret))))))))))
theorem c40_is : compFn Try.prog 40 = some (c40, [(.tmp 4)]) := by kernel_rfl
theorem c40_ok : okFn Try.prog 40 = true := by kernel_rfl

noncomputable def F_laws_szRaga (v0 : TRaga) (v1 : Int) : Option (Int) :=
 (bif (decide (w64 (v1 - (v0.1.length : Int)) < (0 : Int))) then some (-1)
 else ((F_laws_szInt64S v0.2.1 (w64 (v1 - (v0.1.length : Int)))).bind fun v1000 => (bif (decide (v1000 < (0 : Int))) then some (-1)
 else ((F_laws_szInt64S v0.2.2.1 v1000).bind fun v1001 => (bif (decide (v1001 < (0 : Int))) then some (-1)
 else ((F_laws_szInt64SS v0.2.2.2.2.2 v1001).bind fun v1002 => (bif (decide (v1002 < (0 : Int))) then some (-1)
 else some v1002)))))))
@[simp] def res_laws_szRaga (r : Int) : RV := .one (.one (.val (.int .i64 r)))
theorem con_laws_szRaga {v0 : TRaga} {v1 : Int} {r : Int} (hF : F_laws_szRaga v0 v1 = some r) : Con Try.prog 40 [eRaga v0, .int .i64 v1] (res_laws_szRaga r) := by
 unfold F_laws_szRaga at hF
 refine con_of c40_is fun N => ?_
 refine ws 0 128 ?_
 refine qf (.ptr 0 0 0) [(0, .box [AS v0.1, AL 1 (v0.2.1.map vI), AL 1 (v0.2.2.1.map vI), AI v0.2.2.2.1, AI v0.2.2.2.2.1, AL 1 (v0.2.2.2.2.2.map (eL 1 vI))])] (by simp) ?_
 refine qp (AI 0) rfl ?_
 refine r_nil ?_
 refine ws 128 512 ?_
 refine qp (AI v1) rfl (qp (.ptr 0 0 0) rfl (qp (AS v0.1) rfl (qp (AI (v0.1.length : Int)) rfl (qp (AI (w64 (v1 - (v0.1.length : Int)))) rfl (qp (AI (w64 (v1 - (v0.1.length : Int)))) rfl ?_)))))
 refine r_nil ?_
 refine w_seq ?_
 refine ws 512 640 ?_
 refine qp (AI (w64 (v1 - (v0.1.length : Int)))) rfl (qp (AB (decide (w64 (v1 - (v0.1.length : Int)) < (0 : Int)))) rfl ?_)
 refine r_nil ?_
 refine cF hF (fun hF => ?_) fun hF => ?_
 ·
  refine ws 640 704 ?_
  refine qp (AI (-1)) rfl ?_
  refine r_nil ?_
  refine w_ret ?_
  refine thenQ_r ?_
  cases hF
  exact eR
 ·
  refine w_skip ?_
  refine thenQ_n ?_
  refine ws 640 960 ?_
  refine qp (.ptr 0 0 1) rfl (qp (AL 1 (v0.2.1.map vI)) rfl (qp (AI (w64 (v1 - (v0.1.length : Int)))) rfl ?_))
  obtain ⟨v1000, e1000, hF⟩ := bind_get hF
  refine qc (AI v1000) [(0, .box [AS v0.1, AL 1 (v0.2.1.map vI), AL 1 (v0.2.2.1.map vI), AI v0.2.2.2.1, AI v0.2.2.2.2.1, AL 1 (v0.2.2.2.2.2.map (eL 1 vI))])] false (con_laws_szInt64S e1000) c139_ok (by first | rfl | simp) rfl ?_
  refine qp (AI v1000) rfl ?_
  refine r_nil ?_
  refine w_seq ?_
  refine ws 960 1088 ?_
  refine qp (AI v1000) rfl (qp (AB (decide (v1000 < (0 : Int)))) rfl ?_)
  refine r_nil ?_
  refine cF hF (fun hF => ?_) fun hF => ?_
  ·
   refine ws 1088 1152 ?_
   refine qp (AI (-1)) rfl ?_
   refine r_nil ?_
   refine w_ret ?_
   refine thenQ_r ?_
   cases hF
   exact eR
  ·
   refine w_skip ?_
   refine thenQ_n ?_
   refine ws 1088 1408 ?_
   refine qp (.ptr 0 0 2) rfl (qp (AL 1 (v0.2.2.1.map vI)) rfl (qp (AI v1000) rfl ?_))
   obtain ⟨v1001, e1001, hF⟩ := bind_get hF
   refine qc (AI v1001) [(0, .box [AS v0.1, AL 1 (v0.2.1.map vI), AL 1 (v0.2.2.1.map vI), AI v0.2.2.2.1, AI v0.2.2.2.2.1, AL 1 (v0.2.2.2.2.2.map (eL 1 vI))])] false (con_laws_szInt64S e1001) c139_ok (by first | rfl | simp) rfl ?_
   refine qp (AI v1001) rfl ?_
   refine r_nil ?_
   refine w_seq ?_
   refine ws 1408 1536 ?_
   refine qp (AI v1001) rfl (qp (AB (decide (v1001 < (0 : Int)))) rfl ?_)
   refine r_nil ?_
   refine cF hF (fun hF => ?_) fun hF => ?_
   ·
    refine ws 1536 1600 ?_
    refine qp (AI (-1)) rfl ?_
    refine r_nil ?_
    refine w_ret ?_
    refine thenQ_r ?_
    cases hF
    exact eR
   ·
    refine w_skip ?_
    refine thenQ_n ?_
    refine ws 1536 1856 ?_
    refine qp (.ptr 0 0 5) rfl (qp (AL 1 (v0.2.2.2.2.2.map (eL 1 vI))) rfl (qp (AI v1001) rfl ?_))
    obtain ⟨v1002, e1002, hF⟩ := bind_get hF
    refine qc (AI v1002) [(0, .box [AS v0.1, AL 1 (v0.2.1.map vI), AL 1 (v0.2.2.1.map vI), AI v0.2.2.2.1, AI v0.2.2.2.2.1, AL 1 (v0.2.2.2.2.2.map (eL 1 vI))])] false (con_laws_szInt64SS e1002) c58_ok (by first | rfl | simp) rfl ?_
    refine qp (AI v1002) rfl ?_
    refine r_nil ?_
    refine w_seq ?_
    refine ws 1856 1984 ?_
    refine qp (AI v1002) rfl (qp (AB (decide (v1002 < (0 : Int)))) rfl ?_)
    refine r_nil ?_
    refine cF hF (fun hF => ?_) fun hF => ?_
    ·
     refine ws 1984 2048 ?_
     refine qp (AI (-1)) rfl ?_
     refine r_nil ?_
     refine w_ret ?_
     refine thenQ_r ?_
     cases hF
     exact eR
    ·
     refine w_skip ?_
     refine thenQ_n ?_
     refine ws 1984 2112 ?_
     refine qp (AI v1002) rfl (qp (AI v1002) rfl ?_)
     refine r_nil ?_
     refine w_ret ?_
     cases hF
     exact eR

def c41 : MC := (.seq (.reg [rg 4 (.p true (.mv (.c (.int .i64 0))))]) (.seq (.reg [mvt 5 1, mvt 6 0, rg 7 (.p true (.len (.t 6))), rg 8 (.p true (.bin .sub (.t 5) (.t 7))), mvt 1 8]) (.seq (.seq (.reg [mvt 9 1, rg 10 (.p true (.bin .lss (.t 9) (.c (.int .i64 0))))]) (.cond (.t 10) (.seq (.reg [rg 4 (.p true (.mv (.c (.int .i64 (-1)))))]) .ret) .skip)) (.seq (.reg [mvt 11 1, mvt 4 11]) .ret))))
theorem c41_is : compFn Try.prog 41 = some (c41, [(.tmp 4)]) := by kernel_rfl
theorem c41_ok : okFn Try.prog 41 = true := by kernel_rfl

noncomputable def F_laws_szNoteS (v0 : List TNote) (v1 : Int) : Option (Int) :=
 (bif (decide (w64 (v1 - (v0.length : Int)) < (0 : Int))) then some (-1)
 else some (w64 (v1 - (v0.length : Int))))
@[simp] def res_laws_szNoteS (r : Int) : RV := .one (.one (.val (.int .i64 r)))
theorem con_laws_szNoteS {v0 : List TNote} {v1 : Int} {r : Int} (hF : F_laws_szNoteS v0 v1 = some r) : Con Try.prog 41 [.sl 2 (v0.map eNote), .int .i64 v1] (res_laws_szNoteS r) := by
 unfold F_laws_szNoteS at hF
 refine con_of c41_is fun N => ?_
 refine ws 0 64 ?_
 refine qp (AI 0) rfl ?_
 refine r_nil ?_
 refine ws 64 384 ?_
 refine qp (AI v1) rfl (qp (AL 2 (v0.map eNote)) rfl (qp (AI (v0.length : Int)) (ev_len_n rfl) (qp (AI (w64 (v1 - (v0.length : Int)))) rfl (qp (AI (w64 (v1 - (v0.length : Int)))) rfl ?_))))
 refine r_nil ?_
 refine w_seq ?_
 refine ws 384 512 ?_
 refine qp (AI (w64 (v1 - (v0.length : Int)))) rfl (qp (AB (decide (w64 (v1 - (v0.length : Int)) < (0 : Int)))) rfl ?_)
 refine r_nil ?_
 refine cF hF (fun hF => ?_) fun hF => ?_
 ·
  refine ws 512 576 ?_
  refine qp (AI (-1)) rfl ?_
  refine r_nil ?_
  refine w_ret ?_
  refine thenQ_r ?_
  cases hF
  exact eR
 ·
  refine w_skip ?_
  refine thenQ_n ?_
  refine ws 512 640 ?_
  refine qp (AI (w64 (v1 - (v0.length : Int)))) rfl (qp (AI (w64 (v1 - (v0.length : Int)))) rfl ?_)
  refine r_nil ?_
  refine w_ret ?_
  cases hF
  exact eR

def c42 : MC := (.seq (.reg [rg 2 (.f (.box (.t 0))), rg 4 (.p true (.mv (.c (.int .i64 0))))]) (.seq (.reg [mvt 5 1, rg 6 (.p true (.fad (.t 2) 0)), rg 7 (.p true (.ld (.t 6) 1 false)), rg 8 (.p true (.lens (.t 7))), rg 9 (.p true (.bin .sub (.t 5) (.t 8))), mvt 1 9]) (.seq (.seq (.reg [mvt 10 1, rg 11 (.p true (.bin .lss (.t 10) (.c (.int .i64 0))))]) (.cond (.t 11) (.seq (.reg [rg 4 (.p true (.mv (.c (.int .i64 (-1)))))]) .ret) .skip)) (.seq (.reg [rg 12 (.p true (.fad (.t 2) 1)), rg 13 (.p true (.ld (.t 12) 1 false)), mvt 14 1, rg 15 (.call true 139 [(.t 13), (.t 14)]), mvt 1 15]) (.seq (.seq (.reg [mvt 16 1, rg 17 (.p true (.bin .lss (.t 16) (.c (.int .i64 0))))]) (.cond (.t 17) (.seq (.reg [rg 4 (.p true (.mv (.c (.int .i64 (-1)))))]) .ret) .skip)) (.seq (.reg [rg 18 (.p true (.fad (.t 2) 2)), rg 19 (.p true (.ld (.t 18) 1 false)), mvt 20 1, rg 21 (.call true 139 [(.t 19), (.t 20)]), mvt 1 21]) (.seq (.seq (.reg [mvt 22 1, rg 23 (.p true (.bin .lss (.t 22) (.c (.int .i64 0))))]) (.cond (.t 23) (.seq (.reg [rg 4 (.p true (.mv (.c (.int .i64 (-1)))))]) .ret) .skip)) (.seq (.reg [mvt 24 1, mvt 4 24]) .ret))))))))
theorem c42_is : compFn Try.prog 42 = some (c42, [(.tmp 4)]) := by kernel_rfl
theorem c42_ok : okFn Try.prog 42 = true := by kernel_rfl

noncomputable def F_laws_szTala (v0 : TTala) (v1 : Int) : Option (Int) :=
 (bif (decide (w64 (v1 - (v0.1.length : Int)) < (0 : Int))) then some (-1)
 else ((F_laws_szInt64S v0.2.1 (w64 (v1 - (v0.1.length : Int)))).bind fun v1000 => (bif (decide (v1000 < (0 : Int))) then some (-1)
 else ((F_laws_szInt64S v0.2.2 v1000).bind fun v1001 => (bif (decide (v1001 < (0 : Int))) then some (-1)
 else some v1001)))))
@[simp] def res_laws_szTala (r : Int) : RV := .one (.one (.val (.int .i64 r)))
theorem con_laws_szTala {v0 : TTala} {v1 : Int} {r : Int} (hF : F_laws_szTala v0 v1 = some r) : Con Try.prog 42 [eTala v0, .int .i64 v1] (res_laws_szTala r) := by
 unfold F_laws_szTala at hF
 refine con_of c42_is fun N => ?_
 refine ws 0 128 ?_
 refine qf (.ptr 0 0 0) [(0, .box [AS v0.1, AL 1 (v0.2.1.map vI), AL 1 (v0.2.2.map vI)])] (by simp) ?_
 refine qp (AI 0) rfl ?_
 refine r_nil ?_
 refine ws 128 512 ?_
 refine qp (AI v1) rfl (qp (.ptr 0 0 0) rfl (qp (AS v0.1) rfl (qp (AI (v0.1.length : Int)) rfl (qp (AI (w64 (v1 - (v0.1.length : Int)))) rfl (qp (AI (w64 (v1 - (v0.1.length : Int)))) rfl ?_)))))
 refine r_nil ?_
 refine w_seq ?_
 refine ws 512 640 ?_
 refine qp (AI (w64 (v1 - (v0.1.length : Int)))) rfl (qp (AB (decide (w64 (v1 - (v0.1.length : Int)) < (0 : Int)))) rfl ?_)
 refine r_nil ?_
 refine cF hF (fun hF => ?_) fun hF => ?_
 ·
  refine ws 640 704 ?_
  refine qp (AI (-1)) rfl ?_
  refine r_nil ?_
  refine w_ret ?_
  refine thenQ_r ?_
  cases hF
  exact eR
 ·
  refine w_skip ?_
  refine thenQ_n ?_
  refine ws 640 960 ?_
  refine qp (.ptr 0 0 1) rfl (qp (AL 1 (v0.2.1.map vI)) rfl (qp (AI (w64 (v1 - (v0.1.length : Int)))) rfl ?_))
  obtain ⟨v1000, e1000, hF⟩ := bind_get hF
  refine qc (AI v1000) [(0, .box [AS v0.1, AL 1 (v0.2.1.map vI), AL 1 (v0.2.2.map vI)])] false (con_laws_szInt64S e1000) c139_ok (by first | rfl | simp) rfl ?_
  refine qp (AI v1000) rfl ?_
  refine r_nil ?_
  refine w_seq ?_
  refine ws 960 1088 ?_
  refine qp (AI v1000) rfl (qp (AB (decide (v1000 < (0 : Int)))) rfl ?_)
  refine r_nil ?_
  refine cF hF (fun hF => ?_) fun hF => ?_
  ·
   refine ws 1088 1152 ?_
   refine qp (AI (-1)) rfl ?_
   refine r_nil ?_
   refine w_ret ?_
   refine thenQ_r ?_
   cases hF
   exact eR
  ·
   refine w_skip ?_
   refine thenQ_n ?_
   refine ws 1088 1408 ?_
   refine qp (.ptr 0 0 2) rfl (qp (AL 1 (v0.2.2.map vI)) rfl (qp (AI v1000) rfl ?_))
   obtain ⟨v1001, e1001, hF⟩ := bind_get hF
   refine qc (AI v1001) [(0, .box [AS v0.1, AL 1 (v0.2.1.map vI), AL 1 (v0.2.2.map vI)])] false (con_laws_szInt64S e1001) c139_ok (by first | rfl | simp) rfl ?_
   refine qp (AI v1001) rfl ?_
   refine r_nil ?_
   refine w_seq ?_
   refine ws 1408 1536 ?_
   refine qp (AI v1001) rfl (qp (AB (decide (v1001 < (0 : Int)))) rfl ?_)
   refine r_nil ?_
   refine cF hF (fun hF => ?_) fun hF => ?_
   ·
    refine ws 1536 1600 ?_
    refine qp (AI (-1)) rfl ?_
    refine r_nil ?_
    refine w_ret ?_
    refine thenQ_r ?_
    cases hF
    exact eR
   ·
    refine w_skip ?_
    refine thenQ_n ?_
    refine ws 1536 1664 ?_
    refine qp (AI v1001) rfl (qp (AI v1001) rfl ?_)
    refine r_nil ?_
    refine w_ret ?_
    cases hF
    exact eR

def c140 : MC := (.seq (.reg [rg 2 (.f (.box (.t 0))), rg 4 (.p true (.mv (.c (.int .i64 0))))]) (.seq (.reg [mvt 5 1, rg 6 (.p true (.fad (.t 2) 0)), rg 7 (.p true (.ld (.t 6) 1 false)), rg 8 (.p true (.lens (.t 7))), rg 9 (.p true (.bin .sub (.t 5) (.t 8))), mvt 1 9]) (.seq (.seq (.reg [mvt 10 1, rg 11 (.p true (.bin .lss (.t 10) (.c (.int .i64 0))))]) (.cond (.t 11) (.seq (.reg [rg 4 (.p true (.mv (.c (.int .i64 (-1)))))]) .ret) .skip)) (.seq (.reg [mvt 12 1, mvt 4 12]) .ret))))
theorem c140_is : compFn Try.prog 140 = some (c140, [(.tmp 4)]) := by kernel_rfl
theorem c140_ok : okFn Try.prog 140 = true := by kernel_rfl

noncomputable def F_laws_szTurn (v0 : TTurn) (v1 : Int) : Option (Int) :=
 (bif (decide (w64 (v1 - (v0.1.length : Int)) < (0 : Int))) then some (-1)
 else some (w64 (v1 - (v0.1.length : Int))))
@[simp] def res_laws_szTurn (r : Int) : RV := .one (.one (.val (.int .i64 r)))
theorem con_laws_szTurn {v0 : TTurn} {v1 : Int} {r : Int} (hF : F_laws_szTurn v0 v1 = some r) : Con Try.prog 140 [eTurn v0, .int .i64 v1] (res_laws_szTurn r) := by
 unfold F_laws_szTurn at hF
 refine con_of c140_is fun N => ?_
 refine ws 0 128 ?_
 refine qf (.ptr 0 0 0) [(0, .box [AS v0.1, AI v0.2.1, AI v0.2.2])] (by simp) ?_
 refine qp (AI 0) rfl ?_
 refine r_nil ?_
 refine ws 128 512 ?_
 refine qp (AI v1) rfl (qp (.ptr 0 0 0) rfl (qp (AS v0.1) rfl (qp (AI (v0.1.length : Int)) rfl (qp (AI (w64 (v1 - (v0.1.length : Int)))) rfl (qp (AI (w64 (v1 - (v0.1.length : Int)))) rfl ?_)))))
 refine r_nil ?_
 refine w_seq ?_
 refine ws 512 640 ?_
 refine qp (AI (w64 (v1 - (v0.1.length : Int)))) rfl (qp (AB (decide (w64 (v1 - (v0.1.length : Int)) < (0 : Int)))) rfl ?_)
 refine r_nil ?_
 refine cF hF (fun hF => ?_) fun hF => ?_
 ·
  refine ws 640 704 ?_
  refine qp (AI (-1)) rfl ?_
  refine r_nil ?_
  refine w_ret ?_
  refine thenQ_r ?_
  cases hF
  exact eR
 ·
  refine w_skip ?_
  refine thenQ_n ?_
  refine ws 640 768 ?_
  refine qp (AI (w64 (v1 - (v0.1.length : Int)))) rfl (qp (AI (w64 (v1 - (v0.1.length : Int)))) rfl ?_)
  refine r_nil ?_
  refine w_ret ?_
  cases hF
  exact eR

def c43 : MC := (.seq (.reg [rg 4 (.p true (.mv (.c (.int .i64 0))))]) (.seq (.reg [mvt 6 1, mvt 7 0, rg 8 (.p true (.len (.t 7))), rg 9 (.p true (.bin .sub (.t 6) (.t 8))), mvt 1 9]) (.seq (.seq (.reg [mvt 10 1, rg 11 (.p true (.bin .lss (.t 10) (.c (.int .i64 0))))]) (.cond (.t 11) (.seq (.reg [rg 4 (.p true (.mv (.c (.int .i64 (-1)))))]) .ret) .skip)) (.seq (.seq (.reg [rg 5 (.p true (.mv (.c (.int .i64 0))))]) (.block 0 (.loop (.seq (.seq (.reg [mvt 12 5, mvt 13 0, rg 14 (.p true (.len (.t 13))), rg 15 (.p true (.bin .lss (.t 12) (.t 14)))]) (.cond (.t 15) .skip (.exit 0))) (.seq (.block 1 (.seq (.reg [mvt 18 0, mvt 19 5, rg 20 (.p true (.iad (.t 18) (.t 19) 3)), rg 21 (.p true (.ld (.t 20) 3 true)), mvt 22 1, rg 23 (.call true 140 [(.t 21), (.t 22)]), mvt 1 23]) (.seq (.reg [mvt 24 1, rg 25 (.p true (.bin .lss (.t 24) (.c (.int .i64 0))))]) (.cond (.t 25) (.seq (.reg [rg 4 (.p true (.mv (.c (.int .i64 (-1)))))]) .ret) .skip)))) (.reg [mvt 16 5, rg 17 (.p true (.bin .add (.t 16) (.c (.int .i64 1)))), mvt 5 17])))))) (.seq (.reg [mvt 26 1, mvt 4 26]) .ret)))))
theorem c43_is : compFn Try.prog 43 = some (c43, [(.tmp 4)]) := by kernel_rfl
theorem c43_ok : okFn Try.prog 43 = true := by kernel_rfl

noncomputable def F_laws_szTurnS_l0 (v0 : List TTurn) (k0 : Int × Int → Option (Int)) : Int × Int → Option (Int)
 | (v8, v9) => (bif (decide (v9 < (v0.length : Int))) then ((ix v0 v9).bind fun v1000 => ((F_laws_szTurn v1000 v8).bind fun v1001 => (bif (decide (v1001 < (0 : Int))) then some (-1)
 else k0 (v1001, w64 (v9 + 1)))))
 else some v8)
noncomputable def F_laws_szTurnS (v0 : List TTurn) (v1 : Int) : Option (Int) :=
 (bif (decide (w64 (v1 - (v0.length : Int)) < (0 : Int))) then some (-1)
 else loop (F_laws_szTurnS_l0 v0) (w64 (v1 - (v0.length : Int)), 0))
@[simp] def res_laws_szTurnS (r : Int) : RV := .one (.one (.val (.int .i64 r)))
theorem con_laws_szTurnS {v0 : List TTurn} {v1 : Int} {r : Int} (hF : F_laws_szTurnS v0 v1 = some r) : Con Try.prog 43 [.sl 3 (v0.map eTurn), .int .i64 v1] (res_laws_szTurnS r) := by
 unfold F_laws_szTurnS at hF
 refine con_of c43_is fun N => ?_
 refine ws 0 64 ?_
 refine qp (AI 0) rfl ?_
 refine r_nil ?_
 refine ws 64 384 ?_
 refine qp (AI v1) rfl (qp (AL 3 (v0.map eTurn)) rfl (qp (AI (v0.length : Int)) (ev_len_n rfl) (qp (AI (w64 (v1 - (v0.length : Int)))) rfl (qp (AI (w64 (v1 - (v0.length : Int)))) rfl ?_))))
 refine r_nil ?_
 refine w_seq ?_
 refine ws 384 512 ?_
 refine qp (AI (w64 (v1 - (v0.length : Int)))) rfl (qp (AB (decide (w64 (v1 - (v0.length : Int)) < (0 : Int)))) rfl ?_)
 refine r_nil ?_
 refine cF hF (fun hF => ?_) fun hF => ?_
 ·
  refine ws 512 576 ?_
  refine qp (AI (-1)) rfl ?_
  refine r_nil ?_
  refine w_ret ?_
  refine thenQ_r ?_
  cases hF
  exact eR
 ·
  refine w_skip ?_
  refine thenQ_n ?_
  refine w_seq ?_
  refine ws 512 576 ?_
  refine qp (AI 0) rfl ?_
  refine r_nil ?_
  refine w_block ?_
  refine wr (l' := [(0, AL 3 (v0.map eTurn)), (1, AI (w64 (v1 - (v0.length : Int)))), (5, AI 0)]) (L := []) [0, 1, 5] [] 1 ?_
  refine w_loopF (F_laws_szTurnS_l0 v0) (fun s : Int × Int => mkS [(0, AL 3 (v0.map eTurn)), (1, AI s.1), (5, AI s.2)] (fo []) 1) hF ?_
  rintro k0 ⟨v8, v9⟩ hF
  rw [F_laws_szTurnS_l0] at hF
  try dsimp only
  refine w_seq ?_
  refine ws 1 257 ?_
  refine qp (AI v9) rfl (qp (AL 3 (v0.map eTurn)) rfl (qp (AI (v0.length : Int)) (ev_len_n rfl) (qp (AB (decide (v9 < (v0.length : Int)))) rfl ?_)))
  refine r_nil ?_
  refine cF hF (fun hF => ?_) fun hF => ?_
  ·
   refine w_skip ?_
   refine thenQ_n ?_
   refine w_seq ?_
   refine w_block ?_
   refine ws 257 705 ?_
   refine qp (AL 3 (v0.map eTurn)) rfl (qp (AI v9) rfl ?_)
   obtain ⟨v1000, e1000, hF⟩ := bind_get hF
   refine qp (.val none (.ptr [.str v1000.1, .int .i64 v1000.2.1, .int .i64 v1000.2.2])) (ev_iad_n rfl rfl e1000 rfl) (qp (.val none (eTurn v1000)) rfl (qp (AI v8) rfl ?_))
   obtain ⟨v1001, e1001, hF⟩ := bind_get hF
   refine qc (AI v1001) [] false (con_laws_szTurn e1001) c140_ok (by first | rfl | simp) rfl ?_
   refine qp (AI v1001) rfl ?_
   refine r_nil ?_
   refine ws 705 833 ?_
   refine qp (AI v1001) rfl (qp (AB (decide (v1001 < (0 : Int)))) rfl ?_)
   refine r_nil ?_
   refine cF hF (fun hF => ?_) fun hF => ?_
   ·
    refine ws 833 897 ?_
    refine qp (AI (-1)) rfl ?_
    refine r_nil ?_
    refine w_ret ?_
    refine blockQ_r ?_
    refine thenQ_r ?_
    refine thenQ_r ?_
    refine blockQ_r ?_
    refine thenQ_r ?_
    cases hF
    exact eR
   ·
    refine w_skip ?_
    refine blockQ_n ?_
    refine thenQ_n ?_
    refine w_reg 833 1025 rfl rfl ?_
    refine qp (AI v9) rfl (qp (AI (w64 (v9 + 1))) rfl (qp (AI (w64 (v9 + 1))) rfl ?_))
    refine r_nil ?_
    refine thenQ_n ?_
    refine ar (l' := [(0, AL 3 (v0.map eTurn)), (1, AI v1001), (5, AI (w64 (v9 + 1)))]) (L := []) [0, 1, 5] [] 1 ⟨_, by rfl, hF⟩
  ·
   refine w_exit ?_
   refine thenQ_e ?_
   refine thenQ_e ?_
   refine blockQ_e ?_
   refine thenQ_n ?_
   refine ws 257 385 ?_
   refine qp (AI v8) rfl (qp (AI v8) rfl ?_)
   refine r_nil ?_
   refine w_ret ?_
   cases hF
   exact eR

def c8 : MC := (.seq (.reg [rg 2 (.f (.box (.t 0))), rg 4 (.p true (.mv (.c (.int .i64 0))))]) (.seq (.reg [rg 5 (.p true (.fad (.t 2) 0)), rg 6 (.p true (.ld (.t 5) 6 true)), mvt 7 1, rg 8 (.call true 40 [(.t 6), (.t 7)]), mvt 1 8]) (.seq (.seq (.reg [mvt 9 1, rg 10 (.p true (.bin .lss (.t 9) (.c (.int .i64 0))))]) (.cond (.t 10) (.seq (.reg [rg 4 (.p true (.mv (.c (.int .i64 (-1)))))]) .ret) .skip)) (.seq (.reg [rg 11 (.p true (.fad (.t 2) 8)), rg 12 (.p true (.ld (.t 11) 1 false)), mvt 13 1, rg 14 (.call true 41 [(.t 12), (.t 13)]), mvt 1 14]) (.seq (.seq (.reg [mvt 15 1, rg 16 (.p true (.bin .lss (.t 15) (.c (.int .i64 0))))]) (.cond (.t 16) (.seq (.reg [rg 4 (.p true (.mv (.c (.int .i64 (-1)))))]) .ret) .skip)) (.seq (.reg [rg 17 (.p true (.fad (.t 2) 9)), rg 18 (.p true (.ld (.t 17) 3 true)), mvt 19 1, rg 20 (.call true 42 [(.t 18), (.t 19)]), mvt 1 20]) (.seq (.seq (.reg [mvt 21 1, rg 22 (.p true (.bin .lss (.t 21) (.c (.int .i64 0))))]) (.cond (.t 22) (.seq (.reg [rg 4 (.p true (.mv (.c (.int .i64 (-1)))))]) .ret) .skip)) (.seq (.reg [mvt 23 1, rg 24 (.p true (.fad (.t 2) 13)), rg 25 (.p true (.ld (.t 24) 1 false)), rg 26 (.p true (.lens (.t 25))), rg 27 (.p true (.bin .sub (.t 23) (.t 26))), mvt 1 27]) (.seq (.seq (.reg [mvt 28 1, rg 29 (.p true (.bin .lss (.t 28) (.c (.int .i64 0))))]) (.cond (.t 29) (.seq (.reg [rg 4 (.p true (.mv (.c (.int .i64 (-1)))))]) .ret) .skip)) (.seq (.reg [rg 30 (.p true (.fad (.t 2) 17)), rg 31 (.p true (.ld (.t 30) 1 false)), mvt 32 1, rg 33 (.call true 43 [(.t 31), (.t 32)]), mvt 1 33]) (.seq (.seq (.reg [mvt 34 1, rg 35 (.p true (.bin .lss (.t 34) (.c (.int .i64 0))))]) (.cond (.t 35) (.seq (.reg [rg 4 (.p true (.mv (.c (.int .i64 (-1)))))]) .ret) .skip)) (.seq (.reg [mvt 36 1, mvt 4 36]) .ret))))))))))))
theorem c8_is : compFn Try.prog 8 = some (c8, [(.tmp 4)]) := by kernel_rfl
theorem c8_ok : okFn Try.prog 8 = true := by kernel_rfl

noncomputable def F_laws_szWork (v0 : TWork) (v1 : Int) : Option (Int) :=
 ((F_laws_szRaga (v0.1, v0.2.1, v0.2.2.1, v0.2.2.2.1, v0.2.2.2.2.1, v0.2.2.2.2.2.1) v1).bind fun v1000 => (bif (decide (v1000 < (0 : Int))) then some (-1)
 else ((F_laws_szNoteS v0.2.2.2.2.2.2.2.2.1 v1000).bind fun v1001 => (bif (decide (v1001 < (0 : Int))) then some (-1)
 else ((F_laws_szTala (v0.2.2.2.2.2.2.2.2.2.1, v0.2.2.2.2.2.2.2.2.2.2.1, v0.2.2.2.2.2.2.2.2.2.2.2.1) v1001).bind fun v1002 => (bif (decide (v1002 < (0 : Int))) then some (-1)
 else (bif (decide (w64 (v1002 - (v0.2.2.2.2.2.2.2.2.2.2.2.2.2.1.length : Int)) < (0 : Int))) then some (-1)
 else ((F_laws_szTurnS v0.2.2.2.2.2.2.2.2.2.2.2.2.2.2.2.2.2 (w64 (v1002 - (v0.2.2.2.2.2.2.2.2.2.2.2.2.2.1.length : Int)))).bind fun v1003 => (bif (decide (v1003 < (0 : Int))) then some (-1)
 else some v1003)))))))))
@[simp] def res_laws_szWork (r : Int) : RV := .one (.one (.val (.int .i64 r)))
theorem con_laws_szWork {v0 : TWork} {v1 : Int} {r : Int} (hF : F_laws_szWork v0 v1 = some r) : Con Try.prog 8 [eWork v0, .int .i64 v1] (res_laws_szWork r) := by
 unfold F_laws_szWork at hF
 refine con_of c8_is fun N => ?_
 refine ws 0 128 ?_
 refine qf (.ptr 0 0 0) [(0, .box [AS v0.1, AL 1 (v0.2.1.map vI), AL 1 (v0.2.2.1.map vI), AI v0.2.2.2.1, AI v0.2.2.2.2.1, AL 1 (v0.2.2.2.2.2.1.map (eL 1 vI)), AI v0.2.2.2.2.2.2.1, AI v0.2.2.2.2.2.2.2.1, AL 2 (v0.2.2.2.2.2.2.2.2.1.map eNote), AS v0.2.2.2.2.2.2.2.2.2.1, AL 1 (v0.2.2.2.2.2.2.2.2.2.2.1.map vI), AL 1 (v0.2.2.2.2.2.2.2.2.2.2.2.1.map vI), AI v0.2.2.2.2.2.2.2.2.2.2.2.2.1, AS v0.2.2.2.2.2.2.2.2.2.2.2.2.2.1, AI v0.2.2.2.2.2.2.2.2.2.2.2.2.2.2.1, AI v0.2.2.2.2.2.2.2.2.2.2.2.2.2.2.2.1, AI v0.2.2.2.2.2.2.2.2.2.2.2.2.2.2.2.2.1, AL 3 (v0.2.2.2.2.2.2.2.2.2.2.2.2.2.2.2.2.2.map eTurn)])] (by simp) ?_
 refine qp (AI 0) rfl ?_
 refine r_nil ?_
 refine ws 128 448 ?_
 refine qp (.ptr 0 0 0) rfl (qp (.agg [AS v0.1, AL 1 (v0.2.1.map vI), AL 1 (v0.2.2.1.map vI), AI v0.2.2.2.1, AI v0.2.2.2.2.1, AL 1 (v0.2.2.2.2.2.1.map (eL 1 vI))]) rfl (qp (AI v1) rfl ?_))
 obtain ⟨v1000, e1000, hF⟩ := bind_get hF
 refine qc (AI v1000) [(0, .box [AS v0.1, AL 1 (v0.2.1.map vI), AL 1 (v0.2.2.1.map vI), AI v0.2.2.2.1, AI v0.2.2.2.2.1, AL 1 (v0.2.2.2.2.2.1.map (eL 1 vI)), AI v0.2.2.2.2.2.2.1, AI v0.2.2.2.2.2.2.2.1, AL 2 (v0.2.2.2.2.2.2.2.2.1.map eNote), AS v0.2.2.2.2.2.2.2.2.2.1, AL 1 (v0.2.2.2.2.2.2.2.2.2.2.1.map vI), AL 1 (v0.2.2.2.2.2.2.2.2.2.2.2.1.map vI), AI v0.2.2.2.2.2.2.2.2.2.2.2.2.1, AS v0.2.2.2.2.2.2.2.2.2.2.2.2.2.1, AI v0.2.2.2.2.2.2.2.2.2.2.2.2.2.2.1, AI v0.2.2.2.2.2.2.2.2.2.2.2.2.2.2.2.1, AI v0.2.2.2.2.2.2.2.2.2.2.2.2.2.2.2.2.1, AL 3 (v0.2.2.2.2.2.2.2.2.2.2.2.2.2.2.2.2.2.map eTurn)])] false (con_laws_szRaga e1000) c40_ok (by first | rfl | simp) rfl ?_
 refine qp (AI v1000) rfl ?_
 refine r_nil ?_
 refine w_seq ?_
 refine ws 448 576 ?_
 refine qp (AI v1000) rfl (qp (AB (decide (v1000 < (0 : Int)))) rfl ?_)
 refine r_nil ?_
 refine cF hF (fun hF => ?_) fun hF => ?_
 ·
  refine ws 576 640 ?_
  refine qp (AI (-1)) rfl ?_
  refine r_nil ?_
  refine w_ret ?_
  refine thenQ_r ?_
  cases hF
  exact eR
 ·
  refine w_skip ?_
  refine thenQ_n ?_
  refine ws 576 896 ?_
  refine qp (.ptr 0 0 8) rfl (qp (AL 2 (v0.2.2.2.2.2.2.2.2.1.map eNote)) rfl (qp (AI v1000) rfl ?_))
  obtain ⟨v1001, e1001, hF⟩ := bind_get hF
  refine qc (AI v1001) [(0, .box [AS v0.1, AL 1 (v0.2.1.map vI), AL 1 (v0.2.2.1.map vI), AI v0.2.2.2.1, AI v0.2.2.2.2.1, AL 1 (v0.2.2.2.2.2.1.map (eL 1 vI)), AI v0.2.2.2.2.2.2.1, AI v0.2.2.2.2.2.2.2.1, AL 2 (v0.2.2.2.2.2.2.2.2.1.map eNote), AS v0.2.2.2.2.2.2.2.2.2.1, AL 1 (v0.2.2.2.2.2.2.2.2.2.2.1.map vI), AL 1 (v0.2.2.2.2.2.2.2.2.2.2.2.1.map vI), AI v0.2.2.2.2.2.2.2.2.2.2.2.2.1, AS v0.2.2.2.2.2.2.2.2.2.2.2.2.2.1, AI v0.2.2.2.2.2.2.2.2.2.2.2.2.2.2.1, AI v0.2.2.2.2.2.2.2.2.2.2.2.2.2.2.2.1, AI v0.2.2.2.2.2.2.2.2.2.2.2.2.2.2.2.2.1, AL 3 (v0.2.2.2.2.2.2.2.2.2.2.2.2.2.2.2.2.2.map eTurn)])] false (con_laws_szNoteS e1001) c41_ok (by first | rfl | simp) rfl ?_
  refine qp (AI v1001) rfl ?_
  refine r_nil ?_
  refine w_seq ?_
  refine ws 896 1024 ?_
  refine qp (AI v1001) rfl (qp (AB (decide (v1001 < (0 : Int)))) rfl ?_)
  refine r_nil ?_
  refine cF hF (fun hF => ?_) fun hF => ?_
  ·
   refine ws 1024 1088 ?_
   refine qp (AI (-1)) rfl ?_
   refine r_nil ?_
   refine w_ret ?_
   refine thenQ_r ?_
   cases hF
   exact eR
  ·
   refine w_skip ?_
   refine thenQ_n ?_
   refine ws 1024 1344 ?_
   refine qp (.ptr 0 0 9) rfl (qp (.agg [AS v0.2.2.2.2.2.2.2.2.2.1, AL 1 (v0.2.2.2.2.2.2.2.2.2.2.1.map vI), AL 1 (v0.2.2.2.2.2.2.2.2.2.2.2.1.map vI)]) rfl (qp (AI v1001) rfl ?_))
   obtain ⟨v1002, e1002, hF⟩ := bind_get hF
   refine qc (AI v1002) [(0, .box [AS v0.1, AL 1 (v0.2.1.map vI), AL 1 (v0.2.2.1.map vI), AI v0.2.2.2.1, AI v0.2.2.2.2.1, AL 1 (v0.2.2.2.2.2.1.map (eL 1 vI)), AI v0.2.2.2.2.2.2.1, AI v0.2.2.2.2.2.2.2.1, AL 2 (v0.2.2.2.2.2.2.2.2.1.map eNote), AS v0.2.2.2.2.2.2.2.2.2.1, AL 1 (v0.2.2.2.2.2.2.2.2.2.2.1.map vI), AL 1 (v0.2.2.2.2.2.2.2.2.2.2.2.1.map vI), AI v0.2.2.2.2.2.2.2.2.2.2.2.2.1, AS v0.2.2.2.2.2.2.2.2.2.2.2.2.2.1, AI v0.2.2.2.2.2.2.2.2.2.2.2.2.2.2.1, AI v0.2.2.2.2.2.2.2.2.2.2.2.2.2.2.2.1, AI v0.2.2.2.2.2.2.2.2.2.2.2.2.2.2.2.2.1, AL 3 (v0.2.2.2.2.2.2.2.2.2.2.2.2.2.2.2.2.2.map eTurn)])] false (con_laws_szTala e1002) c42_ok (by first | rfl | simp) rfl ?_
   refine qp (AI v1002) rfl ?_
   refine r_nil ?_
   refine w_seq ?_
   refine ws 1344 1472 ?_
   refine qp (AI v1002) rfl (qp (AB (decide (v1002 < (0 : Int)))) rfl ?_)
   refine r_nil ?_
   refine cF hF (fun hF => ?_) fun hF => ?_
   ·
    refine ws 1472 1536 ?_
    refine qp (AI (-1)) rfl ?_
    refine r_nil ?_
    refine w_ret ?_
    refine thenQ_r ?_
    cases hF
    exact eR
   ·
    refine w_skip ?_
    refine thenQ_n ?_
    refine ws 1472 1856 ?_
    refine qp (AI v1002) rfl (qp (.ptr 0 0 13) rfl (qp (AS v0.2.2.2.2.2.2.2.2.2.2.2.2.2.1) rfl (qp (AI (v0.2.2.2.2.2.2.2.2.2.2.2.2.2.1.length : Int)) rfl (qp (AI (w64 (v1002 - (v0.2.2.2.2.2.2.2.2.2.2.2.2.2.1.length : Int)))) rfl (qp (AI (w64 (v1002 - (v0.2.2.2.2.2.2.2.2.2.2.2.2.2.1.length : Int)))) rfl ?_)))))
    refine r_nil ?_
    refine w_seq ?_
    refine ws 1856 1984 ?_
    refine qp (AI (w64 (v1002 - (v0.2.2.2.2.2.2.2.2.2.2.2.2.2.1.length : Int)))) rfl (qp (AB (decide (w64 (v1002 - (v0.2.2.2.2.2.2.2.2.2.2.2.2.2.1.length : Int)) < (0 : Int)))) rfl ?_)
    refine r_nil ?_
    refine cF hF (fun hF => ?_) fun hF => ?_
    ·
     refine ws 1984 2048 ?_
     refine qp (AI (-1)) rfl ?_
     refine r_nil ?_
     refine w_ret ?_
     refine thenQ_r ?_
     cases hF
     exact eR
    ·
     refine w_skip ?_
     refine thenQ_n ?_
     refine ws 1984 2304 ?_
     refine qp (.ptr 0 0 17) rfl (qp (AL 3 (v0.2.2.2.2.2.2.2.2.2.2.2.2.2.2.2.2.2.map eTurn)) rfl (qp (AI (w64 (v1002 - (v0.2.2.2.2.2.2.2.2.2.2.2.2.2.1.length : Int)))) rfl ?_))
     obtain ⟨v1003, e1003, hF⟩ := bind_get hF
     refine qc (AI v1003) [(0, .box [AS v0.1, AL 1 (v0.2.1.map vI), AL 1 (v0.2.2.1.map vI), AI v0.2.2.2.1, AI v0.2.2.2.2.1, AL 1 (v0.2.2.2.2.2.1.map (eL 1 vI)), AI v0.2.2.2.2.2.2.1, AI v0.2.2.2.2.2.2.2.1, AL 2 (v0.2.2.2.2.2.2.2.2.1.map eNote), AS v0.2.2.2.2.2.2.2.2.2.1, AL 1 (v0.2.2.2.2.2.2.2.2.2.2.1.map vI), AL 1 (v0.2.2.2.2.2.2.2.2.2.2.2.1.map vI), AI v0.2.2.2.2.2.2.2.2.2.2.2.2.1, AS v0.2.2.2.2.2.2.2.2.2.2.2.2.2.1, AI v0.2.2.2.2.2.2.2.2.2.2.2.2.2.2.1, AI v0.2.2.2.2.2.2.2.2.2.2.2.2.2.2.2.1, AI v0.2.2.2.2.2.2.2.2.2.2.2.2.2.2.2.2.1, AL 3 (v0.2.2.2.2.2.2.2.2.2.2.2.2.2.2.2.2.2.map eTurn)])] false (con_laws_szTurnS e1003) c43_ok (by first | rfl | simp) rfl ?_
     refine qp (AI v1003) rfl ?_
     refine r_nil ?_
     refine w_seq ?_
     refine ws 2304 2432 ?_
     refine qp (AI v1003) rfl (qp (AB (decide (v1003 < (0 : Int)))) rfl ?_)
     refine r_nil ?_
     refine cF hF (fun hF => ?_) fun hF => ?_
     ·
      refine ws 2432 2496 ?_
      refine qp (AI (-1)) rfl ?_
      refine r_nil ?_
      refine w_ret ?_
      refine thenQ_r ?_
      cases hF
      exact eR
     ·
      refine w_skip ?_
      refine thenQ_n ?_
      refine ws 2432 2560 ?_
      refine qp (AI v1003) rfl (qp (AI v1003) rfl ?_)
      refine r_nil ?_
      refine w_ret ?_
      cases hF
      exact eR

def c150 : MC := (.seq (.reg [rg 2 (.f (.nilrow 1))]) (.seq (.reg [mvt 5 0, rg 6 (.p true (.len (.t 5))), rg 7 (.f (.mks 1 8 (.int .i64 0) (.t 6) (.t 6))), mvt 3 7]) (.seq (.seq (.reg [rg 4 (.p true (.mv (.c (.int .i64 0))))]) (.block 0 (.loop (.seq (.seq (.reg [mvt 8 4, mvt 9 0, rg 10 (.p true (.len (.t 9))), rg 11 (.p true (.bin .lss (.t 8) (.t 10)))]) (.cond (.t 11) .skip (.exit 0))) (.seq (.block 1 (.reg [mvt 14 3, mvt 15 4, mvt 16 0, mvt 17 4, rg 18 (.p true (.iad (.t 16) (.t 17) 1)), rg 19 (.p true (.ld (.t 18) 1 false)), rg 20 (.p true (.iad (.t 14) (.t 15) 1)), ⟨none, none, (.f (.st (.t 20) (.t 19) 1))⟩])) (.reg [mvt 12 4, rg 13 (.p true (.bin .add (.t 12) (.c (.int .i64 1)))), mvt 4 13])))))) (.seq (.reg [mvt 21 3, mvt 2 21]) .ret))))
theorem c150_is : compFn Try.prog 150 = some (c150, [(.tmp 2)]) := by kernel_rfl
theorem c150_ok : okFn Try.prog 150 = true := by kernel_rfl

noncomputable def F_laws_toInt64S_l0 (v0 : List Int) (k1 : Int × (List Int) → Option (List Int)) : Int × (List Int) → Option (List Int)
 | (v1007, v1008) => (bif (decide (v1007 < (v0.length : Int))) then ((ix v0 v1007).bind fun v1009 => ((ix v1008 v1007).bind fun v1010 => k1 (w64 (v1007 + 1), List.set v1008 v1007.toNat v1009)))
 else some v1008)
noncomputable def F_laws_toInt64S (v0 : List Int) : Option (List Int) :=
 (need (0 ≤ (v0.length : Int) ∧ (v0.length : Int) ≤ (v0.length : Int) ∧ (v0.length : Int) ≤ 9223372036854775807 ∧ 8 * (v0.length : Int) ≤ 281474976710656) (loop (F_laws_toInt64S_l0 v0) (0, List.replicate ((v0.length : Int)).toNat (0 : Int))))
@[simp] def res_laws_toInt64S (r : List Int) : RV := .one (.one (.row true 1 (r.map vI)))
theorem con_laws_toInt64S {v0 : List Int} {r : List Int} (hF : F_laws_toInt64S v0 = some r) : Con Try.prog 150 [.sl 1 (v0.map vI)] (res_laws_toInt64S r) := by
 unfold F_laws_toInt64S at hF
 refine con_of c150_is fun N => ?_
 refine ws 0 64 ?_
 refine qf (.sl 0 0 0) [(0, .row true 1 (([] : List Int).map vI))] (by simp) ?_
 refine r_nil ?_
 refine ws 64 320 ?_
 refine qp (AL 1 (v0.map vI)) rfl (qp (AI (v0.length : Int)) (ev_len_n rfl) ?_)
 obtain ⟨g1000, hF⟩ := need_some hF
 refine qf (.sl 192 0 ((List.replicate ((v0.length : Int)).toNat (0 : Int)).length)) [(192, .row true 1 ((List.replicate ((v0.length : Int)).toNat (0 : Int)).map vI)), (0, .row true 1 (([] : List Int).map vI))] (effT_mks rfl rfl g1000 rfl) ?_
 refine qp (.sl 192 0 ((List.replicate ((v0.length : Int)).toNat (0 : Int)).length)) rfl ?_
 refine r_nil ?_
 refine w_seq ?_
 refine ws 320 384 ?_
 refine qp (AI 0) rfl ?_
 refine r_nil ?_
 refine w_block ?_
 refine wr (l' := [(0, AL 1 (v0.map vI)), (3, .sl 0 0 (List.replicate ((v0.length : Int)).toNat (0 : Int)).length), (4, AI 0)]) (L := [(0, .row true 1 ((List.replicate ((v0.length : Int)).toNat (0 : Int)).map vI))]) [0, 3, 4] [(192, 0)] 1 ?_
 refine w_loopF (F_laws_toInt64S_l0 v0) (fun s : Int × (List Int) => mkS [(0, AL 1 (v0.map vI)), (3, .sl 0 0 s.2.length), (4, AI s.1)] (fo [(0, .row true 1 (s.2.map vI))]) 1) hF ?_
 rintro k1 ⟨v1007, v1008⟩ hF
 rw [F_laws_toInt64S_l0] at hF
 try dsimp only
 refine w_seq ?_
 refine ws 1 257 ?_
 refine qp (AI v1007) rfl (qp (AL 1 (v0.map vI)) rfl (qp (AI (v0.length : Int)) (ev_len_n rfl) (qp (AB (decide (v1007 < (v0.length : Int)))) rfl ?_)))
 refine r_nil ?_
 refine cF hF (fun hF => ?_) fun hF => ?_
 ·
  refine w_skip ?_
  refine thenQ_n ?_
  refine w_seq ?_
  refine w_block ?_
  refine w_reg 257 769 rfl rfl ?_
  refine qp (.sl 0 0 v1008.length) rfl (qp (AI v1007) rfl (qp (AL 1 (v0.map vI)) rfl (qp (AI v1007) rfl ?_)))
  obtain ⟨v1009, e1009, hF⟩ := bind_get hF
  refine qp (.val none (.ptr [.int .i64 v1009])) (ev_iad_n rfl rfl e1009 rfl) (qp (AI v1009) rfl ?_)
  obtain ⟨v1010, e1010, hF⟩ := bind_get hF
  refine qp (.ptr 0 v1007.toNat 0) (ev_iad_r rfl (by simp) rfl rfl e1010) ?_
  refine qf0 (.undef) [(0, .row true 1 ((List.set v1008 v1007.toNat v1009).map vI)), (0, .row true 1 (v1008.map vI))] (effT_st rfl rfl (ix_some e1010).2 rfl rfl (by rfl) (by first | rfl | simp [patch, reb, List.take_of_length_le]) (by rfl) rfl) ?_
  refine r_nil ?_
  refine blockQ_n ?_
  refine thenQ_n ?_
  refine w_reg 769 961 rfl rfl ?_
  refine qp (AI v1007) rfl (qp (AI (w64 (v1007 + 1))) rfl (qp (AI (w64 (v1007 + 1))) rfl ?_))
  refine r_nil ?_
  refine thenQ_n ?_
  refine ar (l' := [(0, AL 1 (v0.map vI)), (3, .sl 0 0 (List.set v1008 v1007.toNat v1009).length), (4, AI (w64 (v1007 + 1)))]) (L := [(0, .row true 1 ((List.set v1008 v1007.toNat v1009).map vI))]) [0, 3, 4] [(0, 0)] 1 ⟨_, by rfl, hF⟩
 ·
  refine w_exit ?_
  refine thenQ_e ?_
  refine thenQ_e ?_
  refine blockQ_e ?_
  refine thenQ_n ?_
  refine ws 257 385 ?_
  refine qp (.sl 0 0 v1008.length) rfl (qp (.sl 0 0 v1008.length) rfl ?_)
  refine r_nil ?_
  refine w_ret ?_
  cases hF
  exact eR

def c69 : MC := (.seq (.reg [rg 2 (.f (.nilrow 1))]) (.seq (.reg [mvt 5 0, rg 6 (.p true (.len (.t 5))), rg 7 (.f (.mks 1 24 (.sl 1 []) (.t 6) (.t 6))), mvt 3 7]) (.seq (.seq (.reg [rg 4 (.p true (.mv (.c (.int .i64 0))))]) (.block 0 (.loop (.seq (.seq (.reg [mvt 8 4, mvt 9 0, rg 10 (.p true (.len (.t 9))), rg 11 (.p true (.bin .lss (.t 8) (.t 10)))]) (.cond (.t 11) .skip (.exit 0))) (.seq (.block 1 (.reg [mvt 14 3, mvt 15 4, mvt 16 0, mvt 17 4, rg 18 (.p true (.iad (.t 16) (.t 17) 1)), rg 19 (.p true (.ld (.t 18) 1 false)), rg 20 (.call true 150 [(.t 19)]), rg 21 (.p true (.iad (.t 14) (.t 15) 1)), ⟨none, none, (.f (.st (.t 21) (.t 20) 1))⟩])) (.reg [mvt 12 4, rg 13 (.p true (.bin .add (.t 12) (.c (.int .i64 1)))), mvt 4 13])))))) (.seq (.reg [mvt 22 3, mvt 2 22]) .ret))))
theorem c69_is : compFn Try.prog 69 = some (c69, [(.tmp 2)]) := by kernel_rfl
theorem c69_ok : okFn Try.prog 69 = true := by kernel_rfl

noncomputable def F_laws_toInt64SS_l0 (v0 : List (List Int)) (k1 : Int × (List (List Int)) → Option (List (List Int))) : Int × (List (List Int)) → Option (List (List Int))
 | (v1009, v1010) => (bif (decide (v1009 < (v0.length : Int))) then ((ix v0 v1009).bind fun v1011 => ((F_laws_toInt64S v1011).bind fun v1012 => ((ix v1010 v1009).bind fun v1013 => k1 (w64 (v1009 + 1), List.set v1010 v1009.toNat v1012))))
 else some v1010)
noncomputable def F_laws_toInt64SS (v0 : List (List Int)) : Option (List (List Int)) :=
 (need (0 ≤ (v0.length : Int) ∧ (v0.length : Int) ≤ (v0.length : Int) ∧ (v0.length : Int) ≤ 9223372036854775807 ∧ 24 * (v0.length : Int) ≤ 281474976710656) (loop (F_laws_toInt64SS_l0 v0) (0, List.replicate ((v0.length : Int)).toNat ([] : List Int))))
@[simp] def res_laws_toInt64SS (r : List (List Int)) : RV := .one (.one (.row true 1 (r.map (eL 1 vI))))
theorem con_laws_toInt64SS {v0 : List (List Int)} {r : List (List Int)} (hF : F_laws_toInt64SS v0 = some r) : Con Try.prog 69 [.sl 1 (v0.map (eL 1 vI))] (res_laws_toInt64SS r) := by
 unfold F_laws_toInt64SS at hF
 refine con_of c69_is fun N => ?_
 refine ws 0 64 ?_
 refine qf (.sl 0 0 0) [(0, .row true 1 (([] : List Int).map vI))] (by simp) ?_
 refine r_nil ?_
 refine ws 64 320 ?_
 refine qp (AL 1 (v0.map (eL 1 vI))) rfl (qp (AI (v0.length : Int)) (ev_len_n rfl) ?_)
 obtain ⟨g1000, hF⟩ := need_some hF
 refine qf (.sl 192 0 ((List.replicate ((v0.length : Int)).toNat ([] : List Int)).length)) [(192, .row true 1 ((List.replicate ((v0.length : Int)).toNat ([] : List Int)).map (eL 1 vI))), (0, .row true 1 (([] : List Int).map vI))] (effT_mks rfl rfl g1000 rfl) ?_
 refine qp (.sl 192 0 ((List.replicate ((v0.length : Int)).toNat ([] : List Int)).length)) rfl ?_
 refine r_nil ?_
 refine w_seq ?_
 refine ws 320 384 ?_
 refine qp (AI 0) rfl ?_
 refine r_nil ?_
 refine w_block ?_
 refine wr (l' := [(0, AL 1 (v0.map (eL 1 vI))), (3, .sl 0 0 (List.replicate ((v0.length : Int)).toNat ([] : List Int)).length), (4, AI 0)]) (L := [(0, .row true 1 ((List.replicate ((v0.length : Int)).toNat ([] : List Int)).map (eL 1 vI)))]) [0, 3, 4] [(192, 0)] 1 ?_
 refine w_loopF (F_laws_toInt64SS_l0 v0) (fun s : Int × (List (List Int)) => mkS [(0, AL 1 (v0.map (eL 1 vI))), (3, .sl 0 0 s.2.length), (4, AI s.1)] (fo [(0, .row true 1 (s.2.map (eL 1 vI)))]) 1) hF ?_
 rintro k1 ⟨v1009, v1010⟩ hF
 rw [F_laws_toInt64SS_l0] at hF
 try dsimp only
 refine w_seq ?_
 refine ws 1 257 ?_
 refine qp (AI v1009) rfl (qp (AL 1 (v0.map (eL 1 vI))) rfl (qp (AI (v0.length : Int)) (ev_len_n rfl) (qp (AB (decide (v1009 < (v0.length : Int)))) rfl ?_)))
 refine r_nil ?_
 refine cF hF (fun hF => ?_) fun hF => ?_
 ·
  refine w_skip ?_
  refine thenQ_n ?_
  refine w_seq ?_
  refine w_block ?_
  refine w_reg 257 833 rfl rfl ?_
  refine qp (.sl 0 0 v1010.length) rfl (qp (AI v1009) rfl (qp (AL 1 (v0.map (eL 1 vI))) rfl (qp (AI v1009) rfl ?_)))
  obtain ⟨v1011, e1011, hF⟩ := bind_get hF
  refine qp (.val none (.ptr [.sl 1 (v1011.map vI)])) (ev_iad_n rfl rfl e1011 rfl) (qp (AL 1 (v1011.map vI)) rfl ?_)
  obtain ⟨v1012, e1012, hF⟩ := bind_get hF
  refine qc (.sl 641 0 v1012.length) [(641, .row true 1 (v1012.map vI)), (0, .row true 1 (v1010.map (eL 1 vI)))] false (con_laws_toInt64S e1012) c150_ok (by first | rfl | simp) (by simp [res_laws_toInt64S]) ?_
  obtain ⟨v1013, e1013, hF⟩ := bind_get hF
  refine qp (.ptr 0 v1009.toNat 0) (ev_iad_r rfl (by simp) rfl rfl e1013) ?_
  refine qf0 (.undef) [(0, .row true 1 ((List.set v1010 v1009.toNat v1012).map (eL 1 vI))), (641, .dead), (641, .row true 1 (v1012.map vI)), (0, .row true 1 (v1010.map (eL 1 vI)))] (effT_st rfl rfl (ix_some e1013).2 rfl rfl (by rfl) (by first | rfl | simp [patch, reb, List.take_of_length_le]) (by rfl) rfl) ?_
  refine r_nil ?_
  refine blockQ_n ?_
  refine thenQ_n ?_
  refine w_reg 833 1025 rfl rfl ?_
  refine qp (AI v1009) rfl (qp (AI (w64 (v1009 + 1))) rfl (qp (AI (w64 (v1009 + 1))) rfl ?_))
  refine r_nil ?_
  refine thenQ_n ?_
  refine ar (l' := [(0, AL 1 (v0.map (eL 1 vI))), (3, .sl 0 0 (List.set v1010 v1009.toNat v1012).length), (4, AI (w64 (v1009 + 1)))]) (L := [(0, .row true 1 ((List.set v1010 v1009.toNat v1012).map (eL 1 vI)))]) [0, 3, 4] [(0, 0)] 1 ⟨_, by rfl, hF⟩
 ·
  refine w_exit ?_
  refine thenQ_e ?_
  refine thenQ_e ?_
  refine blockQ_e ?_
  refine thenQ_n ?_
  refine ws 257 385 ?_
  refine qp (.sl 0 0 v1010.length) rfl (qp (.sl 0 0 v1010.length) rfl ?_)
  refine r_nil ?_
  refine w_ret ?_
  cases hF
  exact eR

def c45 : MC := (.seq (.reg [rg 1 (.f (.box (.t 0))), rg 2 (.f (.alloc [((.str []), (0, false)), ((.sl 0 []), (1, false)), ((.sl 0 []), (1, false)), ((.int .i64 0), (0, false)), ((.int .i64 0), (0, false)), ((.sl 0 []), (1, false))]))]) (.seq (.reg [rg 3 (.f (.alloc [((.str []), (0, false)), ((.sl 0 []), (1, false)), ((.sl 0 []), (1, false)), ((.int .i64 0), (0, false)), ((.int .i64 0), (0, false)), ((.sl 0 []), (1, false))]))]) (.seq (.reg [rg 4 (.p true (.fad (.t 1) 0)), rg 5 (.p true (.ld (.t 4) 1 false)), rg 6 (.p true (.fad (.t 3) 0)), ⟨none, none, (.f (.st (.t 6) (.t 5) 1))⟩]) (.seq (.reg [rg 7 (.p true (.fad (.t 1) 1)), rg 8 (.p true (.ld (.t 7) 1 false)), rg 9 (.call true 150 [(.t 8)]), rg 10 (.p true (.fad (.t 3) 1)), ⟨none, none, (.f (.st (.t 10) (.t 9) 1))⟩]) (.seq (.reg [rg 11 (.p true (.fad (.t 1) 2)), rg 12 (.p true (.ld (.t 11) 1 false)), rg 13 (.call true 150 [(.t 12)]), rg 14 (.p true (.fad (.t 3) 2)), ⟨none, none, (.f (.st (.t 14) (.t 13) 1))⟩]) (.seq (.reg [rg 15 (.p true (.fad (.t 1) 3)), rg 16 (.p true (.ld (.t 15) 1 false)), rg 17 (.p true (.fad (.t 3) 3)), ⟨none, none, (.f (.st (.t 17) (.t 16) 1))⟩]) (.seq (.reg [rg 18 (.p true (.fad (.t 1) 4)), rg 19 (.p true (.ld (.t 18) 1 false)), rg 20 (.p true (.fad (.t 3) 4)), ⟨none, none, (.f (.st (.t 20) (.t 19) 1))⟩]) (.seq (.reg [rg 21 (.p true (.fad (.t 1) 5)), rg 22 (.p true (.ld (.t 21) 1 false)), rg 23 (.call true 69 [(.t 22)]), rg 24 (.p true (.fad (.t 3) 5)), ⟨none, none, (.f (.st (.t 24) (.t 23) 1))⟩]) (.seq (.reg [rg 25 (.p true (.ld (.t 3) 6 true)), ⟨none, none, (.f (.st (.t 2) (.t 25) 6))⟩]) .ret)))))))))
theorem c45_is : compFn Try.prog 45 = some (c45, [(.cell (.ld (.t 2) 6 true))]) := by kernel_rfl
theorem c45_ok : okFn Try.prog 45 = true := by kernel_rfl

noncomputable def F_laws_toRaga (v0 : TRaga) : Option (TRaga) :=
 ((F_laws_toInt64S v0.2.1).bind fun v1000 => ((F_laws_toInt64S v0.2.2.1).bind fun v1001 => ((F_laws_toInt64SS v0.2.2.2.2.2).bind fun v1002 => some (v0.1, v1000, v1001, v0.2.2.2.1, v0.2.2.2.2.1, v1002))))
@[simp] def res_laws_toRaga (r : TRaga) : RV := .one (.agg [.val (.str r.1), .row true 1 (r.2.1.map vI), .row true 1 (r.2.2.1.map vI), .val (.int .i64 r.2.2.2.1), .val (.int .i64 r.2.2.2.2.1), .row true 1 (r.2.2.2.2.2.map (eL 1 vI))])
theorem con_laws_toRaga {v0 : TRaga} {r : TRaga} (hF : F_laws_toRaga v0 = some r) : Con Try.prog 45 [eRaga v0] (res_laws_toRaga r) := by
 unfold F_laws_toRaga at hF
 refine con_of c45_is fun N => ?_
 refine ws 0 128 ?_
 refine qf (.ptr 0 0 0) [(0, .box [AS v0.1, AL 1 (v0.2.1.map vI), AL 1 (v0.2.2.1.map vI), AI v0.2.2.2.1, AI v0.2.2.2.2.1, AL 1 (v0.2.2.2.2.2.map (eL 1 vI))])] (by simp) ?_
 refine qf (.ptr 64 0 0) [(64, .box [AS [], .sl 65 0 0, .sl 66 0 0, AI 0, AI 0, .sl 67 0 0]), (67, .row true 1 (([] : List Int).map vI)), (66, .row true 1 (([] : List Int).map vI)), (65, .row true 1 (([] : List Int).map vI)), (0, .box [AS v0.1, AL 1 (v0.2.1.map vI), AL 1 (v0.2.2.1.map vI), AI v0.2.2.2.1, AI v0.2.2.2.2.1, AL 1 (v0.2.2.2.2.2.map (eL 1 vI))])] (by simp) ?_
 refine r_nil ?_
 refine ws 128 192 ?_
 refine qf (.ptr 128 0 0) [(128, .box [AS [], .sl 129 0 0, .sl 130 0 0, AI 0, AI 0, .sl 131 0 0]), (131, .row true 1 (([] : List Int).map vI)), (130, .row true 1 (([] : List Int).map vI)), (129, .row true 1 (([] : List Int).map vI)), (64, .box [AS [], .sl 65 0 0, .sl 66 0 0, AI 0, AI 0, .sl 67 0 0]), (67, .row true 1 (([] : List Int).map vI)), (66, .row true 1 (([] : List Int).map vI)), (65, .row true 1 (([] : List Int).map vI)), (0, .box [AS v0.1, AL 1 (v0.2.1.map vI), AL 1 (v0.2.2.1.map vI), AI v0.2.2.2.1, AI v0.2.2.2.2.1, AL 1 (v0.2.2.2.2.2.map (eL 1 vI))])] (by simp) ?_
 refine r_nil ?_
 refine ws 192 448 ?_
 refine qp (.ptr 0 0 0) rfl (qp (AS v0.1) rfl (qp (.ptr 128 0 0) rfl ?_))
 refine qf0 (.undef) [(128, .box [AS v0.1, .sl 129 0 0, .sl 130 0 0, AI 0, AI 0, .sl 131 0 0]), (128, .box [AS [], .sl 129 0 0, .sl 130 0 0, AI 0, AI 0, .sl 131 0 0]), (131, .row true 1 (([] : List Int).map vI)), (130, .row true 1 (([] : List Int).map vI)), (129, .row true 1 (([] : List Int).map vI)), (64, .box [AS [], .sl 65 0 0, .sl 66 0 0, AI 0, AI 0, .sl 67 0 0]), (67, .row true 1 (([] : List Int).map vI)), (66, .row true 1 (([] : List Int).map vI)), (65, .row true 1 (([] : List Int).map vI)), (0, .box [AS v0.1, AL 1 (v0.2.1.map vI), AL 1 (v0.2.2.1.map vI), AI v0.2.2.2.1, AI v0.2.2.2.2.1, AL 1 (v0.2.2.2.2.2.map (eL 1 vI))])] (by simp) ?_
 refine r_nil ?_
 refine ws 448 768 ?_
 refine qp (.ptr 0 0 1) rfl (qp (AL 1 (v0.2.1.map vI)) rfl ?_)
 obtain ⟨v1000, e1000, hF⟩ := bind_get hF
 refine qc (.sl 576 0 v1000.length) [(576, .row true 1 (v1000.map vI)), (128, .box [AS v0.1, .sl 129 0 0, .sl 130 0 0, AI 0, AI 0, .sl 131 0 0]), (128, .box [AS [], .sl 129 0 0, .sl 130 0 0, AI 0, AI 0, .sl 131 0 0]), (131, .row true 1 (([] : List Int).map vI)), (130, .row true 1 (([] : List Int).map vI)), (129, .row true 1 (([] : List Int).map vI)), (64, .box [AS [], .sl 65 0 0, .sl 66 0 0, AI 0, AI 0, .sl 67 0 0]), (67, .row true 1 (([] : List Int).map vI)), (66, .row true 1 (([] : List Int).map vI)), (65, .row true 1 (([] : List Int).map vI)), (0, .box [AS v0.1, AL 1 (v0.2.1.map vI), AL 1 (v0.2.2.1.map vI), AI v0.2.2.2.1, AI v0.2.2.2.2.1, AL 1 (v0.2.2.2.2.2.map (eL 1 vI))])] false (con_laws_toInt64S e1000) c150_ok (by first | rfl | simp) (by simp [res_laws_toInt64S]) ?_
 refine qp (.ptr 128 0 1) rfl ?_
 refine qf0 (.undef) [(128, .box [AS v0.1, .sl 576 0 v1000.length, .sl 130 0 0, AI 0, AI 0, .sl 131 0 0]), (576, .row true 1 (v1000.map vI)), (128, .box [AS v0.1, .sl 129 0 0, .sl 130 0 0, AI 0, AI 0, .sl 131 0 0]), (128, .box [AS [], .sl 129 0 0, .sl 130 0 0, AI 0, AI 0, .sl 131 0 0]), (131, .row true 1 (([] : List Int).map vI)), (130, .row true 1 (([] : List Int).map vI)), (129, .row true 1 (([] : List Int).map vI)), (64, .box [AS [], .sl 65 0 0, .sl 66 0 0, AI 0, AI 0, .sl 67 0 0]), (67, .row true 1 (([] : List Int).map vI)), (66, .row true 1 (([] : List Int).map vI)), (65, .row true 1 (([] : List Int).map vI)), (0, .box [AS v0.1, AL 1 (v0.2.1.map vI), AL 1 (v0.2.2.1.map vI), AI v0.2.2.2.1, AI v0.2.2.2.2.1, AL 1 (v0.2.2.2.2.2.map (eL 1 vI))])] (by simp) ?_
 refine r_nil ?_
 refine ws 768 1088 ?_
 refine qp (.ptr 0 0 2) rfl (qp (AL 1 (v0.2.2.1.map vI)) rfl ?_)
 obtain ⟨v1001, e1001, hF⟩ := bind_get hF
 refine qc (.sl 896 0 v1001.length) [(896, .row true 1 (v1001.map vI)), (128, .box [AS v0.1, .sl 576 0 v1000.length, .sl 130 0 0, AI 0, AI 0, .sl 131 0 0]), (576, .row true 1 (v1000.map vI)), (128, .box [AS v0.1, .sl 129 0 0, .sl 130 0 0, AI 0, AI 0, .sl 131 0 0]), (128, .box [AS [], .sl 129 0 0, .sl 130 0 0, AI 0, AI 0, .sl 131 0 0]), (131, .row true 1 (([] : List Int).map vI)), (130, .row true 1 (([] : List Int).map vI)), (129, .row true 1 (([] : List Int).map vI)), (64, .box [AS [], .sl 65 0 0, .sl 66 0 0, AI 0, AI 0, .sl 67 0 0]), (67, .row true 1 (([] : List Int).map vI)), (66, .row true 1 (([] : List Int).map vI)), (65, .row true 1 (([] : List Int).map vI)), (0, .box [AS v0.1, AL 1 (v0.2.1.map vI), AL 1 (v0.2.2.1.map vI), AI v0.2.2.2.1, AI v0.2.2.2.2.1, AL 1 (v0.2.2.2.2.2.map (eL 1 vI))])] false (con_laws_toInt64S e1001) c150_ok (by first | rfl | simp) (by simp [res_laws_toInt64S]) ?_
 refine qp (.ptr 128 0 2) rfl ?_
 refine qf0 (.undef) [(128, .box [AS v0.1, .sl 576 0 v1000.length, .sl 896 0 v1001.length, AI 0, AI 0, .sl 131 0 0]), (896, .row true 1 (v1001.map vI)), (128, .box [AS v0.1, .sl 576 0 v1000.length, .sl 130 0 0, AI 0, AI 0, .sl 131 0 0]), (576, .row true 1 (v1000.map vI)), (128, .box [AS v0.1, .sl 129 0 0, .sl 130 0 0, AI 0, AI 0, .sl 131 0 0]), (128, .box [AS [], .sl 129 0 0, .sl 130 0 0, AI 0, AI 0, .sl 131 0 0]), (131, .row true 1 (([] : List Int).map vI)), (130, .row true 1 (([] : List Int).map vI)), (129, .row true 1 (([] : List Int).map vI)), (64, .box [AS [], .sl 65 0 0, .sl 66 0 0, AI 0, AI 0, .sl 67 0 0]), (67, .row true 1 (([] : List Int).map vI)), (66, .row true 1 (([] : List Int).map vI)), (65, .row true 1 (([] : List Int).map vI)), (0, .box [AS v0.1, AL 1 (v0.2.1.map vI), AL 1 (v0.2.2.1.map vI), AI v0.2.2.2.1, AI v0.2.2.2.2.1, AL 1 (v0.2.2.2.2.2.map (eL 1 vI))])] (by simp) ?_
 refine r_nil ?_
 refine ws 1088 1344 ?_
 refine qp (.ptr 0 0 3) rfl (qp (AI v0.2.2.2.1) rfl (qp (.ptr 128 0 3) rfl ?_))
 refine qf0 (.undef) [(128, .box [AS v0.1, .sl 576 0 v1000.length, .sl 896 0 v1001.length, AI v0.2.2.2.1, AI 0, .sl 131 0 0]), (128, .box [AS v0.1, .sl 576 0 v1000.length, .sl 896 0 v1001.length, AI 0, AI 0, .sl 131 0 0]), (896, .row true 1 (v1001.map vI)), (128, .box [AS v0.1, .sl 576 0 v1000.length, .sl 130 0 0, AI 0, AI 0, .sl 131 0 0]), (576, .row true 1 (v1000.map vI)), (128, .box [AS v0.1, .sl 129 0 0, .sl 130 0 0, AI 0, AI 0, .sl 131 0 0]), (128, .box [AS [], .sl 129 0 0, .sl 130 0 0, AI 0, AI 0, .sl 131 0 0]), (131, .row true 1 (([] : List Int).map vI)), (130, .row true 1 (([] : List Int).map vI)), (129, .row true 1 (([] : List Int).map vI)), (64, .box [AS [], .sl 65 0 0, .sl 66 0 0, AI 0, AI 0, .sl 67 0 0]), (67, .row true 1 (([] : List Int).map vI)), (66, .row true 1 (([] : List Int).map vI)), (65, .row true 1 (([] : List Int).map vI)), (0, .box [AS v0.1, AL 1 (v0.2.1.map vI), AL 1 (v0.2.2.1.map vI), AI v0.2.2.2.1, AI v0.2.2.2.2.1, AL 1 (v0.2.2.2.2.2.map (eL 1 vI))])] (by simp) ?_
 refine r_nil ?_
 refine ws 1344 1600 ?_
 refine qp (.ptr 0 0 4) rfl (qp (AI v0.2.2.2.2.1) rfl (qp (.ptr 128 0 4) rfl ?_))
 refine qf0 (.undef) [(128, .box [AS v0.1, .sl 576 0 v1000.length, .sl 896 0 v1001.length, AI v0.2.2.2.1, AI v0.2.2.2.2.1, .sl 131 0 0]), (128, .box [AS v0.1, .sl 576 0 v1000.length, .sl 896 0 v1001.length, AI v0.2.2.2.1, AI 0, .sl 131 0 0]), (128, .box [AS v0.1, .sl 576 0 v1000.length, .sl 896 0 v1001.length, AI 0, AI 0, .sl 131 0 0]), (896, .row true 1 (v1001.map vI)), (128, .box [AS v0.1, .sl 576 0 v1000.length, .sl 130 0 0, AI 0, AI 0, .sl 131 0 0]), (576, .row true 1 (v1000.map vI)), (128, .box [AS v0.1, .sl 129 0 0, .sl 130 0 0, AI 0, AI 0, .sl 131 0 0]), (128, .box [AS [], .sl 129 0 0, .sl 130 0 0, AI 0, AI 0, .sl 131 0 0]), (131, .row true 1 (([] : List Int).map vI)), (130, .row true 1 (([] : List Int).map vI)), (129, .row true 1 (([] : List Int).map vI)), (64, .box [AS [], .sl 65 0 0, .sl 66 0 0, AI 0, AI 0, .sl 67 0 0]), (67, .row true 1 (([] : List Int).map vI)), (66, .row true 1 (([] : List Int).map vI)), (65, .row true 1 (([] : List Int).map vI)), (0, .box [AS v0.1, AL 1 (v0.2.1.map vI), AL 1 (v0.2.2.1.map vI), AI v0.2.2.2.1, AI v0.2.2.2.2.1, AL 1 (v0.2.2.2.2.2.map (eL 1 vI))])] (by simp) ?_
 refine r_nil ?_
 refine ws 1600 1920 ?_
 refine qp (.ptr 0 0 5) rfl (qp (AL 1 (v0.2.2.2.2.2.map (eL 1 vI))) rfl ?_)
 obtain ⟨v1002, e1002, hF⟩ := bind_get hF
 refine qc (.sl 1728 0 v1002.length) [(1728, .row true 1 (v1002.map (eL 1 vI))), (128, .box [AS v0.1, .sl 576 0 v1000.length, .sl 896 0 v1001.length, AI v0.2.2.2.1, AI v0.2.2.2.2.1, .sl 131 0 0]), (128, .box [AS v0.1, .sl 576 0 v1000.length, .sl 896 0 v1001.length, AI v0.2.2.2.1, AI 0, .sl 131 0 0]), (128, .box [AS v0.1, .sl 576 0 v1000.length, .sl 896 0 v1001.length, AI 0, AI 0, .sl 131 0 0]), (896, .row true 1 (v1001.map vI)), (128, .box [AS v0.1, .sl 576 0 v1000.length, .sl 130 0 0, AI 0, AI 0, .sl 131 0 0]), (576, .row true 1 (v1000.map vI)), (128, .box [AS v0.1, .sl 129 0 0, .sl 130 0 0, AI 0, AI 0, .sl 131 0 0]), (128, .box [AS [], .sl 129 0 0, .sl 130 0 0, AI 0, AI 0, .sl 131 0 0]), (131, .row true 1 (([] : List Int).map vI)), (130, .row true 1 (([] : List Int).map vI)), (129, .row true 1 (([] : List Int).map vI)), (64, .box [AS [], .sl 65 0 0, .sl 66 0 0, AI 0, AI 0, .sl 67 0 0]), (67, .row true 1 (([] : List Int).map vI)), (66, .row true 1 (([] : List Int).map vI)), (65, .row true 1 (([] : List Int).map vI)), (0, .box [AS v0.1, AL 1 (v0.2.1.map vI), AL 1 (v0.2.2.1.map vI), AI v0.2.2.2.1, AI v0.2.2.2.2.1, AL 1 (v0.2.2.2.2.2.map (eL 1 vI))])] false (con_laws_toInt64SS e1002) c69_ok (by first | rfl | simp) (by simp [res_laws_toInt64SS]) ?_
 refine qp (.ptr 128 0 5) rfl ?_
 refine qf0 (.undef) [(128, .box [AS v0.1, .sl 576 0 v1000.length, .sl 896 0 v1001.length, AI v0.2.2.2.1, AI v0.2.2.2.2.1, .sl 1728 0 v1002.length]), (1728, .row true 1 (v1002.map (eL 1 vI))), (128, .box [AS v0.1, .sl 576 0 v1000.length, .sl 896 0 v1001.length, AI v0.2.2.2.1, AI v0.2.2.2.2.1, .sl 131 0 0]), (128, .box [AS v0.1, .sl 576 0 v1000.length, .sl 896 0 v1001.length, AI v0.2.2.2.1, AI 0, .sl 131 0 0]), (128, .box [AS v0.1, .sl 576 0 v1000.length, .sl 896 0 v1001.length, AI 0, AI 0, .sl 131 0 0]), (896, .row true 1 (v1001.map vI)), (128, .box [AS v0.1, .sl 576 0 v1000.length, .sl 130 0 0, AI 0, AI 0, .sl 131 0 0]), (576, .row true 1 (v1000.map vI)), (128, .box [AS v0.1, .sl 129 0 0, .sl 130 0 0, AI 0, AI 0, .sl 131 0 0]), (128, .box [AS [], .sl 129 0 0, .sl 130 0 0, AI 0, AI 0, .sl 131 0 0]), (131, .row true 1 (([] : List Int).map vI)), (130, .row true 1 (([] : List Int).map vI)), (129, .row true 1 (([] : List Int).map vI)), (64, .box [AS [], .sl 65 0 0, .sl 66 0 0, AI 0, AI 0, .sl 67 0 0]), (67, .row true 1 (([] : List Int).map vI)), (66, .row true 1 (([] : List Int).map vI)), (65, .row true 1 (([] : List Int).map vI)), (0, .box [AS v0.1, AL 1 (v0.2.1.map vI), AL 1 (v0.2.2.1.map vI), AI v0.2.2.2.1, AI v0.2.2.2.2.1, AL 1 (v0.2.2.2.2.2.map (eL 1 vI))])] (by simp) ?_
 refine r_nil ?_
 refine ws 1920 2048 ?_
 refine qp (.agg [AS v0.1, .sl 576 0 v1000.length, .sl 896 0 v1001.length, AI v0.2.2.2.1, AI v0.2.2.2.2.1, .sl 1728 0 v1002.length]) rfl ?_
 refine qf0 (.undef) [(64, .box [AS v0.1, .sl 576 0 v1000.length, .sl 896 0 v1001.length, AI v0.2.2.2.1, AI v0.2.2.2.2.1, .sl 1728 0 v1002.length]), (128, .box [AS v0.1, .sl 576 0 v1000.length, .sl 896 0 v1001.length, AI v0.2.2.2.1, AI v0.2.2.2.2.1, .sl 1728 0 v1002.length]), (1728, .row true 1 (v1002.map (eL 1 vI))), (128, .box [AS v0.1, .sl 576 0 v1000.length, .sl 896 0 v1001.length, AI v0.2.2.2.1, AI v0.2.2.2.2.1, .sl 131 0 0]), (128, .box [AS v0.1, .sl 576 0 v1000.length, .sl 896 0 v1001.length, AI v0.2.2.2.1, AI 0, .sl 131 0 0]), (128, .box [AS v0.1, .sl 576 0 v1000.length, .sl 896 0 v1001.length, AI 0, AI 0, .sl 131 0 0]), (896, .row true 1 (v1001.map vI)), (128, .box [AS v0.1, .sl 576 0 v1000.length, .sl 130 0 0, AI 0, AI 0, .sl 131 0 0]), (576, .row true 1 (v1000.map vI)), (128, .box [AS v0.1, .sl 129 0 0, .sl 130 0 0, AI 0, AI 0, .sl 131 0 0]), (128, .box [AS [], .sl 129 0 0, .sl 130 0 0, AI 0, AI 0, .sl 131 0 0]), (131, .row true 1 (([] : List Int).map vI)), (130, .row true 1 (([] : List Int).map vI)), (129, .row true 1 (([] : List Int).map vI)), (64, .box [AS [], .sl 65 0 0, .sl 66 0 0, AI 0, AI 0, .sl 67 0 0]), (67, .row true 1 (([] : List Int).map vI)), (66, .row true 1 (([] : List Int).map vI)), (65, .row true 1 (([] : List Int).map vI)), (0, .box [AS v0.1, AL 1 (v0.2.1.map vI), AL 1 (v0.2.2.1.map vI), AI v0.2.2.2.1, AI v0.2.2.2.2.1, AL 1 (v0.2.2.2.2.2.map (eL 1 vI))])] (by simp) ?_
 refine r_nil ?_
 refine w_ret ?_
 cases hF
 exact eR

def c151 : MC := (.seq (.reg [rg 1 (.f (.box (.t 0))), rg 2 (.f (.alloc [((.int .i64 0), (0, false)), ((.int .i64 0), (0, false))]))]) (.seq (.reg [rg 3 (.f (.alloc [((.int .i64 0), (0, false)), ((.int .i64 0), (0, false))]))]) (.seq (.reg [rg 4 (.p true (.fad (.t 1) 0)), rg 5 (.p true (.ld (.t 4) 1 false)), rg 6 (.p true (.fad (.t 3) 0)), ⟨none, none, (.f (.st (.t 6) (.t 5) 1))⟩]) (.seq (.reg [rg 7 (.p true (.fad (.t 1) 1)), rg 8 (.p true (.ld (.t 7) 1 false)), rg 9 (.p true (.fad (.t 3) 1)), ⟨none, none, (.f (.st (.t 9) (.t 8) 1))⟩]) (.seq (.reg [rg 10 (.p true (.ld (.t 3) 2 true)), ⟨none, none, (.f (.st (.t 2) (.t 10) 2))⟩]) .ret)))))
theorem c151_is : compFn Try.prog 151 = some (c151, [(.cell (.ld (.t 2) 2 true))]) := by kernel_rfl
theorem c151_ok : okFn Try.prog 151 = true := by kernel_rfl

noncomputable def F_laws_toNote (v0 : TNote) : Option (TNote) :=
 some v0
@[simp] def res_laws_toNote (r : TNote) : RV := .one (.one (.val (eNote r)))
theorem con_laws_toNote {v0 : TNote} {r : TNote} (hF : F_laws_toNote v0 = some r) : Con Try.prog 151 [eNote v0] (res_laws_toNote r) := by
 unfold F_laws_toNote at hF
 refine con_of c151_is fun N => ?_
 refine ws 0 128 ?_
 refine qf (.ptr 0 0 0) [(0, .box [AI v0.1, AI v0.2])] (by simp) ?_
 refine qf (.ptr 64 0 0) [(64, .box [AI 0, AI 0]), (0, .box [AI v0.1, AI v0.2])] (by simp) ?_
 refine r_nil ?_
 refine ws 128 192 ?_
 refine qf (.ptr 128 0 0) [(128, .box [AI 0, AI 0]), (64, .box [AI 0, AI 0]), (0, .box [AI v0.1, AI v0.2])] (by simp) ?_
 refine r_nil ?_
 refine ws 192 448 ?_
 refine qp (.ptr 0 0 0) rfl (qp (AI v0.1) rfl (qp (.ptr 128 0 0) rfl ?_))
 refine qf0 (.undef) [(128, .box [AI v0.1, AI 0]), (128, .box [AI 0, AI 0]), (64, .box [AI 0, AI 0]), (0, .box [AI v0.1, AI v0.2])] (by simp) ?_
 refine r_nil ?_
 refine ws 448 704 ?_
 refine qp (.ptr 0 0 1) rfl (qp (AI v0.2) rfl (qp (.ptr 128 0 1) rfl ?_))
 refine qf0 (.undef) [(128, .box [AI v0.1, AI v0.2]), (128, .box [AI v0.1, AI 0]), (128, .box [AI 0, AI 0]), (64, .box [AI 0, AI 0]), (0, .box [AI v0.1, AI v0.2])] (by simp) ?_
 refine r_nil ?_
 refine ws 704 832 ?_
 refine qp (.agg [AI v0.1, AI v0.2]) rfl ?_
 refine qf0 (.undef) [(64, .box [AI v0.1, AI v0.2]), (128, .box [AI v0.1, AI v0.2]), (128, .box [AI v0.1, AI 0]), (128, .box [AI 0, AI 0]), (64, .box [AI 0, AI 0]), (0, .box [AI v0.1, AI v0.2])] (by simp) ?_
 refine r_nil ?_
 refine w_ret ?_
 cases hF
 exact eR

def c46 : MC := (.seq (.reg [rg 2 (.f (.nilrow 2))]) (.seq (.reg [mvt 5 0, rg 6 (.p true (.len (.t 5))), rg 7 (.f (.mks 2 16 (.agg [(.int .i64 0), (.int .i64 0)]) (.t 6) (.t 6))), mvt 3 7]) (.seq (.seq (.reg [rg 4 (.p true (.mv (.c (.int .i64 0))))]) (.block 0 (.loop (.seq (.seq (.reg [mvt 8 4, mvt 9 0, rg 10 (.p true (.len (.t 9))), rg 11 (.p true (.bin .lss (.t 8) (.t 10)))]) (.cond (.t 11) .skip (.exit 0))) (.seq (.block 1 (.reg [mvt 14 3, mvt 15 4, mvt 16 0, mvt 17 4, rg 18 (.p true (.iad (.t 16) (.t 17) 2)), rg 19 (.p true (.ld (.t 18) 2 true)), rg 20 (.call true 151 [(.t 19)]), rg 21 (.p true (.iad (.t 14) (.t 15) 2)), ⟨none, none, (.f (.st (.t 21) (.t 20) 2))⟩])) (.reg [mvt 12 4, rg 13 (.p true (.bin .add (.t 12) (.c (.int .i64 1)))), mvt 4 13])))))) (.seq (.reg [mvt 22 3, mvt 2 22]) .ret))))
theorem c46_is : compFn Try.prog 46 = some (c46, [(.tmp 2)]) := by kernel_rfl
theorem c46_ok : okFn Try.prog 46 = true := by kernel_rfl

noncomputable def F_laws_toNoteS_l0 (v0 : List TNote) (k1 : Int × (List TNote) → Option (List TNote)) : Int × (List TNote) → Option (List TNote)
 | (v1009, v1010) => (bif (decide (v1009 < (v0.length : Int))) then ((ix v0 v1009).bind fun v1011 => ((F_laws_toNote v1011).bind fun v1012 => ((ix v1010 v1009).bind fun v1013 => k1 (w64 (v1009 + 1), List.set v1010 v1009.toNat v1012))))
 else some v1010)
noncomputable def F_laws_toNoteS (v0 : List TNote) : Option (List TNote) :=
 (need (0 ≤ (v0.length : Int) ∧ (v0.length : Int) ≤ (v0.length : Int) ∧ (v0.length : Int) ≤ 9223372036854775807 ∧ 16 * (v0.length : Int) ≤ 281474976710656) (loop (F_laws_toNoteS_l0 v0) (0, List.replicate ((v0.length : Int)).toNat ((0, 0) : TNote))))
@[simp] def res_laws_toNoteS (r : List TNote) : RV := .one (.one (.row true 2 (r.map eNote)))
theorem con_laws_toNoteS {v0 : List TNote} {r : List TNote} (hF : F_laws_toNoteS v0 = some r) : Con Try.prog 46 [.sl 2 (v0.map eNote)] (res_laws_toNoteS r) := by
 unfold F_laws_toNoteS at hF
 refine con_of c46_is fun N => ?_
 refine ws 0 64 ?_
 refine qf (.sl 0 0 0) [(0, .row true 2 (([] : List Int).map vI))] (by simp) ?_
 refine r_nil ?_
 refine ws 64 320 ?_
 refine qp (AL 2 (v0.map eNote)) rfl (qp (AI (v0.length : Int)) (ev_len_n rfl) ?_)
 obtain ⟨g1000, hF⟩ := need_some hF
 refine qf (.sl 192 0 ((List.replicate ((v0.length : Int)).toNat ((0, 0) : TNote)).length)) [(192, .row true 2 ((List.replicate ((v0.length : Int)).toNat ((0, 0) : TNote)).map eNote)), (0, .row true 2 (([] : List Int).map vI))] (effT_mks rfl rfl g1000 rfl) ?_
 refine qp (.sl 192 0 ((List.replicate ((v0.length : Int)).toNat ((0, 0) : TNote)).length)) rfl ?_
 refine r_nil ?_
 refine w_seq ?_
 refine ws 320 384 ?_
 refine qp (AI 0) rfl ?_
 refine r_nil ?_
 refine w_block ?_
 refine wr (l' := [(0, AL 2 (v0.map eNote)), (3, .sl 0 0 (List.replicate ((v0.length : Int)).toNat ((0, 0) : TNote)).length), (4, AI 0)]) (L := [(0, .row true 2 ((List.replicate ((v0.length : Int)).toNat ((0, 0) : TNote)).map eNote))]) [0, 3, 4] [(192, 0)] 1 ?_
 refine w_loopF (F_laws_toNoteS_l0 v0) (fun s : Int × (List TNote) => mkS [(0, AL 2 (v0.map eNote)), (3, .sl 0 0 s.2.length), (4, AI s.1)] (fo [(0, .row true 2 (s.2.map eNote))]) 1) hF ?_
 rintro k1 ⟨v1009, v1010⟩ hF
 rw [F_laws_toNoteS_l0] at hF
 try dsimp only
 refine w_seq ?_
 refine ws 1 257 ?_
 refine qp (AI v1009) rfl (qp (AL 2 (v0.map eNote)) rfl (qp (AI (v0.length : Int)) (ev_len_n rfl) (qp (AB (decide (v1009 < (v0.length : Int)))) rfl ?_)))
 refine r_nil ?_
 refine cF hF (fun hF => ?_) fun hF => ?_
 ·
  refine w_skip ?_
  refine thenQ_n ?_
  refine w_seq ?_
  refine w_block ?_
  refine w_reg 257 833 rfl rfl ?_
  refine qp (.sl 0 0 v1010.length) rfl (qp (AI v1009) rfl (qp (AL 2 (v0.map eNote)) rfl (qp (AI v1009) rfl ?_)))
  obtain ⟨v1011, e1011, hF⟩ := bind_get hF
  refine qp (.val none (.ptr [.int .i64 v1011.1, .int .i64 v1011.2])) (ev_iad_n rfl rfl e1011 rfl) (qp (.val none (eNote v1011)) rfl ?_)
  obtain ⟨v1012, e1012, hF⟩ := bind_get hF
  refine qc (.val none (eNote v1012)) [(0, .row true 2 (v1010.map eNote))] false (con_laws_toNote e1012) c151_ok (by first | rfl | simp) rfl ?_
  obtain ⟨v1013, e1013, hF⟩ := bind_get hF
  refine qp (.ptr 0 v1009.toNat 0) (ev_iad_r rfl (by simp) rfl rfl e1013) ?_
  refine qf0 (.undef) [(0, .row true 2 ((List.set v1010 v1009.toNat v1012).map eNote)), (0, .row true 2 (v1010.map eNote))] (effT_st rfl rfl (ix_some e1013).2 rfl rfl (by rfl) (by first | rfl | simp [patch, reb, List.take_of_length_le]) (by rfl) rfl) ?_
  refine r_nil ?_
  refine blockQ_n ?_
  refine thenQ_n ?_
  refine w_reg 833 1025 rfl rfl ?_
  refine qp (AI v1009) rfl (qp (AI (w64 (v1009 + 1))) rfl (qp (AI (w64 (v1009 + 1))) rfl ?_))
  refine r_nil ?_
  refine thenQ_n ?_
  refine ar (l' := [(0, AL 2 (v0.map eNote)), (3, .sl 0 0 (List.set v1010 v1009.toNat v1012).length), (4, AI (w64 (v1009 + 1)))]) (L := [(0, .row true 2 ((List.set v1010 v1009.toNat v1012).map eNote))]) [0, 3, 4] [(0, 0)] 1 ⟨_, by rfl, hF⟩
 ·
  refine w_exit ?_
  refine thenQ_e ?_
  refine thenQ_e ?_
  refine blockQ_e ?_
  refine thenQ_n ?_
  refine ws 257 385 ?_
  refine qp (.sl 0 0 v1010.length) rfl (qp (.sl 0 0 v1010.length) rfl ?_)
  refine r_nil ?_
  refine w_ret ?_
  cases hF
  exact eR

def c47 : MC := (.seq (.reg [rg 1 (.f (.box (.t 0))), rg 2 (.f (.alloc [((.str []), (0, false)), ((.sl 0 []), (1, false)), ((.sl 0 []), (1, false))]))]) (.seq (.reg [rg 3 (.f (.alloc [((.str []), (0, false)), ((.sl 0 []), (1, false)), ((.sl 0 []), (1, false))]))]) (.seq (.reg [rg 4 (.p true (.fad (.t 1) 0)), rg 5 (.p true (.ld (.t 4) 1 false)), rg 6 (.p true (.fad (.t 3) 0)), ⟨none, none, (.f (.st (.t 6) (.t 5) 1))⟩]) (.seq (.reg [rg 7 (.p true (.fad (.t 1) 1)), rg 8 (.p true (.ld (.t 7) 1 false)), rg 9 (.call true 150 [(.t 8)]), rg 10 (.p true (.fad (.t 3) 1)), ⟨none, none, (.f (.st (.t 10) (.t 9) 1))⟩]) (.seq (.reg [rg 11 (.p true (.fad (.t 1) 2)), rg 12 (.p true (.ld (.t 11) 1 false)), rg 13 (.call true 150 [(.t 12)]), rg 14 (.p true (.fad (.t 3) 2)), ⟨none, none, (.f (.st (.t 14) (.t 13) 1))⟩]) (.seq (.reg [rg 15 (.p true (.ld (.t 3) 3 true)), ⟨none, none, (.f (.st (.t 2) (.t 15) 3))⟩]) .ret))))))
theorem c47_is : compFn Try.prog 47 = some (c47, [(.cell (.ld (.t 2) 3 true))]) := by kernel_rfl
theorem c47_ok : okFn Try.prog 47 = true := by kernel_rfl

noncomputable def F_laws_toTala (v0 : TTala) : Option (TTala) :=
 ((F_laws_toInt64S v0.2.1).bind fun v1000 => ((F_laws_toInt64S v0.2.2).bind fun v1001 => some (v0.1, v1000, v1001)))
@[simp] def res_laws_toTala (r : TTala) : RV := .one (.agg [.val (.str r.1), .row true 1 (r.2.1.map vI), .row true 1 (r.2.2.map vI)])
theorem con_laws_toTala {v0 : TTala} {r : TTala} (hF : F_laws_toTala v0 = some r) : Con Try.prog 47 [eTala v0] (res_laws_toTala r) := by
 unfold F_laws_toTala at hF
 refine con_of c47_is fun N => ?_
 refine ws 0 128 ?_
 refine qf (.ptr 0 0 0) [(0, .box [AS v0.1, AL 1 (v0.2.1.map vI), AL 1 (v0.2.2.map vI)])] (by simp) ?_
 refine qf (.ptr 64 0 0) [(64, .box [AS [], .sl 65 0 0, .sl 66 0 0]), (66, .row true 1 (([] : List Int).map vI)), (65, .row true 1 (([] : List Int).map vI)), (0, .box [AS v0.1, AL 1 (v0.2.1.map vI), AL 1 (v0.2.2.map vI)])] (by simp) ?_
 refine r_nil ?_
 refine ws 128 192 ?_
 refine qf (.ptr 128 0 0) [(128, .box [AS [], .sl 129 0 0, .sl 130 0 0]), (130, .row true 1 (([] : List Int).map vI)), (129, .row true 1 (([] : List Int).map vI)), (64, .box [AS [], .sl 65 0 0, .sl 66 0 0]), (66, .row true 1 (([] : List Int).map vI)), (65, .row true 1 (([] : List Int).map vI)), (0, .box [AS v0.1, AL 1 (v0.2.1.map vI), AL 1 (v0.2.2.map vI)])] (by simp) ?_
 refine r_nil ?_
 refine ws 192 448 ?_
 refine qp (.ptr 0 0 0) rfl (qp (AS v0.1) rfl (qp (.ptr 128 0 0) rfl ?_))
 refine qf0 (.undef) [(128, .box [AS v0.1, .sl 129 0 0, .sl 130 0 0]), (128, .box [AS [], .sl 129 0 0, .sl 130 0 0]), (130, .row true 1 (([] : List Int).map vI)), (129, .row true 1 (([] : List Int).map vI)), (64, .box [AS [], .sl 65 0 0, .sl 66 0 0]), (66, .row true 1 (([] : List Int).map vI)), (65, .row true 1 (([] : List Int).map vI)), (0, .box [AS v0.1, AL 1 (v0.2.1.map vI), AL 1 (v0.2.2.map vI)])] (by simp) ?_
 refine r_nil ?_
 refine ws 448 768 ?_
 refine qp (.ptr 0 0 1) rfl (qp (AL 1 (v0.2.1.map vI)) rfl ?_)
 obtain ⟨v1000, e1000, hF⟩ := bind_get hF
 refine qc (.sl 576 0 v1000.length) [(576, .row true 1 (v1000.map vI)), (128, .box [AS v0.1, .sl 129 0 0, .sl 130 0 0]), (128, .box [AS [], .sl 129 0 0, .sl 130 0 0]), (130, .row true 1 (([] : List Int).map vI)), (129, .row true 1 (([] : List Int).map vI)), (64, .box [AS [], .sl 65 0 0, .sl 66 0 0]), (66, .row true 1 (([] : List Int).map vI)), (65, .row true 1 (([] : List Int).map vI)), (0, .box [AS v0.1, AL 1 (v0.2.1.map vI), AL 1 (v0.2.2.map vI)])] false (con_laws_toInt64S e1000) c150_ok (by first | rfl | simp) (by simp [res_laws_toInt64S]) ?_
 refine qp (.ptr 128 0 1) rfl ?_
 refine qf0 (.undef) [(128, .box [AS v0.1, .sl 576 0 v1000.length, .sl 130 0 0]), (576, .row true 1 (v1000.map vI)), (128, .box [AS v0.1, .sl 129 0 0, .sl 130 0 0]), (128, .box [AS [], .sl 129 0 0, .sl 130 0 0]), (130, .row true 1 (([] : List Int).map vI)), (129, .row true 1 (([] : List Int).map vI)), (64, .box [AS [], .sl 65 0 0, .sl 66 0 0]), (66, .row true 1 (([] : List Int).map vI)), (65, .row true 1 (([] : List Int).map vI)), (0, .box [AS v0.1, AL 1 (v0.2.1.map vI), AL 1 (v0.2.2.map vI)])] (by simp) ?_
 refine r_nil ?_
 refine ws 768 1088 ?_
 refine qp (.ptr 0 0 2) rfl (qp (AL 1 (v0.2.2.map vI)) rfl ?_)
 obtain ⟨v1001, e1001, hF⟩ := bind_get hF
 refine qc (.sl 896 0 v1001.length) [(896, .row true 1 (v1001.map vI)), (128, .box [AS v0.1, .sl 576 0 v1000.length, .sl 130 0 0]), (576, .row true 1 (v1000.map vI)), (128, .box [AS v0.1, .sl 129 0 0, .sl 130 0 0]), (128, .box [AS [], .sl 129 0 0, .sl 130 0 0]), (130, .row true 1 (([] : List Int).map vI)), (129, .row true 1 (([] : List Int).map vI)), (64, .box [AS [], .sl 65 0 0, .sl 66 0 0]), (66, .row true 1 (([] : List Int).map vI)), (65, .row true 1 (([] : List Int).map vI)), (0, .box [AS v0.1, AL 1 (v0.2.1.map vI), AL 1 (v0.2.2.map vI)])] false (con_laws_toInt64S e1001) c150_ok (by first | rfl | simp) (by simp [res_laws_toInt64S]) ?_
 refine qp (.ptr 128 0 2) rfl ?_
 refine qf0 (.undef) [(128, .box [AS v0.1, .sl 576 0 v1000.length, .sl 896 0 v1001.length]), (896, .row true 1 (v1001.map vI)), (128, .box [AS v0.1, .sl 576 0 v1000.length, .sl 130 0 0]), (576, .row true 1 (v1000.map vI)), (128, .box [AS v0.1, .sl 129 0 0, .sl 130 0 0]), (128, .box [AS [], .sl 129 0 0, .sl 130 0 0]), (130, .row true 1 (([] : List Int).map vI)), (129, .row true 1 (([] : List Int).map vI)), (64, .box [AS [], .sl 65 0 0, .sl 66 0 0]), (66, .row true 1 (([] : List Int).map vI)), (65, .row true 1 (([] : List Int).map vI)), (0, .box [AS v0.1, AL 1 (v0.2.1.map vI), AL 1 (v0.2.2.map vI)])] (by simp) ?_
 refine r_nil ?_
 refine ws 1088 1216 ?_
 refine qp (.agg [AS v0.1, .sl 576 0 v1000.length, .sl 896 0 v1001.length]) rfl ?_
 refine qf0 (.undef) [(64, .box [AS v0.1, .sl 576 0 v1000.length, .sl 896 0 v1001.length]), (128, .box [AS v0.1, .sl 576 0 v1000.length, .sl 896 0 v1001.length]), (896, .row true 1 (v1001.map vI)), (128, .box [AS v0.1, .sl 576 0 v1000.length, .sl 130 0 0]), (576, .row true 1 (v1000.map vI)), (128, .box [AS v0.1, .sl 129 0 0, .sl 130 0 0]), (128, .box [AS [], .sl 129 0 0, .sl 130 0 0]), (130, .row true 1 (([] : List Int).map vI)), (129, .row true 1 (([] : List Int).map vI)), (64, .box [AS [], .sl 65 0 0, .sl 66 0 0]), (66, .row true 1 (([] : List Int).map vI)), (65, .row true 1 (([] : List Int).map vI)), (0, .box [AS v0.1, AL 1 (v0.2.1.map vI), AL 1 (v0.2.2.map vI)])] (by simp) ?_
 refine r_nil ?_
 refine w_ret ?_
 cases hF
 exact eR

def c152 : MC := (.seq (.reg [rg 1 (.f (.box (.t 0))), rg 2 (.f (.alloc [((.str []), (0, false)), ((.int .i64 0), (0, false)), ((.int .i64 0), (0, false))]))]) (.seq (.reg [rg 3 (.f (.alloc [((.str []), (0, false)), ((.int .i64 0), (0, false)), ((.int .i64 0), (0, false))]))]) (.seq (.reg [rg 4 (.p true (.fad (.t 1) 0)), rg 5 (.p true (.ld (.t 4) 1 false)), rg 6 (.p true (.fad (.t 3) 0)), ⟨none, none, (.f (.st (.t 6) (.t 5) 1))⟩]) (.seq (.reg [rg 7 (.p true (.fad (.t 1) 1)), rg 8 (.p true (.ld (.t 7) 1 false)), rg 9 (.p true (.fad (.t 3) 1)), ⟨none, none, (.f (.st (.t 9) (.t 8) 1))⟩]) (.seq (.reg [rg 10 (.p true (.fad (.t 1) 2)), rg 11 (.p true (.ld (.t 10) 1 false)), rg 12 (.p true (.fad (.t 3) 2)), ⟨none, none, (.f (.st (.t 12) (.t 11) 1))⟩]) (.seq (.reg [rg 13 (.p true (.ld (.t 3) 3 true)), ⟨none, none, (.f (.st (.t 2) (.t 13) 3))⟩]) .ret))))))
theorem c152_is : compFn Try.prog 152 = some (c152, [(.cell (.ld (.t 2) 3 true))]) := by kernel_rfl
theorem c152_ok : okFn Try.prog 152 = true := by kernel_rfl

noncomputable def F_laws_toTurn (v0 : TTurn) : Option (TTurn) :=
 some v0
@[simp] def res_laws_toTurn (r : TTurn) : RV := .one (.one (.val (eTurn r)))
theorem con_laws_toTurn {v0 : TTurn} {r : TTurn} (hF : F_laws_toTurn v0 = some r) : Con Try.prog 152 [eTurn v0] (res_laws_toTurn r) := by
 unfold F_laws_toTurn at hF
 refine con_of c152_is fun N => ?_
 refine ws 0 128 ?_
 refine qf (.ptr 0 0 0) [(0, .box [AS v0.1, AI v0.2.1, AI v0.2.2])] (by simp) ?_
 refine qf (.ptr 64 0 0) [(64, .box [AS [], AI 0, AI 0]), (0, .box [AS v0.1, AI v0.2.1, AI v0.2.2])] (by simp) ?_
 refine r_nil ?_
 refine ws 128 192 ?_
 refine qf (.ptr 128 0 0) [(128, .box [AS [], AI 0, AI 0]), (64, .box [AS [], AI 0, AI 0]), (0, .box [AS v0.1, AI v0.2.1, AI v0.2.2])] (by simp) ?_
 refine r_nil ?_
 refine ws 192 448 ?_
 refine qp (.ptr 0 0 0) rfl (qp (AS v0.1) rfl (qp (.ptr 128 0 0) rfl ?_))
 refine qf0 (.undef) [(128, .box [AS v0.1, AI 0, AI 0]), (128, .box [AS [], AI 0, AI 0]), (64, .box [AS [], AI 0, AI 0]), (0, .box [AS v0.1, AI v0.2.1, AI v0.2.2])] (by simp) ?_
 refine r_nil ?_
 refine ws 448 704 ?_
 refine qp (.ptr 0 0 1) rfl (qp (AI v0.2.1) rfl (qp (.ptr 128 0 1) rfl ?_))
 refine qf0 (.undef) [(128, .box [AS v0.1, AI v0.2.1, AI 0]), (128, .box [AS v0.1, AI 0, AI 0]), (128, .box [AS [], AI 0, AI 0]), (64, .box [AS [], AI 0, AI 0]), (0, .box [AS v0.1, AI v0.2.1, AI v0.2.2])] (by simp) ?_
 refine r_nil ?_
 refine ws 704 960 ?_
 refine qp (.ptr 0 0 2) rfl (qp (AI v0.2.2) rfl (qp (.ptr 128 0 2) rfl ?_))
 refine qf0 (.undef) [(128, .box [AS v0.1, AI v0.2.1, AI v0.2.2]), (128, .box [AS v0.1, AI v0.2.1, AI 0]), (128, .box [AS v0.1, AI 0, AI 0]), (128, .box [AS [], AI 0, AI 0]), (64, .box [AS [], AI 0, AI 0]), (0, .box [AS v0.1, AI v0.2.1, AI v0.2.2])] (by simp) ?_
 refine r_nil ?_
 refine ws 960 1088 ?_
 refine qp (.agg [AS v0.1, AI v0.2.1, AI v0.2.2]) rfl ?_
 refine qf0 (.undef) [(64, .box [AS v0.1, AI v0.2.1, AI v0.2.2]), (128, .box [AS v0.1, AI v0.2.1, AI v0.2.2]), (128, .box [AS v0.1, AI v0.2.1, AI 0]), (128, .box [AS v0.1, AI 0, AI 0]), (128, .box [AS [], AI 0, AI 0]), (64, .box [AS [], AI 0, AI 0]), (0, .box [AS v0.1, AI v0.2.1, AI v0.2.2])] (by simp) ?_
 refine r_nil ?_
 refine w_ret ?_
 cases hF
 exact eR

def c48 : MC := (.seq (.reg [rg 2 (.f (.nilrow 3))]) (.seq (.reg [mvt 5 0, rg 6 (.p true (.len (.t 5))), rg 7 (.f (.mks 3 32 (.agg [(.str []), (.int .i64 0), (.int .i64 0)]) (.t 6) (.t 6))), mvt 3 7]) (.seq (.seq (.reg [rg 4 (.p true (.mv (.c (.int .i64 0))))]) (.block 0 (.loop (.seq (.seq (.reg [mvt 8 4, mvt 9 0, rg 10 (.p true (.len (.t 9))), rg 11 (.p true (.bin .lss (.t 8) (.t 10)))]) (.cond (.t 11) .skip (.exit 0))) (.seq (.block 1 (.reg [mvt 14 3, mvt 15 4, mvt 16 0, mvt 17 4, rg 18 (.p true (.iad (.t 16) (.t 17) 3)), rg 19 (.p true (.ld (.t 18) 3 true)), rg 20 (.call true 152 [(.t 19)]), rg 21 (.p true (.iad (.t 14) (.t 15) 3)), ⟨none, none, (.f (.st (.t 21) (.t 20) 3))⟩])) (.reg [mvt 12 4, rg 13 (.p true (.bin .add (.t 12) (.c (.int .i64 1)))), mvt 4 13])))))) (.seq (.reg [mvt 22 3, mvt 2 22]) .ret))))
theorem c48_is : compFn Try.prog 48 = some (c48, [(.tmp 2)]) := by kernel_rfl
theorem c48_ok : okFn Try.prog 48 = true := by kernel_rfl

noncomputable def F_laws_toTurnS_l0 (v0 : List TTurn) (k1 : Int × (List TTurn) → Option (List TTurn)) : Int × (List TTurn) → Option (List TTurn)
 | (v1009, v1010) => (bif (decide (v1009 < (v0.length : Int))) then ((ix v0 v1009).bind fun v1011 => ((F_laws_toTurn v1011).bind fun v1012 => ((ix v1010 v1009).bind fun v1013 => k1 (w64 (v1009 + 1), List.set v1010 v1009.toNat v1012))))
 else some v1010)
noncomputable def F_laws_toTurnS (v0 : List TTurn) : Option (List TTurn) :=
 (need (0 ≤ (v0.length : Int) ∧ (v0.length : Int) ≤ (v0.length : Int) ∧ (v0.length : Int) ≤ 9223372036854775807 ∧ 32 * (v0.length : Int) ≤ 281474976710656) (loop (F_laws_toTurnS_l0 v0) (0, List.replicate ((v0.length : Int)).toNat (([], 0, 0) : TTurn))))
@[simp] def res_laws_toTurnS (r : List TTurn) : RV := .one (.one (.row true 3 (r.map eTurn)))
theorem con_laws_toTurnS {v0 : List TTurn} {r : List TTurn} (hF : F_laws_toTurnS v0 = some r) : Con Try.prog 48 [.sl 3 (v0.map eTurn)] (res_laws_toTurnS r) := by
 unfold F_laws_toTurnS at hF
 refine con_of c48_is fun N => ?_
 refine ws 0 64 ?_
 refine qf (.sl 0 0 0) [(0, .row true 3 (([] : List Int).map vI))] (by simp) ?_
 refine r_nil ?_
 refine ws 64 320 ?_
 refine qp (AL 3 (v0.map eTurn)) rfl (qp (AI (v0.length : Int)) (ev_len_n rfl) ?_)
 obtain ⟨g1000, hF⟩ := need_some hF
 refine qf (.sl 192 0 ((List.replicate ((v0.length : Int)).toNat (([], 0, 0) : TTurn)).length)) [(192, .row true 3 ((List.replicate ((v0.length : Int)).toNat (([], 0, 0) : TTurn)).map eTurn)), (0, .row true 3 (([] : List Int).map vI))] (effT_mks rfl rfl g1000 rfl) ?_
 refine qp (.sl 192 0 ((List.replicate ((v0.length : Int)).toNat (([], 0, 0) : TTurn)).length)) rfl ?_
 refine r_nil ?_
 refine w_seq ?_
 refine ws 320 384 ?_
 refine qp (AI 0) rfl ?_
 refine r_nil ?_
 refine w_block ?_
 refine wr (l' := [(0, AL 3 (v0.map eTurn)), (3, .sl 0 0 (List.replicate ((v0.length : Int)).toNat (([], 0, 0) : TTurn)).length), (4, AI 0)]) (L := [(0, .row true 3 ((List.replicate ((v0.length : Int)).toNat (([], 0, 0) : TTurn)).map eTurn))]) [0, 3, 4] [(192, 0)] 1 ?_
 refine w_loopF (F_laws_toTurnS_l0 v0) (fun s : Int × (List TTurn) => mkS [(0, AL 3 (v0.map eTurn)), (3, .sl 0 0 s.2.length), (4, AI s.1)] (fo [(0, .row true 3 (s.2.map eTurn))]) 1) hF ?_
 rintro k1 ⟨v1009, v1010⟩ hF
 rw [F_laws_toTurnS_l0] at hF
 try dsimp only
 refine w_seq ?_
 refine ws 1 257 ?_
 refine qp (AI v1009) rfl (qp (AL 3 (v0.map eTurn)) rfl (qp (AI (v0.length : Int)) (ev_len_n rfl) (qp (AB (decide (v1009 < (v0.length : Int)))) rfl ?_)))
 refine r_nil ?_
 refine cF hF (fun hF => ?_) fun hF => ?_
 ·
  refine w_skip ?_
  refine thenQ_n ?_
  refine w_seq ?_
  refine w_block ?_
  refine w_reg 257 833 rfl rfl ?_
  refine qp (.sl 0 0 v1010.length) rfl (qp (AI v1009) rfl (qp (AL 3 (v0.map eTurn)) rfl (qp (AI v1009) rfl ?_)))
  obtain ⟨v1011, e1011, hF⟩ := bind_get hF
  refine qp (.val none (.ptr [.str v1011.1, .int .i64 v1011.2.1, .int .i64 v1011.2.2])) (ev_iad_n rfl rfl e1011 rfl) (qp (.val none (eTurn v1011)) rfl ?_)
  obtain ⟨v1012, e1012, hF⟩ := bind_get hF
  refine qc (.val none (eTurn v1012)) [(0, .row true 3 (v1010.map eTurn))] false (con_laws_toTurn e1012) c152_ok (by first | rfl | simp) rfl ?_
  obtain ⟨v1013, e1013, hF⟩ := bind_get hF
  refine qp (.ptr 0 v1009.toNat 0) (ev_iad_r rfl (by simp) rfl rfl e1013) ?_
  refine qf0 (.undef) [(0, .row true 3 ((List.set v1010 v1009.toNat v1012).map eTurn)), (0, .row true 3 (v1010.map eTurn))] (effT_st rfl rfl (ix_some e1013).2 rfl rfl (by rfl) (by first | rfl | simp [patch, reb, List.take_of_length_le]) (by rfl) rfl) ?_
  refine r_nil ?_
  refine blockQ_n ?_
  refine thenQ_n ?_
  refine w_reg 833 1025 rfl rfl ?_
  refine qp (AI v1009) rfl (qp (AI (w64 (v1009 + 1))) rfl (qp (AI (w64 (v1009 + 1))) rfl ?_))
  refine r_nil ?_
  refine thenQ_n ?_
  refine ar (l' := [(0, AL 3 (v0.map eTurn)), (3, .sl 0 0 (List.set v1010 v1009.toNat v1012).length), (4, AI (w64 (v1009 + 1)))]) (L := [(0, .row true 3 ((List.set v1010 v1009.toNat v1012).map eTurn))]) [0, 3, 4] [(0, 0)] 1 ⟨_, by rfl, hF⟩
 ·
  refine w_exit ?_
  refine thenQ_e ?_
  refine thenQ_e ?_
  refine blockQ_e ?_
  refine thenQ_n ?_
  refine ws 257 385 ?_
  refine qp (.sl 0 0 v1010.length) rfl (qp (.sl 0 0 v1010.length) rfl ?_)
  refine r_nil ?_
  refine w_ret ?_
  cases hF
  exact eR

def c10 : MC := (.seq (.reg [rg 1 (.f (.box (.t 0))), rg 2 (.f (.alloc [((.str []), (0, false)), ((.sl 0 []), (1, false)), ((.sl 0 []), (1, false)), ((.int .i64 0), (0, false)), ((.int .i64 0), (0, false)), ((.sl 0 []), (1, false)), ((.int .i64 0), (0, false)), ((.int .i64 0), (0, false)), ((.sl 0 []), (2, false)), ((.str []), (0, false)), ((.sl 0 []), (1, false)), ((.sl 0 []), (1, false)), ((.int .i64 0), (0, false)), ((.str []), (0, false)), ((.int .i64 0), (0, false)), ((.int .i64 0), (0, false)), ((.int .i64 0), (0, false)), ((.sl 0 []), (3, false))]))]) (.seq (.reg [rg 3 (.f (.alloc [((.str []), (0, false)), ((.sl 0 []), (1, false)), ((.sl 0 []), (1, false)), ((.int .i64 0), (0, false)), ((.int .i64 0), (0, false)), ((.sl 0 []), (1, false)), ((.int .i64 0), (0, false)), ((.int .i64 0), (0, false)), ((.sl 0 []), (2, false)), ((.str []), (0, false)), ((.sl 0 []), (1, false)), ((.sl 0 []), (1, false)), ((.int .i64 0), (0, false)), ((.str []), (0, false)), ((.int .i64 0), (0, false)), ((.int .i64 0), (0, false)), ((.int .i64 0), (0, false)), ((.sl 0 []), (3, false))]))]) (.seq (.reg [rg 4 (.p true (.fad (.t 1) 0)), rg 5 (.p true (.ld (.t 4) 6 true)), rg 6 (.call true 45 [(.t 5)]), rg 7 (.p true (.fad (.t 3) 0)), ⟨none, none, (.f (.st (.t 7) (.t 6) 6))⟩]) (.seq (.reg [rg 8 (.p true (.fad (.t 1) 6)), rg 9 (.p true (.ld (.t 8) 1 false)), rg 10 (.p true (.fad (.t 3) 6)), ⟨none, none, (.f (.st (.t 10) (.t 9) 1))⟩]) (.seq (.reg [rg 11 (.p true (.fad (.t 1) 7)), rg 12 (.p true (.ld (.t 11) 1 false)), rg 13 (.p true (.fad (.t 3) 7)), ⟨none, none, (.f (.st (.t 13) (.t 12) 1))⟩]) (.seq (.reg [rg 14 (.p true (.fad (.t 1) 8)), rg 15 (.p true (.ld (.t 14) 1 false)), rg 16 (.call true 46 [(.t 15)]), rg 17 (.p true (.fad (.t 3) 8)), ⟨none, none, (.f (.st (.t 17) (.t 16) 1))⟩]) (.seq (.reg [rg 18 (.p true (.fad (.t 1) 9)), rg 19 (.p true (.ld (.t 18) 3 true)), rg 20 (.call true 47 [(.t 19)]), rg 21 (.p true (.fad (.t 3) 9)), ⟨none, none, (.f (.st (.t 21) (.t 20) 3))⟩]) (.seq (.reg [rg 22 (.p true (.fad (.t 1) 12)), rg 23 (.p true (.ld (.t 22) 1 false)), rg 24 (.p true (.fad (.t 3) 12)), ⟨none, none, (.f (.st (.t 24) (.t 23) 1))⟩]) (.seq (.reg [rg 25 (.p true (.fad (.t 1) 13)), rg 26 (.p true (.ld (.t 25) 1 false)), rg 27 (.p true (.fad (.t 3) 13)), ⟨none, none, (.f (.st (.t 27) (.t 26) 1))⟩]) (.seq (.reg [rg 28 (.p true (.fad (.t 1) 14)), rg 29 (.p true (.ld (.t 28) 1 false)), rg 30 (.p true (.fad (.t 3) 14)), ⟨none, none, (.f (.st (.t 30) (.t 29) 1))⟩]) (.seq (.reg [rg 31 (.p true (.fad (.t 1) 15)), rg 32 (.p true (.ld (.t 31) 1 false)), rg 33 (.p true (.fad (.t 3) 15)), ⟨none, none, (.f (.st (.t 33) (.t 32) 1))⟩]) (.seq (.reg [rg 34 (.p true (.fad (.t 1) 16)), rg 35 (.p true (.ld (.t 34) 1 false)), rg 36 (.p true (.fad (.t 3) 16)), ⟨none, none, (.f (.st (.t 36) (.t 35) 1))⟩]) (.seq (.reg [rg 37 (.p true (.fad (.t 1) 17)), rg 38 (.p true (.ld (.t 37) 1 false)), rg 39 (.call true 48 [(.t 38)]), rg 40 (.p true (.fad (.t 3) 17)), ⟨none, none, (.f (.st (.t 40) (.t 39) 1))⟩]) (.seq (.reg [rg 41 (.p true (.ld (.t 3) 18 true)), ⟨none, none, (.f (.st (.t 2) (.t 41) 18))⟩]) .ret))))))))))))))
theorem c10_is : compFn Try.prog 10 = some (c10, [(.cell (.ld (.t 2) 18 true))]) := by kernel_rfl
theorem c10_ok : okFn Try.prog 10 = true := by kernel_rfl

noncomputable def F_laws_toWork (v0 : TWork) : Option (TWork) :=
 ((F_laws_toRaga (v0.1, v0.2.1, v0.2.2.1, v0.2.2.2.1, v0.2.2.2.2.1, v0.2.2.2.2.2.1)).bind fun v1000 => ((F_laws_toNoteS v0.2.2.2.2.2.2.2.2.1).bind fun v1001 => ((F_laws_toTala (v0.2.2.2.2.2.2.2.2.2.1, v0.2.2.2.2.2.2.2.2.2.2.1, v0.2.2.2.2.2.2.2.2.2.2.2.1)).bind fun v1002 => ((F_laws_toTurnS v0.2.2.2.2.2.2.2.2.2.2.2.2.2.2.2.2.2).bind fun v1003 => some (v1000.1, v1000.2.1, v1000.2.2.1, v1000.2.2.2.1, v1000.2.2.2.2.1, v1000.2.2.2.2.2, v0.2.2.2.2.2.2.1, v0.2.2.2.2.2.2.2.1, v1001, v1002.1, v1002.2.1, v1002.2.2, v0.2.2.2.2.2.2.2.2.2.2.2.2.1, v0.2.2.2.2.2.2.2.2.2.2.2.2.2.1, v0.2.2.2.2.2.2.2.2.2.2.2.2.2.2.1, v0.2.2.2.2.2.2.2.2.2.2.2.2.2.2.2.1, v0.2.2.2.2.2.2.2.2.2.2.2.2.2.2.2.2.1, v1003)))))
@[simp] def res_laws_toWork (r : TWork) : RV := .one (.agg [.val (.str r.1), .row true 1 (r.2.1.map vI), .row true 1 (r.2.2.1.map vI), .val (.int .i64 r.2.2.2.1), .val (.int .i64 r.2.2.2.2.1), .row true 1 (r.2.2.2.2.2.1.map (eL 1 vI)), .val (.int .i64 r.2.2.2.2.2.2.1), .val (.int .i64 r.2.2.2.2.2.2.2.1), .row true 2 (r.2.2.2.2.2.2.2.2.1.map eNote), .val (.str r.2.2.2.2.2.2.2.2.2.1), .row true 1 (r.2.2.2.2.2.2.2.2.2.2.1.map vI), .row true 1 (r.2.2.2.2.2.2.2.2.2.2.2.1.map vI), .val (.int .i64 r.2.2.2.2.2.2.2.2.2.2.2.2.1), .val (.str r.2.2.2.2.2.2.2.2.2.2.2.2.2.1), .val (.int .i64 r.2.2.2.2.2.2.2.2.2.2.2.2.2.2.1), .val (.int .i64 r.2.2.2.2.2.2.2.2.2.2.2.2.2.2.2.1), .val (.int .i64 r.2.2.2.2.2.2.2.2.2.2.2.2.2.2.2.2.1), .row true 3 (r.2.2.2.2.2.2.2.2.2.2.2.2.2.2.2.2.2.map eTurn)])
theorem con_laws_toWork {v0 : TWork} {r : TWork} (hF : F_laws_toWork v0 = some r) : Con Try.prog 10 [eWork v0] (res_laws_toWork r) := by
 unfold F_laws_toWork at hF
 refine con_of c10_is fun N => ?_
 refine ws 0 128 ?_
 refine qf (.ptr 0 0 0) [(0, .box [AS v0.1, AL 1 (v0.2.1.map vI), AL 1 (v0.2.2.1.map vI), AI v0.2.2.2.1, AI v0.2.2.2.2.1, AL 1 (v0.2.2.2.2.2.1.map (eL 1 vI)), AI v0.2.2.2.2.2.2.1, AI v0.2.2.2.2.2.2.2.1, AL 2 (v0.2.2.2.2.2.2.2.2.1.map eNote), AS v0.2.2.2.2.2.2.2.2.2.1, AL 1 (v0.2.2.2.2.2.2.2.2.2.2.1.map vI), AL 1 (v0.2.2.2.2.2.2.2.2.2.2.2.1.map vI), AI v0.2.2.2.2.2.2.2.2.2.2.2.2.1, AS v0.2.2.2.2.2.2.2.2.2.2.2.2.2.1, AI v0.2.2.2.2.2.2.2.2.2.2.2.2.2.2.1, AI v0.2.2.2.2.2.2.2.2.2.2.2.2.2.2.2.1, AI v0.2.2.2.2.2.2.2.2.2.2.2.2.2.2.2.2.1, AL 3 (v0.2.2.2.2.2.2.2.2.2.2.2.2.2.2.2.2.2.map eTurn)])] (by simp) ?_
 refine qf (.ptr 64 0 0) [(64, .box [AS [], .sl 65 0 0, .sl 66 0 0, AI 0, AI 0, .sl 67 0 0, AI 0, AI 0, .sl 68 0 0, AS [], .sl 69 0 0, .sl 70 0 0, AI 0, AS [], AI 0, AI 0, AI 0, .sl 71 0 0]), (71, .row true 3 (([] : List Int).map vI)), (70, .row true 1 (([] : List Int).map vI)), (69, .row true 1 (([] : List Int).map vI)), (68, .row true 2 (([] : List Int).map vI)), (67, .row true 1 (([] : List Int).map vI)), (66, .row true 1 (([] : List Int).map vI)), (65, .row true 1 (([] : List Int).map vI)), (0, .box [AS v0.1, AL 1 (v0.2.1.map vI), AL 1 (v0.2.2.1.map vI), AI v0.2.2.2.1, AI v0.2.2.2.2.1, AL 1 (v0.2.2.2.2.2.1.map (eL 1 vI)), AI v0.2.2.2.2.2.2.1, AI v0.2.2.2.2.2.2.2.1, AL 2 (v0.2.2.2.2.2.2.2.2.1.map eNote), AS v0.2.2.2.2.2.2.2.2.2.1, AL 1 (v0.2.2.2.2.2.2.2.2.2.2.1.map vI), AL 1 (v0.2.2.2.2.2.2.2.2.2.2.2.1.map vI), AI v0.2.2.2.2.2.2.2.2.2.2.2.2.1, AS v0.2.2.2.2.2.2.2.2.2.2.2.2.2.1, AI v0.2.2.2.2.2.2.2.2.2.2.2.2.2.2.1, AI v0.2.2.2.2.2.2.2.2.2.2.2.2.2.2.2.1, AI v0.2.2.2.2.2.2.2.2.2.2.2.2.2.2.2.2.1, AL 3 (v0.2.2.2.2.2.2.2.2.2.2.2.2.2.2.2.2.2.map eTurn)])] (by simp) ?_
 refine r_nil ?_
 refine ws 128 192 ?_
 refine qf (.ptr 128 0 0) [(128, .box [AS [], .sl 129 0 0, .sl 130 0 0, AI 0, AI 0, .sl 131 0 0, AI 0, AI 0, .sl 132 0 0, AS [], .sl 133 0 0, .sl 134 0 0, AI 0, AS [], AI 0, AI 0, AI 0, .sl 135 0 0]), (135, .row true 3 (([] : List Int).map vI)), (134, .row true 1 (([] : List Int).map vI)), (133, .row true 1 (([] : List Int).map vI)), (132, .row true 2 (([] : List Int).map vI)), (131, .row true 1 (([] : List Int).map vI)), (130, .row true 1 (([] : List Int).map vI)), (129, .row true 1 (([] : List Int).map vI)), (64, .box [AS [], .sl 65 0 0, .sl 66 0 0, AI 0, AI 0, .sl 67 0 0, AI 0, AI 0, .sl 68 0 0, AS [], .sl 69 0 0, .sl 70 0 0, AI 0, AS [], AI 0, AI 0, AI 0, .sl 71 0 0]), (71, .row true 3 (([] : List Int).map vI)), (70, .row true 1 (([] : List Int).map vI)), (69, .row true 1 (([] : List Int).map vI)), (68, .row true 2 (([] : List Int).map vI)), (67, .row true 1 (([] : List Int).map vI)), (66, .row true 1 (([] : List Int).map vI)), (65, .row true 1 (([] : List Int).map vI)), (0, .box [AS v0.1, AL 1 (v0.2.1.map vI), AL 1 (v0.2.2.1.map vI), AI v0.2.2.2.1, AI v0.2.2.2.2.1, AL 1 (v0.2.2.2.2.2.1.map (eL 1 vI)), AI v0.2.2.2.2.2.2.1, AI v0.2.2.2.2.2.2.2.1, AL 2 (v0.2.2.2.2.2.2.2.2.1.map eNote), AS v0.2.2.2.2.2.2.2.2.2.1, AL 1 (v0.2.2.2.2.2.2.2.2.2.2.1.map vI), AL 1 (v0.2.2.2.2.2.2.2.2.2.2.2.1.map vI), AI v0.2.2.2.2.2.2.2.2.2.2.2.2.1, AS v0.2.2.2.2.2.2.2.2.2.2.2.2.2.1, AI v0.2.2.2.2.2.2.2.2.2.2.2.2.2.2.1, AI v0.2.2.2.2.2.2.2.2.2.2.2.2.2.2.2.1, AI v0.2.2.2.2.2.2.2.2.2.2.2.2.2.2.2.2.1, AL 3 (v0.2.2.2.2.2.2.2.2.2.2.2.2.2.2.2.2.2.map eTurn)])] (by simp) ?_
 refine r_nil ?_
 refine ws 192 512 ?_
 refine qp (.ptr 0 0 0) rfl (qp (.agg [AS v0.1, AL 1 (v0.2.1.map vI), AL 1 (v0.2.2.1.map vI), AI v0.2.2.2.1, AI v0.2.2.2.2.1, AL 1 (v0.2.2.2.2.2.1.map (eL 1 vI))]) rfl ?_)
 obtain ⟨v1000, e1000, hF⟩ := bind_get hF
 refine qc (.agg [AS v1000.1, .sl 321 0 v1000.2.1.length, .sl 322 0 v1000.2.2.1.length, AI v1000.2.2.2.1, AI v1000.2.2.2.2.1, .sl 325 0 v1000.2.2.2.2.2.length]) [(325, .row true 1 (v1000.2.2.2.2.2.map (eL 1 vI))), (322, .row true 1 (v1000.2.2.1.map vI)), (321, .row true 1 (v1000.2.1.map vI)), (128, .box [AS [], .sl 129 0 0, .sl 130 0 0, AI 0, AI 0, .sl 131 0 0, AI 0, AI 0, .sl 132 0 0, AS [], .sl 133 0 0, .sl 134 0 0, AI 0, AS [], AI 0, AI 0, AI 0, .sl 135 0 0]), (135, .row true 3 (([] : List Int).map vI)), (134, .row true 1 (([] : List Int).map vI)), (133, .row true 1 (([] : List Int).map vI)), (132, .row true 2 (([] : List Int).map vI)), (131, .row true 1 (([] : List Int).map vI)), (130, .row true 1 (([] : List Int).map vI)), (129, .row true 1 (([] : List Int).map vI)), (64, .box [AS [], .sl 65 0 0, .sl 66 0 0, AI 0, AI 0, .sl 67 0 0, AI 0, AI 0, .sl 68 0 0, AS [], .sl 69 0 0, .sl 70 0 0, AI 0, AS [], AI 0, AI 0, AI 0, .sl 71 0 0]), (71, .row true 3 (([] : List Int).map vI)), (70, .row true 1 (([] : List Int).map vI)), (69, .row true 1 (([] : List Int).map vI)), (68, .row true 2 (([] : List Int).map vI)), (67, .row true 1 (([] : List Int).map vI)), (66, .row true 1 (([] : List Int).map vI)), (65, .row true 1 (([] : List Int).map vI)), (0, .box [AS v0.1, AL 1 (v0.2.1.map vI), AL 1 (v0.2.2.1.map vI), AI v0.2.2.2.1, AI v0.2.2.2.2.1, AL 1 (v0.2.2.2.2.2.1.map (eL 1 vI)), AI v0.2.2.2.2.2.2.1, AI v0.2.2.2.2.2.2.2.1, AL 2 (v0.2.2.2.2.2.2.2.2.1.map eNote), AS v0.2.2.2.2.2.2.2.2.2.1, AL 1 (v0.2.2.2.2.2.2.2.2.2.2.1.map vI), AL 1 (v0.2.2.2.2.2.2.2.2.2.2.2.1.map vI), AI v0.2.2.2.2.2.2.2.2.2.2.2.2.1, AS v0.2.2.2.2.2.2.2.2.2.2.2.2.2.1, AI v0.2.2.2.2.2.2.2.2.2.2.2.2.2.2.1, AI v0.2.2.2.2.2.2.2.2.2.2.2.2.2.2.2.1, AI v0.2.2.2.2.2.2.2.2.2.2.2.2.2.2.2.2.1, AL 3 (v0.2.2.2.2.2.2.2.2.2.2.2.2.2.2.2.2.2.map eTurn)])] false (con_laws_toRaga e1000) c45_ok (by first | rfl | simp) (by simp [res_laws_toRaga]) ?_
 refine qp (.ptr 128 0 0) rfl ?_
 refine qf0 (.undef) [(128, .box [AS v1000.1, .sl 321 0 v1000.2.1.length, .sl 322 0 v1000.2.2.1.length, AI v1000.2.2.2.1, AI v1000.2.2.2.2.1, .sl 325 0 v1000.2.2.2.2.2.length, AI 0, AI 0, .sl 132 0 0, AS [], .sl 133 0 0, .sl 134 0 0, AI 0, AS [], AI 0, AI 0, AI 0, .sl 135 0 0]), (325, .row true 1 (v1000.2.2.2.2.2.map (eL 1 vI))), (322, .row true 1 (v1000.2.2.1.map vI)), (321, .row true 1 (v1000.2.1.map vI)), (128, .box [AS [], .sl 129 0 0, .sl 130 0 0, AI 0, AI 0, .sl 131 0 0, AI 0, AI 0, .sl 132 0 0, AS [], .sl 133 0 0, .sl 134 0 0, AI 0, AS [], AI 0, AI 0, AI 0, .sl 135 0 0]), (135, .row true 3 (([] : List Int).map vI)), (134, .row true 1 (([] : List Int).map vI)), (133, .row true 1 (([] : List Int).map vI)), (132, .row true 2 (([] : List Int).map vI)), (131, .row true 1 (([] : List Int).map vI)), (130, .row true 1 (([] : List Int).map vI)), (129, .row true 1 (([] : List Int).map vI)), (64, .box [AS [], .sl 65 0 0, .sl 66 0 0, AI 0, AI 0, .sl 67 0 0, AI 0, AI 0, .sl 68 0 0, AS [], .sl 69 0 0, .sl 70 0 0, AI 0, AS [], AI 0, AI 0, AI 0, .sl 71 0 0]), (71, .row true 3 (([] : List Int).map vI)), (70, .row true 1 (([] : List Int).map vI)), (69, .row true 1 (([] : List Int).map vI)), (68, .row true 2 (([] : List Int).map vI)), (67, .row true 1 (([] : List Int).map vI)), (66, .row true 1 (([] : List Int).map vI)), (65, .row true 1 (([] : List Int).map vI)), (0, .box [AS v0.1, AL 1 (v0.2.1.map vI), AL 1 (v0.2.2.1.map vI), AI v0.2.2.2.1, AI v0.2.2.2.2.1, AL 1 (v0.2.2.2.2.2.1.map (eL 1 vI)), AI v0.2.2.2.2.2.2.1, AI v0.2.2.2.2.2.2.2.1, AL 2 (v0.2.2.2.2.2.2.2.2.1.map eNote), AS v0.2.2.2.2.2.2.2.2.2.1, AL 1 (v0.2.2.2.2.2.2.2.2.2.2.1.map vI), AL 1 (v0.2.2.2.2.2.2.2.2.2.2.2.1.map vI), AI v0.2.2.2.2.2.2.2.2.2.2.2.2.1, AS v0.2.2.2.2.2.2.2.2.2.2.2.2.2.1, AI v0.2.2.2.2.2.2.2.2.2.2.2.2.2.2.1, AI v0.2.2.2.2.2.2.2.2.2.2.2.2.2.2.2.1, AI v0.2.2.2.2.2.2.2.2.2.2.2.2.2.2.2.2.1, AL 3 (v0.2.2.2.2.2.2.2.2.2.2.2.2.2.2.2.2.2.map eTurn)])] (by simp) ?_
 refine r_nil ?_
 refine ws 512 768 ?_
 refine qp (.ptr 0 0 6) rfl (qp (AI v0.2.2.2.2.2.2.1) rfl (qp (.ptr 128 0 6) rfl ?_))
 refine qf0 (.undef) [(128, .box [AS v1000.1, .sl 321 0 v1000.2.1.length, .sl 322 0 v1000.2.2.1.length, AI v1000.2.2.2.1, AI v1000.2.2.2.2.1, .sl 325 0 v1000.2.2.2.2.2.length, AI v0.2.2.2.2.2.2.1, AI 0, .sl 132 0 0, AS [], .sl 133 0 0, .sl 134 0 0, AI 0, AS [], AI 0, AI 0, AI 0, .sl 135 0 0]), (128, .box [AS v1000.1, .sl 321 0 v1000.2.1.length, .sl 322 0 v1000.2.2.1.length, AI v1000.2.2.2.1, AI v1000.2.2.2.2.1, .sl 325 0 v1000.2.2.2.2.2.length, AI 0, AI 0, .sl 132 0 0, AS [], .sl 133 0 0, .sl 134 0 0, AI 0, AS [], AI 0, AI 0, AI 0, .sl 135 0 0]), (325, .row true 1 (v1000.2.2.2.2.2.map (eL 1 vI))), (322, .row true 1 (v1000.2.2.1.map vI)), (321, .row true 1 (v1000.2.1.map vI)), (128, .box [AS [], .sl 129 0 0, .sl 130 0 0, AI 0, AI 0, .sl 131 0 0, AI 0, AI 0, .sl 132 0 0, AS [], .sl 133 0 0, .sl 134 0 0, AI 0, AS [], AI 0, AI 0, AI 0, .sl 135 0 0]), (135, .row true 3 (([] : List Int).map vI)), (134, .row true 1 (([] : List Int).map vI)), (133, .row true 1 (([] : List Int).map vI)), (132, .row true 2 (([] : List Int).map vI)), (131, .row true 1 (([] : List Int).map vI)), (130, .row true 1 (([] : List Int).map vI)), (129, .row true 1 (([] : List Int).map vI)), (64, .box [AS [], .sl 65 0 0, .sl 66 0 0, AI 0, AI 0, .sl 67 0 0, AI 0, AI 0, .sl 68 0 0, AS [], .sl 69 0 0, .sl 70 0 0, AI 0, AS [], AI 0, AI 0, AI 0, .sl 71 0 0]), (71, .row true 3 (([] : List Int).map vI)), (70, .row true 1 (([] : List Int).map vI)), (69, .row true 1 (([] : List Int).map vI)), (68, .row true 2 (([] : List Int).map vI)), (67, .row true 1 (([] : List Int).map vI)), (66, .row true 1 (([] : List Int).map vI)), (65, .row true 1 (([] : List Int).map vI)), (0, .box [AS v0.1, AL 1 (v0.2.1.map vI), AL 1 (v0.2.2.1.map vI), AI v0.2.2.2.1, AI v0.2.2.2.2.1, AL 1 (v0.2.2.2.2.2.1.map (eL 1 vI)), AI v0.2.2.2.2.2.2.1, AI v0.2.2.2.2.2.2.2.1, AL 2 (v0.2.2.2.2.2.2.2.2.1.map eNote), AS v0.2.2.2.2.2.2.2.2.2.1, AL 1 (v0.2.2.2.2.2.2.2.2.2.2.1.map vI), AL 1 (v0.2.2.2.2.2.2.2.2.2.2.2.1.map vI), AI v0.2.2.2.2.2.2.2.2.2.2.2.2.1, AS v0.2.2.2.2.2.2.2.2.2.2.2.2.2.1, AI v0.2.2.2.2.2.2.2.2.2.2.2.2.2.2.1, AI v0.2.2.2.2.2.2.2.2.2.2.2.2.2.2.2.1, AI v0.2.2.2.2.2.2.2.2.2.2.2.2.2.2.2.2.1, AL 3 (v0.2.2.2.2.2.2.2.2.2.2.2.2.2.2.2.2.2.map eTurn)])] (by simp) ?_
 refine r_nil ?_
 refine ws 768 1024 ?_
 refine qp (.ptr 0 0 7) rfl (qp (AI v0.2.2.2.2.2.2.2.1) rfl (qp (.ptr 128 0 7) rfl ?_))
 refine qf0 (.undef) [(128, .box [AS v1000.1, .sl 321 0 v1000.2.1.length, .sl 322 0 v1000.2.2.1.length, AI v1000.2.2.2.1, AI v1000.2.2.2.2.1, .sl 325 0 v1000.2.2.2.2.2.length, AI v0.2.2.2.2.2.2.1, AI v0.2.2.2.2.2.2.2.1, .sl 132 0 0, AS [], .sl 133 0 0, .sl 134 0 0, AI 0, AS [], AI 0, AI 0, AI 0, .sl 135 0 0]), (128, .box [AS v1000.1, .sl 321 0 v1000.2.1.length, .sl 322 0 v1000.2.2.1.length, AI v1000.2.2.2.1, AI v1000.2.2.2.2.1, .sl 325 0 v1000.2.2.2.2.2.length, AI v0.2.2.2.2.2.2.1, AI 0, .sl 132 0 0, AS [], .sl 133 0 0, .sl 134 0 0, AI 0, AS [], AI 0, AI 0, AI 0, .sl 135 0 0]), (128, .box [AS v1000.1, .sl 321 0 v1000.2.1.length, .sl 322 0 v1000.2.2.1.length, AI v1000.2.2.2.1, AI v1000.2.2.2.2.1, .sl 325 0 v1000.2.2.2.2.2.length, AI 0, AI 0, .sl 132 0 0, AS [], .sl 133 0 0, .sl 134 0 0, AI 0, AS [], AI 0, AI 0, AI 0, .sl 135 0 0]), (325, .row true 1 (v1000.2.2.2.2.2.map (eL 1 vI))), (322, .row true 1 (v1000.2.2.1.map vI)), (321, .row true 1 (v1000.2.1.map vI)), (128, .box [AS [], .sl 129 0 0, .sl 130 0 0, AI 0, AI 0, .sl 131 0 0, AI 0, AI 0, .sl 132 0 0, AS [], .sl 133 0 0, .sl 134 0 0, AI 0, AS [], AI 0, AI 0, AI 0, .sl 135 0 0]), (135, .row true 3 (([] : List Int).map vI)), (134, .row true 1 (([] : List Int).map vI)), (133, .row true 1 (([] : List Int).map vI)), (132, .row true 2 (([] : List Int).map vI)), (131, .row true 1 (([] : List Int).map vI)), (130, .row true 1 (([] : List Int).map vI)), (129, .row true 1 (([] : List Int).map vI)), (64, .box [AS [], .sl 65 0 0, .sl 66 0 0, AI 0, AI 0, .sl 67 0 0, AI 0, AI 0, .sl 68 0 0, AS [], .sl 69 0 0, .sl 70 0 0, AI 0, AS [], AI 0, AI 0, AI 0, .sl 71 0 0]), (71, .row true 3 (([] : List Int).map vI)), (70, .row true 1 (([] : List Int).map vI)), (69, .row true 1 (([] : List Int).map vI)), (68, .row true 2 (([] : List Int).map vI)), (67, .row true 1 (([] : List Int).map vI)), (66, .row true 1 (([] : List Int).map vI)), (65, .row true 1 (([] : List Int).map vI)), (0, .box [AS v0.1, AL 1 (v0.2.1.map vI), AL 1 (v0.2.2.1.map vI), AI v0.2.2.2.1, AI v0.2.2.2.2.1, AL 1 (v0.2.2.2.2.2.1.map (eL 1 vI)), AI v0.2.2.2.2.2.2.1, AI v0.2.2.2.2.2.2.2.1, AL 2 (v0.2.2.2.2.2.2.2.2.1.map eNote), AS v0.2.2.2.2.2.2.2.2.2.1, AL 1 (v0.2.2.2.2.2.2.2.2.2.2.1.map vI), AL 1 (v0.2.2.2.2.2.2.2.2.2.2.2.1.map vI), AI v0.2.2.2.2.2.2.2.2.2.2.2.2.1, AS v0.2.2.2.2.2.2.2.2.2.2.2.2.2.1, AI v0.2.2.2.2.2.2.2.2.2.2.2.2.2.2.1, AI v0.2.2.2.2.2.2.2.2.2.2.2.2.2.2.2.1, AI v0.2.2.2.2.2.2.2.2.2.2.2.2.2.2.2.2.1, AL 3 (v0.2.2.2.2.2.2.2.2.2.2.2.2.2.2.2.2.2.map eTurn)])] (by simp) ?_
 refine r_nil ?_
 refine ws 1024 1344 ?_
 refine qp (.ptr 0 0 8) rfl (qp (AL 2 (v0.2.2.2.2.2.2.2.2.1.map eNote)) rfl ?_)
 obtain ⟨v1001, e1001, hF⟩ := bind_get hF
 refine qc (.sl 1152 0 v1001.length) [(1152, .row true 2 (v1001.map eNote)), (128, .box [AS v1000.1, .sl 321 0 v1000.2.1.length, .sl 322 0 v1000.2.2.1.length, AI v1000.2.2.2.1, AI v1000.2.2.2.2.1, .sl 325 0 v1000.2.2.2.2.2.length, AI v0.2.2.2.2.2.2.1, AI v0.2.2.2.2.2.2.2.1, .sl 132 0 0, AS [], .sl 133 0 0, .sl 134 0 0, AI 0, AS [], AI 0, AI 0, AI 0, .sl 135 0 0]), (128, .box [AS v1000.1, .sl 321 0 v1000.2.1.length, .sl 322 0 v1000.2.2.1.length, AI v1000.2.2.2.1, AI v1000.2.2.2.2.1, .sl 325 0 v1000.2.2.2.2.2.length, AI v0.2.2.2.2.2.2.1, AI 0, .sl 132 0 0, AS [], .sl 133 0 0, .sl 134 0 0, AI 0, AS [], AI 0, AI 0, AI 0, .sl 135 0 0]), (128, .box [AS v1000.1, .sl 321 0 v1000.2.1.length, .sl 322 0 v1000.2.2.1.length, AI v1000.2.2.2.1, AI v1000.2.2.2.2.1, .sl 325 0 v1000.2.2.2.2.2.length, AI 0, AI 0, .sl 132 0 0, AS [], .sl 133 0 0, .sl 134 0 0, AI 0, AS [], AI 0, AI 0, AI 0, .sl 135 0 0]), (325, .row true 1 (v1000.2.2.2.2.2.map (eL 1 vI))), (322, .row true 1 (v1000.2.2.1.map vI)), (321, .row true 1 (v1000.2.1.map vI)), (128, .box [AS [], .sl 129 0 0, .sl 130 0 0, AI 0, AI 0, .sl 131 0 0, AI 0, AI 0, .sl 132 0 0, AS [], .sl 133 0 0, .sl 134 0 0, AI 0, AS [], AI 0, AI 0, AI 0, .sl 135 0 0]), (135, .row true 3 (([] : List Int).map vI)), (134, .row true 1 (([] : List Int).map vI)), (133, .row true 1 (([] : List Int).map vI)), (132, .row true 2 (([] : List Int).map vI)), (131, .row true 1 (([] : List Int).map vI)), (130, .row true 1 (([] : List Int).map vI)), (129, .row true 1 (([] : List Int).map vI)), (64, .box [AS [], .sl 65 0 0, .sl 66 0 0, AI 0, AI 0, .sl 67 0 0, AI 0, AI 0, .sl 68 0 0, AS [], .sl 69 0 0, .sl 70 0 0, AI 0, AS [], AI 0, AI 0, AI 0, .sl 71 0 0]), (71, .row true 3 (([] : List Int).map vI)), (70, .row true 1 (([] : List Int).map vI)), (69, .row true 1 (([] : List Int).map vI)), (68, .row true 2 (([] : List Int).map vI)), (67, .row true 1 (([] : List Int).map vI)), (66, .row true 1 (([] : List Int).map vI)), (65, .row true 1 (([] : List Int).map vI)), (0, .box [AS v0.1, AL 1 (v0.2.1.map vI), AL 1 (v0.2.2.1.map vI), AI v0.2.2.2.1, AI v0.2.2.2.2.1, AL 1 (v0.2.2.2.2.2.1.map (eL 1 vI)), AI v0.2.2.2.2.2.2.1, AI v0.2.2.2.2.2.2.2.1, AL 2 (v0.2.2.2.2.2.2.2.2.1.map eNote), AS v0.2.2.2.2.2.2.2.2.2.1, AL 1 (v0.2.2.2.2.2.2.2.2.2.2.1.map vI), AL 1 (v0.2.2.2.2.2.2.2.2.2.2.2.1.map vI), AI v0.2.2.2.2.2.2.2.2.2.2.2.2.1, AS v0.2.2.2.2.2.2.2.2.2.2.2.2.2.1, AI v0.2.2.2.2.2.2.2.2.2.2.2.2.2.2.1, AI v0.2.2.2.2.2.2.2.2.2.2.2.2.2.2.2.1, AI v0.2.2.2.2.2.2.2.2.2.2.2.2.2.2.2.2.1, AL 3 (v0.2.2.2.2.2.2.2.2.2.2.2.2.2.2.2.2.2.map eTurn)])] false (con_laws_toNoteS e1001) c46_ok (by first | rfl | simp) (by simp [res_laws_toNoteS]) ?_
 refine qp (.ptr 128 0 8) rfl ?_
 refine qf0 (.undef) [(128, .box [AS v1000.1, .sl 321 0 v1000.2.1.length, .sl 322 0 v1000.2.2.1.length, AI v1000.2.2.2.1, AI v1000.2.2.2.2.1, .sl 325 0 v1000.2.2.2.2.2.length, AI v0.2.2.2.2.2.2.1, AI v0.2.2.2.2.2.2.2.1, .sl 1152 0 v1001.length, AS [], .sl 133 0 0, .sl 134 0 0, AI 0, AS [], AI 0, AI 0, AI 0, .sl 135 0 0]), (1152, .row true 2 (v1001.map eNote)), (128, .box [AS v1000.1, .sl 321 0 v1000.2.1.length, .sl 322 0 v1000.2.2.1.length, AI v1000.2.2.2.1, AI v1000.2.2.2.2.1, .sl 325 0 v1000.2.2.2.2.2.length, AI v0.2.2.2.2.2.2.1, AI v0.2.2.2.2.2.2.2.1, .sl 132 0 0, AS [], .sl 133 0 0, .sl 134 0 0, AI 0, AS [], AI 0, AI 0, AI 0, .sl 135 0 0]), (128, .box [AS v1000.1, .sl 321 0 v1000.2.1.length, .sl 322 0 v1000.2.2.1.length, AI v1000.2.2.2.1, AI v1000.2.2.2.2.1, .sl 325 0 v1000.2.2.2.2.2.length, AI v0.2.2.2.2.2.2.1, AI 0, .sl 132 0 0, AS [], .sl 133 0 0, .sl 134 0 0, AI 0, AS [], AI 0, AI 0, AI 0, .sl 135 0 0]), (128, .box [AS v1000.1, .sl 321 0 v1000.2.1.length, .sl 322 0 v1000.2.2.1.length, AI v1000.2.2.2.1, AI v1000.2.2.2.2.1, .sl 325 0 v1000.2.2.2.2.2.length, AI 0, AI 0, .sl 132 0 0, AS [], .sl 133 0 0, .sl 134 0 0, AI 0, AS [], AI 0, AI 0, AI 0, .sl 135 0 0]), (325, .row true 1 (v1000.2.2.2.2.2.map (eL 1 vI))), (322, .row true 1 (v1000.2.2.1.map vI)), (321, .row true 1 (v1000.2.1.map vI)), (128, .box [AS [], .sl 129 0 0, .sl 130 0 0, AI 0, AI 0, .sl 131 0 0, AI 0, AI 0, .sl 132 0 0, AS [], .sl 133 0 0, .sl 134 0 0, AI 0, AS [], AI 0, AI 0, AI 0, .sl 135 0 0]), (135, .row true 3 (([] : List Int).map vI)), (134, .row true 1 (([] : List Int).map vI)), (133, .row true 1 (([] : List Int).map vI)), (132, .row true 2 (([] : List Int).map vI)), (131, .row true 1 (([] : List Int).map vI)), (130, .row true 1 (([] : List Int).map vI)), (129, .row true 1 (([] : List Int).map vI)), (64, .box [AS [], .sl 65 0 0, .sl 66 0 0, AI 0, AI 0, .sl 67 0 0, AI 0, AI 0, .sl 68 0 0, AS [], .sl 69 0 0, .sl 70 0 0, AI 0, AS [], AI 0, AI 0, AI 0, .sl 71 0 0]), (71, .row true 3 (([] : List Int).map vI)), (70, .row true 1 (([] : List Int).map vI)), (69, .row true 1 (([] : List Int).map vI)), (68, .row true 2 (([] : List Int).map vI)), (67, .row true 1 (([] : List Int).map vI)), (66, .row true 1 (([] : List Int).map vI)), (65, .row true 1 (([] : List Int).map vI)), (0, .box [AS v0.1, AL 1 (v0.2.1.map vI), AL 1 (v0.2.2.1.map vI), AI v0.2.2.2.1, AI v0.2.2.2.2.1, AL 1 (v0.2.2.2.2.2.1.map (eL 1 vI)), AI v0.2.2.2.2.2.2.1, AI v0.2.2.2.2.2.2.2.1, AL 2 (v0.2.2.2.2.2.2.2.2.1.map eNote), AS v0.2.2.2.2.2.2.2.2.2.1, AL 1 (v0.2.2.2.2.2.2.2.2.2.2.1.map vI), AL 1 (v0.2.2.2.2.2.2.2.2.2.2.2.1.map vI), AI v0.2.2.2.2.2.2.2.2.2.2.2.2.1, AS v0.2.2.2.2.2.2.2.2.2.2.2.2.2.1, AI v0.2.2.2.2.2.2.2.2.2.2.2.2.2.2.1, AI v0.2.2.2.2.2.2.2.2.2.2.2.2.2.2.2.1, AI v0.2.2.2.2.2.2.2.2.2.2.2.2.2.2.2.2.1, AL 3 (v0.2.2.2.2.2.2.2.2.2.2.2.2.2.2.2.2.2.map eTurn)])] (by simp) ?_
 refine r_nil ?_
 refine ws 1344 1664 ?_
 refine qp (.ptr 0 0 9) rfl (qp (.agg [AS v0.2.2.2.2.2.2.2.2.2.1, AL 1 (v0.2.2.2.2.2.2.2.2.2.2.1.map vI), AL 1 (v0.2.2.2.2.2.2.2.2.2.2.2.1.map vI)]) rfl ?_)
 obtain ⟨v1002, e1002, hF⟩ := bind_get hF
 refine qc (.agg [AS v1002.1, .sl 1473 0 v1002.2.1.length, .sl 1474 0 v1002.2.2.length]) [(1474, .row true 1 (v1002.2.2.map vI)), (1473, .row true 1 (v1002.2.1.map vI)), (128, .box [AS v1000.1, .sl 321 0 v1000.2.1.length, .sl 322 0 v1000.2.2.1.length, AI v1000.2.2.2.1, AI v1000.2.2.2.2.1, .sl 325 0 v1000.2.2.2.2.2.length, AI v0.2.2.2.2.2.2.1, AI v0.2.2.2.2.2.2.2.1, .sl 1152 0 v1001.length, AS [], .sl 133 0 0, .sl 134 0 0, AI 0, AS [], AI 0, AI 0, AI 0, .sl 135 0 0]), (1152, .row true 2 (v1001.map eNote)), (128, .box [AS v1000.1, .sl 321 0 v1000.2.1.length, .sl 322 0 v1000.2.2.1.length, AI v1000.2.2.2.1, AI v1000.2.2.2.2.1, .sl 325 0 v1000.2.2.2.2.2.length, AI v0.2.2.2.2.2.2.1, AI v0.2.2.2.2.2.2.2.1, .sl 132 0 0, AS [], .sl 133 0 0, .sl 134 0 0, AI 0, AS [], AI 0, AI 0, AI 0, .sl 135 0 0]), (128, .box [AS v1000.1, .sl 321 0 v1000.2.1.length, .sl 322 0 v1000.2.2.1.length, AI v1000.2.2.2.1, AI v1000.2.2.2.2.1, .sl 325 0 v1000.2.2.2.2.2.length, AI v0.2.2.2.2.2.2.1, AI 0, .sl 132 0 0, AS [], .sl 133 0 0, .sl 134 0 0, AI 0, AS [], AI 0, AI 0, AI 0, .sl 135 0 0]), (128, .box [AS v1000.1, .sl 321 0 v1000.2.1.length, .sl 322 0 v1000.2.2.1.length, AI v1000.2.2.2.1, AI v1000.2.2.2.2.1, .sl 325 0 v1000.2.2.2.2.2.length, AI 0, AI 0, .sl 132 0 0, AS [], .sl 133 0 0, .sl 134 0 0, AI 0, AS [], AI 0, AI 0, AI 0, .sl 135 0 0]), (325, .row true 1 (v1000.2.2.2.2.2.map (eL 1 vI))), (322, .row true 1 (v1000.2.2.1.map vI)), (321, .row true 1 (v1000.2.1.map vI)), (128, .box [AS [], .sl 129 0 0, .sl 130 0 0, AI 0, AI 0, .sl 131 0 0, AI 0, AI 0, .sl 132 0 0, AS [], .sl 133 0 0, .sl 134 0 0, AI 0, AS [], AI 0, AI 0, AI 0, .sl 135 0 0]), (135, .row true 3 (([] : List Int).map vI)), (134, .row true 1 (([] : List Int).map vI)), (133, .row true 1 (([] : List Int).map vI)), (132, .row true 2 (([] : List Int).map vI)), (131, .row true 1 (([] : List Int).map vI)), (130, .row true 1 (([] : List Int).map vI)), (129, .row true 1 (([] : List Int).map vI)), (64, .box [AS [], .sl 65 0 0, .sl 66 0 0, AI 0, AI 0, .sl 67 0 0, AI 0, AI 0, .sl 68 0 0, AS [], .sl 69 0 0, .sl 70 0 0, AI 0, AS [], AI 0, AI 0, AI 0, .sl 71 0 0]), (71, .row true 3 (([] : List Int).map vI)), (70, .row true 1 (([] : List Int).map vI)), (69, .row true 1 (([] : List Int).map vI)), (68, .row true 2 (([] : List Int).map vI)), (67, .row true 1 (([] : List Int).map vI)), (66, .row true 1 (([] : List Int).map vI)), (65, .row true 1 (([] : List Int).map vI)), (0, .box [AS v0.1, AL 1 (v0.2.1.map vI), AL 1 (v0.2.2.1.map vI), AI v0.2.2.2.1, AI v0.2.2.2.2.1, AL 1 (v0.2.2.2.2.2.1.map (eL 1 vI)), AI v0.2.2.2.2.2.2.1, AI v0.2.2.2.2.2.2.2.1, AL 2 (v0.2.2.2.2.2.2.2.2.1.map eNote), AS v0.2.2.2.2.2.2.2.2.2.1, AL 1 (v0.2.2.2.2.2.2.2.2.2.2.1.map vI), AL 1 (v0.2.2.2.2.2.2.2.2.2.2.2.1.map vI), AI v0.2.2.2.2.2.2.2.2.2.2.2.2.1, AS v0.2.2.2.2.2.2.2.2.2.2.2.2.2.1, AI v0.2.2.2.2.2.2.2.2.2.2.2.2.2.2.1, AI v0.2.2.2.2.2.2.2.2.2.2.2.2.2.2.2.1, AI v0.2.2.2.2.2.2.2.2.2.2.2.2.2.2.2.2.1, AL 3 (v0.2.2.2.2.2.2.2.2.2.2.2.2.2.2.2.2.2.map eTurn)])] false (con_laws_toTala e1002) c47_ok (by first | rfl | simp) (by simp [res_laws_toTala]) ?_
 refine qp (.ptr 128 0 9) rfl ?_
 refine qf0 (.undef) [(128, .box [AS v1000.1, .sl 321 0 v1000.2.1.length, .sl 322 0 v1000.2.2.1.length, AI v1000.2.2.2.1, AI v1000.2.2.2.2.1, .sl 325 0 v1000.2.2.2.2.2.length, AI v0.2.2.2.2.2.2.1, AI v0.2.2.2.2.2.2.2.1, .sl 1152 0 v1001.length, AS v1002.1, .sl 1473 0 v1002.2.1.length, .sl 1474 0 v1002.2.2.length, AI 0, AS [], AI 0, AI 0, AI 0, .sl 135 0 0]), (1474, .row true 1 (v1002.2.2.map vI)), (1473, .row true 1 (v1002.2.1.map vI)), (128, .box [AS v1000.1, .sl 321 0 v1000.2.1.length, .sl 322 0 v1000.2.2.1.length, AI v1000.2.2.2.1, AI v1000.2.2.2.2.1, .sl 325 0 v1000.2.2.2.2.2.length, AI v0.2.2.2.2.2.2.1, AI v0.2.2.2.2.2.2.2.1, .sl 1152 0 v1001.length, AS [], .sl 133 0 0, .sl 134 0 0, AI 0, AS [], AI 0, AI 0, AI 0, .sl 135 0 0]), (1152, .row true 2 (v1001.map eNote)), (128, .box [AS v1000.1, .sl 321 0 v1000.2.1.length, .sl 322 0 v1000.2.2.1.length, AI v1000.2.2.2.1, AI v1000.2.2.2.2.1, .sl 325 0 v1000.2.2.2.2.2.length, AI v0.2.2.2.2.2.2.1, AI v0.2.2.2.2.2.2.2.1, .sl 132 0 0, AS [], .sl 133 0 0, .sl 134 0 0, AI 0, AS [], AI 0, AI 0, AI 0, .sl 135 0 0]), (128, .box [AS v1000.1, .sl 321 0 v1000.2.1.length, .sl 322 0 v1000.2.2.1.length, AI v1000.2.2.2.1, AI v1000.2.2.2.2.1, .sl 325 0 v1000.2.2.2.2.2.length, AI v0.2.2.2.2.2.2.1, AI 0, .sl 132 0 0, AS [], .sl 133 0 0, .sl 134 0 0, AI 0, AS [], AI 0, AI 0, AI 0, .sl 135 0 0]), (128, .box [AS v1000.1, .sl 321 0 v1000.2.1.length, .sl 322 0 v1000.2.2.1.length, AI v1000.2.2.2.1, AI v1000.2.2.2.2.1, .sl 325 0 v1000.2.2.2.2.2.length, AI 0, AI 0, .sl 132 0 0, AS [], .sl 133 0 0, .sl 134 0 0, AI 0, AS [], AI 0, AI 0, AI 0, .sl 135 0 0]), (325, .row true 1 (v1000.2.2.2.2.2.map (eL 1 vI))), (322, .row true 1 (v1000.2.2.1.map vI)), (321, .row true 1 (v1000.2.1.map vI)), (128, .box [AS [], .sl 129 0 0, .sl 130 0 0, AI 0, AI 0, .sl 131 0 0, AI 0, AI 0, .sl 132 0 0, AS [], .sl 133 0 0, .sl 134 0 0, AI 0, AS [], AI 0, AI 0, AI 0, .sl 135 0 0]), (135, .row true 3 (([] : List Int).map vI)), (134, .row true 1 (([] : List Int).map vI)), (133, .row true 1 (([] : List Int).map vI)), (132, .row true 2 (([] : List Int).map vI)), (131, .row true 1 (([] : List Int).map vI)), (130, .row true 1 (([] : List Int).map vI)), (129, .row true 1 (([] : List Int).map vI)), (64, .box [AS [], .sl 65 0 0, .sl 66 0 0, AI 0, AI 0, .sl 67 0 0, AI 0, AI 0, .sl 68 0 0, AS [], .sl 69 0 0, .sl 70 0 0, AI 0, AS [], AI 0, AI 0, AI 0, .sl 71 0 0]), (71, .row true 3 (([] : List Int).map vI)), (70, .row true 1 (([] : List Int).map vI)), (69, .row true 1 (([] : List Int).map vI)), (68, .row true 2 (([] : List Int).map vI)), (67, .row true 1 (([] : List Int).map vI)), (66, .row true 1 (([] : List Int).map vI)), (65, .row true 1 (([] : List Int).map vI)), (0, .box [AS v0.1, AL 1 (v0.2.1.map vI), AL 1 (v0.2.2.1.map vI), AI v0.2.2.2.1, AI v0.2.2.2.2.1, AL 1 (v0.2.2.2.2.2.1.map (eL 1 vI)), AI v0.2.2.2.2.2.2.1, AI v0.2.2.2.2.2.2.2.1, AL 2 (v0.2.2.2.2.2.2.2.2.1.map eNote), AS v0.2.2.2.2.2.2.2.2.2.1, AL 1 (v0.2.2.2.2.2.2.2.2.2.2.1.map vI), AL 1 (v0.2.2.2.2.2.2.2.2.2.2.2.1.map vI), AI v0.2.2.2.2.2.2.2.2.2.2.2.2.1, AS v0.2.2.2.2.2.2.2.2.2.2.2.2.2.1, AI v0.2.2.2.2.2.2.2.2.2.2.2.2.2.2.1, AI v0.2.2.2.2.2.2.2.2.2.2.2.2.2.2.2.1, AI v0.2.2.2.2.2.2.2.2.2.2.2.2.2.2.2.2.1, AL 3 (v0.2.2.2.2.2.2.2.2.2.2.2.2.2.2.2.2.2.map eTurn)])] (by simp) ?_
 refine r_nil ?_
 refine ws 1664 1920 ?_
 refine qp (.ptr 0 0 12) rfl (qp (AI v0.2.2.2.2.2.2.2.2.2.2.2.2.1) rfl (qp (.ptr 128 0 12) rfl ?_))
 refine qf0 (.undef) [(128, .box [AS v1000.1, .sl 321 0 v1000.2.1.length, .sl 322 0 v1000.2.2.1.length, AI v1000.2.2.2.1, AI v1000.2.2.2.2.1, .sl 325 0 v1000.2.2.2.2.2.length, AI v0.2.2.2.2.2.2.1, AI v0.2.2.2.2.2.2.2.1, .sl 1152 0 v1001.length, AS v1002.1, .sl 1473 0 v1002.2.1.length, .sl 1474 0 v1002.2.2.length, AI v0.2.2.2.2.2.2.2.2.2.2.2.2.1, AS [], AI 0, AI 0, AI 0, .sl 135 0 0]), (128, .box [AS v1000.1, .sl 321 0 v1000.2.1.length, .sl 322 0 v1000.2.2.1.length, AI v1000.2.2.2.1, AI v1000.2.2.2.2.1, .sl 325 0 v1000.2.2.2.2.2.length, AI v0.2.2.2.2.2.2.1, AI v0.2.2.2.2.2.2.2.1, .sl 1152 0 v1001.length, AS v1002.1, .sl 1473 0 v1002.2.1.length, .sl 1474 0 v1002.2.2.length, AI 0, AS [], AI 0, AI 0, AI 0, .sl 135 0 0]), (1474, .row true 1 (v1002.2.2.map vI)), (1473, .row true 1 (v1002.2.1.map vI)), (128, .box [AS v1000.1, .sl 321 0 v1000.2.1.length, .sl 322 0 v1000.2.2.1.length, AI v1000.2.2.2.1, AI v1000.2.2.2.2.1, .sl 325 0 v1000.2.2.2.2.2.length, AI v0.2.2.2.2.2.2.1, AI v0.2.2.2.2.2.2.2.1, .sl 1152 0 v1001.length, AS [], .sl 133 0 0, .sl 134 0 0, AI 0, AS [], AI 0, AI 0, AI 0, .sl 135 0 0]), (1152, .row true 2 (v1001.map eNote)), (128, .box [AS v1000.1, .sl 321 0 v1000.2.1.length, .sl 322 0 v1000.2.2.1.length, AI v1000.2.2.2.1, AI v1000.2.2.2.2.1, .sl 325 0 v1000.2.2.2.2.2.length, AI v0.2.2.2.2.2.2.1, AI v0.2.2.2.2.2.2.2.1, .sl 132 0 0, AS [], .sl 133 0 0, .sl 134 0 0, AI 0, AS [], AI 0, AI 0, AI 0, .sl 135 0 0]), (128, .box [AS v1000.1, .sl 321 0 v1000.2.1.length, .sl 322 0 v1000.2.2.1.length, AI v1000.2.2.2.1, AI v1000.2.2.2.2.1, .sl 325 0 v1000.2.2.2.2.2.length, AI v0.2.2.2.2.2.2.1, AI 0, .sl 132 0 0, AS [], .sl 133 0 0, .sl 134 0 0, AI 0, AS [], AI 0, AI 0, AI 0, .sl 135 0 0]), (128, .box [AS v1000.1, .sl 321 0 v1000.2.1.length, .sl 322 0 v1000.2.2.1.length, AI v1000.2.2.2.1, AI v1000.2.2.2.2.1, .sl 325 0 v1000.2.2.2.2.2.length, AI 0, AI 0, .sl 132 0 0, AS [], .sl 133 0 0, .sl 134 0 0, AI 0, AS [], AI 0, AI 0, AI 0, .sl 135 0 0]), (325, .row true 1 (v1000.2.2.2.2.2.map (eL 1 vI))), (322, .row true 1 (v1000.2.2.1.map vI)), (321, .row true 1 (v1000.2.1.map vI)), (128, .box [AS [], .sl 129 0 0, .sl 130 0 0, AI 0, AI 0, .sl 131 0 0, AI 0, AI 0, .sl 132 0 0, AS [], .sl 133 0 0, .sl 134 0 0, AI 0, AS [], AI 0, AI 0, AI 0, .sl 135 0 0]), (135, .row true 3 (([] : List Int).map vI)), (134, .row true 1 (([] : List Int).map vI)), (133, .row true 1 (([] : List Int).map vI)), (132, .row true 2 (([] : List Int).map vI)), (131, .row true 1 (([] : List Int).map vI)), (130, .row true 1 (([] : List Int).map vI)), (129, .row true 1 (([] : List Int).map vI)), (64, .box [AS [], .sl 65 0 0, .sl 66 0 0, AI 0, AI 0, .sl 67 0 0, AI 0, AI 0, .sl 68 0 0, AS [], .sl 69 0 0, .sl 70 0 0, AI 0, AS [], AI 0, AI 0, AI 0, .sl 71 0 0]), (71, .row true 3 (([] : List Int).map vI)), (70, .row true 1 (([] : List Int).map vI)), (69, .row true 1 (([] : List Int).map vI)), (68, .row true 2 (([] : List Int).map vI)), (67, .row true 1 (([] : List Int).map vI)), (66, .row true 1 (([] : List Int).map vI)), (65, .row true 1 (([] : List Int).map vI)), (0, .box [AS v0.1, AL 1 (v0.2.1.map vI), AL 1 (v0.2.2.1.map vI), AI v0.2.2.2.1, AI v0.2.2.2.2.1, AL 1 (v0.2.2.2.2.2.1.map (eL 1 vI)), AI v0.2.2.2.2.2.2.1, AI v0.2.2.2.2.2.2.2.1, AL 2 (v0.2.2.2.2.2.2.2.2.1.map eNote), AS v0.2.2.2.2.2.2.2.2.2.1, AL 1 (v0.2.2.2.2.2.2.2.2.2.2.1.map vI), AL 1 (v0.2.2.2.2.2.2.2.2.2.2.2.1.map vI), AI v0.2.2.2.2.2.2.2.2.2.2.2.2.1, AS v0.2.2.2.2.2.2.2.2.2.2.2.2.2.1, AI v0.2.2.2.2.2.2.2.2.2.2.2.2.2.2.1, AI v0.2.2.2.2.2.2.2.2.2.2.2.2.2.2.2.1, AI v0.2.2.2.2.2.2.2.2.2.2.2.2.2.2.2.2.1, AL 3 (v0.2.2.2.2.2.2.2.2.2.2.2.2.2.2.2.2.2.map eTurn)])] (by simp) ?_
 refine r_nil ?_
 refine ws 1920 2176 ?_
 refine qp (.ptr 0 0 13) rfl (qp (AS v0.2.2.2.2.2.2.2.2.2.2.2.2.2.1) rfl (qp (.ptr 128 0 13) rfl ?_))
 refine qf0 (.undef) [(128, .box [AS v1000.1, .sl 321 0 v1000.2.1.length, .sl 322 0 v1000.2.2.1.length, AI v1000.2.2.2.1, AI v1000.2.2.2.2.1, .sl 325 0 v1000.2.2.2.2.2.length, AI v0.2.2.2.2.2.2.1, AI v0.2.2.2.2.2.2.2.1, .sl 1152 0 v1001.length, AS v1002.1, .sl 1473 0 v1002.2.1.length, .sl 1474 0 v1002.2.2.length, AI v0.2.2.2.2.2.2.2.2.2.2.2.2.1, AS v0.2.2.2.2.2.2.2.2.2.2.2.2.2.1, AI 0, AI 0, AI 0, .sl 135 0 0]), (128, .box [AS v1000.1, .sl 321 0 v1000.2.1.length, .sl 322 0 v1000.2.2.1.length, AI v1000.2.2.2.1, AI v1000.2.2.2.2.1, .sl 325 0 v1000.2.2.2.2.2.length, AI v0.2.2.2.2.2.2.1, AI v0.2.2.2.2.2.2.2.1, .sl 1152 0 v1001.length, AS v1002.1, .sl 1473 0 v1002.2.1.length, .sl 1474 0 v1002.2.2.length, AI v0.2.2.2.2.2.2.2.2.2.2.2.2.1, AS [], AI 0, AI 0, AI 0, .sl 135 0 0]), (128, .box [AS v1000.1, .sl 321 0 v1000.2.1.length, .sl 322 0 v1000.2.2.1.length, AI v1000.2.2.2.1, AI v1000.2.2.2.2.1, .sl 325 0 v1000.2.2.2.2.2.length, AI v0.2.2.2.2.2.2.1, AI v0.2.2.2.2.2.2.2.1, .sl 1152 0 v1001.length, AS v1002.1, .sl 1473 0 v1002.2.1.length, .sl 1474 0 v1002.2.2.length, AI 0, AS [], AI 0, AI 0, AI 0, .sl 135 0 0]), (1474, .row true 1 (v1002.2.2.map vI)), (1473, .row true 1 (v1002.2.1.map vI)), (128, .box [AS v1000.1, .sl 321 0 v1000.2.1.length, .sl 322 0 v1000.2.2.1.length, AI v1000.2.2.2.1, AI v1000.2.2.2.2.1, .sl 325 0 v1000.2.2.2.2.2.length, AI v0.2.2.2.2.2.2.1, AI v0.2.2.2.2.2.2.2.1, .sl 1152 0 v1001.length, AS [], .sl 133 0 0, .sl 134 0 0, AI 0, AS [], AI 0, AI 0, AI 0, .sl 135 0 0]), (1152, .row true 2 (v1001.map eNote)), (128, .box [AS v1000.1, .sl 321 0 v1000.2.1.length, .sl 322 0 v1000.2.2.1.length, AI v1000.2.2.2.1, AI v1000.2.2.2.2.1, .sl 325 0 v1000.2.2.2.2.2.length, AI v0.2.2.2.2.2.2.1, AI v0.2.2.2.2.2.2.2.1, .sl 132 0 0, AS [], .sl 133 0 0, .sl 134 0 0, AI 0, AS [], AI 0, AI 0, AI 0, .sl 135 0 0]), (128, .box [AS v1000.1, .sl 321 0 v1000.2.1.length, .sl 322 0 v1000.2.2.1.length, AI v1000.2.2.2.1, AI v1000.2.2.2.2.1, .sl 325 0 v1000.2.2.2.2.2.length, AI v0.2.2.2.2.2.2.1, AI 0, .sl 132 0 0, AS [], .sl 133 0 0, .sl 134 0 0, AI 0, AS [], AI 0, AI 0, AI 0, .sl 135 0 0]), (128, .box [AS v1000.1, .sl 321 0 v1000.2.1.length, .sl 322 0 v1000.2.2.1.length, AI v1000.2.2.2.1, AI v1000.2.2.2.2.1, .sl 325 0 v1000.2.2.2.2.2.length, AI 0, AI 0, .sl 132 0 0, AS [], .sl 133 0 0, .sl 134 0 0, AI 0, AS [], AI 0, AI 0, AI 0, .sl 135 0 0]), (325, .row true 1 (v1000.2.2.2.2.2.map (eL 1 vI))), (322, .row true 1 (v1000.2.2.1.map vI)), (321, .row true 1 (v1000.2.1.map vI)), (128, .box [AS [], .sl 129 0 0, .sl 130 0 0, AI 0, AI 0, .sl 131 0 0, AI 0, AI 0, .sl 132 0 0, AS [], .sl 133 0 0, .sl 134 0 0, AI 0, AS [], AI 0, AI 0, AI 0, .sl 135 0 0]), (135, .row true 3 (([] : List Int).map vI)), (134, .row true 1 (([] : List Int).map vI)), (133, .row true 1 (([] : List Int).map vI)), (132, .row true 2 (([] : List Int).map vI)), (131, .row true 1 (([] : List Int).map vI)), (130, .row true 1 (([] : List Int).map vI)), (129, .row true 1 (([] : List Int).map vI)), (64, .box [AS [], .sl 65 0 0, .sl 66 0 0, AI 0, AI 0, .sl 67 0 0, AI 0, AI 0, .sl 68 0 0, AS [], .sl 69 0 0, .sl 70 0 0, AI 0, AS [], AI 0, AI 0, AI 0, .sl 71 0 0]), (71, .row true 3 (([] : List Int).map vI)), (70, .row true 1 (([] : List Int).map vI)), (69, .row true 1 (([] : List Int).map vI)), (68, .row true 2 (([] : List Int).map vI)), (67, .row true 1 (([] : List Int).map vI)), (66, .row true 1 (([] : List Int).map vI)), (65, .row true 1 (([] : List Int).map vI)), (0, .box [AS v0.1, AL 1 (v0.2.1.map vI), AL 1 (v0.2.2.1.map vI), AI v0.2.2.2.1, AI v0.2.2.2.2.1, AL 1 (v0.2.2.2.2.2.1.map (eL 1 vI)), AI v0.2.2.2.2.2.2.1, AI v0.2.2.2.2.2.2.2.1, AL 2 (v0.2.2.2.2.2.2.2.2.1.map eNote), AS v0.2.2.2.2.2.2.2.2.2.1, AL 1 (v0.2.2.2.2.2.2.2.2.2.2.1.map vI), AL 1 (v0.2.2.2.2.2.2.2.2.2.2.2.1.map vI), AI v0.2.2.2.2.2.2.2.2.2.2.2.2.1, AS v0.2.2.2.2.2.2.2.2.2.2.2.2.2.1, AI v0.2.2.2.2.2.2.2.2.2.2.2.2.2.2.1, AI v0.2.2.2.2.2.2.2.2.2.2.2.2.2.2.2.1, AI v0.2.2.2.2.2.2.2.2.2.2.2.2.2.2.2.2.1, AL 3 (v0.2.2.2.2.2.2.2.2.2.2.2.2.2.2.2.2.2.map eTurn)])] (by simp) ?_
 refine r_nil ?_
 refine ws 2176 2432 ?_
 refine qp (.ptr 0 0 14) rfl (qp (AI v0.2.2.2.2.2.2.2.2.2.2.2.2.2.2.1) rfl (qp (.ptr 128 0 14) rfl ?_))
 refine qf0 (.undef) [(128, .box [AS v1000.1, .sl 321 0 v1000.2.1.length, .sl 322 0 v1000.2.2.1.length, AI v1000.2.2.2.1, AI v1000.2.2.2.2.1, .sl 325 0 v1000.2.2.2.2.2.length, AI v0.2.2.2.2.2.2.1, AI v0.2.2.2.2.2.2.2.1, .sl 1152 0 v1001.length, AS v1002.1, .sl 1473 0 v1002.2.1.length, .sl 1474 0 v1002.2.2.length, AI v0.2.2.2.2.2.2.2.2.2.2.2.2.1, AS v0.2.2.2.2.2.2.2.2.2.2.2.2.2.1, AI v0.2.2.2.2.2.2.2.2.2.2.2.2.2.2.1, AI 0, AI 0, .sl 135 0 0]), (128, .box [AS v1000.1, .sl 321 0 v1000.2.1.length, .sl 322 0 v1000.2.2.1.length, AI v1000.2.2.2.1, AI v1000.2.2.2.2.1, .sl 325 0 v1000.2.2.2.2.2.length, AI v0.2.2.2.2.2.2.1, AI v0.2.2.2.2.2.2.2.1, .sl 1152 0 v1001.length, AS v1002.1, .sl 1473 0 v1002.2.1.length, .sl 1474 0 v1002.2.2.length, AI v0.2.2.2.2.2.2.2.2.2.2.2.2.1, AS v0.2.2.2.2.2.2.2.2.2.2.2.2.2.1, AI 0, AI 0, AI 0, .sl 135 0 0]), (128, .box [AS v1000.1, .sl 321 0 v1000.2.1.length, .sl 322 0 v1000.2.2.1.length, AI v1000.2.2.2.1, AI v1000.2.2.2.2.1, .sl 325 0 v1000.2.2.2.2.2.length, AI v0.2.2.2.2.2.2.1, AI v0.2.2.2.2.2.2.2.1, .sl 1152 0 v1001.length, AS v1002.1, .sl 1473 0 v1002.2.1.length, .sl 1474 0 v1002.2.2.length, AI v0.2.2.2.2.2.2.2.2.2.2.2.2.1, AS [], AI 0, AI 0, AI 0, .sl 135 0 0]), (128, .box [AS v1000.1, .sl 321 0 v1000.2.1.length, .sl 322 0 v1000.2.2.1.length, AI v1000.2.2.2.1, AI v1000.2.2.2.2.1, .sl 325 0 v1000.2.2.2.2.2.length, AI v0.2.2.2.2.2.2.1, AI v0.2.2.2.2.2.2.2.1, .sl 1152 0 v1001.length, AS v1002.1, .sl 1473 0 v1002.2.1.length, .sl 1474 0 v1002.2.2.length, AI 0, AS [], AI 0, AI 0, AI 0, .sl 135 0 0]), (1474, .row true 1 (v1002.2.2.map vI)), (1473, .row true 1 (v1002.2.1.map vI)), (128, .box [AS v1000.1, .sl 321 0 v1000.2.1.length, .sl 322 0 v1000.2.2.1.length, AI v1000.2.2.2.1, AI v1000.2.2.2.2.1, .sl 325 0 v1000.2.2.2.2.2.length, AI v0.2.2.2.2.2.2.1, AI v0.2.2.2.2.2.2.2.1, .sl 1152 0 v1001.length, AS [], .sl 133 0 0, .sl 134 0 0, AI 0, AS [], AI 0, AI 0, AI 0, .sl 135 0 0]), (1152, .row true 2 (v1001.map eNote)), (128, .box [AS v1000.1, .sl 321 0 v1000.2.1.length, .sl 322 0 v1000.2.2.1.length, AI v1000.2.2.2.1, AI v1000.2.2.2.2.1, .sl 325 0 v1000.2.2.2.2.2.length, AI v0.2.2.2.2.2.2.1, AI v0.2.2.2.2.2.2.2.1, .sl 132 0 0, AS [], .sl 133 0 0, .sl 134 0 0, AI 0, AS [], AI 0, AI 0, AI 0, .sl 135 0 0]), (128, .box [AS v1000.1, .sl 321 0 v1000.2.1.length, .sl 322 0 v1000.2.2.1.length, AI v1000.2.2.2.1, AI v1000.2.2.2.2.1, .sl 325 0 v1000.2.2.2.2.2.length, AI v0.2.2.2.2.2.2.1, AI 0, .sl 132 0 0, AS [], .sl 133 0 0, .sl 134 0 0, AI 0, AS [], AI 0, AI 0, AI 0, .sl 135 0 0]), (128, .box [AS v1000.1, .sl 321 0 v1000.2.1.length, .sl 322 0 v1000.2.2.1.length, AI v1000.2.2.2.1, AI v1000.2.2.2.2.1, .sl 325 0 v1000.2.2.2.2.2.length, AI 0, AI 0, .sl 132 0 0, AS [], .sl 133 0 0, .sl 134 0 0, AI 0, AS [], AI 0, AI 0, AI 0, .sl 135 0 0]), (325, .row true 1 (v1000.2.2.2.2.2.map (eL 1 vI))), (322, .row true 1 (v1000.2.2.1.map vI)), (321, .row true 1 (v1000.2.1.map vI)), (128, .box [AS [], .sl 129 0 0, .sl 130 0 0, AI 0, AI 0, .sl 131 0 0, AI 0, AI 0, .sl 132 0 0, AS [], .sl 133 0 0, .sl 134 0 0, AI 0, AS [], AI 0, AI 0, AI 0, .sl 135 0 0]), (135, .row true 3 (([] : List Int).map vI)), (134, .row true 1 (([] : List Int).map vI)), (133, .row true 1 (([] : List Int).map vI)), (132, .row true 2 (([] : List Int).map vI)), (131, .row true 1 (([] : List Int).map vI)), (130, .row true 1 (([] : List Int).map vI)), (129, .row true 1 (([] : List Int).map vI)), (64, .box [AS [], .sl 65 0 0, .sl 66 0 0, AI 0, AI 0, .sl 67 0 0, AI 0, AI 0, .sl 68 0 0, AS [], .sl 69 0 0, .sl 70 0 0, AI 0, AS [], AI 0, AI 0, AI 0, .sl 71 0 0]), (71, .row true 3 (([] : List Int).map vI)), (70, .row true 1 (([] : List Int).map vI)), (69, .row true 1 (([] : List Int).map vI)), (68, .row true 2 (([] : List Int).map vI)), (67, .row true 1 (([] : List Int).map vI)), (66, .row true 1 (([] : List Int).map vI)), (65, .row true 1 (([] : List Int).map vI)), (0, .box [AS v0.1, AL 1 (v0.2.1.map vI), AL 1 (v0.2.2.1.map vI), AI v0.2.2.2.1, AI v0.2.2.2.2.1, AL 1 (v0.2.2.2.2.2.1.map (eL 1 vI)), AI v0.2.2.2.2.2.2.1, AI v0.2.2.2.2.2.2.2.1, AL 2 (v0.2.2.2.2.2.2.2.2.1.map eNote), AS v0.2.2.2.2.2.2.2.2.2.1, AL 1 (v0.2.2.2.2.2.2.2.2.2.2.1.map vI), AL 1 (v0.2.2.2.2.2.2.2.2.2.2.2.1.map vI), AI v0.2.2.2.2.2.2.2.2.2.2.2.2.1, AS v0.2.2.2.2.2.2.2.2.2.2.2.2.2.1, AI v0.2.2.2.2.2.2.2.2.2.2.2.2.2.2.1, AI v0.2.2.2.2.2.2.2.2.2.2.2.2.2.2.2.1, AI v0.2.2.2.2.2.2.2.2.2.2.2.2.2.2.2.2.1, AL 3 (v0.2.2.2.2.2.2.2.2.2.2.2.2.2.2.2.2.2.map eTurn)])] (by simp) ?_
 refine r_nil ?_
 refine ws 2432 2688 ?_
 refine qp (.ptr 0 0 15) rfl (qp (AI v0.2.2.2.2.2.2.2.2.2.2.2.2.2.2.2.1) rfl (qp (.ptr 128 0 15) rfl ?_))
 refine qf0 (.undef) [(128, .box [AS v1000.1, .sl 321 0 v1000.2.1.length, .sl 322 0 v1000.2.2.1.length, AI v1000.2.2.2.1, AI v1000.2.2.2.2.1, .sl 325 0 v1000.2.2.2.2.2.length, AI v0.2.2.2.2.2.2.1, AI v0.2.2.2.2.2.2.2.1, .sl 1152 0 v1001.length, AS v1002.1, .sl 1473 0 v1002.2.1.length, .sl 1474 0 v1002.2.2.length, AI v0.2.2.2.2.2.2.2.2.2.2.2.2.1, AS v0.2.2.2.2.2.2.2.2.2.2.2.2.2.1, AI v0.2.2.2.2.2.2.2.2.2.2.2.2.2.2.1, AI v0.2.2.2.2.2.2.2.2.2.2.2.2.2.2.2.1, AI 0, .sl 135 0 0]), (128, .box [AS v1000.1, .sl 321 0 v1000.2.1.length, .sl 322 0 v1000.2.2.1.length, AI v1000.2.2.2.1, AI v1000.2.2.2.2.1, .sl 325 0 v1000.2.2.2.2.2.length, AI v0.2.2.2.2.2.2.1, AI v0.2.2.2.2.2.2.2.1, .sl 1152 0 v1001.length, AS v1002.1, .sl 1473 0 v1002.2.1.length, .sl 1474 0 v1002.2.2.length, AI v0.2.2.2.2.2.2.2.2.2.2.2.2.1, AS v0.2.2.2.2.2.2.2.2.2.2.2.2.2.1, AI v0.2.2.2.2.2.2.2.2.2.2.2.2.2.2.1, AI 0, AI 0, .sl 135 0 0]), (128, .box [AS v1000.1, .sl 321 0 v1000.2.1.length, .sl 322 0 v1000.2.2.1.length, AI v1000.2.2.2.1, AI v1000.2.2.2.2.1, .sl 325 0 v1000.2.2.2.2.2.length, AI v0.2.2.2.2.2.2.1, AI v0.2.2.2.2.2.2.2.1, .sl 1152 0 v1001.length, AS v1002.1, .sl 1473 0 v1002.2.1.length, .sl 1474 0 v1002.2.2.length, AI v0.2.2.2.2.2.2.2.2.2.2.2.2.1, AS v0.2.2.2.2.2.2.2.2.2.2.2.2.2.1, AI 0, AI 0, AI 0, .sl 135 0 0]), (128, .box [AS v1000.1, .sl 321 0 v1000.2.1.length, .sl 322 0 v1000.2.2.1.length, AI v1000.2.2.2.1, AI v1000.2.2.2.2.1, .sl 325 0 v1000.2.2.2.2.2.length, AI v0.2.2.2.2.2.2.1, AI v0.2.2.2.2.2.2.2.1, .sl 1152 0 v1001.length, AS v1002.1, .sl 1473 0 v1002.2.1.length, .sl 1474 0 v1002.2.2.length, AI v0.2.2.2.2.2.2.2.2.2.2.2.2.1, AS [], AI 0, AI 0, AI 0, .sl 135 0 0]), (128, .box [AS v1000.1, .sl 321 0 v1000.2.1.length, .sl 322 0 v1000.2.2.1.length, AI v1000.2.2.2.1, AI v1000.2.2.2.2.1, .sl 325 0 v1000.2.2.2.2.2.length, AI v0.2.2.2.2.2.2.1, AI v0.2.2.2.2.2.2.2.1, .sl 1152 0 v1001.length, AS v1002.1, .sl 1473 0 v1002.2.1.length, .sl 1474 0 v1002.2.2.length, AI 0, AS [], AI 0, AI 0, AI 0, .sl 135 0 0]), (1474, .row true 1 (v1002.2.2.map vI)), (1473, .row true 1 (v1002.2.1.map vI)), (128, .box [AS v1000.1, .sl 321 0 v1000.2.1.length, .sl 322 0 v1000.2.2.1.length, AI v1000.2.2.2.1, AI v1000.2.2.2.2.1, .sl 325 0 v1000.2.2.2.2.2.length, AI v0.2.2.2.2.2.2.1, AI v0.2.2.2.2.2.2.2.1, .sl 1152 0 v1001.length, AS [], .sl 133 0 0, .sl 134 0 0, AI 0, AS [], AI 0, AI 0, AI 0, .sl 135 0 0]), (1152, .row true 2 (v1001.map eNote)), (128, .box [AS v1000.1, .sl 321 0 v1000.2.1.length, .sl 322 0 v1000.2.2.1.length, AI v1000.2.2.2.1, AI v1000.2.2.2.2.1, .sl 325 0 v1000.2.2.2.2.2.length, AI v0.2.2.2.2.2.2.1, AI v0.2.2.2.2.2.2.2.1, .sl 132 0 0, AS [], .sl 133 0 0, .sl 134 0 0, AI 0, AS [], AI 0, AI 0, AI 0, .sl 135 0 0]), (128, .box [AS v1000.1, .sl 321 0 v1000.2.1.length, .sl 322 0 v1000.2.2.1.length, AI v1000.2.2.2.1, AI v1000.2.2.2.2.1, .sl 325 0 v1000.2.2.2.2.2.length, AI v0.2.2.2.2.2.2.1, AI 0, .sl 132 0 0, AS [], .sl 133 0 0, .sl 134 0 0, AI 0, AS [], AI 0, AI 0, AI 0, .sl 135 0 0]), (128, .box [AS v1000.1, .sl 321 0 v1000.2.1.length, .sl 322 0 v1000.2.2.1.length, AI v1000.2.2.2.1, AI v1000.2.2.2.2.1, .sl 325 0 v1000.2.2.2.2.2.length, AI 0, AI 0, .sl 132 0 0, AS [], .sl 133 0 0, .sl 134 0 0, AI 0, AS [], AI 0, AI 0, AI 0, .sl 135 0 0]), (325, .row true 1 (v1000.2.2.2.2.2.map (eL 1 vI))), (322, .row true 1 (v1000.2.2.1.map vI)), (321, .row true 1 (v1000.2.1.map vI)), (128, .box [AS [], .sl 129 0 0, .sl 130 0 0, AI 0, AI 0, .sl 131 0 0, AI 0, AI 0, .sl 132 0 0, AS [], .sl 133 0 0, .sl 134 0 0, AI 0, AS [], AI 0, AI 0, AI 0, .sl 135 0 0]), (135, .row true 3 (([] : List Int).map vI)), (134, .row true 1 (([] : List Int).map vI)), (133, .row true 1 (([] : List Int).map vI)), (132, .row true 2 (([] : List Int).map vI)), (131, .row true 1 (([] : List Int).map vI)), (130, .row true 1 (([] : List Int).map vI)), (129, .row true 1 (([] : List Int).map vI)), (64, .box [AS [], .sl 65 0 0, .sl 66 0 0, AI 0, AI 0, .sl 67 0 0, AI 0, AI 0, .sl 68 0 0, AS [], .sl 69 0 0, .sl 70 0 0, AI 0, AS [], AI 0, AI 0, AI 0, .sl 71 0 0]), (71, .row true 3 (([] : List Int).map vI)), (70, .row true 1 (([] : List Int).map vI)), (69, .row true 1 (([] : List Int).map vI)), (68, .row true 2 (([] : List Int).map vI)), (67, .row true 1 (([] : List Int).map vI)), (66, .row true 1 (([] : List Int).map vI)), (65, .row true 1 (([] : List Int).map vI)), (0, .box [AS v0.1, AL 1 (v0.2.1.map vI), AL 1 (v0.2.2.1.map vI), AI v0.2.2.2.1, AI v0.2.2.2.2.1, AL 1 (v0.2.2.2.2.2.1.map (eL 1 vI)), AI v0.2.2.2.2.2.2.1, AI v0.2.2.2.2.2.2.2.1, AL 2 (v0.2.2.2.2.2.2.2.2.1.map eNote), AS v0.2.2.2.2.2.2.2.2.2.1, AL 1 (v0.2.2.2.2.2.2.2.2.2.2.1.map vI), AL 1 (v0.2.2.2.2.2.2.2.2.2.2.2.1.map vI), AI v0.2.2.2.2.2.2.2.2.2.2.2.2.1, AS v0.2.2.2.2.2.2.2.2.2.2.2.2.2.1, AI v0.2.2.2.2.2.2.2.2.2.2.2.2.2.2.1, AI v0.2.2.2.2.2.2.2.2.2.2.2.2.2.2.2.1, AI v0.2.2.2.2.2.2.2.2.2.2.2.2.2.2.2.2.1, AL 3 (v0.2.2.2.2.2.2.2.2.2.2.2.2.2.2.2.2.2.map eTurn)])] (by simp) ?_
 refine r_nil ?_
 refine ws 2688 2944 ?_
 refine qp (.ptr 0 0 16) rfl (qp (AI v0.2.2.2.2.2.2.2.2.2.2.2.2.2.2.2.2.1) rfl (qp (.ptr 128 0 16) rfl ?_))
 refine qf0 (.undef) [(128, .box [AS v1000.1, .sl 321 0 v1000.2.1.length, .sl 322 0 v1000.2.2.1.length, AI v1000.2.2.2.1, AI v1000.2.2.2.2.1, .sl 325 0 v1000.2.2.2.2.2.length, AI v0.2.2.2.2.2.2.1, AI v0.2.2.2.2.2.2.2.1, .sl 1152 0 v1001.length, AS v1002.1, .sl 1473 0 v1002.2.1.length, .sl 1474 0 v1002.2.2.length, AI v0.2.2.2.2.2.2.2.2.2.2.2.2.1, AS v0.2.2.2.2.2.2.2.2.2.2.2.2.2.1, AI v0.2.2.2.2.2.2.2.2.2.2.2.2.2.2.1, AI v0.2.2.2.2.2.2.2.2.2.2.2.2.2.2.2.1, AI v0.2.2.2.2.2.2.2.2.2.2.2.2.2.2.2.2.1, .sl 135 0 0]), (128, .box [AS v1000.1, .sl 321 0 v1000.2.1.length, .sl 322 0 v1000.2.2.1.length, AI v1000.2.2.2.1, AI v1000.2.2.2.2.1, .sl 325 0 v1000.2.2.2.2.2.length, AI v0.2.2.2.2.2.2.1, AI v0.2.2.2.2.2.2.2.1, .sl 1152 0 v1001.length, AS v1002.1, .sl 1473 0 v1002.2.1.length, .sl 1474 0 v1002.2.2.length, AI v0.2.2.2.2.2.2.2.2.2.2.2.2.1, AS v0.2.2.2.2.2.2.2.2.2.2.2.2.2.1, AI v0.2.2.2.2.2.2.2.2.2.2.2.2.2.2.1, AI v0.2.2.2.2.2.2.2.2.2.2.2.2.2.2.2.1, AI 0, .sl 135 0 0]), (128, .box [AS v1000.1, .sl 321 0 v1000.2.1.length, .sl 322 0 v1000.2.2.1.length, AI v1000.2.2.2.1, AI v1000.2.2.2.2.1, .sl 325 0 v1000.2.2.2.2.2.length, AI v0.2.2.2.2.2.2.1, AI v0.2.2.2.2.2.2.2.1, .sl 1152 0 v1001.length, AS v1002.1, .sl 1473 0 v1002.2.1.length, .sl 1474 0 v1002.2.2.length, AI v0.2.2.2.2.2.2.2.2.2.2.2.2.1, AS v0.2.2.2.2.2.2.2.2.2.2.2.2.2.1, AI v0.2.2.2.2.2.2.2.2.2.2.2.2.2.2.1, AI 0, AI 0, .sl 135 0 0]), (128, .box [AS v1000.1, .sl 321 0 v1000.2.1.length, .sl 322 0 v1000.2.2.1.length, AI v1000.2.2.2.1, AI v1000.2.2.2.2.1, .sl 325 0 v1000.2.2.2.2.2.length, AI v0.2.2.2.2.2.2.1, AI v0.2.2.2.2.2.2.2.1, .sl 1152 0 v1001.length, AS v1002.1, .sl 1473 0 v1002.2.1.length, .sl 1474 0 v1002.2.2.length, AI v0.2.2.2.2.2.2.2.2.2.2.2.2.1, AS v0.2.2.2.2.2.2.2.2.2.2.2.2.2.1, AI 0, AI 0, AI 0, .sl 135 0 0]), (128, .box [AS v1000.1, .sl 321 0 v1000.2.1.length, .sl 322 0 v1000.2.2.1.length, AI v1000.2.2.2.1, AI v1000.2.2.2.2.1, .sl 325 0 v1000.2.2.2.2.2.length, AI v0.2.2.2.2.2.2.1, AI v0.2.2.2.2.2.2.2.1, .sl 1152 0 v1001.length, AS v1002.1, .sl 1473 0 v1002.2.1.length, .sl 1474 0 v1002.2.2.length, AI v0.2.2.2.2.2.2.2.2.2.2.2.2.1, AS [], AI 0, AI 0, AI 0, .sl 135 0 0]), (128, .box [AS v1000.1, .sl 321 0 v1000.2.1.length, .sl 322 0 v1000.2.2.1.length, AI v1000.2.2.2.1, AI v1000.2.2.2.2.1, .sl 325 0 v1000.2.2.2.2.2.length, AI v0.2.2.2.2.2.2.1, AI v0.2.2.2.2.2.2.2.1, .sl 1152 0 v1001.length, AS v1002.1, .sl 1473 0 v1002.2.1.length, .sl 1474 0 v1002.2.2.length, AI 0, AS [], AI 0, AI 0, AI 0, .sl 135 0 0]), (1474, .row true 1 (v1002.2.2.map vI)), (1473, .row true 1 (v1002.2.1.map vI)), (128, .box [AS v1000.1, .sl 321 0 v1000.2.1.length, .sl 322 0 v1000.2.2.1.length, AI v1000.2.2.2.1, AI v1000.2.2.2.2.1, .sl 325 0 v1000.2.2.2.2.2.length, AI v0.2.2.2.2.2.2.1, AI v0.2.2.2.2.2.2.2.1, .sl 1152 0 v1001.length, AS [], .sl 133 0 0, .sl 134 0 0, AI 0, AS [], AI 0, AI 0, AI 0, .sl 135 0 0]), (1152, .row true 2 (v1001.map eNote)), (128, .box [AS v1000.1, .sl 321 0 v1000.2.1.length, .sl 322 0 v1000.2.2.1.length, AI v1000.2.2.2.1, AI v1000.2.2.2.2.1, .sl 325 0 v1000.2.2.2.2.2.length, AI v0.2.2.2.2.2.2.1, AI v0.2.2.2.2.2.2.2.1, .sl 132 0 0, AS [], .sl 133 0 0, .sl 134 0 0, AI 0, AS [], AI 0, AI 0, AI 0, .sl 135 0 0]), (128, .box [AS v1000.1, .sl 321 0 v1000.2.1.length, .sl 322 0 v1000.2.2.1.length, AI v1000.2.2.2.1, AI v1000.2.2.2.2.1, .sl 325 0 v1000.2.2.2.2.2.length, AI v0.2.2.2.2.2.2.1, AI 0, .sl 132 0 0, AS [], .sl 133 0 0, .sl 134 0 0, AI 0, AS [], AI 0, AI 0, AI 0, .sl 135 0 0]), (128, .box [AS v1000.1, .sl 321 0 v1000.2.1.length, .sl 322 0 v1000.2.2.1.length, AI v1000.2.2.2.1, AI v1000.2.2.2.2.1, .sl 325 0 v1000.2.2.2.2.2.length, AI 0, AI 0, .sl 132 0 0, AS [], .sl 133 0 0, .sl 134 0 0, AI 0, AS [], AI 0, AI 0, AI 0, .sl 135 0 0]), (325, .row true 1 (v1000.2.2.2.2.2.map (eL 1 vI))), (322, .row true 1 (v1000.2.2.1.map vI)), (321, .row true 1 (v1000.2.1.map vI)), (128, .box [AS [], .sl 129 0 0, .sl 130 0 0, AI 0, AI 0, .sl 131 0 0, AI 0, AI 0, .sl 132 0 0, AS [], .sl 133 0 0, .sl 134 0 0, AI 0, AS [], AI 0, AI 0, AI 0, .sl 135 0 0]), (135, .row true 3 (([] : List Int).map vI)), (134, .row true 1 (([] : List Int).map vI)), (133, .row true 1 (([] : List Int).map vI)), (132, .row true 2 (([] : List Int).map vI)), (131, .row true 1 (([] : List Int).map vI)), (130, .row true 1 (([] : List Int).map vI)), (129, .row true 1 (([] : List Int).map vI)), (64, .box [AS [], .sl 65 0 0, .sl 66 0 0, AI 0, AI 0, .sl 67 0 0, AI 0, AI 0, .sl 68 0 0, AS [], .sl 69 0 0, .sl 70 0 0, AI 0, AS [], AI 0, AI 0, AI 0, .sl 71 0 0]), (71, .row true 3 (([] : List Int).map vI)), (70, .row true 1 (([] : List Int).map vI)), (69, .row true 1 (([] : List Int).map vI)), (68, .row true 2 (([] : List Int).map vI)), (67, .row true 1 (([] : List Int).map vI)), (66, .row true 1 (([] : List Int).map vI)), (65, .row true 1 (([] : List Int).map vI)), (0, .box [AS v0.1, AL 1 (v0.2.1.map vI), AL 1 (v0.2.2.1.map vI), AI v0.2.2.2.1, AI v0.2.2.2.2.1, AL 1 (v0.2.2.2.2.2.1.map (eL 1 vI)), AI v0.2.2.2.2.2.2.1, AI v0.2.2.2.2.2.2.2.1, AL 2 (v0.2.2.2.2.2.2.2.2.1.map eNote), AS v0.2.2.2.2.2.2.2.2.2.1, AL 1 (v0.2.2.2.2.2.2.2.2.2.2.1.map vI), AL 1 (v0.2.2.2.2.2.2.2.2.2.2.2.1.map vI), AI v0.2.2.2.2.2.2.2.2.2.2.2.2.1, AS v0.2.2.2.2.2.2.2.2.2.2.2.2.2.1, AI v0.2.2.2.2.2.2.2.2.2.2.2.2.2.2.1, AI v0.2.2.2.2.2.2.2.2.2.2.2.2.2.2.2.1, AI v0.2.2.2.2.2.2.2.2.2.2.2.2.2.2.2.2.1, AL 3 (v0.2.2.2.2.2.2.2.2.2.2.2.2.2.2.2.2.2.map eTurn)])] (by simp) ?_
 refine r_nil ?_
 refine ws 2944 3264 ?_
 refine qp (.ptr 0 0 17) rfl (qp (AL 3 (v0.2.2.2.2.2.2.2.2.2.2.2.2.2.2.2.2.2.map eTurn)) rfl ?_)
 obtain ⟨v1003, e1003, hF⟩ := bind_get hF
 refine qc (.sl 3072 0 v1003.length) [(3072, .row true 3 (v1003.map eTurn)), (128, .box [AS v1000.1, .sl 321 0 v1000.2.1.length, .sl 322 0 v1000.2.2.1.length, AI v1000.2.2.2.1, AI v1000.2.2.2.2.1, .sl 325 0 v1000.2.2.2.2.2.length, AI v0.2.2.2.2.2.2.1, AI v0.2.2.2.2.2.2.2.1, .sl 1152 0 v1001.length, AS v1002.1, .sl 1473 0 v1002.2.1.length, .sl 1474 0 v1002.2.2.length, AI v0.2.2.2.2.2.2.2.2.2.2.2.2.1, AS v0.2.2.2.2.2.2.2.2.2.2.2.2.2.1, AI v0.2.2.2.2.2.2.2.2.2.2.2.2.2.2.1, AI v0.2.2.2.2.2.2.2.2.2.2.2.2.2.2.2.1, AI v0.2.2.2.2.2.2.2.2.2.2.2.2.2.2.2.2.1, .sl 135 0 0]), (128, .box [AS v1000.1, .sl 321 0 v1000.2.1.length, .sl 322 0 v1000.2.2.1.length, AI v1000.2.2.2.1, AI v1000.2.2.2.2.1, .sl 325 0 v1000.2.2.2.2.2.length, AI v0.2.2.2.2.2.2.1, AI v0.2.2.2.2.2.2.2.1, .sl 1152 0 v1001.length, AS v1002.1, .sl 1473 0 v1002.2.1.length, .sl 1474 0 v1002.2.2.length, AI v0.2.2.2.2.2.2.2.2.2.2.2.2.1, AS v0.2.2.2.2.2.2.2.2.2.2.2.2.2.1, AI v0.2.2.2.2.2.2.2.2.2.2.2.2.2.2.1, AI v0.2.2.2.2.2.2.2.2.2.2.2.2.2.2.2.1, AI 0, .sl 135 0 0]), (128, .box [AS v1000.1, .sl 321 0 v1000.2.1.length, .sl 322 0 v1000.2.2.1.length, AI v1000.2.2.2.1, AI v1000.2.2.2.2.1, .sl 325 0 v1000.2.2.2.2.2.length, AI v0.2.2.2.2.2.2.1, AI v0.2.2.2.2.2.2.2.1, .sl 1152 0 v1001.length, AS v1002.1, .sl 1473 0 v1002.2.1.length, .sl 1474 0 v1002.2.2.length, AI v0.2.2.2.2.2.2.2.2.2.2.2.2.1, AS v0.2.2.2.2.2.2.2.2.2.2.2.2.2.1, AI v0.2.2.2.2.2.2.2.2.2.2.2.2.2.2.1, AI 0, AI 0, .sl 135 0 0]), (128, .box [AS v1000.1, .sl 321 0 v1000.2.1.length, .sl 322 0 v1000.2.2.1.length, AI v1000.2.2.2.1, AI v1000.2.2.2.2.1, .sl 325 0 v1000.2.2.2.2.2.length, AI v0.2.2.2.2.2.2.1, AI v0.2.2.2.2.2.2.2.1, .sl 1152 0 v1001.length, AS v1002.1, .sl 1473 0 v1002.2.1.length, .sl 1474 0 v1002.2.2.length, AI v0.2.2.2.2.2.2.2.2.2.2.2.2.1, AS v0.2.2.2.2.2.2.2.2.2.2.2.2.2.1, AI 0, AI 0, AI 0, .sl 135 0 0]), (128, .box [AS v1000.1, .sl 321 0 v1000.2.1.length, .sl 322 0 v1000.2.2.1.length, AI v1000.2.2.2.1, AI v1000.2.2.2.2.1, .sl 325 0 v1000.2.2.2.2.2.length, AI v0.2.2.2.2.2.2.1, AI v0.2.2.2.2.2.2.2.1, .sl 1152 0 v1001.length, AS v1002.1, .sl 1473 0 v1002.2.1.length, .sl 1474 0 v1002.2.2.length, AI v0.2.2.2.2.2.2.2.2.2.2.2.2.1, AS [], AI 0, AI 0, AI 0, .sl 135 0 0]), (128, .box [AS v1000.1, .sl 321 0 v1000.2.1.length, .sl 322 0 v1000.2.2.1.length, AI v1000.2.2.2.1, AI v1000.2.2.2.2.1, .sl 325 0 v1000.2.2.2.2.2.length, AI v0.2.2.2.2.2.2.1, AI v0.2.2.2.2.2.2.2.1, .sl 1152 0 v1001.length, AS v1002.1, .sl 1473 0 v1002.2.1.length, .sl 1474 0 v1002.2.2.length, AI 0, AS [], AI 0, AI 0, AI 0, .sl 135 0 0]), (1474, .row true 1 (v1002.2.2.map vI)), (1473, .row true 1 (v1002.2.1.map vI)), (128, .box [AS v1000.1, .sl 321 0 v1000.2.1.length, .sl 322 0 v1000.2.2.1.length, AI v1000.2.2.2.1, AI v1000.2.2.2.2.1, .sl 325 0 v1000.2.2.2.2.2.length, AI v0.2.2.2.2.2.2.1, AI v0.2.2.2.2.2.2.2.1, .sl 1152 0 v1001.length, AS [], .sl 133 0 0, .sl 134 0 0, AI 0, AS [], AI 0, AI 0, AI 0, .sl 135 0 0]), (1152, .row true 2 (v1001.map eNote)), (128, .box [AS v1000.1, .sl 321 0 v1000.2.1.length, .sl 322 0 v1000.2.2.1.length, AI v1000.2.2.2.1, AI v1000.2.2.2.2.1, .sl 325 0 v1000.2.2.2.2.2.length, AI v0.2.2.2.2.2.2.1, AI v0.2.2.2.2.2.2.2.1, .sl 132 0 0, AS [], .sl 133 0 0, .sl 134 0 0, AI 0, AS [], AI 0, AI 0, AI 0, .sl 135 0 0]), (128, .box [AS v1000.1, .sl 321 0 v1000.2.1.length, .sl 322 0 v1000.2.2.1.length, AI v1000.2.2.2.1, AI v1000.2.2.2.2.1, .sl 325 0 v1000.2.2.2.2.2.length, AI v0.2.2.2.2.2.2.1, AI 0, .sl 132 0 0, AS [], .sl 133 0 0, .sl 134 0 0, AI 0, AS [], AI 0, AI 0, AI 0, .sl 135 0 0]), (128, .box [AS v1000.1, .sl 321 0 v1000.2.1.length, .sl 322 0 v1000.2.2.1.length, AI v1000.2.2.2.1, AI v1000.2.2.2.2.1, .sl 325 0 v1000.2.2.2.2.2.length, AI 0, AI 0, .sl 132 0 0, AS [], .sl 133 0 0, .sl 134 0 0, AI 0, AS [], AI 0, AI 0, AI 0, .sl 135 0 0]), (325, .row true 1 (v1000.2.2.2.2.2.map (eL 1 vI))), (322, .row true 1 (v1000.2.2.1.map vI)), (321, .row true 1 (v1000.2.1.map vI)), (128, .box [AS [], .sl 129 0 0, .sl 130 0 0, AI 0, AI 0, .sl 131 0 0, AI 0, AI 0, .sl 132 0 0, AS [], .sl 133 0 0, .sl 134 0 0, AI 0, AS [], AI 0, AI 0, AI 0, .sl 135 0 0]), (135, .row true 3 (([] : List Int).map vI)), (134, .row true 1 (([] : List Int).map vI)), (133, .row true 1 (([] : List Int).map vI)), (132, .row true 2 (([] : List Int).map vI)), (131, .row true 1 (([] : List Int).map vI)), (130, .row true 1 (([] : List Int).map vI)), (129, .row true 1 (([] : List Int).map vI)), (64, .box [AS [], .sl 65 0 0, .sl 66 0 0, AI 0, AI 0, .sl 67 0 0, AI 0, AI 0, .sl 68 0 0, AS [], .sl 69 0 0, .sl 70 0 0, AI 0, AS [], AI 0, AI 0, AI 0, .sl 71 0 0]), (71, .row true 3 (([] : List Int).map vI)), (70, .row true 1 (([] : List Int).map vI)), (69, .row true 1 (([] : List Int).map vI)), (68, .row true 2 (([] : List Int).map vI)), (67, .row true 1 (([] : List Int).map vI)), (66, .row true 1 (([] : List Int).map vI)), (65, .row true 1 (([] : List Int).map vI)), (0, .box [AS v0.1, AL 1 (v0.2.1.map vI), AL 1 (v0.2.2.1.map vI), AI v0.2.2.2.1, AI v0.2.2.2.2.1, AL 1 (v0.2.2.2.2.2.1.map (eL 1 vI)), AI v0.2.2.2.2.2.2.1, AI v0.2.2.2.2.2.2.2.1, AL 2 (v0.2.2.2.2.2.2.2.2.1.map eNote), AS v0.2.2.2.2.2.2.2.2.2.1, AL 1 (v0.2.2.2.2.2.2.2.2.2.2.1.map vI), AL 1 (v0.2.2.2.2.2.2.2.2.2.2.2.1.map vI), AI v0.2.2.2.2.2.2.2.2.2.2.2.2.1, AS v0.2.2.2.2.2.2.2.2.2.2.2.2.2.1, AI v0.2.2.2.2.2.2.2.2.2.2.2.2.2.2.1, AI v0.2.2.2.2.2.2.2.2.2.2.2.2.2.2.2.1, AI v0.2.2.2.2.2.2.2.2.2.2.2.2.2.2.2.2.1, AL 3 (v0.2.2.2.2.2.2.2.2.2.2.2.2.2.2.2.2.2.map eTurn)])] false (con_laws_toTurnS e1003) c48_ok (by first | rfl | simp) (by simp [res_laws_toTurnS]) ?_
 refine qp (.ptr 128 0 17) rfl ?_
 refine qf0 (.undef) [(128, .box [AS v1000.1, .sl 321 0 v1000.2.1.length, .sl 322 0 v1000.2.2.1.length, AI v1000.2.2.2.1, AI v1000.2.2.2.2.1, .sl 325 0 v1000.2.2.2.2.2.length, AI v0.2.2.2.2.2.2.1, AI v0.2.2.2.2.2.2.2.1, .sl 1152 0 v1001.length, AS v1002.1, .sl 1473 0 v1002.2.1.length, .sl 1474 0 v1002.2.2.length, AI v0.2.2.2.2.2.2.2.2.2.2.2.2.1, AS v0.2.2.2.2.2.2.2.2.2.2.2.2.2.1, AI v0.2.2.2.2.2.2.2.2.2.2.2.2.2.2.1, AI v0.2.2.2.2.2.2.2.2.2.2.2.2.2.2.2.1, AI v0.2.2.2.2.2.2.2.2.2.2.2.2.2.2.2.2.1, .sl 3072 0 v1003.length]), (3072, .row true 3 (v1003.map eTurn)), (128, .box [AS v1000.1, .sl 321 0 v1000.2.1.length, .sl 322 0 v1000.2.2.1.length, AI v1000.2.2.2.1, AI v1000.2.2.2.2.1, .sl 325 0 v1000.2.2.2.2.2.length, AI v0.2.2.2.2.2.2.1, AI v0.2.2.2.2.2.2.2.1, .sl 1152 0 v1001.length, AS v1002.1, .sl 1473 0 v1002.2.1.length, .sl 1474 0 v1002.2.2.length, AI v0.2.2.2.2.2.2.2.2.2.2.2.2.1, AS v0.2.2.2.2.2.2.2.2.2.2.2.2.2.1, AI v0.2.2.2.2.2.2.2.2.2.2.2.2.2.2.1, AI v0.2.2.2.2.2.2.2.2.2.2.2.2.2.2.2.1, AI v0.2.2.2.2.2.2.2.2.2.2.2.2.2.2.2.2.1, .sl 135 0 0]), (128, .box [AS v1000.1, .sl 321 0 v1000.2.1.length, .sl 322 0 v1000.2.2.1.length, AI v1000.2.2.2.1, AI v1000.2.2.2.2.1, .sl 325 0 v1000.2.2.2.2.2.length, AI v0.2.2.2.2.2.2.1, AI v0.2.2.2.2.2.2.2.1, .sl 1152 0 v1001.length, AS v1002.1, .sl 1473 0 v1002.2.1.length, .sl 1474 0 v1002.2.2.length, AI v0.2.2.2.2.2.2.2.2.2.2.2.2.1, AS v0.2.2.2.2.2.2.2.2.2.2.2.2.2.1, AI v0.2.2.2.2.2.2.2.2.2.2.2.2.2.2.1, AI v0.2.2.2.2.2.2.2.2.2.2.2.2.2.2.2.1, AI 0, .sl 135 0 0]), (128, .box [AS v1000.1, .sl 321 0 v1000.2.1.length, .sl 322 0 v1000.2.2.1.length, AI v1000.2.2.2.1, AI v1000.2.2.2.2.1, .sl 325 0 v1000.2.2.2.2.2.length, AI v0.2.2.2.2.2.2.1, AI v0.2.2.2.2.2.2.2.1, .sl 1152 0 v1001.length, AS v1002.1, .sl 1473 0 v1002.2.1.length, .sl 1474 0 v1002.2.2.length, AI v0.2.2.2.2.2.2.2.2.2.2.2.2.1, AS v0.2.2.2.2.2.2.2.2.2.2.2.2.2.1, AI v0.2.2.2.2.2.2.2.2.2.2.2.2.2.2.1, AI 0, AI 0, .sl 135 0 0]), (128, .box [AS v1000.1, .sl 321 0 v1000.2.1.length, .sl 322 0 v1000.2.2.1.length, AI v1000.2.2.2.1, AI v1000.2.2.2.2.1, .sl 325 0 v1000.2.2.2.2.2.length, AI v0.2.2.2.2.2.2.1, AI v0.2.2.2.2.2.2.2.1, .sl 1152 0 v1001.length, AS v1002.1, .sl 1473 0 v1002.2.1.length, .sl 1474 0 v1002.2.2.length, AI v0.2.2.2.2.2.2.2.2.2.2.2.2.1, AS v0.2.2.2.2.2.2.2.2.2.2.2.2.2.1, AI 0, AI 0, AI 0, .sl 135 0 0]), (128, .box [AS v1000.1, .sl 321 0 v1000.2.1.length, .sl 322 0 v1000.2.2.1.length, AI v1000.2.2.2.1, AI v1000.2.2.2.2.1, .sl 325 0 v1000.2.2.2.2.2.length, AI v0.2.2.2.2.2.2.1, AI v0.2.2.2.2.2.2.2.1, .sl 1152 0 v1001.length, AS v1002.1, .sl 1473 0 v1002.2.1.length, .sl 1474 0 v1002.2.2.length, AI v0.2.2.2.2.2.2.2.2.2.2.2.2.1, AS [], AI 0, AI 0, AI 0, .sl 135 0 0]), (128, .box [AS v1000.1, .sl 321 0 v1000.2.1.length, .sl 322 0 v1000.2.2.1.length, AI v1000.2.2.2.1, AI v1000.2.2.2.2.1, .sl 325 0 v1000.2.2.2.2.2.length, AI v0.2.2.2.2.2.2.1, AI v0.2.2.2.2.2.2.2.1, .sl 1152 0 v1001.length, AS v1002.1, .sl 1473 0 v1002.2.1.length, .sl 1474 0 v1002.2.2.length, AI 0, AS [], AI 0, AI 0, AI 0, .sl 135 0 0]), (1474, .row true 1 (v1002.2.2.map vI)), (1473, .row true 1 (v1002.2.1.map vI)), (128, .box [AS v1000.1, .sl 321 0 v1000.2.1.length, .sl 322 0 v1000.2.2.1.length, AI v1000.2.2.2.1, AI v1000.2.2.2.2.1, .sl 325 0 v1000.2.2.2.2.2.length, AI v0.2.2.2.2.2.2.1, AI v0.2.2.2.2.2.2.2.1, .sl 1152 0 v1001.length, AS [], .sl 133 0 0, .sl 134 0 0, AI 0, AS [], AI 0, AI 0, AI 0, .sl 135 0 0]), (1152, .row true 2 (v1001.map eNote)), (128, .box [AS v1000.1, .sl 321 0 v1000.2.1.length, .sl 322 0 v1000.2.2.1.length, AI v1000.2.2.2.1, AI v1000.2.2.2.2.1, .sl 325 0 v1000.2.2.2.2.2.length, AI v0.2.2.2.2.2.2.1, AI v0.2.2.2.2.2.2.2.1, .sl 132 0 0, AS [], .sl 133 0 0, .sl 134 0 0, AI 0, AS [], AI 0, AI 0, AI 0, .sl 135 0 0]), (128, .box [AS v1000.1, .sl 321 0 v1000.2.1.length, .sl 322 0 v1000.2.2.1.length, AI v1000.2.2.2.1, AI v1000.2.2.2.2.1, .sl 325 0 v1000.2.2.2.2.2.length, AI v0.2.2.2.2.2.2.1, AI 0, .sl 132 0 0, AS [], .sl 133 0 0, .sl 134 0 0, AI 0, AS [], AI 0, AI 0, AI 0, .sl 135 0 0]), (128, .box [AS v1000.1, .sl 321 0 v1000.2.1.length, .sl 322 0 v1000.2.2.1.length, AI v1000.2.2.2.1, AI v1000.2.2.2.2.1, .sl 325 0 v1000.2.2.2.2.2.length, AI 0, AI 0, .sl 132 0 0, AS [], .sl 133 0 0, .sl 134 0 0, AI 0, AS [], AI 0, AI 0, AI 0, .sl 135 0 0]), (325, .row true 1 (v1000.2.2.2.2.2.map (eL 1 vI))), (322, .row true 1 (v1000.2.2.1.map vI)), (321, .row true 1 (v1000.2.1.map vI)), (128, .box [AS [], .sl 129 0 0, .sl 130 0 0, AI 0, AI 0, .sl 131 0 0, AI 0, AI 0, .sl 132 0 0, AS [], .sl 133 0 0, .sl 134 0 0, AI 0, AS [], AI 0, AI 0, AI 0, .sl 135 0 0]), (135, .row true 3 (([] : List Int).map vI)), (134, .row true 1 (([] : List Int).map vI)), (133, .row true 1 (([] : List Int).map vI)), (132, .row true 2 (([] : List Int).map vI)), (131, .row true 1 (([] : List Int).map vI)), (130, .row true 1 (([] : List Int).map vI)), (129, .row true 1 (([] : List Int).map vI)), (64, .box [AS [], .sl 65 0 0, .sl 66 0 0, AI 0, AI 0, .sl 67 0 0, AI 0, AI 0, .sl 68 0 0, AS [], .sl 69 0 0, .sl 70 0 0, AI 0, AS [], AI 0, AI 0, AI 0, .sl 71 0 0]), (71, .row true 3 (([] : List Int).map vI)), (70, .row true 1 (([] : List Int).map vI)), (69, .row true 1 (([] : List Int).map vI)), (68, .row true 2 (([] : List Int).map vI)), (67, .row true 1 (([] : List Int).map vI)), (66, .row true 1 (([] : List Int).map vI)), (65, .row true 1 (([] : List Int).map vI)), (0, .box [AS v0.1, AL 1 (v0.2.1.map vI), AL 1 (v0.2.2.1.map vI), AI v0.2.2.2.1, AI v0.2.2.2.2.1, AL 1 (v0.2.2.2.2.2.1.map (eL 1 vI)), AI v0.2.2.2.2.2.2.1, AI v0.2.2.2.2.2.2.2.1, AL 2 (v0.2.2.2.2.2.2.2.2.1.map eNote), AS v0.2.2.2.2.2.2.2.2.2.1, AL 1 (v0.2.2.2.2.2.2.2.2.2.2.1.map vI), AL 1 (v0.2.2.2.2.2.2.2.2.2.2.2.1.map vI), AI v0.2.2.2.2.2.2.2.2.2.2.2.2.1, AS v0.2.2.2.2.2.2.2.2.2.2.2.2.2.1, AI v0.2.2.2.2.2.2.2.2.2.2.2.2.2.2.1, AI v0.2.2.2.2.2.2.2.2.2.2.2.2.2.2.2.1, AI v0.2.2.2.2.2.2.2.2.2.2.2.2.2.2.2.2.1, AL 3 (v0.2.2.2.2.2.2.2.2.2.2.2.2.2.2.2.2.2.map eTurn)])] (by simp) ?_
 refine r_nil ?_
 refine ws 3264 3392 ?_
 refine qp (.agg [AS v1000.1, .sl 321 0 v1000.2.1.length, .sl 322 0 v1000.2.2.1.length, AI v1000.2.2.2.1, AI v1000.2.2.2.2.1, .sl 325 0 v1000.2.2.2.2.2.length, AI v0.2.2.2.2.2.2.1, AI v0.2.2.2.2.2.2.2.1, .sl 1152 0 v1001.length, AS v1002.1, .sl 1473 0 v1002.2.1.length, .sl 1474 0 v1002.2.2.length, AI v0.2.2.2.2.2.2.2.2.2.2.2.2.1, AS v0.2.2.2.2.2.2.2.2.2.2.2.2.2.1, AI v0.2.2.2.2.2.2.2.2.2.2.2.2.2.2.1, AI v0.2.2.2.2.2.2.2.2.2.2.2.2.2.2.2.1, AI v0.2.2.2.2.2.2.2.2.2.2.2.2.2.2.2.2.1, .sl 3072 0 v1003.length]) rfl ?_
 refine qf0 (.undef) [(64, .box [AS v1000.1, .sl 321 0 v1000.2.1.length, .sl 322 0 v1000.2.2.1.length, AI v1000.2.2.2.1, AI v1000.2.2.2.2.1, .sl 325 0 v1000.2.2.2.2.2.length, AI v0.2.2.2.2.2.2.1, AI v0.2.2.2.2.2.2.2.1, .sl 1152 0 v1001.length, AS v1002.1, .sl 1473 0 v1002.2.1.length, .sl 1474 0 v1002.2.2.length, AI v0.2.2.2.2.2.2.2.2.2.2.2.2.1, AS v0.2.2.2.2.2.2.2.2.2.2.2.2.2.1, AI v0.2.2.2.2.2.2.2.2.2.2.2.2.2.2.1, AI v0.2.2.2.2.2.2.2.2.2.2.2.2.2.2.2.1, AI v0.2.2.2.2.2.2.2.2.2.2.2.2.2.2.2.2.1, .sl 3072 0 v1003.length]), (128, .box [AS v1000.1, .sl 321 0 v1000.2.1.length, .sl 322 0 v1000.2.2.1.length, AI v1000.2.2.2.1, AI v1000.2.2.2.2.1, .sl 325 0 v1000.2.2.2.2.2.length, AI v0.2.2.2.2.2.2.1, AI v0.2.2.2.2.2.2.2.1, .sl 1152 0 v1001.length, AS v1002.1, .sl 1473 0 v1002.2.1.length, .sl 1474 0 v1002.2.2.length, AI v0.2.2.2.2.2.2.2.2.2.2.2.2.1, AS v0.2.2.2.2.2.2.2.2.2.2.2.2.2.1, AI v0.2.2.2.2.2.2.2.2.2.2.2.2.2.2.1, AI v0.2.2.2.2.2.2.2.2.2.2.2.2.2.2.2.1, AI v0.2.2.2.2.2.2.2.2.2.2.2.2.2.2.2.2.1, .sl 3072 0 v1003.length]), (3072, .row true 3 (v1003.map eTurn)), (128, .box [AS v1000.1, .sl 321 0 v1000.2.1.length, .sl 322 0 v1000.2.2.1.length, AI v1000.2.2.2.1, AI v1000.2.2.2.2.1, .sl 325 0 v1000.2.2.2.2.2.length, AI v0.2.2.2.2.2.2.1, AI v0.2.2.2.2.2.2.2.1, .sl 1152 0 v1001.length, AS v1002.1, .sl 1473 0 v1002.2.1.length, .sl 1474 0 v1002.2.2.length, AI v0.2.2.2.2.2.2.2.2.2.2.2.2.1, AS v0.2.2.2.2.2.2.2.2.2.2.2.2.2.1, AI v0.2.2.2.2.2.2.2.2.2.2.2.2.2.2.1, AI v0.2.2.2.2.2.2.2.2.2.2.2.2.2.2.2.1, AI v0.2.2.2.2.2.2.2.2.2.2.2.2.2.2.2.2.1, .sl 135 0 0]), (128, .box [AS v1000.1, .sl 321 0 v1000.2.1.length, .sl 322 0 v1000.2.2.1.length, AI v1000.2.2.2.1, AI v1000.2.2.2.2.1, .sl 325 0 v1000.2.2.2.2.2.length, AI v0.2.2.2.2.2.2.1, AI v0.2.2.2.2.2.2.2.1, .sl 1152 0 v1001.length, AS v1002.1, .sl 1473 0 v1002.2.1.length, .sl 1474 0 v1002.2.2.length, AI v0.2.2.2.2.2.2.2.2.2.2.2.2.1, AS v0.2.2.2.2.2.2.2.2.2.2.2.2.2.1, AI v0.2.2.2.2.2.2.2.2.2.2.2.2.2.2.1, AI v0.2.2.2.2.2.2.2.2.2.2.2.2.2.2.2.1, AI 0, .sl 135 0 0]), (128, .box [AS v1000.1, .sl 321 0 v1000.2.1.length, .sl 322 0 v1000.2.2.1.length, AI v1000.2.2.2.1, AI v1000.2.2.2.2.1, .sl 325 0 v1000.2.2.2.2.2.length, AI v0.2.2.2.2.2.2.1, AI v0.2.2.2.2.2.2.2.1, .sl 1152 0 v1001.length, AS v1002.1, .sl 1473 0 v1002.2.1.length, .sl 1474 0 v1002.2.2.length, AI v0.2.2.2.2.2.2.2.2.2.2.2.2.1, AS v0.2.2.2.2.2.2.2.2.2.2.2.2.2.1, AI v0.2.2.2.2.2.2.2.2.2.2.2.2.2.2.1, AI 0, AI 0, .sl 135 0 0]), (128, .box [AS v1000.1, .sl 321 0 v1000.2.1.length, .sl 322 0 v1000.2.2.1.length, AI v1000.2.2.2.1, AI v1000.2.2.2.2.1, .sl 325 0 v1000.2.2.2.2.2.length, AI v0.2.2.2.2.2.2.1, AI v0.2.2.2.2.2.2.2.1, .sl 1152 0 v1001.length, AS v1002.1, .sl 1473 0 v1002.2.1.length, .sl 1474 0 v1002.2.2.length, AI v0.2.2.2.2.2.2.2.2.2.2.2.2.1, AS v0.2.2.2.2.2.2.2.2.2.2.2.2.2.1, AI 0, AI 0, AI 0, .sl 135 0 0]), (128, .box [AS v1000.1, .sl 321 0 v1000.2.1.length, .sl 322 0 v1000.2.2.1.length, AI v1000.2.2.2.1, AI v1000.2.2.2.2.1, .sl 325 0 v1000.2.2.2.2.2.length, AI v0.2.2.2.2.2.2.1, AI v0.2.2.2.2.2.2.2.1, .sl 1152 0 v1001.length, AS v1002.1, .sl 1473 0 v1002.2.1.length, .sl 1474 0 v1002.2.2.length, AI v0.2.2.2.2.2.2.2.2.2.2.2.2.1, AS [], AI 0, AI 0, AI 0, .sl 135 0 0]), (128, .box [AS v1000.1, .sl 321 0 v1000.2.1.length, .sl 322 0 v1000.2.2.1.length, AI v1000.2.2.2.1, AI v1000.2.2.2.2.1, .sl 325 0 v1000.2.2.2.2.2.length, AI v0.2.2.2.2.2.2.1, AI v0.2.2.2.2.2.2.2.1, .sl 1152 0 v1001.length, AS v1002.1, .sl 1473 0 v1002.2.1.length, .sl 1474 0 v1002.2.2.length, AI 0, AS [], AI 0, AI 0, AI 0, .sl 135 0 0]), (1474, .row true 1 (v1002.2.2.map vI)), (1473, .row true 1 (v1002.2.1.map vI)), (128, .box [AS v1000.1, .sl 321 0 v1000.2.1.length, .sl 322 0 v1000.2.2.1.length, AI v1000.2.2.2.1, AI v1000.2.2.2.2.1, .sl 325 0 v1000.2.2.2.2.2.length, AI v0.2.2.2.2.2.2.1, AI v0.2.2.2.2.2.2.2.1, .sl 1152 0 v1001.length, AS [], .sl 133 0 0, .sl 134 0 0, AI 0, AS [], AI 0, AI 0, AI 0, .sl 135 0 0]), (1152, .row true 2 (v1001.map eNote)), (128, .box [AS v1000.1, .sl 321 0 v1000.2.1.length, .sl 322 0 v1000.2.2.1.length, AI v1000.2.2.2.1, AI v1000.2.2.2.2.1, .sl 325 0 v1000.2.2.2.2.2.length, AI v0.2.2.2.2.2.2.1, AI v0.2.2.2.2.2.2.2.1, .sl 132 0 0, AS [], .sl 133 0 0, .sl 134 0 0, AI 0, AS [], AI 0, AI 0, AI 0, .sl 135 0 0]), (128, .box [AS v1000.1, .sl 321 0 v1000.2.1.length, .sl 322 0 v1000.2.2.1.length, AI v1000.2.2.2.1, AI v1000.2.2.2.2.1, .sl 325 0 v1000.2.2.2.2.2.length, AI v0.2.2.2.2.2.2.1, AI 0, .sl 132 0 0, AS [], .sl 133 0 0, .sl 134 0 0, AI 0, AS [], AI 0, AI 0, AI 0, .sl 135 0 0]), (128, .box [AS v1000.1, .sl 321 0 v1000.2.1.length, .sl 322 0 v1000.2.2.1.length, AI v1000.2.2.2.1, AI v1000.2.2.2.2.1, .sl 325 0 v1000.2.2.2.2.2.length, AI 0, AI 0, .sl 132 0 0, AS [], .sl 133 0 0, .sl 134 0 0, AI 0, AS [], AI 0, AI 0, AI 0, .sl 135 0 0]), (325, .row true 1 (v1000.2.2.2.2.2.map (eL 1 vI))), (322, .row true 1 (v1000.2.2.1.map vI)), (321, .row true 1 (v1000.2.1.map vI)), (128, .box [AS [], .sl 129 0 0, .sl 130 0 0, AI 0, AI 0, .sl 131 0 0, AI 0, AI 0, .sl 132 0 0, AS [], .sl 133 0 0, .sl 134 0 0, AI 0, AS [], AI 0, AI 0, AI 0, .sl 135 0 0]), (135, .row true 3 (([] : List Int).map vI)), (134, .row true 1 (([] : List Int).map vI)), (133, .row true 1 (([] : List Int).map vI)), (132, .row true 2 (([] : List Int).map vI)), (131, .row true 1 (([] : List Int).map vI)), (130, .row true 1 (([] : List Int).map vI)), (129, .row true 1 (([] : List Int).map vI)), (64, .box [AS [], .sl 65 0 0, .sl 66 0 0, AI 0, AI 0, .sl 67 0 0, AI 0, AI 0, .sl 68 0 0, AS [], .sl 69 0 0, .sl 70 0 0, AI 0, AS [], AI 0, AI 0, AI 0, .sl 71 0 0]), (71, .row true 3 (([] : List Int).map vI)), (70, .row true 1 (([] : List Int).map vI)), (69, .row true 1 (([] : List Int).map vI)), (68, .row true 2 (([] : List Int).map vI)), (67, .row true 1 (([] : List Int).map vI)), (66, .row true 1 (([] : List Int).map vI)), (65, .row true 1 (([] : List Int).map vI)), (0, .box [AS v0.1, AL 1 (v0.2.1.map vI), AL 1 (v0.2.2.1.map vI), AI v0.2.2.2.1, AI v0.2.2.2.2.1, AL 1 (v0.2.2.2.2.2.1.map (eL 1 vI)), AI v0.2.2.2.2.2.2.1, AI v0.2.2.2.2.2.2.2.1, AL 2 (v0.2.2.2.2.2.2.2.2.1.map eNote), AS v0.2.2.2.2.2.2.2.2.2.1, AL 1 (v0.2.2.2.2.2.2.2.2.2.2.1.map vI), AL 1 (v0.2.2.2.2.2.2.2.2.2.2.2.1.map vI), AI v0.2.2.2.2.2.2.2.2.2.2.2.2.1, AS v0.2.2.2.2.2.2.2.2.2.2.2.2.2.1, AI v0.2.2.2.2.2.2.2.2.2.2.2.2.2.2.1, AI v0.2.2.2.2.2.2.2.2.2.2.2.2.2.2.2.1, AI v0.2.2.2.2.2.2.2.2.2.2.2.2.2.2.2.2.1, AL 3 (v0.2.2.2.2.2.2.2.2.2.2.2.2.2.2.2.2.2.map eTurn)])] (by simp) ?_
 refine r_nil ?_
 refine w_ret ?_
 cases hF
 exact eR

def c185 : MC := (.seq (.reg [rg 2 (.p true (.mv (.c (.bool false))))]) (.seq (.reg [mvt 3 0, rg 4 (.p true (.bin .geq (.t 3) (.c (.int .u8 97)))), mvt 5 4, ⟨(some 6), (some (5, true)), (.p true (.mv (.t 0)))⟩, ⟨(some 7), (some (5, true)), (.p true (.bin .leq (.t 6) (.c (.int .u8 122))))⟩, rg 8 (.p true (.pick (.t 5) (.t 7) (.c (.bool false)))), mvt 2 8]) .ret))
theorem c185_is : compFn Try.prog 185 = some (c185, [(.tmp 2)]) := by kernel_rfl
theorem c185_ok : okFn Try.prog 185 = true := by kernel_rfl

noncomputable def F_spec_l01Small (v0 : Int) : Option (Bool) :=
 (bif (decide ((97 : Int) ≤ v0)) then some (decide (v0 ≤ (122 : Int)))
 else some false)
@[simp] def res_spec_l01Small (r : Bool) : RV := .one (.one (.val (.bool r)))
theorem con_spec_l01Small {v0 : Int} {r : Bool} (hF : F_spec_l01Small v0 = some r) : Con Try.prog 185 [.int .u8 v0] (res_spec_l01Small r) := by
 unfold F_spec_l01Small at hF
 refine con_of c185_is fun N => ?_
 refine ws 0 64 ?_
 refine qp (AB false) rfl ?_
 refine r_nil ?_
 refine ws 64 512 ?_
 refine qp (.val none (.int .u8 v0)) rfl (qp (AB (decide ((97 : Int) ≤ v0))) rfl (qp (AB (decide ((97 : Int) ≤ v0))) rfl ?_))
 refine q_case 5 hF rfl (fun hF => ?_) (fun hF => ?_)
 ·
  refine qg (.val none (.int .u8 v0)) rfl rfl (qg (AB (decide (v0 ≤ (122 : Int)))) rfl rfl (qp (AB (decide (v0 ≤ (122 : Int)))) rfl (qp (AB (decide (v0 ≤ (122 : Int)))) rfl ?_)))
  refine r_nil ?_
  refine w_ret ?_
  cases hF
  exact eR
 ·
  refine qn rfl (qn rfl (qp (AB false) rfl (qp (AB false) rfl ?_)))
  refine r_nil ?_
  refine w_ret ?_
  cases hF
  exact eR

def c186 : MC := (.seq (.reg [rg 2 (.p true (.mv (.c (.bool false))))]) (.seq (.reg [mvt 3 0, rg 4 (.p true (.bin .geq (.t 3) (.c (.int .u8 48)))), mvt 5 4, ⟨(some 6), (some (5, true)), (.p true (.mv (.t 0)))⟩, ⟨(some 7), (some (5, true)), (.p true (.bin .leq (.t 6) (.c (.int .u8 57))))⟩, rg 8 (.p true (.pick (.t 5) (.t 7) (.c (.bool false)))), mvt 2 8]) .ret))
theorem c186_is : compFn Try.prog 186 = some (c186, [(.tmp 2)]) := by kernel_rfl
theorem c186_ok : okFn Try.prog 186 = true := by kernel_rfl

noncomputable def F_spec_l01Digit (v0 : Int) : Option (Bool) :=
 (bif (decide ((48 : Int) ≤ v0)) then some (decide (v0 ≤ (57 : Int)))
 else some false)
@[simp] def res_spec_l01Digit (r : Bool) : RV := .one (.one (.val (.bool r)))
theorem con_spec_l01Digit {v0 : Int} {r : Bool} (hF : F_spec_l01Digit v0 = some r) : Con Try.prog 186 [.int .u8 v0] (res_spec_l01Digit r) := by
 unfold F_spec_l01Digit at hF
 refine con_of c186_is fun N => ?_
 refine ws 0 64 ?_
 refine qp (AB false) rfl ?_
 refine r_nil ?_
 refine ws 64 512 ?_
 refine qp (.val none (.int .u8 v0)) rfl (qp (AB (decide ((48 : Int) ≤ v0))) rfl (qp (AB (decide ((48 : Int) ≤ v0))) rfl ?_))
 refine q_case 5 hF rfl (fun hF => ?_) (fun hF => ?_)
 ·
  refine qg (.val none (.int .u8 v0)) rfl rfl (qg (AB (decide (v0 ≤ (57 : Int)))) rfl rfl (qp (AB (decide (v0 ≤ (57 : Int)))) rfl (qp (AB (decide (v0 ≤ (57 : Int)))) rfl ?_)))
  refine r_nil ?_
  refine w_ret ?_
  cases hF
  exact eR
 ·
  refine qn rfl (qn rfl (qp (AB false) rfl (qp (AB false) rfl ?_)))
  refine r_nil ?_
  refine w_ret ?_
  cases hF
  exact eR

def c94 : MC := (.seq (.reg [rg 2 (.p true (.mv (.c (.bool false))))]) (.seq (.seq (.reg [mvt 4 0, rg 5 (.p true (.bin .eql (.t 4) (.c (.str [])))), mvt 6 5, ⟨(some 7), (some (6, false)), (.p true (.mv (.t 0)))⟩, ⟨(some 8), (some (6, false)), (.p true (.lens (.t 7)))⟩, ⟨(some 9), (some (6, false)), (.p true (.bin .gtr (.t 8) (.c (.int .i64 10))))⟩, rg 10 (.p true (.pick (.t 6) (.c (.bool true)) (.t 9))), mvt 11 10, ⟨(some 12), (some (11, false)), (.p true (.mv (.t 0)))⟩, ⟨(some 13), (some (11, false)), (.p true (.ixs (.t 12) (.c (.int .i64 0))))⟩, ⟨(some 14), (some (11, false)), (.call true 185 [(.t 13)])⟩, ⟨(some 15), (some (11, false)), (.p true (.not (.t 14)))⟩, rg 16 (.p true (.pick (.t 11) (.c (.bool true)) (.t 15)))]) (.cond (.t 16) (.seq (.reg [rg 2 (.p true (.mv (.c (.bool false))))]) .ret) .skip)) (.seq (.seq (.reg [rg 3 (.p true (.mv (.c (.int .i64 0))))]) (.block 0 (.loop (.seq (.seq (.reg [mvt 17 3, mvt 18 0, rg 19 (.p true (.lens (.t 18))), rg 20 (.p true (.bin .lss (.t 17) (.t 19)))]) (.cond (.t 20) .skip (.exit 0))) (.seq (.block 1 (.seq (.reg [mvt 23 0, mvt 24 3, rg 25 (.p true (.ixs (.t 23) (.t 24))), rg 26 (.call true 185 [(.t 25)]), rg 27 (.p true (.not (.t 26))), mvt 28 27, ⟨(some 29), (some (28, true)), (.p true (.mv (.t 0)))⟩, ⟨(some 30), (some (28, true)), (.p true (.mv (.t 3)))⟩, ⟨(some 31), (some (28, true)), (.p true (.ixs (.t 29) (.t 30)))⟩, ⟨(some 32), (some (28, true)), (.call true 186 [(.t 31)])⟩, ⟨(some 33), (some (28, true)), (.p true (.not (.t 32)))⟩, rg 34 (.p true (.pick (.t 28) (.t 33) (.c (.bool false))))]) (.cond (.t 34) (.seq (.reg [rg 2 (.p true (.mv (.c (.bool false))))]) .ret) .skip))) (.reg [mvt 21 3, rg 22 (.p true (.bin .add (.t 21) (.c (.int .i64 1)))), mvt 3 22])))))) (.seq (.reg [rg 2 (.p true (.mv (.c (.bool true))))]) .ret))))
theorem c94_is : compFn Try.prog 94 = some (c94, [(.tmp 2)]) := by kernel_rfl
theorem c94_ok : okFn Try.prog 94 = true := by kernel_rfl

noncomputable def F_spec_l01Name_l0 (v0 : List UInt8) (k1 : Int → Option (Bool)) : Int → Option (Bool)
 | v1011 => (bif (decide (v1011 < (v0.length : Int))) then ((ix v0 v1011).bind fun v1012 => ((F_spec_l01Small (v1012.toNat : Int)).bind fun v1013 => (bif (!v1013) then ((ix v0 v1011).bind fun v1014 => ((F_spec_l01Digit (v1014.toNat : Int)).bind fun v1015 => (bif (!v1015) then some false
 else k1 (w64 (v1011 + 1)))))
 else k1 (w64 (v1011 + 1)))))
 else some true)
noncomputable def F_spec_l01Name (v0 : List UInt8) : Option (Bool) :=
 (bif (decide (v0 = [])) then some false
 else (bif (decide ((10 : Int) < (v0.length : Int))) then some false
 else ((ix v0 0).bind fun v1000 => ((F_spec_l01Small (v1000.toNat : Int)).bind fun v1001 => (bif (!v1001) then some false
 else loop (F_spec_l01Name_l0 v0) 0)))))
@[simp] def res_spec_l01Name (r : Bool) : RV := .one (.one (.val (.bool r)))
theorem con_spec_l01Name {v0 : List UInt8} {r : Bool} (hF : F_spec_l01Name v0 = some r) : Con Try.prog 94 [.str v0] (res_spec_l01Name r) := by
 unfold F_spec_l01Name at hF
 refine con_of c94_is fun N => ?_
 refine ws 0 64 ?_
 refine qp (AB false) rfl ?_
 refine r_nil ?_
 refine w_seq ?_
 refine ws 64 896 ?_
 refine qp (AS v0) rfl (qp (AB (decide (v0 = []))) rfl (qp (AB (decide (v0 = []))) rfl ?_))
 refine q_case 6 hF rfl (fun hF => ?_) (fun hF => ?_)
 ·
  refine qn rfl (qn rfl (qn rfl (qp (AB true) rfl (qp (AB true) rfl (qn rfl (qn rfl (qn rfl ?_)))))))
  refine qn rfl (qp (AB true) rfl ?_)
  refine r_nil ?_
  refine w_true rfl ?_
  refine ws 896 960 ?_
  refine qp (AB false) rfl ?_
  refine r_nil ?_
  refine w_ret ?_
  refine thenQ_r ?_
  cases hF
  exact eR
 ·
  refine qg (AS v0) rfl rfl (qg (AI (v0.length : Int)) rfl rfl (qg (AB (decide ((10 : Int) < (v0.length : Int)))) rfl rfl (qp (AB (decide ((10 : Int) < (v0.length : Int)))) rfl (qp (AB (decide ((10 : Int) < (v0.length : Int)))) rfl ?_))))
  refine q_case 11 hF rfl (fun hF => ?_) (fun hF => ?_)
  ·
   refine qn rfl (qn rfl (qn rfl (qn rfl (qp (AB true) rfl ?_))))
   refine r_nil ?_
   refine w_true rfl ?_
   refine ws 896 960 ?_
   refine qp (AB false) rfl ?_
   refine r_nil ?_
   refine w_ret ?_
   refine thenQ_r ?_
   cases hF
   exact eR
  ·
   refine qg (AS v0) rfl rfl ?_
   obtain ⟨v1000, e1000, hF⟩ := bind_get hF
   refine qg (.val none (.int .u8 (v1000.toNat : Int))) rfl (ev_ixs rfl rfl e1000) ?_
   obtain ⟨v1001, e1001, hF⟩ := bind_get hF
   refine qcg (AB v1001) [] false rfl (con_spec_l01Small e1001) c185_ok (by first | rfl | simp) rfl ?_
   refine qg (AB (!v1001)) rfl rfl (qp (AB (!v1001)) rfl ?_)
   refine r_nil ?_
   refine cF hF (fun hF => ?_) fun hF => ?_
   ·
    refine ws 896 960 ?_
    refine qp (AB false) rfl ?_
    refine r_nil ?_
    refine w_ret ?_
    refine thenQ_r ?_
    cases hF
    exact eR
   ·
    refine w_skip ?_
    refine thenQ_n ?_
    refine w_seq ?_
    refine ws 896 960 ?_
    refine qp (AI 0) rfl ?_
    refine r_nil ?_
    refine w_block ?_
    refine wr (l' := [(0, AS v0), (3, AI 0)]) (L := []) [0, 3] [] 1 ?_
    refine w_loopF (F_spec_l01Name_l0 v0) (fun s : Int => mkS [(0, AS v0), (3, AI s)] (fo []) 1) hF ?_
    rintro k1 v1011 hF
    rw [F_spec_l01Name_l0] at hF
    try dsimp only
    refine w_seq ?_
    refine ws 1 257 ?_
    refine qp (AI v1011) rfl (qp (AS v0) rfl (qp (AI (v0.length : Int)) rfl (qp (AB (decide (v1011 < (v0.length : Int)))) rfl ?_)))
    refine r_nil ?_
    refine cF hF (fun hF => ?_) fun hF => ?_
    ·
     refine w_skip ?_
     refine thenQ_n ?_
     refine w_seq ?_
     refine w_block ?_
     refine ws 257 1025 ?_
     refine qp (AS v0) rfl (qp (AI v1011) rfl ?_)
     obtain ⟨v1012, e1012, hF⟩ := bind_get hF
     refine qp (.val none (.int .u8 (v1012.toNat : Int))) (ev_ixs rfl rfl e1012) ?_
     obtain ⟨v1013, e1013, hF⟩ := bind_get hF
     refine qc (AB v1013) [] false (con_spec_l01Small e1013) c185_ok (by first | rfl | simp) rfl ?_
     refine qp (AB (!v1013)) rfl (qp (AB (!v1013)) rfl ?_)
     refine q_case 28 hF rfl (fun hF => ?_) (fun hF => ?_)
     ·
      refine qg (AS v0) rfl rfl (qg (AI v1011) rfl rfl ?_)
      obtain ⟨v1014, e1014, hF⟩ := bind_get hF
      refine qg (.val none (.int .u8 (v1014.toNat : Int))) rfl (ev_ixs rfl rfl e1014) ?_
      obtain ⟨v1015, e1015, hF⟩ := bind_get hF
      refine qcg (AB v1015) [] false rfl (con_spec_l01Digit e1015) c186_ok (by first | rfl | simp) rfl ?_
      refine qg (AB (!v1015)) rfl rfl (qp (AB (!v1015)) rfl ?_)
      refine r_nil ?_
      refine cF hF (fun hF => ?_) fun hF => ?_
      ·
       refine ws 1025 1089 ?_
       refine qp (AB false) rfl ?_
       refine r_nil ?_
       refine w_ret ?_
       refine blockQ_r ?_
       refine thenQ_r ?_
       refine thenQ_r ?_
       refine blockQ_r ?_
       refine thenQ_r ?_
       cases hF
       exact eR
      ·
       refine w_skip ?_
       refine blockQ_n ?_
       refine thenQ_n ?_
       refine w_reg 1025 1217 rfl rfl ?_
       refine qp (AI v1011) rfl (qp (AI (w64 (v1011 + 1))) rfl (qp (AI (w64 (v1011 + 1))) rfl ?_))
       refine r_nil ?_
       refine thenQ_n ?_
       refine ar (l' := [(0, AS v0), (3, AI (w64 (v1011 + 1)))]) (L := []) [0, 3] [] 1 ⟨_, by rfl, hF⟩
     ·
      refine qn rfl (qn rfl (qn rfl (qn rfl (qn rfl (qp (AB false) rfl ?_)))))
      refine r_nil ?_
      refine w_false rfl ?_
      refine w_skip ?_
      refine blockQ_n ?_
      refine thenQ_n ?_
      refine w_reg 1025 1217 rfl rfl ?_
      refine qp (AI v1011) rfl (qp (AI (w64 (v1011 + 1))) rfl (qp (AI (w64 (v1011 + 1))) rfl ?_))
      refine r_nil ?_
      refine thenQ_n ?_
      refine ar (l' := [(0, AS v0), (3, AI (w64 (v1011 + 1)))]) (L := []) [0, 3] [] 1 ⟨_, by rfl, hF⟩
    ·
     refine w_exit ?_
     refine thenQ_e ?_
     refine thenQ_e ?_
     refine blockQ_e ?_
     refine thenQ_n ?_
     refine ws 257 321 ?_
     refine qp (AB true) rfl ?_
     refine r_nil ?_
     refine w_ret ?_
     cases hF
     exact eR

def c93 : MC := (.seq (.reg [rg 6 (.p true (.mv (.c (.bool false))))]) (.seq (.reg [mvt 7 0, mvt 8 1, rg 9 (.p true (.bin .geq (.t 7) (.t 8))), mvt 10 9, ⟨(some 11), (some (10, true)), (.p true (.mv (.t 0)))⟩, ⟨(some 12), (some (10, true)), (.p true (.mv (.t 2)))⟩, ⟨(some 13), (some (10, true)), (.p true (.bin .leq (.t 11) (.t 12)))⟩, rg 14 (.p true (.pick (.t 10) (.t 13) (.c (.bool false)))), mvt 6 14]) .ret))
theorem c93_is : compFn Try.prog 93 = some (c93, [(.tmp 6)]) := by kernel_rfl
theorem c93_ok : okFn Try.prog 93 = true := by kernel_rfl

noncomputable def F_spec_l00In (v0 : Int) (v1 : Int) (v2 : Int) : Option (Bool) :=
 (bif (decide (v1 ≤ v0)) then some (decide (v0 ≤ v2))
 else some false)
@[simp] def res_spec_l00In (r : Bool) : RV := .one (.one (.val (.bool r)))
theorem con_spec_l00In {v0 : Int} {v1 : Int} {v2 : Int} {r : Bool} (hF : F_spec_l00In v0 v1 v2 = some r) : Con Try.prog 93 [.int .i64 v0, .int .i64 v1, .int .i64 v2] (res_spec_l00In r) := by
 unfold F_spec_l00In at hF
 refine con_of c93_is fun N => ?_
 refine ws 0 64 ?_
 refine qp (AB false) rfl ?_
 refine r_nil ?_
 refine ws 64 640 ?_
 refine qp (AI v0) rfl (qp (AI v1) rfl (qp (AB (decide (v1 ≤ v0))) rfl (qp (AB (decide (v1 ≤ v0))) rfl ?_)))
 refine q_case 10 hF rfl (fun hF => ?_) (fun hF => ?_)
 ·
  refine qg (AI v0) rfl rfl (qg (AI v2) rfl rfl (qg (AB (decide (v0 ≤ v2))) rfl rfl (qp (AB (decide (v0 ≤ v2))) rfl (qp (AB (decide (v0 ≤ v2))) rfl ?_))))
  refine r_nil ?_
  refine w_ret ?_
  cases hF
  exact eR
 ·
  refine qn rfl (qn rfl (qn rfl (qp (AB false) rfl (qp (AB false) rfl ?_))))
  refine r_nil ?_
  refine w_ret ?_
  cases hF
  exact eR

def c230 : MC := (.seq (.reg [rg 6 (.p true (.mv (.c (.bool false))))]) (.seq (.seq (.reg [rg 7 (.p true (.mv (.c (.int .i64 0))))]) (.block 0 (.loop (.seq (.seq (.reg [mvt 8 7, mvt 9 0, rg 10 (.p true (.len (.t 9))), rg 11 (.p true (.bin .lss (.t 8) (.t 10)))]) (.cond (.t 11) .skip (.exit 0))) (.seq (.block 1 (.seq (.reg [rg 14 (.p false (.mv (.t 0))), rg 15 (.p false (.mv (.t 7))), rg 16 (.p false (.iad (.t 14) (.t 15) 1)), rg 17 (.p false (.ld (.t 16) 1 false)), rg 18 (.p false (.mv (.t 1))), rg 19 (.p false (.mv (.t 2))), rg 20 (.call false 93 [(.t 17), (.t 18), (.t 19)]), rg 21 (.p false (.not (.t 20))), rg 22 (.p false (.mv (.t 21))), ⟨(some 23), (some (22, false)), (.p false (.mv (.t 7)))⟩, ⟨(some 24), (some (22, false)), (.p false (.bin .gtr (.t 23) (.c (.int .i64 0))))⟩, ⟨(some 25), (some (22, false)), (.p false (.mv (.t 24)))⟩, ⟨(some 26), (some (25, true)), (.p false (.mv (.t 0)))⟩, ⟨(some 27), (some (25, true)), (.p false (.mv (.t 7)))⟩, ⟨(some 28), (some (25, true)), (.p false (.bin .sub (.t 27) (.c (.int .i64 1))))⟩, ⟨(some 29), (some (25, true)), (.p false (.iad (.t 26) (.t 28) 1))⟩, ⟨(some 30), (some (25, true)), (.p false (.ld (.t 29) 1 false))⟩, ⟨(some 31), (some (25, true)), (.p false (.mv (.t 0)))⟩, ⟨(some 32), (some (25, true)), (.p false (.mv (.t 7)))⟩, ⟨(some 33), (some (25, true)), (.p false (.iad (.t 31) (.t 32) 1))⟩, ⟨(some 34), (some (25, true)), (.p false (.ld (.t 33) 1 false))⟩, ⟨(some 35), (some (25, true)), (.p false (.bin .geq (.t 30) (.t 34)))⟩, ⟨(some 36), (some (22, false)), (.p false (.pick (.t 25) (.t 35) (.c (.bool false))))⟩, rg 37 (.p false (.pick (.t 22) (.c (.bool true)) (.t 36)))]) (.cond (.t 37) (.seq (.reg [rg 6 (.p true (.mv (.c (.bool false))))]) .ret) .skip))) (.reg [mvt 12 7, rg 13 (.p true (.bin .add (.t 12) (.c (.int .i64 1)))), mvt 7 13])))))) (.seq (.reg [rg 6 (.p true (.mv (.c (.bool true))))]) .ret)))
theorem c230_is : compFn Try.prog 230 = some (c230, [(.tmp 6)]) := by kernel_rfl
theorem c230_ok : okFn Try.prog 230 = true := by kernel_rfl

noncomputable def F_spec_l00Rises_l0 (v0 : List Int) (v1 : Int) (v2 : Int) (k0 : Int → Option (Bool)) : Int → Option (Bool)
 | v12 => (bif (decide (v12 < (v0.length : Int))) then ((ix v0 v12).bind fun v1000 => ((F_spec_l00In v1000 v1 v2).bind fun v1001 => (bif (!v1001) then some false
 else (bif (decide ((0 : Int) < v12)) then ((ix v0 (w64 (v12 - 1))).bind fun v1002 => ((ix v0 v12).bind fun v1003 => (bif (decide (v1003 ≤ v1002)) then some false
 else k0 (w64 (v12 + 1)))))
 else k0 (w64 (v12 + 1))))))
 else some true)
noncomputable def F_spec_l00Rises (v0 : List Int) (v1 : Int) (v2 : Int) : Option (Bool) :=
 loop (F_spec_l00Rises_l0 v0 v1 v2) 0
@[simp] def res_spec_l00Rises (r : Bool) : RV := .one (.one (.val (.bool r)))
theorem con_spec_l00Rises {v0 : List Int} {v1 : Int} {v2 : Int} {r : Bool} (hF : F_spec_l00Rises v0 v1 v2 = some r) : Con Try.prog 230 [.sl 1 (v0.map vI), .int .i64 v1, .int .i64 v2] (res_spec_l00Rises r) := by
 unfold F_spec_l00Rises at hF
 refine con_of c230_is fun N => ?_
 refine ws 0 64 ?_
 refine qp (AB false) rfl ?_
 refine r_nil ?_
 refine w_seq ?_
 refine ws 64 128 ?_
 refine qp (AI 0) rfl ?_
 refine r_nil ?_
 refine w_block ?_
 refine wr (l' := [(0, AL 1 (v0.map vI)), (1, AI v1), (2, AI v2), (7, AI 0)]) (L := []) [0, 1, 2, 7] [] 1 ?_
 refine w_loopF (F_spec_l00Rises_l0 v0 v1 v2) (fun s : Int => mkS [(0, AL 1 (v0.map vI)), (1, AI v1), (2, AI v2), (7, AI s)] (fo []) 1) hF ?_
 rintro k0 v12 hF
 rw [F_spec_l00Rises_l0] at hF
 try dsimp only
 refine w_seq ?_
 refine ws 1 257 ?_
 refine qp (AI v12) rfl (qp (AL 1 (v0.map vI)) rfl (qp (AI (v0.length : Int)) (ev_len_n rfl) (qp (AB (decide (v12 < (v0.length : Int)))) rfl ?_)))
 refine r_nil ?_
 refine cF hF (fun hF => ?_) fun hF => ?_
 ·
  refine w_skip ?_
  refine thenQ_n ?_
  refine w_seq ?_
  refine w_block ?_
  refine ws 257 1793 ?_
  refine qp (AL 1 (v0.map vI)) rfl (qp (AI v12) rfl ?_)
  obtain ⟨v1000, e1000, hF⟩ := bind_get hF
  refine qp (.val none (.ptr [.int .i64 v1000])) (ev_iad_n rfl rfl e1000 rfl) (qp (AI v1000) rfl (qp (AI v1) rfl (qp (AI v2) rfl ?_)))
  obtain ⟨v1001, e1001, hF⟩ := bind_get hF
  refine qc (AB v1001) [] false (con_spec_l00In e1001) c93_ok (by first | rfl | simp) rfl ?_
  refine qp (AB (!v1001)) rfl (qp (AB (!v1001)) rfl ?_)
  refine q_case 22 hF rfl (fun hF => ?_) (fun hF => ?_)
  ·
   refine qn rfl (qn rfl (qn rfl (qu rfl (qu rfl (qu rfl (qu rfl (qu rfl ?_)))))))
   refine qu rfl (qu rfl (qu rfl (qu rfl (qu rfl (qn rfl (qp (AB true) rfl ?_))))))
   refine r_nil ?_
   refine w_true rfl ?_
   refine ws 1793 1857 ?_
   refine qp (AB false) rfl ?_
   refine r_nil ?_
   refine w_ret ?_
   refine blockQ_r ?_
   refine thenQ_r ?_
   refine thenQ_r ?_
   refine blockQ_r ?_
   refine thenQ_r ?_
   cases hF
   exact eR
  ·
   refine qg (AI v12) rfl rfl (qg (AB (decide ((0 : Int) < v12))) rfl rfl (qg (AB (decide ((0 : Int) < v12))) rfl rfl ?_))
   refine q_case 25 hF rfl (fun hF => ?_) (fun hF => ?_)
   ·
    refine qg (AL 1 (v0.map vI)) rfl rfl (qg (AI v12) rfl rfl (qg (AI (w64 (v12 - 1))) rfl rfl ?_))
    obtain ⟨v1002, e1002, hF⟩ := bind_get hF
    refine qg (.val none (.ptr [.int .i64 v1002])) rfl (ev_iad_n rfl rfl e1002 rfl) (qg (AI v1002) rfl rfl (qg (AL 1 (v0.map vI)) rfl rfl (qg (AI v12) rfl rfl ?_)))
    obtain ⟨v1003, e1003, hF⟩ := bind_get hF
    refine qg (.val none (.ptr [.int .i64 v1003])) rfl (ev_iad_n rfl rfl e1003 rfl) (qg (AI v1003) rfl rfl (qg (AB (decide (v1003 ≤ v1002))) rfl rfl (qg (AB (decide (v1003 ≤ v1002))) rfl rfl (qp (AB (decide (v1003 ≤ v1002))) rfl ?_))))
    refine r_nil ?_
    refine cF hF (fun hF => ?_) fun hF => ?_
    ·
     refine ws 1793 1857 ?_
     refine qp (AB false) rfl ?_
     refine r_nil ?_
     refine w_ret ?_
     refine blockQ_r ?_
     refine thenQ_r ?_
     refine thenQ_r ?_
     refine blockQ_r ?_
     refine thenQ_r ?_
     cases hF
     exact eR
    ·
     refine w_skip ?_
     refine blockQ_n ?_
     refine thenQ_n ?_
     refine w_reg 1793 1985 rfl rfl ?_
     refine qp (AI v12) rfl (qp (AI (w64 (v12 + 1))) rfl (qp (AI (w64 (v12 + 1))) rfl ?_))
     refine r_nil ?_
     refine thenQ_n ?_
     refine ar (l' := [(0, AL 1 (v0.map vI)), (1, AI v1), (2, AI v2), (7, AI (w64 (v12 + 1)))]) (L := []) [0, 1, 2, 7] [] 1 ⟨_, by rfl, hF⟩
   ·
    refine qn rfl (qn rfl (qn rfl (qn rfl (qn rfl (qn rfl (qn rfl (qn rfl ?_)))))))
    refine qn rfl (qn rfl (qg (AB false) rfl rfl (qp (AB false) rfl ?_)))
    refine r_nil ?_
    refine w_false rfl ?_
    refine w_skip ?_
    refine blockQ_n ?_
    refine thenQ_n ?_
    refine w_reg 1793 1985 rfl rfl ?_
    refine qp (AI v12) rfl (qp (AI (w64 (v12 + 1))) rfl (qp (AI (w64 (v12 + 1))) rfl ?_))
    refine r_nil ?_
    refine thenQ_n ?_
    refine ar (l' := [(0, AL 1 (v0.map vI)), (1, AI v1), (2, AI v2), (7, AI (w64 (v12 + 1)))]) (L := []) [0, 1, 2, 7] [] 1 ⟨_, by rfl, hF⟩
 ·
  refine w_exit ?_
  refine thenQ_e ?_
  refine thenQ_e ?_
  refine blockQ_e ?_
  refine thenQ_n ?_
  refine ws 257 321 ?_
  refine qp (AB true) rfl ?_
  refine r_nil ?_
  refine w_ret ?_
  cases hF
  exact eR

def c222 : MC := (.seq (.reg [rg 2 (.p true (.mv (.c (.bool false))))]) (.seq (.reg [mvt 3 0, rg 4 (.p true (.len (.t 3))), rg 5 (.p true (.bin .geq (.t 4) (.c (.int .i64 5)))), mvt 6 5, ⟨(some 7), (some (6, true)), (.p true (.mv (.t 0)))⟩, ⟨(some 8), (some (6, true)), (.call true 230 [(.t 7), (.c (.int .i64 0)), (.c (.int .i64 11))])⟩, rg 9 (.p true (.pick (.t 6) (.t 8) (.c (.bool false)))), mvt 10 9, ⟨(some 11), (some (10, true)), (.p true (.mv (.t 0)))⟩, ⟨(some 12), (some (10, true)), (.p true (.iad (.t 11) (.c (.int .i64 0)) 1))⟩, ⟨(some 13), (some (10, true)), (.p true (.ld (.t 12) 1 false))⟩, ⟨(some 14), (some (10, true)), (.p true (.bin .eql (.t 13) (.c (.int .i64 0))))⟩, rg 15 (.p true (.pick (.t 10) (.t 14) (.c (.bool false)))), mvt 2 15]) .ret))
theorem c222_is : compFn Try.prog 222 = some (c222, [(.tmp 2)]) := by kernel_rfl
theorem c222_ok : okFn Try.prog 222 = true := by kernel_rfl

noncomputable def F_spec_l03Scale (v0 : List Int) : Option (Bool) :=
 (bif (decide ((5 : Int) ≤ (v0.length : Int))) then ((F_spec_l00Rises v0 0 11).bind fun v1000 => (bif v1000 then ((ix v0 0).bind fun v1001 => some (decide (v1001 = (0 : Int))))
 else some false))
 else some false)
@[simp] def res_spec_l03Scale (r : Bool) : RV := .one (.one (.val (.bool r)))
theorem con_spec_l03Scale {v0 : List Int} {r : Bool} (hF : F_spec_l03Scale v0 = some r) : Con Try.prog 222 [.sl 1 (v0.map vI)] (res_spec_l03Scale r) := by
 unfold F_spec_l03Scale at hF
 refine con_of c222_is fun N => ?_
 refine ws 0 64 ?_
 refine qp (AB false) rfl ?_
 refine r_nil ?_
 refine ws 64 960 ?_
 refine qp (AL 1 (v0.map vI)) rfl (qp (AI (v0.length : Int)) (ev_len_n rfl) (qp (AB (decide ((5 : Int) ≤ (v0.length : Int)))) rfl (qp (AB (decide ((5 : Int) ≤ (v0.length : Int)))) rfl ?_)))
 refine q_case 6 hF rfl (fun hF => ?_) (fun hF => ?_)
 ·
  refine qg (AL 1 (v0.map vI)) rfl rfl ?_
  obtain ⟨v1000, e1000, hF⟩ := bind_get hF
  refine qcg (AB v1000) [] false rfl (con_spec_l00Rises e1000) c230_ok (by first | rfl | simp) rfl ?_
  refine qp (AB v1000) rfl (qp (AB v1000) rfl ?_)
  refine q_case 10 hF rfl (fun hF => ?_) (fun hF => ?_)
  ·
   refine qg (AL 1 (v0.map vI)) rfl rfl ?_
   obtain ⟨v1001, e1001, hF⟩ := bind_get hF
   refine qg (.val none (.ptr [.int .i64 v1001])) rfl (ev_iad_n rfl rfl e1001 rfl) (qg (AI v1001) rfl rfl (qg (AB (decide (v1001 = (0 : Int)))) rfl rfl (qp (AB (decide (v1001 = (0 : Int)))) rfl (qp (AB (decide (v1001 = (0 : Int)))) rfl ?_))))
   refine r_nil ?_
   refine w_ret ?_
   cases hF
   exact eR
  ·
   refine qn rfl (qn rfl (qn rfl (qn rfl (qp (AB false) rfl (qp (AB false) rfl ?_)))))
   refine r_nil ?_
   refine w_ret ?_
   cases hF
   exact eR
 ·
  refine qn rfl (qn rfl (qp (AB false) rfl (qp (AB false) rfl (qn rfl (qn rfl (qn rfl (qn rfl ?_)))))))
  refine qp (AB false) rfl (qp (AB false) rfl ?_)
  refine r_nil ?_
  refine w_ret ?_
  cases hF
  exact eR

def c207 : MC := (.seq (.reg [rg 4 (.p true (.mv (.c (.bool false))))]) (.seq (.seq (.reg [rg 5 (.p true (.mv (.c (.int .i64 0))))]) (.block 0 (.loop (.seq (.seq (.reg [mvt 6 5, mvt 7 0, rg 8 (.p true (.len (.t 7))), rg 9 (.p true (.bin .lss (.t 6) (.t 8)))]) (.cond (.t 9) .skip (.exit 0))) (.seq (.block 1 (.seq (.reg [mvt 12 0, mvt 13 5, rg 14 (.p true (.iad (.t 12) (.t 13) 1)), rg 15 (.p true (.ld (.t 14) 1 false)), mvt 16 1, rg 17 (.p true (.bin .eql (.t 15) (.t 16)))]) (.cond (.t 17) (.seq (.reg [rg 4 (.p true (.mv (.c (.bool true))))]) .ret) .skip))) (.reg [mvt 10 5, rg 11 (.p true (.bin .add (.t 10) (.c (.int .i64 1)))), mvt 5 11])))))) (.seq (.reg [rg 4 (.p true (.mv (.c (.bool false))))]) .ret)))
theorem c207_is : compFn Try.prog 207 = some (c207, [(.tmp 4)]) := by kernel_rfl
theorem c207_ok : okFn Try.prog 207 = true := by kernel_rfl

noncomputable def F_spec_l00Has_l0 (v0 : List Int) (v1 : Int) (k0 : Int → Option (Bool)) : Int → Option (Bool)
 | v5 => (bif (decide (v5 < (v0.length : Int))) then ((ix v0 v5).bind fun v1000 => (bif (decide (v1000 = v1)) then some true
 else k0 (w64 (v5 + 1))))
 else some false)
noncomputable def F_spec_l00Has (v0 : List Int) (v1 : Int) : Option (Bool) :=
 loop (F_spec_l00Has_l0 v0 v1) 0
@[simp] def res_spec_l00Has (r : Bool) : RV := .one (.one (.val (.bool r)))
theorem con_spec_l00Has {v0 : List Int} {v1 : Int} {r : Bool} (hF : F_spec_l00Has v0 v1 = some r) : Con Try.prog 207 [.sl 1 (v0.map vI), .int .i64 v1] (res_spec_l00Has r) := by
 unfold F_spec_l00Has at hF
 refine con_of c207_is fun N => ?_
 refine ws 0 64 ?_
 refine qp (AB false) rfl ?_
 refine r_nil ?_
 refine w_seq ?_
 refine ws 64 128 ?_
 refine qp (AI 0) rfl ?_
 refine r_nil ?_
 refine w_block ?_
 refine wr (l' := [(0, AL 1 (v0.map vI)), (1, AI v1), (5, AI 0)]) (L := []) [0, 1, 5] [] 1 ?_
 refine w_loopF (F_spec_l00Has_l0 v0 v1) (fun s : Int => mkS [(0, AL 1 (v0.map vI)), (1, AI v1), (5, AI s)] (fo []) 1) hF ?_
 rintro k0 v5 hF
 rw [F_spec_l00Has_l0] at hF
 try dsimp only
 refine w_seq ?_
 refine ws 1 257 ?_
 refine qp (AI v5) rfl (qp (AL 1 (v0.map vI)) rfl (qp (AI (v0.length : Int)) (ev_len_n rfl) (qp (AB (decide (v5 < (v0.length : Int)))) rfl ?_)))
 refine r_nil ?_
 refine cF hF (fun hF => ?_) fun hF => ?_
 ·
  refine w_skip ?_
  refine thenQ_n ?_
  refine w_seq ?_
  refine w_block ?_
  refine ws 257 641 ?_
  refine qp (AL 1 (v0.map vI)) rfl (qp (AI v5) rfl ?_)
  obtain ⟨v1000, e1000, hF⟩ := bind_get hF
  refine qp (.val none (.ptr [.int .i64 v1000])) (ev_iad_n rfl rfl e1000 rfl) (qp (AI v1000) rfl (qp (AI v1) rfl (qp (AB (decide (v1000 = v1))) rfl ?_)))
  refine r_nil ?_
  refine cF hF (fun hF => ?_) fun hF => ?_
  ·
   refine ws 641 705 ?_
   refine qp (AB true) rfl ?_
   refine r_nil ?_
   refine w_ret ?_
   refine blockQ_r ?_
   refine thenQ_r ?_
   refine thenQ_r ?_
   refine blockQ_r ?_
   refine thenQ_r ?_
   cases hF
   exact eR
  ·
   refine w_skip ?_
   refine blockQ_n ?_
   refine thenQ_n ?_
   refine w_reg 641 833 rfl rfl ?_
   refine qp (AI v5) rfl (qp (AI (w64 (v5 + 1))) rfl (qp (AI (w64 (v5 + 1))) rfl ?_))
   refine r_nil ?_
   refine thenQ_n ?_
   refine ar (l' := [(0, AL 1 (v0.map vI)), (1, AI v1), (5, AI (w64 (v5 + 1)))]) (L := []) [0, 1, 5] [] 1 ⟨_, by rfl, hF⟩
 ·
  refine w_exit ?_
  refine thenQ_e ?_
  refine thenQ_e ?_
  refine blockQ_e ?_
  refine thenQ_n ?_
  refine ws 257 321 ?_
  refine qp (AB false) rfl ?_
  refine r_nil ?_
  refine w_ret ?_
  cases hF
  exact eR

def c223 : MC := (.seq (.reg [rg 4 (.p true (.mv (.c (.bool false))))]) (.seq (.reg [mvt 5 0, rg 6 (.p true (.nck (.t 5))), rg 7 (.p true (.fad (.t 6) 1)), rg 8 (.p true (.ld (.t 7) 1 false)), mvt 9 1, rg 10 (.call true 207 [(.t 8), (.t 9)]), mvt 11 10, ⟨(some 12), (some (11, false)), (.p true (.mv (.t 0)))⟩, ⟨(some 13), (some (11, false)), (.p true (.nck (.t 12)))⟩, ⟨(some 14), (some (11, false)), (.p true (.fad (.t 13) 2))⟩, ⟨(some 15), (some (11, false)), (.p true (.ld (.t 14) 1 false))⟩, ⟨(some 16), (some (11, false)), (.p true (.mv (.t 1)))⟩, ⟨(some 17), (some (11, false)), (.call true 207 [(.t 15), (.t 16)])⟩, rg 18 (.p true (.pick (.t 11) (.c (.bool true)) (.t 17))), mvt 4 18]) .ret))
theorem c223_is : compFn Try.prog 223 = some (c223, [(.tmp 4)]) := by kernel_rfl
theorem c223_ok : okFn Try.prog 223 = true := by kernel_rfl

noncomputable def F_spec_l05Tone (v0 : TRaga) (v1 : Int) : Option (Bool) :=
 ((F_spec_l00Has v0.2.1 v1).bind fun v1000 => (bif v1000 then some true
 else ((F_spec_l00Has v0.2.2.1 v1).bind fun v1001 => some v1001)))
@[simp] def res_spec_l05Tone (r : Bool) : RV := .one (.one (.val (.bool r)))
theorem con_spec_l05Tone {v0 : TRaga} {v1 : Int} {r : Bool} (hF : F_spec_l05Tone v0 v1 = some r) : Con Try.prog 223 [.ptr [.str v0.1, .sl 1 (v0.2.1.map vI), .sl 1 (v0.2.2.1.map vI), .int .i64 v0.2.2.2.1, .int .i64 v0.2.2.2.2.1, .sl 1 (v0.2.2.2.2.2.map (eL 1 vI))], .int .i64 v1] (res_spec_l05Tone r) := by
 unfold F_spec_l05Tone at hF
 refine con_of c223_is fun N => ?_
 refine ws 0 64 ?_
 refine qp (AB false) rfl ?_
 refine r_nil ?_
 refine ws 64 1024 ?_
 refine qp (.val none (.ptr [.str v0.1, .sl 1 (v0.2.1.map vI), .sl 1 (v0.2.2.1.map vI), .int .i64 v0.2.2.2.1, .int .i64 v0.2.2.2.2.1, .sl 1 (v0.2.2.2.2.2.map (eL 1 vI))])) rfl (qp (.val none (.ptr [.str v0.1, .sl 1 (v0.2.1.map vI), .sl 1 (v0.2.2.1.map vI), .int .i64 v0.2.2.2.1, .int .i64 v0.2.2.2.2.1, .sl 1 (v0.2.2.2.2.2.map (eL 1 vI))])) rfl (qp (.val none (.ptr [.sl 1 (v0.2.1.map vI), .sl 1 (v0.2.2.1.map vI), .int .i64 v0.2.2.2.1, .int .i64 v0.2.2.2.2.1, .sl 1 (v0.2.2.2.2.2.map (eL 1 vI))])) rfl (qp (AL 1 (v0.2.1.map vI)) rfl (qp (AI v1) rfl ?_))))
 obtain ⟨v1000, e1000, hF⟩ := bind_get hF
 refine qc (AB v1000) [] false (con_spec_l00Has e1000) c207_ok (by first | rfl | simp) rfl ?_
 refine qp (AB v1000) rfl ?_
 refine q_case 11 hF rfl (fun hF => ?_) (fun hF => ?_)
 ·
  refine qn rfl (qn rfl (qn rfl (qn rfl (qn rfl (qn rfl (qp (AB true) rfl (qp (AB true) rfl ?_)))))))
  refine r_nil ?_
  refine w_ret ?_
  cases hF
  exact eR
 ·
  refine qg (.val none (.ptr [.str v0.1, .sl 1 (v0.2.1.map vI), .sl 1 (v0.2.2.1.map vI), .int .i64 v0.2.2.2.1, .int .i64 v0.2.2.2.2.1, .sl 1 (v0.2.2.2.2.2.map (eL 1 vI))])) rfl rfl (qg (.val none (.ptr [.str v0.1, .sl 1 (v0.2.1.map vI), .sl 1 (v0.2.2.1.map vI), .int .i64 v0.2.2.2.1, .int .i64 v0.2.2.2.2.1, .sl 1 (v0.2.2.2.2.2.map (eL 1 vI))])) rfl rfl (qg (.val none (.ptr [.sl 1 (v0.2.2.1.map vI), .int .i64 v0.2.2.2.1, .int .i64 v0.2.2.2.2.1, .sl 1 (v0.2.2.2.2.2.map (eL 1 vI))])) rfl rfl (qg (AL 1 (v0.2.2.1.map vI)) rfl rfl (qg (AI v1) rfl rfl ?_))))
  obtain ⟨v1001, e1001, hF⟩ := bind_get hF
  refine qcg (AB v1001) [] false rfl (con_spec_l00Has e1001) c207_ok (by first | rfl | simp) rfl ?_
  refine qp (AB v1001) rfl (qp (AB v1001) rfl ?_)
  refine r_nil ?_
  refine w_ret ?_
  cases hF
  exact eR

end Go.Ab
