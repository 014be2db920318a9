/- Walks (printed by auto.py, a program of this session's own). -/
import Derived.Test.YtlboickhkhbffaaB5
import Derived.Test.YtlboickhkhbffaaProg
import Derived.KernelRfl
import Derived.Test.YtlboickhkhbffaaSQ
set_option linter.unusedVariables false
set_option linter.unusedSimpArgs false
set_option maxRecDepth 8000
set_option maxHeartbeats 8000000
namespace Go.Ab
open Go.RowKit Go.Proofs

abbrev TRaga := (List UInt8) × (List Int) × (List Int) × Int × Int × (List (List Int))
@[simp] def eRaga (p : TRaga) : V := .agg [.str p.1, .sl 1 (p.2.1.map (V.int .i64)), .sl 1 (p.2.2.1.map (V.int .i64)), .int .i64 p.2.2.2.1, .int .i64 p.2.2.2.2.1, .sl 1 (p.2.2.2.2.2.map (eL 1 (V.int .i64)))]
abbrev TNote := Int × Int
@[simp] def eNote (p : TNote) : V := .agg [.int .i64 p.1, .int .i64 p.2]
abbrev TTuning := (List UInt8) × (List TNote)
@[simp] def eTuning (p : TTuning) : V := .agg [.str p.1, .sl 2 (p.2.map eNote)]
abbrev TSyllable := (List UInt8) × Int × Int
@[simp] def eSyllable (p : TSyllable) : V := .agg [.str p.1, .int .i64 p.2.1, .int .i64 p.2.2]
abbrev TItem := (List UInt8) × Int × Int × Int × Int × Int
@[simp] def eItem (p : TItem) : V := .agg [.str p.1, .int .i64 p.2.1, .int .i64 p.2.2.1, .int .i64 p.2.2.2.1, .int .i64 p.2.2.2.2.1, .int .i64 p.2.2.2.2.2]
abbrev TLesson := Int × (List UInt8) × (List UInt8) × Int × Int
@[simp] def eLesson (p : TLesson) : V := .agg [.int .i64 p.1, .str p.2.1, .str p.2.2.1, .int .i64 p.2.2.2.1, .int .i64 p.2.2.2.2]
abbrev TPerson := (List UInt8) × Int × (List (List UInt8))
@[simp] def ePerson (p : TPerson) : V := .agg [.str p.1, .int .i64 p.2.1, .sl 1 (p.2.2.map V.str)]
abbrev TDesk := (List UInt8) × (List Int) × (List Int) × Int × Int × (List (List Int)) × (List TNote) × (List UInt8) × (List TNote) × (List (List Int)) × (List TSyllable) × (List TNote) × (List TItem) × (List TLesson) × (List TPerson)
@[simp] def eDesk (p : TDesk) : V := .agg [.str p.1, .sl 1 (p.2.1.map (V.int .i64)), .sl 1 (p.2.2.1.map (V.int .i64)), .int .i64 p.2.2.2.1, .int .i64 p.2.2.2.2.1, .sl 1 (p.2.2.2.2.2.1.map (eL 1 (V.int .i64))), .sl 2 (p.2.2.2.2.2.2.1.map eNote), .str p.2.2.2.2.2.2.2.1, .sl 2 (p.2.2.2.2.2.2.2.2.1.map eNote), .sl 1 (p.2.2.2.2.2.2.2.2.2.1.map (eL 1 (V.int .i64))), .sl 3 (p.2.2.2.2.2.2.2.2.2.2.1.map eSyllable), .sl 2 (p.2.2.2.2.2.2.2.2.2.2.2.1.map eNote), .sl 6 (p.2.2.2.2.2.2.2.2.2.2.2.2.1.map eItem), .sl 5 (p.2.2.2.2.2.2.2.2.2.2.2.2.2.1.map eLesson), .sl 3 (p.2.2.2.2.2.2.2.2.2.2.2.2.2.2.map ePerson)]
def c139 : MC := (.seq (.reg [rg 4 (.p true (.mv (.c (.int .i64 0))))]) (.seq (.reg [rg 5 (.p true (.mv (.t 1))), rg 6 (.p true (.mv (.t 0))), rg 7 (.p true (.len (.t 6))), rg 8 (.p true (.bin .sub (.t 5) (.t 7))), rg 1 (.p true (.mv (.t 8)))]) (.seq (.seq (.reg [rg 9 (.p true (.mv (.t 1))), rg 10 (.p true (.bin .lss (.t 9) (.c (.int .i64 0))))]) (.cond (.t 10) (.seq (.reg [rg 4 (.p true (.mv (.c (.int .i64 (-1)))))]) .ret) .skip)) (.seq (.reg [rg 11 (.p true (.mv (.t 1))), rg 4 (.p true (.mv (.t 11)))]) .ret))))
theorem c139_is : compFn Try.prog 139 = some (c139, [(.tmp 4)]) := by kernel_rfl
theorem c139_ok : okFn Try.prog 139 = true := by kernel_rfl

noncomputable def F_laws_szInt64S (v0 : List Int) (v1 : Int) : Option (Int) :=
 (bif (decide (w64 (v1 - (v0.length : Int)) < (0 : Int))) then some (-1)
 else some (w64 (v1 - (v0.length : Int))))
@[simp] def res_laws_szInt64S (r : Int) : RV := .one (.one (.val (.int .i64 r)))
theorem con_laws_szInt64S {v0 : List Int} {v1 : Int} {r : Int} (hF : F_laws_szInt64S v0 v1 = some r) : Con Try.prog 139 [.sl 1 (v0.map (V.int .i64)), .int .i64 v1] (res_laws_szInt64S r) := by
 unfold F_laws_szInt64S at hF
 refine con_of c139_is fun N => ?_
 refine ws 0 64 ?_
 refine qp (AI 0) rfl ?_
 refine r_nil ?_
 refine ws 64 384 ?_
 refine qp (AI v1) rfl (qp (AL 1 (v0.map (V.int .i64))) rfl (qp (AI (v0.length : Int)) (ev_len_n rfl) (qp (AI (w64 (v1 - (v0.length : Int)))) rfl (qp (AI (w64 (v1 - (v0.length : Int)))) rfl ?_))))
 refine r_nil ?_
 refine w_seq ?_
 refine ws 384 512 ?_
 refine qp (AI (w64 (v1 - (v0.length : Int)))) rfl (qp (AB (decide (w64 (v1 - (v0.length : Int)) < (0 : Int)))) rfl ?_)
 refine r_nil ?_
 refine cF hF (fun hF => ?_) fun hF => ?_
 ·
  refine ws 512 576 ?_
  refine qp (AI (-1)) rfl ?_
  refine r_nil ?_
  refine w_ret ?_
  refine thenQ_r ?_
  cases hF
  exact eR
 ·
  refine w_skip ?_
  refine thenQ_n ?_
  refine ws 512 640 ?_
  refine qp (AI (w64 (v1 - (v0.length : Int)))) rfl (qp (AI (w64 (v1 - (v0.length : Int)))) rfl ?_)
  refine r_nil ?_
  refine w_ret ?_
  cases hF
  exact eR

def c58 : MC := (.seq (.reg [rg 4 (.p true (.mv (.c (.int .i64 0))))]) (.seq (.reg [rg 6 (.p true (.mv (.t 1))), rg 7 (.p true (.mv (.t 0))), rg 8 (.p true (.len (.t 7))), rg 9 (.p true (.bin .sub (.t 6) (.t 8))), rg 1 (.p true (.mv (.t 9)))]) (.seq (.seq (.reg [rg 10 (.p true (.mv (.t 1))), rg 11 (.p true (.bin .lss (.t 10) (.c (.int .i64 0))))]) (.cond (.t 11) (.seq (.reg [rg 4 (.p true (.mv (.c (.int .i64 (-1)))))]) .ret) .skip)) (.seq (.seq (.reg [rg 5 (.p true (.mv (.c (.int .i64 0))))]) (.block 0 (.loop (.seq (.seq (.reg [rg 12 (.p true (.mv (.t 5))), rg 13 (.p true (.mv (.t 0))), rg 14 (.p true (.len (.t 13))), rg 15 (.p true (.bin .lss (.t 12) (.t 14)))]) (.cond (.t 15) .skip (.exit 0))) (.seq (.block 1 (.seq (.reg [rg 18 (.p true (.mv (.t 0))), rg 19 (.p true (.mv (.t 5))), rg 20 (.p true (.iad (.t 18) (.t 19) 1)), rg 21 (.p true (.ld (.t 20) 1 false)), rg 22 (.p true (.mv (.t 1))), rg 23 (.call true 139 [(.t 21), (.t 22)]), rg 1 (.p true (.mv (.t 23)))]) (.seq (.reg [rg 24 (.p true (.mv (.t 1))), rg 25 (.p true (.bin .lss (.t 24) (.c (.int .i64 0))))]) (.cond (.t 25) (.seq (.reg [rg 4 (.p true (.mv (.c (.int .i64 (-1)))))]) .ret) .skip)))) (.reg [rg 16 (.p true (.mv (.t 5))), rg 17 (.p true (.bin .add (.t 16) (.c (.int .i64 1)))), rg 5 (.p true (.mv (.t 17)))])))))) (.seq (.reg [rg 26 (.p true (.mv (.t 1))), rg 4 (.p true (.mv (.t 26)))]) .ret)))))
theorem c58_is : compFn Try.prog 58 = some (c58, [(.tmp 4)]) := by kernel_rfl
theorem c58_ok : okFn Try.prog 58 = true := by kernel_rfl

noncomputable def F_laws_szInt64SS_l0 (v0 : List (List Int)) (k0 : Int × Int → Option (Int)) : Int × Int → Option (Int)
 | (v8, v9) => (bif (decide (v9 < (v0.length : Int))) then ((ix v0 v9).bind fun v1000 => ((F_laws_szInt64S v1000 v8).bind fun v1001 => (bif (decide (v1001 < (0 : Int))) then some (-1)
 else k0 (v1001, w64 (v9 + 1)))))
 else some v8)
noncomputable def F_laws_szInt64SS (v0 : List (List Int)) (v1 : Int) : Option (Int) :=
 (bif (decide (w64 (v1 - (v0.length : Int)) < (0 : Int))) then some (-1)
 else loop (F_laws_szInt64SS_l0 v0) (w64 (v1 - (v0.length : Int)), 0))
@[simp] def res_laws_szInt64SS (r : Int) : RV := .one (.one (.val (.int .i64 r)))
theorem con_laws_szInt64SS {v0 : List (List Int)} {v1 : Int} {r : Int} (hF : F_laws_szInt64SS v0 v1 = some r) : Con Try.prog 58 [.sl 1 (v0.map (eL 1 (V.int .i64))), .int .i64 v1] (res_laws_szInt64SS r) := by
 unfold F_laws_szInt64SS at hF
 refine con_of c58_is fun N => ?_
 refine ws 0 64 ?_
 refine qp (AI 0) rfl ?_
 refine r_nil ?_
 refine ws 64 384 ?_
 refine qp (AI v1) rfl (qp (AL 1 (v0.map (eL 1 (V.int .i64)))) rfl (qp (AI (v0.length : Int)) (ev_len_n rfl) (qp (AI (w64 (v1 - (v0.length : Int)))) rfl (qp (AI (w64 (v1 - (v0.length : Int)))) rfl ?_))))
 refine r_nil ?_
 refine w_seq ?_
 refine ws 384 512 ?_
 refine qp (AI (w64 (v1 - (v0.length : Int)))) rfl (qp (AB (decide (w64 (v1 - (v0.length : Int)) < (0 : Int)))) rfl ?_)
 refine r_nil ?_
 refine cF hF (fun hF => ?_) fun hF => ?_
 ·
  refine ws 512 576 ?_
  refine qp (AI (-1)) rfl ?_
  refine r_nil ?_
  refine w_ret ?_
  refine thenQ_r ?_
  cases hF
  exact eR
 ·
  refine w_skip ?_
  refine thenQ_n ?_
  refine w_seq ?_
  refine ws 512 576 ?_
  refine qp (AI 0) rfl ?_
  refine r_nil ?_
  refine w_block ?_
  refine wr (l' := [(0, AL 1 (v0.map (eL 1 (V.int .i64)))), (1, AI (w64 (v1 - (v0.length : Int)))), (5, AI 0)]) (L := []) [0, 1, 5] [] 1 ?_
  refine w_loopF (F_laws_szInt64SS_l0 v0) (fun s : Int × Int => mkS [(0, AL 1 (v0.map (eL 1 (V.int .i64)))), (1, AI s.1), (5, AI s.2)] (fo []) 1) hF ?_
  rintro k0 ⟨v8, v9⟩ hF
  rw [F_laws_szInt64SS_l0] at hF
  try dsimp only
  refine w_seq ?_
  refine ws 1 257 ?_
  refine qp (AI v9) rfl (qp (AL 1 (v0.map (eL 1 (V.int .i64)))) rfl (qp (AI (v0.length : Int)) (ev_len_n rfl) (qp (AB (decide (v9 < (v0.length : Int)))) rfl ?_)))
  refine r_nil ?_
  refine cF hF (fun hF => ?_) fun hF => ?_
  ·
   refine w_skip ?_
   refine thenQ_n ?_
   refine w_seq ?_
   refine w_block ?_
   refine ws 257 705 ?_
   refine qp (AL 1 (v0.map (eL 1 (V.int .i64)))) rfl (qp (AI v9) rfl ?_)
   obtain ⟨v1000, e1000, hF⟩ := bind_get hF
   refine qp (.val none (.ptr [.sl 1 (v1000.map (V.int .i64))])) (ev_iad_n rfl rfl e1000 rfl) (qp (AL 1 (v1000.map (V.int .i64))) rfl (qp (AI v8) rfl ?_))
   obtain ⟨v1001, e1001, hF⟩ := bind_get hF
   refine qc (AI v1001) [] false (con_laws_szInt64S e1001) c139_ok (by first | rfl | simp) rfl ?_
   refine qp (AI v1001) rfl ?_
   refine r_nil ?_
   refine ws 705 833 ?_
   refine qp (AI v1001) rfl (qp (AB (decide (v1001 < (0 : Int)))) rfl ?_)
   refine r_nil ?_
   refine cF hF (fun hF => ?_) fun hF => ?_
   ·
    refine ws 833 897 ?_
    refine qp (AI (-1)) rfl ?_
    refine r_nil ?_
    refine w_ret ?_
    refine blockQ_r ?_
    refine thenQ_r ?_
    refine thenQ_r ?_
    refine blockQ_r ?_
    refine thenQ_r ?_
    cases hF
    exact eR
   ·
    refine w_skip ?_
    refine blockQ_n ?_
    refine thenQ_n ?_
    refine w_reg 833 1025 rfl rfl ?_
    refine qp (AI v9) rfl (qp (AI (w64 (v9 + 1))) rfl (qp (AI (w64 (v9 + 1))) rfl ?_))
    refine r_nil ?_
    refine thenQ_n ?_
    refine ar (l' := [(0, AL 1 (v0.map (eL 1 (V.int .i64)))), (1, AI v1001), (5, AI (w64 (v9 + 1)))]) (L := []) [0, 1, 5] [] 1 ⟨_, by rfl, hF⟩
  ·
   refine w_exit ?_
   refine thenQ_e ?_
   refine thenQ_e ?_
   refine blockQ_e ?_
   refine thenQ_n ?_
   refine ws 257 385 ?_
   refine qp (AI v8) rfl (qp (AI v8) rfl ?_)
   refine r_nil ?_
   refine w_ret ?_
   cases hF
   exact eR

def c40 : MC := (.seq (.reg [rg 2 (.f (.box (.t 0))), rg 4 (.p true (.mv (.c (.int .i64 0))))]) (.seq (.reg [rg 5 (.p true (.mv (.t 1))), rg 6 (.p true (.fad (.t 2) 0)), rg 7 (.p true (.ld (.t 6) 1 false)), rg 8 (.p true (.lens (.t 7))), rg 9 (.p true (.bin .sub (.t 5) (.t 8))), rg 1 (.p true (.mv (.t 9)))]) (.seq (.seq (.reg [rg 10 (.p true (.mv (.t 1))), rg 11 (.p true (.bin .lss (.t 10) (.c (.int .i64 0))))]) (.cond (.t 11) (.seq (.reg [rg 4 (.p true (.mv (.c (.int .i64 (-1)))))]) .ret) .skip)) (.seq (.reg [rg 12 (.p true (.fad (.t 2) 1)), rg 13 (.p true (.ld (.t 12) 1 false)), rg 14 (.p true (.mv (.t 1))), rg 15 (.call true 139 [(.t 13), (.t 14)]), rg 1 (.p true (.mv (.t 15)))]) (.seq (.seq (.reg [rg 16 (.p true (.mv (.t 1))), rg 17 (.p true (.bin .lss (.t 16) (.c (.int .i64 0))))]) (.cond (.t 17) (.seq (.reg [rg 4 (.p true (.mv (.c (.int .i64 (-1)))))]) .ret) .skip)) (.seq (.reg [rg 18 (.p true (.fad (.t 2) 2)), rg 19 (.p true (.ld (.t 18) 1 false)), rg 20 (.p true (.mv (.t 1))), rg 21 (.call true 139 [(.t 19), (.t 20)]), rg 1 (.p true (.mv (.t 21)))]) (.seq (.seq (.reg [rg 22 (.p true (.mv (.t 1))), rg 23 (.p true (.bin .lss (.t 22) (.c (.int .i64 0))))]) (.cond (.t 23) (.seq (.reg [rg 4 (.p true (.mv (.c (.int .i64 (-1)))))]) .ret) .skip)) (.seq (.reg [rg 24 (.p true (.fad (.t 2) 5)), rg 25 (.p true (.ld (.t 24) 1 false)), rg 26 (.p true (.mv (.t 1))), rg 27 (.call true 58 [(.t 25), (.t 26)]), rg 1 (.p true (.mv (.t 27)))]) (.seq (.seq (.reg [rg 28 (.p true (.mv (.t 1))), rg 29 (.p true (.bin .lss (.t 28) (.c (.int .i64 0))))]) (.cond (.t 29) (.seq (.reg [rg 4 (.p true (.mv (.c (.int .i64 (-1)))))]) .ret) .skip)) (.seq (.reg [rg 30 (.p true (.mv (.t 1))), rg 4 (.p true (.mv (.t 30)))]) .ret))))))))))
theorem c40_is : compFn Try.prog 40 = some (c40, [(.tmp 4)]) := by kernel_rfl
theorem c40_ok : okFn Try.prog 40 = true := by kernel_rfl

noncomputable def F_laws_szRaga (v0 : TRaga) (v1 : Int) : Option (Int) :=
 (bif (decide (w64 (v1 - (v0.1.length : Int)) < (0 : Int))) then some (-1)
 else ((F_laws_szInt64S v0.2.1 (w64 (v1 - (v0.1.length : Int)))).bind fun v1000 => (bif (decide (v1000 < (0 : Int))) then some (-1)
 else ((F_laws_szInt64S v0.2.2.1 v1000).bind fun v1001 => (bif (decide (v1001 < (0 : Int))) then some (-1)
 else ((F_laws_szInt64SS v0.2.2.2.2.2 v1001).bind fun v1002 => (bif (decide (v1002 < (0 : Int))) then some (-1)
 else some v1002)))))))
@[simp] def res_laws_szRaga (r : Int) : RV := .one (.one (.val (.int .i64 r)))
theorem con_laws_szRaga {v0 : TRaga} {v1 : Int} {r : Int} (hF : F_laws_szRaga v0 v1 = some r) : Con Try.prog 40 [eRaga v0, .int .i64 v1] (res_laws_szRaga r) := by
 unfold F_laws_szRaga at hF
 refine con_of c40_is fun N => ?_
 refine ws 0 128 ?_
 refine qf (.ptr 0 0 0) [(0, .box [AS v0.1, AL 1 (v0.2.1.map (V.int .i64)), AL 1 (v0.2.2.1.map (V.int .i64)), AI v0.2.2.2.1, AI v0.2.2.2.2.1, AL 1 (v0.2.2.2.2.2.map (eL 1 (V.int .i64)))])] (by simp) ?_
 refine qp (AI 0) rfl ?_
 refine r_nil ?_
 refine ws 128 512 ?_
 refine qp (AI v1) rfl (qp (.ptr 0 0 0) rfl (qp (AS v0.1) rfl (qp (AI (v0.1.length : Int)) rfl (qp (AI (w64 (v1 - (v0.1.length : Int)))) rfl (qp (AI (w64 (v1 - (v0.1.length : Int)))) rfl ?_)))))
 refine r_nil ?_
 refine w_seq ?_
 refine ws 512 640 ?_
 refine qp (AI (w64 (v1 - (v0.1.length : Int)))) rfl (qp (AB (decide (w64 (v1 - (v0.1.length : Int)) < (0 : Int)))) rfl ?_)
 refine r_nil ?_
 refine cF hF (fun hF => ?_) fun hF => ?_
 ·
  refine ws 640 704 ?_
  refine qp (AI (-1)) rfl ?_
  refine r_nil ?_
  refine w_ret ?_
  refine thenQ_r ?_
  cases hF
  exact eR
 ·
  refine w_skip ?_
  refine thenQ_n ?_
  refine ws 640 960 ?_
  refine qp (.ptr 0 0 1) rfl (qp (AL 1 (v0.2.1.map (V.int .i64))) rfl (qp (AI (w64 (v1 - (v0.1.length : Int)))) rfl ?_))
  obtain ⟨v1000, e1000, hF⟩ := bind_get hF
  refine qc (AI v1000) [(0, .box [AS v0.1, AL 1 (v0.2.1.map (V.int .i64)), AL 1 (v0.2.2.1.map (V.int .i64)), AI v0.2.2.2.1, AI v0.2.2.2.2.1, AL 1 (v0.2.2.2.2.2.map (eL 1 (V.int .i64)))])] false (con_laws_szInt64S e1000) c139_ok (by first | rfl | simp) rfl ?_
  refine qp (AI v1000) rfl ?_
  refine r_nil ?_
  refine w_seq ?_
  refine ws 960 1088 ?_
  refine qp (AI v1000) rfl (qp (AB (decide (v1000 < (0 : Int)))) rfl ?_)
  refine r_nil ?_
  refine cF hF (fun hF => ?_) fun hF => ?_
  ·
   refine ws 1088 1152 ?_
   refine qp (AI (-1)) rfl ?_
   refine r_nil ?_
   refine w_ret ?_
   refine thenQ_r ?_
   cases hF
   exact eR
  ·
   refine w_skip ?_
   refine thenQ_n ?_
   refine ws 1088 1408 ?_
   refine qp (.ptr 0 0 2) rfl (qp (AL 1 (v0.2.2.1.map (V.int .i64))) rfl (qp (AI v1000) rfl ?_))
   obtain ⟨v1001, e1001, hF⟩ := bind_get hF
   refine qc (AI v1001) [(0, .box [AS v0.1, AL 1 (v0.2.1.map (V.int .i64)), AL 1 (v0.2.2.1.map (V.int .i64)), AI v0.2.2.2.1, AI v0.2.2.2.2.1, AL 1 (v0.2.2.2.2.2.map (eL 1 (V.int .i64)))])] false (con_laws_szInt64S e1001) c139_ok (by first | rfl | simp) rfl ?_
   refine qp (AI v1001) rfl ?_
   refine r_nil ?_
   refine w_seq ?_
   refine ws 1408 1536 ?_
   refine qp (AI v1001) rfl (qp (AB (decide (v1001 < (0 : Int)))) rfl ?_)
   refine r_nil ?_
   refine cF hF (fun hF => ?_) fun hF => ?_
   ·
    refine ws 1536 1600 ?_
    refine qp (AI (-1)) rfl ?_
    refine r_nil ?_
    refine w_ret ?_
    refine thenQ_r ?_
    cases hF
    exact eR
   ·
    refine w_skip ?_
    refine thenQ_n ?_
    refine ws 1536 1856 ?_
    refine qp (.ptr 0 0 5) rfl (qp (AL 1 (v0.2.2.2.2.2.map (eL 1 (V.int .i64)))) rfl (qp (AI v1001) rfl ?_))
    obtain ⟨v1002, e1002, hF⟩ := bind_get hF
    refine qc (AI v1002) [(0, .box [AS v0.1, AL 1 (v0.2.1.map (V.int .i64)), AL 1 (v0.2.2.1.map (V.int .i64)), AI v0.2.2.2.1, AI v0.2.2.2.2.1, AL 1 (v0.2.2.2.2.2.map (eL 1 (V.int .i64)))])] false (con_laws_szInt64SS e1002) c58_ok (by first | rfl | simp) rfl ?_
    refine qp (AI v1002) rfl ?_
    refine r_nil ?_
    refine w_seq ?_
    refine ws 1856 1984 ?_
    refine qp (AI v1002) rfl (qp (AB (decide (v1002 < (0 : Int)))) rfl ?_)
    refine r_nil ?_
    refine cF hF (fun hF => ?_) fun hF => ?_
    ·
     refine ws 1984 2048 ?_
     refine qp (AI (-1)) rfl ?_
     refine r_nil ?_
     refine w_ret ?_
     refine thenQ_r ?_
     cases hF
     exact eR
    ·
     refine w_skip ?_
     refine thenQ_n ?_
     refine ws 1984 2112 ?_
     refine qp (AI v1002) rfl (qp (AI v1002) rfl ?_)
     refine r_nil ?_
     refine w_ret ?_
     cases hF
     exact eR

def c41 : MC := (.seq (.reg [rg 4 (.p true (.mv (.c (.int .i64 0))))]) (.seq (.reg [rg 5 (.p true (.mv (.t 1))), rg 6 (.p true (.mv (.t 0))), rg 7 (.p true (.len (.t 6))), rg 8 (.p true (.bin .sub (.t 5) (.t 7))), rg 1 (.p true (.mv (.t 8)))]) (.seq (.seq (.reg [rg 9 (.p true (.mv (.t 1))), rg 10 (.p true (.bin .lss (.t 9) (.c (.int .i64 0))))]) (.cond (.t 10) (.seq (.reg [rg 4 (.p true (.mv (.c (.int .i64 (-1)))))]) .ret) .skip)) (.seq (.reg [rg 11 (.p true (.mv (.t 1))), rg 4 (.p true (.mv (.t 11)))]) .ret))))
theorem c41_is : compFn Try.prog 41 = some (c41, [(.tmp 4)]) := by kernel_rfl
theorem c41_ok : okFn Try.prog 41 = true := by kernel_rfl

noncomputable def F_laws_szNoteS (v0 : List TNote) (v1 : Int) : Option (Int) :=
 (bif (decide (w64 (v1 - (v0.length : Int)) < (0 : Int))) then some (-1)
 else some (w64 (v1 - (v0.length : Int))))
@[simp] def res_laws_szNoteS (r : Int) : RV := .one (.one (.val (.int .i64 r)))
theorem con_laws_szNoteS {v0 : List TNote} {v1 : Int} {r : Int} (hF : F_laws_szNoteS v0 v1 = some r) : Con Try.prog 41 [.sl 2 (v0.map eNote), .int .i64 v1] (res_laws_szNoteS r) := by
 unfold F_laws_szNoteS at hF
 refine con_of c41_is fun N => ?_
 refine ws 0 64 ?_
 refine qp (AI 0) rfl ?_
 refine r_nil ?_
 refine ws 64 384 ?_
 refine qp (AI v1) rfl (qp (AL 2 (v0.map eNote)) rfl (qp (AI (v0.length : Int)) (ev_len_n rfl) (qp (AI (w64 (v1 - (v0.length : Int)))) rfl (qp (AI (w64 (v1 - (v0.length : Int)))) rfl ?_))))
 refine r_nil ?_
 refine w_seq ?_
 refine ws 384 512 ?_
 refine qp (AI (w64 (v1 - (v0.length : Int)))) rfl (qp (AB (decide (w64 (v1 - (v0.length : Int)) < (0 : Int)))) rfl ?_)
 refine r_nil ?_
 refine cF hF (fun hF => ?_) fun hF => ?_
 ·
  refine ws 512 576 ?_
  refine qp (AI (-1)) rfl ?_
  refine r_nil ?_
  refine w_ret ?_
  refine thenQ_r ?_
  cases hF
  exact eR
 ·
  refine w_skip ?_
  refine thenQ_n ?_
  refine ws 512 640 ?_
  refine qp (AI (w64 (v1 - (v0.length : Int)))) rfl (qp (AI (w64 (v1 - (v0.length : Int)))) rfl ?_)
  refine r_nil ?_
  refine w_ret ?_
  cases hF
  exact eR

def c166 : MC := (.seq (.reg [rg 4 (.p true (.mv (.c (.int .i64 0))))]) (.seq (.reg [rg 5 (.p true (.mv (.t 1))), rg 6 (.p true (.mv (.t 0))), rg 7 (.p true (.len (.t 6))), rg 8 (.p true (.bin .sub (.t 5) (.t 7))), rg 1 (.p true (.mv (.t 8)))]) (.seq (.seq (.reg [rg 9 (.p true (.mv (.t 1))), rg 10 (.p true (.bin .lss (.t 9) (.c (.int .i64 0))))]) (.cond (.t 10) (.seq (.reg [rg 4 (.p true (.mv (.c (.int .i64 (-1)))))]) .ret) .skip)) (.seq (.reg [rg 11 (.p true (.mv (.t 1))), rg 4 (.p true (.mv (.t 11)))]) .ret))))
theorem c166_is : compFn Try.prog 166 = some (c166, [(.tmp 4)]) := by kernel_rfl
theorem c166_ok : okFn Try.prog 166 = true := by kernel_rfl

noncomputable def F_laws_szRatioS (v0 : List TNote) (v1 : Int) : Option (Int) :=
 (bif (decide (w64 (v1 - (v0.length : Int)) < (0 : Int))) then some (-1)
 else some (w64 (v1 - (v0.length : Int))))
@[simp] def res_laws_szRatioS (r : Int) : RV := .one (.one (.val (.int .i64 r)))
theorem con_laws_szRatioS {v0 : List TNote} {v1 : Int} {r : Int} (hF : F_laws_szRatioS v0 v1 = some r) : Con Try.prog 166 [.sl 2 (v0.map eNote), .int .i64 v1] (res_laws_szRatioS r) := by
 unfold F_laws_szRatioS at hF
 refine con_of c166_is fun N => ?_
 refine ws 0 64 ?_
 refine qp (AI 0) rfl ?_
 refine r_nil ?_
 refine ws 64 384 ?_
 refine qp (AI v1) rfl (qp (AL 2 (v0.map eNote)) rfl (qp (AI (v0.length : Int)) (ev_len_n rfl) (qp (AI (w64 (v1 - (v0.length : Int)))) rfl (qp (AI (w64 (v1 - (v0.length : Int)))) rfl ?_))))
 refine r_nil ?_
 refine w_seq ?_
 refine ws 384 512 ?_
 refine qp (AI (w64 (v1 - (v0.length : Int)))) rfl (qp (AB (decide (w64 (v1 - (v0.length : Int)) < (0 : Int)))) rfl ?_)
 refine r_nil ?_
 refine cF hF (fun hF => ?_) fun hF => ?_
 ·
  refine ws 512 576 ?_
  refine qp (AI (-1)) rfl ?_
  refine r_nil ?_
  refine w_ret ?_
  refine thenQ_r ?_
  cases hF
  exact eR
 ·
  refine w_skip ?_
  refine thenQ_n ?_
  refine ws 512 640 ?_
  refine qp (AI (w64 (v1 - (v0.length : Int)))) rfl (qp (AI (w64 (v1 - (v0.length : Int)))) rfl ?_)
  refine r_nil ?_
  refine w_ret ?_
  cases hF
  exact eR

def c57 : MC := (.seq (.reg [rg 2 (.f (.box (.t 0))), rg 4 (.p true (.mv (.c (.int .i64 0))))]) (.seq (.reg [rg 5 (.p true (.mv (.t 1))), rg 6 (.p true (.fad (.t 2) 0)), rg 7 (.p true (.ld (.t 6) 1 false)), rg 8 (.p true (.lens (.t 7))), rg 9 (.p true (.bin .sub (.t 5) (.t 8))), rg 1 (.p true (.mv (.t 9)))]) (.seq (.seq (.reg [rg 10 (.p true (.mv (.t 1))), rg 11 (.p true (.bin .lss (.t 10) (.c (.int .i64 0))))]) (.cond (.t 11) (.seq (.reg [rg 4 (.p true (.mv (.c (.int .i64 (-1)))))]) .ret) .skip)) (.seq (.reg [rg 12 (.p true (.fad (.t 2) 1)), rg 13 (.p true (.ld (.t 12) 1 false)), rg 14 (.p true (.mv (.t 1))), rg 15 (.call true 166 [(.t 13), (.t 14)]), rg 1 (.p true (.mv (.t 15)))]) (.seq (.seq (.reg [rg 16 (.p true (.mv (.t 1))), rg 17 (.p true (.bin .lss (.t 16) (.c (.int .i64 0))))]) (.cond (.t 17) (.seq (.reg [rg 4 (.p true (.mv (.c (.int .i64 (-1)))))]) .ret) .skip)) (.seq (.reg [rg 18 (.p true (.mv (.t 1))), rg 4 (.p true (.mv (.t 18)))]) .ret))))))
theorem c57_is : compFn Try.prog 57 = some (c57, [(.tmp 4)]) := by kernel_rfl
theorem c57_ok : okFn Try.prog 57 = true := by kernel_rfl

noncomputable def F_laws_szTuning (v0 : TTuning) (v1 : Int) : Option (Int) :=
 (bif (decide (w64 (v1 - (v0.1.length : Int)) < (0 : Int))) then some (-1)
 else ((F_laws_szRatioS v0.2 (w64 (v1 - (v0.1.length : Int)))).bind fun v1000 => (bif (decide (v1000 < (0 : Int))) then some (-1)
 else some v1000)))
@[simp] def res_laws_szTuning (r : Int) : RV := .one (.one (.val (.int .i64 r)))
theorem con_laws_szTuning {v0 : TTuning} {v1 : Int} {r : Int} (hF : F_laws_szTuning v0 v1 = some r) : Con Try.prog 57 [eTuning v0, .int .i64 v1] (res_laws_szTuning r) := by
 unfold F_laws_szTuning at hF
 refine con_of c57_is fun N => ?_
 refine ws 0 128 ?_
 refine qf (.ptr 0 0 0) [(0, .box [AS v0.1, AL 2 (v0.2.map eNote)])] (by simp) ?_
 refine qp (AI 0) rfl ?_
 refine r_nil ?_
 refine ws 128 512 ?_
 refine qp (AI v1) rfl (qp (.ptr 0 0 0) rfl (qp (AS v0.1) rfl (qp (AI (v0.1.length : Int)) rfl (qp (AI (w64 (v1 - (v0.1.length : Int)))) rfl (qp (AI (w64 (v1 - (v0.1.length : Int)))) rfl ?_)))))
 refine r_nil ?_
 refine w_seq ?_
 refine ws 512 640 ?_
 refine qp (AI (w64 (v1 - (v0.1.length : Int)))) rfl (qp (AB (decide (w64 (v1 - (v0.1.length : Int)) < (0 : Int)))) rfl ?_)
 refine r_nil ?_
 refine cF hF (fun hF => ?_) fun hF => ?_
 ·
  refine ws 640 704 ?_
  refine qp (AI (-1)) rfl ?_
  refine r_nil ?_
  refine w_ret ?_
  refine thenQ_r ?_
  cases hF
  exact eR
 ·
  refine w_skip ?_
  refine thenQ_n ?_
  refine ws 640 960 ?_
  refine qp (.ptr 0 0 1) rfl (qp (AL 2 (v0.2.map eNote)) rfl (qp (AI (w64 (v1 - (v0.1.length : Int)))) rfl ?_))
  obtain ⟨v1000, e1000, hF⟩ := bind_get hF
  refine qc (AI v1000) [(0, .box [AS v0.1, AL 2 (v0.2.map eNote)])] false (con_laws_szRatioS e1000) c166_ok (by first | rfl | simp) rfl ?_
  refine qp (AI v1000) rfl ?_
  refine r_nil ?_
  refine w_seq ?_
  refine ws 960 1088 ?_
  refine qp (AI v1000) rfl (qp (AB (decide (v1000 < (0 : Int)))) rfl ?_)
  refine r_nil ?_
  refine cF hF (fun hF => ?_) fun hF => ?_
  ·
   refine ws 1088 1152 ?_
   refine qp (AI (-1)) rfl ?_
   refine r_nil ?_
   refine w_ret ?_
   refine thenQ_r ?_
   cases hF
   exact eR
  ·
   refine w_skip ?_
   refine thenQ_n ?_
   refine ws 1088 1216 ?_
   refine qp (AI v1000) rfl (qp (AI v1000) rfl ?_)
   refine r_nil ?_
   refine w_ret ?_
   cases hF
   exact eR

def c167 : MC := (.seq (.reg [rg 2 (.f (.box (.t 0))), rg 4 (.p true (.mv (.c (.int .i64 0))))]) (.seq (.reg [rg 5 (.p true (.mv (.t 1))), rg 6 (.p true (.fad (.t 2) 0)), rg 7 (.p true (.ld (.t 6) 1 false)), rg 8 (.p true (.lens (.t 7))), rg 9 (.p true (.bin .sub (.t 5) (.t 8))), rg 1 (.p true (.mv (.t 9)))]) (.seq (.seq (.reg [rg 10 (.p true (.mv (.t 1))), rg 11 (.p true (.bin .lss (.t 10) (.c (.int .i64 0))))]) (.cond (.t 11) (.seq (.reg [rg 4 (.p true (.mv (.c (.int .i64 (-1)))))]) .ret) .skip)) (.seq (.reg [rg 12 (.p true (.mv (.t 1))), rg 4 (.p true (.mv (.t 12)))]) .ret))))
theorem c167_is : compFn Try.prog 167 = some (c167, [(.tmp 4)]) := by kernel_rfl
theorem c167_ok : okFn Try.prog 167 = true := by kernel_rfl

noncomputable def F_laws_szSyllable (v0 : TSyllable) (v1 : Int) : Option (Int) :=
 (bif (decide (w64 (v1 - (v0.1.length : Int)) < (0 : Int))) then some (-1)
 else some (w64 (v1 - (v0.1.length : Int))))
@[simp] def res_laws_szSyllable (r : Int) : RV := .one (.one (.val (.int .i64 r)))
theorem con_laws_szSyllable {v0 : TSyllable} {v1 : Int} {r : Int} (hF : F_laws_szSyllable v0 v1 = some r) : Con Try.prog 167 [eSyllable v0, .int .i64 v1] (res_laws_szSyllable r) := by
 unfold F_laws_szSyllable at hF
 refine con_of c167_is fun N => ?_
 refine ws 0 128 ?_
 refine qf (.ptr 0 0 0) [(0, .box [AS v0.1, AI v0.2.1, AI v0.2.2])] (by simp) ?_
 refine qp (AI 0) rfl ?_
 refine r_nil ?_
 refine ws 128 512 ?_
 refine qp (AI v1) rfl (qp (.ptr 0 0 0) rfl (qp (AS v0.1) rfl (qp (AI (v0.1.length : Int)) rfl (qp (AI (w64 (v1 - (v0.1.length : Int)))) rfl (qp (AI (w64 (v1 - (v0.1.length : Int)))) rfl ?_)))))
 refine r_nil ?_
 refine w_seq ?_
 refine ws 512 640 ?_
 refine qp (AI (w64 (v1 - (v0.1.length : Int)))) rfl (qp (AB (decide (w64 (v1 - (v0.1.length : Int)) < (0 : Int)))) rfl ?_)
 refine r_nil ?_
 refine cF hF (fun hF => ?_) fun hF => ?_
 ·
  refine ws 640 704 ?_
  refine qp (AI (-1)) rfl ?_
  refine r_nil ?_
  refine w_ret ?_
  refine thenQ_r ?_
  cases hF
  exact eR
 ·
  refine w_skip ?_
  refine thenQ_n ?_
  refine ws 640 768 ?_
  refine qp (AI (w64 (v1 - (v0.1.length : Int)))) rfl (qp (AI (w64 (v1 - (v0.1.length : Int)))) rfl ?_)
  refine r_nil ?_
  refine w_ret ?_
  cases hF
  exact eR

def c59 : MC := (.seq (.reg [rg 4 (.p true (.mv (.c (.int .i64 0))))]) (.seq (.reg [rg 6 (.p true (.mv (.t 1))), rg 7 (.p true (.mv (.t 0))), rg 8 (.p true (.len (.t 7))), rg 9 (.p true (.bin .sub (.t 6) (.t 8))), rg 1 (.p true (.mv (.t 9)))]) (.seq (.seq (.reg [rg 10 (.p true (.mv (.t 1))), rg 11 (.p true (.bin .lss (.t 10) (.c (.int .i64 0))))]) (.cond (.t 11) (.seq (.reg [rg 4 (.p true (.mv (.c (.int .i64 (-1)))))]) .ret) .skip)) (.seq (.seq (.reg [rg 5 (.p true (.mv (.c (.int .i64 0))))]) (.block 0 (.loop (.seq (.seq (.reg [rg 12 (.p true (.mv (.t 5))), rg 13 (.p true (.mv (.t 0))), rg 14 (.p true (.len (.t 13))), rg 15 (.p true (.bin .lss (.t 12) (.t 14)))]) (.cond (.t 15) .skip (.exit 0))) (.seq (.block 1 (.seq (.reg [rg 18 (.p true (.mv (.t 0))), rg 19 (.p true (.mv (.t 5))), rg 20 (.p true (.iad (.t 18) (.t 19) 3)), rg 21 (.p true (.ld (.t 20) 3 true)), rg 22 (.p true (.mv (.t 1))), rg 23 (.call true 167 [(.t 21), (.t 22)]), rg 1 (.p true (.mv (.t 23)))]) (.seq (.reg [rg 24 (.p true (.mv (.t 1))), rg 25 (.p true (.bin .lss (.t 24) (.c (.int .i64 0))))]) (.cond (.t 25) (.seq (.reg [rg 4 (.p true (.mv (.c (.int .i64 (-1)))))]) .ret) .skip)))) (.reg [rg 16 (.p true (.mv (.t 5))), rg 17 (.p true (.bin .add (.t 16) (.c (.int .i64 1)))), rg 5 (.p true (.mv (.t 17)))])))))) (.seq (.reg [rg 26 (.p true (.mv (.t 1))), rg 4 (.p true (.mv (.t 26)))]) .ret)))))
theorem c59_is : compFn Try.prog 59 = some (c59, [(.tmp 4)]) := by kernel_rfl
theorem c59_ok : okFn Try.prog 59 = true := by kernel_rfl

noncomputable def F_laws_szSyllableS_l0 (v0 : List TSyllable) (k0 : Int × Int → Option (Int)) : Int × Int → Option (Int)
 | (v8, v9) => (bif (decide (v9 < (v0.length : Int))) then ((ix v0 v9).bind fun v1000 => ((F_laws_szSyllable v1000 v8).bind fun v1001 => (bif (decide (v1001 < (0 : Int))) then some (-1)
 else k0 (v1001, w64 (v9 + 1)))))
 else some v8)
noncomputable def F_laws_szSyllableS (v0 : List TSyllable) (v1 : Int) : Option (Int) :=
 (bif (decide (w64 (v1 - (v0.length : Int)) < (0 : Int))) then some (-1)
 else loop (F_laws_szSyllableS_l0 v0) (w64 (v1 - (v0.length : Int)), 0))
@[simp] def res_laws_szSyllableS (r : Int) : RV := .one (.one (.val (.int .i64 r)))
theorem con_laws_szSyllableS {v0 : List TSyllable} {v1 : Int} {r : Int} (hF : F_laws_szSyllableS v0 v1 = some r) : Con Try.prog 59 [.sl 3 (v0.map eSyllable), .int .i64 v1] (res_laws_szSyllableS r) := by
 unfold F_laws_szSyllableS at hF
 refine con_of c59_is fun N => ?_
 refine ws 0 64 ?_
 refine qp (AI 0) rfl ?_
 refine r_nil ?_
 refine ws 64 384 ?_
 refine qp (AI v1) rfl (qp (AL 3 (v0.map eSyllable)) rfl (qp (AI (v0.length : Int)) (ev_len_n rfl) (qp (AI (w64 (v1 - (v0.length : Int)))) rfl (qp (AI (w64 (v1 - (v0.length : Int)))) rfl ?_))))
 refine r_nil ?_
 refine w_seq ?_
 refine ws 384 512 ?_
 refine qp (AI (w64 (v1 - (v0.length : Int)))) rfl (qp (AB (decide (w64 (v1 - (v0.length : Int)) < (0 : Int)))) rfl ?_)
 refine r_nil ?_
 refine cF hF (fun hF => ?_) fun hF => ?_
 ·
  refine ws 512 576 ?_
  refine qp (AI (-1)) rfl ?_
  refine r_nil ?_
  refine w_ret ?_
  refine thenQ_r ?_
  cases hF
  exact eR
 ·
  refine w_skip ?_
  refine thenQ_n ?_
  refine w_seq ?_
  refine ws 512 576 ?_
  refine qp (AI 0) rfl ?_
  refine r_nil ?_
  refine w_block ?_
  refine wr (l' := [(0, AL 3 (v0.map eSyllable)), (1, AI (w64 (v1 - (v0.length : Int)))), (5, AI 0)]) (L := []) [0, 1, 5] [] 1 ?_
  refine w_loopF (F_laws_szSyllableS_l0 v0) (fun s : Int × Int => mkS [(0, AL 3 (v0.map eSyllable)), (1, AI s.1), (5, AI s.2)] (fo []) 1) hF ?_
  rintro k0 ⟨v8, v9⟩ hF
  rw [F_laws_szSyllableS_l0] at hF
  try dsimp only
  refine w_seq ?_
  refine ws 1 257 ?_
  refine qp (AI v9) rfl (qp (AL 3 (v0.map eSyllable)) rfl (qp (AI (v0.length : Int)) (ev_len_n rfl) (qp (AB (decide (v9 < (v0.length : Int)))) rfl ?_)))
  refine r_nil ?_
  refine cF hF (fun hF => ?_) fun hF => ?_
  ·
   refine w_skip ?_
   refine thenQ_n ?_
   refine w_seq ?_
   refine w_block ?_
   refine ws 257 705 ?_
   refine qp (AL 3 (v0.map eSyllable)) rfl (qp (AI v9) rfl ?_)
   obtain ⟨v1000, e1000, hF⟩ := bind_get hF
   refine qp (.val none (.ptr [.str v1000.1, .int .i64 v1000.2.1, .int .i64 v1000.2.2])) (ev_iad_n rfl rfl e1000 rfl) (qp (.val none (eSyllable v1000)) rfl (qp (AI v8) rfl ?_))
   obtain ⟨v1001, e1001, hF⟩ := bind_get hF
   refine qc (AI v1001) [] false (con_laws_szSyllable e1001) c167_ok (by first | rfl | simp) rfl ?_
   refine qp (AI v1001) rfl ?_
   refine r_nil ?_
   refine ws 705 833 ?_
   refine qp (AI v1001) rfl (qp (AB (decide (v1001 < (0 : Int)))) rfl ?_)
   refine r_nil ?_
   refine cF hF (fun hF => ?_) fun hF => ?_
   ·
    refine ws 833 897 ?_
    refine qp (AI (-1)) rfl ?_
    refine r_nil ?_
    refine w_ret ?_
    refine blockQ_r ?_
    refine thenQ_r ?_
    refine thenQ_r ?_
    refine blockQ_r ?_
    refine thenQ_r ?_
    cases hF
    exact eR
   ·
    refine w_skip ?_
    refine blockQ_n ?_
    refine thenQ_n ?_
    refine w_reg 833 1025 rfl rfl ?_
    refine qp (AI v9) rfl (qp (AI (w64 (v9 + 1))) rfl (qp (AI (w64 (v9 + 1))) rfl ?_))
    refine r_nil ?_
    refine thenQ_n ?_
    refine ar (l' := [(0, AL 3 (v0.map eSyllable)), (1, AI v1001), (5, AI (w64 (v9 + 1)))]) (L := []) [0, 1, 5] [] 1 ⟨_, by rfl, hF⟩
  ·
   refine w_exit ?_
   refine thenQ_e ?_
   refine thenQ_e ?_
   refine blockQ_e ?_
   refine thenQ_n ?_
   refine ws 257 385 ?_
   refine qp (AI v8) rfl (qp (AI v8) rfl ?_)
   refine r_nil ?_
   refine w_ret ?_
   cases hF
   exact eR

def c60 : MC := (.seq (.reg [rg 4 (.p true (.mv (.c (.int .i64 0))))]) (.seq (.reg [rg 5 (.p true (.mv (.t 1))), rg 6 (.p true (.mv (.t 0))), rg 7 (.p true (.len (.t 6))), rg 8 (.p true (.bin .sub (.t 5) (.t 7))), rg 1 (.p true (.mv (.t 8)))]) (.seq (.seq (.reg [rg 9 (.p true (.mv (.t 1))), rg 10 (.p true (.bin .lss (.t 9) (.c (.int .i64 0))))]) (.cond (.t 10) (.seq (.reg [rg 4 (.p true (.mv (.c (.int .i64 (-1)))))]) .ret) .skip)) (.seq (.reg [rg 11 (.p true (.mv (.t 1))), rg 4 (.p true (.mv (.t 11)))]) .ret))))
theorem c60_is : compFn Try.prog 60 = some (c60, [(.tmp 4)]) := by kernel_rfl
theorem c60_ok : okFn Try.prog 60 = true := by kernel_rfl

noncomputable def F_laws_szTempoMarkS (v0 : List TNote) (v1 : Int) : Option (Int) :=
 (bif (decide (w64 (v1 - (v0.length : Int)) < (0 : Int))) then some (-1)
 else some (w64 (v1 - (v0.length : Int))))
@[simp] def res_laws_szTempoMarkS (r : Int) : RV := .one (.one (.val (.int .i64 r)))
theorem con_laws_szTempoMarkS {v0 : List TNote} {v1 : Int} {r : Int} (hF : F_laws_szTempoMarkS v0 v1 = some r) : Con Try.prog 60 [.sl 2 (v0.map eNote), .int .i64 v1] (res_laws_szTempoMarkS r) := by
 unfold F_laws_szTempoMarkS at hF
 refine con_of c60_is fun N => ?_
 refine ws 0 64 ?_
 refine qp (AI 0) rfl ?_
 refine r_nil ?_
 refine ws 64 384 ?_
 refine qp (AI v1) rfl (qp (AL 2 (v0.map eNote)) rfl (qp (AI (v0.length : Int)) (ev_len_n rfl) (qp (AI (w64 (v1 - (v0.length : Int)))) rfl (qp (AI (w64 (v1 - (v0.length : Int)))) rfl ?_))))
 refine r_nil ?_
 refine w_seq ?_
 refine ws 384 512 ?_
 refine qp (AI (w64 (v1 - (v0.length : Int)))) rfl (qp (AB (decide (w64 (v1 - (v0.length : Int)) < (0 : Int)))) rfl ?_)
 refine r_nil ?_
 refine cF hF (fun hF => ?_) fun hF => ?_
 ·
  refine ws 512 576 ?_
  refine qp (AI (-1)) rfl ?_
  refine r_nil ?_
  refine w_ret ?_
  refine thenQ_r ?_
  cases hF
  exact eR
 ·
  refine w_skip ?_
  refine thenQ_n ?_
  refine ws 512 640 ?_
  refine qp (AI (w64 (v1 - (v0.length : Int)))) rfl (qp (AI (w64 (v1 - (v0.length : Int)))) rfl ?_)
  refine r_nil ?_
  refine w_ret ?_
  cases hF
  exact eR

def c168 : MC := (.seq (.reg [rg 2 (.f (.box (.t 0))), rg 4 (.p true (.mv (.c (.int .i64 0))))]) (.seq (.reg [rg 5 (.p true (.mv (.t 1))), rg 6 (.p true (.fad (.t 2) 0)), rg 7 (.p true (.ld (.t 6) 1 false)), rg 8 (.p true (.lens (.t 7))), rg 9 (.p true (.bin .sub (.t 5) (.t 8))), rg 1 (.p true (.mv (.t 9)))]) (.seq (.seq (.reg [rg 10 (.p true (.mv (.t 1))), rg 11 (.p true (.bin .lss (.t 10) (.c (.int .i64 0))))]) (.cond (.t 11) (.seq (.reg [rg 4 (.p true (.mv (.c (.int .i64 (-1)))))]) .ret) .skip)) (.seq (.reg [rg 12 (.p true (.mv (.t 1))), rg 4 (.p true (.mv (.t 12)))]) .ret))))
theorem c168_is : compFn Try.prog 168 = some (c168, [(.tmp 4)]) := by kernel_rfl
theorem c168_ok : okFn Try.prog 168 = true := by kernel_rfl

noncomputable def F_laws_szItem (v0 : TItem) (v1 : Int) : Option (Int) :=
 (bif (decide (w64 (v1 - (v0.1.length : Int)) < (0 : Int))) then some (-1)
 else some (w64 (v1 - (v0.1.length : Int))))
@[simp] def res_laws_szItem (r : Int) : RV := .one (.one (.val (.int .i64 r)))
theorem con_laws_szItem {v0 : TItem} {v1 : Int} {r : Int} (hF : F_laws_szItem v0 v1 = some r) : Con Try.prog 168 [eItem v0, .int .i64 v1] (res_laws_szItem r) := by
 unfold F_laws_szItem at hF
 refine con_of c168_is fun N => ?_
 refine ws 0 128 ?_
 refine qf (.ptr 0 0 0) [(0, .box [AS v0.1, AI v0.2.1, AI v0.2.2.1, AI v0.2.2.2.1, AI v0.2.2.2.2.1, AI v0.2.2.2.2.2])] (by simp) ?_
 refine qp (AI 0) rfl ?_
 refine r_nil ?_
 refine ws 128 512 ?_
 refine qp (AI v1) rfl (qp (.ptr 0 0 0) rfl (qp (AS v0.1) rfl (qp (AI (v0.1.length : Int)) rfl (qp (AI (w64 (v1 - (v0.1.length : Int)))) rfl (qp (AI (w64 (v1 - (v0.1.length : Int)))) rfl ?_)))))
 refine r_nil ?_
 refine w_seq ?_
 refine ws 512 640 ?_
 refine qp (AI (w64 (v1 - (v0.1.length : Int)))) rfl (qp (AB (decide (w64 (v1 - (v0.1.length : Int)) < (0 : Int)))) rfl ?_)
 refine r_nil ?_
 refine cF hF (fun hF => ?_) fun hF => ?_
 ·
  refine ws 640 704 ?_
  refine qp (AI (-1)) rfl ?_
  refine r_nil ?_
  refine w_ret ?_
  refine thenQ_r ?_
  cases hF
  exact eR
 ·
  refine w_skip ?_
  refine thenQ_n ?_
  refine ws 640 768 ?_
  refine qp (AI (w64 (v1 - (v0.1.length : Int)))) rfl (qp (AI (w64 (v1 - (v0.1.length : Int)))) rfl ?_)
  refine r_nil ?_
  refine w_ret ?_
  cases hF
  exact eR

def c61 : MC := (.seq (.reg [rg 4 (.p true (.mv (.c (.int .i64 0))))]) (.seq (.reg [rg 6 (.p true (.mv (.t 1))), rg 7 (.p true (.mv (.t 0))), rg 8 (.p true (.len (.t 7))), rg 9 (.p true (.bin .sub (.t 6) (.t 8))), rg 1 (.p true (.mv (.t 9)))]) (.seq (.seq (.reg [rg 10 (.p true (.mv (.t 1))), rg 11 (.p true (.bin .lss (.t 10) (.c (.int .i64 0))))]) (.cond (.t 11) (.seq (.reg [rg 4 (.p true (.mv (.c (.int .i64 (-1)))))]) .ret) .skip)) (.seq (.seq (.reg [rg 5 (.p true (.mv (.c (.int .i64 0))))]) (.block 0 (.loop (.seq (.seq (.reg [rg 12 (.p true (.mv (.t 5))), rg 13 (.p true (.mv (.t 0))), rg 14 (.p true (.len (.t 13))), rg 15 (.p true (.bin .lss (.t 12) (.t 14)))]) (.cond (.t 15) .skip (.exit 0))) (.seq (.block 1 (.seq (.reg [rg 18 (.p true (.mv (.t 0))), rg 19 (.p true (.mv (.t 5))), rg 20 (.p true (.iad (.t 18) (.t 19) 6)), rg 21 (.p true (.ld (.t 20) 6 true)), rg 22 (.p true (.mv (.t 1))), rg 23 (.call true 168 [(.t 21), (.t 22)]), rg 1 (.p true (.mv (.t 23)))]) (.seq (.reg [rg 24 (.p true (.mv (.t 1))), rg 25 (.p true (.bin .lss (.t 24) (.c (.int .i64 0))))]) (.cond (.t 25) (.seq (.reg [rg 4 (.p true (.mv (.c (.int .i64 (-1)))))]) .ret) .skip)))) (.reg [rg 16 (.p true (.mv (.t 5))), rg 17 (.p true (.bin .add (.t 16) (.c (.int .i64 1)))), rg 5 (.p true (.mv (.t 17)))])))))) (.seq (.reg [rg 26 (.p true (.mv (.t 1))), rg 4 (.p true (.mv (.t 26)))]) .ret)))))
theorem c61_is : compFn Try.prog 61 = some (c61, [(.tmp 4)]) := by kernel_rfl
theorem c61_ok : okFn Try.prog 61 = true := by kernel_rfl

noncomputable def F_laws_szItemS_l0 (v0 : List TItem) (k0 : Int × Int → Option (Int)) : Int × Int → Option (Int)
 | (v8, v9) => (bif (decide (v9 < (v0.length : Int))) then ((ix v0 v9).bind fun v1000 => ((F_laws_szItem v1000 v8).bind fun v1001 => (bif (decide (v1001 < (0 : Int))) then some (-1)
 else k0 (v1001, w64 (v9 + 1)))))
 else some v8)
noncomputable def F_laws_szItemS (v0 : List TItem) (v1 : Int) : Option (Int) :=
 (bif (decide (w64 (v1 - (v0.length : Int)) < (0 : Int))) then some (-1)
 else loop (F_laws_szItemS_l0 v0) (w64 (v1 - (v0.length : Int)), 0))
@[simp] def res_laws_szItemS (r : Int) : RV := .one (.one (.val (.int .i64 r)))
theorem con_laws_szItemS {v0 : List TItem} {v1 : Int} {r : Int} (hF : F_laws_szItemS v0 v1 = some r) : Con Try.prog 61 [.sl 6 (v0.map eItem), .int .i64 v1] (res_laws_szItemS r) := by
 unfold F_laws_szItemS at hF
 refine con_of c61_is fun N => ?_
 refine ws 0 64 ?_
 refine qp (AI 0) rfl ?_
 refine r_nil ?_
 refine ws 64 384 ?_
 refine qp (AI v1) rfl (qp (AL 6 (v0.map eItem)) rfl (qp (AI (v0.length : Int)) (ev_len_n rfl) (qp (AI (w64 (v1 - (v0.length : Int)))) rfl (qp (AI (w64 (v1 - (v0.length : Int)))) rfl ?_))))
 refine r_nil ?_
 refine w_seq ?_
 refine ws 384 512 ?_
 refine qp (AI (w64 (v1 - (v0.length : Int)))) rfl (qp (AB (decide (w64 (v1 - (v0.length : Int)) < (0 : Int)))) rfl ?_)
 refine r_nil ?_
 refine cF hF (fun hF => ?_) fun hF => ?_
 ·
  refine ws 512 576 ?_
  refine qp (AI (-1)) rfl ?_
  refine r_nil ?_
  refine w_ret ?_
  refine thenQ_r ?_
  cases hF
  exact eR
 ·
  refine w_skip ?_
  refine thenQ_n ?_
  refine w_seq ?_
  refine ws 512 576 ?_
  refine qp (AI 0) rfl ?_
  refine r_nil ?_
  refine w_block ?_
  refine wr (l' := [(0, AL 6 (v0.map eItem)), (1, AI (w64 (v1 - (v0.length : Int)))), (5, AI 0)]) (L := []) [0, 1, 5] [] 1 ?_
  refine w_loopF (F_laws_szItemS_l0 v0) (fun s : Int × Int => mkS [(0, AL 6 (v0.map eItem)), (1, AI s.1), (5, AI s.2)] (fo []) 1) hF ?_
  rintro k0 ⟨v8, v9⟩ hF
  rw [F_laws_szItemS_l0] at hF
  try dsimp only
  refine w_seq ?_
  refine ws 1 257 ?_
  refine qp (AI v9) rfl (qp (AL 6 (v0.map eItem)) rfl (qp (AI (v0.length : Int)) (ev_len_n rfl) (qp (AB (decide (v9 < (v0.length : Int)))) rfl ?_)))
  refine r_nil ?_
  refine cF hF (fun hF => ?_) fun hF => ?_
  ·
   refine w_skip ?_
   refine thenQ_n ?_
   refine w_seq ?_
   refine w_block ?_
   refine ws 257 705 ?_
   refine qp (AL 6 (v0.map eItem)) rfl (qp (AI v9) rfl ?_)
   obtain ⟨v1000, e1000, hF⟩ := bind_get hF
   refine qp (.val none (.ptr [.str v1000.1, .int .i64 v1000.2.1, .int .i64 v1000.2.2.1, .int .i64 v1000.2.2.2.1, .int .i64 v1000.2.2.2.2.1, .int .i64 v1000.2.2.2.2.2])) (ev_iad_n rfl rfl e1000 rfl) (qp (.val none (eItem v1000)) rfl (qp (AI v8) rfl ?_))
   obtain ⟨v1001, e1001, hF⟩ := bind_get hF
   refine qc (AI v1001) [] false (con_laws_szItem e1001) c168_ok (by first | rfl | simp) rfl ?_
   refine qp (AI v1001) rfl ?_
   refine r_nil ?_
   refine ws 705 833 ?_
   refine qp (AI v1001) rfl (qp (AB (decide (v1001 < (0 : Int)))) rfl ?_)
   refine r_nil ?_
   refine cF hF (fun hF => ?_) fun hF => ?_
   ·
    refine ws 833 897 ?_
    refine qp (AI (-1)) rfl ?_
    refine r_nil ?_
    refine w_ret ?_
    refine blockQ_r ?_
    refine thenQ_r ?_
    refine thenQ_r ?_
    refine blockQ_r ?_
    refine thenQ_r ?_
    cases hF
    exact eR
   ·
    refine w_skip ?_
    refine blockQ_n ?_
    refine thenQ_n ?_
    refine w_reg 833 1025 rfl rfl ?_
    refine qp (AI v9) rfl (qp (AI (w64 (v9 + 1))) rfl (qp (AI (w64 (v9 + 1))) rfl ?_))
    refine r_nil ?_
    refine thenQ_n ?_
    refine ar (l' := [(0, AL 6 (v0.map eItem)), (1, AI v1001), (5, AI (w64 (v9 + 1)))]) (L := []) [0, 1, 5] [] 1 ⟨_, by rfl, hF⟩
  ·
   refine w_exit ?_
   refine thenQ_e ?_
   refine thenQ_e ?_
   refine blockQ_e ?_
   refine thenQ_n ?_
   refine ws 257 385 ?_
   refine qp (AI v8) rfl (qp (AI v8) rfl ?_)
   refine r_nil ?_
   refine w_ret ?_
   cases hF
   exact eR

def c90 : MC := (.seq (.reg [rg 2 (.f (.box (.t 0))), rg 4 (.p true (.mv (.c (.int .i64 0))))]) (.seq (.reg [rg 5 (.p true (.mv (.t 1))), rg 6 (.p true (.fad (.t 2) 1)), rg 7 (.p true (.ld (.t 6) 1 false)), rg 8 (.p true (.lens (.t 7))), rg 9 (.p true (.bin .sub (.t 5) (.t 8))), rg 1 (.p true (.mv (.t 9)))]) (.seq (.seq (.reg [rg 10 (.p true (.mv (.t 1))), rg 11 (.p true (.bin .lss (.t 10) (.c (.int .i64 0))))]) (.cond (.t 11) (.seq (.reg [rg 4 (.p true (.mv (.c (.int .i64 (-1)))))]) .ret) .skip)) (.seq (.reg [rg 12 (.p true (.mv (.t 1))), rg 13 (.p true (.fad (.t 2) 2)), rg 14 (.p true (.ld (.t 13) 1 false)), rg 15 (.p true (.lens (.t 14))), rg 16 (.p true (.bin .sub (.t 12) (.t 15))), rg 1 (.p true (.mv (.t 16)))]) (.seq (.seq (.reg [rg 17 (.p true (.mv (.t 1))), rg 18 (.p true (.bin .lss (.t 17) (.c (.int .i64 0))))]) (.cond (.t 18) (.seq (.reg [rg 4 (.p true (.mv (.c (.int .i64 (-1)))))]) .ret) .skip)) (.seq (.reg [rg 19 (.p true (.mv (.t 1))), rg 4 (.p true (.mv (.t 19)))]) .ret))))))
theorem c90_is : compFn Try.prog 90 = some (c90, [(.tmp 4)]) := by kernel_rfl
theorem c90_ok : okFn Try.prog 90 = true := by kernel_rfl

noncomputable def F_laws_szLesson (v0 : TLesson) (v1 : Int) : Option (Int) :=
 (bif (decide (w64 (v1 - (v0.2.1.length : Int)) < (0 : Int))) then some (-1)
 else (bif (decide (w64 ((w64 (v1 - (v0.2.1.length : Int))) - (v0.2.2.1.length : Int)) < (0 : Int))) then some (-1)
 else some (w64 ((w64 (v1 - (v0.2.1.length : Int))) - (v0.2.2.1.length : Int)))))
@[simp] def res_laws_szLesson (r : Int) : RV := .one (.one (.val (.int .i64 r)))
theorem con_laws_szLesson {v0 : TLesson} {v1 : Int} {r : Int} (hF : F_laws_szLesson v0 v1 = some r) : Con Try.prog 90 [eLesson v0, .int .i64 v1] (res_laws_szLesson r) := by
 unfold F_laws_szLesson at hF
 refine con_of c90_is fun N => ?_
 refine ws 0 128 ?_
 refine qf (.ptr 0 0 0) [(0, .box [AI v0.1, AS v0.2.1, AS v0.2.2.1, AI v0.2.2.2.1, AI v0.2.2.2.2])] (by simp) ?_
 refine qp (AI 0) rfl ?_
 refine r_nil ?_
 refine ws 128 512 ?_
 refine qp (AI v1) rfl (qp (.ptr 0 0 1) rfl (qp (AS v0.2.1) rfl (qp (AI (v0.2.1.length : Int)) rfl (qp (AI (w64 (v1 - (v0.2.1.length : Int)))) rfl (qp (AI (w64 (v1 - (v0.2.1.length : Int)))) rfl ?_)))))
 refine r_nil ?_
 refine w_seq ?_
 refine ws 512 640 ?_
 refine qp (AI (w64 (v1 - (v0.2.1.length : Int)))) rfl (qp (AB (decide (w64 (v1 - (v0.2.1.length : Int)) < (0 : Int)))) rfl ?_)
 refine r_nil ?_
 refine cF hF (fun hF => ?_) fun hF => ?_
 ·
  refine ws 640 704 ?_
  refine qp (AI (-1)) rfl ?_
  refine r_nil ?_
  refine w_ret ?_
  refine thenQ_r ?_
  cases hF
  exact eR
 ·
  refine w_skip ?_
  refine thenQ_n ?_
  refine ws 640 1024 ?_
  refine qp (AI (w64 (v1 - (v0.2.1.length : Int)))) rfl (qp (.ptr 0 0 2) rfl (qp (AS v0.2.2.1) rfl (qp (AI (v0.2.2.1.length : Int)) rfl (qp (AI (w64 ((w64 (v1 - (v0.2.1.length : Int))) - (v0.2.2.1.length : Int)))) rfl (qp (AI (w64 ((w64 (v1 - (v0.2.1.length : Int))) - (v0.2.2.1.length : Int)))) rfl ?_)))))
  refine r_nil ?_
  refine w_seq ?_
  refine ws 1024 1152 ?_
  refine qp (AI (w64 ((w64 (v1 - (v0.2.1.length : Int))) - (v0.2.2.1.length : Int)))) rfl (qp (AB (decide (w64 ((w64 (v1 - (v0.2.1.length : Int))) - (v0.2.2.1.length : Int)) < (0 : Int)))) rfl ?_)
  refine r_nil ?_
  refine cF hF (fun hF => ?_) fun hF => ?_
  ·
   refine ws 1152 1216 ?_
   refine qp (AI (-1)) rfl ?_
   refine r_nil ?_
   refine w_ret ?_
   refine thenQ_r ?_
   cases hF
   exact eR
  ·
   refine w_skip ?_
   refine thenQ_n ?_
   refine ws 1152 1280 ?_
   refine qp (AI (w64 ((w64 (v1 - (v0.2.1.length : Int))) - (v0.2.2.1.length : Int)))) rfl (qp (AI (w64 ((w64 (v1 - (v0.2.1.length : Int))) - (v0.2.2.1.length : Int)))) rfl ?_)
   refine r_nil ?_
   refine w_ret ?_
   cases hF
   exact eR

def c18 : MC := (.seq (.reg [rg 4 (.p true (.mv (.c (.int .i64 0))))]) (.seq (.reg [rg 6 (.p true (.mv (.t 1))), rg 7 (.p true (.mv (.t 0))), rg 8 (.p true (.len (.t 7))), rg 9 (.p true (.bin .sub (.t 6) (.t 8))), rg 1 (.p true (.mv (.t 9)))]) (.seq (.seq (.reg [rg 10 (.p true (.mv (.t 1))), rg 11 (.p true (.bin .lss (.t 10) (.c (.int .i64 0))))]) (.cond (.t 11) (.seq (.reg [rg 4 (.p true (.mv (.c (.int .i64 (-1)))))]) .ret) .skip)) (.seq (.seq (.reg [rg 5 (.p true (.mv (.c (.int .i64 0))))]) (.block 0 (.loop (.seq (.seq (.reg [rg 12 (.p true (.mv (.t 5))), rg 13 (.p true (.mv (.t 0))), rg 14 (.p true (.len (.t 13))), rg 15 (.p true (.bin .lss (.t 12) (.t 14)))]) (.cond (.t 15) .skip (.exit 0))) (.seq (.block 1 (.seq (.reg [rg 18 (.p true (.mv (.t 0))), rg 19 (.p true (.mv (.t 5))), rg 20 (.p true (.iad (.t 18) (.t 19) 5)), rg 21 (.p true (.ld (.t 20) 5 true)), rg 22 (.p true (.mv (.t 1))), rg 23 (.call true 90 [(.t 21), (.t 22)]), rg 1 (.p true (.mv (.t 23)))]) (.seq (.reg [rg 24 (.p true (.mv (.t 1))), rg 25 (.p true (.bin .lss (.t 24) (.c (.int .i64 0))))]) (.cond (.t 25) (.seq (.reg [rg 4 (.p true (.mv (.c (.int .i64 (-1)))))]) .ret) .skip)))) (.reg [rg 16 (.p true (.mv (.t 5))), rg 17 (.p true (.bin .add (.t 16) (.c (.int .i64 1)))), rg 5 (.p true (.mv (.t 17)))])))))) (.seq (.reg [rg 26 (.p true (.mv (.t 1))), rg 4 (.p true (.mv (.t 26)))]) .ret)))))
theorem c18_is : compFn Try.prog 18 = some (c18, [(.tmp 4)]) := by kernel_rfl
theorem c18_ok : okFn Try.prog 18 = true := by kernel_rfl

noncomputable def F_laws_szLessonS_l0 (v0 : List TLesson) (k0 : Int × Int → Option (Int)) : Int × Int → Option (Int)
 | (v8, v9) => (bif (decide (v9 < (v0.length : Int))) then ((ix v0 v9).bind fun v1000 => ((F_laws_szLesson v1000 v8).bind fun v1001 => (bif (decide (v1001 < (0 : Int))) then some (-1)
 else k0 (v1001, w64 (v9 + 1)))))
 else some v8)
noncomputable def F_laws_szLessonS (v0 : List TLesson) (v1 : Int) : Option (Int) :=
 (bif (decide (w64 (v1 - (v0.length : Int)) < (0 : Int))) then some (-1)
 else loop (F_laws_szLessonS_l0 v0) (w64 (v1 - (v0.length : Int)), 0))
@[simp] def res_laws_szLessonS (r : Int) : RV := .one (.one (.val (.int .i64 r)))
theorem con_laws_szLessonS {v0 : List TLesson} {v1 : Int} {r : Int} (hF : F_laws_szLessonS v0 v1 = some r) : Con Try.prog 18 [.sl 5 (v0.map eLesson), .int .i64 v1] (res_laws_szLessonS r) := by
 unfold F_laws_szLessonS at hF
 refine con_of c18_is fun N => ?_
 refine ws 0 64 ?_
 refine qp (AI 0) rfl ?_
 refine r_nil ?_
 refine ws 64 384 ?_
 refine qp (AI v1) rfl (qp (AL 5 (v0.map eLesson)) rfl (qp (AI (v0.length : Int)) (ev_len_n rfl) (qp (AI (w64 (v1 - (v0.length : Int)))) rfl (qp (AI (w64 (v1 - (v0.length : Int)))) rfl ?_))))
 refine r_nil ?_
 refine w_seq ?_
 refine ws 384 512 ?_
 refine qp (AI (w64 (v1 - (v0.length : Int)))) rfl (qp (AB (decide (w64 (v1 - (v0.length : Int)) < (0 : Int)))) rfl ?_)
 refine r_nil ?_
 refine cF hF (fun hF => ?_) fun hF => ?_
 ·
  refine ws 512 576 ?_
  refine qp (AI (-1)) rfl ?_
  refine r_nil ?_
  refine w_ret ?_
  refine thenQ_r ?_
  cases hF
  exact eR
 ·
  refine w_skip ?_
  refine thenQ_n ?_
  refine w_seq ?_
  refine ws 512 576 ?_
  refine qp (AI 0) rfl ?_
  refine r_nil ?_
  refine w_block ?_
  refine wr (l' := [(0, AL 5 (v0.map eLesson)), (1, AI (w64 (v1 - (v0.length : Int)))), (5, AI 0)]) (L := []) [0, 1, 5] [] 1 ?_
  refine w_loopF (F_laws_szLessonS_l0 v0) (fun s : Int × Int => mkS [(0, AL 5 (v0.map eLesson)), (1, AI s.1), (5, AI s.2)] (fo []) 1) hF ?_
  rintro k0 ⟨v8, v9⟩ hF
  rw [F_laws_szLessonS_l0] at hF
  try dsimp only
  refine w_seq ?_
  refine ws 1 257 ?_
  refine qp (AI v9) rfl (qp (AL 5 (v0.map eLesson)) rfl (qp (AI (v0.length : Int)) (ev_len_n rfl) (qp (AB (decide (v9 < (v0.length : Int)))) rfl ?_)))
  refine r_nil ?_
  refine cF hF (fun hF => ?_) fun hF => ?_
  ·
   refine w_skip ?_
   refine thenQ_n ?_
   refine w_seq ?_
   refine w_block ?_
   refine ws 257 705 ?_
   refine qp (AL 5 (v0.map eLesson)) rfl (qp (AI v9) rfl ?_)
   obtain ⟨v1000, e1000, hF⟩ := bind_get hF
   refine qp (.val none (.ptr [.int .i64 v1000.1, .str v1000.2.1, .str v1000.2.2.1, .int .i64 v1000.2.2.2.1, .int .i64 v1000.2.2.2.2])) (ev_iad_n rfl rfl e1000 rfl) (qp (.val none (eLesson v1000)) rfl (qp (AI v8) rfl ?_))
   obtain ⟨v1001, e1001, hF⟩ := bind_get hF
   refine qc (AI v1001) [] false (con_laws_szLesson e1001) c90_ok (by first | rfl | simp) rfl ?_
   refine qp (AI v1001) rfl ?_
   refine r_nil ?_
   refine ws 705 833 ?_
   refine qp (AI v1001) rfl (qp (AB (decide (v1001 < (0 : Int)))) rfl ?_)
   refine r_nil ?_
   refine cF hF (fun hF => ?_) fun hF => ?_
   ·
    refine ws 833 897 ?_
    refine qp (AI (-1)) rfl ?_
    refine r_nil ?_
    refine w_ret ?_
    refine blockQ_r ?_
    refine thenQ_r ?_
    refine thenQ_r ?_
    refine blockQ_r ?_
    refine thenQ_r ?_
    cases hF
    exact eR
   ·
    refine w_skip ?_
    refine blockQ_n ?_
    refine thenQ_n ?_
    refine w_reg 833 1025 rfl rfl ?_
    refine qp (AI v9) rfl (qp (AI (w64 (v9 + 1))) rfl (qp (AI (w64 (v9 + 1))) rfl ?_))
    refine r_nil ?_
    refine thenQ_n ?_
    refine ar (l' := [(0, AL 5 (v0.map eLesson)), (1, AI v1001), (5, AI (w64 (v9 + 1)))]) (L := []) [0, 1, 5] [] 1 ⟨_, by rfl, hF⟩
  ·
   refine w_exit ?_
   refine thenQ_e ?_
   refine thenQ_e ?_
   refine blockQ_e ?_
   refine thenQ_n ?_
   refine ws 257 385 ?_
   refine qp (AI v8) rfl (qp (AI v8) rfl ?_)
   refine r_nil ?_
   refine w_ret ?_
   cases hF
   exact eR

def c91 : MC := (.seq (.reg [rg 4 (.p true (.mv (.c (.int .i64 0))))]) (.seq (.reg [rg 6 (.p true (.mv (.t 1))), rg 7 (.p true (.mv (.t 0))), rg 8 (.p true (.len (.t 7))), rg 9 (.p true (.bin .sub (.t 6) (.t 8))), rg 1 (.p true (.mv (.t 9)))]) (.seq (.seq (.reg [rg 10 (.p true (.mv (.t 1))), rg 11 (.p true (.bin .lss (.t 10) (.c (.int .i64 0))))]) (.cond (.t 11) (.seq (.reg [rg 4 (.p true (.mv (.c (.int .i64 (-1)))))]) .ret) .skip)) (.seq (.seq (.reg [rg 5 (.p true (.mv (.c (.int .i64 0))))]) (.block 0 (.loop (.seq (.seq (.reg [rg 12 (.p true (.mv (.t 5))), rg 13 (.p true (.mv (.t 0))), rg 14 (.p true (.len (.t 13))), rg 15 (.p true (.bin .lss (.t 12) (.t 14)))]) (.cond (.t 15) .skip (.exit 0))) (.seq (.block 1 (.seq (.reg [rg 18 (.p true (.mv (.t 1))), rg 19 (.p true (.mv (.t 0))), rg 20 (.p true (.mv (.t 5))), rg 21 (.p true (.iad (.t 19) (.t 20) 1)), rg 22 (.p true (.ld (.t 21) 1 false)), rg 23 (.p true (.lens (.t 22))), rg 24 (.p true (.bin .sub (.t 18) (.t 23))), rg 1 (.p true (.mv (.t 24)))]) (.seq (.reg [rg 25 (.p true (.mv (.t 1))), rg 26 (.p true (.bin .lss (.t 25) (.c (.int .i64 0))))]) (.cond (.t 26) (.seq (.reg [rg 4 (.p true (.mv (.c (.int .i64 (-1)))))]) .ret) .skip)))) (.reg [rg 16 (.p true (.mv (.t 5))), rg 17 (.p true (.bin .add (.t 16) (.c (.int .i64 1)))), rg 5 (.p true (.mv (.t 17)))])))))) (.seq (.reg [rg 27 (.p true (.mv (.t 1))), rg 4 (.p true (.mv (.t 27)))]) .ret)))))
theorem c91_is : compFn Try.prog 91 = some (c91, [(.tmp 4)]) := by kernel_rfl
theorem c91_ok : okFn Try.prog 91 = true := by kernel_rfl

noncomputable def F_laws_szStringS_l0 (v0 : List (List UInt8)) (k0 : Int × Int → Option (Int)) : Int × Int → Option (Int)
 | (v6, v7) => (bif (decide (v7 < (v0.length : Int))) then ((ix v0 v7).bind fun v1000 => (bif (decide (w64 (v6 - (v1000.length : Int)) < (0 : Int))) then some (-1)
 else k0 (w64 (v6 - (v1000.length : Int)), w64 (v7 + 1))))
 else some v6)
noncomputable def F_laws_szStringS (v0 : List (List UInt8)) (v1 : Int) : Option (Int) :=
 (bif (decide (w64 (v1 - (v0.length : Int)) < (0 : Int))) then some (-1)
 else loop (F_laws_szStringS_l0 v0) (w64 (v1 - (v0.length : Int)), 0))
@[simp] def res_laws_szStringS (r : Int) : RV := .one (.one (.val (.int .i64 r)))
theorem con_laws_szStringS {v0 : List (List UInt8)} {v1 : Int} {r : Int} (hF : F_laws_szStringS v0 v1 = some r) : Con Try.prog 91 [.sl 1 (v0.map V.str), .int .i64 v1] (res_laws_szStringS r) := by
 unfold F_laws_szStringS at hF
 refine con_of c91_is fun N => ?_
 refine ws 0 64 ?_
 refine qp (AI 0) rfl ?_
 refine r_nil ?_
 refine ws 64 384 ?_
 refine qp (AI v1) rfl (qp (AL 1 (v0.map V.str)) rfl (qp (AI (v0.length : Int)) (ev_len_n rfl) (qp (AI (w64 (v1 - (v0.length : Int)))) rfl (qp (AI (w64 (v1 - (v0.length : Int)))) rfl ?_))))
 refine r_nil ?_
 refine w_seq ?_
 refine ws 384 512 ?_
 refine qp (AI (w64 (v1 - (v0.length : Int)))) rfl (qp (AB (decide (w64 (v1 - (v0.length : Int)) < (0 : Int)))) rfl ?_)
 refine r_nil ?_
 refine cF hF (fun hF => ?_) fun hF => ?_
 ·
  refine ws 512 576 ?_
  refine qp (AI (-1)) rfl ?_
  refine r_nil ?_
  refine w_ret ?_
  refine thenQ_r ?_
  cases hF
  exact eR
 ·
  refine w_skip ?_
  refine thenQ_n ?_
  refine w_seq ?_
  refine ws 512 576 ?_
  refine qp (AI 0) rfl ?_
  refine r_nil ?_
  refine w_block ?_
  refine wr (l' := [(0, AL 1 (v0.map V.str)), (1, AI (w64 (v1 - (v0.length : Int)))), (5, AI 0)]) (L := []) [0, 1, 5] [] 1 ?_
  refine w_loopF (F_laws_szStringS_l0 v0) (fun s : Int × Int => mkS [(0, AL 1 (v0.map V.str)), (1, AI s.1), (5, AI s.2)] (fo []) 1) hF ?_
  rintro k0 ⟨v6, v7⟩ hF
  rw [F_laws_szStringS_l0] at hF
  try dsimp only
  refine w_seq ?_
  refine ws 1 257 ?_
  refine qp (AI v7) rfl (qp (AL 1 (v0.map V.str)) rfl (qp (AI (v0.length : Int)) (ev_len_n rfl) (qp (AB (decide (v7 < (v0.length : Int)))) rfl ?_)))
  refine r_nil ?_
  refine cF hF (fun hF => ?_) fun hF => ?_
  ·
   refine w_skip ?_
   refine thenQ_n ?_
   refine w_seq ?_
   refine w_block ?_
   refine ws 257 769 ?_
   refine qp (AI v6) rfl (qp (AL 1 (v0.map V.str)) rfl (qp (AI v7) rfl ?_))
   obtain ⟨v1000, e1000, hF⟩ := bind_get hF
   refine qp (.val none (.ptr [.str v1000])) (ev_iad_n rfl rfl e1000 rfl) (qp (AS v1000) rfl (qp (AI (v1000.length : Int)) rfl (qp (AI (w64 (v6 - (v1000.length : Int)))) rfl (qp (AI (w64 (v6 - (v1000.length : Int)))) rfl ?_))))
   refine r_nil ?_
   refine ws 769 897 ?_
   refine qp (AI (w64 (v6 - (v1000.length : Int)))) rfl (qp (AB (decide (w64 (v6 - (v1000.length : Int)) < (0 : Int)))) rfl ?_)
   refine r_nil ?_
   refine cF hF (fun hF => ?_) fun hF => ?_
   ·
    refine ws 897 961 ?_
    refine qp (AI (-1)) rfl ?_
    refine r_nil ?_
    refine w_ret ?_
    refine blockQ_r ?_
    refine thenQ_r ?_
    refine thenQ_r ?_
    refine blockQ_r ?_
    refine thenQ_r ?_
    cases hF
    exact eR
   ·
    refine w_skip ?_
    refine blockQ_n ?_
    refine thenQ_n ?_
    refine w_reg 897 1089 rfl rfl ?_
    refine qp (AI v7) rfl (qp (AI (w64 (v7 + 1))) rfl (qp (AI (w64 (v7 + 1))) rfl ?_))
    refine r_nil ?_
    refine thenQ_n ?_
    refine ar (l' := [(0, AL 1 (v0.map V.str)), (1, AI (w64 (v6 - (v1000.length : Int)))), (5, AI (w64 (v7 + 1)))]) (L := []) [0, 1, 5] [] 1 ⟨_, by rfl, hF⟩
  ·
   refine w_exit ?_
   refine thenQ_e ?_
   refine thenQ_e ?_
   refine blockQ_e ?_
   refine thenQ_n ?_
   refine ws 257 385 ?_
   refine qp (AI v6) rfl (qp (AI v6) rfl ?_)
   refine r_nil ?_
   refine w_ret ?_
   cases hF
   exact eR

def c169 : MC := (.seq (.reg [rg 2 (.f (.box (.t 0))), rg 4 (.p true (.mv (.c (.int .i64 0))))]) (.seq (.reg [rg 5 (.p true (.mv (.t 1))), rg 6 (.p true (.fad (.t 2) 0)), rg 7 (.p true (.ld (.t 6) 1 false)), rg 8 (.p true (.lens (.t 7))), rg 9 (.p true (.bin .sub (.t 5) (.t 8))), rg 1 (.p true (.mv (.t 9)))]) (.seq (.seq (.reg [rg 10 (.p true (.mv (.t 1))), rg 11 (.p true (.bin .lss (.t 10) (.c (.int .i64 0))))]) (.cond (.t 11) (.seq (.reg [rg 4 (.p true (.mv (.c (.int .i64 (-1)))))]) .ret) .skip)) (.seq (.reg [rg 12 (.p true (.fad (.t 2) 2)), rg 13 (.p true (.ld (.t 12) 1 false)), rg 14 (.p true (.mv (.t 1))), rg 15 (.call true 91 [(.t 13), (.t 14)]), rg 1 (.p true (.mv (.t 15)))]) (.seq (.seq (.reg [rg 16 (.p true (.mv (.t 1))), rg 17 (.p true (.bin .lss (.t 16) (.c (.int .i64 0))))]) (.cond (.t 17) (.seq (.reg [rg 4 (.p true (.mv (.c (.int .i64 (-1)))))]) .ret) .skip)) (.seq (.reg [rg 18 (.p true (.mv (.t 1))), rg 4 (.p true (.mv (.t 18)))]) .ret))))))
theorem c169_is : compFn Try.prog 169 = some (c169, [(.tmp 4)]) := by kernel_rfl
theorem c169_ok : okFn Try.prog 169 = true := by kernel_rfl

noncomputable def F_laws_szPerson (v0 : TPerson) (v1 : Int) : Option (Int) :=
 (bif (decide (w64 (v1 - (v0.1.length : Int)) < (0 : Int))) then some (-1)
 else ((F_laws_szStringS v0.2.2 (w64 (v1 - (v0.1.length : Int)))).bind fun v1000 => (bif (decide (v1000 < (0 : Int))) then some (-1)
 else some v1000)))
@[simp] def res_laws_szPerson (r : Int) : RV := .one (.one (.val (.int .i64 r)))
theorem con_laws_szPerson {v0 : TPerson} {v1 : Int} {r : Int} (hF : F_laws_szPerson v0 v1 = some r) : Con Try.prog 169 [ePerson v0, .int .i64 v1] (res_laws_szPerson r) := by
 unfold F_laws_szPerson at hF
 refine con_of c169_is fun N => ?_
 refine ws 0 128 ?_
 refine qf (.ptr 0 0 0) [(0, .box [AS v0.1, AI v0.2.1, AL 1 (v0.2.2.map V.str)])] (by simp) ?_
 refine qp (AI 0) rfl ?_
 refine r_nil ?_
 refine ws 128 512 ?_
 refine qp (AI v1) rfl (qp (.ptr 0 0 0) rfl (qp (AS v0.1) rfl (qp (AI (v0.1.length : Int)) rfl (qp (AI (w64 (v1 - (v0.1.length : Int)))) rfl (qp (AI (w64 (v1 - (v0.1.length : Int)))) rfl ?_)))))
 refine r_nil ?_
 refine w_seq ?_
 refine ws 512 640 ?_
 refine qp (AI (w64 (v1 - (v0.1.length : Int)))) rfl (qp (AB (decide (w64 (v1 - (v0.1.length : Int)) < (0 : Int)))) rfl ?_)
 refine r_nil ?_
 refine cF hF (fun hF => ?_) fun hF => ?_
 ·
  refine ws 640 704 ?_
  refine qp (AI (-1)) rfl ?_
  refine r_nil ?_
  refine w_ret ?_
  refine thenQ_r ?_
  cases hF
  exact eR
 ·
  refine w_skip ?_
  refine thenQ_n ?_
  refine ws 640 960 ?_
  refine qp (.ptr 0 0 2) rfl (qp (AL 1 (v0.2.2.map V.str)) rfl (qp (AI (w64 (v1 - (v0.1.length : Int)))) rfl ?_))
  obtain ⟨v1000, e1000, hF⟩ := bind_get hF
  refine qc (AI v1000) [(0, .box [AS v0.1, AI v0.2.1, AL 1 (v0.2.2.map V.str)])] false (con_laws_szStringS e1000) c91_ok (by first | rfl | simp) rfl ?_
  refine qp (AI v1000) rfl ?_
  refine r_nil ?_
  refine w_seq ?_
  refine ws 960 1088 ?_
  refine qp (AI v1000) rfl (qp (AB (decide (v1000 < (0 : Int)))) rfl ?_)
  refine r_nil ?_
  refine cF hF (fun hF => ?_) fun hF => ?_
  ·
   refine ws 1088 1152 ?_
   refine qp (AI (-1)) rfl ?_
   refine r_nil ?_
   refine w_ret ?_
   refine thenQ_r ?_
   cases hF
   exact eR
  ·
   refine w_skip ?_
   refine thenQ_n ?_
   refine ws 1088 1216 ?_
   refine qp (AI v1000) rfl (qp (AI v1000) rfl ?_)
   refine r_nil ?_
   refine w_ret ?_
   cases hF
   exact eR

def c62 : MC := (.seq (.reg [rg 4 (.p true (.mv (.c (.int .i64 0))))]) (.seq (.reg [rg 6 (.p true (.mv (.t 1))), rg 7 (.p true (.mv (.t 0))), rg 8 (.p true (.len (.t 7))), rg 9 (.p true (.bin .sub (.t 6) (.t 8))), rg 1 (.p true (.mv (.t 9)))]) (.seq (.seq (.reg [rg 10 (.p true (.mv (.t 1))), rg 11 (.p true (.bin .lss (.t 10) (.c (.int .i64 0))))]) (.cond (.t 11) (.seq (.reg [rg 4 (.p true (.mv (.c (.int .i64 (-1)))))]) .ret) .skip)) (.seq (.seq (.reg [rg 5 (.p true (.mv (.c (.int .i64 0))))]) (.block 0 (.loop (.seq (.seq (.reg [rg 12 (.p true (.mv (.t 5))), rg 13 (.p true (.mv (.t 0))), rg 14 (.p true (.len (.t 13))), rg 15 (.p true (.bin .lss (.t 12) (.t 14)))]) (.cond (.t 15) .skip (.exit 0))) (.seq (.block 1 (.seq (.reg [rg 18 (.p true (.mv (.t 0))), rg 19 (.p true (.mv (.t 5))), rg 20 (.p true (.iad (.t 18) (.t 19) 3)), rg 21 (.p true (.ld (.t 20) 3 true)), rg 22 (.p true (.mv (.t 1))), rg 23 (.call true 169 [(.t 21), (.t 22)]), rg 1 (.p true (.mv (.t 23)))]) (.seq (.reg [rg 24 (.p true (.mv (.t 1))), rg 25 (.p true (.bin .lss (.t 24) (.c (.int .i64 0))))]) (.cond (.t 25) (.seq (.reg [rg 4 (.p true (.mv (.c (.int .i64 (-1)))))]) .ret) .skip)))) (.reg [rg 16 (.p true (.mv (.t 5))), rg 17 (.p true (.bin .add (.t 16) (.c (.int .i64 1)))), rg 5 (.p true (.mv (.t 17)))])))))) (.seq (.reg [rg 26 (.p true (.mv (.t 1))), rg 4 (.p true (.mv (.t 26)))]) .ret)))))
theorem c62_is : compFn Try.prog 62 = some (c62, [(.tmp 4)]) := by kernel_rfl
theorem c62_ok : okFn Try.prog 62 = true := by kernel_rfl

noncomputable def F_laws_szPersonS_l0 (v0 : List TPerson) (k0 : Int × Int → Option (Int)) : Int × Int → Option (Int)
 | (v8, v9) => (bif (decide (v9 < (v0.length : Int))) then ((ix v0 v9).bind fun v1000 => ((F_laws_szPerson v1000 v8).bind fun v1001 => (bif (decide (v1001 < (0 : Int))) then some (-1)
 else k0 (v1001, w64 (v9 + 1)))))
 else some v8)
noncomputable def F_laws_szPersonS (v0 : List TPerson) (v1 : Int) : Option (Int) :=
 (bif (decide (w64 (v1 - (v0.length : Int)) < (0 : Int))) then some (-1)
 else loop (F_laws_szPersonS_l0 v0) (w64 (v1 - (v0.length : Int)), 0))
@[simp] def res_laws_szPersonS (r : Int) : RV := .one (.one (.val (.int .i64 r)))
theorem con_laws_szPersonS {v0 : List TPerson} {v1 : Int} {r : Int} (hF : F_laws_szPersonS v0 v1 = some r) : Con Try.prog 62 [.sl 3 (v0.map ePerson), .int .i64 v1] (res_laws_szPersonS r) := by
 unfold F_laws_szPersonS at hF
 refine con_of c62_is fun N => ?_
 refine ws 0 64 ?_
 refine qp (AI 0) rfl ?_
 refine r_nil ?_
 refine ws 64 384 ?_
 refine qp (AI v1) rfl (qp (AL 3 (v0.map ePerson)) rfl (qp (AI (v0.length : Int)) (ev_len_n rfl) (qp (AI (w64 (v1 - (v0.length : Int)))) rfl (qp (AI (w64 (v1 - (v0.length : Int)))) rfl ?_))))
 refine r_nil ?_
 refine w_seq ?_
 refine ws 384 512 ?_
 refine qp (AI (w64 (v1 - (v0.length : Int)))) rfl (qp (AB (decide (w64 (v1 - (v0.length : Int)) < (0 : Int)))) rfl ?_)
 refine r_nil ?_
 refine cF hF (fun hF => ?_) fun hF => ?_
 ·
  refine ws 512 576 ?_
  refine qp (AI (-1)) rfl ?_
  refine r_nil ?_
  refine w_ret ?_
  refine thenQ_r ?_
  cases hF
  exact eR
 ·
  refine w_skip ?_
  refine thenQ_n ?_
  refine w_seq ?_
  refine ws 512 576 ?_
  refine qp (AI 0) rfl ?_
  refine r_nil ?_
  refine w_block ?_
  refine wr (l' := [(0, AL 3 (v0.map ePerson)), (1, AI (w64 (v1 - (v0.length : Int)))), (5, AI 0)]) (L := []) [0, 1, 5] [] 1 ?_
  refine w_loopF (F_laws_szPersonS_l0 v0) (fun s : Int × Int => mkS [(0, AL 3 (v0.map ePerson)), (1, AI s.1), (5, AI s.2)] (fo []) 1) hF ?_
  rintro k0 ⟨v8, v9⟩ hF
  rw [F_laws_szPersonS_l0] at hF
  try dsimp only
  refine w_seq ?_
  refine ws 1 257 ?_
  refine qp (AI v9) rfl (qp (AL 3 (v0.map ePerson)) rfl (qp (AI (v0.length : Int)) (ev_len_n rfl) (qp (AB (decide (v9 < (v0.length : Int)))) rfl ?_)))
  refine r_nil ?_
  refine cF hF (fun hF => ?_) fun hF => ?_
  ·
   refine w_skip ?_
   refine thenQ_n ?_
   refine w_seq ?_
   refine w_block ?_
   refine ws 257 705 ?_
   refine qp (AL 3 (v0.map ePerson)) rfl (qp (AI v9) rfl ?_)
   obtain ⟨v1000, e1000, hF⟩ := bind_get hF
   refine qp (.val none (.ptr [.str v1000.1, .int .i64 v1000.2.1, .sl 1 (v1000.2.2.map V.str)])) (ev_iad_n rfl rfl e1000 rfl) (qp (.val none (ePerson v1000)) rfl (qp (AI v8) rfl ?_))
   obtain ⟨v1001, e1001, hF⟩ := bind_get hF
   refine qc (AI v1001) [] false (con_laws_szPerson e1001) c169_ok (by first | rfl | simp) rfl ?_
   refine qp (AI v1001) rfl ?_
   refine r_nil ?_
   refine ws 705 833 ?_
   refine qp (AI v1001) rfl (qp (AB (decide (v1001 < (0 : Int)))) rfl ?_)
   refine r_nil ?_
   refine cF hF (fun hF => ?_) fun hF => ?_
   ·
    refine ws 833 897 ?_
    refine qp (AI (-1)) rfl ?_
    refine r_nil ?_
    refine w_ret ?_
    refine blockQ_r ?_
    refine thenQ_r ?_
    refine thenQ_r ?_
    refine blockQ_r ?_
    refine thenQ_r ?_
    cases hF
    exact eR
   ·
    refine w_skip ?_
    refine blockQ_n ?_
    refine thenQ_n ?_
    refine w_reg 833 1025 rfl rfl ?_
    refine qp (AI v9) rfl (qp (AI (w64 (v9 + 1))) rfl (qp (AI (w64 (v9 + 1))) rfl ?_))
    refine r_nil ?_
    refine thenQ_n ?_
    refine ar (l' := [(0, AL 3 (v0.map ePerson)), (1, AI v1001), (5, AI (w64 (v9 + 1)))]) (L := []) [0, 1, 5] [] 1 ⟨_, by rfl, hF⟩
  ·
   refine w_exit ?_
   refine thenQ_e ?_
   refine thenQ_e ?_
   refine blockQ_e ?_
   refine thenQ_n ?_
   refine ws 257 385 ?_
   refine qp (AI v8) rfl (qp (AI v8) rfl ?_)
   refine r_nil ?_
   refine w_ret ?_
   cases hF
   exact eR

def c13 : MC := (.seq (.reg [rg 2 (.f (.box (.t 0))), rg 4 (.p true (.mv (.c (.int .i64 0))))]) (.seq (.reg [rg 5 (.p true (.fad (.t 2) 0)), rg 6 (.p true (.ld (.t 5) 6 true)), rg 7 (.p true (.mv (.t 1))), rg 8 (.call true 40 [(.t 6), (.t 7)]), rg 1 (.p true (.mv (.t 8)))]) (.seq (.seq (.reg [rg 9 (.p true (.mv (.t 1))), rg 10 (.p true (.bin .lss (.t 9) (.c (.int .i64 0))))]) (.cond (.t 10) (.seq (.reg [rg 4 (.p true (.mv (.c (.int .i64 (-1)))))]) .ret) .skip)) (.seq (.reg [rg 11 (.p true (.fad (.t 2) 6)), rg 12 (.p true (.ld (.t 11) 1 false)), rg 13 (.p true (.mv (.t 1))), rg 14 (.call true 41 [(.t 12), (.t 13)]), rg 1 (.p true (.mv (.t 14)))]) (.seq (.seq (.reg [rg 15 (.p true (.mv (.t 1))), rg 16 (.p true (.bin .lss (.t 15) (.c (.int .i64 0))))]) (.cond (.t 16) (.seq (.reg [rg 4 (.p true (.mv (.c (.int .i64 (-1)))))]) .ret) .skip)) (.seq (.reg [rg 17 (.p true (.fad (.t 2) 7)), rg 18 (.p true (.ld (.t 17) 2 true)), rg 19 (.p true (.mv (.t 1))), rg 20 (.call true 57 [(.t 18), (.t 19)]), rg 1 (.p true (.mv (.t 20)))]) (.seq (.seq (.reg [rg 21 (.p true (.mv (.t 1))), rg 22 (.p true (.bin .lss (.t 21) (.c (.int .i64 0))))]) (.cond (.t 22) (.seq (.reg [rg 4 (.p true (.mv (.c (.int .i64 (-1)))))]) .ret) .skip)) (.seq (.reg [rg 23 (.p true (.fad (.t 2) 9)), rg 24 (.p true (.ld (.t 23) 1 false)), rg 25 (.p true (.mv (.t 1))), rg 26 (.call true 58 [(.t 24), (.t 25)]), rg 1 (.p true (.mv (.t 26)))]) (.seq (.seq (.reg [rg 27 (.p true (.mv (.t 1))), rg 28 (.p true (.bin .lss (.t 27) (.c (.int .i64 0))))]) (.cond (.t 28) (.seq (.reg [rg 4 (.p true (.mv (.c (.int .i64 (-1)))))]) .ret) .skip)) (.seq (.reg [rg 29 (.p true (.fad (.t 2) 10)), rg 30 (.p true (.ld (.t 29) 1 false)), rg 31 (.p true (.mv (.t 1))), rg 32 (.call true 59 [(.t 30), (.t 31)]), rg 1 (.p true (.mv (.t 32)))]) (.seq (.seq (.reg [rg 33 (.p true (.mv (.t 1))), rg 34 (.p true (.bin .lss (.t 33) (.c (.int .i64 0))))]) (.cond (.t 34) (.seq (.reg [rg 4 (.p true (.mv (.c (.int .i64 (-1)))))]) .ret) .skip)) (.seq (.reg [rg 35 (.p true (.fad (.t 2) 11)), rg 36 (.p true (.ld (.t 35) 1 false)), rg 37 (.p true (.mv (.t 1))), rg 38 (.call true 60 [(.t 36), (.t 37)]), rg 1 (.p true (.mv (.t 38)))]) (.seq (.seq (.reg [rg 39 (.p true (.mv (.t 1))), rg 40 (.p true (.bin .lss (.t 39) (.c (.int .i64 0))))]) (.cond (.t 40) (.seq (.reg [rg 4 (.p true (.mv (.c (.int .i64 (-1)))))]) .ret) .skip)) (.seq (.reg [rg 41 (.p true (.fad (.t 2) 12)), rg 42 (.p true (.ld (.t 41) 1 false)), rg 43 (.p true (.mv (.t 1))), rg 44 (.call true 61 [(.t 42), (.t 43)]), rg 1 (.p true (.mv (.t 44)))]) (.seq (.seq (.reg [rg 45 (.p true (.mv (.t 1))), rg 46 (.p true (.bin .lss (.t 45) (.c (.int .i64 0))))]) (.cond (.t 46) (.seq (.reg [rg 4 (.p true (.mv (.c (.int .i64 (-1)))))]) .ret) .skip)) (.seq (.reg [rg 47 (.p true (.fad (.t 2) 13)), rg 48 (.p true (.ld (.t 47) 1 false)), rg 49 (.p true (.mv (.t 1))), rg 50 (.call true 18 [(.t 48), (.t 49)]), rg 1 (.p true (.mv (.t 50)))]) (.seq (.seq (.reg [rg 51 (.p true (.mv (.t 1))), rg 52 (.p true (.bin .lss (.t 51) (.c (.int .i64 0))))]) (.cond (.t 52) (.seq (.reg [rg 4 (.p true (.mv (.c (.int .i64 (-1)))))]) .ret) .skip)) (.seq (.reg [rg 53 (.p true (.fad (.t 2) 14)), rg 54 (.p true (.ld (.t 53) 1 false)), rg 55 (.p true (.mv (.t 1))), rg 56 (.call true 62 [(.t 54), (.t 55)]), rg 1 (.p true (.mv (.t 56)))]) (.seq (.seq (.reg [rg 57 (.p true (.mv (.t 1))), rg 58 (.p true (.bin .lss (.t 57) (.c (.int .i64 0))))]) (.cond (.t 58) (.seq (.reg [rg 4 (.p true (.mv (.c (.int .i64 (-1)))))]) .ret) .skip)) (.seq (.reg [rg 59 (.p true (.mv (.t 1))), rg 4 (.p true (.mv (.t 59)))]) .ret))))))))))))))))))))
theorem c13_is : compFn Try.prog 13 = some (c13, [(.tmp 4)]) := by kernel_rfl
theorem c13_ok : okFn Try.prog 13 = true := by kernel_rfl

noncomputable def F_laws_szDesk (v0 : TDesk) (v1 : Int) : Option (Int) :=
 ((F_laws_szRaga (v0.1, v0.2.1, v0.2.2.1, v0.2.2.2.1, v0.2.2.2.2.1, v0.2.2.2.2.2.1) v1).bind fun v1000 => (bif (decide (v1000 < (0 : Int))) then some (-1)
 else ((F_laws_szNoteS v0.2.2.2.2.2.2.1 v1000).bind fun v1001 => (bif (decide (v1001 < (0 : Int))) then some (-1)
 else ((F_laws_szTuning (v0.2.2.2.2.2.2.2.1, v0.2.2.2.2.2.2.2.2.1) v1001).bind fun v1002 => (bif (decide (v1002 < (0 : Int))) then some (-1)
 else ((F_laws_szInt64SS v0.2.2.2.2.2.2.2.2.2.1 v1002).bind fun v1003 => (bif (decide (v1003 < (0 : Int))) then some (-1)
 else ((F_laws_szSyllableS v0.2.2.2.2.2.2.2.2.2.2.1 v1003).bind fun v1004 => (bif (decide (v1004 < (0 : Int))) then some (-1)
 else ((F_laws_szTempoMarkS v0.2.2.2.2.2.2.2.2.2.2.2.1 v1004).bind fun v1005 => (bif (decide (v1005 < (0 : Int))) then some (-1)
 else ((F_laws_szItemS v0.2.2.2.2.2.2.2.2.2.2.2.2.1 v1005).bind fun v1006 => (bif (decide (v1006 < (0 : Int))) then some (-1)
 else ((F_laws_szLessonS v0.2.2.2.2.2.2.2.2.2.2.2.2.2.1 v1006).bind fun v1007 => (bif (decide (v1007 < (0 : Int))) then some (-1)
 else ((F_laws_szPersonS v0.2.2.2.2.2.2.2.2.2.2.2.2.2.2 v1007).bind fun v1008 => (bif (decide (v1008 < (0 : Int))) then some (-1)
 else some v1008))))))))))))))))))
@[simp] def res_laws_szDesk (r : Int) : RV := .one (.one (.val (.int .i64 r)))
theorem con_laws_szDesk {v0 : TDesk} {v1 : Int} {r : Int} (hF : F_laws_szDesk v0 v1 = some r) : Con Try.prog 13 [eDesk v0, .int .i64 v1] (res_laws_szDesk r) := by
 unfold F_laws_szDesk at hF
 refine con_of c13_is fun N => ?_
 refine ws 0 128 ?_
 refine qf (.ptr 0 0 0) [(0, .box [AS v0.1, AL 1 (v0.2.1.map (V.int .i64)), AL 1 (v0.2.2.1.map (V.int .i64)), AI v0.2.2.2.1, AI v0.2.2.2.2.1, AL 1 (v0.2.2.2.2.2.1.map (eL 1 (V.int .i64))), AL 2 (v0.2.2.2.2.2.2.1.map eNote), AS v0.2.2.2.2.2.2.2.1, AL 2 (v0.2.2.2.2.2.2.2.2.1.map eNote), AL 1 (v0.2.2.2.2.2.2.2.2.2.1.map (eL 1 (V.int .i64))), AL 3 (v0.2.2.2.2.2.2.2.2.2.2.1.map eSyllable), AL 2 (v0.2.2.2.2.2.2.2.2.2.2.2.1.map eNote), AL 6 (v0.2.2.2.2.2.2.2.2.2.2.2.2.1.map eItem), AL 5 (v0.2.2.2.2.2.2.2.2.2.2.2.2.2.1.map eLesson), AL 3 (v0.2.2.2.2.2.2.2.2.2.2.2.2.2.2.map ePerson)])] (by simp) ?_
 refine qp (AI 0) rfl ?_
 refine r_nil ?_
 refine ws 128 448 ?_
 refine qp (.ptr 0 0 0) rfl (qp (.agg [AS v0.1, AL 1 (v0.2.1.map (V.int .i64)), AL 1 (v0.2.2.1.map (V.int .i64)), AI v0.2.2.2.1, AI v0.2.2.2.2.1, AL 1 (v0.2.2.2.2.2.1.map (eL 1 (V.int .i64)))]) rfl (qp (AI v1) rfl ?_))
 obtain ⟨v1000, e1000, hF⟩ := bind_get hF
 refine qc (AI v1000) [(0, .box [AS v0.1, AL 1 (v0.2.1.map (V.int .i64)), AL 1 (v0.2.2.1.map (V.int .i64)), AI v0.2.2.2.1, AI v0.2.2.2.2.1, AL 1 (v0.2.2.2.2.2.1.map (eL 1 (V.int .i64))), AL 2 (v0.2.2.2.2.2.2.1.map eNote), AS v0.2.2.2.2.2.2.2.1, AL 2 (v0.2.2.2.2.2.2.2.2.1.map eNote), AL 1 (v0.2.2.2.2.2.2.2.2.2.1.map (eL 1 (V.int .i64))), AL 3 (v0.2.2.2.2.2.2.2.2.2.2.1.map eSyllable), AL 2 (v0.2.2.2.2.2.2.2.2.2.2.2.1.map eNote), AL 6 (v0.2.2.2.2.2.2.2.2.2.2.2.2.1.map eItem), AL 5 (v0.2.2.2.2.2.2.2.2.2.2.2.2.2.1.map eLesson), AL 3 (v0.2.2.2.2.2.2.2.2.2.2.2.2.2.2.map ePerson)])] false (con_laws_szRaga e1000) c40_ok (by first | rfl | simp) rfl ?_
 refine qp (AI v1000) rfl ?_
 refine r_nil ?_
 refine w_seq ?_
 refine ws 448 576 ?_
 refine qp (AI v1000) rfl (qp (AB (decide (v1000 < (0 : Int)))) rfl ?_)
 refine r_nil ?_
 refine cF hF (fun hF => ?_) fun hF => ?_
 ·
  refine ws 576 640 ?_
  refine qp (AI (-1)) rfl ?_
  refine r_nil ?_
  refine w_ret ?_
  refine thenQ_r ?_
  cases hF
  exact eR
 ·
  refine w_skip ?_
  refine thenQ_n ?_
  refine ws 576 896 ?_
  refine qp (.ptr 0 0 6) rfl (qp (AL 2 (v0.2.2.2.2.2.2.1.map eNote)) rfl (qp (AI v1000) rfl ?_))
  obtain ⟨v1001, e1001, hF⟩ := bind_get hF
  refine qc (AI v1001) [(0, .box [AS v0.1, AL 1 (v0.2.1.map (V.int .i64)), AL 1 (v0.2.2.1.map (V.int .i64)), AI v0.2.2.2.1, AI v0.2.2.2.2.1, AL 1 (v0.2.2.2.2.2.1.map (eL 1 (V.int .i64))), AL 2 (v0.2.2.2.2.2.2.1.map eNote), AS v0.2.2.2.2.2.2.2.1, AL 2 (v0.2.2.2.2.2.2.2.2.1.map eNote), AL 1 (v0.2.2.2.2.2.2.2.2.2.1.map (eL 1 (V.int .i64))), AL 3 (v0.2.2.2.2.2.2.2.2.2.2.1.map eSyllable), AL 2 (v0.2.2.2.2.2.2.2.2.2.2.2.1.map eNote), AL 6 (v0.2.2.2.2.2.2.2.2.2.2.2.2.1.map eItem), AL 5 (v0.2.2.2.2.2.2.2.2.2.2.2.2.2.1.map eLesson), AL 3 (v0.2.2.2.2.2.2.2.2.2.2.2.2.2.2.map ePerson)])] false (con_laws_szNoteS e1001) c41_ok (by first | rfl | simp) rfl ?_
  refine qp (AI v1001) rfl ?_
  refine r_nil ?_
  refine w_seq ?_
  refine ws 896 1024 ?_
  refine qp (AI v1001) rfl (qp (AB (decide (v1001 < (0 : Int)))) rfl ?_)
  refine r_nil ?_
  refine cF hF (fun hF => ?_) fun hF => ?_
  ·
   refine ws 1024 1088 ?_
   refine qp (AI (-1)) rfl ?_
   refine r_nil ?_
   refine w_ret ?_
   refine thenQ_r ?_
   cases hF
   exact eR
  ·
   refine w_skip ?_
   refine thenQ_n ?_
   refine ws 1024 1344 ?_
   refine qp (.ptr 0 0 7) rfl (qp (.agg [AS v0.2.2.2.2.2.2.2.1, AL 2 (v0.2.2.2.2.2.2.2.2.1.map eNote)]) rfl (qp (AI v1001) rfl ?_))
   obtain ⟨v1002, e1002, hF⟩ := bind_get hF
   refine qc (AI v1002) [(0, .box [AS v0.1, AL 1 (v0.2.1.map (V.int .i64)), AL 1 (v0.2.2.1.map (V.int .i64)), AI v0.2.2.2.1, AI v0.2.2.2.2.1, AL 1 (v0.2.2.2.2.2.1.map (eL 1 (V.int .i64))), AL 2 (v0.2.2.2.2.2.2.1.map eNote), AS v0.2.2.2.2.2.2.2.1, AL 2 (v0.2.2.2.2.2.2.2.2.1.map eNote), AL 1 (v0.2.2.2.2.2.2.2.2.2.1.map (eL 1 (V.int .i64))), AL 3 (v0.2.2.2.2.2.2.2.2.2.2.1.map eSyllable), AL 2 (v0.2.2.2.2.2.2.2.2.2.2.2.1.map eNote), AL 6 (v0.2.2.2.2.2.2.2.2.2.2.2.2.1.map eItem), AL 5 (v0.2.2.2.2.2.2.2.2.2.2.2.2.2.1.map eLesson), AL 3 (v0.2.2.2.2.2.2.2.2.2.2.2.2.2.2.map ePerson)])] false (con_laws_szTuning e1002) c57_ok (by first | rfl | simp) rfl ?_
   refine qp (AI v1002) rfl ?_
   refine r_nil ?_
   refine w_seq ?_
   refine ws 1344 1472 ?_
   refine qp (AI v1002) rfl (qp (AB (decide (v1002 < (0 : Int)))) rfl ?_)
   refine r_nil ?_
   refine cF hF (fun hF => ?_) fun hF => ?_
   ·
    refine ws 1472 1536 ?_
    refine qp (AI (-1)) rfl ?_
    refine r_nil ?_
    refine w_ret ?_
    refine thenQ_r ?_
    cases hF
    exact eR
   ·
    refine w_skip ?_
    refine thenQ_n ?_
    refine ws 1472 1792 ?_
    refine qp (.ptr 0 0 9) rfl (qp (AL 1 (v0.2.2.2.2.2.2.2.2.2.1.map (eL 1 (V.int .i64)))) rfl (qp (AI v1002) rfl ?_))
    obtain ⟨v1003, e1003, hF⟩ := bind_get hF
    refine qc (AI v1003) [(0, .box [AS v0.1, AL 1 (v0.2.1.map (V.int .i64)), AL 1 (v0.2.2.1.map (V.int .i64)), AI v0.2.2.2.1, AI v0.2.2.2.2.1, AL 1 (v0.2.2.2.2.2.1.map (eL 1 (V.int .i64))), AL 2 (v0.2.2.2.2.2.2.1.map eNote), AS v0.2.2.2.2.2.2.2.1, AL 2 (v0.2.2.2.2.2.2.2.2.1.map eNote), AL 1 (v0.2.2.2.2.2.2.2.2.2.1.map (eL 1 (V.int .i64))), AL 3 (v0.2.2.2.2.2.2.2.2.2.2.1.map eSyllable), AL 2 (v0.2.2.2.2.2.2.2.2.2.2.2.1.map eNote), AL 6 (v0.2.2.2.2.2.2.2.2.2.2.2.2.1.map eItem), AL 5 (v0.2.2.2.2.2.2.2.2.2.2.2.2.2.1.map eLesson), AL 3 (v0.2.2.2.2.2.2.2.2.2.2.2.2.2.2.map ePerson)])] false (con_laws_szInt64SS e1003) c58_ok (by first | rfl | simp) rfl ?_
    refine qp (AI v1003) rfl ?_
    refine r_nil ?_
    refine w_seq ?_
    refine ws 1792 1920 ?_
    refine qp (AI v1003) rfl (qp (AB (decide (v1003 < (0 : Int)))) rfl ?_)
    refine r_nil ?_
    refine cF hF (fun hF => ?_) fun hF => ?_
    ·
     refine ws 1920 1984 ?_
     refine qp (AI (-1)) rfl ?_
     refine r_nil ?_
     refine w_ret ?_
     refine thenQ_r ?_
     cases hF
     exact eR
    ·
     refine w_skip ?_
     refine thenQ_n ?_
     refine ws 1920 2240 ?_
     refine qp (.ptr 0 0 10) rfl (qp (AL 3 (v0.2.2.2.2.2.2.2.2.2.2.1.map eSyllable)) rfl (qp (AI v1003) rfl ?_))
     obtain ⟨v1004, e1004, hF⟩ := bind_get hF
     refine qc (AI v1004) [(0, .box [AS v0.1, AL 1 (v0.2.1.map (V.int .i64)), AL 1 (v0.2.2.1.map (V.int .i64)), AI v0.2.2.2.1, AI v0.2.2.2.2.1, AL 1 (v0.2.2.2.2.2.1.map (eL 1 (V.int .i64))), AL 2 (v0.2.2.2.2.2.2.1.map eNote), AS v0.2.2.2.2.2.2.2.1, AL 2 (v0.2.2.2.2.2.2.2.2.1.map eNote), AL 1 (v0.2.2.2.2.2.2.2.2.2.1.map (eL 1 (V.int .i64))), AL 3 (v0.2.2.2.2.2.2.2.2.2.2.1.map eSyllable), AL 2 (v0.2.2.2.2.2.2.2.2.2.2.2.1.map eNote), AL 6 (v0.2.2.2.2.2.2.2.2.2.2.2.2.1.map eItem), AL 5 (v0.2.2.2.2.2.2.2.2.2.2.2.2.2.1.map eLesson), AL 3 (v0.2.2.2.2.2.2.2.2.2.2.2.2.2.2.map ePerson)])] false (con_laws_szSyllableS e1004) c59_ok (by first | rfl | simp) rfl ?_
     refine qp (AI v1004) rfl ?_
     refine r_nil ?_
     refine w_seq ?_
     refine ws 2240 2368 ?_
     refine qp (AI v1004) rfl (qp (AB (decide (v1004 < (0 : Int)))) rfl ?_)
     refine r_nil ?_
     refine cF hF (fun hF => ?_) fun hF => ?_
     ·
      refine ws 2368 2432 ?_
      refine qp (AI (-1)) rfl ?_
      refine r_nil ?_
      refine w_ret ?_
      refine thenQ_r ?_
      cases hF
      exact eR
     ·
      refine w_skip ?_
      refine thenQ_n ?_
      refine ws 2368 2688 ?_
      refine qp (.ptr 0 0 11) rfl (qp (AL 2 (v0.2.2.2.2.2.2.2.2.2.2.2.1.map eNote)) rfl (qp (AI v1004) rfl ?_))
      obtain ⟨v1005, e1005, hF⟩ := bind_get hF
      refine qc (AI v1005) [(0, .box [AS v0.1, AL 1 (v0.2.1.map (V.int .i64)), AL 1 (v0.2.2.1.map (V.int .i64)), AI v0.2.2.2.1, AI v0.2.2.2.2.1, AL 1 (v0.2.2.2.2.2.1.map (eL 1 (V.int .i64))), AL 2 (v0.2.2.2.2.2.2.1.map eNote), AS v0.2.2.2.2.2.2.2.1, AL 2 (v0.2.2.2.2.2.2.2.2.1.map eNote), AL 1 (v0.2.2.2.2.2.2.2.2.2.1.map (eL 1 (V.int .i64))), AL 3 (v0.2.2.2.2.2.2.2.2.2.2.1.map eSyllable), AL 2 (v0.2.2.2.2.2.2.2.2.2.2.2.1.map eNote), AL 6 (v0.2.2.2.2.2.2.2.2.2.2.2.2.1.map eItem), AL 5 (v0.2.2.2.2.2.2.2.2.2.2.2.2.2.1.map eLesson), AL 3 (v0.2.2.2.2.2.2.2.2.2.2.2.2.2.2.map ePerson)])] false (con_laws_szTempoMarkS e1005) c60_ok (by first | rfl | simp) rfl ?_
      refine qp (AI v1005) rfl ?_
      refine r_nil ?_
      refine w_seq ?_
      refine ws 2688 2816 ?_
      refine qp (AI v1005) rfl (qp (AB (decide (v1005 < (0 : Int)))) rfl ?_)
      refine r_nil ?_
      refine cF hF (fun hF => ?_) fun hF => ?_
      ·
       refine ws 2816 2880 ?_
       refine qp (AI (-1)) rfl ?_
       refine r_nil ?_
       refine w_ret ?_
       refine thenQ_r ?_
       cases hF
       exact eR
      ·
       refine w_skip ?_
       refine thenQ_n ?_
       refine ws 2816 3136 ?_
       refine qp (.ptr 0 0 12) rfl (qp (AL 6 (v0.2.2.2.2.2.2.2.2.2.2.2.2.1.map eItem)) rfl (qp (AI v1005) rfl ?_))
       obtain ⟨v1006, e1006, hF⟩ := bind_get hF
       refine qc (AI v1006) [(0, .box [AS v0.1, AL 1 (v0.2.1.map (V.int .i64)), AL 1 (v0.2.2.1.map (V.int .i64)), AI v0.2.2.2.1, AI v0.2.2.2.2.1, AL 1 (v0.2.2.2.2.2.1.map (eL 1 (V.int .i64))), AL 2 (v0.2.2.2.2.2.2.1.map eNote), AS v0.2.2.2.2.2.2.2.1, AL 2 (v0.2.2.2.2.2.2.2.2.1.map eNote), AL 1 (v0.2.2.2.2.2.2.2.2.2.1.map (eL 1 (V.int .i64))), AL 3 (v0.2.2.2.2.2.2.2.2.2.2.1.map eSyllable), AL 2 (v0.2.2.2.2.2.2.2.2.2.2.2.1.map eNote), AL 6 (v0.2.2.2.2.2.2.2.2.2.2.2.2.1.map eItem), AL 5 (v0.2.2.2.2.2.2.2.2.2.2.2.2.2.1.map eLesson), AL 3 (v0.2.2.2.2.2.2.2.2.2.2.2.2.2.2.map ePerson)])] false (con_laws_szItemS e1006) c61_ok (by first | rfl | simp) rfl ?_
       refine qp (AI v1006) rfl ?_
       refine r_nil ?_
       refine w_seq ?_
       refine ws 3136 3264 ?_
       refine qp (AI v1006) rfl (qp (AB (decide (v1006 < (0 : Int)))) rfl ?_)
       refine r_nil ?_
       refine cF hF (fun hF => ?_) fun hF => ?_
       ·
        refine ws 3264 3328 ?_
        refine qp (AI (-1)) rfl ?_
        refine r_nil ?_
        refine w_ret ?_
        refine thenQ_r ?_
        cases hF
        exact eR
       ·
        refine w_skip ?_
        refine thenQ_n ?_
        refine ws 3264 3584 ?_
        refine qp (.ptr 0 0 13) rfl (qp (AL 5 (v0.2.2.2.2.2.2.2.2.2.2.2.2.2.1.map eLesson)) rfl (qp (AI v1006) rfl ?_))
        obtain ⟨v1007, e1007, hF⟩ := bind_get hF
        refine qc (AI v1007) [(0, .box [AS v0.1, AL 1 (v0.2.1.map (V.int .i64)), AL 1 (v0.2.2.1.map (V.int .i64)), AI v0.2.2.2.1, AI v0.2.2.2.2.1, AL 1 (v0.2.2.2.2.2.1.map (eL 1 (V.int .i64))), AL 2 (v0.2.2.2.2.2.2.1.map eNote), AS v0.2.2.2.2.2.2.2.1, AL 2 (v0.2.2.2.2.2.2.2.2.1.map eNote), AL 1 (v0.2.2.2.2.2.2.2.2.2.1.map (eL 1 (V.int .i64))), AL 3 (v0.2.2.2.2.2.2.2.2.2.2.1.map eSyllable), AL 2 (v0.2.2.2.2.2.2.2.2.2.2.2.1.map eNote), AL 6 (v0.2.2.2.2.2.2.2.2.2.2.2.2.1.map eItem), AL 5 (v0.2.2.2.2.2.2.2.2.2.2.2.2.2.1.map eLesson), AL 3 (v0.2.2.2.2.2.2.2.2.2.2.2.2.2.2.map ePerson)])] false (con_laws_szLessonS e1007) c18_ok (by first | rfl | simp) rfl ?_
        refine qp (AI v1007) rfl ?_
        refine r_nil ?_
        refine w_seq ?_
        refine ws 3584 3712 ?_
        refine qp (AI v1007) rfl (qp (AB (decide (v1007 < (0 : Int)))) rfl ?_)
        refine r_nil ?_
        refine cF hF (fun hF => ?_) fun hF => ?_
        ·
         refine ws 3712 3776 ?_
         refine qp (AI (-1)) rfl ?_
         refine r_nil ?_
         refine w_ret ?_
         refine thenQ_r ?_
         cases hF
         exact eR
        ·
         refine w_skip ?_
         refine thenQ_n ?_
         refine ws 3712 4032 ?_
         refine qp (.ptr 0 0 14) rfl (qp (AL 3 (v0.2.2.2.2.2.2.2.2.2.2.2.2.2.2.map ePerson)) rfl (qp (AI v1007) rfl ?_))
         obtain ⟨v1008, e1008, hF⟩ := bind_get hF
         refine qc (AI v1008) [(0, .box [AS v0.1, AL 1 (v0.2.1.map (V.int .i64)), AL 1 (v0.2.2.1.map (V.int .i64)), AI v0.2.2.2.1, AI v0.2.2.2.2.1, AL 1 (v0.2.2.2.2.2.1.map (eL 1 (V.int .i64))), AL 2 (v0.2.2.2.2.2.2.1.map eNote), AS v0.2.2.2.2.2.2.2.1, AL 2 (v0.2.2.2.2.2.2.2.2.1.map eNote), AL 1 (v0.2.2.2.2.2.2.2.2.2.1.map (eL 1 (V.int .i64))), AL 3 (v0.2.2.2.2.2.2.2.2.2.2.1.map eSyllable), AL 2 (v0.2.2.2.2.2.2.2.2.2.2.2.1.map eNote), AL 6 (v0.2.2.2.2.2.2.2.2.2.2.2.2.1.map eItem), AL 5 (v0.2.2.2.2.2.2.2.2.2.2.2.2.2.1.map eLesson), AL 3 (v0.2.2.2.2.2.2.2.2.2.2.2.2.2.2.map ePerson)])] false (con_laws_szPersonS e1008) c62_ok (by first | rfl | simp) rfl ?_
         refine qp (AI v1008) rfl ?_
         refine r_nil ?_
         refine w_seq ?_
         refine ws 4032 4160 ?_
         refine qp (AI v1008) rfl (qp (AB (decide (v1008 < (0 : Int)))) rfl ?_)
         refine r_nil ?_
         refine cF hF (fun hF => ?_) fun hF => ?_
         ·
          refine ws 4160 4224 ?_
          refine qp (AI (-1)) rfl ?_
          refine r_nil ?_
          refine w_ret ?_
          refine thenQ_r ?_
          cases hF
          exact eR
         ·
          refine w_skip ?_
          refine thenQ_n ?_
          refine ws 4160 4288 ?_
          refine qp (AI v1008) rfl (qp (AI v1008) rfl ?_)
          refine r_nil ?_
          refine w_ret ?_
          cases hF
          exact eR

def c150 : MC := (.seq (.reg [rg 2 (.f (.nilrow 1))]) (.seq (.reg [rg 5 (.p true (.mv (.t 0))), rg 6 (.p true (.len (.t 5))), rg 7 (.f (.mks 1 8 (.int .i64 0) (.t 6) (.t 6))), rg 3 (.p true (.mv (.t 7)))]) (.seq (.seq (.reg [rg 4 (.p true (.mv (.c (.int .i64 0))))]) (.block 0 (.loop (.seq (.seq (.reg [rg 8 (.p true (.mv (.t 4))), rg 9 (.p true (.mv (.t 0))), rg 10 (.p true (.len (.t 9))), rg 11 (.p true (.bin .lss (.t 8) (.t 10)))]) (.cond (.t 11) .skip (.exit 0))) (.seq (.block 1 (.reg [rg 14 (.p true (.mv (.t 3))), rg 15 (.p true (.mv (.t 4))), rg 16 (.p true (.mv (.t 0))), rg 17 (.p true (.mv (.t 4))), rg 18 (.p true (.iad (.t 16) (.t 17) 1)), rg 19 (.p true (.ld (.t 18) 1 false)), rg 20 (.p true (.iad (.t 14) (.t 15) 1)), ⟨none, none, (.f (.st (.t 20) (.t 19) 1))⟩])) (.reg [rg 12 (.p true (.mv (.t 4))), rg 13 (.p true (.bin .add (.t 12) (.c (.int .i64 1)))), rg 4 (.p true (.mv (.t 13)))])))))) (.seq (.reg [rg 21 (.p true (.mv (.t 3))), rg 2 (.p true (.mv (.t 21)))]) .ret))))
theorem c150_is : compFn Try.prog 150 = some (c150, [(.tmp 2)]) := by kernel_rfl
theorem c150_ok : okFn Try.prog 150 = true := by kernel_rfl

noncomputable def F_laws_toInt64S_l0 (v0 : List Int) (k1 : Int × (List Int) → Option (List Int)) : Int × (List Int) → Option (List Int)
 | (v1007, v1008) => (bif (decide (v1007 < (v0.length : Int))) then ((ix v0 v1007).bind fun v1009 => ((ix v1008 v1007).bind fun v1010 => k1 (w64 (v1007 + 1), List.set v1008 v1007.toNat v1009)))
 else some v1008)
noncomputable def F_laws_toInt64S (v0 : List Int) : Option (List Int) :=
 (need (0 ≤ (v0.length : Int) ∧ (v0.length : Int) ≤ (v0.length : Int) ∧ (v0.length : Int) ≤ 9223372036854775807 ∧ 8 * (v0.length : Int) ≤ 281474976710656) (loop (F_laws_toInt64S_l0 v0) (0, List.replicate ((v0.length : Int)).toNat (0 : Int))))
@[simp] def res_laws_toInt64S (r : List Int) : RV := .one (.one (.row true 1 (r.map (V.int .i64))))
theorem con_laws_toInt64S {v0 : List Int} {r : List Int} (hF : F_laws_toInt64S v0 = some r) : Con Try.prog 150 [.sl 1 (v0.map (V.int .i64))] (res_laws_toInt64S r) := by
 unfold F_laws_toInt64S at hF
 refine con_of c150_is fun N => ?_
 refine ws 0 64 ?_
 refine qf (.sl 0 0 0) [(0, .row true 1 (([] : List Int).map (V.int .i64)))] (by simp) ?_
 refine r_nil ?_
 refine ws 64 320 ?_
 refine qp (AL 1 (v0.map (V.int .i64))) rfl (qp (AI (v0.length : Int)) (ev_len_n rfl) ?_)
 obtain ⟨g1000, hF⟩ := need_some hF
 refine qf (.sl 192 0 ((List.replicate ((v0.length : Int)).toNat (0 : Int)).length)) [(192, .row true 1 ((List.replicate ((v0.length : Int)).toNat (0 : Int)).map (V.int .i64))), (0, .row true 1 (([] : List Int).map (V.int .i64)))] (effT_mks rfl rfl g1000 rfl) ?_
 refine qp (.sl 192 0 ((List.replicate ((v0.length : Int)).toNat (0 : Int)).length)) rfl ?_
 refine r_nil ?_
 refine w_seq ?_
 refine ws 320 384 ?_
 refine qp (AI 0) rfl ?_
 refine r_nil ?_
 refine w_block ?_
 refine wr (l' := [(0, AL 1 (v0.map (V.int .i64))), (3, .sl 0 0 (List.replicate ((v0.length : Int)).toNat (0 : Int)).length), (4, AI 0)]) (L := [(0, .row true 1 ((List.replicate ((v0.length : Int)).toNat (0 : Int)).map (V.int .i64)))]) [0, 3, 4] [(192, 0)] 1 ?_
 refine w_loopF (F_laws_toInt64S_l0 v0) (fun s : Int × (List Int) => mkS [(0, AL 1 (v0.map (V.int .i64))), (3, .sl 0 0 s.2.length), (4, AI s.1)] (fo [(0, .row true 1 (s.2.map (V.int .i64)))]) 1) hF ?_
 rintro k1 ⟨v1007, v1008⟩ hF
 rw [F_laws_toInt64S_l0] at hF
 try dsimp only
 refine w_seq ?_
 refine ws 1 257 ?_
 refine qp (AI v1007) rfl (qp (AL 1 (v0.map (V.int .i64))) rfl (qp (AI (v0.length : Int)) (ev_len_n rfl) (qp (AB (decide (v1007 < (v0.length : Int)))) rfl ?_)))
 refine r_nil ?_
 refine cF hF (fun hF => ?_) fun hF => ?_
 ·
  refine w_skip ?_
  refine thenQ_n ?_
  refine w_seq ?_
  refine w_block ?_
  refine w_reg 257 769 rfl rfl ?_
  refine qp (.sl 0 0 v1008.length) rfl (qp (AI v1007) rfl (qp (AL 1 (v0.map (V.int .i64))) rfl (qp (AI v1007) rfl ?_)))
  obtain ⟨v1009, e1009, hF⟩ := bind_get hF
  refine qp (.val none (.ptr [.int .i64 v1009])) (ev_iad_n rfl rfl e1009 rfl) (qp (AI v1009) rfl ?_)
  obtain ⟨v1010, e1010, hF⟩ := bind_get hF
  refine qp (.ptr 0 v1007.toNat 0) (ev_iad_r rfl (by simp) rfl rfl e1010) ?_
  refine qf0 (.undef) [(0, .row true 1 ((List.set v1008 v1007.toNat v1009).map (V.int .i64))), (0, .row true 1 (v1008.map (V.int .i64)))] (effT_st rfl rfl (ix_some e1010).2 rfl rfl (by rfl) (by first | rfl | simp [patch, reb, List.take_of_length_le]) (by rfl) rfl) ?_
  refine r_nil ?_
  refine blockQ_n ?_
  refine thenQ_n ?_
  refine w_reg 769 961 rfl rfl ?_
  refine qp (AI v1007) rfl (qp (AI (w64 (v1007 + 1))) rfl (qp (AI (w64 (v1007 + 1))) rfl ?_))
  refine r_nil ?_
  refine thenQ_n ?_
  refine ar (l' := [(0, AL 1 (v0.map (V.int .i64))), (3, .sl 0 0 (List.set v1008 v1007.toNat v1009).length), (4, AI (w64 (v1007 + 1)))]) (L := [(0, .row true 1 ((List.set v1008 v1007.toNat v1009).map (V.int .i64)))]) [0, 3, 4] [(0, 0)] 1 ⟨_, by rfl, hF⟩
 ·
  refine w_exit ?_
  refine thenQ_e ?_
  refine thenQ_e ?_
  refine blockQ_e ?_
  refine thenQ_n ?_
  refine ws 257 385 ?_
  refine qp (.sl 0 0 v1008.length) rfl (qp (.sl 0 0 v1008.length) rfl ?_)
  refine r_nil ?_
  refine w_ret ?_
  cases hF
  exact eR

def c69 : MC := (.seq (.reg [rg 2 (.f (.nilrow 1))]) (.seq (.reg [rg 5 (.p true (.mv (.t 0))), rg 6 (.p true (.len (.t 5))), rg 7 (.f (.mks 1 24 (.sl 1 []) (.t 6) (.t 6))), rg 3 (.p true (.mv (.t 7)))]) (.seq (.seq (.reg [rg 4 (.p true (.mv (.c (.int .i64 0))))]) (.block 0 (.loop (.seq (.seq (.reg [rg 8 (.p true (.mv (.t 4))), rg 9 (.p true (.mv (.t 0))), rg 10 (.p true (.len (.t 9))), rg 11 (.p true (.bin .lss (.t 8) (.t 10)))]) (.cond (.t 11) .skip (.exit 0))) (.seq (.block 1 (.reg [rg 14 (.p true (.mv (.t 3))), rg 15 (.p true (.mv (.t 4))), rg 16 (.p true (.mv (.t 0))), rg 17 (.p true (.mv (.t 4))), rg 18 (.p true (.iad (.t 16) (.t 17) 1)), rg 19 (.p true (.ld (.t 18) 1 false)), rg 20 (.call true 150 [(.t 19)]), rg 21 (.p true (.iad (.t 14) (.t 15) 1)), ⟨none, none, (.f (.st (.t 21) (.t 20) 1))⟩])) (.reg [rg 12 (.p true (.mv (.t 4))), rg 13 (.p true (.bin .add (.t 12) (.c (.int .i64 1)))), rg 4 (.p true (.mv (.t 13)))])))))) (.seq (.reg [rg 22 (.p true (.mv (.t 3))), rg 2 (.p true (.mv (.t 22)))]) .ret))))
theorem c69_is : compFn Try.prog 69 = some (c69, [(.tmp 2)]) := by kernel_rfl
theorem c69_ok : okFn Try.prog 69 = true := by kernel_rfl

noncomputable def F_laws_toInt64SS_l0 (v0 : List (List Int)) (k1 : Int × (List (List Int)) → Option (List (List Int))) : Int × (List (List Int)) → Option (List (List Int))
 | (v1009, v1010) => (bif (decide (v1009 < (v0.length : Int))) then ((ix v0 v1009).bind fun v1011 => ((F_laws_toInt64S v1011).bind fun v1012 => ((ix v1010 v1009).bind fun v1013 => k1 (w64 (v1009 + 1), List.set v1010 v1009.toNat v1012))))
 else some v1010)
noncomputable def F_laws_toInt64SS (v0 : List (List Int)) : Option (List (List Int)) :=
 (need (0 ≤ (v0.length : Int) ∧ (v0.length : Int) ≤ (v0.length : Int) ∧ (v0.length : Int) ≤ 9223372036854775807 ∧ 24 * (v0.length : Int) ≤ 281474976710656) (loop (F_laws_toInt64SS_l0 v0) (0, List.replicate ((v0.length : Int)).toNat ([] : List Int))))
@[simp] def res_laws_toInt64SS (r : List (List Int)) : RV := .one (.one (.row true 1 (r.map (eL 1 (V.int .i64)))))
theorem con_laws_toInt64SS {v0 : List (List Int)} {r : List (List Int)} (hF : F_laws_toInt64SS v0 = some r) : Con Try.prog 69 [.sl 1 (v0.map (eL 1 (V.int .i64)))] (res_laws_toInt64SS r) := by
 unfold F_laws_toInt64SS at hF
 refine con_of c69_is fun N => ?_
 refine ws 0 64 ?_
 refine qf (.sl 0 0 0) [(0, .row true 1 (([] : List Int).map (V.int .i64)))] (by simp) ?_
 refine r_nil ?_
 refine ws 64 320 ?_
 refine qp (AL 1 (v0.map (eL 1 (V.int .i64)))) rfl (qp (AI (v0.length : Int)) (ev_len_n rfl) ?_)
 obtain ⟨g1000, hF⟩ := need_some hF
 refine qf (.sl 192 0 ((List.replicate ((v0.length : Int)).toNat ([] : List Int)).length)) [(192, .row true 1 ((List.replicate ((v0.length : Int)).toNat ([] : List Int)).map (eL 1 (V.int .i64)))), (0, .row true 1 (([] : List Int).map (V.int .i64)))] (effT_mks rfl rfl g1000 rfl) ?_
 refine qp (.sl 192 0 ((List.replicate ((v0.length : Int)).toNat ([] : List Int)).length)) rfl ?_
 refine r_nil ?_
 refine w_seq ?_
 refine ws 320 384 ?_
 refine qp (AI 0) rfl ?_
 refine r_nil ?_
 refine w_block ?_
 refine wr (l' := [(0, AL 1 (v0.map (eL 1 (V.int .i64)))), (3, .sl 0 0 (List.replicate ((v0.length : Int)).toNat ([] : List Int)).length), (4, AI 0)]) (L := [(0, .row true 1 ((List.replicate ((v0.length : Int)).toNat ([] : List Int)).map (eL 1 (V.int .i64))))]) [0, 3, 4] [(192, 0)] 1 ?_
 refine w_loopF (F_laws_toInt64SS_l0 v0) (fun s : Int × (List (List Int)) => mkS [(0, AL 1 (v0.map (eL 1 (V.int .i64)))), (3, .sl 0 0 s.2.length), (4, AI s.1)] (fo [(0, .row true 1 (s.2.map (eL 1 (V.int .i64))))]) 1) hF ?_
 rintro k1 ⟨v1009, v1010⟩ hF
 rw [F_laws_toInt64SS_l0] at hF
 try dsimp only
 refine w_seq ?_
 refine ws 1 257 ?_
 refine qp (AI v1009) rfl (qp (AL 1 (v0.map (eL 1 (V.int .i64)))) rfl (qp (AI (v0.length : Int)) (ev_len_n rfl) (qp (AB (decide (v1009 < (v0.length : Int)))) rfl ?_)))
 refine r_nil ?_
 refine cF hF (fun hF => ?_) fun hF => ?_
 ·
  refine w_skip ?_
  refine thenQ_n ?_
  refine w_seq ?_
  refine w_block ?_
  refine w_reg 257 833 rfl rfl ?_
  refine qp (.sl 0 0 v1010.length) rfl (qp (AI v1009) rfl (qp (AL 1 (v0.map (eL 1 (V.int .i64)))) rfl (qp (AI v1009) rfl ?_)))
  obtain ⟨v1011, e1011, hF⟩ := bind_get hF
  refine qp (.val none (.ptr [.sl 1 (v1011.map (V.int .i64))])) (ev_iad_n rfl rfl e1011 rfl) (qp (AL 1 (v1011.map (V.int .i64))) rfl ?_)
  obtain ⟨v1012, e1012, hF⟩ := bind_get hF
  refine qc (.sl 641 0 v1012.length) [(641, .row true 1 (v1012.map (V.int .i64))), (0, .row true 1 (v1010.map (eL 1 (V.int .i64))))] false (con_laws_toInt64S e1012) c150_ok (by first | rfl | simp) (by simp [res_laws_toInt64S]) ?_
  obtain ⟨v1013, e1013, hF⟩ := bind_get hF
  refine qp (.ptr 0 v1009.toNat 0) (ev_iad_r rfl (by simp) rfl rfl e1013) ?_
  refine qf0 (.undef) [(0, .row true 1 ((List.set v1010 v1009.toNat v1012).map (eL 1 (V.int .i64)))), (641, .dead), (641, .row true 1 (v1012.map (V.int .i64))), (0, .row true 1 (v1010.map (eL 1 (V.int .i64))))] (effT_st rfl rfl (ix_some e1013).2 rfl rfl (by rfl) (by first | rfl | simp [patch, reb, List.take_of_length_le]) (by rfl) rfl) ?_
  refine r_nil ?_
  refine blockQ_n ?_
  refine thenQ_n ?_
  refine w_reg 833 1025 rfl rfl ?_
  refine qp (AI v1009) rfl (qp (AI (w64 (v1009 + 1))) rfl (qp (AI (w64 (v1009 + 1))) rfl ?_))
  refine r_nil ?_
  refine thenQ_n ?_
  refine ar (l' := [(0, AL 1 (v0.map (eL 1 (V.int .i64)))), (3, .sl 0 0 (List.set v1010 v1009.toNat v1012).length), (4, AI (w64 (v1009 + 1)))]) (L := [(0, .row true 1 ((List.set v1010 v1009.toNat v1012).map (eL 1 (V.int .i64))))]) [0, 3, 4] [(0, 0)] 1 ⟨_, by rfl, hF⟩
 ·
  refine w_exit ?_
  refine thenQ_e ?_
  refine thenQ_e ?_
  refine blockQ_e ?_
  refine thenQ_n ?_
  refine ws 257 385 ?_
  refine qp (.sl 0 0 v1010.length) rfl (qp (.sl 0 0 v1010.length) rfl ?_)
  refine r_nil ?_
  refine w_ret ?_
  cases hF
  exact eR

def c45 : MC := (.seq (.reg [rg 1 (.f (.box (.t 0))), rg 2 (.f (.alloc [((.str []), (0, false)), ((.sl 0 []), (1, false)), ((.sl 0 []), (1, false)), ((.int .i64 0), (0, false)), ((.int .i64 0), (0, false)), ((.sl 0 []), (1, false))]))]) (.seq (.reg [rg 3 (.f (.alloc [((.str []), (0, false)), ((.sl 0 []), (1, false)), ((.sl 0 []), (1, false)), ((.int .i64 0), (0, false)), ((.int .i64 0), (0, false)), ((.sl 0 []), (1, false))]))]) (.seq (.reg [rg 4 (.p true (.fad (.t 1) 0)), rg 5 (.p true (.ld (.t 4) 1 false)), rg 6 (.p true (.fad (.t 3) 0)), ⟨none, none, (.f (.st (.t 6) (.t 5) 1))⟩]) (.seq (.reg [rg 7 (.p true (.fad (.t 1) 1)), rg 8 (.p true (.ld (.t 7) 1 false)), rg 9 (.call true 150 [(.t 8)]), rg 10 (.p true (.fad (.t 3) 1)), ⟨none, none, (.f (.st (.t 10) (.t 9) 1))⟩]) (.seq (.reg [rg 11 (.p true (.fad (.t 1) 2)), rg 12 (.p true (.ld (.t 11) 1 false)), rg 13 (.call true 150 [(.t 12)]), rg 14 (.p true (.fad (.t 3) 2)), ⟨none, none, (.f (.st (.t 14) (.t 13) 1))⟩]) (.seq (.reg [rg 15 (.p true (.fad (.t 1) 3)), rg 16 (.p true (.ld (.t 15) 1 false)), rg 17 (.p true (.fad (.t 3) 3)), ⟨none, none, (.f (.st (.t 17) (.t 16) 1))⟩]) (.seq (.reg [rg 18 (.p true (.fad (.t 1) 4)), rg 19 (.p true (.ld (.t 18) 1 false)), rg 20 (.p true (.fad (.t 3) 4)), ⟨none, none, (.f (.st (.t 20) (.t 19) 1))⟩]) (.seq (.reg [rg 21 (.p true (.fad (.t 1) 5)), rg 22 (.p true (.ld (.t 21) 1 false)), rg 23 (.call true 69 [(.t 22)]), rg 24 (.p true (.fad (.t 3) 5)), ⟨none, none, (.f (.st (.t 24) (.t 23) 1))⟩]) (.seq (.reg [rg 25 (.p true (.ld (.t 3) 6 true)), ⟨none, none, (.f (.st (.t 2) (.t 25) 6))⟩]) .ret)))))))))
theorem c45_is : compFn Try.prog 45 = some (c45, [(.cell (.ld (.t 2) 6 true))]) := by kernel_rfl
theorem c45_ok : okFn Try.prog 45 = true := by kernel_rfl

noncomputable def F_laws_toRaga (v0 : TRaga) : Option (TRaga) :=
 ((F_laws_toInt64S v0.2.1).bind fun v1000 => ((F_laws_toInt64S v0.2.2.1).bind fun v1001 => ((F_laws_toInt64SS v0.2.2.2.2.2).bind fun v1002 => some (v0.1, v1000, v1001, v0.2.2.2.1, v0.2.2.2.2.1, v1002))))
@[simp] def res_laws_toRaga (r : TRaga) : RV := .one (.agg [.val (.str r.1), .row true 1 (r.2.1.map (V.int .i64)), .row true 1 (r.2.2.1.map (V.int .i64)), .val (.int .i64 r.2.2.2.1), .val (.int .i64 r.2.2.2.2.1), .row true 1 (r.2.2.2.2.2.map (eL 1 (V.int .i64)))])
theorem con_laws_toRaga {v0 : TRaga} {r : TRaga} (hF : F_laws_toRaga v0 = some r) : Con Try.prog 45 [eRaga v0] (res_laws_toRaga r) := by
 unfold F_laws_toRaga at hF
 refine con_of c45_is fun N => ?_
 refine ws 0 128 ?_
 refine qf (.ptr 0 0 0) [(0, .box [AS v0.1, AL 1 (v0.2.1.map (V.int .i64)), AL 1 (v0.2.2.1.map (V.int .i64)), AI v0.2.2.2.1, AI v0.2.2.2.2.1, AL 1 (v0.2.2.2.2.2.map (eL 1 (V.int .i64)))])] (by simp) ?_
 refine qf (.ptr 64 0 0) [(64, .box [AS [], .sl 65 0 0, .sl 66 0 0, AI 0, AI 0, .sl 67 0 0]), (67, .row true 1 (([] : List Int).map (V.int .i64))), (66, .row true 1 (([] : List Int).map (V.int .i64))), (65, .row true 1 (([] : List Int).map (V.int .i64))), (0, .box [AS v0.1, AL 1 (v0.2.1.map (V.int .i64)), AL 1 (v0.2.2.1.map (V.int .i64)), AI v0.2.2.2.1, AI v0.2.2.2.2.1, AL 1 (v0.2.2.2.2.2.map (eL 1 (V.int .i64)))])] (by simp) ?_
 refine r_nil ?_
 refine ws 128 192 ?_
 refine qf (.ptr 128 0 0) [(128, .box [AS [], .sl 129 0 0, .sl 130 0 0, AI 0, AI 0, .sl 131 0 0]), (131, .row true 1 (([] : List Int).map (V.int .i64))), (130, .row true 1 (([] : List Int).map (V.int .i64))), (129, .row true 1 (([] : List Int).map (V.int .i64))), (64, .box [AS [], .sl 65 0 0, .sl 66 0 0, AI 0, AI 0, .sl 67 0 0]), (67, .row true 1 (([] : List Int).map (V.int .i64))), (66, .row true 1 (([] : List Int).map (V.int .i64))), (65, .row true 1 (([] : List Int).map (V.int .i64))), (0, .box [AS v0.1, AL 1 (v0.2.1.map (V.int .i64)), AL 1 (v0.2.2.1.map (V.int .i64)), AI v0.2.2.2.1, AI v0.2.2.2.2.1, AL 1 (v0.2.2.2.2.2.map (eL 1 (V.int .i64)))])] (by simp) ?_
 refine r_nil ?_
 refine ws 192 448 ?_
 refine qp (.ptr 0 0 0) rfl (qp (AS v0.1) rfl (qp (.ptr 128 0 0) rfl ?_))
 refine qf0 (.undef) [(128, .box [AS v0.1, .sl 129 0 0, .sl 130 0 0, AI 0, AI 0, .sl 131 0 0]), (128, .box [AS [], .sl 129 0 0, .sl 130 0 0, AI 0, AI 0, .sl 131 0 0]), (131, .row true 1 (([] : List Int).map (V.int .i64))), (130, .row true 1 (([] : List Int).map (V.int .i64))), (129, .row true 1 (([] : List Int).map (V.int .i64))), (64, .box [AS [], .sl 65 0 0, .sl 66 0 0, AI 0, AI 0, .sl 67 0 0]), (67, .row true 1 (([] : List Int).map (V.int .i64))), (66, .row true 1 (([] : List Int).map (V.int .i64))), (65, .row true 1 (([] : List Int).map (V.int .i64))), (0, .box [AS v0.1, AL 1 (v0.2.1.map (V.int .i64)), AL 1 (v0.2.2.1.map (V.int .i64)), AI v0.2.2.2.1, AI v0.2.2.2.2.1, AL 1 (v0.2.2.2.2.2.map (eL 1 (V.int .i64)))])] (by simp) ?_
 refine r_nil ?_
 refine ws 448 768 ?_
 refine qp (.ptr 0 0 1) rfl (qp (AL 1 (v0.2.1.map (V.int .i64))) rfl ?_)
 obtain ⟨v1000, e1000, hF⟩ := bind_get hF
 refine qc (.sl 576 0 v1000.length) [(576, .row true 1 (v1000.map (V.int .i64))), (128, .box [AS v0.1, .sl 129 0 0, .sl 130 0 0, AI 0, AI 0, .sl 131 0 0]), (128, .box [AS [], .sl 129 0 0, .sl 130 0 0, AI 0, AI 0, .sl 131 0 0]), (131, .row true 1 (([] : List Int).map (V.int .i64))), (130, .row true 1 (([] : List Int).map (V.int .i64))), (129, .row true 1 (([] : List Int).map (V.int .i64))), (64, .box [AS [], .sl 65 0 0, .sl 66 0 0, AI 0, AI 0, .sl 67 0 0]), (67, .row true 1 (([] : List Int).map (V.int .i64))), (66, .row true 1 (([] : List Int).map (V.int .i64))), (65, .row true 1 (([] : List Int).map (V.int .i64))), (0, .box [AS v0.1, AL 1 (v0.2.1.map (V.int .i64)), AL 1 (v0.2.2.1.map (V.int .i64)), AI v0.2.2.2.1, AI v0.2.2.2.2.1, AL 1 (v0.2.2.2.2.2.map (eL 1 (V.int .i64)))])] false (con_laws_toInt64S e1000) c150_ok (by first | rfl | simp) (by simp [res_laws_toInt64S]) ?_
 refine qp (.ptr 128 0 1) rfl ?_
 refine qf0 (.undef) [(128, .box [AS v0.1, .sl 576 0 v1000.length, .sl 130 0 0, AI 0, AI 0, .sl 131 0 0]), (576, .row true 1 (v1000.map (V.int .i64))), (128, .box [AS v0.1, .sl 129 0 0, .sl 130 0 0, AI 0, AI 0, .sl 131 0 0]), (128, .box [AS [], .sl 129 0 0, .sl 130 0 0, AI 0, AI 0, .sl 131 0 0]), (131, .row true 1 (([] : List Int).map (V.int .i64))), (130, .row true 1 (([] : List Int).map (V.int .i64))), (129, .row true 1 (([] : List Int).map (V.int .i64))), (64, .box [AS [], .sl 65 0 0, .sl 66 0 0, AI 0, AI 0, .sl 67 0 0]), (67, .row true 1 (([] : List Int).map (V.int .i64))), (66, .row true 1 (([] : List Int).map (V.int .i64))), (65, .row true 1 (([] : List Int).map (V.int .i64))), (0, .box [AS v0.1, AL 1 (v0.2.1.map (V.int .i64)), AL 1 (v0.2.2.1.map (V.int .i64)), AI v0.2.2.2.1, AI v0.2.2.2.2.1, AL 1 (v0.2.2.2.2.2.map (eL 1 (V.int .i64)))])] (by simp) ?_
 refine r_nil ?_
 refine ws 768 1088 ?_
 refine qp (.ptr 0 0 2) rfl (qp (AL 1 (v0.2.2.1.map (V.int .i64))) rfl ?_)
 obtain ⟨v1001, e1001, hF⟩ := bind_get hF
 refine qc (.sl 896 0 v1001.length) [(896, .row true 1 (v1001.map (V.int .i64))), (128, .box [AS v0.1, .sl 576 0 v1000.length, .sl 130 0 0, AI 0, AI 0, .sl 131 0 0]), (576, .row true 1 (v1000.map (V.int .i64))), (128, .box [AS v0.1, .sl 129 0 0, .sl 130 0 0, AI 0, AI 0, .sl 131 0 0]), (128, .box [AS [], .sl 129 0 0, .sl 130 0 0, AI 0, AI 0, .sl 131 0 0]), (131, .row true 1 (([] : List Int).map (V.int .i64))), (130, .row true 1 (([] : List Int).map (V.int .i64))), (129, .row true 1 (([] : List Int).map (V.int .i64))), (64, .box [AS [], .sl 65 0 0, .sl 66 0 0, AI 0, AI 0, .sl 67 0 0]), (67, .row true 1 (([] : List Int).map (V.int .i64))), (66, .row true 1 (([] : List Int).map (V.int .i64))), (65, .row true 1 (([] : List Int).map (V.int .i64))), (0, .box [AS v0.1, AL 1 (v0.2.1.map (V.int .i64)), AL 1 (v0.2.2.1.map (V.int .i64)), AI v0.2.2.2.1, AI v0.2.2.2.2.1, AL 1 (v0.2.2.2.2.2.map (eL 1 (V.int .i64)))])] false (con_laws_toInt64S e1001) c150_ok (by first | rfl | simp) (by simp [res_laws_toInt64S]) ?_
 refine qp (.ptr 128 0 2) rfl ?_
 refine qf0 (.undef) [(128, .box [AS v0.1, .sl 576 0 v1000.length, .sl 896 0 v1001.length, AI 0, AI 0, .sl 131 0 0]), (896, .row true 1 (v1001.map (V.int .i64))), (128, .box [AS v0.1, .sl 576 0 v1000.length, .sl 130 0 0, AI 0, AI 0, .sl 131 0 0]), (576, .row true 1 (v1000.map (V.int .i64))), (128, .box [AS v0.1, .sl 129 0 0, .sl 130 0 0, AI 0, AI 0, .sl 131 0 0]), (128, .box [AS [], .sl 129 0 0, .sl 130 0 0, AI 0, AI 0, .sl 131 0 0]), (131, .row true 1 (([] : List Int).map (V.int .i64))), (130, .row true 1 (([] : List Int).map (V.int .i64))), (129, .row true 1 (([] : List Int).map (V.int .i64))), (64, .box [AS [], .sl 65 0 0, .sl 66 0 0, AI 0, AI 0, .sl 67 0 0]), (67, .row true 1 (([] : List Int).map (V.int .i64))), (66, .row true 1 (([] : List Int).map (V.int .i64))), (65, .row true 1 (([] : List Int).map (V.int .i64))), (0, .box [AS v0.1, AL 1 (v0.2.1.map (V.int .i64)), AL 1 (v0.2.2.1.map (V.int .i64)), AI v0.2.2.2.1, AI v0.2.2.2.2.1, AL 1 (v0.2.2.2.2.2.map (eL 1 (V.int .i64)))])] (by simp) ?_
 refine r_nil ?_
 refine ws 1088 1344 ?_
 refine qp (.ptr 0 0 3) rfl (qp (AI v0.2.2.2.1) rfl (qp (.ptr 128 0 3) rfl ?_))
 refine qf0 (.undef) [(128, .box [AS v0.1, .sl 576 0 v1000.length, .sl 896 0 v1001.length, AI v0.2.2.2.1, AI 0, .sl 131 0 0]), (128, .box [AS v0.1, .sl 576 0 v1000.length, .sl 896 0 v1001.length, AI 0, AI 0, .sl 131 0 0]), (896, .row true 1 (v1001.map (V.int .i64))), (128, .box [AS v0.1, .sl 576 0 v1000.length, .sl 130 0 0, AI 0, AI 0, .sl 131 0 0]), (576, .row true 1 (v1000.map (V.int .i64))), (128, .box [AS v0.1, .sl 129 0 0, .sl 130 0 0, AI 0, AI 0, .sl 131 0 0]), (128, .box [AS [], .sl 129 0 0, .sl 130 0 0, AI 0, AI 0, .sl 131 0 0]), (131, .row true 1 (([] : List Int).map (V.int .i64))), (130, .row true 1 (([] : List Int).map (V.int .i64))), (129, .row true 1 (([] : List Int).map (V.int .i64))), (64, .box [AS [], .sl 65 0 0, .sl 66 0 0, AI 0, AI 0, .sl 67 0 0]), (67, .row true 1 (([] : List Int).map (V.int .i64))), (66, .row true 1 (([] : List Int).map (V.int .i64))), (65, .row true 1 (([] : List Int).map (V.int .i64))), (0, .box [AS v0.1, AL 1 (v0.2.1.map (V.int .i64)), AL 1 (v0.2.2.1.map (V.int .i64)), AI v0.2.2.2.1, AI v0.2.2.2.2.1, AL 1 (v0.2.2.2.2.2.map (eL 1 (V.int .i64)))])] (by simp) ?_
 refine r_nil ?_
 refine ws 1344 1600 ?_
 refine qp (.ptr 0 0 4) rfl (qp (AI v0.2.2.2.2.1) rfl (qp (.ptr 128 0 4) rfl ?_))
 refine qf0 (.undef) [(128, .box [AS v0.1, .sl 576 0 v1000.length, .sl 896 0 v1001.length, AI v0.2.2.2.1, AI v0.2.2.2.2.1, .sl 131 0 0]), (128, .box [AS v0.1, .sl 576 0 v1000.length, .sl 896 0 v1001.length, AI v0.2.2.2.1, AI 0, .sl 131 0 0]), (128, .box [AS v0.1, .sl 576 0 v1000.length, .sl 896 0 v1001.length, AI 0, AI 0, .sl 131 0 0]), (896, .row true 1 (v1001.map (V.int .i64))), (128, .box [AS v0.1, .sl 576 0 v1000.length, .sl 130 0 0, AI 0, AI 0, .sl 131 0 0]), (576, .row true 1 (v1000.map (V.int .i64))), (128, .box [AS v0.1, .sl 129 0 0, .sl 130 0 0, AI 0, AI 0, .sl 131 0 0]), (128, .box [AS [], .sl 129 0 0, .sl 130 0 0, AI 0, AI 0, .sl 131 0 0]), (131, .row true 1 (([] : List Int).map (V.int .i64))), (130, .row true 1 (([] : List Int).map (V.int .i64))), (129, .row true 1 (([] : List Int).map (V.int .i64))), (64, .box [AS [], .sl 65 0 0, .sl 66 0 0, AI 0, AI 0, .sl 67 0 0]), (67, .row true 1 (([] : List Int).map (V.int .i64))), (66, .row true 1 (([] : List Int).map (V.int .i64))), (65, .row true 1 (([] : List Int).map (V.int .i64))), (0, .box [AS v0.1, AL 1 (v0.2.1.map (V.int .i64)), AL 1 (v0.2.2.1.map (V.int .i64)), AI v0.2.2.2.1, AI v0.2.2.2.2.1, AL 1 (v0.2.2.2.2.2.map (eL 1 (V.int .i64)))])] (by simp) ?_
 refine r_nil ?_
 refine ws 1600 1920 ?_
 refine qp (.ptr 0 0 5) rfl (qp (AL 1 (v0.2.2.2.2.2.map (eL 1 (V.int .i64)))) rfl ?_)
 obtain ⟨v1002, e1002, hF⟩ := bind_get hF
 refine qc (.sl 1728 0 v1002.length) [(1728, .row true 1 (v1002.map (eL 1 (V.int .i64)))), (128, .box [AS v0.1, .sl 576 0 v1000.length, .sl 896 0 v1001.length, AI v0.2.2.2.1, AI v0.2.2.2.2.1, .sl 131 0 0]), (128, .box [AS v0.1, .sl 576 0 v1000.length, .sl 896 0 v1001.length, AI v0.2.2.2.1, AI 0, .sl 131 0 0]), (128, .box [AS v0.1, .sl 576 0 v1000.length, .sl 896 0 v1001.length, AI 0, AI 0, .sl 131 0 0]), (896, .row true 1 (v1001.map (V.int .i64))), (128, .box [AS v0.1, .sl 576 0 v1000.length, .sl 130 0 0, AI 0, AI 0, .sl 131 0 0]), (576, .row true 1 (v1000.map (V.int .i64))), (128, .box [AS v0.1, .sl 129 0 0, .sl 130 0 0, AI 0, AI 0, .sl 131 0 0]), (128, .box [AS [], .sl 129 0 0, .sl 130 0 0, AI 0, AI 0, .sl 131 0 0]), (131, .row true 1 (([] : List Int).map (V.int .i64))), (130, .row true 1 (([] : List Int).map (V.int .i64))), (129, .row true 1 (([] : List Int).map (V.int .i64))), (64, .box [AS [], .sl 65 0 0, .sl 66 0 0, AI 0, AI 0, .sl 67 0 0]), (67, .row true 1 (([] : List Int).map (V.int .i64))), (66, .row true 1 (([] : List Int).map (V.int .i64))), (65, .row true 1 (([] : List Int).map (V.int .i64))), (0, .box [AS v0.1, AL 1 (v0.2.1.map (V.int .i64)), AL 1 (v0.2.2.1.map (V.int .i64)), AI v0.2.2.2.1, AI v0.2.2.2.2.1, AL 1 (v0.2.2.2.2.2.map (eL 1 (V.int .i64)))])] false (con_laws_toInt64SS e1002) c69_ok (by first | rfl | simp) (by simp [res_laws_toInt64SS]) ?_
 refine qp (.ptr 128 0 5) rfl ?_
 refine qf0 (.undef) [(128, .box [AS v0.1, .sl 576 0 v1000.length, .sl 896 0 v1001.length, AI v0.2.2.2.1, AI v0.2.2.2.2.1, .sl 1728 0 v1002.length]), (1728, .row true 1 (v1002.map (eL 1 (V.int .i64)))), (128, .box [AS v0.1, .sl 576 0 v1000.length, .sl 896 0 v1001.length, AI v0.2.2.2.1, AI v0.2.2.2.2.1, .sl 131 0 0]), (128, .box [AS v0.1, .sl 576 0 v1000.length, .sl 896 0 v1001.length, AI v0.2.2.2.1, AI 0, .sl 131 0 0]), (128, .box [AS v0.1, .sl 576 0 v1000.length, .sl 896 0 v1001.length, AI 0, AI 0, .sl 131 0 0]), (896, .row true 1 (v1001.map (V.int .i64))), (128, .box [AS v0.1, .sl 576 0 v1000.length, .sl 130 0 0, AI 0, AI 0, .sl 131 0 0]), (576, .row true 1 (v1000.map (V.int .i64))), (128, .box [AS v0.1, .sl 129 0 0, .sl 130 0 0, AI 0, AI 0, .sl 131 0 0]), (128, .box [AS [], .sl 129 0 0, .sl 130 0 0, AI 0, AI 0, .sl 131 0 0]), (131, .row true 1 (([] : List Int).map (V.int .i64))), (130, .row true 1 (([] : List Int).map (V.int .i64))), (129, .row true 1 (([] : List Int).map (V.int .i64))), (64, .box [AS [], .sl 65 0 0, .sl 66 0 0, AI 0, AI 0, .sl 67 0 0]), (67, .row true 1 (([] : List Int).map (V.int .i64))), (66, .row true 1 (([] : List Int).map (V.int .i64))), (65, .row true 1 (([] : List Int).map (V.int .i64))), (0, .box [AS v0.1, AL 1 (v0.2.1.map (V.int .i64)), AL 1 (v0.2.2.1.map (V.int .i64)), AI v0.2.2.2.1, AI v0.2.2.2.2.1, AL 1 (v0.2.2.2.2.2.map (eL 1 (V.int .i64)))])] (by simp) ?_
 refine r_nil ?_
 refine ws 1920 2048 ?_
 refine qp (.agg [AS v0.1, .sl 576 0 v1000.length, .sl 896 0 v1001.length, AI v0.2.2.2.1, AI v0.2.2.2.2.1, .sl 1728 0 v1002.length]) rfl ?_
 refine qf0 (.undef) [(64, .box [AS v0.1, .sl 576 0 v1000.length, .sl 896 0 v1001.length, AI v0.2.2.2.1, AI v0.2.2.2.2.1, .sl 1728 0 v1002.length]), (128, .box [AS v0.1, .sl 576 0 v1000.length, .sl 896 0 v1001.length, AI v0.2.2.2.1, AI v0.2.2.2.2.1, .sl 1728 0 v1002.length]), (1728, .row true 1 (v1002.map (eL 1 (V.int .i64)))), (128, .box [AS v0.1, .sl 576 0 v1000.length, .sl 896 0 v1001.length, AI v0.2.2.2.1, AI v0.2.2.2.2.1, .sl 131 0 0]), (128, .box [AS v0.1, .sl 576 0 v1000.length, .sl 896 0 v1001.length, AI v0.2.2.2.1, AI 0, .sl 131 0 0]), (128, .box [AS v0.1, .sl 576 0 v1000.length, .sl 896 0 v1001.length, AI 0, AI 0, .sl 131 0 0]), (896, .row true 1 (v1001.map (V.int .i64))), (128, .box [AS v0.1, .sl 576 0 v1000.length, .sl 130 0 0, AI 0, AI 0, .sl 131 0 0]), (576, .row true 1 (v1000.map (V.int .i64))), (128, .box [AS v0.1, .sl 129 0 0, .sl 130 0 0, AI 0, AI 0, .sl 131 0 0]), (128, .box [AS [], .sl 129 0 0, .sl 130 0 0, AI 0, AI 0, .sl 131 0 0]), (131, .row true 1 (([] : List Int).map (V.int .i64))), (130, .row true 1 (([] : List Int).map (V.int .i64))), (129, .row true 1 (([] : List Int).map (V.int .i64))), (64, .box [AS [], .sl 65 0 0, .sl 66 0 0, AI 0, AI 0, .sl 67 0 0]), (67, .row true 1 (([] : List Int).map (V.int .i64))), (66, .row true 1 (([] : List Int).map (V.int .i64))), (65, .row true 1 (([] : List Int).map (V.int .i64))), (0, .box [AS v0.1, AL 1 (v0.2.1.map (V.int .i64)), AL 1 (v0.2.2.1.map (V.int .i64)), AI v0.2.2.2.1, AI v0.2.2.2.2.1, AL 1 (v0.2.2.2.2.2.map (eL 1 (V.int .i64)))])] (by simp) ?_
 refine r_nil ?_
 refine w_ret ?_
 cases hF
 exact eR

def c151 : MC := (.seq (.reg [rg 1 (.f (.box (.t 0))), rg 2 (.f (.alloc [((.int .i64 0), (0, false)), ((.int .i64 0), (0, false))]))]) (.seq (.reg [rg 3 (.f (.alloc [((.int .i64 0), (0, false)), ((.int .i64 0), (0, false))]))]) (.seq (.reg [rg 4 (.p true (.fad (.t 1) 0)), rg 5 (.p true (.ld (.t 4) 1 false)), rg 6 (.p true (.fad (.t 3) 0)), ⟨none, none, (.f (.st (.t 6) (.t 5) 1))⟩]) (.seq (.reg [rg 7 (.p true (.fad (.t 1) 1)), rg 8 (.p true (.ld (.t 7) 1 false)), rg 9 (.p true (.fad (.t 3) 1)), ⟨none, none, (.f (.st (.t 9) (.t 8) 1))⟩]) (.seq (.reg [rg 10 (.p true (.ld (.t 3) 2 true)), ⟨none, none, (.f (.st (.t 2) (.t 10) 2))⟩]) .ret)))))
theorem c151_is : compFn Try.prog 151 = some (c151, [(.cell (.ld (.t 2) 2 true))]) := by kernel_rfl
theorem c151_ok : okFn Try.prog 151 = true := by kernel_rfl

noncomputable def F_laws_toNote (v0 : TNote) : Option (TNote) :=
 some v0
@[simp] def res_laws_toNote (r : TNote) : RV := .one (.one (.val (eNote r)))
theorem con_laws_toNote {v0 : TNote} {r : TNote} (hF : F_laws_toNote v0 = some r) : Con Try.prog 151 [eNote v0] (res_laws_toNote r) := by
 unfold F_laws_toNote at hF
 refine con_of c151_is fun N => ?_
 refine ws 0 128 ?_
 refine qf (.ptr 0 0 0) [(0, .box [AI v0.1, AI v0.2])] (by simp) ?_
 refine qf (.ptr 64 0 0) [(64, .box [AI 0, AI 0]), (0, .box [AI v0.1, AI v0.2])] (by simp) ?_
 refine r_nil ?_
 refine ws 128 192 ?_
 refine qf (.ptr 128 0 0) [(128, .box [AI 0, AI 0]), (64, .box [AI 0, AI 0]), (0, .box [AI v0.1, AI v0.2])] (by simp) ?_
 refine r_nil ?_
 refine ws 192 448 ?_
 refine qp (.ptr 0 0 0) rfl (qp (AI v0.1) rfl (qp (.ptr 128 0 0) rfl ?_))
 refine qf0 (.undef) [(128, .box [AI v0.1, AI 0]), (128, .box [AI 0, AI 0]), (64, .box [AI 0, AI 0]), (0, .box [AI v0.1, AI v0.2])] (by simp) ?_
 refine r_nil ?_
 refine ws 448 704 ?_
 refine qp (.ptr 0 0 1) rfl (qp (AI v0.2) rfl (qp (.ptr 128 0 1) rfl ?_))
 refine qf0 (.undef) [(128, .box [AI v0.1, AI v0.2]), (128, .box [AI v0.1, AI 0]), (128, .box [AI 0, AI 0]), (64, .box [AI 0, AI 0]), (0, .box [AI v0.1, AI v0.2])] (by simp) ?_
 refine r_nil ?_
 refine ws 704 832 ?_
 refine qp (.agg [AI v0.1, AI v0.2]) rfl ?_
 refine qf0 (.undef) [(64, .box [AI v0.1, AI v0.2]), (128, .box [AI v0.1, AI v0.2]), (128, .box [AI v0.1, AI 0]), (128, .box [AI 0, AI 0]), (64, .box [AI 0, AI 0]), (0, .box [AI v0.1, AI v0.2])] (by simp) ?_
 refine r_nil ?_
 refine w_ret ?_
 cases hF
 exact eR

def c46 : MC := (.seq (.reg [rg 2 (.f (.nilrow 2))]) (.seq (.reg [rg 5 (.p true (.mv (.t 0))), rg 6 (.p true (.len (.t 5))), rg 7 (.f (.mks 2 16 (.agg [(.int .i64 0), (.int .i64 0)]) (.t 6) (.t 6))), rg 3 (.p true (.mv (.t 7)))]) (.seq (.seq (.reg [rg 4 (.p true (.mv (.c (.int .i64 0))))]) (.block 0 (.loop (.seq (.seq (.reg [rg 8 (.p true (.mv (.t 4))), rg 9 (.p true (.mv (.t 0))), rg 10 (.p true (.len (.t 9))), rg 11 (.p true (.bin .lss (.t 8) (.t 10)))]) (.cond (.t 11) .skip (.exit 0))) (.seq (.block 1 (.reg [rg 14 (.p true (.mv (.t 3))), rg 15 (.p true (.mv (.t 4))), rg 16 (.p true (.mv (.t 0))), rg 17 (.p true (.mv (.t 4))), rg 18 (.p true (.iad (.t 16) (.t 17) 2)), rg 19 (.p true (.ld (.t 18) 2 true)), rg 20 (.call true 151 [(.t 19)]), rg 21 (.p true (.iad (.t 14) (.t 15) 2)), ⟨none, none, (.f (.st (.t 21) (.t 20) 2))⟩])) (.reg [rg 12 (.p true (.mv (.t 4))), rg 13 (.p true (.bin .add (.t 12) (.c (.int .i64 1)))), rg 4 (.p true (.mv (.t 13)))])))))) (.seq (.reg [rg 22 (.p true (.mv (.t 3))), rg 2 (.p true (.mv (.t 22)))]) .ret))))
theorem c46_is : compFn Try.prog 46 = some (c46, [(.tmp 2)]) := by kernel_rfl
theorem c46_ok : okFn Try.prog 46 = true := by kernel_rfl

noncomputable def F_laws_toNoteS_l0 (v0 : List TNote) (k1 : Int × (List TNote) → Option (List TNote)) : Int × (List TNote) → Option (List TNote)
 | (v1009, v1010) => (bif (decide (v1009 < (v0.length : Int))) then ((ix v0 v1009).bind fun v1011 => ((F_laws_toNote v1011).bind fun v1012 => ((ix v1010 v1009).bind fun v1013 => k1 (w64 (v1009 + 1), List.set v1010 v1009.toNat v1012))))
 else some v1010)
noncomputable def F_laws_toNoteS (v0 : List TNote) : Option (List TNote) :=
 (need (0 ≤ (v0.length : Int) ∧ (v0.length : Int) ≤ (v0.length : Int) ∧ (v0.length : Int) ≤ 9223372036854775807 ∧ 16 * (v0.length : Int) ≤ 281474976710656) (loop (F_laws_toNoteS_l0 v0) (0, List.replicate ((v0.length : Int)).toNat ((0, 0) : TNote))))
@[simp] def res_laws_toNoteS (r : List TNote) : RV := .one (.one (.row true 2 (r.map eNote)))
theorem con_laws_toNoteS {v0 : List TNote} {r : List TNote} (hF : F_laws_toNoteS v0 = some r) : Con Try.prog 46 [.sl 2 (v0.map eNote)] (res_laws_toNoteS r) := by
 unfold F_laws_toNoteS at hF
 refine con_of c46_is fun N => ?_
 refine ws 0 64 ?_
 refine qf (.sl 0 0 0) [(0, .row true 2 (([] : List Int).map (V.int .i64)))] (by simp) ?_
 refine r_nil ?_
 refine ws 64 320 ?_
 refine qp (AL 2 (v0.map eNote)) rfl (qp (AI (v0.length : Int)) (ev_len_n rfl) ?_)
 obtain ⟨g1000, hF⟩ := need_some hF
 refine qf (.sl 192 0 ((List.replicate ((v0.length : Int)).toNat ((0, 0) : TNote)).length)) [(192, .row true 2 ((List.replicate ((v0.length : Int)).toNat ((0, 0) : TNote)).map eNote)), (0, .row true 2 (([] : List Int).map (V.int .i64)))] (effT_mks rfl rfl g1000 rfl) ?_
 refine qp (.sl 192 0 ((List.replicate ((v0.length : Int)).toNat ((0, 0) : TNote)).length)) rfl ?_
 refine r_nil ?_
 refine w_seq ?_
 refine ws 320 384 ?_
 refine qp (AI 0) rfl ?_
 refine r_nil ?_
 refine w_block ?_
 refine wr (l' := [(0, AL 2 (v0.map eNote)), (3, .sl 0 0 (List.replicate ((v0.length : Int)).toNat ((0, 0) : TNote)).length), (4, AI 0)]) (L := [(0, .row true 2 ((List.replicate ((v0.length : Int)).toNat ((0, 0) : TNote)).map eNote))]) [0, 3, 4] [(192, 0)] 1 ?_
 refine w_loopF (F_laws_toNoteS_l0 v0) (fun s : Int × (List TNote) => mkS [(0, AL 2 (v0.map eNote)), (3, .sl 0 0 s.2.length), (4, AI s.1)] (fo [(0, .row true 2 (s.2.map eNote))]) 1) hF ?_
 rintro k1 ⟨v1009, v1010⟩ hF
 rw [F_laws_toNoteS_l0] at hF
 try dsimp only
 refine w_seq ?_
 refine ws 1 257 ?_
 refine qp (AI v1009) rfl (qp (AL 2 (v0.map eNote)) rfl (qp (AI (v0.length : Int)) (ev_len_n rfl) (qp (AB (decide (v1009 < (v0.length : Int)))) rfl ?_)))
 refine r_nil ?_
 refine cF hF (fun hF => ?_) fun hF => ?_
 ·
  refine w_skip ?_
  refine thenQ_n ?_
  refine w_seq ?_
  refine w_block ?_
  refine w_reg 257 833 rfl rfl ?_
  refine qp (.sl 0 0 v1010.length) rfl (qp (AI v1009) rfl (qp (AL 2 (v0.map eNote)) rfl (qp (AI v1009) rfl ?_)))
  obtain ⟨v1011, e1011, hF⟩ := bind_get hF
  refine qp (.val none (.ptr [.int .i64 v1011.1, .int .i64 v1011.2])) (ev_iad_n rfl rfl e1011 rfl) (qp (.val none (eNote v1011)) rfl ?_)
  obtain ⟨v1012, e1012, hF⟩ := bind_get hF
  refine qc (.val none (eNote v1012)) [(0, .row true 2 (v1010.map eNote))] false (con_laws_toNote e1012) c151_ok (by first | rfl | simp) rfl ?_
  obtain ⟨v1013, e1013, hF⟩ := bind_get hF
  refine qp (.ptr 0 v1009.toNat 0) (ev_iad_r rfl (by simp) rfl rfl e1013) ?_
  refine qf0 (.undef) [(0, .row true 2 ((List.set v1010 v1009.toNat v1012).map eNote)), (0, .row true 2 (v1010.map eNote))] (effT_st rfl rfl (ix_some e1013).2 rfl rfl (by rfl) (by first | rfl | simp [patch, reb, List.take_of_length_le]) (by rfl) rfl) ?_
  refine r_nil ?_
  refine blockQ_n ?_
  refine thenQ_n ?_
  refine w_reg 833 1025 rfl rfl ?_
  refine qp (AI v1009) rfl (qp (AI (w64 (v1009 + 1))) rfl (qp (AI (w64 (v1009 + 1))) rfl ?_))
  refine r_nil ?_
  refine thenQ_n ?_
  refine ar (l' := [(0, AL 2 (v0.map eNote)), (3, .sl 0 0 (List.set v1010 v1009.toNat v1012).length), (4, AI (w64 (v1009 + 1)))]) (L := [(0, .row true 2 ((List.set v1010 v1009.toNat v1012).map eNote))]) [0, 3, 4] [(0, 0)] 1 ⟨_, by rfl, hF⟩
 ·
  refine w_exit ?_
  refine thenQ_e ?_
  refine thenQ_e ?_
  refine blockQ_e ?_
  refine thenQ_n ?_
  refine ws 257 385 ?_
  refine qp (.sl 0 0 v1010.length) rfl (qp (.sl 0 0 v1010.length) rfl ?_)
  refine r_nil ?_
  refine w_ret ?_
  cases hF
  exact eR

def c242 : MC := (.seq (.reg [rg 1 (.f (.box (.t 0))), rg 2 (.f (.alloc [((.int .i64 0), (0, false)), ((.int .i64 0), (0, false))]))]) (.seq (.reg [rg 3 (.f (.alloc [((.int .i64 0), (0, false)), ((.int .i64 0), (0, false))]))]) (.seq (.reg [rg 4 (.p true (.fad (.t 1) 0)), rg 5 (.p true (.ld (.t 4) 1 false)), rg 6 (.p true (.fad (.t 3) 0)), ⟨none, none, (.f (.st (.t 6) (.t 5) 1))⟩]) (.seq (.reg [rg 7 (.p true (.fad (.t 1) 1)), rg 8 (.p true (.ld (.t 7) 1 false)), rg 9 (.p true (.fad (.t 3) 1)), ⟨none, none, (.f (.st (.t 9) (.t 8) 1))⟩]) (.seq (.reg [rg 10 (.p true (.ld (.t 3) 2 true)), ⟨none, none, (.f (.st (.t 2) (.t 10) 2))⟩]) .ret)))))
theorem c242_is : compFn Try.prog 242 = some (c242, [(.cell (.ld (.t 2) 2 true))]) := by kernel_rfl
theorem c242_ok : okFn Try.prog 242 = true := by kernel_rfl

noncomputable def F_laws_toRatio (v0 : TNote) : Option (TNote) :=
 some v0
@[simp] def res_laws_toRatio (r : TNote) : RV := .one (.one (.val (eNote r)))
theorem con_laws_toRatio {v0 : TNote} {r : TNote} (hF : F_laws_toRatio v0 = some r) : Con Try.prog 242 [eNote v0] (res_laws_toRatio r) := by
 unfold F_laws_toRatio at hF
 refine con_of c242_is fun N => ?_
 refine ws 0 128 ?_
 refine qf (.ptr 0 0 0) [(0, .box [AI v0.1, AI v0.2])] (by simp) ?_
 refine qf (.ptr 64 0 0) [(64, .box [AI 0, AI 0]), (0, .box [AI v0.1, AI v0.2])] (by simp) ?_
 refine r_nil ?_
 refine ws 128 192 ?_
 refine qf (.ptr 128 0 0) [(128, .box [AI 0, AI 0]), (64, .box [AI 0, AI 0]), (0, .box [AI v0.1, AI v0.2])] (by simp) ?_
 refine r_nil ?_
 refine ws 192 448 ?_
 refine qp (.ptr 0 0 0) rfl (qp (AI v0.1) rfl (qp (.ptr 128 0 0) rfl ?_))
 refine qf0 (.undef) [(128, .box [AI v0.1, AI 0]), (128, .box [AI 0, AI 0]), (64, .box [AI 0, AI 0]), (0, .box [AI v0.1, AI v0.2])] (by simp) ?_
 refine r_nil ?_
 refine ws 448 704 ?_
 refine qp (.ptr 0 0 1) rfl (qp (AI v0.2) rfl (qp (.ptr 128 0 1) rfl ?_))
 refine qf0 (.undef) [(128, .box [AI v0.1, AI v0.2]), (128, .box [AI v0.1, AI 0]), (128, .box [AI 0, AI 0]), (64, .box [AI 0, AI 0]), (0, .box [AI v0.1, AI v0.2])] (by simp) ?_
 refine r_nil ?_
 refine ws 704 832 ?_
 refine qp (.agg [AI v0.1, AI v0.2]) rfl ?_
 refine qf0 (.undef) [(64, .box [AI v0.1, AI v0.2]), (128, .box [AI v0.1, AI v0.2]), (128, .box [AI v0.1, AI 0]), (128, .box [AI 0, AI 0]), (64, .box [AI 0, AI 0]), (0, .box [AI v0.1, AI v0.2])] (by simp) ?_
 refine r_nil ?_
 refine w_ret ?_
 cases hF
 exact eR

def c171 : MC := (.seq (.reg [rg 2 (.f (.nilrow 2))]) (.seq (.reg [rg 5 (.p true (.mv (.t 0))), rg 6 (.p true (.len (.t 5))), rg 7 (.f (.mks 2 16 (.agg [(.int .i64 0), (.int .i64 0)]) (.t 6) (.t 6))), rg 3 (.p true (.mv (.t 7)))]) (.seq (.seq (.reg [rg 4 (.p true (.mv (.c (.int .i64 0))))]) (.block 0 (.loop (.seq (.seq (.reg [rg 8 (.p true (.mv (.t 4))), rg 9 (.p true (.mv (.t 0))), rg 10 (.p true (.len (.t 9))), rg 11 (.p true (.bin .lss (.t 8) (.t 10)))]) (.cond (.t 11) .skip (.exit 0))) (.seq (.block 1 (.reg [rg 14 (.p true (.mv (.t 3))), rg 15 (.p true (.mv (.t 4))), rg 16 (.p true (.mv (.t 0))), rg 17 (.p true (.mv (.t 4))), rg 18 (.p true (.iad (.t 16) (.t 17) 2)), rg 19 (.p true (.ld (.t 18) 2 true)), rg 20 (.call true 242 [(.t 19)]), rg 21 (.p true (.iad (.t 14) (.t 15) 2)), ⟨none, none, (.f (.st (.t 21) (.t 20) 2))⟩])) (.reg [rg 12 (.p true (.mv (.t 4))), rg 13 (.p true (.bin .add (.t 12) (.c (.int .i64 1)))), rg 4 (.p true (.mv (.t 13)))])))))) (.seq (.reg [rg 22 (.p true (.mv (.t 3))), rg 2 (.p true (.mv (.t 22)))]) .ret))))
theorem c171_is : compFn Try.prog 171 = some (c171, [(.tmp 2)]) := by kernel_rfl
theorem c171_ok : okFn Try.prog 171 = true := by kernel_rfl

noncomputable def F_laws_toRatioS_l0 (v0 : List TNote) (k1 : Int × (List TNote) → Option (List TNote)) : Int × (List TNote) → Option (List TNote)
 | (v1009, v1010) => (bif (decide (v1009 < (v0.length : Int))) then ((ix v0 v1009).bind fun v1011 => ((F_laws_toRatio v1011).bind fun v1012 => ((ix v1010 v1009).bind fun v1013 => k1 (w64 (v1009 + 1), List.set v1010 v1009.toNat v1012))))
 else some v1010)
noncomputable def F_laws_toRatioS (v0 : List TNote) : Option (List TNote) :=
 (need (0 ≤ (v0.length : Int) ∧ (v0.length : Int) ≤ (v0.length : Int) ∧ (v0.length : Int) ≤ 9223372036854775807 ∧ 16 * (v0.length : Int) ≤ 281474976710656) (loop (F_laws_toRatioS_l0 v0) (0, List.replicate ((v0.length : Int)).toNat ((0, 0) : TNote))))
@[simp] def res_laws_toRatioS (r : List TNote) : RV := .one (.one (.row true 2 (r.map eNote)))
theorem con_laws_toRatioS {v0 : List TNote} {r : List TNote} (hF : F_laws_toRatioS v0 = some r) : Con Try.prog 171 [.sl 2 (v0.map eNote)] (res_laws_toRatioS r) := by
 unfold F_laws_toRatioS at hF
 refine con_of c171_is fun N => ?_
 refine ws 0 64 ?_
 refine qf (.sl 0 0 0) [(0, .row true 2 (([] : List Int).map (V.int .i64)))] (by simp) ?_
 refine r_nil ?_
 refine ws 64 320 ?_
 refine qp (AL 2 (v0.map eNote)) rfl (qp (AI (v0.length : Int)) (ev_len_n rfl) ?_)
 obtain ⟨g1000, hF⟩ := need_some hF
 refine qf (.sl 192 0 ((List.replicate ((v0.length : Int)).toNat ((0, 0) : TNote)).length)) [(192, .row true 2 ((List.replicate ((v0.length : Int)).toNat ((0, 0) : TNote)).map eNote)), (0, .row true 2 (([] : List Int).map (V.int .i64)))] (effT_mks rfl rfl g1000 rfl) ?_
 refine qp (.sl 192 0 ((List.replicate ((v0.length : Int)).toNat ((0, 0) : TNote)).length)) rfl ?_
 refine r_nil ?_
 refine w_seq ?_
 refine ws 320 384 ?_
 refine qp (AI 0) rfl ?_
 refine r_nil ?_
 refine w_block ?_
 refine wr (l' := [(0, AL 2 (v0.map eNote)), (3, .sl 0 0 (List.replicate ((v0.length : Int)).toNat ((0, 0) : TNote)).length), (4, AI 0)]) (L := [(0, .row true 2 ((List.replicate ((v0.length : Int)).toNat ((0, 0) : TNote)).map eNote))]) [0, 3, 4] [(192, 0)] 1 ?_
 refine w_loopF (F_laws_toRatioS_l0 v0) (fun s : Int × (List TNote) => mkS [(0, AL 2 (v0.map eNote)), (3, .sl 0 0 s.2.length), (4, AI s.1)] (fo [(0, .row true 2 (s.2.map eNote))]) 1) hF ?_
 rintro k1 ⟨v1009, v1010⟩ hF
 rw [F_laws_toRatioS_l0] at hF
 try dsimp only
 refine w_seq ?_
 refine ws 1 257 ?_
 refine qp (AI v1009) rfl (qp (AL 2 (v0.map eNote)) rfl (qp (AI (v0.length : Int)) (ev_len_n rfl) (qp (AB (decide (v1009 < (v0.length : Int)))) rfl ?_)))
 refine r_nil ?_
 refine cF hF (fun hF => ?_) fun hF => ?_
 ·
  refine w_skip ?_
  refine thenQ_n ?_
  refine w_seq ?_
  refine w_block ?_
  refine w_reg 257 833 rfl rfl ?_
  refine qp (.sl 0 0 v1010.length) rfl (qp (AI v1009) rfl (qp (AL 2 (v0.map eNote)) rfl (qp (AI v1009) rfl ?_)))
  obtain ⟨v1011, e1011, hF⟩ := bind_get hF
  refine qp (.val none (.ptr [.int .i64 v1011.1, .int .i64 v1011.2])) (ev_iad_n rfl rfl e1011 rfl) (qp (.val none (eNote v1011)) rfl ?_)
  obtain ⟨v1012, e1012, hF⟩ := bind_get hF
  refine qc (.val none (eNote v1012)) [(0, .row true 2 (v1010.map eNote))] false (con_laws_toRatio e1012) c242_ok (by first | rfl | simp) rfl ?_
  obtain ⟨v1013, e1013, hF⟩ := bind_get hF
  refine qp (.ptr 0 v1009.toNat 0) (ev_iad_r rfl (by simp) rfl rfl e1013) ?_
  refine qf0 (.undef) [(0, .row true 2 ((List.set v1010 v1009.toNat v1012).map eNote)), (0, .row true 2 (v1010.map eNote))] (effT_st rfl rfl (ix_some e1013).2 rfl rfl (by rfl) (by first | rfl | simp [patch, reb, List.take_of_length_le]) (by rfl) rfl) ?_
  refine r_nil ?_
  refine blockQ_n ?_
  refine thenQ_n ?_
  refine w_reg 833 1025 rfl rfl ?_
  refine qp (AI v1009) rfl (qp (AI (w64 (v1009 + 1))) rfl (qp (AI (w64 (v1009 + 1))) rfl ?_))
  refine r_nil ?_
  refine thenQ_n ?_
  refine ar (l' := [(0, AL 2 (v0.map eNote)), (3, .sl 0 0 (List.set v1010 v1009.toNat v1012).length), (4, AI (w64 (v1009 + 1)))]) (L := [(0, .row true 2 ((List.set v1010 v1009.toNat v1012).map eNote))]) [0, 3, 4] [(0, 0)] 1 ⟨_, by rfl, hF⟩
 ·
  refine w_exit ?_
  refine thenQ_e ?_
  refine thenQ_e ?_
  refine blockQ_e ?_
  refine thenQ_n ?_
  refine ws 257 385 ?_
  refine qp (.sl 0 0 v1010.length) rfl (qp (.sl 0 0 v1010.length) rfl ?_)
  refine r_nil ?_
  refine w_ret ?_
  cases hF
  exact eR

def c68 : MC := (.seq (.reg [rg 1 (.f (.box (.t 0))), rg 2 (.f (.alloc [((.str []), (0, false)), ((.sl 0 []), (2, false))]))]) (.seq (.reg [rg 3 (.f (.alloc [((.str []), (0, false)), ((.sl 0 []), (2, false))]))]) (.seq (.reg [rg 4 (.p true (.fad (.t 1) 0)), rg 5 (.p true (.ld (.t 4) 1 false)), rg 6 (.p true (.fad (.t 3) 0)), ⟨none, none, (.f (.st (.t 6) (.t 5) 1))⟩]) (.seq (.reg [rg 7 (.p true (.fad (.t 1) 1)), rg 8 (.p true (.ld (.t 7) 1 false)), rg 9 (.call true 171 [(.t 8)]), rg 10 (.p true (.fad (.t 3) 1)), ⟨none, none, (.f (.st (.t 10) (.t 9) 1))⟩]) (.seq (.reg [rg 11 (.p true (.ld (.t 3) 2 true)), ⟨none, none, (.f (.st (.t 2) (.t 11) 2))⟩]) .ret)))))
theorem c68_is : compFn Try.prog 68 = some (c68, [(.cell (.ld (.t 2) 2 true))]) := by kernel_rfl
theorem c68_ok : okFn Try.prog 68 = true := by kernel_rfl

noncomputable def F_laws_toTuning (v0 : TTuning) : Option (TTuning) :=
 ((F_laws_toRatioS v0.2).bind fun v1000 => some (v0.1, v1000))
@[simp] def res_laws_toTuning (r : TTuning) : RV := .one (.agg [.val (.str r.1), .row true 2 (r.2.map eNote)])
theorem con_laws_toTuning {v0 : TTuning} {r : TTuning} (hF : F_laws_toTuning v0 = some r) : Con Try.prog 68 [eTuning v0] (res_laws_toTuning r) := by
 unfold F_laws_toTuning at hF
 refine con_of c68_is fun N => ?_
 refine ws 0 128 ?_
 refine qf (.ptr 0 0 0) [(0, .box [AS v0.1, AL 2 (v0.2.map eNote)])] (by simp) ?_
 refine qf (.ptr 64 0 0) [(64, .box [AS [], .sl 65 0 0]), (65, .row true 2 (([] : List Int).map (V.int .i64))), (0, .box [AS v0.1, AL 2 (v0.2.map eNote)])] (by simp) ?_
 refine r_nil ?_
 refine ws 128 192 ?_
 refine qf (.ptr 128 0 0) [(128, .box [AS [], .sl 129 0 0]), (129, .row true 2 (([] : List Int).map (V.int .i64))), (64, .box [AS [], .sl 65 0 0]), (65, .row true 2 (([] : List Int).map (V.int .i64))), (0, .box [AS v0.1, AL 2 (v0.2.map eNote)])] (by simp) ?_
 refine r_nil ?_
 refine ws 192 448 ?_
 refine qp (.ptr 0 0 0) rfl (qp (AS v0.1) rfl (qp (.ptr 128 0 0) rfl ?_))
 refine qf0 (.undef) [(128, .box [AS v0.1, .sl 129 0 0]), (128, .box [AS [], .sl 129 0 0]), (129, .row true 2 (([] : List Int).map (V.int .i64))), (64, .box [AS [], .sl 65 0 0]), (65, .row true 2 (([] : List Int).map (V.int .i64))), (0, .box [AS v0.1, AL 2 (v0.2.map eNote)])] (by simp) ?_
 refine r_nil ?_
 refine ws 448 768 ?_
 refine qp (.ptr 0 0 1) rfl (qp (AL 2 (v0.2.map eNote)) rfl ?_)
 obtain ⟨v1000, e1000, hF⟩ := bind_get hF
 refine qc (.sl 576 0 v1000.length) [(576, .row true 2 (v1000.map eNote)), (128, .box [AS v0.1, .sl 129 0 0]), (128, .box [AS [], .sl 129 0 0]), (129, .row true 2 (([] : List Int).map (V.int .i64))), (64, .box [AS [], .sl 65 0 0]), (65, .row true 2 (([] : List Int).map (V.int .i64))), (0, .box [AS v0.1, AL 2 (v0.2.map eNote)])] false (con_laws_toRatioS e1000) c171_ok (by first | rfl | simp) (by simp [res_laws_toRatioS]) ?_
 refine qp (.ptr 128 0 1) rfl ?_
 refine qf0 (.undef) [(128, .box [AS v0.1, .sl 576 0 v1000.length]), (576, .row true 2 (v1000.map eNote)), (128, .box [AS v0.1, .sl 129 0 0]), (128, .box [AS [], .sl 129 0 0]), (129, .row true 2 (([] : List Int).map (V.int .i64))), (64, .box [AS [], .sl 65 0 0]), (65, .row true 2 (([] : List Int).map (V.int .i64))), (0, .box [AS v0.1, AL 2 (v0.2.map eNote)])] (by simp) ?_
 refine r_nil ?_
 refine ws 768 896 ?_
 refine qp (.agg [AS v0.1, .sl 576 0 v1000.length]) rfl ?_
 refine qf0 (.undef) [(64, .box [AS v0.1, .sl 576 0 v1000.length]), (128, .box [AS v0.1, .sl 576 0 v1000.length]), (576, .row true 2 (v1000.map eNote)), (128, .box [AS v0.1, .sl 129 0 0]), (128, .box [AS [], .sl 129 0 0]), (129, .row true 2 (([] : List Int).map (V.int .i64))), (64, .box [AS [], .sl 65 0 0]), (65, .row true 2 (([] : List Int).map (V.int .i64))), (0, .box [AS v0.1, AL 2 (v0.2.map eNote)])] (by simp) ?_
 refine r_nil ?_
 refine w_ret ?_
 cases hF
 exact eR

def c172 : MC := (.seq (.reg [rg 1 (.f (.box (.t 0))), rg 2 (.f (.alloc [((.str []), (0, false)), ((.int .i64 0), (0, false)), ((.int .i64 0), (0, false))]))]) (.seq (.reg [rg 3 (.f (.alloc [((.str []), (0, false)), ((.int .i64 0), (0, false)), ((.int .i64 0), (0, false))]))]) (.seq (.reg [rg 4 (.p true (.fad (.t 1) 0)), rg 5 (.p true (.ld (.t 4) 1 false)), rg 6 (.p true (.fad (.t 3) 0)), ⟨none, none, (.f (.st (.t 6) (.t 5) 1))⟩]) (.seq (.reg [rg 7 (.p true (.fad (.t 1) 1)), rg 8 (.p true (.ld (.t 7) 1 false)), rg 9 (.p true (.fad (.t 3) 1)), ⟨none, none, (.f (.st (.t 9) (.t 8) 1))⟩]) (.seq (.reg [rg 10 (.p true (.fad (.t 1) 2)), rg 11 (.p true (.ld (.t 10) 1 false)), rg 12 (.p true (.fad (.t 3) 2)), ⟨none, none, (.f (.st (.t 12) (.t 11) 1))⟩]) (.seq (.reg [rg 13 (.p true (.ld (.t 3) 3 true)), ⟨none, none, (.f (.st (.t 2) (.t 13) 3))⟩]) .ret))))))
theorem c172_is : compFn Try.prog 172 = some (c172, [(.cell (.ld (.t 2) 3 true))]) := by kernel_rfl
theorem c172_ok : okFn Try.prog 172 = true := by kernel_rfl

noncomputable def F_laws_toSyllable (v0 : TSyllable) : Option (TSyllable) :=
 some v0
@[simp] def res_laws_toSyllable (r : TSyllable) : RV := .one (.one (.val (eSyllable r)))
theorem con_laws_toSyllable {v0 : TSyllable} {r : TSyllable} (hF : F_laws_toSyllable v0 = some r) : Con Try.prog 172 [eSyllable v0] (res_laws_toSyllable r) := by
 unfold F_laws_toSyllable at hF
 refine con_of c172_is fun N => ?_
 refine ws 0 128 ?_
 refine qf (.ptr 0 0 0) [(0, .box [AS v0.1, AI v0.2.1, AI v0.2.2])] (by simp) ?_
 refine qf (.ptr 64 0 0) [(64, .box [AS [], AI 0, AI 0]), (0, .box [AS v0.1, AI v0.2.1, AI v0.2.2])] (by simp) ?_
 refine r_nil ?_
 refine ws 128 192 ?_
 refine qf (.ptr 128 0 0) [(128, .box [AS [], AI 0, AI 0]), (64, .box [AS [], AI 0, AI 0]), (0, .box [AS v0.1, AI v0.2.1, AI v0.2.2])] (by simp) ?_
 refine r_nil ?_
 refine ws 192 448 ?_
 refine qp (.ptr 0 0 0) rfl (qp (AS v0.1) rfl (qp (.ptr 128 0 0) rfl ?_))
 refine qf0 (.undef) [(128, .box [AS v0.1, AI 0, AI 0]), (128, .box [AS [], AI 0, AI 0]), (64, .box [AS [], AI 0, AI 0]), (0, .box [AS v0.1, AI v0.2.1, AI v0.2.2])] (by simp) ?_
 refine r_nil ?_
 refine ws 448 704 ?_
 refine qp (.ptr 0 0 1) rfl (qp (AI v0.2.1) rfl (qp (.ptr 128 0 1) rfl ?_))
 refine qf0 (.undef) [(128, .box [AS v0.1, AI v0.2.1, AI 0]), (128, .box [AS v0.1, AI 0, AI 0]), (128, .box [AS [], AI 0, AI 0]), (64, .box [AS [], AI 0, AI 0]), (0, .box [AS v0.1, AI v0.2.1, AI v0.2.2])] (by simp) ?_
 refine r_nil ?_
 refine ws 704 960 ?_
 refine qp (.ptr 0 0 2) rfl (qp (AI v0.2.2) rfl (qp (.ptr 128 0 2) rfl ?_))
 refine qf0 (.undef) [(128, .box [AS v0.1, AI v0.2.1, AI v0.2.2]), (128, .box [AS v0.1, AI v0.2.1, AI 0]), (128, .box [AS v0.1, AI 0, AI 0]), (128, .box [AS [], AI 0, AI 0]), (64, .box [AS [], AI 0, AI 0]), (0, .box [AS v0.1, AI v0.2.1, AI v0.2.2])] (by simp) ?_
 refine r_nil ?_
 refine ws 960 1088 ?_
 refine qp (.agg [AS v0.1, AI v0.2.1, AI v0.2.2]) rfl ?_
 refine qf0 (.undef) [(64, .box [AS v0.1, AI v0.2.1, AI v0.2.2]), (128, .box [AS v0.1, AI v0.2.1, AI v0.2.2]), (128, .box [AS v0.1, AI v0.2.1, AI 0]), (128, .box [AS v0.1, AI 0, AI 0]), (128, .box [AS [], AI 0, AI 0]), (64, .box [AS [], AI 0, AI 0]), (0, .box [AS v0.1, AI v0.2.1, AI v0.2.2])] (by simp) ?_
 refine r_nil ?_
 refine w_ret ?_
 cases hF
 exact eR

def c70 : MC := (.seq (.reg [rg 2 (.f (.nilrow 3))]) (.seq (.reg [rg 5 (.p true (.mv (.t 0))), rg 6 (.p true (.len (.t 5))), rg 7 (.f (.mks 3 32 (.agg [(.str []), (.int .i64 0), (.int .i64 0)]) (.t 6) (.t 6))), rg 3 (.p true (.mv (.t 7)))]) (.seq (.seq (.reg [rg 4 (.p true (.mv (.c (.int .i64 0))))]) (.block 0 (.loop (.seq (.seq (.reg [rg 8 (.p true (.mv (.t 4))), rg 9 (.p true (.mv (.t 0))), rg 10 (.p true (.len (.t 9))), rg 11 (.p true (.bin .lss (.t 8) (.t 10)))]) (.cond (.t 11) .skip (.exit 0))) (.seq (.block 1 (.reg [rg 14 (.p true (.mv (.t 3))), rg 15 (.p true (.mv (.t 4))), rg 16 (.p true (.mv (.t 0))), rg 17 (.p true (.mv (.t 4))), rg 18 (.p true (.iad (.t 16) (.t 17) 3)), rg 19 (.p true (.ld (.t 18) 3 true)), rg 20 (.call true 172 [(.t 19)]), rg 21 (.p true (.iad (.t 14) (.t 15) 3)), ⟨none, none, (.f (.st (.t 21) (.t 20) 3))⟩])) (.reg [rg 12 (.p true (.mv (.t 4))), rg 13 (.p true (.bin .add (.t 12) (.c (.int .i64 1)))), rg 4 (.p true (.mv (.t 13)))])))))) (.seq (.reg [rg 22 (.p true (.mv (.t 3))), rg 2 (.p true (.mv (.t 22)))]) .ret))))
theorem c70_is : compFn Try.prog 70 = some (c70, [(.tmp 2)]) := by kernel_rfl
theorem c70_ok : okFn Try.prog 70 = true := by kernel_rfl

noncomputable def F_laws_toSyllableS_l0 (v0 : List TSyllable) (k1 : Int × (List TSyllable) → Option (List TSyllable)) : Int × (List TSyllable) → Option (List TSyllable)
 | (v1009, v1010) => (bif (decide (v1009 < (v0.length : Int))) then ((ix v0 v1009).bind fun v1011 => ((F_laws_toSyllable v1011).bind fun v1012 => ((ix v1010 v1009).bind fun v1013 => k1 (w64 (v1009 + 1), List.set v1010 v1009.toNat v1012))))
 else some v1010)
noncomputable def F_laws_toSyllableS (v0 : List TSyllable) : Option (List TSyllable) :=
 (need (0 ≤ (v0.length : Int) ∧ (v0.length : Int) ≤ (v0.length : Int) ∧ (v0.length : Int) ≤ 9223372036854775807 ∧ 32 * (v0.length : Int) ≤ 281474976710656) (loop (F_laws_toSyllableS_l0 v0) (0, List.replicate ((v0.length : Int)).toNat (([], 0, 0) : TSyllable))))
@[simp] def res_laws_toSyllableS (r : List TSyllable) : RV := .one (.one (.row true 3 (r.map eSyllable)))
theorem con_laws_toSyllableS {v0 : List TSyllable} {r : List TSyllable} (hF : F_laws_toSyllableS v0 = some r) : Con Try.prog 70 [.sl 3 (v0.map eSyllable)] (res_laws_toSyllableS r) := by
 unfold F_laws_toSyllableS at hF
 refine con_of c70_is fun N => ?_
 refine ws 0 64 ?_
 refine qf (.sl 0 0 0) [(0, .row true 3 (([] : List Int).map (V.int .i64)))] (by simp) ?_
 refine r_nil ?_
 refine ws 64 320 ?_
 refine qp (AL 3 (v0.map eSyllable)) rfl (qp (AI (v0.length : Int)) (ev_len_n rfl) ?_)
 obtain ⟨g1000, hF⟩ := need_some hF
 refine qf (.sl 192 0 ((List.replicate ((v0.length : Int)).toNat (([], 0, 0) : TSyllable)).length)) [(192, .row true 3 ((List.replicate ((v0.length : Int)).toNat (([], 0, 0) : TSyllable)).map eSyllable)), (0, .row true 3 (([] : List Int).map (V.int .i64)))] (effT_mks rfl rfl g1000 rfl) ?_
 refine qp (.sl 192 0 ((List.replicate ((v0.length : Int)).toNat (([], 0, 0) : TSyllable)).length)) rfl ?_
 refine r_nil ?_
 refine w_seq ?_
 refine ws 320 384 ?_
 refine qp (AI 0) rfl ?_
 refine r_nil ?_
 refine w_block ?_
 refine wr (l' := [(0, AL 3 (v0.map eSyllable)), (3, .sl 0 0 (List.replicate ((v0.length : Int)).toNat (([], 0, 0) : TSyllable)).length), (4, AI 0)]) (L := [(0, .row true 3 ((List.replicate ((v0.length : Int)).toNat (([], 0, 0) : TSyllable)).map eSyllable))]) [0, 3, 4] [(192, 0)] 1 ?_
 refine w_loopF (F_laws_toSyllableS_l0 v0) (fun s : Int × (List TSyllable) => mkS [(0, AL 3 (v0.map eSyllable)), (3, .sl 0 0 s.2.length), (4, AI s.1)] (fo [(0, .row true 3 (s.2.map eSyllable))]) 1) hF ?_
 rintro k1 ⟨v1009, v1010⟩ hF
 rw [F_laws_toSyllableS_l0] at hF
 try dsimp only
 refine w_seq ?_
 refine ws 1 257 ?_
 refine qp (AI v1009) rfl (qp (AL 3 (v0.map eSyllable)) rfl (qp (AI (v0.length : Int)) (ev_len_n rfl) (qp (AB (decide (v1009 < (v0.length : Int)))) rfl ?_)))
 refine r_nil ?_
 refine cF hF (fun hF => ?_) fun hF => ?_
 ·
  refine w_skip ?_
  refine thenQ_n ?_
  refine w_seq ?_
  refine w_block ?_
  refine w_reg 257 833 rfl rfl ?_
  refine qp (.sl 0 0 v1010.length) rfl (qp (AI v1009) rfl (qp (AL 3 (v0.map eSyllable)) rfl (qp (AI v1009) rfl ?_)))
  obtain ⟨v1011, e1011, hF⟩ := bind_get hF
  refine qp (.val none (.ptr [.str v1011.1, .int .i64 v1011.2.1, .int .i64 v1011.2.2])) (ev_iad_n rfl rfl e1011 rfl) (qp (.val none (eSyllable v1011)) rfl ?_)
  obtain ⟨v1012, e1012, hF⟩ := bind_get hF
  refine qc (.val none (eSyllable v1012)) [(0, .row true 3 (v1010.map eSyllable))] false (con_laws_toSyllable e1012) c172_ok (by first | rfl | simp) rfl ?_
  obtain ⟨v1013, e1013, hF⟩ := bind_get hF
  refine qp (.ptr 0 v1009.toNat 0) (ev_iad_r rfl (by simp) rfl rfl e1013) ?_
  refine qf0 (.undef) [(0, .row true 3 ((List.set v1010 v1009.toNat v1012).map eSyllable)), (0, .row true 3 (v1010.map eSyllable))] (effT_st rfl rfl (ix_some e1013).2 rfl rfl (by rfl) (by first | rfl | simp [patch, reb, List.take_of_length_le]) (by rfl) rfl) ?_
  refine r_nil ?_
  refine blockQ_n ?_
  refine thenQ_n ?_
  refine w_reg 833 1025 rfl rfl ?_
  refine qp (AI v1009) rfl (qp (AI (w64 (v1009 + 1))) rfl (qp (AI (w64 (v1009 + 1))) rfl ?_))
  refine r_nil ?_
  refine thenQ_n ?_
  refine ar (l' := [(0, AL 3 (v0.map eSyllable)), (3, .sl 0 0 (List.set v1010 v1009.toNat v1012).length), (4, AI (w64 (v1009 + 1)))]) (L := [(0, .row true 3 ((List.set v1010 v1009.toNat v1012).map eSyllable))]) [0, 3, 4] [(0, 0)] 1 ⟨_, by rfl, hF⟩
 ·
  refine w_exit ?_
  refine thenQ_e ?_
  refine thenQ_e ?_
  refine blockQ_e ?_
  refine thenQ_n ?_
  refine ws 257 385 ?_
  refine qp (.sl 0 0 v1010.length) rfl (qp (.sl 0 0 v1010.length) rfl ?_)
  refine r_nil ?_
  refine w_ret ?_
  cases hF
  exact eR

def c173 : MC := (.seq (.reg [rg 1 (.f (.box (.t 0))), rg 2 (.f (.alloc [((.int .i64 0), (0, false)), ((.int .i64 0), (0, false))]))]) (.seq (.reg [rg 3 (.f (.alloc [((.int .i64 0), (0, false)), ((.int .i64 0), (0, false))]))]) (.seq (.reg [rg 4 (.p true (.fad (.t 1) 0)), rg 5 (.p true (.ld (.t 4) 1 false)), rg 6 (.p true (.fad (.t 3) 0)), ⟨none, none, (.f (.st (.t 6) (.t 5) 1))⟩]) (.seq (.reg [rg 7 (.p true (.fad (.t 1) 1)), rg 8 (.p true (.ld (.t 7) 1 false)), rg 9 (.p true (.fad (.t 3) 1)), ⟨none, none, (.f (.st (.t 9) (.t 8) 1))⟩]) (.seq (.reg [rg 10 (.p true (.ld (.t 3) 2 true)), ⟨none, none, (.f (.st (.t 2) (.t 10) 2))⟩]) .ret)))))
theorem c173_is : compFn Try.prog 173 = some (c173, [(.cell (.ld (.t 2) 2 true))]) := by kernel_rfl
theorem c173_ok : okFn Try.prog 173 = true := by kernel_rfl

noncomputable def F_laws_toTempoMark (v0 : TNote) : Option (TNote) :=
 some v0
@[simp] def res_laws_toTempoMark (r : TNote) : RV := .one (.one (.val (eNote r)))
theorem con_laws_toTempoMark {v0 : TNote} {r : TNote} (hF : F_laws_toTempoMark v0 = some r) : Con Try.prog 173 [eNote v0] (res_laws_toTempoMark r) := by
 unfold F_laws_toTempoMark at hF
 refine con_of c173_is fun N => ?_
 refine ws 0 128 ?_
 refine qf (.ptr 0 0 0) [(0, .box [AI v0.1, AI v0.2])] (by simp) ?_
 refine qf (.ptr 64 0 0) [(64, .box [AI 0, AI 0]), (0, .box [AI v0.1, AI v0.2])] (by simp) ?_
 refine r_nil ?_
 refine ws 128 192 ?_
 refine qf (.ptr 128 0 0) [(128, .box [AI 0, AI 0]), (64, .box [AI 0, AI 0]), (0, .box [AI v0.1, AI v0.2])] (by simp) ?_
 refine r_nil ?_
 refine ws 192 448 ?_
 refine qp (.ptr 0 0 0) rfl (qp (AI v0.1) rfl (qp (.ptr 128 0 0) rfl ?_))
 refine qf0 (.undef) [(128, .box [AI v0.1, AI 0]), (128, .box [AI 0, AI 0]), (64, .box [AI 0, AI 0]), (0, .box [AI v0.1, AI v0.2])] (by simp) ?_
 refine r_nil ?_
 refine ws 448 704 ?_
 refine qp (.ptr 0 0 1) rfl (qp (AI v0.2) rfl (qp (.ptr 128 0 1) rfl ?_))
 refine qf0 (.undef) [(128, .box [AI v0.1, AI v0.2]), (128, .box [AI v0.1, AI 0]), (128, .box [AI 0, AI 0]), (64, .box [AI 0, AI 0]), (0, .box [AI v0.1, AI v0.2])] (by simp) ?_
 refine r_nil ?_
 refine ws 704 832 ?_
 refine qp (.agg [AI v0.1, AI v0.2]) rfl ?_
 refine qf0 (.undef) [(64, .box [AI v0.1, AI v0.2]), (128, .box [AI v0.1, AI v0.2]), (128, .box [AI v0.1, AI 0]), (128, .box [AI 0, AI 0]), (64, .box [AI 0, AI 0]), (0, .box [AI v0.1, AI v0.2])] (by simp) ?_
 refine r_nil ?_
 refine w_ret ?_
 cases hF
 exact eR

def c71 : MC := (.seq (.reg [rg 2 (.f (.nilrow 2))]) (.seq (.reg [rg 5 (.p true (.mv (.t 0))), rg 6 (.p true (.len (.t 5))), rg 7 (.f (.mks 2 16 (.agg [(.int .i64 0), (.int .i64 0)]) (.t 6) (.t 6))), rg 3 (.p true (.mv (.t 7)))]) (.seq (.seq (.reg [rg 4 (.p true (.mv (.c (.int .i64 0))))]) (.block 0 (.loop (.seq (.seq (.reg [rg 8 (.p true (.mv (.t 4))), rg 9 (.p true (.mv (.t 0))), rg 10 (.p true (.len (.t 9))), rg 11 (.p true (.bin .lss (.t 8) (.t 10)))]) (.cond (.t 11) .skip (.exit 0))) (.seq (.block 1 (.reg [rg 14 (.p true (.mv (.t 3))), rg 15 (.p true (.mv (.t 4))), rg 16 (.p true (.mv (.t 0))), rg 17 (.p true (.mv (.t 4))), rg 18 (.p true (.iad (.t 16) (.t 17) 2)), rg 19 (.p true (.ld (.t 18) 2 true)), rg 20 (.call true 173 [(.t 19)]), rg 21 (.p true (.iad (.t 14) (.t 15) 2)), ⟨none, none, (.f (.st (.t 21) (.t 20) 2))⟩])) (.reg [rg 12 (.p true (.mv (.t 4))), rg 13 (.p true (.bin .add (.t 12) (.c (.int .i64 1)))), rg 4 (.p true (.mv (.t 13)))])))))) (.seq (.reg [rg 22 (.p true (.mv (.t 3))), rg 2 (.p true (.mv (.t 22)))]) .ret))))
theorem c71_is : compFn Try.prog 71 = some (c71, [(.tmp 2)]) := by kernel_rfl
theorem c71_ok : okFn Try.prog 71 = true := by kernel_rfl

noncomputable def F_laws_toTempoMarkS_l0 (v0 : List TNote) (k1 : Int × (List TNote) → Option (List TNote)) : Int × (List TNote) → Option (List TNote)
 | (v1009, v1010) => (bif (decide (v1009 < (v0.length : Int))) then ((ix v0 v1009).bind fun v1011 => ((F_laws_toTempoMark v1011).bind fun v1012 => ((ix v1010 v1009).bind fun v1013 => k1 (w64 (v1009 + 1), List.set v1010 v1009.toNat v1012))))
 else some v1010)
noncomputable def F_laws_toTempoMarkS (v0 : List TNote) : Option (List TNote) :=
 (need (0 ≤ (v0.length : Int) ∧ (v0.length : Int) ≤ (v0.length : Int) ∧ (v0.length : Int) ≤ 9223372036854775807 ∧ 16 * (v0.length : Int) ≤ 281474976710656) (loop (F_laws_toTempoMarkS_l0 v0) (0, List.replicate ((v0.length : Int)).toNat ((0, 0) : TNote))))
@[simp] def res_laws_toTempoMarkS (r : List TNote) : RV := .one (.one (.row true 2 (r.map eNote)))
theorem con_laws_toTempoMarkS {v0 : List TNote} {r : List TNote} (hF : F_laws_toTempoMarkS v0 = some r) : Con Try.prog 71 [.sl 2 (v0.map eNote)] (res_laws_toTempoMarkS r) := by
 unfold F_laws_toTempoMarkS at hF
 refine con_of c71_is fun N => ?_
 refine ws 0 64 ?_
 refine qf (.sl 0 0 0) [(0, .row true 2 (([] : List Int).map (V.int .i64)))] (by simp) ?_
 refine r_nil ?_
 refine ws 64 320 ?_
 refine qp (AL 2 (v0.map eNote)) rfl (qp (AI (v0.length : Int)) (ev_len_n rfl) ?_)
 obtain ⟨g1000, hF⟩ := need_some hF
 refine qf (.sl 192 0 ((List.replicate ((v0.length : Int)).toNat ((0, 0) : TNote)).length)) [(192, .row true 2 ((List.replicate ((v0.length : Int)).toNat ((0, 0) : TNote)).map eNote)), (0, .row true 2 (([] : List Int).map (V.int .i64)))] (effT_mks rfl rfl g1000 rfl) ?_
 refine qp (.sl 192 0 ((List.replicate ((v0.length : Int)).toNat ((0, 0) : TNote)).length)) rfl ?_
 refine r_nil ?_
 refine w_seq ?_
 refine ws 320 384 ?_
 refine qp (AI 0) rfl ?_
 refine r_nil ?_
 refine w_block ?_
 refine wr (l' := [(0, AL 2 (v0.map eNote)), (3, .sl 0 0 (List.replicate ((v0.length : Int)).toNat ((0, 0) : TNote)).length), (4, AI 0)]) (L := [(0, .row true 2 ((List.replicate ((v0.length : Int)).toNat ((0, 0) : TNote)).map eNote))]) [0, 3, 4] [(192, 0)] 1 ?_
 refine w_loopF (F_laws_toTempoMarkS_l0 v0) (fun s : Int × (List TNote) => mkS [(0, AL 2 (v0.map eNote)), (3, .sl 0 0 s.2.length), (4, AI s.1)] (fo [(0, .row true 2 (s.2.map eNote))]) 1) hF ?_
 rintro k1 ⟨v1009, v1010⟩ hF
 rw [F_laws_toTempoMarkS_l0] at hF
 try dsimp only
 refine w_seq ?_
 refine ws 1 257 ?_
 refine qp (AI v1009) rfl (qp (AL 2 (v0.map eNote)) rfl (qp (AI (v0.length : Int)) (ev_len_n rfl) (qp (AB (decide (v1009 < (v0.length : Int)))) rfl ?_)))
 refine r_nil ?_
 refine cF hF (fun hF => ?_) fun hF => ?_
 ·
  refine w_skip ?_
  refine thenQ_n ?_
  refine w_seq ?_
  refine w_block ?_
  refine w_reg 257 833 rfl rfl ?_
  refine qp (.sl 0 0 v1010.length) rfl (qp (AI v1009) rfl (qp (AL 2 (v0.map eNote)) rfl (qp (AI v1009) rfl ?_)))
  obtain ⟨v1011, e1011, hF⟩ := bind_get hF
  refine qp (.val none (.ptr [.int .i64 v1011.1, .int .i64 v1011.2])) (ev_iad_n rfl rfl e1011 rfl) (qp (.val none (eNote v1011)) rfl ?_)
  obtain ⟨v1012, e1012, hF⟩ := bind_get hF
  refine qc (.val none (eNote v1012)) [(0, .row true 2 (v1010.map eNote))] false (con_laws_toTempoMark e1012) c173_ok (by first | rfl | simp) rfl ?_
  obtain ⟨v1013, e1013, hF⟩ := bind_get hF
  refine qp (.ptr 0 v1009.toNat 0) (ev_iad_r rfl (by simp) rfl rfl e1013) ?_
  refine qf0 (.undef) [(0, .row true 2 ((List.set v1010 v1009.toNat v1012).map eNote)), (0, .row true 2 (v1010.map eNote))] (effT_st rfl rfl (ix_some e1013).2 rfl rfl (by rfl) (by first | rfl | simp [patch, reb, List.take_of_length_le]) (by rfl) rfl) ?_
  refine r_nil ?_
  refine blockQ_n ?_
  refine thenQ_n ?_
  refine w_reg 833 1025 rfl rfl ?_
  refine qp (AI v1009) rfl (qp (AI (w64 (v1009 + 1))) rfl (qp (AI (w64 (v1009 + 1))) rfl ?_))
  refine r_nil ?_
  refine thenQ_n ?_
  refine ar (l' := [(0, AL 2 (v0.map eNote)), (3, .sl 0 0 (List.set v1010 v1009.toNat v1012).length), (4, AI (w64 (v1009 + 1)))]) (L := [(0, .row true 2 ((List.set v1010 v1009.toNat v1012).map eNote))]) [0, 3, 4] [(0, 0)] 1 ⟨_, by rfl, hF⟩
 ·
  refine w_exit ?_
  refine thenQ_e ?_
  refine thenQ_e ?_
  refine blockQ_e ?_
  refine thenQ_n ?_
  refine ws 257 385 ?_
  refine qp (.sl 0 0 v1010.length) rfl (qp (.sl 0 0 v1010.length) rfl ?_)
  refine r_nil ?_
  refine w_ret ?_
  cases hF
  exact eR

def c174 : MC := (.seq (.reg [rg 1 (.f (.box (.t 0))), rg 2 (.f (.alloc [((.str []), (0, false)), ((.int .i64 0), (0, false)), ((.int .i64 0), (0, false)), ((.int .i64 0), (0, false)), ((.int .i64 0), (0, false)), ((.int .i64 0), (0, false))]))]) (.seq (.reg [rg 3 (.f (.alloc [((.str []), (0, false)), ((.int .i64 0), (0, false)), ((.int .i64 0), (0, false)), ((.int .i64 0), (0, false)), ((.int .i64 0), (0, false)), ((.int .i64 0), (0, false))]))]) (.seq (.reg [rg 4 (.p true (.fad (.t 1) 0)), rg 5 (.p true (.ld (.t 4) 1 false)), rg 6 (.p true (.fad (.t 3) 0)), ⟨none, none, (.f (.st (.t 6) (.t 5) 1))⟩]) (.seq (.reg [rg 7 (.p true (.fad (.t 1) 1)), rg 8 (.p true (.ld (.t 7) 1 false)), rg 9 (.p true (.fad (.t 3) 1)), ⟨none, none, (.f (.st (.t 9) (.t 8) 1))⟩]) (.seq (.reg [rg 10 (.p true (.fad (.t 1) 2)), rg 11 (.p true (.ld (.t 10) 1 false)), rg 12 (.p true (.fad (.t 3) 2)), ⟨none, none, (.f (.st (.t 12) (.t 11) 1))⟩]) (.seq (.reg [rg 13 (.p true (.fad (.t 1) 3)), rg 14 (.p true (.ld (.t 13) 1 false)), rg 15 (.p true (.fad (.t 3) 3)), ⟨none, none, (.f (.st (.t 15) (.t 14) 1))⟩]) (.seq (.reg [rg 16 (.p true (.fad (.t 1) 4)), rg 17 (.p true (.ld (.t 16) 1 false)), rg 18 (.p true (.fad (.t 3) 4)), ⟨none, none, (.f (.st (.t 18) (.t 17) 1))⟩]) (.seq (.reg [rg 19 (.p true (.fad (.t 1) 5)), rg 20 (.p true (.ld (.t 19) 1 false)), rg 21 (.p true (.fad (.t 3) 5)), ⟨none, none, (.f (.st (.t 21) (.t 20) 1))⟩]) (.seq (.reg [rg 22 (.p true (.ld (.t 3) 6 true)), ⟨none, none, (.f (.st (.t 2) (.t 22) 6))⟩]) .ret)))))))))
theorem c174_is : compFn Try.prog 174 = some (c174, [(.cell (.ld (.t 2) 6 true))]) := by kernel_rfl
theorem c174_ok : okFn Try.prog 174 = true := by kernel_rfl

noncomputable def F_laws_toItem (v0 : TItem) : Option (TItem) :=
 some v0
@[simp] def res_laws_toItem (r : TItem) : RV := .one (.one (.val (eItem r)))
theorem con_laws_toItem {v0 : TItem} {r : TItem} (hF : F_laws_toItem v0 = some r) : Con Try.prog 174 [eItem v0] (res_laws_toItem r) := by
 unfold F_laws_toItem at hF
 refine con_of c174_is fun N => ?_
 refine ws 0 128 ?_
 refine qf (.ptr 0 0 0) [(0, .box [AS v0.1, AI v0.2.1, AI v0.2.2.1, AI v0.2.2.2.1, AI v0.2.2.2.2.1, AI v0.2.2.2.2.2])] (by simp) ?_
 refine qf (.ptr 64 0 0) [(64, .box [AS [], AI 0, AI 0, AI 0, AI 0, AI 0]), (0, .box [AS v0.1, AI v0.2.1, AI v0.2.2.1, AI v0.2.2.2.1, AI v0.2.2.2.2.1, AI v0.2.2.2.2.2])] (by simp) ?_
 refine r_nil ?_
 refine ws 128 192 ?_
 refine qf (.ptr 128 0 0) [(128, .box [AS [], AI 0, AI 0, AI 0, AI 0, AI 0]), (64, .box [AS [], AI 0, AI 0, AI 0, AI 0, AI 0]), (0, .box [AS v0.1, AI v0.2.1, AI v0.2.2.1, AI v0.2.2.2.1, AI v0.2.2.2.2.1, AI v0.2.2.2.2.2])] (by simp) ?_
 refine r_nil ?_
 refine ws 192 448 ?_
 refine qp (.ptr 0 0 0) rfl (qp (AS v0.1) rfl (qp (.ptr 128 0 0) rfl ?_))
 refine qf0 (.undef) [(128, .box [AS v0.1, AI 0, AI 0, AI 0, AI 0, AI 0]), (128, .box [AS [], AI 0, AI 0, AI 0, AI 0, AI 0]), (64, .box [AS [], AI 0, AI 0, AI 0, AI 0, AI 0]), (0, .box [AS v0.1, AI v0.2.1, AI v0.2.2.1, AI v0.2.2.2.1, AI v0.2.2.2.2.1, AI v0.2.2.2.2.2])] (by simp) ?_
 refine r_nil ?_
 refine ws 448 704 ?_
 refine qp (.ptr 0 0 1) rfl (qp (AI v0.2.1) rfl (qp (.ptr 128 0 1) rfl ?_))
 refine qf0 (.undef) [(128, .box [AS v0.1, AI v0.2.1, AI 0, AI 0, AI 0, AI 0]), (128, .box [AS v0.1, AI 0, AI 0, AI 0, AI 0, AI 0]), (128, .box [AS [], AI 0, AI 0, AI 0, AI 0, AI 0]), (64, .box [AS [], AI 0, AI 0, AI 0, AI 0, AI 0]), (0, .box [AS v0.1, AI v0.2.1, AI v0.2.2.1, AI v0.2.2.2.1, AI v0.2.2.2.2.1, AI v0.2.2.2.2.2])] (by simp) ?_
 refine r_nil ?_
 refine ws 704 960 ?_
 refine qp (.ptr 0 0 2) rfl (qp (AI v0.2.2.1) rfl (qp (.ptr 128 0 2) rfl ?_))
 refine qf0 (.undef) [(128, .box [AS v0.1, AI v0.2.1, AI v0.2.2.1, AI 0, AI 0, AI 0]), (128, .box [AS v0.1, AI v0.2.1, AI 0, AI 0, AI 0, AI 0]), (128, .box [AS v0.1, AI 0, AI 0, AI 0, AI 0, AI 0]), (128, .box [AS [], AI 0, AI 0, AI 0, AI 0, AI 0]), (64, .box [AS [], AI 0, AI 0, AI 0, AI 0, AI 0]), (0, .box [AS v0.1, AI v0.2.1, AI v0.2.2.1, AI v0.2.2.2.1, AI v0.2.2.2.2.1, AI v0.2.2.2.2.2])] (by simp) ?_
 refine r_nil ?_
 refine ws 960 1216 ?_
 refine qp (.ptr 0 0 3) rfl (qp (AI v0.2.2.2.1) rfl (qp (.ptr 128 0 3) rfl ?_))
 refine qf0 (.undef) [(128, .box [AS v0.1, AI v0.2.1, AI v0.2.2.1, AI v0.2.2.2.1, AI 0, AI 0]), (128, .box [AS v0.1, AI v0.2.1, AI v0.2.2.1, AI 0, AI 0, AI 0]), (128, .box [AS v0.1, AI v0.2.1, AI 0, AI 0, AI 0, AI 0]), (128, .box [AS v0.1, AI 0, AI 0, AI 0, AI 0, AI 0]), (128, .box [AS [], AI 0, AI 0, AI 0, AI 0, AI 0]), (64, .box [AS [], AI 0, AI 0, AI 0, AI 0, AI 0]), (0, .box [AS v0.1, AI v0.2.1, AI v0.2.2.1, AI v0.2.2.2.1, AI v0.2.2.2.2.1, AI v0.2.2.2.2.2])] (by simp) ?_
 refine r_nil ?_
 refine ws 1216 1472 ?_
 refine qp (.ptr 0 0 4) rfl (qp (AI v0.2.2.2.2.1) rfl (qp (.ptr 128 0 4) rfl ?_))
 refine qf0 (.undef) [(128, .box [AS v0.1, AI v0.2.1, AI v0.2.2.1, AI v0.2.2.2.1, AI v0.2.2.2.2.1, AI 0]), (128, .box [AS v0.1, AI v0.2.1, AI v0.2.2.1, AI v0.2.2.2.1, AI 0, AI 0]), (128, .box [AS v0.1, AI v0.2.1, AI v0.2.2.1, AI 0, AI 0, AI 0]), (128, .box [AS v0.1, AI v0.2.1, AI 0, AI 0, AI 0, AI 0]), (128, .box [AS v0.1, AI 0, AI 0, AI 0, AI 0, AI 0]), (128, .box [AS [], AI 0, AI 0, AI 0, AI 0, AI 0]), (64, .box [AS [], AI 0, AI 0, AI 0, AI 0, AI 0]), (0, .box [AS v0.1, AI v0.2.1, AI v0.2.2.1, AI v0.2.2.2.1, AI v0.2.2.2.2.1, AI v0.2.2.2.2.2])] (by simp) ?_
 refine r_nil ?_
 refine ws 1472 1728 ?_
 refine qp (.ptr 0 0 5) rfl (qp (AI v0.2.2.2.2.2) rfl (qp (.ptr 128 0 5) rfl ?_))
 refine qf0 (.undef) [(128, .box [AS v0.1, AI v0.2.1, AI v0.2.2.1, AI v0.2.2.2.1, AI v0.2.2.2.2.1, AI v0.2.2.2.2.2]), (128, .box [AS v0.1, AI v0.2.1, AI v0.2.2.1, AI v0.2.2.2.1, AI v0.2.2.2.2.1, AI 0]), (128, .box [AS v0.1, AI v0.2.1, AI v0.2.2.1, AI v0.2.2.2.1, AI 0, AI 0]), (128, .box [AS v0.1, AI v0.2.1, AI v0.2.2.1, AI 0, AI 0, AI 0]), (128, .box [AS v0.1, AI v0.2.1, AI 0, AI 0, AI 0, AI 0]), (128, .box [AS v0.1, AI 0, AI 0, AI 0, AI 0, AI 0]), (128, .box [AS [], AI 0, AI 0, AI 0, AI 0, AI 0]), (64, .box [AS [], AI 0, AI 0, AI 0, AI 0, AI 0]), (0, .box [AS v0.1, AI v0.2.1, AI v0.2.2.1, AI v0.2.2.2.1, AI v0.2.2.2.2.1, AI v0.2.2.2.2.2])] (by simp) ?_
 refine r_nil ?_
 refine ws 1728 1856 ?_
 refine qp (.agg [AS v0.1, AI v0.2.1, AI v0.2.2.1, AI v0.2.2.2.1, AI v0.2.2.2.2.1, AI v0.2.2.2.2.2]) rfl ?_
 refine qf0 (.undef) [(64, .box [AS v0.1, AI v0.2.1, AI v0.2.2.1, AI v0.2.2.2.1, AI v0.2.2.2.2.1, AI v0.2.2.2.2.2]), (128, .box [AS v0.1, AI v0.2.1, AI v0.2.2.1, AI v0.2.2.2.1, AI v0.2.2.2.2.1, AI v0.2.2.2.2.2]), (128, .box [AS v0.1, AI v0.2.1, AI v0.2.2.1, AI v0.2.2.2.1, AI v0.2.2.2.2.1, AI 0]), (128, .box [AS v0.1, AI v0.2.1, AI v0.2.2.1, AI v0.2.2.2.1, AI 0, AI 0]), (128, .box [AS v0.1, AI v0.2.1, AI v0.2.2.1, AI 0, AI 0, AI 0]), (128, .box [AS v0.1, AI v0.2.1, AI 0, AI 0, AI 0, AI 0]), (128, .box [AS v0.1, AI 0, AI 0, AI 0, AI 0, AI 0]), (128, .box [AS [], AI 0, AI 0, AI 0, AI 0, AI 0]), (64, .box [AS [], AI 0, AI 0, AI 0, AI 0, AI 0]), (0, .box [AS v0.1, AI v0.2.1, AI v0.2.2.1, AI v0.2.2.2.1, AI v0.2.2.2.2.1, AI v0.2.2.2.2.2])] (by simp) ?_
 refine r_nil ?_
 refine w_ret ?_
 cases hF
 exact eR

def c72 : MC := (.seq (.reg [rg 2 (.f (.nilrow 6))]) (.seq (.reg [rg 5 (.p true (.mv (.t 0))), rg 6 (.p true (.len (.t 5))), rg 7 (.f (.mks 6 56 (.agg [(.str []), (.int .i64 0), (.int .i64 0), (.int .i64 0), (.int .i64 0), (.int .i64 0)]) (.t 6) (.t 6))), rg 3 (.p true (.mv (.t 7)))]) (.seq (.seq (.reg [rg 4 (.p true (.mv (.c (.int .i64 0))))]) (.block 0 (.loop (.seq (.seq (.reg [rg 8 (.p true (.mv (.t 4))), rg 9 (.p true (.mv (.t 0))), rg 10 (.p true (.len (.t 9))), rg 11 (.p true (.bin .lss (.t 8) (.t 10)))]) (.cond (.t 11) .skip (.exit 0))) (.seq (.block 1 (.reg [rg 14 (.p true (.mv (.t 3))), rg 15 (.p true (.mv (.t 4))), rg 16 (.p true (.mv (.t 0))), rg 17 (.p true (.mv (.t 4))), rg 18 (.p true (.iad (.t 16) (.t 17) 6)), rg 19 (.p true (.ld (.t 18) 6 true)), rg 20 (.call true 174 [(.t 19)]), rg 21 (.p true (.iad (.t 14) (.t 15) 6)), ⟨none, none, (.f (.st (.t 21) (.t 20) 6))⟩])) (.reg [rg 12 (.p true (.mv (.t 4))), rg 13 (.p true (.bin .add (.t 12) (.c (.int .i64 1)))), rg 4 (.p true (.mv (.t 13)))])))))) (.seq (.reg [rg 22 (.p true (.mv (.t 3))), rg 2 (.p true (.mv (.t 22)))]) .ret))))
theorem c72_is : compFn Try.prog 72 = some (c72, [(.tmp 2)]) := by kernel_rfl
theorem c72_ok : okFn Try.prog 72 = true := by kernel_rfl

noncomputable def F_laws_toItemS_l0 (v0 : List TItem) (k1 : Int × (List TItem) → Option (List TItem)) : Int × (List TItem) → Option (List TItem)
 | (v1009, v1010) => (bif (decide (v1009 < (v0.length : Int))) then ((ix v0 v1009).bind fun v1011 => ((F_laws_toItem v1011).bind fun v1012 => ((ix v1010 v1009).bind fun v1013 => k1 (w64 (v1009 + 1), List.set v1010 v1009.toNat v1012))))
 else some v1010)
noncomputable def F_laws_toItemS (v0 : List TItem) : Option (List TItem) :=
 (need (0 ≤ (v0.length : Int) ∧ (v0.length : Int) ≤ (v0.length : Int) ∧ (v0.length : Int) ≤ 9223372036854775807 ∧ 56 * (v0.length : Int) ≤ 281474976710656) (loop (F_laws_toItemS_l0 v0) (0, List.replicate ((v0.length : Int)).toNat (([], 0, 0, 0, 0, 0) : TItem))))
@[simp] def res_laws_toItemS (r : List TItem) : RV := .one (.one (.row true 6 (r.map eItem)))
theorem con_laws_toItemS {v0 : List TItem} {r : List TItem} (hF : F_laws_toItemS v0 = some r) : Con Try.prog 72 [.sl 6 (v0.map eItem)] (res_laws_toItemS r) := by
 unfold F_laws_toItemS at hF
 refine con_of c72_is fun N => ?_
 refine ws 0 64 ?_
 refine qf (.sl 0 0 0) [(0, .row true 6 (([] : List Int).map (V.int .i64)))] (by simp) ?_
 refine r_nil ?_
 refine ws 64 320 ?_
 refine qp (AL 6 (v0.map eItem)) rfl (qp (AI (v0.length : Int)) (ev_len_n rfl) ?_)
 obtain ⟨g1000, hF⟩ := need_some hF
 refine qf (.sl 192 0 ((List.replicate ((v0.length : Int)).toNat (([], 0, 0, 0, 0, 0) : TItem)).length)) [(192, .row true 6 ((List.replicate ((v0.length : Int)).toNat (([], 0, 0, 0, 0, 0) : TItem)).map eItem)), (0, .row true 6 (([] : List Int).map (V.int .i64)))] (effT_mks rfl rfl g1000 rfl) ?_
 refine qp (.sl 192 0 ((List.replicate ((v0.length : Int)).toNat (([], 0, 0, 0, 0, 0) : TItem)).length)) rfl ?_
 refine r_nil ?_
 refine w_seq ?_
 refine ws 320 384 ?_
 refine qp (AI 0) rfl ?_
 refine r_nil ?_
 refine w_block ?_
 refine wr (l' := [(0, AL 6 (v0.map eItem)), (3, .sl 0 0 (List.replicate ((v0.length : Int)).toNat (([], 0, 0, 0, 0, 0) : TItem)).length), (4, AI 0)]) (L := [(0, .row true 6 ((List.replicate ((v0.length : Int)).toNat (([], 0, 0, 0, 0, 0) : TItem)).map eItem))]) [0, 3, 4] [(192, 0)] 1 ?_
 refine w_loopF (F_laws_toItemS_l0 v0) (fun s : Int × (List TItem) => mkS [(0, AL 6 (v0.map eItem)), (3, .sl 0 0 s.2.length), (4, AI s.1)] (fo [(0, .row true 6 (s.2.map eItem))]) 1) hF ?_
 rintro k1 ⟨v1009, v1010⟩ hF
 rw [F_laws_toItemS_l0] at hF
 try dsimp only
 refine w_seq ?_
 refine ws 1 257 ?_
 refine qp (AI v1009) rfl (qp (AL 6 (v0.map eItem)) rfl (qp (AI (v0.length : Int)) (ev_len_n rfl) (qp (AB (decide (v1009 < (v0.length : Int)))) rfl ?_)))
 refine r_nil ?_
 refine cF hF (fun hF => ?_) fun hF => ?_
 ·
  refine w_skip ?_
  refine thenQ_n ?_
  refine w_seq ?_
  refine w_block ?_
  refine w_reg 257 833 rfl rfl ?_
  refine qp (.sl 0 0 v1010.length) rfl (qp (AI v1009) rfl (qp (AL 6 (v0.map eItem)) rfl (qp (AI v1009) rfl ?_)))
  obtain ⟨v1011, e1011, hF⟩ := bind_get hF
  refine qp (.val none (.ptr [.str v1011.1, .int .i64 v1011.2.1, .int .i64 v1011.2.2.1, .int .i64 v1011.2.2.2.1, .int .i64 v1011.2.2.2.2.1, .int .i64 v1011.2.2.2.2.2])) (ev_iad_n rfl rfl e1011 rfl) (qp (.val none (eItem v1011)) rfl ?_)
  obtain ⟨v1012, e1012, hF⟩ := bind_get hF
  refine qc (.val none (eItem v1012)) [(0, .row true 6 (v1010.map eItem))] false (con_laws_toItem e1012) c174_ok (by first | rfl | simp) rfl ?_
  obtain ⟨v1013, e1013, hF⟩ := bind_get hF
  refine qp (.ptr 0 v1009.toNat 0) (ev_iad_r rfl (by simp) rfl rfl e1013) ?_
  refine qf0 (.undef) [(0, .row true 6 ((List.set v1010 v1009.toNat v1012).map eItem)), (0, .row true 6 (v1010.map eItem))] (effT_st rfl rfl (ix_some e1013).2 rfl rfl (by rfl) (by first | rfl | simp [patch, reb, List.take_of_length_le]) (by rfl) rfl) ?_
  refine r_nil ?_
  refine blockQ_n ?_
  refine thenQ_n ?_
  refine w_reg 833 1025 rfl rfl ?_
  refine qp (AI v1009) rfl (qp (AI (w64 (v1009 + 1))) rfl (qp (AI (w64 (v1009 + 1))) rfl ?_))
  refine r_nil ?_
  refine thenQ_n ?_
  refine ar (l' := [(0, AL 6 (v0.map eItem)), (3, .sl 0 0 (List.set v1010 v1009.toNat v1012).length), (4, AI (w64 (v1009 + 1)))]) (L := [(0, .row true 6 ((List.set v1010 v1009.toNat v1012).map eItem))]) [0, 3, 4] [(0, 0)] 1 ⟨_, by rfl, hF⟩
 ·
  refine w_exit ?_
  refine thenQ_e ?_
  refine thenQ_e ?_
  refine blockQ_e ?_
  refine thenQ_n ?_
  refine ws 257 385 ?_
  refine qp (.sl 0 0 v1010.length) rfl (qp (.sl 0 0 v1010.length) rfl ?_)
  refine r_nil ?_
  refine w_ret ?_
  cases hF
  exact eR

def c98 : MC := (.seq (.reg [rg 1 (.f (.box (.t 0))), rg 2 (.f (.alloc [((.int .i64 0), (0, false)), ((.str []), (0, false)), ((.str []), (0, false)), ((.int .i64 0), (0, false)), ((.int .i64 0), (0, false))]))]) (.seq (.reg [rg 3 (.f (.alloc [((.int .i64 0), (0, false)), ((.str []), (0, false)), ((.str []), (0, false)), ((.int .i64 0), (0, false)), ((.int .i64 0), (0, false))]))]) (.seq (.reg [rg 4 (.p true (.fad (.t 1) 0)), rg 5 (.p true (.ld (.t 4) 1 false)), rg 6 (.p true (.fad (.t 3) 0)), ⟨none, none, (.f (.st (.t 6) (.t 5) 1))⟩]) (.seq (.reg [rg 7 (.p true (.fad (.t 1) 1)), rg 8 (.p true (.ld (.t 7) 1 false)), rg 9 (.p true (.fad (.t 3) 1)), ⟨none, none, (.f (.st (.t 9) (.t 8) 1))⟩]) (.seq (.reg [rg 10 (.p true (.fad (.t 1) 2)), rg 11 (.p true (.ld (.t 10) 1 false)), rg 12 (.p true (.fad (.t 3) 2)), ⟨none, none, (.f (.st (.t 12) (.t 11) 1))⟩]) (.seq (.reg [rg 13 (.p true (.fad (.t 1) 3)), rg 14 (.p true (.ld (.t 13) 1 false)), rg 15 (.p true (.fad (.t 3) 3)), ⟨none, none, (.f (.st (.t 15) (.t 14) 1))⟩]) (.seq (.reg [rg 16 (.p true (.fad (.t 1) 4)), rg 17 (.p true (.ld (.t 16) 1 false)), rg 18 (.p true (.fad (.t 3) 4)), ⟨none, none, (.f (.st (.t 18) (.t 17) 1))⟩]) (.seq (.reg [rg 19 (.p true (.ld (.t 3) 5 true)), ⟨none, none, (.f (.st (.t 2) (.t 19) 5))⟩]) .ret))))))))
theorem c98_is : compFn Try.prog 98 = some (c98, [(.cell (.ld (.t 2) 5 true))]) := by kernel_rfl
theorem c98_ok : okFn Try.prog 98 = true := by kernel_rfl

noncomputable def F_laws_toLesson (v0 : TLesson) : Option (TLesson) :=
 some v0
@[simp] def res_laws_toLesson (r : TLesson) : RV := .one (.one (.val (eLesson r)))
theorem con_laws_toLesson {v0 : TLesson} {r : TLesson} (hF : F_laws_toLesson v0 = some r) : Con Try.prog 98 [eLesson v0] (res_laws_toLesson r) := by
 unfold F_laws_toLesson at hF
 refine con_of c98_is fun N => ?_
 refine ws 0 128 ?_
 refine qf (.ptr 0 0 0) [(0, .box [AI v0.1, AS v0.2.1, AS v0.2.2.1, AI v0.2.2.2.1, AI v0.2.2.2.2])] (by simp) ?_
 refine qf (.ptr 64 0 0) [(64, .box [AI 0, AS [], AS [], AI 0, AI 0]), (0, .box [AI v0.1, AS v0.2.1, AS v0.2.2.1, AI v0.2.2.2.1, AI v0.2.2.2.2])] (by simp) ?_
 refine r_nil ?_
 refine ws 128 192 ?_
 refine qf (.ptr 128 0 0) [(128, .box [AI 0, AS [], AS [], AI 0, AI 0]), (64, .box [AI 0, AS [], AS [], AI 0, AI 0]), (0, .box [AI v0.1, AS v0.2.1, AS v0.2.2.1, AI v0.2.2.2.1, AI v0.2.2.2.2])] (by simp) ?_
 refine r_nil ?_
 refine ws 192 448 ?_
 refine qp (.ptr 0 0 0) rfl (qp (AI v0.1) rfl (qp (.ptr 128 0 0) rfl ?_))
 refine qf0 (.undef) [(128, .box [AI v0.1, AS [], AS [], AI 0, AI 0]), (128, .box [AI 0, AS [], AS [], AI 0, AI 0]), (64, .box [AI 0, AS [], AS [], AI 0, AI 0]), (0, .box [AI v0.1, AS v0.2.1, AS v0.2.2.1, AI v0.2.2.2.1, AI v0.2.2.2.2])] (by simp) ?_
 refine r_nil ?_
 refine ws 448 704 ?_
 refine qp (.ptr 0 0 1) rfl (qp (AS v0.2.1) rfl (qp (.ptr 128 0 1) rfl ?_))
 refine qf0 (.undef) [(128, .box [AI v0.1, AS v0.2.1, AS [], AI 0, AI 0]), (128, .box [AI v0.1, AS [], AS [], AI 0, AI 0]), (128, .box [AI 0, AS [], AS [], AI 0, AI 0]), (64, .box [AI 0, AS [], AS [], AI 0, AI 0]), (0, .box [AI v0.1, AS v0.2.1, AS v0.2.2.1, AI v0.2.2.2.1, AI v0.2.2.2.2])] (by simp) ?_
 refine r_nil ?_
 refine ws 704 960 ?_
 refine qp (.ptr 0 0 2) rfl (qp (AS v0.2.2.1) rfl (qp (.ptr 128 0 2) rfl ?_))
 refine qf0 (.undef) [(128, .box [AI v0.1, AS v0.2.1, AS v0.2.2.1, AI 0, AI 0]), (128, .box [AI v0.1, AS v0.2.1, AS [], AI 0, AI 0]), (128, .box [AI v0.1, AS [], AS [], AI 0, AI 0]), (128, .box [AI 0, AS [], AS [], AI 0, AI 0]), (64, .box [AI 0, AS [], AS [], AI 0, AI 0]), (0, .box [AI v0.1, AS v0.2.1, AS v0.2.2.1, AI v0.2.2.2.1, AI v0.2.2.2.2])] (by simp) ?_
 refine r_nil ?_
 refine ws 960 1216 ?_
 refine qp (.ptr 0 0 3) rfl (qp (AI v0.2.2.2.1) rfl (qp (.ptr 128 0 3) rfl ?_))
 refine qf0 (.undef) [(128, .box [AI v0.1, AS v0.2.1, AS v0.2.2.1, AI v0.2.2.2.1, AI 0]), (128, .box [AI v0.1, AS v0.2.1, AS v0.2.2.1, AI 0, AI 0]), (128, .box [AI v0.1, AS v0.2.1, AS [], AI 0, AI 0]), (128, .box [AI v0.1, AS [], AS [], AI 0, AI 0]), (128, .box [AI 0, AS [], AS [], AI 0, AI 0]), (64, .box [AI 0, AS [], AS [], AI 0, AI 0]), (0, .box [AI v0.1, AS v0.2.1, AS v0.2.2.1, AI v0.2.2.2.1, AI v0.2.2.2.2])] (by simp) ?_
 refine r_nil ?_
 refine ws 1216 1472 ?_
 refine qp (.ptr 0 0 4) rfl (qp (AI v0.2.2.2.2) rfl (qp (.ptr 128 0 4) rfl ?_))
 refine qf0 (.undef) [(128, .box [AI v0.1, AS v0.2.1, AS v0.2.2.1, AI v0.2.2.2.1, AI v0.2.2.2.2]), (128, .box [AI v0.1, AS v0.2.1, AS v0.2.2.1, AI v0.2.2.2.1, AI 0]), (128, .box [AI v0.1, AS v0.2.1, AS v0.2.2.1, AI 0, AI 0]), (128, .box [AI v0.1, AS v0.2.1, AS [], AI 0, AI 0]), (128, .box [AI v0.1, AS [], AS [], AI 0, AI 0]), (128, .box [AI 0, AS [], AS [], AI 0, AI 0]), (64, .box [AI 0, AS [], AS [], AI 0, AI 0]), (0, .box [AI v0.1, AS v0.2.1, AS v0.2.2.1, AI v0.2.2.2.1, AI v0.2.2.2.2])] (by simp) ?_
 refine r_nil ?_
 refine ws 1472 1600 ?_
 refine qp (.agg [AI v0.1, AS v0.2.1, AS v0.2.2.1, AI v0.2.2.2.1, AI v0.2.2.2.2]) rfl ?_
 refine qf0 (.undef) [(64, .box [AI v0.1, AS v0.2.1, AS v0.2.2.1, AI v0.2.2.2.1, AI v0.2.2.2.2]), (128, .box [AI v0.1, AS v0.2.1, AS v0.2.2.1, AI v0.2.2.2.1, AI v0.2.2.2.2]), (128, .box [AI v0.1, AS v0.2.1, AS v0.2.2.1, AI v0.2.2.2.1, AI 0]), (128, .box [AI v0.1, AS v0.2.1, AS v0.2.2.1, AI 0, AI 0]), (128, .box [AI v0.1, AS v0.2.1, AS [], AI 0, AI 0]), (128, .box [AI v0.1, AS [], AS [], AI 0, AI 0]), (128, .box [AI 0, AS [], AS [], AI 0, AI 0]), (64, .box [AI 0, AS [], AS [], AI 0, AI 0]), (0, .box [AI v0.1, AS v0.2.1, AS v0.2.2.1, AI v0.2.2.2.1, AI v0.2.2.2.2])] (by simp) ?_
 refine r_nil ?_
 refine w_ret ?_
 cases hF
 exact eR

def c21 : MC := (.seq (.reg [rg 2 (.f (.nilrow 5))]) (.seq (.reg [rg 5 (.p true (.mv (.t 0))), rg 6 (.p true (.len (.t 5))), rg 7 (.f (.mks 5 56 (.agg [(.int .i64 0), (.str []), (.str []), (.int .i64 0), (.int .i64 0)]) (.t 6) (.t 6))), rg 3 (.p true (.mv (.t 7)))]) (.seq (.seq (.reg [rg 4 (.p true (.mv (.c (.int .i64 0))))]) (.block 0 (.loop (.seq (.seq (.reg [rg 8 (.p true (.mv (.t 4))), rg 9 (.p true (.mv (.t 0))), rg 10 (.p true (.len (.t 9))), rg 11 (.p true (.bin .lss (.t 8) (.t 10)))]) (.cond (.t 11) .skip (.exit 0))) (.seq (.block 1 (.reg [rg 14 (.p true (.mv (.t 3))), rg 15 (.p true (.mv (.t 4))), rg 16 (.p true (.mv (.t 0))), rg 17 (.p true (.mv (.t 4))), rg 18 (.p true (.iad (.t 16) (.t 17) 5)), rg 19 (.p true (.ld (.t 18) 5 true)), rg 20 (.call true 98 [(.t 19)]), rg 21 (.p true (.iad (.t 14) (.t 15) 5)), ⟨none, none, (.f (.st (.t 21) (.t 20) 5))⟩])) (.reg [rg 12 (.p true (.mv (.t 4))), rg 13 (.p true (.bin .add (.t 12) (.c (.int .i64 1)))), rg 4 (.p true (.mv (.t 13)))])))))) (.seq (.reg [rg 22 (.p true (.mv (.t 3))), rg 2 (.p true (.mv (.t 22)))]) .ret))))
theorem c21_is : compFn Try.prog 21 = some (c21, [(.tmp 2)]) := by kernel_rfl
theorem c21_ok : okFn Try.prog 21 = true := by kernel_rfl

noncomputable def F_laws_toLessonS_l0 (v0 : List TLesson) (k1 : Int × (List TLesson) → Option (List TLesson)) : Int × (List TLesson) → Option (List TLesson)
 | (v1009, v1010) => (bif (decide (v1009 < (v0.length : Int))) then ((ix v0 v1009).bind fun v1011 => ((F_laws_toLesson v1011).bind fun v1012 => ((ix v1010 v1009).bind fun v1013 => k1 (w64 (v1009 + 1), List.set v1010 v1009.toNat v1012))))
 else some v1010)
noncomputable def F_laws_toLessonS (v0 : List TLesson) : Option (List TLesson) :=
 (need (0 ≤ (v0.length : Int) ∧ (v0.length : Int) ≤ (v0.length : Int) ∧ (v0.length : Int) ≤ 9223372036854775807 ∧ 56 * (v0.length : Int) ≤ 281474976710656) (loop (F_laws_toLessonS_l0 v0) (0, List.replicate ((v0.length : Int)).toNat ((0, [], [], 0, 0) : TLesson))))
@[simp] def res_laws_toLessonS (r : List TLesson) : RV := .one (.one (.row true 5 (r.map eLesson)))
theorem con_laws_toLessonS {v0 : List TLesson} {r : List TLesson} (hF : F_laws_toLessonS v0 = some r) : Con Try.prog 21 [.sl 5 (v0.map eLesson)] (res_laws_toLessonS r) := by
 unfold F_laws_toLessonS at hF
 refine con_of c21_is fun N => ?_
 refine ws 0 64 ?_
 refine qf (.sl 0 0 0) [(0, .row true 5 (([] : List Int).map (V.int .i64)))] (by simp) ?_
 refine r_nil ?_
 refine ws 64 320 ?_
 refine qp (AL 5 (v0.map eLesson)) rfl (qp (AI (v0.length : Int)) (ev_len_n rfl) ?_)
 obtain ⟨g1000, hF⟩ := need_some hF
 refine qf (.sl 192 0 ((List.replicate ((v0.length : Int)).toNat ((0, [], [], 0, 0) : TLesson)).length)) [(192, .row true 5 ((List.replicate ((v0.length : Int)).toNat ((0, [], [], 0, 0) : TLesson)).map eLesson)), (0, .row true 5 (([] : List Int).map (V.int .i64)))] (effT_mks rfl rfl g1000 rfl) ?_
 refine qp (.sl 192 0 ((List.replicate ((v0.length : Int)).toNat ((0, [], [], 0, 0) : TLesson)).length)) rfl ?_
 refine r_nil ?_
 refine w_seq ?_
 refine ws 320 384 ?_
 refine qp (AI 0) rfl ?_
 refine r_nil ?_
 refine w_block ?_
 refine wr (l' := [(0, AL 5 (v0.map eLesson)), (3, .sl 0 0 (List.replicate ((v0.length : Int)).toNat ((0, [], [], 0, 0) : TLesson)).length), (4, AI 0)]) (L := [(0, .row true 5 ((List.replicate ((v0.length : Int)).toNat ((0, [], [], 0, 0) : TLesson)).map eLesson))]) [0, 3, 4] [(192, 0)] 1 ?_
 refine w_loopF (F_laws_toLessonS_l0 v0) (fun s : Int × (List TLesson) => mkS [(0, AL 5 (v0.map eLesson)), (3, .sl 0 0 s.2.length), (4, AI s.1)] (fo [(0, .row true 5 (s.2.map eLesson))]) 1) hF ?_
 rintro k1 ⟨v1009, v1010⟩ hF
 rw [F_laws_toLessonS_l0] at hF
 try dsimp only
 refine w_seq ?_
 refine ws 1 257 ?_
 refine qp (AI v1009) rfl (qp (AL 5 (v0.map eLesson)) rfl (qp (AI (v0.length : Int)) (ev_len_n rfl) (qp (AB (decide (v1009 < (v0.length : Int)))) rfl ?_)))
 refine r_nil ?_
 refine cF hF (fun hF => ?_) fun hF => ?_
 ·
  refine w_skip ?_
  refine thenQ_n ?_
  refine w_seq ?_
  refine w_block ?_
  refine w_reg 257 833 rfl rfl ?_
  refine qp (.sl 0 0 v1010.length) rfl (qp (AI v1009) rfl (qp (AL 5 (v0.map eLesson)) rfl (qp (AI v1009) rfl ?_)))
  obtain ⟨v1011, e1011, hF⟩ := bind_get hF
  refine qp (.val none (.ptr [.int .i64 v1011.1, .str v1011.2.1, .str v1011.2.2.1, .int .i64 v1011.2.2.2.1, .int .i64 v1011.2.2.2.2])) (ev_iad_n rfl rfl e1011 rfl) (qp (.val none (eLesson v1011)) rfl ?_)
  obtain ⟨v1012, e1012, hF⟩ := bind_get hF
  refine qc (.val none (eLesson v1012)) [(0, .row true 5 (v1010.map eLesson))] false (con_laws_toLesson e1012) c98_ok (by first | rfl | simp) rfl ?_
  obtain ⟨v1013, e1013, hF⟩ := bind_get hF
  refine qp (.ptr 0 v1009.toNat 0) (ev_iad_r rfl (by simp) rfl rfl e1013) ?_
  refine qf0 (.undef) [(0, .row true 5 ((List.set v1010 v1009.toNat v1012).map eLesson)), (0, .row true 5 (v1010.map eLesson))] (effT_st rfl rfl (ix_some e1013).2 rfl rfl (by rfl) (by first | rfl | simp [patch, reb, List.take_of_length_le]) (by rfl) rfl) ?_
  refine r_nil ?_
  refine blockQ_n ?_
  refine thenQ_n ?_
  refine w_reg 833 1025 rfl rfl ?_
  refine qp (AI v1009) rfl (qp (AI (w64 (v1009 + 1))) rfl (qp (AI (w64 (v1009 + 1))) rfl ?_))
  refine r_nil ?_
  refine thenQ_n ?_
  refine ar (l' := [(0, AL 5 (v0.map eLesson)), (3, .sl 0 0 (List.set v1010 v1009.toNat v1012).length), (4, AI (w64 (v1009 + 1)))]) (L := [(0, .row true 5 ((List.set v1010 v1009.toNat v1012).map eLesson))]) [0, 3, 4] [(0, 0)] 1 ⟨_, by rfl, hF⟩
 ·
  refine w_exit ?_
  refine thenQ_e ?_
  refine thenQ_e ?_
  refine blockQ_e ?_
  refine thenQ_n ?_
  refine ws 257 385 ?_
  refine qp (.sl 0 0 v1010.length) rfl (qp (.sl 0 0 v1010.length) rfl ?_)
  refine r_nil ?_
  refine w_ret ?_
  cases hF
  exact eR

def c99 : MC := (.seq (.reg [rg 2 (.f (.nilrow 1))]) (.seq (.reg [rg 5 (.p true (.mv (.t 0))), rg 6 (.p true (.len (.t 5))), rg 7 (.f (.mks 1 16 (.str []) (.t 6) (.t 6))), rg 3 (.p true (.mv (.t 7)))]) (.seq (.seq (.reg [rg 4 (.p true (.mv (.c (.int .i64 0))))]) (.block 0 (.loop (.seq (.seq (.reg [rg 8 (.p true (.mv (.t 4))), rg 9 (.p true (.mv (.t 0))), rg 10 (.p true (.len (.t 9))), rg 11 (.p true (.bin .lss (.t 8) (.t 10)))]) (.cond (.t 11) .skip (.exit 0))) (.seq (.block 1 (.reg [rg 14 (.p true (.mv (.t 3))), rg 15 (.p true (.mv (.t 4))), rg 16 (.p true (.mv (.t 0))), rg 17 (.p true (.mv (.t 4))), rg 18 (.p true (.iad (.t 16) (.t 17) 1)), rg 19 (.p true (.ld (.t 18) 1 false)), rg 20 (.p true (.iad (.t 14) (.t 15) 1)), ⟨none, none, (.f (.st (.t 20) (.t 19) 1))⟩])) (.reg [rg 12 (.p true (.mv (.t 4))), rg 13 (.p true (.bin .add (.t 12) (.c (.int .i64 1)))), rg 4 (.p true (.mv (.t 13)))])))))) (.seq (.reg [rg 21 (.p true (.mv (.t 3))), rg 2 (.p true (.mv (.t 21)))]) .ret))))
theorem c99_is : compFn Try.prog 99 = some (c99, [(.tmp 2)]) := by kernel_rfl
theorem c99_ok : okFn Try.prog 99 = true := by kernel_rfl

noncomputable def F_laws_toStringS_l0 (v0 : List (List UInt8)) (k1 : Int × (List (List UInt8)) → Option (List (List UInt8))) : Int × (List (List UInt8)) → Option (List (List UInt8))
 | (v1007, v1008) => (bif (decide (v1007 < (v0.length : Int))) then ((ix v0 v1007).bind fun v1009 => ((ix v1008 v1007).bind fun v1010 => k1 (w64 (v1007 + 1), List.set v1008 v1007.toNat v1009)))
 else some v1008)
noncomputable def F_laws_toStringS (v0 : List (List UInt8)) : Option (List (List UInt8)) :=
 (need (0 ≤ (v0.length : Int) ∧ (v0.length : Int) ≤ (v0.length : Int) ∧ (v0.length : Int) ≤ 9223372036854775807 ∧ 16 * (v0.length : Int) ≤ 281474976710656) (loop (F_laws_toStringS_l0 v0) (0, List.replicate ((v0.length : Int)).toNat ([] : List UInt8))))
@[simp] def res_laws_toStringS (r : List (List UInt8)) : RV := .one (.one (.row true 1 (r.map V.str)))
theorem con_laws_toStringS {v0 : List (List UInt8)} {r : List (List UInt8)} (hF : F_laws_toStringS v0 = some r) : Con Try.prog 99 [.sl 1 (v0.map V.str)] (res_laws_toStringS r) := by
 unfold F_laws_toStringS at hF
 refine con_of c99_is fun N => ?_
 refine ws 0 64 ?_
 refine qf (.sl 0 0 0) [(0, .row true 1 (([] : List Int).map (V.int .i64)))] (by simp) ?_
 refine r_nil ?_
 refine ws 64 320 ?_
 refine qp (AL 1 (v0.map V.str)) rfl (qp (AI (v0.length : Int)) (ev_len_n rfl) ?_)
 obtain ⟨g1000, hF⟩ := need_some hF
 refine qf (.sl 192 0 ((List.replicate ((v0.length : Int)).toNat ([] : List UInt8)).length)) [(192, .row true 1 ((List.replicate ((v0.length : Int)).toNat ([] : List UInt8)).map V.str)), (0, .row true 1 (([] : List Int).map (V.int .i64)))] (effT_mks rfl rfl g1000 rfl) ?_
 refine qp (.sl 192 0 ((List.replicate ((v0.length : Int)).toNat ([] : List UInt8)).length)) rfl ?_
 refine r_nil ?_
 refine w_seq ?_
 refine ws 320 384 ?_
 refine qp (AI 0) rfl ?_
 refine r_nil ?_
 refine w_block ?_
 refine wr (l' := [(0, AL 1 (v0.map V.str)), (3, .sl 0 0 (List.replicate ((v0.length : Int)).toNat ([] : List UInt8)).length), (4, AI 0)]) (L := [(0, .row true 1 ((List.replicate ((v0.length : Int)).toNat ([] : List UInt8)).map V.str))]) [0, 3, 4] [(192, 0)] 1 ?_
 refine w_loopF (F_laws_toStringS_l0 v0) (fun s : Int × (List (List UInt8)) => mkS [(0, AL 1 (v0.map V.str)), (3, .sl 0 0 s.2.length), (4, AI s.1)] (fo [(0, .row true 1 (s.2.map V.str))]) 1) hF ?_
 rintro k1 ⟨v1007, v1008⟩ hF
 rw [F_laws_toStringS_l0] at hF
 try dsimp only
 refine w_seq ?_
 refine ws 1 257 ?_
 refine qp (AI v1007) rfl (qp (AL 1 (v0.map V.str)) rfl (qp (AI (v0.length : Int)) (ev_len_n rfl) (qp (AB (decide (v1007 < (v0.length : Int)))) rfl ?_)))
 refine r_nil ?_
 refine cF hF (fun hF => ?_) fun hF => ?_
 ·
  refine w_skip ?_
  refine thenQ_n ?_
  refine w_seq ?_
  refine w_block ?_
  refine w_reg 257 769 rfl rfl ?_
  refine qp (.sl 0 0 v1008.length) rfl (qp (AI v1007) rfl (qp (AL 1 (v0.map V.str)) rfl (qp (AI v1007) rfl ?_)))
  obtain ⟨v1009, e1009, hF⟩ := bind_get hF
  refine qp (.val none (.ptr [.str v1009])) (ev_iad_n rfl rfl e1009 rfl) (qp (AS v1009) rfl ?_)
  obtain ⟨v1010, e1010, hF⟩ := bind_get hF
  refine qp (.ptr 0 v1007.toNat 0) (ev_iad_r rfl (by simp) rfl rfl e1010) ?_
  refine qf0 (.undef) [(0, .row true 1 ((List.set v1008 v1007.toNat v1009).map V.str)), (0, .row true 1 (v1008.map V.str))] (effT_st rfl rfl (ix_some e1010).2 rfl rfl (by rfl) (by first | rfl | simp [patch, reb, List.take_of_length_le]) (by rfl) rfl) ?_
  refine r_nil ?_
  refine blockQ_n ?_
  refine thenQ_n ?_
  refine w_reg 769 961 rfl rfl ?_
  refine qp (AI v1007) rfl (qp (AI (w64 (v1007 + 1))) rfl (qp (AI (w64 (v1007 + 1))) rfl ?_))
  refine r_nil ?_
  refine thenQ_n ?_
  refine ar (l' := [(0, AL 1 (v0.map V.str)), (3, .sl 0 0 (List.set v1008 v1007.toNat v1009).length), (4, AI (w64 (v1007 + 1)))]) (L := [(0, .row true 1 ((List.set v1008 v1007.toNat v1009).map V.str))]) [0, 3, 4] [(0, 0)] 1 ⟨_, by rfl, hF⟩
 ·
  refine w_exit ?_
  refine thenQ_e ?_
  refine thenQ_e ?_
  refine blockQ_e ?_
  refine thenQ_n ?_
  refine ws 257 385 ?_
  refine qp (.sl 0 0 v1008.length) rfl (qp (.sl 0 0 v1008.length) rfl ?_)
  refine r_nil ?_
  refine w_ret ?_
  cases hF
  exact eR

def c175 : MC := (.seq (.reg [rg 1 (.f (.box (.t 0))), rg 2 (.f (.alloc [((.str []), (0, false)), ((.int .i64 0), (0, false)), ((.sl 0 []), (1, false))]))]) (.seq (.reg [rg 3 (.f (.alloc [((.str []), (0, false)), ((.int .i64 0), (0, false)), ((.sl 0 []), (1, false))]))]) (.seq (.reg [rg 4 (.p true (.fad (.t 1) 0)), rg 5 (.p true (.ld (.t 4) 1 false)), rg 6 (.p true (.fad (.t 3) 0)), ⟨none, none, (.f (.st (.t 6) (.t 5) 1))⟩]) (.seq (.reg [rg 7 (.p true (.fad (.t 1) 1)), rg 8 (.p true (.ld (.t 7) 1 false)), rg 9 (.p true (.fad (.t 3) 1)), ⟨none, none, (.f (.st (.t 9) (.t 8) 1))⟩]) (.seq (.reg [rg 10 (.p true (.fad (.t 1) 2)), rg 11 (.p true (.ld (.t 10) 1 false)), rg 12 (.call true 99 [(.t 11)]), rg 13 (.p true (.fad (.t 3) 2)), ⟨none, none, (.f (.st (.t 13) (.t 12) 1))⟩]) (.seq (.reg [rg 14 (.p true (.ld (.t 3) 3 true)), ⟨none, none, (.f (.st (.t 2) (.t 14) 3))⟩]) .ret))))))
theorem c175_is : compFn Try.prog 175 = some (c175, [(.cell (.ld (.t 2) 3 true))]) := by kernel_rfl
theorem c175_ok : okFn Try.prog 175 = true := by kernel_rfl

noncomputable def F_laws_toPerson (v0 : TPerson) : Option (TPerson) :=
 ((F_laws_toStringS v0.2.2).bind fun v1000 => some (v0.1, v0.2.1, v1000))
@[simp] def res_laws_toPerson (r : TPerson) : RV := .one (.agg [.val (.str r.1), .val (.int .i64 r.2.1), .row true 1 (r.2.2.map V.str)])
theorem con_laws_toPerson {v0 : TPerson} {r : TPerson} (hF : F_laws_toPerson v0 = some r) : Con Try.prog 175 [ePerson v0] (res_laws_toPerson r) := by
 unfold F_laws_toPerson at hF
 refine con_of c175_is fun N => ?_
 refine ws 0 128 ?_
 refine qf (.ptr 0 0 0) [(0, .box [AS v0.1, AI v0.2.1, AL 1 (v0.2.2.map V.str)])] (by simp) ?_
 refine qf (.ptr 64 0 0) [(64, .box [AS [], AI 0, .sl 65 0 0]), (65, .row true 1 (([] : List Int).map (V.int .i64))), (0, .box [AS v0.1, AI v0.2.1, AL 1 (v0.2.2.map V.str)])] (by simp) ?_
 refine r_nil ?_
 refine ws 128 192 ?_
 refine qf (.ptr 128 0 0) [(128, .box [AS [], AI 0, .sl 129 0 0]), (129, .row true 1 (([] : List Int).map (V.int .i64))), (64, .box [AS [], AI 0, .sl 65 0 0]), (65, .row true 1 (([] : List Int).map (V.int .i64))), (0, .box [AS v0.1, AI v0.2.1, AL 1 (v0.2.2.map V.str)])] (by simp) ?_
 refine r_nil ?_
 refine ws 192 448 ?_
 refine qp (.ptr 0 0 0) rfl (qp (AS v0.1) rfl (qp (.ptr 128 0 0) rfl ?_))
 refine qf0 (.undef) [(128, .box [AS v0.1, AI 0, .sl 129 0 0]), (128, .box [AS [], AI 0, .sl 129 0 0]), (129, .row true 1 (([] : List Int).map (V.int .i64))), (64, .box [AS [], AI 0, .sl 65 0 0]), (65, .row true 1 (([] : List Int).map (V.int .i64))), (0, .box [AS v0.1, AI v0.2.1, AL 1 (v0.2.2.map V.str)])] (by simp) ?_
 refine r_nil ?_
 refine ws 448 704 ?_
 refine qp (.ptr 0 0 1) rfl (qp (AI v0.2.1) rfl (qp (.ptr 128 0 1) rfl ?_))
 refine qf0 (.undef) [(128, .box [AS v0.1, AI v0.2.1, .sl 129 0 0]), (128, .box [AS v0.1, AI 0, .sl 129 0 0]), (128, .box [AS [], AI 0, .sl 129 0 0]), (129, .row true 1 (([] : List Int).map (V.int .i64))), (64, .box [AS [], AI 0, .sl 65 0 0]), (65, .row true 1 (([] : List Int).map (V.int .i64))), (0, .box [AS v0.1, AI v0.2.1, AL 1 (v0.2.2.map V.str)])] (by simp) ?_
 refine r_nil ?_
 refine ws 704 1024 ?_
 refine qp (.ptr 0 0 2) rfl (qp (AL 1 (v0.2.2.map V.str)) rfl ?_)
 obtain ⟨v1000, e1000, hF⟩ := bind_get hF
 refine qc (.sl 832 0 v1000.length) [(832, .row true 1 (v1000.map V.str)), (128, .box [AS v0.1, AI v0.2.1, .sl 129 0 0]), (128, .box [AS v0.1, AI 0, .sl 129 0 0]), (128, .box [AS [], AI 0, .sl 129 0 0]), (129, .row true 1 (([] : List Int).map (V.int .i64))), (64, .box [AS [], AI 0, .sl 65 0 0]), (65, .row true 1 (([] : List Int).map (V.int .i64))), (0, .box [AS v0.1, AI v0.2.1, AL 1 (v0.2.2.map V.str)])] false (con_laws_toStringS e1000) c99_ok (by first | rfl | simp) (by simp [res_laws_toStringS]) ?_
 refine qp (.ptr 128 0 2) rfl ?_
 refine qf0 (.undef) [(128, .box [AS v0.1, AI v0.2.1, .sl 832 0 v1000.length]), (832, .row true 1 (v1000.map V.str)), (128, .box [AS v0.1, AI v0.2.1, .sl 129 0 0]), (128, .box [AS v0.1, AI 0, .sl 129 0 0]), (128, .box [AS [], AI 0, .sl 129 0 0]), (129, .row true 1 (([] : List Int).map (V.int .i64))), (64, .box [AS [], AI 0, .sl 65 0 0]), (65, .row true 1 (([] : List Int).map (V.int .i64))), (0, .box [AS v0.1, AI v0.2.1, AL 1 (v0.2.2.map V.str)])] (by simp) ?_
 refine r_nil ?_
 refine ws 1024 1152 ?_
 refine qp (.agg [AS v0.1, AI v0.2.1, .sl 832 0 v1000.length]) rfl ?_
 refine qf0 (.undef) [(64, .box [AS v0.1, AI v0.2.1, .sl 832 0 v1000.length]), (128, .box [AS v0.1, AI v0.2.1, .sl 832 0 v1000.length]), (832, .row true 1 (v1000.map V.str)), (128, .box [AS v0.1, AI v0.2.1, .sl 129 0 0]), (128, .box [AS v0.1, AI 0, .sl 129 0 0]), (128, .box [AS [], AI 0, .sl 129 0 0]), (129, .row true 1 (([] : List Int).map (V.int .i64))), (64, .box [AS [], AI 0, .sl 65 0 0]), (65, .row true 1 (([] : List Int).map (V.int .i64))), (0, .box [AS v0.1, AI v0.2.1, AL 1 (v0.2.2.map V.str)])] (by simp) ?_
 refine r_nil ?_
 refine w_ret ?_
 cases hF
 exact eR

def c73 : MC := (.seq (.reg [rg 2 (.f (.nilrow 3))]) (.seq (.reg [rg 5 (.p true (.mv (.t 0))), rg 6 (.p true (.len (.t 5))), rg 7 (.f (.mks 3 48 (.agg [(.str []), (.int .i64 0), (.sl 1 [])]) (.t 6) (.t 6))), rg 3 (.p true (.mv (.t 7)))]) (.seq (.seq (.reg [rg 4 (.p true (.mv (.c (.int .i64 0))))]) (.block 0 (.loop (.seq (.seq (.reg [rg 8 (.p true (.mv (.t 4))), rg 9 (.p true (.mv (.t 0))), rg 10 (.p true (.len (.t 9))), rg 11 (.p true (.bin .lss (.t 8) (.t 10)))]) (.cond (.t 11) .skip (.exit 0))) (.seq (.block 1 (.reg [rg 14 (.p true (.mv (.t 3))), rg 15 (.p true (.mv (.t 4))), rg 16 (.p true (.mv (.t 0))), rg 17 (.p true (.mv (.t 4))), rg 18 (.p true (.iad (.t 16) (.t 17) 3)), rg 19 (.p true (.ld (.t 18) 3 true)), rg 20 (.call true 175 [(.t 19)]), rg 21 (.p true (.iad (.t 14) (.t 15) 3)), ⟨none, none, (.f (.st (.t 21) (.t 20) 3))⟩])) (.reg [rg 12 (.p true (.mv (.t 4))), rg 13 (.p true (.bin .add (.t 12) (.c (.int .i64 1)))), rg 4 (.p true (.mv (.t 13)))])))))) (.seq (.reg [rg 22 (.p true (.mv (.t 3))), rg 2 (.p true (.mv (.t 22)))]) .ret))))
theorem c73_is : compFn Try.prog 73 = some (c73, [(.tmp 2)]) := by kernel_rfl
theorem c73_ok : okFn Try.prog 73 = true := by kernel_rfl

noncomputable def F_laws_toPersonS_l0 (v0 : List TPerson) (k1 : Int × (List TPerson) → Option (List TPerson)) : Int × (List TPerson) → Option (List TPerson)
 | (v1009, v1010) => (bif (decide (v1009 < (v0.length : Int))) then ((ix v0 v1009).bind fun v1011 => ((F_laws_toPerson v1011).bind fun v1012 => ((ix v1010 v1009).bind fun v1013 => k1 (w64 (v1009 + 1), List.set v1010 v1009.toNat v1012))))
 else some v1010)
noncomputable def F_laws_toPersonS (v0 : List TPerson) : Option (List TPerson) :=
 (need (0 ≤ (v0.length : Int) ∧ (v0.length : Int) ≤ (v0.length : Int) ∧ (v0.length : Int) ≤ 9223372036854775807 ∧ 48 * (v0.length : Int) ≤ 281474976710656) (loop (F_laws_toPersonS_l0 v0) (0, List.replicate ((v0.length : Int)).toNat (([], 0, []) : TPerson))))
@[simp] def res_laws_toPersonS (r : List TPerson) : RV := .one (.one (.row true 3 (r.map ePerson)))
theorem con_laws_toPersonS {v0 : List TPerson} {r : List TPerson} (hF : F_laws_toPersonS v0 = some r) : Con Try.prog 73 [.sl 3 (v0.map ePerson)] (res_laws_toPersonS r) := by
 unfold F_laws_toPersonS at hF
 refine con_of c73_is fun N => ?_
 refine ws 0 64 ?_
 refine qf (.sl 0 0 0) [(0, .row true 3 (([] : List Int).map (V.int .i64)))] (by simp) ?_
 refine r_nil ?_
 refine ws 64 320 ?_
 refine qp (AL 3 (v0.map ePerson)) rfl (qp (AI (v0.length : Int)) (ev_len_n rfl) ?_)
 obtain ⟨g1000, hF⟩ := need_some hF
 refine qf (.sl 192 0 ((List.replicate ((v0.length : Int)).toNat (([], 0, []) : TPerson)).length)) [(192, .row true 3 ((List.replicate ((v0.length : Int)).toNat (([], 0, []) : TPerson)).map ePerson)), (0, .row true 3 (([] : List Int).map (V.int .i64)))] (effT_mks rfl rfl g1000 rfl) ?_
 refine qp (.sl 192 0 ((List.replicate ((v0.length : Int)).toNat (([], 0, []) : TPerson)).length)) rfl ?_
 refine r_nil ?_
 refine w_seq ?_
 refine ws 320 384 ?_
 refine qp (AI 0) rfl ?_
 refine r_nil ?_
 refine w_block ?_
 refine wr (l' := [(0, AL 3 (v0.map ePerson)), (3, .sl 0 0 (List.replicate ((v0.length : Int)).toNat (([], 0, []) : TPerson)).length), (4, AI 0)]) (L := [(0, .row true 3 ((List.replicate ((v0.length : Int)).toNat (([], 0, []) : TPerson)).map ePerson))]) [0, 3, 4] [(192, 0)] 1 ?_
 refine w_loopF (F_laws_toPersonS_l0 v0) (fun s : Int × (List TPerson) => mkS [(0, AL 3 (v0.map ePerson)), (3, .sl 0 0 s.2.length), (4, AI s.1)] (fo [(0, .row true 3 (s.2.map ePerson))]) 1) hF ?_
 rintro k1 ⟨v1009, v1010⟩ hF
 rw [F_laws_toPersonS_l0] at hF
 try dsimp only
 refine w_seq ?_
 refine ws 1 257 ?_
 refine qp (AI v1009) rfl (qp (AL 3 (v0.map ePerson)) rfl (qp (AI (v0.length : Int)) (ev_len_n rfl) (qp (AB (decide (v1009 < (v0.length : Int)))) rfl ?_)))
 refine r_nil ?_
 refine cF hF (fun hF => ?_) fun hF => ?_
 ·
  refine w_skip ?_
  refine thenQ_n ?_
  refine w_seq ?_
  refine w_block ?_
  refine w_reg 257 833 rfl rfl ?_
  refine qp (.sl 0 0 v1010.length) rfl (qp (AI v1009) rfl (qp (AL 3 (v0.map ePerson)) rfl (qp (AI v1009) rfl ?_)))
  obtain ⟨v1011, e1011, hF⟩ := bind_get hF
  refine qp (.val none (.ptr [.str v1011.1, .int .i64 v1011.2.1, .sl 1 (v1011.2.2.map V.str)])) (ev_iad_n rfl rfl e1011 rfl) (qp (.val none (ePerson v1011)) rfl ?_)
  obtain ⟨v1012, e1012, hF⟩ := bind_get hF
  refine qc (.agg [AS v1012.1, AI v1012.2.1, .sl 643 0 v1012.2.2.length]) [(643, .row true 1 (v1012.2.2.map V.str)), (0, .row true 3 (v1010.map ePerson))] false (con_laws_toPerson e1012) c175_ok (by first | rfl | simp) (by simp [res_laws_toPerson]) ?_
  obtain ⟨v1013, e1013, hF⟩ := bind_get hF
  refine qp (.ptr 0 v1009.toNat 0) (ev_iad_r rfl (by simp) rfl rfl e1013) ?_
  refine qf0 (.undef) [(0, .row true 3 ((List.set v1010 v1009.toNat v1012).map ePerson)), (643, .dead), (643, .row true 1 (v1012.2.2.map V.str)), (0, .row true 3 (v1010.map ePerson))] (effT_st rfl rfl (ix_some e1013).2 rfl rfl (by rfl) (by first | rfl | simp [patch, reb, List.take_of_length_le]) (by rfl) rfl) ?_
  refine r_nil ?_
  refine blockQ_n ?_
  refine thenQ_n ?_
  refine w_reg 833 1025 rfl rfl ?_
  refine qp (AI v1009) rfl (qp (AI (w64 (v1009 + 1))) rfl (qp (AI (w64 (v1009 + 1))) rfl ?_))
  refine r_nil ?_
  refine thenQ_n ?_
  refine ar (l' := [(0, AL 3 (v0.map ePerson)), (3, .sl 0 0 (List.set v1010 v1009.toNat v1012).length), (4, AI (w64 (v1009 + 1)))]) (L := [(0, .row true 3 ((List.set v1010 v1009.toNat v1012).map ePerson))]) [0, 3, 4] [(0, 0)] 1 ⟨_, by rfl, hF⟩
 ·
  refine w_exit ?_
  refine thenQ_e ?_
  refine thenQ_e ?_
  refine blockQ_e ?_
  refine thenQ_n ?_
  refine ws 257 385 ?_
  refine qp (.sl 0 0 v1010.length) rfl (qp (.sl 0 0 v1010.length) rfl ?_)
  refine r_nil ?_
  refine w_ret ?_
  cases hF
  exact eR

end Go.Ab
