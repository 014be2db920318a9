/- Walks (printed by auto.py, a program of this session's own). -/
import Derived.Test.YtlboickhkhbffaaU2
import Derived.Test.YtlboickhkhbffaaProg
import Derived.KernelRfl
import Derived.Test.YtlboickhkhbffaaSQ
set_option linter.unusedVariables false
set_option linter.unusedSimpArgs false
set_option maxRecDepth 8000
set_option maxHeartbeats 8000000
namespace Go.Ab
open Go.RowKit Go.Proofs

def c53 : MC := (.seq (.reg [rg 2 (.f (.box (.t 0))), rg 3 (.f (.box (.t 1))), rg 4 (.p true (.mv (.c (.bool false))))]) (.seq (.seq (.reg [rg 5 (.p true (.fad (.t 2) 0)), rg 6 (.p true (.ld (.t 5) 1 false)), rg 7 (.p true (.fad (.t 3) 0)), rg 8 (.p true (.ld (.t 7) 1 false)), rg 9 (.p true (.bin .neq (.t 6) (.t 8)))]) (.cond (.t 9) (.seq (.reg [rg 4 (.p true (.mv (.c (.bool false))))]) .ret) .skip)) (.seq (.seq (.reg [rg 10 (.p true (.fad (.t 2) 1)), rg 11 (.p true (.ld (.t 10) 1 false)), rg 12 (.p true (.fad (.t 3) 1)), rg 13 (.p true (.ld (.t 12) 1 false)), rg 14 (.call true 163 [(.t 11), (.t 13)]), rg 15 (.p true (.not (.t 14)))]) (.cond (.t 15) (.seq (.reg [rg 4 (.p true (.mv (.c (.bool false))))]) .ret) .skip)) (.seq (.seq (.reg [rg 16 (.p true (.fad (.t 2) 2)), rg 17 (.p true (.ld (.t 16) 1 false)), rg 18 (.p true (.fad (.t 3) 2)), rg 19 (.p true (.ld (.t 18) 1 false)), rg 20 (.call true 163 [(.t 17), (.t 19)]), rg 21 (.p true (.not (.t 20)))]) (.cond (.t 21) (.seq (.reg [rg 4 (.p true (.mv (.c (.bool false))))]) .ret) .skip)) (.seq (.seq (.reg [rg 22 (.p true (.fad (.t 2) 3)), rg 23 (.p true (.ld (.t 22) 1 false)), rg 24 (.p true (.fad (.t 3) 3)), rg 25 (.p true (.ld (.t 24) 1 false)), rg 26 (.p true (.bin .neq (.t 23) (.t 25)))]) (.cond (.t 26) (.seq (.reg [rg 4 (.p true (.mv (.c (.bool false))))]) .ret) .skip)) (.seq (.seq (.reg [rg 27 (.p true (.fad (.t 2) 4)), rg 28 (.p true (.ld (.t 27) 1 false)), rg 29 (.p true (.fad (.t 3) 4)), rg 30 (.p true (.ld (.t 29) 1 false)), rg 31 (.p true (.bin .neq (.t 28) (.t 30)))]) (.cond (.t 31) (.seq (.reg [rg 4 (.p true (.mv (.c (.bool false))))]) .ret) .skip)) (.seq (.seq (.reg [rg 32 (.p true (.fad (.t 2) 5)), rg 33 (.p true (.ld (.t 32) 1 false)), rg 34 (.p true (.fad (.t 3) 5)), rg 35 (.p true (.ld (.t 34) 1 false)), rg 36 (.call true 85 [(.t 33), (.t 35)]), rg 37 (.p true (.not (.t 36)))]) (.cond (.t 37) (.seq (.reg [rg 4 (.p true (.mv (.c (.bool false))))]) .ret) .skip)) (.seq (.reg [rg 4 (.p true (.mv (.c (.bool true))))]) .ret))))))))
theorem c53_is : compFn Try.prog 53 = some (c53, [(.tmp 4)]) := by kernel_rfl
theorem c53_ok : okFn Try.prog 53 = true := by kernel_rfl

noncomputable def F_laws_eqRaga (v0 : TRaga) (v1 : TRaga) : Option (Bool) :=
 (bif (decide (v0.1 ≠ v1.1)) then some false
 else ((F_laws_eqInt64S v0.2.1 v1.2.1).bind fun v1000 => (bif (!v1000) then some false
 else ((F_laws_eqInt64S v0.2.2.1 v1.2.2.1).bind fun v1001 => (bif (!v1001) then some false
 else (bif (decide (v0.2.2.2.1 ≠ v1.2.2.2.1)) then some false
 else (bif (decide (v0.2.2.2.2.1 ≠ v1.2.2.2.2.1)) then some false
 else ((F_laws_eqInt64SS v0.2.2.2.2.2 v1.2.2.2.2.2).bind fun v1002 => (bif (!v1002) then some false
 else some true)))))))))
@[simp] def res_laws_eqRaga (r : Bool) : RV := .one (.one (.val (.bool r)))
theorem con_laws_eqRaga {v0 : TRaga} {v1 : TRaga} {r : Bool} (hF : F_laws_eqRaga v0 v1 = some r) : Con Try.prog 53 [eRaga v0, eRaga v1] (res_laws_eqRaga r) := by
 unfold F_laws_eqRaga at hF
 refine con_of c53_is fun N => ?_
 refine ws 0 192 ?_
 refine qf (.ptr 0 0 0) [(0, .box [AS v0.1, AL 1 (v0.2.1.map (V.int .i64)), AL 1 (v0.2.2.1.map (V.int .i64)), AI v0.2.2.2.1, AI v0.2.2.2.2.1, AL 1 (v0.2.2.2.2.2.map (eL 1 (V.int .i64)))])] (by simp) ?_
 refine qf (.ptr 64 0 0) [(64, .box [AS v1.1, AL 1 (v1.2.1.map (V.int .i64)), AL 1 (v1.2.2.1.map (V.int .i64)), AI v1.2.2.2.1, AI v1.2.2.2.2.1, AL 1 (v1.2.2.2.2.2.map (eL 1 (V.int .i64)))]), (0, .box [AS v0.1, AL 1 (v0.2.1.map (V.int .i64)), AL 1 (v0.2.2.1.map (V.int .i64)), AI v0.2.2.2.1, AI v0.2.2.2.2.1, AL 1 (v0.2.2.2.2.2.map (eL 1 (V.int .i64)))])] (by simp) ?_
 refine qp (AB false) rfl ?_
 refine r_nil ?_
 refine w_seq ?_
 refine ws 192 512 ?_
 refine qp (.ptr 0 0 0) rfl (qp (AS v0.1) rfl (qp (.ptr 64 0 0) rfl (qp (AS v1.1) rfl (qp (AB (decide (v0.1 ≠ v1.1))) rfl ?_))))
 refine r_nil ?_
 refine cF hF (fun hF => ?_) fun hF => ?_
 ·
  refine ws 512 576 ?_
  refine qp (AB false) rfl ?_
  refine r_nil ?_
  refine w_ret ?_
  refine thenQ_r ?_
  cases hF
  exact eR
 ·
  refine w_skip ?_
  refine thenQ_n ?_
  refine w_seq ?_
  refine ws 512 896 ?_
  refine qp (.ptr 0 0 1) rfl (qp (AL 1 (v0.2.1.map (V.int .i64))) rfl (qp (.ptr 64 0 1) rfl (qp (AL 1 (v1.2.1.map (V.int .i64))) rfl ?_)))
  obtain ⟨v1000, e1000, hF⟩ := bind_get hF
  refine qc (AB v1000) [(64, .box [AS v1.1, AL 1 (v1.2.1.map (V.int .i64)), AL 1 (v1.2.2.1.map (V.int .i64)), AI v1.2.2.2.1, AI v1.2.2.2.2.1, AL 1 (v1.2.2.2.2.2.map (eL 1 (V.int .i64)))]), (0, .box [AS v0.1, AL 1 (v0.2.1.map (V.int .i64)), AL 1 (v0.2.2.1.map (V.int .i64)), AI v0.2.2.2.1, AI v0.2.2.2.2.1, AL 1 (v0.2.2.2.2.2.map (eL 1 (V.int .i64)))])] false (con_laws_eqInt64S e1000) c163_ok (by first | rfl | simp) rfl ?_
  refine qp (AB (!v1000)) rfl ?_
  refine r_nil ?_
  refine cF hF (fun hF => ?_) fun hF => ?_
  ·
   refine ws 896 960 ?_
   refine qp (AB false) rfl ?_
   refine r_nil ?_
   refine w_ret ?_
   refine thenQ_r ?_
   cases hF
   exact eR
  ·
   refine w_skip ?_
   refine thenQ_n ?_
   refine w_seq ?_
   refine ws 896 1280 ?_
   refine qp (.ptr 0 0 2) rfl (qp (AL 1 (v0.2.2.1.map (V.int .i64))) rfl (qp (.ptr 64 0 2) rfl (qp (AL 1 (v1.2.2.1.map (V.int .i64))) rfl ?_)))
   obtain ⟨v1001, e1001, hF⟩ := bind_get hF
   refine qc (AB v1001) [(64, .box [AS v1.1, AL 1 (v1.2.1.map (V.int .i64)), AL 1 (v1.2.2.1.map (V.int .i64)), AI v1.2.2.2.1, AI v1.2.2.2.2.1, AL 1 (v1.2.2.2.2.2.map (eL 1 (V.int .i64)))]), (0, .box [AS v0.1, AL 1 (v0.2.1.map (V.int .i64)), AL 1 (v0.2.2.1.map (V.int .i64)), AI v0.2.2.2.1, AI v0.2.2.2.2.1, AL 1 (v0.2.2.2.2.2.map (eL 1 (V.int .i64)))])] false (con_laws_eqInt64S e1001) c163_ok (by first | rfl | simp) rfl ?_
   refine qp (AB (!v1001)) rfl ?_
   refine r_nil ?_
   refine cF hF (fun hF => ?_) fun hF => ?_
   ·
    refine ws 1280 1344 ?_
    refine qp (AB false) rfl ?_
    refine r_nil ?_
    refine w_ret ?_
    refine thenQ_r ?_
    cases hF
    exact eR
   ·
    refine w_skip ?_
    refine thenQ_n ?_
    refine w_seq ?_
    refine ws 1280 1600 ?_
    refine qp (.ptr 0 0 3) rfl (qp (AI v0.2.2.2.1) rfl (qp (.ptr 64 0 3) rfl (qp (AI v1.2.2.2.1) rfl (qp (AB (decide (v0.2.2.2.1 ≠ v1.2.2.2.1))) rfl ?_))))
    refine r_nil ?_
    refine cF hF (fun hF => ?_) fun hF => ?_
    ·
     refine ws 1600 1664 ?_
     refine qp (AB false) rfl ?_
     refine r_nil ?_
     refine w_ret ?_
     refine thenQ_r ?_
     cases hF
     exact eR
    ·
     refine w_skip ?_
     refine thenQ_n ?_
     refine w_seq ?_
     refine ws 1600 1920 ?_
     refine qp (.ptr 0 0 4) rfl (qp (AI v0.2.2.2.2.1) rfl (qp (.ptr 64 0 4) rfl (qp (AI v1.2.2.2.2.1) rfl (qp (AB (decide (v0.2.2.2.2.1 ≠ v1.2.2.2.2.1))) rfl ?_))))
     refine r_nil ?_
     refine cF hF (fun hF => ?_) fun hF => ?_
     ·
      refine ws 1920 1984 ?_
      refine qp (AB false) rfl ?_
      refine r_nil ?_
      refine w_ret ?_
      refine thenQ_r ?_
      cases hF
      exact eR
     ·
      refine w_skip ?_
      refine thenQ_n ?_
      refine w_seq ?_
      refine ws 1920 2304 ?_
      refine qp (.ptr 0 0 5) rfl (qp (AL 1 (v0.2.2.2.2.2.map (eL 1 (V.int .i64)))) rfl (qp (.ptr 64 0 5) rfl (qp (AL 1 (v1.2.2.2.2.2.map (eL 1 (V.int .i64)))) rfl ?_)))
      obtain ⟨v1002, e1002, hF⟩ := bind_get hF
      refine qc (AB v1002) [(64, .box [AS v1.1, AL 1 (v1.2.1.map (V.int .i64)), AL 1 (v1.2.2.1.map (V.int .i64)), AI v1.2.2.2.1, AI v1.2.2.2.2.1, AL 1 (v1.2.2.2.2.2.map (eL 1 (V.int .i64)))]), (0, .box [AS v0.1, AL 1 (v0.2.1.map (V.int .i64)), AL 1 (v0.2.2.1.map (V.int .i64)), AI v0.2.2.2.1, AI v0.2.2.2.2.1, AL 1 (v0.2.2.2.2.2.map (eL 1 (V.int .i64)))])] false (con_laws_eqInt64SS e1002) c85_ok (by first | rfl | simp) rfl ?_
      refine qp (AB (!v1002)) rfl ?_
      refine r_nil ?_
      refine cF hF (fun hF => ?_) fun hF => ?_
      ·
       refine ws 2304 2368 ?_
       refine qp (AB false) rfl ?_
       refine r_nil ?_
       refine w_ret ?_
       refine thenQ_r ?_
       cases hF
       exact eR
      ·
       refine w_skip ?_
       refine thenQ_n ?_
       refine ws 2304 2368 ?_
       refine qp (AB true) rfl ?_
       refine r_nil ?_
       refine w_ret ?_
       cases hF
       exact eR

def c164 : MC := (.seq (.reg [rg 2 (.f (.box (.t 0))), rg 3 (.f (.box (.t 1))), rg 4 (.p true (.mv (.c (.bool false))))]) (.seq (.seq (.reg [rg 5 (.p true (.fad (.t 2) 0)), rg 6 (.p true (.ld (.t 5) 1 false)), rg 7 (.p true (.fad (.t 3) 0)), rg 8 (.p true (.ld (.t 7) 1 false)), rg 9 (.p true (.bin .neq (.t 6) (.t 8)))]) (.cond (.t 9) (.seq (.reg [rg 4 (.p true (.mv (.c (.bool false))))]) .ret) .skip)) (.seq (.seq (.reg [rg 10 (.p true (.fad (.t 2) 1)), rg 11 (.p true (.ld (.t 10) 1 false)), rg 12 (.p true (.fad (.t 3) 1)), rg 13 (.p true (.ld (.t 12) 1 false)), rg 14 (.p true (.bin .neq (.t 11) (.t 13)))]) (.cond (.t 14) (.seq (.reg [rg 4 (.p true (.mv (.c (.bool false))))]) .ret) .skip)) (.seq (.reg [rg 4 (.p true (.mv (.c (.bool true))))]) .ret))))
theorem c164_is : compFn Try.prog 164 = some (c164, [(.tmp 4)]) := by kernel_rfl
theorem c164_ok : okFn Try.prog 164 = true := by kernel_rfl

noncomputable def F_laws_eqNote (v0 : TNote) (v1 : TNote) : Option (Bool) :=
 (bif (decide (v0.1 ≠ v1.1)) then some false
 else (bif (decide (v0.2 ≠ v1.2)) then some false
 else some true))
@[simp] def res_laws_eqNote (r : Bool) : RV := .one (.one (.val (.bool r)))
theorem con_laws_eqNote {v0 : TNote} {v1 : TNote} {r : Bool} (hF : F_laws_eqNote v0 v1 = some r) : Con Try.prog 164 [eNote v0, eNote v1] (res_laws_eqNote r) := by
 unfold F_laws_eqNote at hF
 refine con_of c164_is fun N => ?_
 refine ws 0 192 ?_
 refine qf (.ptr 0 0 0) [(0, .box [AI v0.1, AI v0.2])] (by simp) ?_
 refine qf (.ptr 64 0 0) [(64, .box [AI v1.1, AI v1.2]), (0, .box [AI v0.1, AI v0.2])] (by simp) ?_
 refine qp (AB false) rfl ?_
 refine r_nil ?_
 refine w_seq ?_
 refine ws 192 512 ?_
 refine qp (.ptr 0 0 0) rfl (qp (AI v0.1) rfl (qp (.ptr 64 0 0) rfl (qp (AI v1.1) rfl (qp (AB (decide (v0.1 ≠ v1.1))) rfl ?_))))
 refine r_nil ?_
 refine cF hF (fun hF => ?_) fun hF => ?_
 ·
  refine ws 512 576 ?_
  refine qp (AB false) rfl ?_
  refine r_nil ?_
  refine w_ret ?_
  refine thenQ_r ?_
  cases hF
  exact eR
 ·
  refine w_skip ?_
  refine thenQ_n ?_
  refine w_seq ?_
  refine ws 512 832 ?_
  refine qp (.ptr 0 0 1) rfl (qp (AI v0.2) rfl (qp (.ptr 64 0 1) rfl (qp (AI v1.2) rfl (qp (AB (decide (v0.2 ≠ v1.2))) rfl ?_))))
  refine r_nil ?_
  refine cF hF (fun hF => ?_) fun hF => ?_
  ·
   refine ws 832 896 ?_
   refine qp (AB false) rfl ?_
   refine r_nil ?_
   refine w_ret ?_
   refine thenQ_r ?_
   cases hF
   exact eR
  ·
   refine w_skip ?_
   refine thenQ_n ?_
   refine ws 832 896 ?_
   refine qp (AB true) rfl ?_
   refine r_nil ?_
   refine w_ret ?_
   cases hF
   exact eR

def c54 : MC := (.seq (.reg [rg 4 (.p true (.mv (.c (.bool false))))]) (.seq (.seq (.reg [rg 6 (.p true (.mv (.t 0))), rg 7 (.p true (.len (.t 6))), rg 8 (.p true (.mv (.t 1))), rg 9 (.p true (.len (.t 8))), rg 10 (.p true (.bin .neq (.t 7) (.t 9)))]) (.cond (.t 10) (.seq (.reg [rg 4 (.p true (.mv (.c (.bool false))))]) .ret) .skip)) (.seq (.seq (.reg [rg 5 (.p true (.mv (.c (.int .i64 0))))]) (.block 0 (.loop (.seq (.seq (.reg [rg 11 (.p true (.mv (.t 5))), rg 12 (.p true (.mv (.t 0))), rg 13 (.p true (.len (.t 12))), rg 14 (.p true (.bin .lss (.t 11) (.t 13)))]) (.cond (.t 14) .skip (.exit 0))) (.seq (.block 1 (.seq (.reg [rg 17 (.p false (.mv (.t 0))), rg 18 (.p false (.mv (.t 5))), rg 19 (.p false (.iad (.t 17) (.t 18) 2)), rg 20 (.p false (.ld (.t 19) 2 true)), rg 21 (.p false (.mv (.t 1))), rg 22 (.p false (.mv (.t 5))), rg 23 (.p false (.iad (.t 21) (.t 22) 2)), rg 24 (.p false (.ld (.t 23) 2 true)), rg 25 (.call false 164 [(.t 20), (.t 24)]), rg 26 (.p false (.not (.t 25)))]) (.cond (.t 26) (.seq (.reg [rg 4 (.p true (.mv (.c (.bool false))))]) .ret) .skip))) (.reg [rg 15 (.p true (.mv (.t 5))), rg 16 (.p true (.bin .add (.t 15) (.c (.int .i64 1)))), rg 5 (.p true (.mv (.t 16)))])))))) (.seq (.reg [rg 4 (.p true (.mv (.c (.bool true))))]) .ret))))
theorem c54_is : compFn Try.prog 54 = some (c54, [(.tmp 4)]) := by kernel_rfl
theorem c54_ok : okFn Try.prog 54 = true := by kernel_rfl

noncomputable def F_laws_eqNoteS_l0 (v0 : List TNote) (v1 : List TNote) (k0 : Int → Option (Bool)) : Int → Option (Bool)
 | v9 => (bif (decide (v9 < (v0.length : Int))) then ((ix v0 v9).bind fun v1000 => ((ix v1 v9).bind fun v1001 => ((F_laws_eqNote v1000 v1001).bind fun v1002 => (bif (!v1002) then some false
 else k0 (w64 (v9 + 1))))))
 else some true)
noncomputable def F_laws_eqNoteS (v0 : List TNote) (v1 : List TNote) : Option (Bool) :=
 (bif (decide ((v0.length : Int) ≠ (v1.length : Int))) then some false
 else loop (F_laws_eqNoteS_l0 v0 v1) 0)
@[simp] def res_laws_eqNoteS (r : Bool) : RV := .one (.one (.val (.bool r)))
theorem con_laws_eqNoteS {v0 : List TNote} {v1 : List TNote} {r : Bool} (hF : F_laws_eqNoteS v0 v1 = some r) : Con Try.prog 54 [.sl 2 (v0.map eNote), .sl 2 (v1.map eNote)] (res_laws_eqNoteS r) := by
 unfold F_laws_eqNoteS at hF
 refine con_of c54_is fun N => ?_
 refine ws 0 64 ?_
 refine qp (AB false) rfl ?_
 refine r_nil ?_
 refine w_seq ?_
 refine ws 64 384 ?_
 refine qp (AL 2 (v0.map eNote)) rfl (qp (AI (v0.length : Int)) (ev_len_n rfl) (qp (AL 2 (v1.map eNote)) rfl (qp (AI (v1.length : Int)) (ev_len_n rfl) (qp (AB (decide ((v0.length : Int) ≠ (v1.length : Int)))) rfl ?_))))
 refine r_nil ?_
 refine cF hF (fun hF => ?_) fun hF => ?_
 ·
  refine ws 384 448 ?_
  refine qp (AB false) rfl ?_
  refine r_nil ?_
  refine w_ret ?_
  refine thenQ_r ?_
  cases hF
  exact eR
 ·
  refine w_skip ?_
  refine thenQ_n ?_
  refine w_seq ?_
  refine ws 384 448 ?_
  refine qp (AI 0) rfl ?_
  refine r_nil ?_
  refine w_block ?_
  refine wr (l' := [(0, AL 2 (v0.map eNote)), (1, AL 2 (v1.map eNote)), (5, AI 0)]) (L := []) [0, 1, 5] [] 1 ?_
  refine w_loopF (F_laws_eqNoteS_l0 v0 v1) (fun s : Int => mkS [(0, AL 2 (v0.map eNote)), (1, AL 2 (v1.map eNote)), (5, AI s)] (fo []) 1) hF ?_
  rintro k0 v9 hF
  rw [F_laws_eqNoteS_l0] at hF
  try dsimp only
  refine w_seq ?_
  refine ws 1 257 ?_
  refine qp (AI v9) rfl (qp (AL 2 (v0.map eNote)) rfl (qp (AI (v0.length : Int)) (ev_len_n rfl) (qp (AB (decide (v9 < (v0.length : Int)))) rfl ?_)))
  refine r_nil ?_
  refine cF hF (fun hF => ?_) fun hF => ?_
  ·
   refine w_skip ?_
   refine thenQ_n ?_
   refine w_seq ?_
   refine w_block ?_
   refine ws 257 897 ?_
   refine qp (AL 2 (v0.map eNote)) rfl (qp (AI v9) rfl ?_)
   obtain ⟨v1000, e1000, hF⟩ := bind_get hF
   refine qp (.val none (.ptr [.int .i64 v1000.1, .int .i64 v1000.2])) (ev_iad_n rfl rfl e1000 rfl) (qp (.val none (eNote v1000)) rfl (qp (AL 2 (v1.map eNote)) rfl (qp (AI v9) rfl ?_)))
   obtain ⟨v1001, e1001, hF⟩ := bind_get hF
   refine qp (.val none (.ptr [.int .i64 v1001.1, .int .i64 v1001.2])) (ev_iad_n rfl rfl e1001 rfl) (qp (.val none (eNote v1001)) rfl ?_)
   obtain ⟨v1002, e1002, hF⟩ := bind_get hF
   refine qc (AB v1002) [] false (con_laws_eqNote e1002) c164_ok (by first | rfl | simp) rfl ?_
   refine qp (AB (!v1002)) rfl ?_
   refine r_nil ?_
   refine cF hF (fun hF => ?_) fun hF => ?_
   ·
    refine ws 897 961 ?_
    refine qp (AB false) rfl ?_
    refine r_nil ?_
    refine w_ret ?_
    refine blockQ_r ?_
    refine thenQ_r ?_
    refine thenQ_r ?_
    refine blockQ_r ?_
    refine thenQ_r ?_
    cases hF
    exact eR
   ·
    refine w_skip ?_
    refine blockQ_n ?_
    refine thenQ_n ?_
    refine w_reg 897 1089 rfl rfl ?_
    refine qp (AI v9) rfl (qp (AI (w64 (v9 + 1))) rfl (qp (AI (w64 (v9 + 1))) rfl ?_))
    refine r_nil ?_
    refine thenQ_n ?_
    refine ar (l' := [(0, AL 2 (v0.map eNote)), (1, AL 2 (v1.map eNote)), (5, AI (w64 (v9 + 1)))]) (L := []) [0, 1, 5] [] 1 ⟨_, by rfl, hF⟩
  ·
   refine w_exit ?_
   refine thenQ_e ?_
   refine thenQ_e ?_
   refine blockQ_e ?_
   refine thenQ_n ?_
   refine ws 257 321 ?_
   refine qp (AB true) rfl ?_
   refine r_nil ?_
   refine w_ret ?_
   cases hF
   exact eR

def c243 : MC := (.seq (.reg [rg 2 (.f (.box (.t 0))), rg 3 (.f (.box (.t 1))), rg 4 (.p true (.mv (.c (.bool false))))]) (.seq (.seq (.reg [rg 5 (.p true (.fad (.t 2) 0)), rg 6 (.p true (.ld (.t 5) 1 false)), rg 7 (.p true (.fad (.t 3) 0)), rg 8 (.p true (.ld (.t 7) 1 false)), rg 9 (.p true (.bin .neq (.t 6) (.t 8)))]) (.cond (.t 9) (.seq (.reg [rg 4 (.p true (.mv (.c (.bool false))))]) .ret) .skip)) (.seq (.seq (.reg [rg 10 (.p true (.fad (.t 2) 1)), rg 11 (.p true (.ld (.t 10) 1 false)), rg 12 (.p true (.fad (.t 3) 1)), rg 13 (.p true (.ld (.t 12) 1 false)), rg 14 (.p true (.bin .neq (.t 11) (.t 13)))]) (.cond (.t 14) (.seq (.reg [rg 4 (.p true (.mv (.c (.bool false))))]) .ret) .skip)) (.seq (.reg [rg 4 (.p true (.mv (.c (.bool true))))]) .ret))))
theorem c243_is : compFn Try.prog 243 = some (c243, [(.tmp 4)]) := by kernel_rfl
theorem c243_ok : okFn Try.prog 243 = true := by kernel_rfl

noncomputable def F_laws_eqRatio (v0 : TNote) (v1 : TNote) : Option (Bool) :=
 (bif (decide (v0.1 ≠ v1.1)) then some false
 else (bif (decide (v0.2 ≠ v1.2)) then some false
 else some true))
@[simp] def res_laws_eqRatio (r : Bool) : RV := .one (.one (.val (.bool r)))
theorem con_laws_eqRatio {v0 : TNote} {v1 : TNote} {r : Bool} (hF : F_laws_eqRatio v0 v1 = some r) : Con Try.prog 243 [eNote v0, eNote v1] (res_laws_eqRatio r) := by
 unfold F_laws_eqRatio at hF
 refine con_of c243_is fun N => ?_
 refine ws 0 192 ?_
 refine qf (.ptr 0 0 0) [(0, .box [AI v0.1, AI v0.2])] (by simp) ?_
 refine qf (.ptr 64 0 0) [(64, .box [AI v1.1, AI v1.2]), (0, .box [AI v0.1, AI v0.2])] (by simp) ?_
 refine qp (AB false) rfl ?_
 refine r_nil ?_
 refine w_seq ?_
 refine ws 192 512 ?_
 refine qp (.ptr 0 0 0) rfl (qp (AI v0.1) rfl (qp (.ptr 64 0 0) rfl (qp (AI v1.1) rfl (qp (AB (decide (v0.1 ≠ v1.1))) rfl ?_))))
 refine r_nil ?_
 refine cF hF (fun hF => ?_) fun hF => ?_
 ·
  refine ws 512 576 ?_
  refine qp (AB false) rfl ?_
  refine r_nil ?_
  refine w_ret ?_
  refine thenQ_r ?_
  cases hF
  exact eR
 ·
  refine w_skip ?_
  refine thenQ_n ?_
  refine w_seq ?_
  refine ws 512 832 ?_
  refine qp (.ptr 0 0 1) rfl (qp (AI v0.2) rfl (qp (.ptr 64 0 1) rfl (qp (AI v1.2) rfl (qp (AB (decide (v0.2 ≠ v1.2))) rfl ?_))))
  refine r_nil ?_
  refine cF hF (fun hF => ?_) fun hF => ?_
  ·
   refine ws 832 896 ?_
   refine qp (AB false) rfl ?_
   refine r_nil ?_
   refine w_ret ?_
   refine thenQ_r ?_
   cases hF
   exact eR
  ·
   refine w_skip ?_
   refine thenQ_n ?_
   refine ws 832 896 ?_
   refine qp (AB true) rfl ?_
   refine r_nil ?_
   refine w_ret ?_
   cases hF
   exact eR

def c180 : MC := (.seq (.reg [rg 4 (.p true (.mv (.c (.bool false))))]) (.seq (.seq (.reg [rg 6 (.p true (.mv (.t 0))), rg 7 (.p true (.len (.t 6))), rg 8 (.p true (.mv (.t 1))), rg 9 (.p true (.len (.t 8))), rg 10 (.p true (.bin .neq (.t 7) (.t 9)))]) (.cond (.t 10) (.seq (.reg [rg 4 (.p true (.mv (.c (.bool false))))]) .ret) .skip)) (.seq (.seq (.reg [rg 5 (.p true (.mv (.c (.int .i64 0))))]) (.block 0 (.loop (.seq (.seq (.reg [rg 11 (.p true (.mv (.t 5))), rg 12 (.p true (.mv (.t 0))), rg 13 (.p true (.len (.t 12))), rg 14 (.p true (.bin .lss (.t 11) (.t 13)))]) (.cond (.t 14) .skip (.exit 0))) (.seq (.block 1 (.seq (.reg [rg 17 (.p false (.mv (.t 0))), rg 18 (.p false (.mv (.t 5))), rg 19 (.p false (.iad (.t 17) (.t 18) 2)), rg 20 (.p false (.ld (.t 19) 2 true)), rg 21 (.p false (.mv (.t 1))), rg 22 (.p false (.mv (.t 5))), rg 23 (.p false (.iad (.t 21) (.t 22) 2)), rg 24 (.p false (.ld (.t 23) 2 true)), rg 25 (.call false 243 [(.t 20), (.t 24)]), rg 26 (.p false (.not (.t 25)))]) (.cond (.t 26) (.seq (.reg [rg 4 (.p true (.mv (.c (.bool false))))]) .ret) .skip))) (.reg [rg 15 (.p true (.mv (.t 5))), rg 16 (.p true (.bin .add (.t 15) (.c (.int .i64 1)))), rg 5 (.p true (.mv (.t 16)))])))))) (.seq (.reg [rg 4 (.p true (.mv (.c (.bool true))))]) .ret))))
theorem c180_is : compFn Try.prog 180 = some (c180, [(.tmp 4)]) := by kernel_rfl
theorem c180_ok : okFn Try.prog 180 = true := by kernel_rfl

noncomputable def F_laws_eqRatioS_l0 (v0 : List TNote) (v1 : List TNote) (k0 : Int → Option (Bool)) : Int → Option (Bool)
 | v9 => (bif (decide (v9 < (v0.length : Int))) then ((ix v0 v9).bind fun v1000 => ((ix v1 v9).bind fun v1001 => ((F_laws_eqRatio v1000 v1001).bind fun v1002 => (bif (!v1002) then some false
 else k0 (w64 (v9 + 1))))))
 else some true)
noncomputable def F_laws_eqRatioS (v0 : List TNote) (v1 : List TNote) : Option (Bool) :=
 (bif (decide ((v0.length : Int) ≠ (v1.length : Int))) then some false
 else loop (F_laws_eqRatioS_l0 v0 v1) 0)
@[simp] def res_laws_eqRatioS (r : Bool) : RV := .one (.one (.val (.bool r)))
theorem con_laws_eqRatioS {v0 : List TNote} {v1 : List TNote} {r : Bool} (hF : F_laws_eqRatioS v0 v1 = some r) : Con Try.prog 180 [.sl 2 (v0.map eNote), .sl 2 (v1.map eNote)] (res_laws_eqRatioS r) := by
 unfold F_laws_eqRatioS at hF
 refine con_of c180_is fun N => ?_
 refine ws 0 64 ?_
 refine qp (AB false) rfl ?_
 refine r_nil ?_
 refine w_seq ?_
 refine ws 64 384 ?_
 refine qp (AL 2 (v0.map eNote)) rfl (qp (AI (v0.length : Int)) (ev_len_n rfl) (qp (AL 2 (v1.map eNote)) rfl (qp (AI (v1.length : Int)) (ev_len_n rfl) (qp (AB (decide ((v0.length : Int) ≠ (v1.length : Int)))) rfl ?_))))
 refine r_nil ?_
 refine cF hF (fun hF => ?_) fun hF => ?_
 ·
  refine ws 384 448 ?_
  refine qp (AB false) rfl ?_
  refine r_nil ?_
  refine w_ret ?_
  refine thenQ_r ?_
  cases hF
  exact eR
 ·
  refine w_skip ?_
  refine thenQ_n ?_
  refine w_seq ?_
  refine ws 384 448 ?_
  refine qp (AI 0) rfl ?_
  refine r_nil ?_
  refine w_block ?_
  refine wr (l' := [(0, AL 2 (v0.map eNote)), (1, AL 2 (v1.map eNote)), (5, AI 0)]) (L := []) [0, 1, 5] [] 1 ?_
  refine w_loopF (F_laws_eqRatioS_l0 v0 v1) (fun s : Int => mkS [(0, AL 2 (v0.map eNote)), (1, AL 2 (v1.map eNote)), (5, AI s)] (fo []) 1) hF ?_
  rintro k0 v9 hF
  rw [F_laws_eqRatioS_l0] at hF
  try dsimp only
  refine w_seq ?_
  refine ws 1 257 ?_
  refine qp (AI v9) rfl (qp (AL 2 (v0.map eNote)) rfl (qp (AI (v0.length : Int)) (ev_len_n rfl) (qp (AB (decide (v9 < (v0.length : Int)))) rfl ?_)))
  refine r_nil ?_
  refine cF hF (fun hF => ?_) fun hF => ?_
  ·
   refine w_skip ?_
   refine thenQ_n ?_
   refine w_seq ?_
   refine w_block ?_
   refine ws 257 897 ?_
   refine qp (AL 2 (v0.map eNote)) rfl (qp (AI v9) rfl ?_)
   obtain ⟨v1000, e1000, hF⟩ := bind_get hF
   refine qp (.val none (.ptr [.int .i64 v1000.1, .int .i64 v1000.2])) (ev_iad_n rfl rfl e1000 rfl) (qp (.val none (eNote v1000)) rfl (qp (AL 2 (v1.map eNote)) rfl (qp (AI v9) rfl ?_)))
   obtain ⟨v1001, e1001, hF⟩ := bind_get hF
   refine qp (.val none (.ptr [.int .i64 v1001.1, .int .i64 v1001.2])) (ev_iad_n rfl rfl e1001 rfl) (qp (.val none (eNote v1001)) rfl ?_)
   obtain ⟨v1002, e1002, hF⟩ := bind_get hF
   refine qc (AB v1002) [] false (con_laws_eqRatio e1002) c243_ok (by first | rfl | simp) rfl ?_
   refine qp (AB (!v1002)) rfl ?_
   refine r_nil ?_
   refine cF hF (fun hF => ?_) fun hF => ?_
   ·
    refine ws 897 961 ?_
    refine qp (AB false) rfl ?_
    refine r_nil ?_
    refine w_ret ?_
    refine blockQ_r ?_
    refine thenQ_r ?_
    refine thenQ_r ?_
    refine blockQ_r ?_
    refine thenQ_r ?_
    cases hF
    exact eR
   ·
    refine w_skip ?_
    refine blockQ_n ?_
    refine thenQ_n ?_
    refine w_reg 897 1089 rfl rfl ?_
    refine qp (AI v9) rfl (qp (AI (w64 (v9 + 1))) rfl (qp (AI (w64 (v9 + 1))) rfl ?_))
    refine r_nil ?_
    refine thenQ_n ?_
    refine ar (l' := [(0, AL 2 (v0.map eNote)), (1, AL 2 (v1.map eNote)), (5, AI (w64 (v9 + 1)))]) (L := []) [0, 1, 5] [] 1 ⟨_, by rfl, hF⟩
  ·
   refine w_exit ?_
   refine thenQ_e ?_
   refine thenQ_e ?_
   refine blockQ_e ?_
   refine thenQ_n ?_
   refine ws 257 321 ?_
   refine qp (AB true) rfl ?_
   refine r_nil ?_
   refine w_ret ?_
   cases hF
   exact eR

def c84 : MC := (.seq (.reg [rg 2 (.f (.box (.t 0))), rg 3 (.f (.box (.t 1))), rg 4 (.p true (.mv (.c (.bool false))))]) (.seq (.seq (.reg [rg 5 (.p true (.fad (.t 2) 0)), rg 6 (.p true (.ld (.t 5) 1 false)), rg 7 (.p true (.fad (.t 3) 0)), rg 8 (.p true (.ld (.t 7) 1 false)), rg 9 (.p true (.bin .neq (.t 6) (.t 8)))]) (.cond (.t 9) (.seq (.reg [rg 4 (.p true (.mv (.c (.bool false))))]) .ret) .skip)) (.seq (.seq (.reg [rg 10 (.p true (.fad (.t 2) 1)), rg 11 (.p true (.ld (.t 10) 1 false)), rg 12 (.p true (.fad (.t 3) 1)), rg 13 (.p true (.ld (.t 12) 1 false)), rg 14 (.call true 180 [(.t 11), (.t 13)]), rg 15 (.p true (.not (.t 14)))]) (.cond (.t 15) (.seq (.reg [rg 4 (.p true (.mv (.c (.bool false))))]) .ret) .skip)) (.seq (.reg [rg 4 (.p true (.mv (.c (.bool true))))]) .ret))))
theorem c84_is : compFn Try.prog 84 = some (c84, [(.tmp 4)]) := by kernel_rfl
theorem c84_ok : okFn Try.prog 84 = true := by kernel_rfl

noncomputable def F_laws_eqTuning (v0 : TTuning) (v1 : TTuning) : Option (Bool) :=
 (bif (decide (v0.1 ≠ v1.1)) then some false
 else ((F_laws_eqRatioS v0.2 v1.2).bind fun v1000 => (bif (!v1000) then some false
 else some true)))
@[simp] def res_laws_eqTuning (r : Bool) : RV := .one (.one (.val (.bool r)))
theorem con_laws_eqTuning {v0 : TTuning} {v1 : TTuning} {r : Bool} (hF : F_laws_eqTuning v0 v1 = some r) : Con Try.prog 84 [eTuning v0, eTuning v1] (res_laws_eqTuning r) := by
 unfold F_laws_eqTuning at hF
 refine con_of c84_is fun N => ?_
 refine ws 0 192 ?_
 refine qf (.ptr 0 0 0) [(0, .box [AS v0.1, AL 2 (v0.2.map eNote)])] (by simp) ?_
 refine qf (.ptr 64 0 0) [(64, .box [AS v1.1, AL 2 (v1.2.map eNote)]), (0, .box [AS v0.1, AL 2 (v0.2.map eNote)])] (by simp) ?_
 refine qp (AB false) rfl ?_
 refine r_nil ?_
 refine w_seq ?_
 refine ws 192 512 ?_
 refine qp (.ptr 0 0 0) rfl (qp (AS v0.1) rfl (qp (.ptr 64 0 0) rfl (qp (AS v1.1) rfl (qp (AB (decide (v0.1 ≠ v1.1))) rfl ?_))))
 refine r_nil ?_
 refine cF hF (fun hF => ?_) fun hF => ?_
 ·
  refine ws 512 576 ?_
  refine qp (AB false) rfl ?_
  refine r_nil ?_
  refine w_ret ?_
  refine thenQ_r ?_
  cases hF
  exact eR
 ·
  refine w_skip ?_
  refine thenQ_n ?_
  refine w_seq ?_
  refine ws 512 896 ?_
  refine qp (.ptr 0 0 1) rfl (qp (AL 2 (v0.2.map eNote)) rfl (qp (.ptr 64 0 1) rfl (qp (AL 2 (v1.2.map eNote)) rfl ?_)))
  obtain ⟨v1000, e1000, hF⟩ := bind_get hF
  refine qc (AB v1000) [(64, .box [AS v1.1, AL 2 (v1.2.map eNote)]), (0, .box [AS v0.1, AL 2 (v0.2.map eNote)])] false (con_laws_eqRatioS e1000) c180_ok (by first | rfl | simp) rfl ?_
  refine qp (AB (!v1000)) rfl ?_
  refine r_nil ?_
  refine cF hF (fun hF => ?_) fun hF => ?_
  ·
   refine ws 896 960 ?_
   refine qp (AB false) rfl ?_
   refine r_nil ?_
   refine w_ret ?_
   refine thenQ_r ?_
   cases hF
   exact eR
  ·
   refine w_skip ?_
   refine thenQ_n ?_
   refine ws 896 960 ?_
   refine qp (AB true) rfl ?_
   refine r_nil ?_
   refine w_ret ?_
   cases hF
   exact eR

def c181 : MC := (.seq (.reg [rg 2 (.f (.box (.t 0))), rg 3 (.f (.box (.t 1))), rg 4 (.p true (.mv (.c (.bool false))))]) (.seq (.seq (.reg [rg 5 (.p true (.fad (.t 2) 0)), rg 6 (.p true (.ld (.t 5) 1 false)), rg 7 (.p true (.fad (.t 3) 0)), rg 8 (.p true (.ld (.t 7) 1 false)), rg 9 (.p true (.bin .neq (.t 6) (.t 8)))]) (.cond (.t 9) (.seq (.reg [rg 4 (.p true (.mv (.c (.bool false))))]) .ret) .skip)) (.seq (.seq (.reg [rg 10 (.p true (.fad (.t 2) 1)), rg 11 (.p true (.ld (.t 10) 1 false)), rg 12 (.p true (.fad (.t 3) 1)), rg 13 (.p true (.ld (.t 12) 1 false)), rg 14 (.p true (.bin .neq (.t 11) (.t 13)))]) (.cond (.t 14) (.seq (.reg [rg 4 (.p true (.mv (.c (.bool false))))]) .ret) .skip)) (.seq (.seq (.reg [rg 15 (.p true (.fad (.t 2) 2)), rg 16 (.p true (.ld (.t 15) 1 false)), rg 17 (.p true (.fad (.t 3) 2)), rg 18 (.p true (.ld (.t 17) 1 false)), rg 19 (.p true (.bin .neq (.t 16) (.t 18)))]) (.cond (.t 19) (.seq (.reg [rg 4 (.p true (.mv (.c (.bool false))))]) .ret) .skip)) (.seq (.reg [rg 4 (.p true (.mv (.c (.bool true))))]) .ret)))))
theorem c181_is : compFn Try.prog 181 = some (c181, [(.tmp 4)]) := by kernel_rfl
theorem c181_ok : okFn Try.prog 181 = true := by kernel_rfl

noncomputable def F_laws_eqSyllable (v0 : TSyllable) (v1 : TSyllable) : Option (Bool) :=
 (bif (decide (v0.1 ≠ v1.1)) then some false
 else (bif (decide (v0.2.1 ≠ v1.2.1)) then some false
 else (bif (decide (v0.2.2 ≠ v1.2.2)) then some false
 else some true)))
@[simp] def res_laws_eqSyllable (r : Bool) : RV := .one (.one (.val (.bool r)))
theorem con_laws_eqSyllable {v0 : TSyllable} {v1 : TSyllable} {r : Bool} (hF : F_laws_eqSyllable v0 v1 = some r) : Con Try.prog 181 [eSyllable v0, eSyllable v1] (res_laws_eqSyllable r) := by
 unfold F_laws_eqSyllable at hF
 refine con_of c181_is fun N => ?_
 refine ws 0 192 ?_
 refine qf (.ptr 0 0 0) [(0, .box [AS v0.1, AI v0.2.1, AI v0.2.2])] (by simp) ?_
 refine qf (.ptr 64 0 0) [(64, .box [AS v1.1, AI v1.2.1, AI v1.2.2]), (0, .box [AS v0.1, AI v0.2.1, AI v0.2.2])] (by simp) ?_
 refine qp (AB false) rfl ?_
 refine r_nil ?_
 refine w_seq ?_
 refine ws 192 512 ?_
 refine qp (.ptr 0 0 0) rfl (qp (AS v0.1) rfl (qp (.ptr 64 0 0) rfl (qp (AS v1.1) rfl (qp (AB (decide (v0.1 ≠ v1.1))) rfl ?_))))
 refine r_nil ?_
 refine cF hF (fun hF => ?_) fun hF => ?_
 ·
  refine ws 512 576 ?_
  refine qp (AB false) rfl ?_
  refine r_nil ?_
  refine w_ret ?_
  refine thenQ_r ?_
  cases hF
  exact eR
 ·
  refine w_skip ?_
  refine thenQ_n ?_
  refine w_seq ?_
  refine ws 512 832 ?_
  refine qp (.ptr 0 0 1) rfl (qp (AI v0.2.1) rfl (qp (.ptr 64 0 1) rfl (qp (AI v1.2.1) rfl (qp (AB (decide (v0.2.1 ≠ v1.2.1))) rfl ?_))))
  refine r_nil ?_
  refine cF hF (fun hF => ?_) fun hF => ?_
  ·
   refine ws 832 896 ?_
   refine qp (AB false) rfl ?_
   refine r_nil ?_
   refine w_ret ?_
   refine thenQ_r ?_
   cases hF
   exact eR
  ·
   refine w_skip ?_
   refine thenQ_n ?_
   refine w_seq ?_
   refine ws 832 1152 ?_
   refine qp (.ptr 0 0 2) rfl (qp (AI v0.2.2) rfl (qp (.ptr 64 0 2) rfl (qp (AI v1.2.2) rfl (qp (AB (decide (v0.2.2 ≠ v1.2.2))) rfl ?_))))
   refine r_nil ?_
   refine cF hF (fun hF => ?_) fun hF => ?_
   ·
    refine ws 1152 1216 ?_
    refine qp (AB false) rfl ?_
    refine r_nil ?_
    refine w_ret ?_
    refine thenQ_r ?_
    cases hF
    exact eR
   ·
    refine w_skip ?_
    refine thenQ_n ?_
    refine ws 1152 1216 ?_
    refine qp (AB true) rfl ?_
    refine r_nil ?_
    refine w_ret ?_
    cases hF
    exact eR

def c86 : MC := (.seq (.reg [rg 4 (.p true (.mv (.c (.bool false))))]) (.seq (.seq (.reg [rg 6 (.p true (.mv (.t 0))), rg 7 (.p true (.len (.t 6))), rg 8 (.p true (.mv (.t 1))), rg 9 (.p true (.len (.t 8))), rg 10 (.p true (.bin .neq (.t 7) (.t 9)))]) (.cond (.t 10) (.seq (.reg [rg 4 (.p true (.mv (.c (.bool false))))]) .ret) .skip)) (.seq (.seq (.reg [rg 5 (.p true (.mv (.c (.int .i64 0))))]) (.block 0 (.loop (.seq (.seq (.reg [rg 11 (.p true (.mv (.t 5))), rg 12 (.p true (.mv (.t 0))), rg 13 (.p true (.len (.t 12))), rg 14 (.p true (.bin .lss (.t 11) (.t 13)))]) (.cond (.t 14) .skip (.exit 0))) (.seq (.block 1 (.seq (.reg [rg 17 (.p false (.mv (.t 0))), rg 18 (.p false (.mv (.t 5))), rg 19 (.p false (.iad (.t 17) (.t 18) 3)), rg 20 (.p false (.ld (.t 19) 3 true)), rg 21 (.p false (.mv (.t 1))), rg 22 (.p false (.mv (.t 5))), rg 23 (.p false (.iad (.t 21) (.t 22) 3)), rg 24 (.p false (.ld (.t 23) 3 true)), rg 25 (.call false 181 [(.t 20), (.t 24)]), rg 26 (.p false (.not (.t 25)))]) (.cond (.t 26) (.seq (.reg [rg 4 (.p true (.mv (.c (.bool false))))]) .ret) .skip))) (.reg [rg 15 (.p true (.mv (.t 5))), rg 16 (.p true (.bin .add (.t 15) (.c (.int .i64 1)))), rg 5 (.p true (.mv (.t 16)))])))))) (.seq (.reg [rg 4 (.p true (.mv (.c (.bool true))))]) .ret))))
theorem c86_is : compFn Try.prog 86 = some (c86, [(.tmp 4)]) := by kernel_rfl
theorem c86_ok : okFn Try.prog 86 = true := by kernel_rfl

noncomputable def F_laws_eqSyllableS_l0 (v0 : List TSyllable) (v1 : List TSyllable) (k0 : Int → Option (Bool)) : Int → Option (Bool)
 | v9 => (bif (decide (v9 < (v0.length : Int))) then ((ix v0 v9).bind fun v1000 => ((ix v1 v9).bind fun v1001 => ((F_laws_eqSyllable v1000 v1001).bind fun v1002 => (bif (!v1002) then some false
 else k0 (w64 (v9 + 1))))))
 else some true)
noncomputable def F_laws_eqSyllableS (v0 : List TSyllable) (v1 : List TSyllable) : Option (Bool) :=
 (bif (decide ((v0.length : Int) ≠ (v1.length : Int))) then some false
 else loop (F_laws_eqSyllableS_l0 v0 v1) 0)
@[simp] def res_laws_eqSyllableS (r : Bool) : RV := .one (.one (.val (.bool r)))
theorem con_laws_eqSyllableS {v0 : List TSyllable} {v1 : List TSyllable} {r : Bool} (hF : F_laws_eqSyllableS v0 v1 = some r) : Con Try.prog 86 [.sl 3 (v0.map eSyllable), .sl 3 (v1.map eSyllable)] (res_laws_eqSyllableS r) := by
 unfold F_laws_eqSyllableS at hF
 refine con_of c86_is fun N => ?_
 refine ws 0 64 ?_
 refine qp (AB false) rfl ?_
 refine r_nil ?_
 refine w_seq ?_
 refine ws 64 384 ?_
 refine qp (AL 3 (v0.map eSyllable)) rfl (qp (AI (v0.length : Int)) (ev_len_n rfl) (qp (AL 3 (v1.map eSyllable)) rfl (qp (AI (v1.length : Int)) (ev_len_n rfl) (qp (AB (decide ((v0.length : Int) ≠ (v1.length : Int)))) rfl ?_))))
 refine r_nil ?_
 refine cF hF (fun hF => ?_) fun hF => ?_
 ·
  refine ws 384 448 ?_
  refine qp (AB false) rfl ?_
  refine r_nil ?_
  refine w_ret ?_
  refine thenQ_r ?_
  cases hF
  exact eR
 ·
  refine w_skip ?_
  refine thenQ_n ?_
  refine w_seq ?_
  refine ws 384 448 ?_
  refine qp (AI 0) rfl ?_
  refine r_nil ?_
  refine w_block ?_
  refine wr (l' := [(0, AL 3 (v0.map eSyllable)), (1, AL 3 (v1.map eSyllable)), (5, AI 0)]) (L := []) [0, 1, 5] [] 1 ?_
  refine w_loopF (F_laws_eqSyllableS_l0 v0 v1) (fun s : Int => mkS [(0, AL 3 (v0.map eSyllable)), (1, AL 3 (v1.map eSyllable)), (5, AI s)] (fo []) 1) hF ?_
  rintro k0 v9 hF
  rw [F_laws_eqSyllableS_l0] at hF
  try dsimp only
  refine w_seq ?_
  refine ws 1 257 ?_
  refine qp (AI v9) rfl (qp (AL 3 (v0.map eSyllable)) rfl (qp (AI (v0.length : Int)) (ev_len_n rfl) (qp (AB (decide (v9 < (v0.length : Int)))) rfl ?_)))
  refine r_nil ?_
  refine cF hF (fun hF => ?_) fun hF => ?_
  ·
   refine w_skip ?_
   refine thenQ_n ?_
   refine w_seq ?_
   refine w_block ?_
   refine ws 257 897 ?_
   refine qp (AL 3 (v0.map eSyllable)) rfl (qp (AI v9) rfl ?_)
   obtain ⟨v1000, e1000, hF⟩ := bind_get hF
   refine qp (.val none (.ptr [.str v1000.1, .int .i64 v1000.2.1, .int .i64 v1000.2.2])) (ev_iad_n rfl rfl e1000 rfl) (qp (.val none (eSyllable v1000)) rfl (qp (AL 3 (v1.map eSyllable)) rfl (qp (AI v9) rfl ?_)))
   obtain ⟨v1001, e1001, hF⟩ := bind_get hF
   refine qp (.val none (.ptr [.str v1001.1, .int .i64 v1001.2.1, .int .i64 v1001.2.2])) (ev_iad_n rfl rfl e1001 rfl) (qp (.val none (eSyllable v1001)) rfl ?_)
   obtain ⟨v1002, e1002, hF⟩ := bind_get hF
   refine qc (AB v1002) [] false (con_laws_eqSyllable e1002) c181_ok (by first | rfl | simp) rfl ?_
   refine qp (AB (!v1002)) rfl ?_
   refine r_nil ?_
   refine cF hF (fun hF => ?_) fun hF => ?_
   ·
    refine ws 897 961 ?_
    refine qp (AB false) rfl ?_
    refine r_nil ?_
    refine w_ret ?_
    refine blockQ_r ?_
    refine thenQ_r ?_
    refine thenQ_r ?_
    refine blockQ_r ?_
    refine thenQ_r ?_
    cases hF
    exact eR
   ·
    refine w_skip ?_
    refine blockQ_n ?_
    refine thenQ_n ?_
    refine w_reg 897 1089 rfl rfl ?_
    refine qp (AI v9) rfl (qp (AI (w64 (v9 + 1))) rfl (qp (AI (w64 (v9 + 1))) rfl ?_))
    refine r_nil ?_
    refine thenQ_n ?_
    refine ar (l' := [(0, AL 3 (v0.map eSyllable)), (1, AL 3 (v1.map eSyllable)), (5, AI (w64 (v9 + 1)))]) (L := []) [0, 1, 5] [] 1 ⟨_, by rfl, hF⟩
  ·
   refine w_exit ?_
   refine thenQ_e ?_
   refine thenQ_e ?_
   refine blockQ_e ?_
   refine thenQ_n ?_
   refine ws 257 321 ?_
   refine qp (AB true) rfl ?_
   refine r_nil ?_
   refine w_ret ?_
   cases hF
   exact eR

def c182 : MC := (.seq (.reg [rg 2 (.f (.box (.t 0))), rg 3 (.f (.box (.t 1))), rg 4 (.p true (.mv (.c (.bool false))))]) (.seq (.seq (.reg [rg 5 (.p true (.fad (.t 2) 0)), rg 6 (.p true (.ld (.t 5) 1 false)), rg 7 (.p true (.fad (.t 3) 0)), rg 8 (.p true (.ld (.t 7) 1 false)), rg 9 (.p true (.bin .neq (.t 6) (.t 8)))]) (.cond (.t 9) (.seq (.reg [rg 4 (.p true (.mv (.c (.bool false))))]) .ret) .skip)) (.seq (.seq (.reg [rg 10 (.p true (.fad (.t 2) 1)), rg 11 (.p true (.ld (.t 10) 1 false)), rg 12 (.p true (.fad (.t 3) 1)), rg 13 (.p true (.ld (.t 12) 1 false)), rg 14 (.p true (.bin .neq (.t 11) (.t 13)))]) (.cond (.t 14) (.seq (.reg [rg 4 (.p true (.mv (.c (.bool false))))]) .ret) .skip)) (.seq (.reg [rg 4 (.p true (.mv (.c (.bool true))))]) .ret))))
theorem c182_is : compFn Try.prog 182 = some (c182, [(.tmp 4)]) := by kernel_rfl
theorem c182_ok : okFn Try.prog 182 = true := by kernel_rfl

noncomputable def F_laws_eqTempoMark (v0 : TNote) (v1 : TNote) : Option (Bool) :=
 (bif (decide (v0.1 ≠ v1.1)) then some false
 else (bif (decide (v0.2 ≠ v1.2)) then some false
 else some true))
@[simp] def res_laws_eqTempoMark (r : Bool) : RV := .one (.one (.val (.bool r)))
theorem con_laws_eqTempoMark {v0 : TNote} {v1 : TNote} {r : Bool} (hF : F_laws_eqTempoMark v0 v1 = some r) : Con Try.prog 182 [eNote v0, eNote v1] (res_laws_eqTempoMark r) := by
 unfold F_laws_eqTempoMark at hF
 refine con_of c182_is fun N => ?_
 refine ws 0 192 ?_
 refine qf (.ptr 0 0 0) [(0, .box [AI v0.1, AI v0.2])] (by simp) ?_
 refine qf (.ptr 64 0 0) [(64, .box [AI v1.1, AI v1.2]), (0, .box [AI v0.1, AI v0.2])] (by simp) ?_
 refine qp (AB false) rfl ?_
 refine r_nil ?_
 refine w_seq ?_
 refine ws 192 512 ?_
 refine qp (.ptr 0 0 0) rfl (qp (AI v0.1) rfl (qp (.ptr 64 0 0) rfl (qp (AI v1.1) rfl (qp (AB (decide (v0.1 ≠ v1.1))) rfl ?_))))
 refine r_nil ?_
 refine cF hF (fun hF => ?_) fun hF => ?_
 ·
  refine ws 512 576 ?_
  refine qp (AB false) rfl ?_
  refine r_nil ?_
  refine w_ret ?_
  refine thenQ_r ?_
  cases hF
  exact eR
 ·
  refine w_skip ?_
  refine thenQ_n ?_
  refine w_seq ?_
  refine ws 512 832 ?_
  refine qp (.ptr 0 0 1) rfl (qp (AI v0.2) rfl (qp (.ptr 64 0 1) rfl (qp (AI v1.2) rfl (qp (AB (decide (v0.2 ≠ v1.2))) rfl ?_))))
  refine r_nil ?_
  refine cF hF (fun hF => ?_) fun hF => ?_
  ·
   refine ws 832 896 ?_
   refine qp (AB false) rfl ?_
   refine r_nil ?_
   refine w_ret ?_
   refine thenQ_r ?_
   cases hF
   exact eR
  ·
   refine w_skip ?_
   refine thenQ_n ?_
   refine ws 832 896 ?_
   refine qp (AB true) rfl ?_
   refine r_nil ?_
   refine w_ret ?_
   cases hF
   exact eR

def c87 : MC := (.seq (.reg [rg 4 (.p true (.mv (.c (.bool false))))]) (.seq (.seq (.reg [rg 6 (.p true (.mv (.t 0))), rg 7 (.p true (.len (.t 6))), rg 8 (.p true (.mv (.t 1))), rg 9 (.p true (.len (.t 8))), rg 10 (.p true (.bin .neq (.t 7) (.t 9)))]) (.cond (.t 10) (.seq (.reg [rg 4 (.p true (.mv (.c (.bool false))))]) .ret) .skip)) (.seq (.seq (.reg [rg 5 (.p true (.mv (.c (.int .i64 0))))]) (.block 0 (.loop (.seq (.seq (.reg [rg 11 (.p true (.mv (.t 5))), rg 12 (.p true (.mv (.t 0))), rg 13 (.p true (.len (.t 12))), rg 14 (.p true (.bin .lss (.t 11) (.t 13)))]) (.cond (.t 14) .skip (.exit 0))) (.seq (.block 1 (.seq (.reg [rg 17 (.p false (.mv (.t 0))), rg 18 (.p false (.mv (.t 5))), rg 19 (.p false (.iad (.t 17) (.t 18) 2)), rg 20 (.p false (.ld (.t 19) 2 true)), rg 21 (.p false (.mv (.t 1))), rg 22 (.p false (.mv (.t 5))), rg 23 (.p false (.iad (.t 21) (.t 22) 2)), rg 24 (.p false (.ld (.t 23) 2 true)), rg 25 (.call false 182 [(.t 20), (.t 24)]), rg 26 (.p false (.not (.t 25)))]) (.cond (.t 26) (.seq (.reg [rg 4 (.p true (.mv (.c (.bool false))))]) .ret) .skip))) (.reg [rg 15 (.p true (.mv (.t 5))), rg 16 (.p true (.bin .add (.t 15) (.c (.int .i64 1)))), rg 5 (.p true (.mv (.t 16)))])))))) (.seq (.reg [rg 4 (.p true (.mv (.c (.bool true))))]) .ret))))
theorem c87_is : compFn Try.prog 87 = some (c87, [(.tmp 4)]) := by kernel_rfl
theorem c87_ok : okFn Try.prog 87 = true := by kernel_rfl

noncomputable def F_laws_eqTempoMarkS_l0 (v0 : List TNote) (v1 : List TNote) (k0 : Int → Option (Bool)) : Int → Option (Bool)
 | v9 => (bif (decide (v9 < (v0.length : Int))) then ((ix v0 v9).bind fun v1000 => ((ix v1 v9).bind fun v1001 => ((F_laws_eqTempoMark v1000 v1001).bind fun v1002 => (bif (!v1002) then some false
 else k0 (w64 (v9 + 1))))))
 else some true)
noncomputable def F_laws_eqTempoMarkS (v0 : List TNote) (v1 : List TNote) : Option (Bool) :=
 (bif (decide ((v0.length : Int) ≠ (v1.length : Int))) then some false
 else loop (F_laws_eqTempoMarkS_l0 v0 v1) 0)
@[simp] def res_laws_eqTempoMarkS (r : Bool) : RV := .one (.one (.val (.bool r)))
theorem con_laws_eqTempoMarkS {v0 : List TNote} {v1 : List TNote} {r : Bool} (hF : F_laws_eqTempoMarkS v0 v1 = some r) : Con Try.prog 87 [.sl 2 (v0.map eNote), .sl 2 (v1.map eNote)] (res_laws_eqTempoMarkS r) := by
 unfold F_laws_eqTempoMarkS at hF
 refine con_of c87_is fun N => ?_
 refine ws 0 64 ?_
 refine qp (AB false) rfl ?_
 refine r_nil ?_
 refine w_seq ?_
 refine ws 64 384 ?_
 refine qp (AL 2 (v0.map eNote)) rfl (qp (AI (v0.length : Int)) (ev_len_n rfl) (qp (AL 2 (v1.map eNote)) rfl (qp (AI (v1.length : Int)) (ev_len_n rfl) (qp (AB (decide ((v0.length : Int) ≠ (v1.length : Int)))) rfl ?_))))
 refine r_nil ?_
 refine cF hF (fun hF => ?_) fun hF => ?_
 ·
  refine ws 384 448 ?_
  refine qp (AB false) rfl ?_
  refine r_nil ?_
  refine w_ret ?_
  refine thenQ_r ?_
  cases hF
  exact eR
 ·
  refine w_skip ?_
  refine thenQ_n ?_
  refine w_seq ?_
  refine ws 384 448 ?_
  refine qp (AI 0) rfl ?_
  refine r_nil ?_
  refine w_block ?_
  refine wr (l' := [(0, AL 2 (v0.map eNote)), (1, AL 2 (v1.map eNote)), (5, AI 0)]) (L := []) [0, 1, 5] [] 1 ?_
  refine w_loopF (F_laws_eqTempoMarkS_l0 v0 v1) (fun s : Int => mkS [(0, AL 2 (v0.map eNote)), (1, AL 2 (v1.map eNote)), (5, AI s)] (fo []) 1) hF ?_
  rintro k0 v9 hF
  rw [F_laws_eqTempoMarkS_l0] at hF
  try dsimp only
  refine w_seq ?_
  refine ws 1 257 ?_
  refine qp (AI v9) rfl (qp (AL 2 (v0.map eNote)) rfl (qp (AI (v0.length : Int)) (ev_len_n rfl) (qp (AB (decide (v9 < (v0.length : Int)))) rfl ?_)))
  refine r_nil ?_
  refine cF hF (fun hF => ?_) fun hF => ?_
  ·
   refine w_skip ?_
   refine thenQ_n ?_
   refine w_seq ?_
   refine w_block ?_
   refine ws 257 897 ?_
   refine qp (AL 2 (v0.map eNote)) rfl (qp (AI v9) rfl ?_)
   obtain ⟨v1000, e1000, hF⟩ := bind_get hF
   refine qp (.val none (.ptr [.int .i64 v1000.1, .int .i64 v1000.2])) (ev_iad_n rfl rfl e1000 rfl) (qp (.val none (eNote v1000)) rfl (qp (AL 2 (v1.map eNote)) rfl (qp (AI v9) rfl ?_)))
   obtain ⟨v1001, e1001, hF⟩ := bind_get hF
   refine qp (.val none (.ptr [.int .i64 v1001.1, .int .i64 v1001.2])) (ev_iad_n rfl rfl e1001 rfl) (qp (.val none (eNote v1001)) rfl ?_)
   obtain ⟨v1002, e1002, hF⟩ := bind_get hF
   refine qc (AB v1002) [] false (con_laws_eqTempoMark e1002) c182_ok (by first | rfl | simp) rfl ?_
   refine qp (AB (!v1002)) rfl ?_
   refine r_nil ?_
   refine cF hF (fun hF => ?_) fun hF => ?_
   ·
    refine ws 897 961 ?_
    refine qp (AB false) rfl ?_
    refine r_nil ?_
    refine w_ret ?_
    refine blockQ_r ?_
    refine thenQ_r ?_
    refine thenQ_r ?_
    refine blockQ_r ?_
    refine thenQ_r ?_
    cases hF
    exact eR
   ·
    refine w_skip ?_
    refine blockQ_n ?_
    refine thenQ_n ?_
    refine w_reg 897 1089 rfl rfl ?_
    refine qp (AI v9) rfl (qp (AI (w64 (v9 + 1))) rfl (qp (AI (w64 (v9 + 1))) rfl ?_))
    refine r_nil ?_
    refine thenQ_n ?_
    refine ar (l' := [(0, AL 2 (v0.map eNote)), (1, AL 2 (v1.map eNote)), (5, AI (w64 (v9 + 1)))]) (L := []) [0, 1, 5] [] 1 ⟨_, by rfl, hF⟩
  ·
   refine w_exit ?_
   refine thenQ_e ?_
   refine thenQ_e ?_
   refine blockQ_e ?_
   refine thenQ_n ?_
   refine ws 257 321 ?_
   refine qp (AB true) rfl ?_
   refine r_nil ?_
   refine w_ret ?_
   cases hF
   exact eR

def c183 : MC := (.seq (.reg [rg 2 (.f (.box (.t 0))), rg 3 (.f (.box (.t 1))), rg 4 (.p true (.mv (.c (.bool false))))]) (.seq (.seq (.reg [rg 5 (.p true (.fad (.t 2) 0)), rg 6 (.p true (.ld (.t 5) 1 false)), rg 7 (.p true (.fad (.t 3) 0)), rg 8 (.p true (.ld (.t 7) 1 false)), rg 9 (.p true (.bin .neq (.t 6) (.t 8)))]) (.cond (.t 9) (.seq (.reg [rg 4 (.p true (.mv (.c (.bool false))))]) .ret) .skip)) (.seq (.seq (.reg [rg 10 (.p true (.fad (.t 2) 1)), rg 11 (.p true (.ld (.t 10) 1 false)), rg 12 (.p true (.fad (.t 3) 1)), rg 13 (.p true (.ld (.t 12) 1 false)), rg 14 (.p true (.bin .neq (.t 11) (.t 13)))]) (.cond (.t 14) (.seq (.reg [rg 4 (.p true (.mv (.c (.bool false))))]) .ret) .skip)) (.seq (.seq (.reg [rg 15 (.p true (.fad (.t 2) 2)), rg 16 (.p true (.ld (.t 15) 1 false)), rg 17 (.p true (.fad (.t 3) 2)), rg 18 (.p true (.ld (.t 17) 1 false)), rg 19 (.p true (.bin .neq (.t 16) (.t 18)))]) (.cond (.t 19) (.seq (.reg [rg 4 (.p true (.mv (.c (.bool false))))]) .ret) .skip)) (.seq (.seq (.reg [rg 20 (.p true (.fad (.t 2) 3)), rg 21 (.p true (.ld (.t 20) 1 false)), rg 22 (.p true (.fad (.t 3) 3)), rg 23 (.p true (.ld (.t 22) 1 false)), rg 24 (.p true (.bin .neq (.t 21) (.t 23)))]) (.cond (.t 24) (.seq (.reg [rg 4 (.p true (.mv (.c (.bool false))))]) .ret) .skip)) (.seq (.seq (.reg [rg 25 (.p true (.fad (.t 2) 4)), rg 26 (.p true (.ld (.t 25) 1 false)), rg 27 (.p true (.fad (.t 3) 4)), rg 28 (.p true (.ld (.t 27) 1 false)), rg 29 (.p true (.bin .neq (.t 26) (.t 28)))]) (.cond (.t 29) (.seq (.reg [rg 4 (.p true (.mv (.c (.bool false))))]) .ret) .skip)) (.seq (.seq (.reg [rg 30 (.p true (.fad (.t 2) 5)), rg 31 (.p true (.ld (.t 30) 1 false)), rg 32 (.p true (.fad (.t 3) 5)), rg 33 (.p true (.ld (.t 32) 1 false)), rg 34 (.p true (.bin .neq (.t 31) (.t 33)))]) (.cond (.t 34) (.seq (.reg [rg 4 (.p true (.mv (.c (.bool false))))]) .ret) .skip)) (.seq (.reg [rg 4 (.p true (.mv (.c (.bool true))))]) .ret))))))))
theorem c183_is : compFn Try.prog 183 = some (c183, [(.tmp 4)]) := by kernel_rfl
theorem c183_ok : okFn Try.prog 183 = true := by kernel_rfl

noncomputable def F_laws_eqItem (v0 : TItem) (v1 : TItem) : Option (Bool) :=
 (bif (decide (v0.1 ≠ v1.1)) then some false
 else (bif (decide (v0.2.1 ≠ v1.2.1)) then some false
 else (bif (decide (v0.2.2.1 ≠ v1.2.2.1)) then some false
 else (bif (decide (v0.2.2.2.1 ≠ v1.2.2.2.1)) then some false
 else (bif (decide (v0.2.2.2.2.1 ≠ v1.2.2.2.2.1)) then some false
 else (bif (decide (v0.2.2.2.2.2 ≠ v1.2.2.2.2.2)) then some false
 else some true))))))
@[simp] def res_laws_eqItem (r : Bool) : RV := .one (.one (.val (.bool r)))
theorem con_laws_eqItem {v0 : TItem} {v1 : TItem} {r : Bool} (hF : F_laws_eqItem v0 v1 = some r) : Con Try.prog 183 [eItem v0, eItem v1] (res_laws_eqItem r) := by
 unfold F_laws_eqItem at hF
 refine con_of c183_is fun N => ?_
 refine ws 0 192 ?_
 refine qf (.ptr 0 0 0) [(0, .box [AS v0.1, AI v0.2.1, AI v0.2.2.1, AI v0.2.2.2.1, AI v0.2.2.2.2.1, AI v0.2.2.2.2.2])] (by simp) ?_
 refine qf (.ptr 64 0 0) [(64, .box [AS v1.1, AI v1.2.1, AI v1.2.2.1, AI v1.2.2.2.1, AI v1.2.2.2.2.1, AI v1.2.2.2.2.2]), (0, .box [AS v0.1, AI v0.2.1, AI v0.2.2.1, AI v0.2.2.2.1, AI v0.2.2.2.2.1, AI v0.2.2.2.2.2])] (by simp) ?_
 refine qp (AB false) rfl ?_
 refine r_nil ?_
 refine w_seq ?_
 refine ws 192 512 ?_
 refine qp (.ptr 0 0 0) rfl (qp (AS v0.1) rfl (qp (.ptr 64 0 0) rfl (qp (AS v1.1) rfl (qp (AB (decide (v0.1 ≠ v1.1))) rfl ?_))))
 refine r_nil ?_
 refine cF hF (fun hF => ?_) fun hF => ?_
 ·
  refine ws 512 576 ?_
  refine qp (AB false) rfl ?_
  refine r_nil ?_
  refine w_ret ?_
  refine thenQ_r ?_
  cases hF
  exact eR
 ·
  refine w_skip ?_
  refine thenQ_n ?_
  refine w_seq ?_
  refine ws 512 832 ?_
  refine qp (.ptr 0 0 1) rfl (qp (AI v0.2.1) rfl (qp (.ptr 64 0 1) rfl (qp (AI v1.2.1) rfl (qp (AB (decide (v0.2.1 ≠ v1.2.1))) rfl ?_))))
  refine r_nil ?_
  refine cF hF (fun hF => ?_) fun hF => ?_
  ·
   refine ws 832 896 ?_
   refine qp (AB false) rfl ?_
   refine r_nil ?_
   refine w_ret ?_
   refine thenQ_r ?_
   cases hF
   exact eR
  ·
   refine w_skip ?_
   refine thenQ_n ?_
   refine w_seq ?_
   refine ws 832 1152 ?_
   refine qp (.ptr 0 0 2) rfl (qp (AI v0.2.2.1) rfl (qp (.ptr 64 0 2) rfl (qp (AI v1.2.2.1) rfl (qp (AB (decide (v0.2.2.1 ≠ v1.2.2.1))) rfl ?_))))
   refine r_nil ?_
   refine cF hF (fun hF => ?_) fun hF => ?_
   ·
    refine ws 1152 1216 ?_
    refine qp (AB false) rfl ?_
    refine r_nil ?_
    refine w_ret ?_
    refine thenQ_r ?_
    cases hF
    exact eR
   ·
    refine w_skip ?_
    refine thenQ_n ?_
    refine w_seq ?_
    refine ws 1152 1472 ?_
    refine qp (.ptr 0 0 3) rfl (qp (AI v0.2.2.2.1) rfl (qp (.ptr 64 0 3) rfl (qp (AI v1.2.2.2.1) rfl (qp (AB (decide (v0.2.2.2.1 ≠ v1.2.2.2.1))) rfl ?_))))
    refine r_nil ?_
    refine cF hF (fun hF => ?_) fun hF => ?_
    ·
     refine ws 1472 1536 ?_
     refine qp (AB false) rfl ?_
     refine r_nil ?_
     refine w_ret ?_
     refine thenQ_r ?_
     cases hF
     exact eR
    ·
     refine w_skip ?_
     refine thenQ_n ?_
     refine w_seq ?_
     refine ws 1472 1792 ?_
     refine qp (.ptr 0 0 4) rfl (qp (AI v0.2.2.2.2.1) rfl (qp (.ptr 64 0 4) rfl (qp (AI v1.2.2.2.2.1) rfl (qp (AB (decide (v0.2.2.2.2.1 ≠ v1.2.2.2.2.1))) rfl ?_))))
     refine r_nil ?_
     refine cF hF (fun hF => ?_) fun hF => ?_
     ·
      refine ws 1792 1856 ?_
      refine qp (AB false) rfl ?_
      refine r_nil ?_
      refine w_ret ?_
      refine thenQ_r ?_
      cases hF
      exact eR
     ·
      refine w_skip ?_
      refine thenQ_n ?_
      refine w_seq ?_
      refine ws 1792 2112 ?_
      refine qp (.ptr 0 0 5) rfl (qp (AI v0.2.2.2.2.2) rfl (qp (.ptr 64 0 5) rfl (qp (AI v1.2.2.2.2.2) rfl (qp (AB (decide (v0.2.2.2.2.2 ≠ v1.2.2.2.2.2))) rfl ?_))))
      refine r_nil ?_
      refine cF hF (fun hF => ?_) fun hF => ?_
      ·
       refine ws 2112 2176 ?_
       refine qp (AB false) rfl ?_
       refine r_nil ?_
       refine w_ret ?_
       refine thenQ_r ?_
       cases hF
       exact eR
      ·
       refine w_skip ?_
       refine thenQ_n ?_
       refine ws 2112 2176 ?_
       refine qp (AB true) rfl ?_
       refine r_nil ?_
       refine w_ret ?_
       cases hF
       exact eR

def c88 : MC := (.seq (.reg [rg 4 (.p true (.mv (.c (.bool false))))]) (.seq (.seq (.reg [rg 6 (.p true (.mv (.t 0))), rg 7 (.p true (.len (.t 6))), rg 8 (.p true (.mv (.t 1))), rg 9 (.p true (.len (.t 8))), rg 10 (.p true (.bin .neq (.t 7) (.t 9)))]) (.cond (.t 10) (.seq (.reg [rg 4 (.p true (.mv (.c (.bool false))))]) .ret) .skip)) (.seq (.seq (.reg [rg 5 (.p true (.mv (.c (.int .i64 0))))]) (.block 0 (.loop (.seq (.seq (.reg [rg 11 (.p true (.mv (.t 5))), rg 12 (.p true (.mv (.t 0))), rg 13 (.p true (.len (.t 12))), rg 14 (.p true (.bin .lss (.t 11) (.t 13)))]) (.cond (.t 14) .skip (.exit 0))) (.seq (.block 1 (.seq (.reg [rg 17 (.p false (.mv (.t 0))), rg 18 (.p false (.mv (.t 5))), rg 19 (.p false (.iad (.t 17) (.t 18) 6)), rg 20 (.p false (.ld (.t 19) 6 true)), rg 21 (.p false (.mv (.t 1))), rg 22 (.p false (.mv (.t 5))), rg 23 (.p false (.iad (.t 21) (.t 22) 6)), rg 24 (.p false (.ld (.t 23) 6 true)), rg 25 (.call false 183 [(.t 20), (.t 24)]), rg 26 (.p false (.not (.t 25)))]) (.cond (.t 26) (.seq (.reg [rg 4 (.p true (.mv (.c (.bool false))))]) .ret) .skip))) (.reg [rg 15 (.p true (.mv (.t 5))), rg 16 (.p true (.bin .add (.t 15) (.c (.int .i64 1)))), rg 5 (.p true (.mv (.t 16)))])))))) (.seq (.reg [rg 4 (.p true (.mv (.c (.bool true))))]) .ret))))
theorem c88_is : compFn Try.prog 88 = some (c88, [(.tmp 4)]) := by kernel_rfl
theorem c88_ok : okFn Try.prog 88 = true := by kernel_rfl

noncomputable def F_laws_eqItemS_l0 (v0 : List TItem) (v1 : List TItem) (k0 : Int → Option (Bool)) : Int → Option (Bool)
 | v9 => (bif (decide (v9 < (v0.length : Int))) then ((ix v0 v9).bind fun v1000 => ((ix v1 v9).bind fun v1001 => ((F_laws_eqItem v1000 v1001).bind fun v1002 => (bif (!v1002) then some false
 else k0 (w64 (v9 + 1))))))
 else some true)
noncomputable def F_laws_eqItemS (v0 : List TItem) (v1 : List TItem) : Option (Bool) :=
 (bif (decide ((v0.length : Int) ≠ (v1.length : Int))) then some false
 else loop (F_laws_eqItemS_l0 v0 v1) 0)
@[simp] def res_laws_eqItemS (r : Bool) : RV := .one (.one (.val (.bool r)))
theorem con_laws_eqItemS {v0 : List TItem} {v1 : List TItem} {r : Bool} (hF : F_laws_eqItemS v0 v1 = some r) : Con Try.prog 88 [.sl 6 (v0.map eItem), .sl 6 (v1.map eItem)] (res_laws_eqItemS r) := by
 unfold F_laws_eqItemS at hF
 refine con_of c88_is fun N => ?_
 refine ws 0 64 ?_
 refine qp (AB false) rfl ?_
 refine r_nil ?_
 refine w_seq ?_
 refine ws 64 384 ?_
 refine qp (AL 6 (v0.map eItem)) rfl (qp (AI (v0.length : Int)) (ev_len_n rfl) (qp (AL 6 (v1.map eItem)) rfl (qp (AI (v1.length : Int)) (ev_len_n rfl) (qp (AB (decide ((v0.length : Int) ≠ (v1.length : Int)))) rfl ?_))))
 refine r_nil ?_
 refine cF hF (fun hF => ?_) fun hF => ?_
 ·
  refine ws 384 448 ?_
  refine qp (AB false) rfl ?_
  refine r_nil ?_
  refine w_ret ?_
  refine thenQ_r ?_
  cases hF
  exact eR
 ·
  refine w_skip ?_
  refine thenQ_n ?_
  refine w_seq ?_
  refine ws 384 448 ?_
  refine qp (AI 0) rfl ?_
  refine r_nil ?_
  refine w_block ?_
  refine wr (l' := [(0, AL 6 (v0.map eItem)), (1, AL 6 (v1.map eItem)), (5, AI 0)]) (L := []) [0, 1, 5] [] 1 ?_
  refine w_loopF (F_laws_eqItemS_l0 v0 v1) (fun s : Int => mkS [(0, AL 6 (v0.map eItem)), (1, AL 6 (v1.map eItem)), (5, AI s)] (fo []) 1) hF ?_
  rintro k0 v9 hF
  rw [F_laws_eqItemS_l0] at hF
  try dsimp only
  refine w_seq ?_
  refine ws 1 257 ?_
  refine qp (AI v9) rfl (qp (AL 6 (v0.map eItem)) rfl (qp (AI (v0.length : Int)) (ev_len_n rfl) (qp (AB (decide (v9 < (v0.length : Int)))) rfl ?_)))
  refine r_nil ?_
  refine cF hF (fun hF => ?_) fun hF => ?_
  ·
   refine w_skip ?_
   refine thenQ_n ?_
   refine w_seq ?_
   refine w_block ?_
   refine ws 257 897 ?_
   refine qp (AL 6 (v0.map eItem)) rfl (qp (AI v9) rfl ?_)
   obtain ⟨v1000, e1000, hF⟩ := bind_get hF
   refine qp (.val none (.ptr [.str v1000.1, .int .i64 v1000.2.1, .int .i64 v1000.2.2.1, .int .i64 v1000.2.2.2.1, .int .i64 v1000.2.2.2.2.1, .int .i64 v1000.2.2.2.2.2])) (ev_iad_n rfl rfl e1000 rfl) (qp (.val none (eItem v1000)) rfl (qp (AL 6 (v1.map eItem)) rfl (qp (AI v9) rfl ?_)))
   obtain ⟨v1001, e1001, hF⟩ := bind_get hF
   refine qp (.val none (.ptr [.str v1001.1, .int .i64 v1001.2.1, .int .i64 v1001.2.2.1, .int .i64 v1001.2.2.2.1, .int .i64 v1001.2.2.2.2.1, .int .i64 v1001.2.2.2.2.2])) (ev_iad_n rfl rfl e1001 rfl) (qp (.val none (eItem v1001)) rfl ?_)
   obtain ⟨v1002, e1002, hF⟩ := bind_get hF
   refine qc (AB v1002) [] false (con_laws_eqItem e1002) c183_ok (by first | rfl | simp) rfl ?_
   refine qp (AB (!v1002)) rfl ?_
   refine r_nil ?_
   refine cF hF (fun hF => ?_) fun hF => ?_
   ·
    refine ws 897 961 ?_
    refine qp (AB false) rfl ?_
    refine r_nil ?_
    refine w_ret ?_
    refine blockQ_r ?_
    refine thenQ_r ?_
    refine thenQ_r ?_
    refine blockQ_r ?_
    refine thenQ_r ?_
    cases hF
    exact eR
   ·
    refine w_skip ?_
    refine blockQ_n ?_
    refine thenQ_n ?_
    refine w_reg 897 1089 rfl rfl ?_
    refine qp (AI v9) rfl (qp (AI (w64 (v9 + 1))) rfl (qp (AI (w64 (v9 + 1))) rfl ?_))
    refine r_nil ?_
    refine thenQ_n ?_
    refine ar (l' := [(0, AL 6 (v0.map eItem)), (1, AL 6 (v1.map eItem)), (5, AI (w64 (v9 + 1)))]) (L := []) [0, 1, 5] [] 1 ⟨_, by rfl, hF⟩
  ·
   refine w_exit ?_
   refine thenQ_e ?_
   refine thenQ_e ?_
   refine blockQ_e ?_
   refine thenQ_n ?_
   refine ws 257 321 ?_
   refine qp (AB true) rfl ?_
   refine r_nil ?_
   refine w_ret ?_
   cases hF
   exact eR

def c110 : MC := (.seq (.reg [rg 2 (.f (.box (.t 0))), rg 3 (.f (.box (.t 1))), rg 4 (.p true (.mv (.c (.bool false))))]) (.seq (.seq (.reg [rg 5 (.p true (.fad (.t 2) 0)), rg 6 (.p true (.ld (.t 5) 1 false)), rg 7 (.p true (.fad (.t 3) 0)), rg 8 (.p true (.ld (.t 7) 1 false)), rg 9 (.p true (.bin .neq (.t 6) (.t 8)))]) (.cond (.t 9) (.seq (.reg [rg 4 (.p true (.mv (.c (.bool false))))]) .ret) .skip)) (.seq (.seq (.reg [rg 10 (.p true (.fad (.t 2) 1)), rg 11 (.p true (.ld (.t 10) 1 false)), rg 12 (.p true (.fad (.t 3) 1)), rg 13 (.p true (.ld (.t 12) 1 false)), rg 14 (.p true (.bin .neq (.t 11) (.t 13)))]) (.cond (.t 14) (.seq (.reg [rg 4 (.p true (.mv (.c (.bool false))))]) .ret) .skip)) (.seq (.seq (.reg [rg 15 (.p true (.fad (.t 2) 2)), rg 16 (.p true (.ld (.t 15) 1 false)), rg 17 (.p true (.fad (.t 3) 2)), rg 18 (.p true (.ld (.t 17) 1 false)), rg 19 (.p true (.bin .neq (.t 16) (.t 18)))]) (.cond (.t 19) (.seq (.reg [rg 4 (.p true (.mv (.c (.bool false))))]) .ret) .skip)) (.seq (.seq (.reg [rg 20 (.p true (.fad (.t 2) 3)), rg 21 (.p true (.ld (.t 20) 1 false)), rg 22 (.p true (.fad (.t 3) 3)), rg 23 (.p true (.ld (.t 22) 1 false)), rg 24 (.p true (.bin .neq (.t 21) (.t 23)))]) (.cond (.t 24) (.seq (.reg [rg 4 (.p true (.mv (.c (.bool false))))]) .ret) .skip)) (.seq (.seq (.reg [rg 25 (.p true (.fad (.t 2) 4)), rg 26 (.p true (.ld (.t 25) 1 false)), rg 27 (.p true (.fad (.t 3) 4)), rg 28 (.p true (.ld (.t 27) 1 false)), rg 29 (.p true (.bin .neq (.t 26) (.t 28)))]) (.cond (.t 29) (.seq (.reg [rg 4 (.p true (.mv (.c (.bool false))))]) .ret) .skip)) (.seq (.reg [rg 4 (.p true (.mv (.c (.bool true))))]) .ret)))))))
theorem c110_is : compFn Try.prog 110 = some (c110, [(.tmp 4)]) := by kernel_rfl
theorem c110_ok : okFn Try.prog 110 = true := by kernel_rfl

noncomputable def F_laws_eqLesson (v0 : TLesson) (v1 : TLesson) : Option (Bool) :=
 (bif (decide (v0.1 ≠ v1.1)) then some false
 else (bif (decide (v0.2.1 ≠ v1.2.1)) then some false
 else (bif (decide (v0.2.2.1 ≠ v1.2.2.1)) then some false
 else (bif (decide (v0.2.2.2.1 ≠ v1.2.2.2.1)) then some false
 else (bif (decide (v0.2.2.2.2 ≠ v1.2.2.2.2)) then some false
 else some true)))))
@[simp] def res_laws_eqLesson (r : Bool) : RV := .one (.one (.val (.bool r)))
theorem con_laws_eqLesson {v0 : TLesson} {v1 : TLesson} {r : Bool} (hF : F_laws_eqLesson v0 v1 = some r) : Con Try.prog 110 [eLesson v0, eLesson v1] (res_laws_eqLesson r) := by
 unfold F_laws_eqLesson at hF
 refine con_of c110_is fun N => ?_
 refine ws 0 192 ?_
 refine qf (.ptr 0 0 0) [(0, .box [AI v0.1, AS v0.2.1, AS v0.2.2.1, AI v0.2.2.2.1, AI v0.2.2.2.2])] (by simp) ?_
 refine qf (.ptr 64 0 0) [(64, .box [AI v1.1, AS v1.2.1, AS v1.2.2.1, AI v1.2.2.2.1, AI v1.2.2.2.2]), (0, .box [AI v0.1, AS v0.2.1, AS v0.2.2.1, AI v0.2.2.2.1, AI v0.2.2.2.2])] (by simp) ?_
 refine qp (AB false) rfl ?_
 refine r_nil ?_
 refine w_seq ?_
 refine ws 192 512 ?_
 refine qp (.ptr 0 0 0) rfl (qp (AI v0.1) rfl (qp (.ptr 64 0 0) rfl (qp (AI v1.1) rfl (qp (AB (decide (v0.1 ≠ v1.1))) rfl ?_))))
 refine r_nil ?_
 refine cF hF (fun hF => ?_) fun hF => ?_
 ·
  refine ws 512 576 ?_
  refine qp (AB false) rfl ?_
  refine r_nil ?_
  refine w_ret ?_
  refine thenQ_r ?_
  cases hF
  exact eR
 ·
  refine w_skip ?_
  refine thenQ_n ?_
  refine w_seq ?_
  refine ws 512 832 ?_
  refine qp (.ptr 0 0 1) rfl (qp (AS v0.2.1) rfl (qp (.ptr 64 0 1) rfl (qp (AS v1.2.1) rfl (qp (AB (decide (v0.2.1 ≠ v1.2.1))) rfl ?_))))
  refine r_nil ?_
  refine cF hF (fun hF => ?_) fun hF => ?_
  ·
   refine ws 832 896 ?_
   refine qp (AB false) rfl ?_
   refine r_nil ?_
   refine w_ret ?_
   refine thenQ_r ?_
   cases hF
   exact eR
  ·
   refine w_skip ?_
   refine thenQ_n ?_
   refine w_seq ?_
   refine ws 832 1152 ?_
   refine qp (.ptr 0 0 2) rfl (qp (AS v0.2.2.1) rfl (qp (.ptr 64 0 2) rfl (qp (AS v1.2.2.1) rfl (qp (AB (decide (v0.2.2.1 ≠ v1.2.2.1))) rfl ?_))))
   refine r_nil ?_
   refine cF hF (fun hF => ?_) fun hF => ?_
   ·
    refine ws 1152 1216 ?_
    refine qp (AB false) rfl ?_
    refine r_nil ?_
    refine w_ret ?_
    refine thenQ_r ?_
    cases hF
    exact eR
   ·
    refine w_skip ?_
    refine thenQ_n ?_
    refine w_seq ?_
    refine ws 1152 1472 ?_
    refine qp (.ptr 0 0 3) rfl (qp (AI v0.2.2.2.1) rfl (qp (.ptr 64 0 3) rfl (qp (AI v1.2.2.2.1) rfl (qp (AB (decide (v0.2.2.2.1 ≠ v1.2.2.2.1))) rfl ?_))))
    refine r_nil ?_
    refine cF hF (fun hF => ?_) fun hF => ?_
    ·
     refine ws 1472 1536 ?_
     refine qp (AB false) rfl ?_
     refine r_nil ?_
     refine w_ret ?_
     refine thenQ_r ?_
     cases hF
     exact eR
    ·
     refine w_skip ?_
     refine thenQ_n ?_
     refine w_seq ?_
     refine ws 1472 1792 ?_
     refine qp (.ptr 0 0 4) rfl (qp (AI v0.2.2.2.2) rfl (qp (.ptr 64 0 4) rfl (qp (AI v1.2.2.2.2) rfl (qp (AB (decide (v0.2.2.2.2 ≠ v1.2.2.2.2))) rfl ?_))))
     refine r_nil ?_
     refine cF hF (fun hF => ?_) fun hF => ?_
     ·
      refine ws 1792 1856 ?_
      refine qp (AB false) rfl ?_
      refine r_nil ?_
      refine w_ret ?_
      refine thenQ_r ?_
      cases hF
      exact eR
     ·
      refine w_skip ?_
      refine thenQ_n ?_
      refine ws 1792 1856 ?_
      refine qp (AB true) rfl ?_
      refine r_nil ?_
      refine w_ret ?_
      cases hF
      exact eR

def c25 : MC := (.seq (.reg [rg 4 (.p true (.mv (.c (.bool false))))]) (.seq (.seq (.reg [rg 6 (.p true (.mv (.t 0))), rg 7 (.p true (.len (.t 6))), rg 8 (.p true (.mv (.t 1))), rg 9 (.p true (.len (.t 8))), rg 10 (.p true (.bin .neq (.t 7) (.t 9)))]) (.cond (.t 10) (.seq (.reg [rg 4 (.p true (.mv (.c (.bool false))))]) .ret) .skip)) (.seq (.seq (.reg [rg 5 (.p true (.mv (.c (.int .i64 0))))]) (.block 0 (.loop (.seq (.seq (.reg [rg 11 (.p true (.mv (.t 5))), rg 12 (.p true (.mv (.t 0))), rg 13 (.p true (.len (.t 12))), rg 14 (.p true (.bin .lss (.t 11) (.t 13)))]) (.cond (.t 14) .skip (.exit 0))) (.seq (.block 1 (.seq (.reg [rg 17 (.p false (.mv (.t 0))), rg 18 (.p false (.mv (.t 5))), rg 19 (.p false (.iad (.t 17) (.t 18) 5)), rg 20 (.p false (.ld (.t 19) 5 true)), rg 21 (.p false (.mv (.t 1))), rg 22 (.p false (.mv (.t 5))), rg 23 (.p false (.iad (.t 21) (.t 22) 5)), rg 24 (.p false (.ld (.t 23) 5 true)), rg 25 (.call false 110 [(.t 20), (.t 24)]), rg 26 (.p false (.not (.t 25)))]) (.cond (.t 26) (.seq (.reg [rg 4 (.p true (.mv (.c (.bool false))))]) .ret) .skip))) (.reg [rg 15 (.p true (.mv (.t 5))), rg 16 (.p true (.bin .add (.t 15) (.c (.int .i64 1)))), rg 5 (.p true (.mv (.t 16)))])))))) (.seq (.reg [rg 4 (.p true (.mv (.c (.bool true))))]) .ret))))
theorem c25_is : compFn Try.prog 25 = some (c25, [(.tmp 4)]) := by kernel_rfl
theorem c25_ok : okFn Try.prog 25 = true := by kernel_rfl

noncomputable def F_laws_eqLessonS_l0 (v0 : List TLesson) (v1 : List TLesson) (k0 : Int → Option (Bool)) : Int → Option (Bool)
 | v9 => (bif (decide (v9 < (v0.length : Int))) then ((ix v0 v9).bind fun v1000 => ((ix v1 v9).bind fun v1001 => ((F_laws_eqLesson v1000 v1001).bind fun v1002 => (bif (!v1002) then some false
 else k0 (w64 (v9 + 1))))))
 else some true)
noncomputable def F_laws_eqLessonS (v0 : List TLesson) (v1 : List TLesson) : Option (Bool) :=
 (bif (decide ((v0.length : Int) ≠ (v1.length : Int))) then some false
 else loop (F_laws_eqLessonS_l0 v0 v1) 0)
@[simp] def res_laws_eqLessonS (r : Bool) : RV := .one (.one (.val (.bool r)))
theorem con_laws_eqLessonS {v0 : List TLesson} {v1 : List TLesson} {r : Bool} (hF : F_laws_eqLessonS v0 v1 = some r) : Con Try.prog 25 [.sl 5 (v0.map eLesson), .sl 5 (v1.map eLesson)] (res_laws_eqLessonS r) := by
 unfold F_laws_eqLessonS at hF
 refine con_of c25_is fun N => ?_
 refine ws 0 64 ?_
 refine qp (AB false) rfl ?_
 refine r_nil ?_
 refine w_seq ?_
 refine ws 64 384 ?_
 refine qp (AL 5 (v0.map eLesson)) rfl (qp (AI (v0.length : Int)) (ev_len_n rfl) (qp (AL 5 (v1.map eLesson)) rfl (qp (AI (v1.length : Int)) (ev_len_n rfl) (qp (AB (decide ((v0.length : Int) ≠ (v1.length : Int)))) rfl ?_))))
 refine r_nil ?_
 refine cF hF (fun hF => ?_) fun hF => ?_
 ·
  refine ws 384 448 ?_
  refine qp (AB false) rfl ?_
  refine r_nil ?_
  refine w_ret ?_
  refine thenQ_r ?_
  cases hF
  exact eR
 ·
  refine w_skip ?_
  refine thenQ_n ?_
  refine w_seq ?_
  refine ws 384 448 ?_
  refine qp (AI 0) rfl ?_
  refine r_nil ?_
  refine w_block ?_
  refine wr (l' := [(0, AL 5 (v0.map eLesson)), (1, AL 5 (v1.map eLesson)), (5, AI 0)]) (L := []) [0, 1, 5] [] 1 ?_
  refine w_loopF (F_laws_eqLessonS_l0 v0 v1) (fun s : Int => mkS [(0, AL 5 (v0.map eLesson)), (1, AL 5 (v1.map eLesson)), (5, AI s)] (fo []) 1) hF ?_
  rintro k0 v9 hF
  rw [F_laws_eqLessonS_l0] at hF
  try dsimp only
  refine w_seq ?_
  refine ws 1 257 ?_
  refine qp (AI v9) rfl (qp (AL 5 (v0.map eLesson)) rfl (qp (AI (v0.length : Int)) (ev_len_n rfl) (qp (AB (decide (v9 < (v0.length : Int)))) rfl ?_)))
  refine r_nil ?_
  refine cF hF (fun hF => ?_) fun hF => ?_
  ·
   refine w_skip ?_
   refine thenQ_n ?_
   refine w_seq ?_
   refine w_block ?_
   refine ws 257 897 ?_
   refine qp (AL 5 (v0.map eLesson)) rfl (qp (AI v9) rfl ?_)
   obtain ⟨v1000, e1000, hF⟩ := bind_get hF
   refine qp (.val none (.ptr [.int .i64 v1000.1, .str v1000.2.1, .str v1000.2.2.1, .int .i64 v1000.2.2.2.1, .int .i64 v1000.2.2.2.2])) (ev_iad_n rfl rfl e1000 rfl) (qp (.val none (eLesson v1000)) rfl (qp (AL 5 (v1.map eLesson)) rfl (qp (AI v9) rfl ?_)))
   obtain ⟨v1001, e1001, hF⟩ := bind_get hF
   refine qp (.val none (.ptr [.int .i64 v1001.1, .str v1001.2.1, .str v1001.2.2.1, .int .i64 v1001.2.2.2.1, .int .i64 v1001.2.2.2.2])) (ev_iad_n rfl rfl e1001 rfl) (qp (.val none (eLesson v1001)) rfl ?_)
   obtain ⟨v1002, e1002, hF⟩ := bind_get hF
   refine qc (AB v1002) [] false (con_laws_eqLesson e1002) c110_ok (by first | rfl | simp) rfl ?_
   refine qp (AB (!v1002)) rfl ?_
   refine r_nil ?_
   refine cF hF (fun hF => ?_) fun hF => ?_
   ·
    refine ws 897 961 ?_
    refine qp (AB false) rfl ?_
    refine r_nil ?_
    refine w_ret ?_
    refine blockQ_r ?_
    refine thenQ_r ?_
    refine thenQ_r ?_
    refine blockQ_r ?_
    refine thenQ_r ?_
    cases hF
    exact eR
   ·
    refine w_skip ?_
    refine blockQ_n ?_
    refine thenQ_n ?_
    refine w_reg 897 1089 rfl rfl ?_
    refine qp (AI v9) rfl (qp (AI (w64 (v9 + 1))) rfl (qp (AI (w64 (v9 + 1))) rfl ?_))
    refine r_nil ?_
    refine thenQ_n ?_
    refine ar (l' := [(0, AL 5 (v0.map eLesson)), (1, AL 5 (v1.map eLesson)), (5, AI (w64 (v9 + 1)))]) (L := []) [0, 1, 5] [] 1 ⟨_, by rfl, hF⟩
  ·
   refine w_exit ?_
   refine thenQ_e ?_
   refine thenQ_e ?_
   refine blockQ_e ?_
   refine thenQ_n ?_
   refine ws 257 321 ?_
   refine qp (AB true) rfl ?_
   refine r_nil ?_
   refine w_ret ?_
   cases hF
   exact eR

def c24 : MC := (.seq (.reg [rg 4 (.p true (.mv (.c (.bool false))))]) (.seq (.seq (.reg [rg 6 (.p true (.mv (.t 0))), rg 7 (.p true (.len (.t 6))), rg 8 (.p true (.mv (.t 1))), rg 9 (.p true (.len (.t 8))), rg 10 (.p true (.bin .neq (.t 7) (.t 9)))]) (.cond (.t 10) (.seq (.reg [rg 4 (.p true (.mv (.c (.bool false))))]) .ret) .skip)) (.seq (.seq (.reg [rg 5 (.p true (.mv (.c (.int .i64 0))))]) (.block 0 (.loop (.seq (.seq (.reg [rg 11 (.p true (.mv (.t 5))), rg 12 (.p true (.mv (.t 0))), rg 13 (.p true (.len (.t 12))), rg 14 (.p true (.bin .lss (.t 11) (.t 13)))]) (.cond (.t 14) .skip (.exit 0))) (.seq (.block 1 (.seq (.reg [rg 17 (.p false (.mv (.t 0))), rg 18 (.p false (.mv (.t 5))), rg 19 (.p false (.iad (.t 17) (.t 18) 1)), rg 20 (.p false (.ld (.t 19) 1 false)), rg 21 (.p false (.mv (.t 1))), rg 22 (.p false (.mv (.t 5))), rg 23 (.p false (.iad (.t 21) (.t 22) 1)), rg 24 (.p false (.ld (.t 23) 1 false)), rg 25 (.p false (.bin .neq (.t 20) (.t 24)))]) (.cond (.t 25) (.seq (.reg [rg 4 (.p true (.mv (.c (.bool false))))]) .ret) .skip))) (.reg [rg 15 (.p true (.mv (.t 5))), rg 16 (.p true (.bin .add (.t 15) (.c (.int .i64 1)))), rg 5 (.p true (.mv (.t 16)))])))))) (.seq (.reg [rg 4 (.p true (.mv (.c (.bool true))))]) .ret))))
theorem c24_is : compFn Try.prog 24 = some (c24, [(.tmp 4)]) := by kernel_rfl
theorem c24_ok : okFn Try.prog 24 = true := by kernel_rfl

noncomputable def F_laws_eqStringS_l0 (v0 : List (List UInt8)) (v1 : List (List UInt8)) (k0 : Int → Option (Bool)) : Int → Option (Bool)
 | v7 => (bif (decide (v7 < (v0.length : Int))) then ((ix v0 v7).bind fun v1000 => ((ix v1 v7).bind fun v1001 => (bif (decide (v1000 ≠ v1001)) then some false
 else k0 (w64 (v7 + 1)))))
 else some true)
noncomputable def F_laws_eqStringS (v0 : List (List UInt8)) (v1 : List (List UInt8)) : Option (Bool) :=
 (bif (decide ((v0.length : Int) ≠ (v1.length : Int))) then some false
 else loop (F_laws_eqStringS_l0 v0 v1) 0)
@[simp] def res_laws_eqStringS (r : Bool) : RV := .one (.one (.val (.bool r)))
theorem con_laws_eqStringS {v0 : List (List UInt8)} {v1 : List (List UInt8)} {r : Bool} (hF : F_laws_eqStringS v0 v1 = some r) : Con Try.prog 24 [.sl 1 (v0.map V.str), .sl 1 (v1.map V.str)] (res_laws_eqStringS r) := by
 unfold F_laws_eqStringS at hF
 refine con_of c24_is fun N => ?_
 refine ws 0 64 ?_
 refine qp (AB false) rfl ?_
 refine r_nil ?_
 refine w_seq ?_
 refine ws 64 384 ?_
 refine qp (AL 1 (v0.map V.str)) rfl (qp (AI (v0.length : Int)) (ev_len_n rfl) (qp (AL 1 (v1.map V.str)) rfl (qp (AI (v1.length : Int)) (ev_len_n rfl) (qp (AB (decide ((v0.length : Int) ≠ (v1.length : Int)))) rfl ?_))))
 refine r_nil ?_
 refine cF hF (fun hF => ?_) fun hF => ?_
 ·
  refine ws 384 448 ?_
  refine qp (AB false) rfl ?_
  refine r_nil ?_
  refine w_ret ?_
  refine thenQ_r ?_
  cases hF
  exact eR
 ·
  refine w_skip ?_
  refine thenQ_n ?_
  refine w_seq ?_
  refine ws 384 448 ?_
  refine qp (AI 0) rfl ?_
  refine r_nil ?_
  refine w_block ?_
  refine wr (l' := [(0, AL 1 (v0.map V.str)), (1, AL 1 (v1.map V.str)), (5, AI 0)]) (L := []) [0, 1, 5] [] 1 ?_
  refine w_loopF (F_laws_eqStringS_l0 v0 v1) (fun s : Int => mkS [(0, AL 1 (v0.map V.str)), (1, AL 1 (v1.map V.str)), (5, AI s)] (fo []) 1) hF ?_
  rintro k0 v7 hF
  rw [F_laws_eqStringS_l0] at hF
  try dsimp only
  refine w_seq ?_
  refine ws 1 257 ?_
  refine qp (AI v7) rfl (qp (AL 1 (v0.map V.str)) rfl (qp (AI (v0.length : Int)) (ev_len_n rfl) (qp (AB (decide (v7 < (v0.length : Int)))) rfl ?_)))
  refine r_nil ?_
  refine cF hF (fun hF => ?_) fun hF => ?_
  ·
   refine w_skip ?_
   refine thenQ_n ?_
   refine w_seq ?_
   refine w_block ?_
   refine ws 257 833 ?_
   refine qp (AL 1 (v0.map V.str)) rfl (qp (AI v7) rfl ?_)
   obtain ⟨v1000, e1000, hF⟩ := bind_get hF
   refine qp (.val none (.ptr [.str v1000])) (ev_iad_n rfl rfl e1000 rfl) (qp (AS v1000) rfl (qp (AL 1 (v1.map V.str)) rfl (qp (AI v7) rfl ?_)))
   obtain ⟨v1001, e1001, hF⟩ := bind_get hF
   refine qp (.val none (.ptr [.str v1001])) (ev_iad_n rfl rfl e1001 rfl) (qp (AS v1001) rfl (qp (AB (decide (v1000 ≠ v1001))) rfl ?_))
   refine r_nil ?_
   refine cF hF (fun hF => ?_) fun hF => ?_
   ·
    refine ws 833 897 ?_
    refine qp (AB false) rfl ?_
    refine r_nil ?_
    refine w_ret ?_
    refine blockQ_r ?_
    refine thenQ_r ?_
    refine thenQ_r ?_
    refine blockQ_r ?_
    refine thenQ_r ?_
    cases hF
    exact eR
   ·
    refine w_skip ?_
    refine blockQ_n ?_
    refine thenQ_n ?_
    refine w_reg 833 1025 rfl rfl ?_
    refine qp (AI v7) rfl (qp (AI (w64 (v7 + 1))) rfl (qp (AI (w64 (v7 + 1))) rfl ?_))
    refine r_nil ?_
    refine thenQ_n ?_
    refine ar (l' := [(0, AL 1 (v0.map V.str)), (1, AL 1 (v1.map V.str)), (5, AI (w64 (v7 + 1)))]) (L := []) [0, 1, 5] [] 1 ⟨_, by rfl, hF⟩
  ·
   refine w_exit ?_
   refine thenQ_e ?_
   refine thenQ_e ?_
   refine blockQ_e ?_
   refine thenQ_n ?_
   refine ws 257 321 ?_
   refine qp (AB true) rfl ?_
   refine r_nil ?_
   refine w_ret ?_
   cases hF
   exact eR

def c184 : MC := (.seq (.reg [rg 2 (.f (.box (.t 0))), rg 3 (.f (.box (.t 1))), rg 4 (.p true (.mv (.c (.bool false))))]) (.seq (.seq (.reg [rg 5 (.p true (.fad (.t 2) 0)), rg 6 (.p true (.ld (.t 5) 1 false)), rg 7 (.p true (.fad (.t 3) 0)), rg 8 (.p true (.ld (.t 7) 1 false)), rg 9 (.p true (.bin .neq (.t 6) (.t 8)))]) (.cond (.t 9) (.seq (.reg [rg 4 (.p true (.mv (.c (.bool false))))]) .ret) .skip)) (.seq (.seq (.reg [rg 10 (.p true (.fad (.t 2) 1)), rg 11 (.p true (.ld (.t 10) 1 false)), rg 12 (.p true (.fad (.t 3) 1)), rg 13 (.p true (.ld (.t 12) 1 false)), rg 14 (.p true (.bin .neq (.t 11) (.t 13)))]) (.cond (.t 14) (.seq (.reg [rg 4 (.p true (.mv (.c (.bool false))))]) .ret) .skip)) (.seq (.seq (.reg [rg 15 (.p true (.fad (.t 2) 2)), rg 16 (.p true (.ld (.t 15) 1 false)), rg 17 (.p true (.fad (.t 3) 2)), rg 18 (.p true (.ld (.t 17) 1 false)), rg 19 (.call true 24 [(.t 16), (.t 18)]), rg 20 (.p true (.not (.t 19)))]) (.cond (.t 20) (.seq (.reg [rg 4 (.p true (.mv (.c (.bool false))))]) .ret) .skip)) (.seq (.reg [rg 4 (.p true (.mv (.c (.bool true))))]) .ret)))))
theorem c184_is : compFn Try.prog 184 = some (c184, [(.tmp 4)]) := by kernel_rfl
theorem c184_ok : okFn Try.prog 184 = true := by kernel_rfl

noncomputable def F_laws_eqPerson (v0 : TPerson) (v1 : TPerson) : Option (Bool) :=
 (bif (decide (v0.1 ≠ v1.1)) then some false
 else (bif (decide (v0.2.1 ≠ v1.2.1)) then some false
 else ((F_laws_eqStringS v0.2.2 v1.2.2).bind fun v1000 => (bif (!v1000) then some false
 else some true))))
@[simp] def res_laws_eqPerson (r : Bool) : RV := .one (.one (.val (.bool r)))
theorem con_laws_eqPerson {v0 : TPerson} {v1 : TPerson} {r : Bool} (hF : F_laws_eqPerson v0 v1 = some r) : Con Try.prog 184 [ePerson v0, ePerson v1] (res_laws_eqPerson r) := by
 unfold F_laws_eqPerson at hF
 refine con_of c184_is fun N => ?_
 refine ws 0 192 ?_
 refine qf (.ptr 0 0 0) [(0, .box [AS v0.1, AI v0.2.1, AL 1 (v0.2.2.map V.str)])] (by simp) ?_
 refine qf (.ptr 64 0 0) [(64, .box [AS v1.1, AI v1.2.1, AL 1 (v1.2.2.map V.str)]), (0, .box [AS v0.1, AI v0.2.1, AL 1 (v0.2.2.map V.str)])] (by simp) ?_
 refine qp (AB false) rfl ?_
 refine r_nil ?_
 refine w_seq ?_
 refine ws 192 512 ?_
 refine qp (.ptr 0 0 0) rfl (qp (AS v0.1) rfl (qp (.ptr 64 0 0) rfl (qp (AS v1.1) rfl (qp (AB (decide (v0.1 ≠ v1.1))) rfl ?_))))
 refine r_nil ?_
 refine cF hF (fun hF => ?_) fun hF => ?_
 ·
  refine ws 512 576 ?_
  refine qp (AB false) rfl ?_
  refine r_nil ?_
  refine w_ret ?_
  refine thenQ_r ?_
  cases hF
  exact eR
 ·
  refine w_skip ?_
  refine thenQ_n ?_
  refine w_seq ?_
  refine ws 512 832 ?_
  refine qp (.ptr 0 0 1) rfl (qp (AI v0.2.1) rfl (qp (.ptr 64 0 1) rfl (qp (AI v1.2.1) rfl (qp (AB (decide (v0.2.1 ≠ v1.2.1))) rfl ?_))))
  refine r_nil ?_
  refine cF hF (fun hF => ?_) fun hF => ?_
  ·
   refine ws 832 896 ?_
   refine qp (AB false) rfl ?_
   refine r_nil ?_
   refine w_ret ?_
   refine thenQ_r ?_
   cases hF
   exact eR
  ·
   refine w_skip ?_
   refine thenQ_n ?_
   refine w_seq ?_
   refine ws 832 1216 ?_
   refine qp (.ptr 0 0 2) rfl (qp (AL 1 (v0.2.2.map V.str)) rfl (qp (.ptr 64 0 2) rfl (qp (AL 1 (v1.2.2.map V.str)) rfl ?_)))
   obtain ⟨v1000, e1000, hF⟩ := bind_get hF
   refine qc (AB v1000) [(64, .box [AS v1.1, AI v1.2.1, AL 1 (v1.2.2.map V.str)]), (0, .box [AS v0.1, AI v0.2.1, AL 1 (v0.2.2.map V.str)])] false (con_laws_eqStringS e1000) c24_ok (by first | rfl | simp) rfl ?_
   refine qp (AB (!v1000)) rfl ?_
   refine r_nil ?_
   refine cF hF (fun hF => ?_) fun hF => ?_
   ·
    refine ws 1216 1280 ?_
    refine qp (AB false) rfl ?_
    refine r_nil ?_
    refine w_ret ?_
    refine thenQ_r ?_
    cases hF
    exact eR
   ·
    refine w_skip ?_
    refine thenQ_n ?_
    refine ws 1216 1280 ?_
    refine qp (AB true) rfl ?_
    refine r_nil ?_
    refine w_ret ?_
    cases hF
    exact eR

def c89 : MC := (.seq (.reg [rg 4 (.p true (.mv (.c (.bool false))))]) (.seq (.seq (.reg [rg 6 (.p true (.mv (.t 0))), rg 7 (.p true (.len (.t 6))), rg 8 (.p true (.mv (.t 1))), rg 9 (.p true (.len (.t 8))), rg 10 (.p true (.bin .neq (.t 7) (.t 9)))]) (.cond (.t 10) (.seq (.reg [rg 4 (.p true (.mv (.c (.bool false))))]) .ret) .skip)) (.seq (.seq (.reg [rg 5 (.p true (.mv (.c (.int .i64 0))))]) (.block 0 (.loop (.seq (.seq (.reg [rg 11 (.p true (.mv (.t 5))), rg 12 (.p true (.mv (.t 0))), rg 13 (.p true (.len (.t 12))), rg 14 (.p true (.bin .lss (.t 11) (.t 13)))]) (.cond (.t 14) .skip (.exit 0))) (.seq (.block 1 (.seq (.reg [rg 17 (.p false (.mv (.t 0))), rg 18 (.p false (.mv (.t 5))), rg 19 (.p false (.iad (.t 17) (.t 18) 3)), rg 20 (.p false (.ld (.t 19) 3 true)), rg 21 (.p false (.mv (.t 1))), rg 22 (.p false (.mv (.t 5))), rg 23 (.p false (.iad (.t 21) (.t 22) 3)), rg 24 (.p false (.ld (.t 23) 3 true)), rg 25 (.call false 184 [(.t 20), (.t 24)]), rg 26 (.p false (.not (.t 25)))]) (.cond (.t 26) (.seq (.reg [rg 4 (.p true (.mv (.c (.bool false))))]) .ret) .skip))) (.reg [rg 15 (.p true (.mv (.t 5))), rg 16 (.p true (.bin .add (.t 15) (.c (.int .i64 1)))), rg 5 (.p true (.mv (.t 16)))])))))) (.seq (.reg [rg 4 (.p true (.mv (.c (.bool true))))]) .ret))))
theorem c89_is : compFn Try.prog 89 = some (c89, [(.tmp 4)]) := by kernel_rfl
theorem c89_ok : okFn Try.prog 89 = true := by kernel_rfl

noncomputable def F_laws_eqPersonS_l0 (v0 : List TPerson) (v1 : List TPerson) (k0 : Int → Option (Bool)) : Int → Option (Bool)
 | v9 => (bif (decide (v9 < (v0.length : Int))) then ((ix v0 v9).bind fun v1000 => ((ix v1 v9).bind fun v1001 => ((F_laws_eqPerson v1000 v1001).bind fun v1002 => (bif (!v1002) then some false
 else k0 (w64 (v9 + 1))))))
 else some true)
noncomputable def F_laws_eqPersonS (v0 : List TPerson) (v1 : List TPerson) : Option (Bool) :=
 (bif (decide ((v0.length : Int) ≠ (v1.length : Int))) then some false
 else loop (F_laws_eqPersonS_l0 v0 v1) 0)
@[simp] def res_laws_eqPersonS (r : Bool) : RV := .one (.one (.val (.bool r)))
theorem con_laws_eqPersonS {v0 : List TPerson} {v1 : List TPerson} {r : Bool} (hF : F_laws_eqPersonS v0 v1 = some r) : Con Try.prog 89 [.sl 3 (v0.map ePerson), .sl 3 (v1.map ePerson)] (res_laws_eqPersonS r) := by
 unfold F_laws_eqPersonS at hF
 refine con_of c89_is fun N => ?_
 refine ws 0 64 ?_
 refine qp (AB false) rfl ?_
 refine r_nil ?_
 refine w_seq ?_
 refine ws 64 384 ?_
 refine qp (AL 3 (v0.map ePerson)) rfl (qp (AI (v0.length : Int)) (ev_len_n rfl) (qp (AL 3 (v1.map ePerson)) rfl (qp (AI (v1.length : Int)) (ev_len_n rfl) (qp (AB (decide ((v0.length : Int) ≠ (v1.length : Int)))) rfl ?_))))
 refine r_nil ?_
 refine cF hF (fun hF => ?_) fun hF => ?_
 ·
  refine ws 384 448 ?_
  refine qp (AB false) rfl ?_
  refine r_nil ?_
  refine w_ret ?_
  refine thenQ_r ?_
  cases hF
  exact eR
 ·
  refine w_skip ?_
  refine thenQ_n ?_
  refine w_seq ?_
  refine ws 384 448 ?_
  refine qp (AI 0) rfl ?_
  refine r_nil ?_
  refine w_block ?_
  refine wr (l' := [(0, AL 3 (v0.map ePerson)), (1, AL 3 (v1.map ePerson)), (5, AI 0)]) (L := []) [0, 1, 5] [] 1 ?_
  refine w_loopF (F_laws_eqPersonS_l0 v0 v1) (fun s : Int => mkS [(0, AL 3 (v0.map ePerson)), (1, AL 3 (v1.map ePerson)), (5, AI s)] (fo []) 1) hF ?_
  rintro k0 v9 hF
  rw [F_laws_eqPersonS_l0] at hF
  try dsimp only
  refine w_seq ?_
  refine ws 1 257 ?_
  refine qp (AI v9) rfl (qp (AL 3 (v0.map ePerson)) rfl (qp (AI (v0.length : Int)) (ev_len_n rfl) (qp (AB (decide (v9 < (v0.length : Int)))) rfl ?_)))
  refine r_nil ?_
  refine cF hF (fun hF => ?_) fun hF => ?_
  ·
   refine w_skip ?_
   refine thenQ_n ?_
   refine w_seq ?_
   refine w_block ?_
   refine ws 257 897 ?_
   refine qp (AL 3 (v0.map ePerson)) rfl (qp (AI v9) rfl ?_)
   obtain ⟨v1000, e1000, hF⟩ := bind_get hF
   refine qp (.val none (.ptr [.str v1000.1, .int .i64 v1000.2.1, .sl 1 (v1000.2.2.map V.str)])) (ev_iad_n rfl rfl e1000 rfl) (qp (.val none (ePerson v1000)) rfl (qp (AL 3 (v1.map ePerson)) rfl (qp (AI v9) rfl ?_)))
   obtain ⟨v1001, e1001, hF⟩ := bind_get hF
   refine qp (.val none (.ptr [.str v1001.1, .int .i64 v1001.2.1, .sl 1 (v1001.2.2.map V.str)])) (ev_iad_n rfl rfl e1001 rfl) (qp (.val none (ePerson v1001)) rfl ?_)
   obtain ⟨v1002, e1002, hF⟩ := bind_get hF
   refine qc (AB v1002) [] false (con_laws_eqPerson e1002) c184_ok (by first | rfl | simp) rfl ?_
   refine qp (AB (!v1002)) rfl ?_
   refine r_nil ?_
   refine cF hF (fun hF => ?_) fun hF => ?_
   ·
    refine ws 897 961 ?_
    refine qp (AB false) rfl ?_
    refine r_nil ?_
    refine w_ret ?_
    refine blockQ_r ?_
    refine thenQ_r ?_
    refine thenQ_r ?_
    refine blockQ_r ?_
    refine thenQ_r ?_
    cases hF
    exact eR
   ·
    refine w_skip ?_
    refine blockQ_n ?_
    refine thenQ_n ?_
    refine w_reg 897 1089 rfl rfl ?_
    refine qp (AI v9) rfl (qp (AI (w64 (v9 + 1))) rfl (qp (AI (w64 (v9 + 1))) rfl ?_))
    refine r_nil ?_
    refine thenQ_n ?_
    refine ar (l' := [(0, AL 3 (v0.map ePerson)), (1, AL 3 (v1.map ePerson)), (5, AI (w64 (v9 + 1)))]) (L := []) [0, 1, 5] [] 1 ⟨_, by rfl, hF⟩
  ·
   refine w_exit ?_
   refine thenQ_e ?_
   refine thenQ_e ?_
   refine blockQ_e ?_
   refine thenQ_n ?_
   refine ws 257 321 ?_
   refine qp (AB true) rfl ?_
   refine r_nil ?_
   refine w_ret ?_
   cases hF
   exact eR

def c17 : MC := (.seq (.reg [rg 2 (.f (.box (.t 0))), rg 3 (.f (.box (.t 1))), rg 4 (.p true (.mv (.c (.bool false))))]) (.seq (.seq (.reg [rg 5 (.p true (.fad (.t 2) 0)), rg 6 (.p true (.ld (.t 5) 6 true)), rg 7 (.p true (.fad (.t 3) 0)), rg 8 (.p true (.ld (.t 7) 6 true)), rg 9 (.call true 53 [(.t 6), (.t 8)]), rg 10 (.p true (.not (.t 9)))]) (.cond (.t 10) (.seq (.reg [rg 4 (.p true (.mv (.c (.bool false))))]) .ret) .skip)) (.seq (.seq (.reg [rg 11 (.p true (.fad (.t 2) 6)), rg 12 (.p true (.ld (.t 11) 1 false)), rg 13 (.p true (.fad (.t 3) 6)), rg 14 (.p true (.ld (.t 13) 1 false)), rg 15 (.call true 54 [(.t 12), (.t 14)]), rg 16 (.p true (.not (.t 15)))]) (.cond (.t 16) (.seq (.reg [rg 4 (.p true (.mv (.c (.bool false))))]) .ret) .skip)) (.seq (.seq (.reg [rg 17 (.p true (.fad (.t 2) 7)), rg 18 (.p true (.ld (.t 17) 2 true)), rg 19 (.p true (.fad (.t 3) 7)), rg 20 (.p true (.ld (.t 19) 2 true)), rg 21 (.call true 84 [(.t 18), (.t 20)]), rg 22 (.p true (.not (.t 21)))]) (.cond (.t 22) (.seq (.reg [rg 4 (.p true (.mv (.c (.bool false))))]) .ret) .skip)) (.seq (.seq (.reg [rg 23 (.p true (.fad (.t 2) 9)), rg 24 (.p true (.ld (.t 23) 1 false)), rg 25 (.p true (.fad (.t 3) 9)), rg 26 (.p true (.ld (.t 25) 1 false)), rg 27 (.call true 85 [(.t 24), (.t 26)]), rg 28 (.p true (.not (.t 27)))]) (.cond (.t 28) (.seq (.reg [rg 4 (.p true (.mv (.c (.bool false))))]) .ret) .skip)) (.seq (.seq (.reg [rg 29 (.p true (.fad (.t 2) 10)), rg 30 (.p true (.ld (.t 29) 1 false)), rg 31 (.p true (.fad (.t 3) 10)), rg 32 (.p true (.ld (.t 31) 1 false)), rg 33 (.call true 86 [(.t 30), (.t 32)]), rg 34 (.p true (.not (.t 33)))]) (.cond (.t 34) (.seq (.reg [rg 4 (.p true (.mv (.c (.bool false))))]) .ret) .skip)) (.seq (.seq (.reg [rg 35 (.p true (.fad (.t 2) 11)), rg 36 (.p true (.ld (.t 35) 1 false)), rg 37 (.p true (.fad (.t 3) 11)), rg 38 (.p true (.ld (.t 37) 1 false)), rg 39 (.call true 87 [(.t 36), (.t 38)]), rg 40 (.p true (.not (.t 39)))]) (.cond (.t 40) (.seq (.reg [rg 4 (.p true (.mv (.c (.bool false))))]) .ret) .skip)) (.seq (.seq (.reg [rg 41 (.p true (.fad (.t 2) 12)), rg 42 (.p true (.ld (.t 41) 1 false)), rg 43 (.p true (.fad (.t 3) 12)), rg 44 (.p true (.ld (.t 43) 1 false)), rg 45 (.call true 88 [(.t 42), (.t 44)]), rg 46 (.p true (.not (.t 45)))]) (.cond (.t 46) (.seq (.reg [rg 4 (.p true (.mv (.c (.bool false))))]) .ret) .skip)) (.seq (.seq (.reg [rg 47 (.p true (.fad (.t 2) 13)), rg 48 (.p true (.ld (.t 47) 1 false)), rg 49 (.p true (.fad (.t 3) 13)), rg 50 (.p true (.ld (.t 49) 1 false)), rg 51 (.call true 25 [(.t 48), (.t 50)]), rg 52 (.p true (.not (.t 51)))]) (.cond (.t 52) (.seq (.reg [rg 4 (.p true (.mv (.c (.bool false))))]) .ret) .skip)) (.seq (.seq (.reg [rg 53 (.p true (.fad (.t 2) 14)), rg 54 (.p true (.ld (.t 53) 1 false)), rg 55 (.p true (.fad (.t 3) 14)), rg 56 (.p true (.ld (.t 55) 1 false)), rg 57 (.call true 89 [(.t 54), (.t 56)]), rg 58 (.p true (.not (.t 57)))]) (.cond (.t 58) (.seq (.reg [rg 4 (.p true (.mv (.c (.bool false))))]) .ret) .skip)) (.seq (.reg [rg 4 (.p true (.mv (.c (.bool true))))]) .ret)))))))))))
theorem c17_is : compFn Try.prog 17 = some (c17, [(.tmp 4)]) := by kernel_rfl
theorem c17_ok : okFn Try.prog 17 = true := by kernel_rfl

noncomputable def F_laws_eqDesk (v0 : TDesk) (v1 : TDesk) : Option (Bool) :=
 ((F_laws_eqRaga (v0.1, v0.2.1, v0.2.2.1, v0.2.2.2.1, v0.2.2.2.2.1, v0.2.2.2.2.2.1) (v1.1, v1.2.1, v1.2.2.1, v1.2.2.2.1, v1.2.2.2.2.1, v1.2.2.2.2.2.1)).bind fun v1000 => (bif (!v1000) then some false
 else ((F_laws_eqNoteS v0.2.2.2.2.2.2.1 v1.2.2.2.2.2.2.1).bind fun v1001 => (bif (!v1001) then some false
 else ((F_laws_eqTuning (v0.2.2.2.2.2.2.2.1, v0.2.2.2.2.2.2.2.2.1) (v1.2.2.2.2.2.2.2.1, v1.2.2.2.2.2.2.2.2.1)).bind fun v1002 => (bif (!v1002) then some false
 else ((F_laws_eqInt64SS v0.2.2.2.2.2.2.2.2.2.1 v1.2.2.2.2.2.2.2.2.2.1).bind fun v1003 => (bif (!v1003) then some false
 else ((F_laws_eqSyllableS v0.2.2.2.2.2.2.2.2.2.2.1 v1.2.2.2.2.2.2.2.2.2.2.1).bind fun v1004 => (bif (!v1004) then some false
 else ((F_laws_eqTempoMarkS v0.2.2.2.2.2.2.2.2.2.2.2.1 v1.2.2.2.2.2.2.2.2.2.2.2.1).bind fun v1005 => (bif (!v1005) then some false
 else ((F_laws_eqItemS v0.2.2.2.2.2.2.2.2.2.2.2.2.1 v1.2.2.2.2.2.2.2.2.2.2.2.2.1).bind fun v1006 => (bif (!v1006) then some false
 else ((F_laws_eqLessonS v0.2.2.2.2.2.2.2.2.2.2.2.2.2.1 v1.2.2.2.2.2.2.2.2.2.2.2.2.2.1).bind fun v1007 => (bif (!v1007) then some false
 else ((F_laws_eqPersonS v0.2.2.2.2.2.2.2.2.2.2.2.2.2.2 v1.2.2.2.2.2.2.2.2.2.2.2.2.2.2).bind fun v1008 => (bif (!v1008) then some false
 else some true))))))))))))))))))
@[simp] def res_laws_eqDesk (r : Bool) : RV := .one (.one (.val (.bool r)))
theorem con_laws_eqDesk {v0 : TDesk} {v1 : TDesk} {r : Bool} (hF : F_laws_eqDesk v0 v1 = some r) : Con Try.prog 17 [eDesk v0, eDesk v1] (res_laws_eqDesk r) := by
 unfold F_laws_eqDesk at hF
 refine con_of c17_is fun N => ?_
 refine ws 0 192 ?_
 refine qf (.ptr 0 0 0) [(0, .box [AS v0.1, AL 1 (v0.2.1.map (V.int .i64)), AL 1 (v0.2.2.1.map (V.int .i64)), AI v0.2.2.2.1, AI v0.2.2.2.2.1, AL 1 (v0.2.2.2.2.2.1.map (eL 1 (V.int .i64))), AL 2 (v0.2.2.2.2.2.2.1.map eNote), AS v0.2.2.2.2.2.2.2.1, AL 2 (v0.2.2.2.2.2.2.2.2.1.map eNote), AL 1 (v0.2.2.2.2.2.2.2.2.2.1.map (eL 1 (V.int .i64))), AL 3 (v0.2.2.2.2.2.2.2.2.2.2.1.map eSyllable), AL 2 (v0.2.2.2.2.2.2.2.2.2.2.2.1.map eNote), AL 6 (v0.2.2.2.2.2.2.2.2.2.2.2.2.1.map eItem), AL 5 (v0.2.2.2.2.2.2.2.2.2.2.2.2.2.1.map eLesson), AL 3 (v0.2.2.2.2.2.2.2.2.2.2.2.2.2.2.map ePerson)])] (by simp) ?_
 refine qf (.ptr 64 0 0) [(64, .box [AS v1.1, AL 1 (v1.2.1.map (V.int .i64)), AL 1 (v1.2.2.1.map (V.int .i64)), AI v1.2.2.2.1, AI v1.2.2.2.2.1, AL 1 (v1.2.2.2.2.2.1.map (eL 1 (V.int .i64))), AL 2 (v1.2.2.2.2.2.2.1.map eNote), AS v1.2.2.2.2.2.2.2.1, AL 2 (v1.2.2.2.2.2.2.2.2.1.map eNote), AL 1 (v1.2.2.2.2.2.2.2.2.2.1.map (eL 1 (V.int .i64))), AL 3 (v1.2.2.2.2.2.2.2.2.2.2.1.map eSyllable), AL 2 (v1.2.2.2.2.2.2.2.2.2.2.2.1.map eNote), AL 6 (v1.2.2.2.2.2.2.2.2.2.2.2.2.1.map eItem), AL 5 (v1.2.2.2.2.2.2.2.2.2.2.2.2.2.1.map eLesson), AL 3 (v1.2.2.2.2.2.2.2.2.2.2.2.2.2.2.map ePerson)]), (0, .box [AS v0.1, AL 1 (v0.2.1.map (V.int .i64)), AL 1 (v0.2.2.1.map (V.int .i64)), AI v0.2.2.2.1, AI v0.2.2.2.2.1, AL 1 (v0.2.2.2.2.2.1.map (eL 1 (V.int .i64))), AL 2 (v0.2.2.2.2.2.2.1.map eNote), AS v0.2.2.2.2.2.2.2.1, AL 2 (v0.2.2.2.2.2.2.2.2.1.map eNote), AL 1 (v0.2.2.2.2.2.2.2.2.2.1.map (eL 1 (V.int .i64))), AL 3 (v0.2.2.2.2.2.2.2.2.2.2.1.map eSyllable), AL 2 (v0.2.2.2.2.2.2.2.2.2.2.2.1.map eNote), AL 6 (v0.2.2.2.2.2.2.2.2.2.2.2.2.1.map eItem), AL 5 (v0.2.2.2.2.2.2.2.2.2.2.2.2.2.1.map eLesson), AL 3 (v0.2.2.2.2.2.2.2.2.2.2.2.2.2.2.map ePerson)])] (by simp) ?_
 refine qp (AB false) rfl ?_
 refine r_nil ?_
 refine w_seq ?_
 refine ws 192 576 ?_
 refine qp (.ptr 0 0 0) rfl (qp (.agg [AS v0.1, AL 1 (v0.2.1.map (V.int .i64)), AL 1 (v0.2.2.1.map (V.int .i64)), AI v0.2.2.2.1, AI v0.2.2.2.2.1, AL 1 (v0.2.2.2.2.2.1.map (eL 1 (V.int .i64)))]) rfl (qp (.ptr 64 0 0) rfl (qp (.agg [AS v1.1, AL 1 (v1.2.1.map (V.int .i64)), AL 1 (v1.2.2.1.map (V.int .i64)), AI v1.2.2.2.1, AI v1.2.2.2.2.1, AL 1 (v1.2.2.2.2.2.1.map (eL 1 (V.int .i64)))]) rfl ?_)))
 obtain ⟨v1000, e1000, hF⟩ := bind_get hF
 refine qc (AB v1000) [(64, .box [AS v1.1, AL 1 (v1.2.1.map (V.int .i64)), AL 1 (v1.2.2.1.map (V.int .i64)), AI v1.2.2.2.1, AI v1.2.2.2.2.1, AL 1 (v1.2.2.2.2.2.1.map (eL 1 (V.int .i64))), AL 2 (v1.2.2.2.2.2.2.1.map eNote), AS v1.2.2.2.2.2.2.2.1, AL 2 (v1.2.2.2.2.2.2.2.2.1.map eNote), AL 1 (v1.2.2.2.2.2.2.2.2.2.1.map (eL 1 (V.int .i64))), AL 3 (v1.2.2.2.2.2.2.2.2.2.2.1.map eSyllable), AL 2 (v1.2.2.2.2.2.2.2.2.2.2.2.1.map eNote), AL 6 (v1.2.2.2.2.2.2.2.2.2.2.2.2.1.map eItem), AL 5 (v1.2.2.2.2.2.2.2.2.2.2.2.2.2.1.map eLesson), AL 3 (v1.2.2.2.2.2.2.2.2.2.2.2.2.2.2.map ePerson)]), (0, .box [AS v0.1, AL 1 (v0.2.1.map (V.int .i64)), AL 1 (v0.2.2.1.map (V.int .i64)), AI v0.2.2.2.1, AI v0.2.2.2.2.1, AL 1 (v0.2.2.2.2.2.1.map (eL 1 (V.int .i64))), AL 2 (v0.2.2.2.2.2.2.1.map eNote), AS v0.2.2.2.2.2.2.2.1, AL 2 (v0.2.2.2.2.2.2.2.2.1.map eNote), AL 1 (v0.2.2.2.2.2.2.2.2.2.1.map (eL 1 (V.int .i64))), AL 3 (v0.2.2.2.2.2.2.2.2.2.2.1.map eSyllable), AL 2 (v0.2.2.2.2.2.2.2.2.2.2.2.1.map eNote), AL 6 (v0.2.2.2.2.2.2.2.2.2.2.2.2.1.map eItem), AL 5 (v0.2.2.2.2.2.2.2.2.2.2.2.2.2.1.map eLesson), AL 3 (v0.2.2.2.2.2.2.2.2.2.2.2.2.2.2.map ePerson)])] false (con_laws_eqRaga e1000) c53_ok (by first | rfl | simp) rfl ?_
 refine qp (AB (!v1000)) rfl ?_
 refine r_nil ?_
 refine cF hF (fun hF => ?_) fun hF => ?_
 ·
  refine ws 576 640 ?_
  refine qp (AB false) rfl ?_
  refine r_nil ?_
  refine w_ret ?_
  refine thenQ_r ?_
  cases hF
  exact eR
 ·
  refine w_skip ?_
  refine thenQ_n ?_
  refine w_seq ?_
  refine ws 576 960 ?_
  refine qp (.ptr 0 0 6) rfl (qp (AL 2 (v0.2.2.2.2.2.2.1.map eNote)) rfl (qp (.ptr 64 0 6) rfl (qp (AL 2 (v1.2.2.2.2.2.2.1.map eNote)) rfl ?_)))
  obtain ⟨v1001, e1001, hF⟩ := bind_get hF
  refine qc (AB v1001) [(64, .box [AS v1.1, AL 1 (v1.2.1.map (V.int .i64)), AL 1 (v1.2.2.1.map (V.int .i64)), AI v1.2.2.2.1, AI v1.2.2.2.2.1, AL 1 (v1.2.2.2.2.2.1.map (eL 1 (V.int .i64))), AL 2 (v1.2.2.2.2.2.2.1.map eNote), AS v1.2.2.2.2.2.2.2.1, AL 2 (v1.2.2.2.2.2.2.2.2.1.map eNote), AL 1 (v1.2.2.2.2.2.2.2.2.2.1.map (eL 1 (V.int .i64))), AL 3 (v1.2.2.2.2.2.2.2.2.2.2.1.map eSyllable), AL 2 (v1.2.2.2.2.2.2.2.2.2.2.2.1.map eNote), AL 6 (v1.2.2.2.2.2.2.2.2.2.2.2.2.1.map eItem), AL 5 (v1.2.2.2.2.2.2.2.2.2.2.2.2.2.1.map eLesson), AL 3 (v1.2.2.2.2.2.2.2.2.2.2.2.2.2.2.map ePerson)]), (0, .box [AS v0.1, AL 1 (v0.2.1.map (V.int .i64)), AL 1 (v0.2.2.1.map (V.int .i64)), AI v0.2.2.2.1, AI v0.2.2.2.2.1, AL 1 (v0.2.2.2.2.2.1.map (eL 1 (V.int .i64))), AL 2 (v0.2.2.2.2.2.2.1.map eNote), AS v0.2.2.2.2.2.2.2.1, AL 2 (v0.2.2.2.2.2.2.2.2.1.map eNote), AL 1 (v0.2.2.2.2.2.2.2.2.2.1.map (eL 1 (V.int .i64))), AL 3 (v0.2.2.2.2.2.2.2.2.2.2.1.map eSyllable), AL 2 (v0.2.2.2.2.2.2.2.2.2.2.2.1.map eNote), AL 6 (v0.2.2.2.2.2.2.2.2.2.2.2.2.1.map eItem), AL 5 (v0.2.2.2.2.2.2.2.2.2.2.2.2.2.1.map eLesson), AL 3 (v0.2.2.2.2.2.2.2.2.2.2.2.2.2.2.map ePerson)])] false (con_laws_eqNoteS e1001) c54_ok (by first | rfl | simp) rfl ?_
  refine qp (AB (!v1001)) rfl ?_
  refine r_nil ?_
  refine cF hF (fun hF => ?_) fun hF => ?_
  ·
   refine ws 960 1024 ?_
   refine qp (AB false) rfl ?_
   refine r_nil ?_
   refine w_ret ?_
   refine thenQ_r ?_
   cases hF
   exact eR
  ·
   refine w_skip ?_
   refine thenQ_n ?_
   refine w_seq ?_
   refine ws 960 1344 ?_
   refine qp (.ptr 0 0 7) rfl (qp (.agg [AS v0.2.2.2.2.2.2.2.1, AL 2 (v0.2.2.2.2.2.2.2.2.1.map eNote)]) rfl (qp (.ptr 64 0 7) rfl (qp (.agg [AS v1.2.2.2.2.2.2.2.1, AL 2 (v1.2.2.2.2.2.2.2.2.1.map eNote)]) rfl ?_)))
   obtain ⟨v1002, e1002, hF⟩ := bind_get hF
   refine qc (AB v1002) [(64, .box [AS v1.1, AL 1 (v1.2.1.map (V.int .i64)), AL 1 (v1.2.2.1.map (V.int .i64)), AI v1.2.2.2.1, AI v1.2.2.2.2.1, AL 1 (v1.2.2.2.2.2.1.map (eL 1 (V.int .i64))), AL 2 (v1.2.2.2.2.2.2.1.map eNote), AS v1.2.2.2.2.2.2.2.1, AL 2 (v1.2.2.2.2.2.2.2.2.1.map eNote), AL 1 (v1.2.2.2.2.2.2.2.2.2.1.map (eL 1 (V.int .i64))), AL 3 (v1.2.2.2.2.2.2.2.2.2.2.1.map eSyllable), AL 2 (v1.2.2.2.2.2.2.2.2.2.2.2.1.map eNote), AL 6 (v1.2.2.2.2.2.2.2.2.2.2.2.2.1.map eItem), AL 5 (v1.2.2.2.2.2.2.2.2.2.2.2.2.2.1.map eLesson), AL 3 (v1.2.2.2.2.2.2.2.2.2.2.2.2.2.2.map ePerson)]), (0, .box [AS v0.1, AL 1 (v0.2.1.map (V.int .i64)), AL 1 (v0.2.2.1.map (V.int .i64)), AI v0.2.2.2.1, AI v0.2.2.2.2.1, AL 1 (v0.2.2.2.2.2.1.map (eL 1 (V.int .i64))), AL 2 (v0.2.2.2.2.2.2.1.map eNote), AS v0.2.2.2.2.2.2.2.1, AL 2 (v0.2.2.2.2.2.2.2.2.1.map eNote), AL 1 (v0.2.2.2.2.2.2.2.2.2.1.map (eL 1 (V.int .i64))), AL 3 (v0.2.2.2.2.2.2.2.2.2.2.1.map eSyllable), AL 2 (v0.2.2.2.2.2.2.2.2.2.2.2.1.map eNote), AL 6 (v0.2.2.2.2.2.2.2.2.2.2.2.2.1.map eItem), AL 5 (v0.2.2.2.2.2.2.2.2.2.2.2.2.2.1.map eLesson), AL 3 (v0.2.2.2.2.2.2.2.2.2.2.2.2.2.2.map ePerson)])] false (con_laws_eqTuning e1002) c84_ok (by first | rfl | simp) rfl ?_
   refine qp (AB (!v1002)) rfl ?_
   refine r_nil ?_
   refine cF hF (fun hF => ?_) fun hF => ?_
   ·
    refine ws 1344 1408 ?_
    refine qp (AB false) rfl ?_
    refine r_nil ?_
    refine w_ret ?_
    refine thenQ_r ?_
    cases hF
    exact eR
   ·
    refine w_skip ?_
    refine thenQ_n ?_
    refine w_seq ?_
    refine ws 1344 1728 ?_
    refine qp (.ptr 0 0 9) rfl (qp (AL 1 (v0.2.2.2.2.2.2.2.2.2.1.map (eL 1 (V.int .i64)))) rfl (qp (.ptr 64 0 9) rfl (qp (AL 1 (v1.2.2.2.2.2.2.2.2.2.1.map (eL 1 (V.int .i64)))) rfl ?_)))
    obtain ⟨v1003, e1003, hF⟩ := bind_get hF
    refine qc (AB v1003) [(64, .box [AS v1.1, AL 1 (v1.2.1.map (V.int .i64)), AL 1 (v1.2.2.1.map (V.int .i64)), AI v1.2.2.2.1, AI v1.2.2.2.2.1, AL 1 (v1.2.2.2.2.2.1.map (eL 1 (V.int .i64))), AL 2 (v1.2.2.2.2.2.2.1.map eNote), AS v1.2.2.2.2.2.2.2.1, AL 2 (v1.2.2.2.2.2.2.2.2.1.map eNote), AL 1 (v1.2.2.2.2.2.2.2.2.2.1.map (eL 1 (V.int .i64))), AL 3 (v1.2.2.2.2.2.2.2.2.2.2.1.map eSyllable), AL 2 (v1.2.2.2.2.2.2.2.2.2.2.2.1.map eNote), AL 6 (v1.2.2.2.2.2.2.2.2.2.2.2.2.1.map eItem), AL 5 (v1.2.2.2.2.2.2.2.2.2.2.2.2.2.1.map eLesson), AL 3 (v1.2.2.2.2.2.2.2.2.2.2.2.2.2.2.map ePerson)]), (0, .box [AS v0.1, AL 1 (v0.2.1.map (V.int .i64)), AL 1 (v0.2.2.1.map (V.int .i64)), AI v0.2.2.2.1, AI v0.2.2.2.2.1, AL 1 (v0.2.2.2.2.2.1.map (eL 1 (V.int .i64))), AL 2 (v0.2.2.2.2.2.2.1.map eNote), AS v0.2.2.2.2.2.2.2.1, AL 2 (v0.2.2.2.2.2.2.2.2.1.map eNote), AL 1 (v0.2.2.2.2.2.2.2.2.2.1.map (eL 1 (V.int .i64))), AL 3 (v0.2.2.2.2.2.2.2.2.2.2.1.map eSyllable), AL 2 (v0.2.2.2.2.2.2.2.2.2.2.2.1.map eNote), AL 6 (v0.2.2.2.2.2.2.2.2.2.2.2.2.1.map eItem), AL 5 (v0.2.2.2.2.2.2.2.2.2.2.2.2.2.1.map eLesson), AL 3 (v0.2.2.2.2.2.2.2.2.2.2.2.2.2.2.map ePerson)])] false (con_laws_eqInt64SS e1003) c85_ok (by first | rfl | simp) rfl ?_
    refine qp (AB (!v1003)) rfl ?_
    refine r_nil ?_
    refine cF hF (fun hF => ?_) fun hF => ?_
    ·
     refine ws 1728 1792 ?_
     refine qp (AB false) rfl ?_
     refine r_nil ?_
     refine w_ret ?_
     refine thenQ_r ?_
     cases hF
     exact eR
    ·
     refine w_skip ?_
     refine thenQ_n ?_
     refine w_seq ?_
     refine ws 1728 2112 ?_
     refine qp (.ptr 0 0 10) rfl (qp (AL 3 (v0.2.2.2.2.2.2.2.2.2.2.1.map eSyllable)) rfl (qp (.ptr 64 0 10) rfl (qp (AL 3 (v1.2.2.2.2.2.2.2.2.2.2.1.map eSyllable)) rfl ?_)))
     obtain ⟨v1004, e1004, hF⟩ := bind_get hF
     refine qc (AB v1004) [(64, .box [AS v1.1, AL 1 (v1.2.1.map (V.int .i64)), AL 1 (v1.2.2.1.map (V.int .i64)), AI v1.2.2.2.1, AI v1.2.2.2.2.1, AL 1 (v1.2.2.2.2.2.1.map (eL 1 (V.int .i64))), AL 2 (v1.2.2.2.2.2.2.1.map eNote), AS v1.2.2.2.2.2.2.2.1, AL 2 (v1.2.2.2.2.2.2.2.2.1.map eNote), AL 1 (v1.2.2.2.2.2.2.2.2.2.1.map (eL 1 (V.int .i64))), AL 3 (v1.2.2.2.2.2.2.2.2.2.2.1.map eSyllable), AL 2 (v1.2.2.2.2.2.2.2.2.2.2.2.1.map eNote), AL 6 (v1.2.2.2.2.2.2.2.2.2.2.2.2.1.map eItem), AL 5 (v1.2.2.2.2.2.2.2.2.2.2.2.2.2.1.map eLesson), AL 3 (v1.2.2.2.2.2.2.2.2.2.2.2.2.2.2.map ePerson)]), (0, .box [AS v0.1, AL 1 (v0.2.1.map (V.int .i64)), AL 1 (v0.2.2.1.map (V.int .i64)), AI v0.2.2.2.1, AI v0.2.2.2.2.1, AL 1 (v0.2.2.2.2.2.1.map (eL 1 (V.int .i64))), AL 2 (v0.2.2.2.2.2.2.1.map eNote), AS v0.2.2.2.2.2.2.2.1, AL 2 (v0.2.2.2.2.2.2.2.2.1.map eNote), AL 1 (v0.2.2.2.2.2.2.2.2.2.1.map (eL 1 (V.int .i64))), AL 3 (v0.2.2.2.2.2.2.2.2.2.2.1.map eSyllable), AL 2 (v0.2.2.2.2.2.2.2.2.2.2.2.1.map eNote), AL 6 (v0.2.2.2.2.2.2.2.2.2.2.2.2.1.map eItem), AL 5 (v0.2.2.2.2.2.2.2.2.2.2.2.2.2.1.map eLesson), AL 3 (v0.2.2.2.2.2.2.2.2.2.2.2.2.2.2.map ePerson)])] false (con_laws_eqSyllableS e1004) c86_ok (by first | rfl | simp) rfl ?_
     refine qp (AB (!v1004)) rfl ?_
     refine r_nil ?_
     refine cF hF (fun hF => ?_) fun hF => ?_
     ·
      refine ws 2112 2176 ?_
      refine qp (AB false) rfl ?_
      refine r_nil ?_
      refine w_ret ?_
      refine thenQ_r ?_
      cases hF
      exact eR
     ·
      refine w_skip ?_
      refine thenQ_n ?_
      refine w_seq ?_
      refine ws 2112 2496 ?_
      refine qp (.ptr 0 0 11) rfl (qp (AL 2 (v0.2.2.2.2.2.2.2.2.2.2.2.1.map eNote)) rfl (qp (.ptr 64 0 11) rfl (qp (AL 2 (v1.2.2.2.2.2.2.2.2.2.2.2.1.map eNote)) rfl ?_)))
      obtain ⟨v1005, e1005, hF⟩ := bind_get hF
      refine qc (AB v1005) [(64, .box [AS v1.1, AL 1 (v1.2.1.map (V.int .i64)), AL 1 (v1.2.2.1.map (V.int .i64)), AI v1.2.2.2.1, AI v1.2.2.2.2.1, AL 1 (v1.2.2.2.2.2.1.map (eL 1 (V.int .i64))), AL 2 (v1.2.2.2.2.2.2.1.map eNote), AS v1.2.2.2.2.2.2.2.1, AL 2 (v1.2.2.2.2.2.2.2.2.1.map eNote), AL 1 (v1.2.2.2.2.2.2.2.2.2.1.map (eL 1 (V.int .i64))), AL 3 (v1.2.2.2.2.2.2.2.2.2.2.1.map eSyllable), AL 2 (v1.2.2.2.2.2.2.2.2.2.2.2.1.map eNote), AL 6 (v1.2.2.2.2.2.2.2.2.2.2.2.2.1.map eItem), AL 5 (v1.2.2.2.2.2.2.2.2.2.2.2.2.2.1.map eLesson), AL 3 (v1.2.2.2.2.2.2.2.2.2.2.2.2.2.2.map ePerson)]), (0, .box [AS v0.1, AL 1 (v0.2.1.map (V.int .i64)), AL 1 (v0.2.2.1.map (V.int .i64)), AI v0.2.2.2.1, AI v0.2.2.2.2.1, AL 1 (v0.2.2.2.2.2.1.map (eL 1 (V.int .i64))), AL 2 (v0.2.2.2.2.2.2.1.map eNote), AS v0.2.2.2.2.2.2.2.1, AL 2 (v0.2.2.2.2.2.2.2.2.1.map eNote), AL 1 (v0.2.2.2.2.2.2.2.2.2.1.map (eL 1 (V.int .i64))), AL 3 (v0.2.2.2.2.2.2.2.2.2.2.1.map eSyllable), AL 2 (v0.2.2.2.2.2.2.2.2.2.2.2.1.map eNote), AL 6 (v0.2.2.2.2.2.2.2.2.2.2.2.2.1.map eItem), AL 5 (v0.2.2.2.2.2.2.2.2.2.2.2.2.2.1.map eLesson), AL 3 (v0.2.2.2.2.2.2.2.2.2.2.2.2.2.2.map ePerson)])] false (con_laws_eqTempoMarkS e1005) c87_ok (by first | rfl | simp) rfl ?_
      refine qp (AB (!v1005)) rfl ?_
      refine r_nil ?_
      refine cF hF (fun hF => ?_) fun hF => ?_
      ·
       refine ws 2496 2560 ?_
       refine qp (AB false) rfl ?_
       refine r_nil ?_
       refine w_ret ?_
       refine thenQ_r ?_
       cases hF
       exact eR
      ·
       refine w_skip ?_
       refine thenQ_n ?_
       refine w_seq ?_
       refine ws 2496 2880 ?_
       refine qp (.ptr 0 0 12) rfl (qp (AL 6 (v0.2.2.2.2.2.2.2.2.2.2.2.2.1.map eItem)) rfl (qp (.ptr 64 0 12) rfl (qp (AL 6 (v1.2.2.2.2.2.2.2.2.2.2.2.2.1.map eItem)) rfl ?_)))
       obtain ⟨v1006, e1006, hF⟩ := bind_get hF
       refine qc (AB v1006) [(64, .box [AS v1.1, AL 1 (v1.2.1.map (V.int .i64)), AL 1 (v1.2.2.1.map (V.int .i64)), AI v1.2.2.2.1, AI v1.2.2.2.2.1, AL 1 (v1.2.2.2.2.2.1.map (eL 1 (V.int .i64))), AL 2 (v1.2.2.2.2.2.2.1.map eNote), AS v1.2.2.2.2.2.2.2.1, AL 2 (v1.2.2.2.2.2.2.2.2.1.map eNote), AL 1 (v1.2.2.2.2.2.2.2.2.2.1.map (eL 1 (V.int .i64))), AL 3 (v1.2.2.2.2.2.2.2.2.2.2.1.map eSyllable), AL 2 (v1.2.2.2.2.2.2.2.2.2.2.2.1.map eNote), AL 6 (v1.2.2.2.2.2.2.2.2.2.2.2.2.1.map eItem), AL 5 (v1.2.2.2.2.2.2.2.2.2.2.2.2.2.1.map eLesson), AL 3 (v1.2.2.2.2.2.2.2.2.2.2.2.2.2.2.map ePerson)]), (0, .box [AS v0.1, AL 1 (v0.2.1.map (V.int .i64)), AL 1 (v0.2.2.1.map (V.int .i64)), AI v0.2.2.2.1, AI v0.2.2.2.2.1, AL 1 (v0.2.2.2.2.2.1.map (eL 1 (V.int .i64))), AL 2 (v0.2.2.2.2.2.2.1.map eNote), AS v0.2.2.2.2.2.2.2.1, AL 2 (v0.2.2.2.2.2.2.2.2.1.map eNote), AL 1 (v0.2.2.2.2.2.2.2.2.2.1.map (eL 1 (V.int .i64))), AL 3 (v0.2.2.2.2.2.2.2.2.2.2.1.map eSyllable), AL 2 (v0.2.2.2.2.2.2.2.2.2.2.2.1.map eNote), AL 6 (v0.2.2.2.2.2.2.2.2.2.2.2.2.1.map eItem), AL 5 (v0.2.2.2.2.2.2.2.2.2.2.2.2.2.1.map eLesson), AL 3 (v0.2.2.2.2.2.2.2.2.2.2.2.2.2.2.map ePerson)])] false (con_laws_eqItemS e1006) c88_ok (by first | rfl | simp) rfl ?_
       refine qp (AB (!v1006)) rfl ?_
       refine r_nil ?_
       refine cF hF (fun hF => ?_) fun hF => ?_
       ·
        refine ws 2880 2944 ?_
        refine qp (AB false) rfl ?_
        refine r_nil ?_
        refine w_ret ?_
        refine thenQ_r ?_
        cases hF
        exact eR
       ·
        refine w_skip ?_
        refine thenQ_n ?_
        refine w_seq ?_
        refine ws 2880 3264 ?_
        refine qp (.ptr 0 0 13) rfl (qp (AL 5 (v0.2.2.2.2.2.2.2.2.2.2.2.2.2.1.map eLesson)) rfl (qp (.ptr 64 0 13) rfl (qp (AL 5 (v1.2.2.2.2.2.2.2.2.2.2.2.2.2.1.map eLesson)) rfl ?_)))
        obtain ⟨v1007, e1007, hF⟩ := bind_get hF
        refine qc (AB v1007) [(64, .box [AS v1.1, AL 1 (v1.2.1.map (V.int .i64)), AL 1 (v1.2.2.1.map (V.int .i64)), AI v1.2.2.2.1, AI v1.2.2.2.2.1, AL 1 (v1.2.2.2.2.2.1.map (eL 1 (V.int .i64))), AL 2 (v1.2.2.2.2.2.2.1.map eNote), AS v1.2.2.2.2.2.2.2.1, AL 2 (v1.2.2.2.2.2.2.2.2.1.map eNote), AL 1 (v1.2.2.2.2.2.2.2.2.2.1.map (eL 1 (V.int .i64))), AL 3 (v1.2.2.2.2.2.2.2.2.2.2.1.map eSyllable), AL 2 (v1.2.2.2.2.2.2.2.2.2.2.2.1.map eNote), AL 6 (v1.2.2.2.2.2.2.2.2.2.2.2.2.1.map eItem), AL 5 (v1.2.2.2.2.2.2.2.2.2.2.2.2.2.1.map eLesson), AL 3 (v1.2.2.2.2.2.2.2.2.2.2.2.2.2.2.map ePerson)]), (0, .box [AS v0.1, AL 1 (v0.2.1.map (V.int .i64)), AL 1 (v0.2.2.1.map (V.int .i64)), AI v0.2.2.2.1, AI v0.2.2.2.2.1, AL 1 (v0.2.2.2.2.2.1.map (eL 1 (V.int .i64))), AL 2 (v0.2.2.2.2.2.2.1.map eNote), AS v0.2.2.2.2.2.2.2.1, AL 2 (v0.2.2.2.2.2.2.2.2.1.map eNote), AL 1 (v0.2.2.2.2.2.2.2.2.2.1.map (eL 1 (V.int .i64))), AL 3 (v0.2.2.2.2.2.2.2.2.2.2.1.map eSyllable), AL 2 (v0.2.2.2.2.2.2.2.2.2.2.2.1.map eNote), AL 6 (v0.2.2.2.2.2.2.2.2.2.2.2.2.1.map eItem), AL 5 (v0.2.2.2.2.2.2.2.2.2.2.2.2.2.1.map eLesson), AL 3 (v0.2.2.2.2.2.2.2.2.2.2.2.2.2.2.map ePerson)])] false (con_laws_eqLessonS e1007) c25_ok (by first | rfl | simp) rfl ?_
        refine qp (AB (!v1007)) rfl ?_
        refine r_nil ?_
        refine cF hF (fun hF => ?_) fun hF => ?_
        ·
         refine ws 3264 3328 ?_
         refine qp (AB false) rfl ?_
         refine r_nil ?_
         refine w_ret ?_
         refine thenQ_r ?_
         cases hF
         exact eR
        ·
         refine w_skip ?_
         refine thenQ_n ?_
         refine w_seq ?_
         refine ws 3264 3648 ?_
         refine qp (.ptr 0 0 14) rfl (qp (AL 3 (v0.2.2.2.2.2.2.2.2.2.2.2.2.2.2.map ePerson)) rfl (qp (.ptr 64 0 14) rfl (qp (AL 3 (v1.2.2.2.2.2.2.2.2.2.2.2.2.2.2.map ePerson)) rfl ?_)))
         obtain ⟨v1008, e1008, hF⟩ := bind_get hF
         refine qc (AB v1008) [(64, .box [AS v1.1, AL 1 (v1.2.1.map (V.int .i64)), AL 1 (v1.2.2.1.map (V.int .i64)), AI v1.2.2.2.1, AI v1.2.2.2.2.1, AL 1 (v1.2.2.2.2.2.1.map (eL 1 (V.int .i64))), AL 2 (v1.2.2.2.2.2.2.1.map eNote), AS v1.2.2.2.2.2.2.2.1, AL 2 (v1.2.2.2.2.2.2.2.2.1.map eNote), AL 1 (v1.2.2.2.2.2.2.2.2.2.1.map (eL 1 (V.int .i64))), AL 3 (v1.2.2.2.2.2.2.2.2.2.2.1.map eSyllable), AL 2 (v1.2.2.2.2.2.2.2.2.2.2.2.1.map eNote), AL 6 (v1.2.2.2.2.2.2.2.2.2.2.2.2.1.map eItem), AL 5 (v1.2.2.2.2.2.2.2.2.2.2.2.2.2.1.map eLesson), AL 3 (v1.2.2.2.2.2.2.2.2.2.2.2.2.2.2.map ePerson)]), (0, .box [AS v0.1, AL 1 (v0.2.1.map (V.int .i64)), AL 1 (v0.2.2.1.map (V.int .i64)), AI v0.2.2.2.1, AI v0.2.2.2.2.1, AL 1 (v0.2.2.2.2.2.1.map (eL 1 (V.int .i64))), AL 2 (v0.2.2.2.2.2.2.1.map eNote), AS v0.2.2.2.2.2.2.2.1, AL 2 (v0.2.2.2.2.2.2.2.2.1.map eNote), AL 1 (v0.2.2.2.2.2.2.2.2.2.1.map (eL 1 (V.int .i64))), AL 3 (v0.2.2.2.2.2.2.2.2.2.2.1.map eSyllable), AL 2 (v0.2.2.2.2.2.2.2.2.2.2.2.1.map eNote), AL 6 (v0.2.2.2.2.2.2.2.2.2.2.2.2.1.map eItem), AL 5 (v0.2.2.2.2.2.2.2.2.2.2.2.2.2.1.map eLesson), AL 3 (v0.2.2.2.2.2.2.2.2.2.2.2.2.2.2.map ePerson)])] false (con_laws_eqPersonS e1008) c89_ok (by first | rfl | simp) rfl ?_
         refine qp (AB (!v1008)) rfl ?_
         refine r_nil ?_
         refine cF hF (fun hF => ?_) fun hF => ?_
         ·
          refine ws 3648 3712 ?_
          refine qp (AB false) rfl ?_
          refine r_nil ?_
          refine w_ret ?_
          refine thenQ_r ?_
          cases hF
          exact eR
         ·
          refine w_skip ?_
          refine thenQ_n ?_
          refine ws 3648 3712 ?_
          refine qp (AB true) rfl ?_
          refine r_nil ?_
          refine w_ret ?_
          cases hF
          exact eR

end Go.Ab
