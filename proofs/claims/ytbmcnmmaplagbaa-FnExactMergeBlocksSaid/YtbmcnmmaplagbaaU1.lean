/- Walks (printed by auto.py, a program of this session's own). -/
import Derived.Test.YtbmcnmmaplagbaaU0
import Derived.Test.YtbmcnmmaplagbaaProg
import Derived.KernelRfl
import Derived.Test.YtbmcnmmaplagbaaSQ
set_option linter.unusedVariables false
set_option linter.unusedSimpArgs false
set_option maxRecDepth 8000
set_option maxHeartbeats 8000000
namespace Go.Ab
open Go.RowKit Go.Proofs

def c27 : MC := (.seq (.reg [rg 4 (.p true (.mv (.c (.int .i64 0))))]) (.seq (.seq (.reg [rg 5 (.p true (.mv (.c (.int .i64 0))))]) (.block 0 (.loop (.seq (.seq (.reg [rg 6 (.p true (.mv (.t 5))), rg 7 (.p true (.mv (.t 0))), rg 8 (.p true (.len (.t 7))), rg 9 (.p true (.bin .lss (.t 6) (.t 8)))]) (.cond (.t 9) .skip (.exit 0))) (.seq (.block 1 (.seq (.seq (.reg [rg 12 (.p false (.mv (.t 0))), rg 13 (.p false (.mv (.t 5))), rg 14 (.p false (.iad (.t 12) (.t 13) 3)), rg 15 (.p false (.fad (.t 14) 0)), rg 16 (.p false (.ld (.t 15) 1 false)), rg 17 (.p false (.mv (.t 1))), rg 18 (.call false 77 [(.t 17)]), rg 19 (.p false (.bin .neq (.t 16) (.t 18)))]) (.cond (.t 19) (.seq (.reg [rg 4 (.p true (.mv (.c (.int .i64 (-1)))))]) .ret) .skip)) (.seq (.reg [rg 20 (.p true (.mv (.t 1))), rg 21 (.p true (.bin .add (.t 20) (.c (.int .i64 1)))), rg 1 (.p true (.mv (.t 21)))]) (.seq (.seq (.reg [rg 22 (.p false (.mv (.t 0))), rg 23 (.p false (.mv (.t 5))), rg 24 (.p false (.iad (.t 22) (.t 23) 3)), rg 25 (.p false (.fad (.t 24) 1)), rg 26 (.p false (.ld (.t 25) 1 false)), rg 27 (.p false (.mv (.t 1))), rg 28 (.call false 77 [(.t 27)]), rg 29 (.p false (.bin .neq (.t 26) (.t 28)))]) (.cond (.t 29) (.seq (.reg [rg 4 (.p true (.mv (.c (.int .i64 (-1)))))]) .ret) .skip)) (.seq (.reg [rg 30 (.p true (.mv (.t 1))), rg 31 (.p true (.bin .add (.t 30) (.c (.int .i64 1)))), rg 1 (.p true (.mv (.t 31)))]) (.seq (.seq (.reg [rg 32 (.p false (.mv (.t 0))), rg 33 (.p false (.mv (.t 5))), rg 34 (.p false (.iad (.t 32) (.t 33) 3)), rg 35 (.p false (.fad (.t 34) 2)), rg 36 (.p false (.ld (.t 35) 1 false)), rg 37 (.p false (.mv (.t 1))), rg 38 (.call false 77 [(.t 37)]), rg 39 (.p false (.bin .neq (.t 36) (.t 38)))]) (.cond (.t 39) (.seq (.reg [rg 4 (.p true (.mv (.c (.int .i64 (-1)))))]) .ret) .skip)) (.reg [rg 40 (.p true (.mv (.t 1))), rg 41 (.p true (.bin .add (.t 40) (.c (.int .i64 1)))), rg 1 (.p true (.mv (.t 41)))]))))))) (.reg [rg 10 (.p true (.mv (.t 5))), rg 11 (.p true (.bin .add (.t 10) (.c (.int .i64 1)))), rg 5 (.p true (.mv (.t 11)))])))))) (.seq (.reg [rg 42 (.p true (.mv (.t 1))), rg 4 (.p true (.mv (.t 42)))]) .ret)))
theorem c27_is : compFn Try.prog 27 = some (c27, [(.tmp 4)]) := by kernel_rfl
theorem c27_ok : okFn Try.prog 27 = true := by kernel_rfl

noncomputable def F_laws_heldBlockS_l0 (v0 : List TBlock) (k0 : Int × Int → Option (Int)) : Int × Int → Option (Int)
 | (v16, v17) => (bif (decide (v17 < (v0.length : Int))) then ((ix v0 v17).bind fun v1000 => ((F_laws_markText v16).bind fun v1001 => (bif (decide (v1000.1 ≠ v1001)) then some (-1)
 else ((ix v0 v17).bind fun v1002 => ((F_laws_markText (w64 (v16 + 1))).bind fun v1003 => (bif (decide (v1002.2.1 ≠ v1003)) then some (-1)
 else ((ix v0 v17).bind fun v1004 => ((F_laws_markText (w64 ((w64 (v16 + 1)) + 1))).bind fun v1005 => (bif (decide (v1004.2.2 ≠ v1005)) then some (-1)
 else k0 (w64 ((w64 ((w64 (v16 + 1)) + 1)) + 1), w64 (v17 + 1)))))))))))
 else some v16)
noncomputable def F_laws_heldBlockS (v0 : List TBlock) (v1 : Int) : Option (Int) :=
 loop (F_laws_heldBlockS_l0 v0) (v1, 0)
@[simp] def res_laws_heldBlockS (r : Int) : RV := .one (.one (.val (.int .i64 r)))
theorem con_laws_heldBlockS {v0 : List TBlock} {v1 : Int} {r : Int} (hF : F_laws_heldBlockS v0 v1 = some r) : Con Try.prog 27 [.sl 3 (v0.map eBlock), .int .i64 v1] (res_laws_heldBlockS r) := by
 unfold F_laws_heldBlockS at hF
 refine con_of c27_is fun N => ?_
 refine ws 0 64 ?_
 refine qp (AI 0) rfl ?_
 refine r_nil ?_
 refine w_seq ?_
 refine ws 64 128 ?_
 refine qp (AI 0) rfl ?_
 refine r_nil ?_
 refine w_block ?_
 refine wr (l' := [(0, AL 3 (v0.map eBlock)), (1, AI v1), (5, AI 0)]) (L := []) [0, 1, 5] [] 1 ?_
 refine w_loopF (F_laws_heldBlockS_l0 v0) (fun s : Int × Int => mkS [(0, AL 3 (v0.map eBlock)), (1, AI s.1), (5, AI s.2)] (fo []) 1) hF ?_
 rintro k0 ⟨v16, v17⟩ hF
 rw [F_laws_heldBlockS_l0] at hF
 try dsimp only
 refine w_seq ?_
 refine ws 1 257 ?_
 refine qp (AI v17) rfl (qp (AL 3 (v0.map eBlock)) rfl (qp (AI (v0.length : Int)) (ev_len_n rfl) (qp (AB (decide (v17 < (v0.length : Int)))) rfl ?_)))
 refine r_nil ?_
 refine cF hF (fun hF => ?_) fun hF => ?_
 ·
  refine w_skip ?_
  refine thenQ_n ?_
  refine w_seq ?_
  refine w_block ?_
  refine w_seq ?_
  refine ws 257 769 ?_
  refine qp (AL 3 (v0.map eBlock)) rfl (qp (AI v17) rfl ?_)
  obtain ⟨v1000, e1000, hF⟩ := bind_get hF
  refine qp (.val none (.ptr [.str v1000.1, .str v1000.2.1, .str v1000.2.2])) (ev_iad_n rfl rfl e1000 rfl) (qp (.val none (.ptr [.str v1000.1, .str v1000.2.1, .str v1000.2.2])) rfl (qp (AS v1000.1) rfl (qp (AI v16) rfl ?_)))
  obtain ⟨v1001, e1001, hF⟩ := bind_get hF
  refine qc (AS v1001) [] false (con_laws_markText e1001) c77_ok (by first | rfl | simp) rfl ?_
  refine qp (AB (decide (v1000.1 ≠ v1001))) rfl ?_
  refine r_nil ?_
  refine cF hF (fun hF => ?_) fun hF => ?_
  ·
   refine ws 769 833 ?_
   refine qp (AI (-1)) rfl ?_
   refine r_nil ?_
   refine w_ret ?_
   refine thenQ_r ?_
   refine blockQ_r ?_
   refine thenQ_r ?_
   refine thenQ_r ?_
   refine blockQ_r ?_
   refine thenQ_r ?_
   cases hF
   exact eR
  ·
   refine w_skip ?_
   refine thenQ_n ?_
   refine ws 769 961 ?_
   refine qp (AI v16) rfl (qp (AI (w64 (v16 + 1))) rfl (qp (AI (w64 (v16 + 1))) rfl ?_))
   refine r_nil ?_
   refine w_seq ?_
   refine ws 961 1473 ?_
   refine qp (AL 3 (v0.map eBlock)) rfl (qp (AI v17) rfl ?_)
   obtain ⟨v1002, e1002, hF⟩ := bind_get hF
   refine qp (.val none (.ptr [.str v1002.1, .str v1002.2.1, .str v1002.2.2])) (ev_iad_n rfl rfl e1002 rfl) (qp (.val none (.ptr [.str v1002.2.1, .str v1002.2.2])) rfl (qp (AS v1002.2.1) rfl (qp (AI (w64 (v16 + 1))) rfl ?_)))
   obtain ⟨v1003, e1003, hF⟩ := bind_get hF
   refine qc (AS v1003) [] false (con_laws_markText e1003) c77_ok (by first | rfl | simp) rfl ?_
   refine qp (AB (decide (v1002.2.1 ≠ v1003))) rfl ?_
   refine r_nil ?_
   refine cF hF (fun hF => ?_) fun hF => ?_
   ·
    refine ws 1473 1537 ?_
    refine qp (AI (-1)) rfl ?_
    refine r_nil ?_
    refine w_ret ?_
    refine thenQ_r ?_
    refine blockQ_r ?_
    refine thenQ_r ?_
    refine thenQ_r ?_
    refine blockQ_r ?_
    refine thenQ_r ?_
    cases hF
    exact eR
   ·
    refine w_skip ?_
    refine thenQ_n ?_
    refine ws 1473 1665 ?_
    refine qp (AI (w64 (v16 + 1))) rfl (qp (AI (w64 ((w64 (v16 + 1)) + 1))) rfl (qp (AI (w64 ((w64 (v16 + 1)) + 1))) rfl ?_))
    refine r_nil ?_
    refine w_seq ?_
    refine ws 1665 2177 ?_
    refine qp (AL 3 (v0.map eBlock)) rfl (qp (AI v17) rfl ?_)
    obtain ⟨v1004, e1004, hF⟩ := bind_get hF
    refine qp (.val none (.ptr [.str v1004.1, .str v1004.2.1, .str v1004.2.2])) (ev_iad_n rfl rfl e1004 rfl) (qp (.val none (.ptr [.str v1004.2.2])) rfl (qp (AS v1004.2.2) rfl (qp (AI (w64 ((w64 (v16 + 1)) + 1))) rfl ?_)))
    obtain ⟨v1005, e1005, hF⟩ := bind_get hF
    refine qc (AS v1005) [] false (con_laws_markText e1005) c77_ok (by first | rfl | simp) rfl ?_
    refine qp (AB (decide (v1004.2.2 ≠ v1005))) rfl ?_
    refine r_nil ?_
    refine cF hF (fun hF => ?_) fun hF => ?_
    ·
     refine ws 2177 2241 ?_
     refine qp (AI (-1)) rfl ?_
     refine r_nil ?_
     refine w_ret ?_
     refine thenQ_r ?_
     refine blockQ_r ?_
     refine thenQ_r ?_
     refine thenQ_r ?_
     refine blockQ_r ?_
     refine thenQ_r ?_
     cases hF
     exact eR
    ·
     refine w_skip ?_
     refine thenQ_n ?_
     refine w_reg 2177 2369 rfl rfl ?_
     refine qp (AI (w64 ((w64 (v16 + 1)) + 1))) rfl (qp (AI (w64 ((w64 ((w64 (v16 + 1)) + 1)) + 1))) rfl (qp (AI (w64 ((w64 ((w64 (v16 + 1)) + 1)) + 1))) rfl ?_))
     refine r_nil ?_
     refine blockQ_n ?_
     refine thenQ_n ?_
     refine w_reg 2369 2561 rfl rfl ?_
     refine qp (AI v17) rfl (qp (AI (w64 (v17 + 1))) rfl (qp (AI (w64 (v17 + 1))) rfl ?_))
     refine r_nil ?_
     refine thenQ_n ?_
     refine ar (l' := [(0, AL 3 (v0.map eBlock)), (1, AI (w64 ((w64 ((w64 (v16 + 1)) + 1)) + 1))), (5, AI (w64 (v17 + 1)))]) (L := []) [0, 1, 5] [] 1 ⟨_, by rfl, hF⟩
 ·
  refine w_exit ?_
  refine thenQ_e ?_
  refine thenQ_e ?_
  refine blockQ_e ?_
  refine thenQ_n ?_
  refine ws 257 385 ?_
  refine qp (AI v16) rfl (qp (AI v16) rfl ?_)
  refine r_nil ?_
  refine w_ret ?_
  cases hF
  exact eR

def c9 : MC := (.seq (.reg [rg 4 (.p true (.mv (.c (.bool false))))]) (.seq (.reg [rg 5 (.p true (.mv (.c (.int .i64 1048576))))]) (.seq (.reg [rg 17 (.p true (.mv (.t 0))), rg 18 (.p true (.mv (.t 5))), rg 19 (.call true 21 [(.t 17), (.t 18)]), rg 5 (.p true (.mv (.t 19)))]) (.seq (.seq (.reg [rg 20 (.p true (.mv (.t 5))), rg 21 (.p true (.bin .lss (.t 20) (.c (.int .i64 0))))]) (.cond (.t 21) (.seq (.reg [rg 4 (.p true (.mv (.c (.bool true))))]) .ret) .skip)) (.seq (.reg [rg 22 (.p true (.mv (.t 1))), rg 23 (.p true (.mv (.t 5))), rg 24 (.call true 21 [(.t 22), (.t 23)]), rg 5 (.p true (.mv (.t 24)))]) (.seq (.seq (.reg [rg 25 (.p true (.mv (.t 5))), rg 26 (.p true (.bin .lss (.t 25) (.c (.int .i64 0))))]) (.cond (.t 26) (.seq (.reg [rg 4 (.p true (.mv (.c (.bool true))))]) .ret) .skip)) (.seq (.reg [rg 28 (.p true (.mv (.t 0))), rg 29 (.call true 23 [(.t 28)]), rg 30 (.p true (.mv (.t 1))), rg 31 (.call true 23 [(.t 30)]), rg 32 (.call true 42 [(.t 29), (.t 31)]), rg 27 (.p true (.mv (.t 32))), rg 33 (.p true (.ext (.t 27) 0)), rg 34 (.p true (.ext (.t 27) 1)), rg 6 (.p true (.mv (.t 33))), rg 7 (.p true (.mv (.t 34)))]) (.seq (.reg [rg 35 (.p true (.mv (.t 0))), rg 36 (.call true 23 [(.t 35)]), rg 8 (.p true (.mv (.t 36)))]) (.seq (.reg [rg 37 (.p true (.mv (.t 1))), rg 38 (.call true 23 [(.t 37)]), rg 9 (.p true (.mv (.t 38)))]) (.seq (.reg [rg 40 (.p true (.mv (.t 8))), rg 41 (.p true (.mv (.t 9))), rg 42 (.call true 43 [(.t 40), (.t 41)]), rg 39 (.p true (.mv (.t 42))), rg 43 (.p true (.ext (.t 39) 0)), rg 44 (.p true (.ext (.t 39) 1)), rg 10 (.p true (.mv (.t 43))), rg 11 (.p true (.mv (.t 44)))]) (.seq (.seq (.reg [rg 45 (.p true (.mv (.t 10))), rg 46 (.p true (.mv (.t 6))), rg 47 (.call true 25 [(.t 45), (.t 46)]), rg 48 (.p true (.not (.t 47))), rg 49 (.p true (.mv (.t 48))), ⟨(some 50), (some (49, false)), (.p true (.mv (.t 11)))⟩, ⟨(some 51), (some (49, false)), (.p true (.mv (.t 7)))⟩, ⟨(some 52), (some (49, false)), (.p true (.bin .neq (.t 50) (.t 51)))⟩, rg 53 (.p true (.pick (.t 49) (.c (.bool true)) (.t 52)))]) (.cond (.t 53) (.seq (.reg [rg 4 (.p true (.mv (.c (.bool false))))]) .ret) .skip)) (.seq (.seq (.reg [rg 54 (.p true (.mv (.t 8))), rg 55 (.p true (.mv (.t 0))), rg 56 (.call true 23 [(.t 55)]), rg 57 (.call true 25 [(.t 54), (.t 56)]), rg 58 (.p true (.not (.t 57)))]) (.cond (.t 58) (.seq (.reg [rg 4 (.p true (.mv (.c (.bool false))))]) .ret) .skip)) (.seq (.seq (.reg [rg 59 (.p true (.mv (.t 9))), rg 60 (.p true (.mv (.t 1))), rg 61 (.call true 23 [(.t 60)]), rg 62 (.call true 25 [(.t 59), (.t 61)]), rg 63 (.p true (.not (.t 62)))]) (.cond (.t 63) (.seq (.reg [rg 4 (.p true (.mv (.c (.bool false))))]) .ret) .skip)) (.seq (.reg [rg 12 (.p true (.mv (.c (.int .i64 1))))]) (.seq (.reg [rg 64 (.p true (.mv (.t 8))), rg 65 (.p true (.mv (.t 12))), rg 66 (.call true 26 [(.t 64), (.t 65)]), rg 12 (.p true (.mv (.t 66)))]) (.seq (.reg [rg 67 (.p true (.mv (.t 9))), rg 68 (.p true (.mv (.t 12))), rg 69 (.call true 26 [(.t 67), (.t 68)]), rg 12 (.p true (.mv (.t 69)))]) (.seq (.seq (.reg [rg 70 (.p true (.mv (.t 12))), rg 71 (.p true (.bin .lss (.t 70) (.c (.int .i64 0)))), rg 72 (.p true (.mv (.t 71))), ⟨(some 73), (some (72, false)), (.p true (.mv (.t 10)))⟩, ⟨(some 74), (some (72, false)), (.p true (.mv (.t 6)))⟩, ⟨(some 75), (some (72, false)), (.call true 25 [(.t 73), (.t 74)])⟩, ⟨(some 76), (some (72, false)), (.p true (.not (.t 75)))⟩, rg 77 (.p true (.pick (.t 72) (.c (.bool true)) (.t 76))), rg 78 (.p true (.mv (.t 77))), ⟨(some 79), (some (78, false)), (.p true (.mv (.t 11)))⟩, ⟨(some 80), (some (78, false)), (.p true (.mv (.t 7)))⟩, ⟨(some 81), (some (78, false)), (.p true (.bin .neq (.t 79) (.t 80)))⟩, rg 82 (.p true (.pick (.t 78) (.c (.bool true)) (.t 81)))]) (.cond (.t 82) (.seq (.reg [rg 4 (.p true (.mv (.c (.bool false))))]) .ret) .skip)) (.seq (.reg [rg 13 (.p true (.mv (.c (.int .i64 1))))]) (.seq (.reg [rg 83 (.p true (.mv (.t 10))), rg 84 (.p true (.mv (.t 13))), rg 85 (.call true 26 [(.t 83), (.t 84)]), rg 13 (.p true (.mv (.t 85)))]) (.seq (.reg [rg 14 (.p true (.mv (.c (.int .i64 1))))]) (.seq (.reg [rg 86 (.p true (.mv (.t 10))), rg 87 (.p true (.mv (.t 14))), rg 88 (.call true 27 [(.t 86), (.t 87)]), rg 14 (.p true (.mv (.t 88)))]) (.seq (.seq (.reg [rg 89 (.p true (.mv (.t 14))), rg 90 (.p true (.bin .lss (.t 89) (.c (.int .i64 0))))]) (.cond (.t 90) (.seq (.reg [rg 4 (.p true (.mv (.c (.bool false))))]) .ret) .skip)) (.seq (.seq (.reg [rg 91 (.p true (.mv (.t 14))), rg 92 (.p true (.mv (.t 13))), rg 93 (.p true (.bin .neq (.t 91) (.t 92)))]) (.cond (.t 93) (.seq (.reg [rg 4 (.p true (.mv (.c (.bool false))))]) .ret) .skip)) (.seq (.reg [rg 95 (.p true (.mv (.t 0))), rg 96 (.call true 23 [(.t 95)]), rg 97 (.p true (.mv (.t 1))), rg 98 (.call true 23 [(.t 97)]), rg 99 (.call true 43 [(.t 96), (.t 98)]), rg 94 (.p true (.mv (.t 99))), rg 100 (.p true (.ext (.t 94) 0)), rg 101 (.p true (.ext (.t 94) 1)), rg 15 (.p true (.mv (.t 100))), rg 16 (.p true (.mv (.t 101)))]) (.seq (.seq (.reg [rg 102 (.p true (.mv (.t 15))), rg 103 (.p true (.mv (.t 6))), rg 104 (.call true 25 [(.t 102), (.t 103)]), rg 105 (.p true (.not (.t 104))), rg 106 (.p true (.mv (.t 105))), ⟨(some 107), (some (106, false)), (.p true (.mv (.t 16)))⟩, ⟨(some 108), (some (106, false)), (.p true (.mv (.t 7)))⟩, ⟨(some 109), (some (106, false)), (.p true (.bin .neq (.t 107) (.t 108)))⟩, rg 110 (.p true (.pick (.t 106) (.c (.bool true)) (.t 109)))]) (.cond (.t 110) (.seq (.reg [rg 4 (.p true (.mv (.c (.bool false))))]) .ret) .skip)) (.seq (.reg [rg 14 (.p true (.mv (.c (.int .i64 1))))]) (.seq (.reg [rg 111 (.p true (.mv (.t 10))), rg 112 (.p true (.mv (.t 14))), rg 113 (.call true 27 [(.t 111), (.t 112)]), rg 14 (.p true (.mv (.t 113)))]) (.seq (.seq (.reg [rg 114 (.p true (.mv (.t 14))), rg 115 (.p true (.bin .lss (.t 114) (.c (.int .i64 0))))]) (.cond (.t 115) (.seq (.reg [rg 4 (.p true (.mv (.c (.bool false))))]) .ret) .skip)) (.seq (.seq (.reg [rg 116 (.p true (.mv (.t 14))), rg 117 (.p true (.mv (.t 13))), rg 118 (.p true (.bin .neq (.t 116) (.t 117)))]) (.cond (.t 118) (.seq (.reg [rg 4 (.p true (.mv (.c (.bool false))))]) .ret) .skip)) (.seq (.reg [rg 4 (.p true (.mv (.c (.bool true))))]) .ret))))))))))))))))))))))))))))))
theorem c9_is : compFn Try.prog 9 = some (c9, [(.tmp 4)]) := by kernel_rfl
theorem c9_ok : okFn Try.prog 9 = true := by kernel_rfl

noncomputable def F_laws_FnExactMergeBlocks (v0 : List TBlock) (v1 : List TBlock) : Option (Bool) :=
 ((F_laws_szBlockS v0 1048576).bind fun v1000 => (bif (decide (v1000 < (0 : Int))) then some true
 else ((F_laws_szBlockS v1 v1000).bind fun v1001 => (bif (decide (v1001 < (0 : Int))) then some true
 else ((F_laws_toBlockS v0).bind fun v1002 => ((F_laws_toBlockS v1).bind fun v1003 => ((F_spec_MergeBlocks v1002 v1003).bind fun v1004 => ((F_laws_toBlockS v0).bind fun v1005 => ((F_laws_toBlockS v1).bind fun v1006 => ((F_impl_MergeBlocks v1005 v1006).bind fun v1007 => ((F_laws_eqBlockS v1007.1 v1004.1).bind fun v1009 => (bif (!v1009) then some false
 else (bif (decide (v1007.2 ≠ v1004.2)) then some false
 else ((F_laws_toBlockS v0).bind fun v1010 => ((F_laws_eqBlockS v1005 v1010).bind fun v1011 => (bif (!v1011) then some false
 else ((F_laws_toBlockS v1).bind fun v1012 => ((F_laws_eqBlockS v1006 v1012).bind fun v1013 => (bif (!v1013) then some false
 else ((F_laws_markBlockS v1005 1).bind fun v1014 => need (v1014.1.length = v1005.length) (((F_laws_markBlockS v1006 v1014.2).bind fun v1016 => need (v1016.1.length = v1006.length) ((bif (decide (v1016.2 < (0 : Int))) then some false
 else ((F_laws_eqBlockS v1007.1 v1004.1).bind fun v1019 => (bif (!v1019) then some false
 else (bif (decide (v1007.2 ≠ v1004.2)) then some false
 else ((F_laws_markBlockS v1007.1 1).bind fun v1020 => need (v1020.1.length = v1007.1.length) (((F_laws_heldBlockS v1020.1 1).bind fun v1022 => (bif (decide (v1022 < (0 : Int))) then some false
 else (bif (decide (v1022 ≠ v1020.2)) then some false
 else ((F_laws_toBlockS v0).bind fun v1023 => ((F_laws_toBlockS v1).bind fun v1024 => ((F_impl_MergeBlocks v1023 v1024).bind fun v1025 => ((F_laws_eqBlockS v1025.1 v1004.1).bind fun v1027 => (bif (!v1027) then some false
 else (bif (decide (v1025.2 ≠ v1004.2)) then some false
 else ((F_laws_heldBlockS v1020.1 1).bind fun v1028 => (bif (decide (v1028 < (0 : Int))) then some false
 else (bif (decide (v1028 ≠ v1020.2)) then some false
 else some true)))))))))))))))))))))))))))))))))))))))))
@[simp] def res_laws_FnExactMergeBlocks (r : Bool) : RV := .one (.one (.val (.bool r)))
theorem con_laws_FnExactMergeBlocks {v0 : List TBlock} {v1 : List TBlock} {r : Bool} (hF : F_laws_FnExactMergeBlocks v0 v1 = some r) : Con Try.prog 9 [.sl 3 (v0.map eBlock), .sl 3 (v1.map eBlock)] (res_laws_FnExactMergeBlocks r) := by
 unfold F_laws_FnExactMergeBlocks at hF
 refine con_of c9_is fun N => ?_
 refine ws 0 64 ?_
 refine qp (AB false) rfl ?_
 refine r_nil ?_
 refine ws 64 128 ?_
 refine qp (AI 1048576) rfl ?_
 refine r_nil ?_
 refine ws 128 384 ?_
 refine qp (AL 3 (v0.map eBlock)) rfl (qp (AI 1048576) rfl ?_)
 obtain ⟨v1000, e1000, hF⟩ := bind_get hF
 refine qc (AI v1000) [] false (con_laws_szBlockS e1000) c21_ok (by first | rfl | simp) rfl ?_
 refine qp (AI v1000) rfl ?_
 refine r_nil ?_
 refine w_seq ?_
 refine ws 384 512 ?_
 refine qp (AI v1000) rfl (qp (AB (decide (v1000 < (0 : Int)))) rfl ?_)
 refine r_nil ?_
 refine cF hF (fun hF => ?_) fun hF => ?_
 ·
  refine ws 512 576 ?_
  refine qp (AB true) rfl ?_
  refine r_nil ?_
  refine w_ret ?_
  refine thenQ_r ?_
  cases hF
  exact eR
 ·
  refine w_skip ?_
  refine thenQ_n ?_
  refine ws 512 768 ?_
  refine qp (AL 3 (v1.map eBlock)) rfl (qp (AI v1000) rfl ?_)
  obtain ⟨v1001, e1001, hF⟩ := bind_get hF
  refine qc (AI v1001) [] false (con_laws_szBlockS e1001) c21_ok (by first | rfl | simp) rfl ?_
  refine qp (AI v1001) rfl ?_
  refine r_nil ?_
  refine w_seq ?_
  refine ws 768 896 ?_
  refine qp (AI v1001) rfl (qp (AB (decide (v1001 < (0 : Int)))) rfl ?_)
  refine r_nil ?_
  refine cF hF (fun hF => ?_) fun hF => ?_
  ·
   refine ws 896 960 ?_
   refine qp (AB true) rfl ?_
   refine r_nil ?_
   refine w_ret ?_
   refine thenQ_r ?_
   cases hF
   exact eR
  ·
   refine w_skip ?_
   refine thenQ_n ?_
   refine ws 896 1536 ?_
   refine qp (AL 3 (v0.map eBlock)) rfl ?_
   obtain ⟨v1002, e1002, hF⟩ := bind_get hF
   refine qc (.sl 960 0 v1002.length) [(960, .row true 3 (v1002.map eBlock))] false (con_laws_toBlockS e1002) c23_ok (by first | rfl | simp) (by simp [res_laws_toBlockS]) ?_
   refine qp (AL 3 (v1.map eBlock)) rfl ?_
   obtain ⟨v1003, e1003, hF⟩ := bind_get hF
   refine qc (.sl 1088 0 v1003.length) [(1088, .row true 3 (v1003.map eBlock)), (960, .row true 3 (v1002.map eBlock))] false (con_laws_toBlockS e1003) c23_ok (by first | rfl | simp) (by simp [res_laws_toBlockS]) ?_
   obtain ⟨v1004, e1004, hF⟩ := bind_get hF
   refine qc (.tup [.sl 1152 0 v1004.1.length, AI v1004.2]) [(1152, .row true 3 (v1004.1.map eBlock)), (1088, .row true 3 (v1003.map eBlock)), (960, .row true 3 (v1002.map eBlock))] true (con_spec_MergeBlocks e1004) c42_ok (by simp [List.take_of_length_le]) (by simp [res_spec_MergeBlocks]) ?_
   refine qp (.tup [.sl 1152 0 v1004.1.length, AI v1004.2]) rfl (qp (.sl 1152 0 v1004.1.length) rfl (qp (AI v1004.2) rfl (qp (.sl 1152 0 v1004.1.length) rfl (qp (AI v1004.2) rfl ?_))))
   refine r_nil ?_
   refine ws 1536 1728 ?_
   refine qp (AL 3 (v0.map eBlock)) rfl ?_
   obtain ⟨v1005, e1005, hF⟩ := bind_get hF
   refine qc (.sl 1600 0 v1005.length) [(1600, .row true 3 (v1005.map eBlock)), (1152, .row true 3 (v1004.1.map eBlock)), (1088, .row true 3 (v1003.map eBlock)), (960, .row true 3 (v1002.map eBlock))] false (con_laws_toBlockS e1005) c23_ok (by first | rfl | simp) (by simp [res_laws_toBlockS]) ?_
   refine qp (.sl 1600 0 v1005.length) rfl ?_
   refine r_nil ?_
   refine ws 1728 1920 ?_
   refine qp (AL 3 (v1.map eBlock)) rfl ?_
   obtain ⟨v1006, e1006, hF⟩ := bind_get hF
   refine qc (.sl 1792 0 v1006.length) [(1792, .row true 3 (v1006.map eBlock)), (1600, .row true 3 (v1005.map eBlock)), (1152, .row true 3 (v1004.1.map eBlock)), (1088, .row true 3 (v1003.map eBlock)), (960, .row true 3 (v1002.map eBlock))] false (con_laws_toBlockS e1006) c23_ok (by first | rfl | simp) (by simp [res_laws_toBlockS]) ?_
   refine qp (.sl 1792 0 v1006.length) rfl ?_
   refine r_nil ?_
   refine ws 1920 2432 ?_
   refine qp (.sl 1600 0 v1005.length) rfl (qp (.sl 1792 0 v1006.length) rfl ?_)
   obtain ⟨v1007, e1007, hF⟩ := bind_get hF
   refine qc (.tup [.sl 2048 0 v1007.1.length, AI v1007.2]) [(2048, .row true 3 (v1007.1.map eBlock)), (1792, .row true 3 (v1006.map eBlock)), (1600, .row true 3 (v1005.map eBlock)), (1152, .row true 3 (v1004.1.map eBlock)), (1088, .row true 3 (v1003.map eBlock)), (960, .row true 3 (v1002.map eBlock))] true (con_impl_MergeBlocks e1007) c43_ok (by simp [List.take_of_length_le]) (by simp [res_impl_MergeBlocks]) ?_
   refine qp (.tup [.sl 2048 0 v1007.1.length, AI v1007.2]) rfl (qp (.sl 2048 0 v1007.1.length) rfl (qp (AI v1007.2) rfl (qp (.sl 2048 0 v1007.1.length) rfl (qp (AI v1007.2) rfl ?_))))
   refine r_nil ?_
   refine w_seq ?_
   refine ws 2432 3008 ?_
   refine qp (.sl 2048 0 v1007.1.length) rfl (qp (.sl 1152 0 v1004.1.length) rfl ?_)
   obtain ⟨v1009, e1009, hF⟩ := bind_get hF
   refine qc (AB v1009) [(2048, .row true 3 (v1007.1.map eBlock)), (1792, .row true 3 (v1006.map eBlock)), (1600, .row true 3 (v1005.map eBlock)), (1152, .row true 3 (v1004.1.map eBlock)), (1088, .row true 3 (v1003.map eBlock)), (960, .row true 3 (v1002.map eBlock))] true (con_laws_eqBlockS e1009) c25_ok (by simp [List.take_of_length_le]) rfl ?_
   refine qp (AB (!v1009)) rfl (qp (AB (!v1009)) rfl ?_)
   refine q_case 49 hF rfl (fun hF => ?_) (fun hF => ?_)
   ·
    refine qn rfl (qn rfl (qn rfl (qp (AB true) rfl ?_)))
    refine r_nil ?_
    refine w_true rfl ?_
    refine ws 3008 3072 ?_
    refine qp (AB false) rfl ?_
    refine r_nil ?_
    refine w_ret ?_
    refine thenQ_r ?_
    cases hF
    exact eR
   ·
    refine qg (AI v1007.2) rfl rfl (qg (AI v1004.2) rfl rfl (qg (AB (decide (v1007.2 ≠ v1004.2))) rfl rfl (qp (AB (decide (v1007.2 ≠ v1004.2))) rfl ?_)))
    refine r_nil ?_
    refine cF hF (fun hF => ?_) fun hF => ?_
    ·
     refine ws 3008 3072 ?_
     refine qp (AB false) rfl ?_
     refine r_nil ?_
     refine w_ret ?_
     refine thenQ_r ?_
     cases hF
     exact eR
    ·
     refine w_skip ?_
     refine thenQ_n ?_
     refine w_seq ?_
     refine ws 3008 3328 ?_
     refine qp (.sl 1600 0 v1005.length) rfl (qp (AL 3 (v0.map eBlock)) rfl ?_)
     obtain ⟨v1010, e1010, hF⟩ := bind_get hF
     refine qc (.sl 3136 0 v1010.length) [(3136, .row true 3 (v1010.map eBlock)), (2048, .row true 3 (v1007.1.map eBlock)), (1792, .row true 3 (v1006.map eBlock)), (1600, .row true 3 (v1005.map eBlock)), (1152, .row true 3 (v1004.1.map eBlock)), (1088, .row true 3 (v1003.map eBlock)), (960, .row true 3 (v1002.map eBlock))] false (con_laws_toBlockS e1010) c23_ok (by first | rfl | simp) (by simp [res_laws_toBlockS]) ?_
     obtain ⟨v1011, e1011, hF⟩ := bind_get hF
     refine qc (AB v1011) [(3136, .row true 3 (v1010.map eBlock)), (2048, .row true 3 (v1007.1.map eBlock)), (1792, .row true 3 (v1006.map eBlock)), (1600, .row true 3 (v1005.map eBlock)), (1152, .row true 3 (v1004.1.map eBlock)), (1088, .row true 3 (v1003.map eBlock)), (960, .row true 3 (v1002.map eBlock))] true (con_laws_eqBlockS e1011) c25_ok (by simp [List.take_of_length_le]) rfl ?_
     refine qp (AB (!v1011)) rfl ?_
     refine r_nil ?_
     refine cF hF (fun hF => ?_) fun hF => ?_
     ·
      refine ws 3328 3392 ?_
      refine qp (AB false) rfl ?_
      refine r_nil ?_
      refine w_ret ?_
      refine thenQ_r ?_
      cases hF
      exact eR
     ·
      refine w_skip ?_
      refine thenQ_n ?_
      refine w_seq ?_
      refine ws 3328 3648 ?_
      refine qp (.sl 1792 0 v1006.length) rfl (qp (AL 3 (v1.map eBlock)) rfl ?_)
      obtain ⟨v1012, e1012, hF⟩ := bind_get hF
      refine qc (.sl 3456 0 v1012.length) [(3456, .row true 3 (v1012.map eBlock)), (3136, .row true 3 (v1010.map eBlock)), (2048, .row true 3 (v1007.1.map eBlock)), (1792, .row true 3 (v1006.map eBlock)), (1600, .row true 3 (v1005.map eBlock)), (1152, .row true 3 (v1004.1.map eBlock)), (1088, .row true 3 (v1003.map eBlock)), (960, .row true 3 (v1002.map eBlock))] false (con_laws_toBlockS e1012) c23_ok (by first | rfl | simp) (by simp [res_laws_toBlockS]) ?_
      obtain ⟨v1013, e1013, hF⟩ := bind_get hF
      refine qc (AB v1013) [(3456, .row true 3 (v1012.map eBlock)), (3136, .row true 3 (v1010.map eBlock)), (2048, .row true 3 (v1007.1.map eBlock)), (1792, .row true 3 (v1006.map eBlock)), (1600, .row true 3 (v1005.map eBlock)), (1152, .row true 3 (v1004.1.map eBlock)), (1088, .row true 3 (v1003.map eBlock)), (960, .row true 3 (v1002.map eBlock))] true (con_laws_eqBlockS e1013) c25_ok (by simp [List.take_of_length_le]) rfl ?_
      refine qp (AB (!v1013)) rfl ?_
      refine r_nil ?_
      refine cF hF (fun hF => ?_) fun hF => ?_
      ·
       refine ws 3648 3712 ?_
       refine qp (AB false) rfl ?_
       refine r_nil ?_
       refine w_ret ?_
       refine thenQ_r ?_
       cases hF
       exact eR
      ·
       refine w_skip ?_
       refine thenQ_n ?_
       refine ws 3648 3712 ?_
       refine qp (AI 1) rfl ?_
       refine r_nil ?_
       refine ws 3712 3968 ?_
       refine qp (.sl 1600 0 v1005.length) rfl (qp (AI 1) rfl ?_)
       obtain ⟨v1014, e1014, hF⟩ := bind_get hF
       obtain ⟨g1015, hF⟩ := need_some hF
       refine qm (ls := [1600]) [(1600, .row true 3 (v1014.1.map eBlock)), (3456, .row true 3 (v1012.map eBlock)), (3136, .row true 3 (v1010.map eBlock)), (2048, .row true 3 (v1007.1.map eBlock)), (1792, .row true 3 (v1006.map eBlock)), (1600, .row true 3 (v1005.map eBlock)), (1152, .row true 3 (v1004.1.map eBlock)), (1088, .row true 3 (v1003.map eBlock)), (960, .row true 3 (v1002.map eBlock))] (con_laws_markBlockS e1014) c26_ok (by first | rfl | simp [takeM, takeML, takeM1, g1015]) (by decide) (by simp [like2, likeL, like1, g1015]) rfl rfl rfl (by simp [scrO_fo, newO2, newO, scrR, scrA, scrAs]) ?_
       refine qp (AI v1014.2) rfl ?_
       refine r_nil ?_
       refine ws 3968 4224 ?_
       refine qp (.sl 1792 0 v1006.length) rfl (qp (AI v1014.2) rfl ?_)
       obtain ⟨v1016, e1016, hF⟩ := bind_get hF
       obtain ⟨g1017, hF⟩ := need_some hF
       refine qm (ls := [1792]) [(1792, .row true 3 (v1016.1.map eBlock)), (1600, .row true 3 (v1014.1.map eBlock)), (3456, .row true 3 (v1012.map eBlock)), (3136, .row true 3 (v1010.map eBlock)), (2048, .row true 3 (v1007.1.map eBlock)), (1792, .row true 3 (v1006.map eBlock)), (1600, .row true 3 (v1005.map eBlock)), (1152, .row true 3 (v1004.1.map eBlock)), (1088, .row true 3 (v1003.map eBlock)), (960, .row true 3 (v1002.map eBlock))] (con_laws_markBlockS e1016) c26_ok (by first | rfl | simp [takeM, takeML, takeM1, g1015, g1017]) (by decide) (by simp [like2, likeL, like1, g1017]) rfl rfl rfl (by simp [scrO_fo, newO2, newO, scrR, scrA, scrAs]) ?_
       refine qp (AI v1016.2) rfl ?_
       refine r_nil ?_
       refine w_seq ?_
       refine ws 4224 5056 ?_
       refine qp (AI v1016.2) rfl (qp (AB (decide (v1016.2 < (0 : Int)))) rfl (qp (AB (decide (v1016.2 < (0 : Int)))) rfl ?_))
       refine q_case 72 hF rfl (fun hF => ?_) (fun hF => ?_)
       ·
        refine qn rfl (qn rfl (qn rfl (qn rfl (qp (AB true) rfl (qp (AB true) rfl (qn rfl (qn rfl ?_)))))))
        refine qn rfl (qp (AB true) rfl ?_)
        refine r_nil ?_
        refine w_true rfl ?_
        refine ws 5056 5120 ?_
        refine qp (AB false) rfl ?_
        refine r_nil ?_
        refine w_ret ?_
        refine thenQ_r ?_
        cases hF
        exact endQ_r rfl (.inl ⟨_, _, by first | rfl | (simp [List.take_of_length_le]; first | exact ⟨rfl, rfl⟩ | rfl), by simp, by first | rfl | simp [res_laws_FnExactMergeBlocks, List.take_of_length_le, g1015, g1017]⟩)
       ·
        refine qg (.sl 2048 0 v1007.1.length) rfl rfl (qg (.sl 1152 0 v1004.1.length) rfl rfl ?_)
        obtain ⟨v1019, e1019, hF⟩ := bind_get hF
        refine qcg (AB v1019) [(1792, .row true 3 (v1016.1.map eBlock)), (1600, .row true 3 (v1014.1.map eBlock)), (3456, .row true 3 (v1012.map eBlock)), (3136, .row true 3 (v1010.map eBlock)), (2048, .row true 3 (v1007.1.map eBlock)), (1792, .row true 3 (v1006.map eBlock)), (1600, .row true 3 (v1005.map eBlock)), (1152, .row true 3 (v1004.1.map eBlock)), (1088, .row true 3 (v1003.map eBlock)), (960, .row true 3 (v1002.map eBlock))] true rfl (con_laws_eqBlockS e1019) c25_ok (by simp [g1015, g1017, List.take_of_length_le]) rfl ?_
        refine qg (AB (!v1019)) rfl rfl (qp (AB (!v1019)) rfl (qp (AB (!v1019)) rfl ?_))
        refine q_case 78 hF rfl (fun hF => ?_) (fun hF => ?_)
        ·
         refine qn rfl (qn rfl (qn rfl (qp (AB true) rfl ?_)))
         refine r_nil ?_
         refine w_true rfl ?_
         refine ws 5056 5120 ?_
         refine qp (AB false) rfl ?_
         refine r_nil ?_
         refine w_ret ?_
         refine thenQ_r ?_
         cases hF
         exact endQ_r rfl (.inl ⟨_, _, by first | rfl | (simp [List.take_of_length_le]; first | exact ⟨rfl, rfl⟩ | rfl), by simp, by first | rfl | simp [res_laws_FnExactMergeBlocks, List.take_of_length_le, g1015, g1017]⟩)
        ·
         refine qg (AI v1007.2) rfl rfl (qg (AI v1004.2) rfl rfl (qg (AB (decide (v1007.2 ≠ v1004.2))) rfl rfl (qp (AB (decide (v1007.2 ≠ v1004.2))) rfl ?_)))
         refine r_nil ?_
         refine cF hF (fun hF => ?_) fun hF => ?_
         ·
          refine ws 5056 5120 ?_
          refine qp (AB false) rfl ?_
          refine r_nil ?_
          refine w_ret ?_
          refine thenQ_r ?_
          cases hF
          exact endQ_r rfl (.inl ⟨_, _, by first | rfl | (simp [List.take_of_length_le]; first | exact ⟨rfl, rfl⟩ | rfl), by simp, by first | rfl | simp [res_laws_FnExactMergeBlocks, List.take_of_length_le, g1015, g1017]⟩)
         ·
          refine w_skip ?_
          refine thenQ_n ?_
          refine ws 5056 5120 ?_
          refine qp (AI 1) rfl ?_
          refine r_nil ?_
          refine ws 5120 5376 ?_
          refine qp (.sl 2048 0 v1007.1.length) rfl (qp (AI 1) rfl ?_)
          obtain ⟨v1020, e1020, hF⟩ := bind_get hF
          obtain ⟨g1021, hF⟩ := need_some hF
          refine qm (ls := [2048]) [(2048, .row true 3 (v1020.1.map eBlock)), (1792, .row true 3 (v1016.1.map eBlock)), (1600, .row true 3 (v1014.1.map eBlock)), (3456, .row true 3 (v1012.map eBlock)), (3136, .row true 3 (v1010.map eBlock)), (2048, .row true 3 (v1007.1.map eBlock)), (1792, .row true 3 (v1006.map eBlock)), (1600, .row true 3 (v1005.map eBlock)), (1152, .row true 3 (v1004.1.map eBlock)), (1088, .row true 3 (v1003.map eBlock)), (960, .row true 3 (v1002.map eBlock))] (con_laws_markBlockS e1020) c26_ok (by first | rfl | simp [takeM, takeML, takeM1, g1015, g1017, g1021]) (by decide) (by simp [like2, likeL, like1, g1021]) rfl rfl rfl (by simp [scrO_fo, newO2, newO, scrR, scrA, scrAs]) ?_
          refine qp (AI v1020.2) rfl ?_
          refine r_nil ?_
          refine ws 5376 5440 ?_
          refine qp (AI 1) rfl ?_
          refine r_nil ?_
          refine ws 5440 5696 ?_
          refine qp (.sl 2048 0 v1007.1.length) rfl (qp (AI 1) rfl ?_)
          obtain ⟨v1022, e1022, hF⟩ := bind_get hF
          refine qc (AI v1022) [(2048, .row true 3 (v1020.1.map eBlock)), (1792, .row true 3 (v1016.1.map eBlock)), (1600, .row true 3 (v1014.1.map eBlock)), (3456, .row true 3 (v1012.map eBlock)), (3136, .row true 3 (v1010.map eBlock)), (2048, .row true 3 (v1007.1.map eBlock)), (1792, .row true 3 (v1006.map eBlock)), (1600, .row true 3 (v1005.map eBlock)), (1152, .row true 3 (v1004.1.map eBlock)), (1088, .row true 3 (v1003.map eBlock)), (960, .row true 3 (v1002.map eBlock))] true (con_laws_heldBlockS e1022) c27_ok (by simp [g1015, g1017, g1021, List.take_of_length_le]) rfl ?_
          refine qp (AI v1022) rfl ?_
          refine r_nil ?_
          refine w_seq ?_
          refine ws 5696 5824 ?_
          refine qp (AI v1022) rfl (qp (AB (decide (v1022 < (0 : Int)))) rfl ?_)
          refine r_nil ?_
          refine cF hF (fun hF => ?_) fun hF => ?_
          ·
           refine ws 5824 5888 ?_
           refine qp (AB false) rfl ?_
           refine r_nil ?_
           refine w_ret ?_
           refine thenQ_r ?_
           cases hF
           exact endQ_r rfl (.inl ⟨_, _, by first | rfl | (simp [List.take_of_length_le]; first | exact ⟨rfl, rfl⟩ | rfl), by simp, by first | rfl | simp [res_laws_FnExactMergeBlocks, List.take_of_length_le, g1015, g1017, g1021]⟩)
          ·
           refine w_skip ?_
           refine thenQ_n ?_
           refine w_seq ?_
           refine ws 5824 6016 ?_
           refine qp (AI v1022) rfl (qp (AI v1020.2) rfl (qp (AB (decide (v1022 ≠ v1020.2))) rfl ?_))
           refine r_nil ?_
           refine cF hF (fun hF => ?_) fun hF => ?_
           ·
            refine ws 6016 6080 ?_
            refine qp (AB false) rfl ?_
            refine r_nil ?_
            refine w_ret ?_
            refine thenQ_r ?_
            cases hF
            exact endQ_r rfl (.inl ⟨_, _, by first | rfl | (simp [List.take_of_length_le]; first | exact ⟨rfl, rfl⟩ | rfl), by simp, by first | rfl | simp [res_laws_FnExactMergeBlocks, List.take_of_length_le, g1015, g1017, g1021]⟩)
           ·
            refine w_skip ?_
            refine thenQ_n ?_
            refine ws 6016 6656 ?_
            refine qp (AL 3 (v0.map eBlock)) rfl ?_
            obtain ⟨v1023, e1023, hF⟩ := bind_get hF
            refine qc (.sl 6080 0 v1023.length) [(6080, .row true 3 (v1023.map eBlock)), (2048, .row true 3 (v1020.1.map eBlock)), (1792, .row true 3 (v1016.1.map eBlock)), (1600, .row true 3 (v1014.1.map eBlock)), (3456, .row true 3 (v1012.map eBlock)), (3136, .row true 3 (v1010.map eBlock)), (2048, .row true 3 (v1007.1.map eBlock)), (1792, .row true 3 (v1006.map eBlock)), (1600, .row true 3 (v1005.map eBlock)), (1152, .row true 3 (v1004.1.map eBlock)), (1088, .row true 3 (v1003.map eBlock)), (960, .row true 3 (v1002.map eBlock))] false (con_laws_toBlockS e1023) c23_ok (by first | rfl | simp) (by simp [res_laws_toBlockS]) ?_
            refine qp (AL 3 (v1.map eBlock)) rfl ?_
            obtain ⟨v1024, e1024, hF⟩ := bind_get hF
            refine qc (.sl 6208 0 v1024.length) [(6208, .row true 3 (v1024.map eBlock)), (6080, .row true 3 (v1023.map eBlock)), (2048, .row true 3 (v1020.1.map eBlock)), (1792, .row true 3 (v1016.1.map eBlock)), (1600, .row true 3 (v1014.1.map eBlock)), (3456, .row true 3 (v1012.map eBlock)), (3136, .row true 3 (v1010.map eBlock)), (2048, .row true 3 (v1007.1.map eBlock)), (1792, .row true 3 (v1006.map eBlock)), (1600, .row true 3 (v1005.map eBlock)), (1152, .row true 3 (v1004.1.map eBlock)), (1088, .row true 3 (v1003.map eBlock)), (960, .row true 3 (v1002.map eBlock))] false (con_laws_toBlockS e1024) c23_ok (by first | rfl | simp) (by simp [res_laws_toBlockS]) ?_
            obtain ⟨v1025, e1025, hF⟩ := bind_get hF
            refine qc (.tup [.sl 6272 0 v1025.1.length, AI v1025.2]) [(6272, .row true 3 (v1025.1.map eBlock)), (6208, .row true 3 (v1024.map eBlock)), (6080, .row true 3 (v1023.map eBlock)), (2048, .row true 3 (v1020.1.map eBlock)), (1792, .row true 3 (v1016.1.map eBlock)), (1600, .row true 3 (v1014.1.map eBlock)), (3456, .row true 3 (v1012.map eBlock)), (3136, .row true 3 (v1010.map eBlock)), (2048, .row true 3 (v1007.1.map eBlock)), (1792, .row true 3 (v1006.map eBlock)), (1600, .row true 3 (v1005.map eBlock)), (1152, .row true 3 (v1004.1.map eBlock)), (1088, .row true 3 (v1003.map eBlock)), (960, .row true 3 (v1002.map eBlock))] true (con_impl_MergeBlocks e1025) c43_ok (by simp [g1015, g1017, g1021, List.take_of_length_le]) (by simp [res_impl_MergeBlocks]) ?_
            refine qp (.tup [.sl 6272 0 v1025.1.length, AI v1025.2]) rfl (qp (.sl 6272 0 v1025.1.length) rfl (qp (AI v1025.2) rfl (qp (.sl 6272 0 v1025.1.length) rfl (qp (AI v1025.2) rfl ?_))))
            refine r_nil ?_
            refine w_seq ?_
            refine ws 6656 7232 ?_
            refine qp (.sl 6272 0 v1025.1.length) rfl (qp (.sl 1152 0 v1004.1.length) rfl ?_)
            obtain ⟨v1027, e1027, hF⟩ := bind_get hF
            refine qc (AB v1027) [(6272, .row true 3 (v1025.1.map eBlock)), (6208, .row true 3 (v1024.map eBlock)), (6080, .row true 3 (v1023.map eBlock)), (2048, .row true 3 (v1020.1.map eBlock)), (1792, .row true 3 (v1016.1.map eBlock)), (1600, .row true 3 (v1014.1.map eBlock)), (3456, .row true 3 (v1012.map eBlock)), (3136, .row true 3 (v1010.map eBlock)), (2048, .row true 3 (v1007.1.map eBlock)), (1792, .row true 3 (v1006.map eBlock)), (1600, .row true 3 (v1005.map eBlock)), (1152, .row true 3 (v1004.1.map eBlock)), (1088, .row true 3 (v1003.map eBlock)), (960, .row true 3 (v1002.map eBlock))] true (con_laws_eqBlockS e1027) c25_ok (by simp [g1015, g1017, g1021, List.take_of_length_le]) rfl ?_
            refine qp (AB (!v1027)) rfl (qp (AB (!v1027)) rfl ?_)
            refine q_case 106 hF rfl (fun hF => ?_) (fun hF => ?_)
            ·
             refine qn rfl (qn rfl (qn rfl (qp (AB true) rfl ?_)))
             refine r_nil ?_
             refine w_true rfl ?_
             refine ws 7232 7296 ?_
             refine qp (AB false) rfl ?_
             refine r_nil ?_
             refine w_ret ?_
             refine thenQ_r ?_
             cases hF
             exact endQ_r rfl (.inl ⟨_, _, by first | rfl | (simp [List.take_of_length_le]; first | exact ⟨rfl, rfl⟩ | rfl), by simp, by first | rfl | simp [res_laws_FnExactMergeBlocks, List.take_of_length_le, g1015, g1017, g1021]⟩)
            ·
             refine qg (AI v1025.2) rfl rfl (qg (AI v1004.2) rfl rfl (qg (AB (decide (v1025.2 ≠ v1004.2))) rfl rfl (qp (AB (decide (v1025.2 ≠ v1004.2))) rfl ?_)))
             refine r_nil ?_
             refine cF hF (fun hF => ?_) fun hF => ?_
             ·
              refine ws 7232 7296 ?_
              refine qp (AB false) rfl ?_
              refine r_nil ?_
              refine w_ret ?_
              refine thenQ_r ?_
              cases hF
              exact endQ_r rfl (.inl ⟨_, _, by first | rfl | (simp [List.take_of_length_le]; first | exact ⟨rfl, rfl⟩ | rfl), by simp, by first | rfl | simp [res_laws_FnExactMergeBlocks, List.take_of_length_le, g1015, g1017, g1021]⟩)
             ·
              refine w_skip ?_
              refine thenQ_n ?_
              refine ws 7232 7296 ?_
              refine qp (AI 1) rfl ?_
              refine r_nil ?_
              refine ws 7296 7552 ?_
              refine qp (.sl 2048 0 v1007.1.length) rfl (qp (AI 1) rfl ?_)
              obtain ⟨v1028, e1028, hF⟩ := bind_get hF
              refine qc (AI v1028) [(6272, .row true 3 (v1025.1.map eBlock)), (6208, .row true 3 (v1024.map eBlock)), (6080, .row true 3 (v1023.map eBlock)), (2048, .row true 3 (v1020.1.map eBlock)), (1792, .row true 3 (v1016.1.map eBlock)), (1600, .row true 3 (v1014.1.map eBlock)), (3456, .row true 3 (v1012.map eBlock)), (3136, .row true 3 (v1010.map eBlock)), (2048, .row true 3 (v1007.1.map eBlock)), (1792, .row true 3 (v1006.map eBlock)), (1600, .row true 3 (v1005.map eBlock)), (1152, .row true 3 (v1004.1.map eBlock)), (1088, .row true 3 (v1003.map eBlock)), (960, .row true 3 (v1002.map eBlock))] true (con_laws_heldBlockS e1028) c27_ok (by simp [g1015, g1017, g1021, List.take_of_length_le]) rfl ?_
              refine qp (AI v1028) rfl ?_
              refine r_nil ?_
              refine w_seq ?_
              refine ws 7552 7680 ?_
              refine qp (AI v1028) rfl (qp (AB (decide (v1028 < (0 : Int)))) rfl ?_)
              refine r_nil ?_
              refine cF hF (fun hF => ?_) fun hF => ?_
              ·
               refine ws 7680 7744 ?_
               refine qp (AB false) rfl ?_
               refine r_nil ?_
               refine w_ret ?_
               refine thenQ_r ?_
               cases hF
               exact endQ_r rfl (.inl ⟨_, _, by first | rfl | (simp [List.take_of_length_le]; first | exact ⟨rfl, rfl⟩ | rfl), by simp, by first | rfl | simp [res_laws_FnExactMergeBlocks, List.take_of_length_le, g1015, g1017, g1021]⟩)
              ·
               refine w_skip ?_
               refine thenQ_n ?_
               refine w_seq ?_
               refine ws 7680 7872 ?_
               refine qp (AI v1028) rfl (qp (AI v1020.2) rfl (qp (AB (decide (v1028 ≠ v1020.2))) rfl ?_))
               refine r_nil ?_
               refine cF hF (fun hF => ?_) fun hF => ?_
               ·
                refine ws 7872 7936 ?_
                refine qp (AB false) rfl ?_
                refine r_nil ?_
                refine w_ret ?_
                refine thenQ_r ?_
                cases hF
                exact endQ_r rfl (.inl ⟨_, _, by first | rfl | (simp [List.take_of_length_le]; first | exact ⟨rfl, rfl⟩ | rfl), by simp, by first | rfl | simp [res_laws_FnExactMergeBlocks, List.take_of_length_le, g1015, g1017, g1021]⟩)
               ·
                refine w_skip ?_
                refine thenQ_n ?_
                refine ws 7872 7936 ?_
                refine qp (AB true) rfl ?_
                refine r_nil ?_
                refine w_ret ?_
                cases hF
                exact endQ_r rfl (.inl ⟨_, _, by first | rfl | (simp [List.take_of_length_le]; first | exact ⟨rfl, rfl⟩ | rfl), by simp, by first | rfl | simp [res_laws_FnExactMergeBlocks, List.take_of_length_le, g1015, g1017, g1021]⟩)

end Go.Ab
