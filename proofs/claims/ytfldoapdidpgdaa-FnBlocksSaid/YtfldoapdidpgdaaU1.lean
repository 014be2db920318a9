/- Walks (printed by auto.py, a program of this session's own). -/
import Derived.Test.YtfldoapdidpgdaaU0
import Derived.Test.YtfldoapdidpgdaaProg
import Derived.KernelRfl
import Derived.Test.YtfldoapdidpgdaaSQ
set_option linter.unusedVariables false
set_option linter.unusedSimpArgs false
set_option maxRecDepth 8000
set_option maxHeartbeats 8000000
namespace Go.Ab
open Go.RowKit Go.Proofs

def c52 : MC := (.seq (.reg [rg 4 (.p true (.mv (.c (.int .i64 0))))]) (.seq (.reg [mvt 14 1, rg 15 (.p true (.lens (.t 14))), mvt 5 15]) (.seq (.block 0 (.seq (.reg [mvt 17 5, rg 18 (.p true (.bin .eql (.t 17) (.c (.int .i64 0)))), mvt 19 18, ⟨(some 20), (some (19, false)), (.p true (.mv (.t 1)))⟩, ⟨(some 21), (some (19, false)), (.p true (.mv (.t 0)))⟩, ⟨(some 22), (some (19, false)), (.p true (.bin .eql (.t 20) (.t 21)))⟩, rg 23 (.p true (.pick (.t 19) (.c (.bool true)) (.t 22))), mvt 16 23]) (.cond (.t 16) (.seq (.reg [rg 4 (.p true (.mv (.c (.int .i64 0))))]) .ret) (.seq (.reg [mvt 25 5, rg 26 (.p true (.bin .eql (.t 25) (.c (.int .i64 1)))), mvt 24 26]) (.cond (.t 24) (.seq (.reg [mvt 27 0, mvt 28 1, rg 29 (.p true (.ixs (.t 28) (.c (.int .i64 0)))), rg 30 (.call true 59 [(.t 27), (.t 29)]), mvt 4 30]) .ret) (.seq (.reg [mvt 32 5, mvt 33 0, rg 34 (.p true (.lens (.t 33))), rg 35 (.p true (.bin .geq (.t 32) (.t 34))), mvt 31 35]) (.cond (.t 31) (.seq (.reg [rg 4 (.p true (.mv (.c (.int .i64 (-1)))))]) .ret) (.seq .bad (.cond (.t 36) (.seq (.reg [mvt 45 0, mvt 46 1, rg 47 (.call true 60 [(.t 45), (.t 46)]), mvt 4 47]) .ret) .skip))))))))) (.seq (.reg [mvt 48 1, rg 49 (.p true (.ixs (.t 48) (.c (.int .i64 0)))), mvt 6 49]) (.seq (.reg [mvt 50 1, rg 51 (.p true (.ixs (.t 50) (.c (.int .i64 1)))), mvt 7 51]) (.seq (.reg [rg 8 (.p true (.mv (.c (.int .i64 0))))]) (.seq (.reg [mvt 52 0, rg 53 (.p true (.lens (.t 52))), mvt 54 5, rg 55 (.p true (.bin .sub (.t 53) (.t 54))), rg 56 (.p true (.bin .add (.t 55) (.c (.int .i64 1)))), mvt 9 56]) (.seq (.reg [rg 10 (.p true (.mv (.c (.int .i64 0))))]) (.seq (.block 1 (.loop (.seq (.seq (.reg [mvt 57 8, mvt 58 9, rg 59 (.p true (.bin .lss (.t 57) (.t 58)))]) (.cond (.t 59) .skip (.exit 1))) (.block 2 (.seq (.seq (.reg [mvt 60 0, mvt 61 8, rg 62 (.p true (.ixs (.t 60) (.t 61))), mvt 63 6, rg 64 (.p true (.bin .neq (.t 62) (.t 63)))]) (.cond (.t 64) (.seq (.reg [mvt 65 0, mvt 66 8, rg 67 (.p true (.bin .add (.t 66) (.c (.int .i64 1)))), mvt 68 9, rg 69 (.p true (.slcs (.t 65) (some (.t 67)) (some (.t 68)))), mvt 70 6, rg 71 (.call true 59 [(.t 69), (.t 70)]), mvt 11 71]) (.seq (.seq (.reg [mvt 72 11, rg 73 (.p true (.bin .lss (.t 72) (.c (.int .i64 0))))]) (.cond (.t 73) (.seq (.reg [rg 4 (.p true (.mv (.c (.int .i64 (-1)))))]) .ret) .skip)) (.reg [mvt 74 8, mvt 75 11, rg 76 (.p true (.bin .add (.t 75) (.c (.int .i64 1)))), rg 77 (.p true (.bin .add (.t 74) (.t 76))), mvt 8 77]))) .skip)) (.seq (.seq (.reg [mvt 78 0, mvt 79 8, rg 80 (.p true (.bin .add (.t 79) (.c (.int .i64 1)))), rg 81 (.p true (.ixs (.t 78) (.t 80))), mvt 82 7, rg 83 (.p true (.bin .eql (.t 81) (.t 82))), mvt 84 83, ⟨(some 85), (some (84, true)), (.p true (.mv (.t 0)))⟩, ⟨(some 86), (some (84, true)), (.p true (.mv (.t 8)))⟩, ⟨(some 87), (some (84, true)), (.p true (.mv (.t 8)))⟩, ⟨(some 88), (some (84, true)), (.p true (.mv (.t 5)))⟩, ⟨(some 89), (some (84, true)), (.p true (.bin .add (.t 87) (.t 88)))⟩, ⟨(some 90), (some (84, true)), (.p true (.slcs (.t 85) (some (.t 86)) (some (.t 89))))⟩, ⟨(some 91), (some (84, true)), (.p true (.mv (.t 1)))⟩, ⟨(some 92), (some (84, true)), (.p true (.bin .eql (.t 90) (.t 91)))⟩, rg 93 (.p true (.pick (.t 84) (.t 92) (.c (.bool false))))]) (.cond (.t 93) (.seq (.reg [mvt 94 8, mvt 4 94]) .ret) .skip)) (.seq (.reg [mvt 95 8, rg 96 (.p true (.bin .add (.t 95) (.c (.int .i64 1)))), mvt 8 96]) (.seq (.reg [mvt 97 10, rg 98 (.p true (.bin .add (.t 97) (.c (.int .i64 1)))), mvt 10 98]) (.seq .bad (.cond (.t 107) (.seq (.reg [mvt 108 0, mvt 109 8, rg 110 (.p true (.slcs (.t 108) (some (.t 109)) none)), mvt 111 1, rg 112 (.call true 60 [(.t 110), (.t 111)]), mvt 12 112]) (.seq (.seq (.reg [mvt 113 12, rg 114 (.p true (.bin .geq (.t 113) (.c (.int .i64 0))))]) (.cond (.t 114) (.seq (.reg [mvt 115 12, mvt 116 8, rg 117 (.p true (.bin .add (.t 115) (.t 116))), mvt 4 117]) .ret) .skip)) (.seq (.reg [rg 4 (.p true (.mv (.c (.int .i64 (-1)))))]) .ret))) (.seq .bad (.cond (.t 132) (.seq (.reg [mvt 133 0, mvt 134 8, rg 135 (.p true (.slcs (.t 133) (some (.t 134)) none)), mvt 136 1, rg 137 (.call true 62 [(.t 135), (.t 136)]), mvt 13 137]) (.seq (.seq (.reg [mvt 138 13, rg 139 (.p true (.bin .lss (.t 138) (.c (.int .i64 0))))]) (.cond (.t 139) (.seq (.reg [rg 4 (.p true (.mv (.c (.int .i64 (-1)))))]) .ret) .skip)) (.seq (.reg [mvt 140 8, mvt 141 13, rg 142 (.p true (.bin .add (.t 140) (.t 141))), mvt 4 142]) .ret))) .skip)))))))))))) (.seq (.reg [rg 4 (.p true (.mv (.c (.int .i64 (-1)))))]) .ret))))))))))
theorem c52_is : compFn Try.prog 52 = some (c52, [(.tmp 4)]) := by kernel_rfl
theorem c52_ok : okFn Try.prog 52 = true := by kernel_rfl

noncomputable def F_stringslite_Index_j0 (v0 : List UInt8) (v1 : List UInt8) (v50000 : Bool) : Option (Int) :=
 (bif v50000 then some 0
 else (bif (decide ((v1.length : Int) = (1 : Int))) then ((ix v1 0).bind fun v1000 => ((F_stringslite_IndexByte v0 (v1000.toNat : Int)).bind fun v1001 => some v1001))
 else (bif (decide ((v0.length : Int) ≤ (v1.length : Int))) then some (-1)
 else none)))
noncomputable def F_stringslite_Index (v0 : List UInt8) (v1 : List UInt8) : Option (Int) :=
 (bif (decide ((v1.length : Int) = (0 : Int))) then F_stringslite_Index_j0 v0 v1 true
 else F_stringslite_Index_j0 v0 v1 (decide (v1 = v0)))
@[simp] def res_stringslite_Index (r : Int) : RV := .one (.one (.val (.int .i64 r)))
theorem con_stringslite_Index {v0 : List UInt8} {v1 : List UInt8} {r : Int} (hF : F_stringslite_Index v0 v1 = some r) : Con Try.prog 52 [.str v0, .str v1] (res_stringslite_Index r) := by
 unfold F_stringslite_Index at hF
 refine con_of c52_is fun N => ?_
 refine ws 0 64 ?_
 refine qp (AI 0) rfl ?_
 refine r_nil ?_
 refine ws 64 256 ?_
 refine qp (AS v1) rfl (qp (AI (v1.length : Int)) rfl (qp (AI (v1.length : Int)) rfl ?_))
 refine r_nil ?_
 refine w_seq ?_
 refine w_block ?_
 refine w_meet (fun s' => ∃ (v50000 : Bool), s' = mkS [(0, AS v0), (1, AS v1), (5, AI (v1.length : Int)), (16, AB v50000)] (fo []) 1 ∧ F_stringslite_Index_j0 v0 v1 v50000 = some r) ?_ ?_
 ·
  refine w_reg 256 768 rfl rfl ?_
  refine qp (AI (v1.length : Int)) rfl (qp (AB (decide ((v1.length : Int) = (0 : Int)))) rfl (qp (AB (decide ((v1.length : Int) = (0 : Int)))) rfl ?_))
  refine q_case 19 hF rfl (fun hF => ?_) (fun hF => ?_)
  ·
   refine qn rfl (qn rfl (qn rfl (qp (AB true) rfl (qp (AB true) rfl ?_))))
   refine r_nil ?_
   refine thenQ_n ?_
   refine ar (l' := [(0, AS v0), (1, AS v1), (5, AI (v1.length : Int)), (16, AB true)]) (L := []) [0, 1, 5, 16] [] 1 ⟨_, rfl, hF⟩
  ·
   refine qg (AS v1) rfl rfl (qg (AS v0) rfl rfl (qg (AB (decide (v1 = v0))) rfl rfl (qp (AB (decide (v1 = v0))) rfl (qp (AB (decide (v1 = v0))) rfl ?_))))
   refine r_nil ?_
   refine thenQ_n ?_
   refine ar (l' := [(0, AS v0), (1, AS v1), (5, AI (v1.length : Int)), (16, AB (decide (v1 = v0)))]) (L := []) [0, 1, 5, 16] [] 1 ⟨_, rfl, hF⟩
 ·
  rintro s' ⟨v50000, rfl, hF⟩
  unfold F_stringslite_Index_j0 at hF
  refine cF hF (fun hF => ?_) fun hF => ?_
  ·
   refine ws 1 65 ?_
   refine qp (AI 0) rfl ?_
   refine r_nil ?_
   refine w_ret ?_
   refine blockQ_r ?_
   refine thenQ_r ?_
   cases hF
   exact eR
  ·
   refine ws 1 193 ?_
   refine qp (AI (v1.length : Int)) rfl (qp (AB (decide ((v1.length : Int) = (1 : Int)))) rfl (qp (AB (decide ((v1.length : Int) = (1 : Int)))) rfl ?_))
   refine r_nil ?_
   refine cF hF (fun hF => ?_) fun hF => ?_
   ·
    refine ws 193 513 ?_
    refine qp (AS v0) rfl (qp (AS v1) rfl ?_)
    obtain ⟨v1000, e1000, hF⟩ := bind_get hF
    refine qp (.val none (.int .u8 (v1000.toNat : Int))) (ev_ixs rfl rfl e1000) ?_
    obtain ⟨v1001, e1001, hF⟩ := bind_get hF
    refine qc (AI v1001) [] false (con_stringslite_IndexByte e1001) c59_ok (by first | rfl | simp) rfl ?_
    refine qp (AI v1001) rfl ?_
    refine r_nil ?_
    refine w_ret ?_
    refine blockQ_r ?_
    refine thenQ_r ?_
    cases hF
    exact eR
   ·
    refine ws 193 513 ?_
    refine qp (AI (v1.length : Int)) rfl (qp (AS v0) rfl (qp (AI (v0.length : Int)) rfl (qp (AB (decide ((v0.length : Int) ≤ (v1.length : Int)))) rfl (qp (AB (decide ((v0.length : Int) ≤ (v1.length : Int)))) rfl ?_))))
    refine r_nil ?_
    refine cF hF (fun hF => ?_) fun hF => ?_
    ·
     refine ws 513 577 ?_
     refine qp (AI (-1)) rfl ?_
     refine r_nil ?_
     refine w_ret ?_
     refine blockQ_r ?_
     refine thenQ_r ?_
     cases hF
     exact eR
    ·
     refine w_seq ?_
     cases hF

def c42 : MC := (.seq (.reg [rg 4 (.p true (.mv (.c (.int .i64 0))))]) (.seq (.reg [mvt 5 0, mvt 6 1, rg 7 (.call true 52 [(.t 5), (.t 6)]), mvt 4 7]) .ret))
theorem c42_is : compFn Try.prog 42 = some (c42, [(.tmp 4)]) := by kernel_rfl
theorem c42_ok : okFn Try.prog 42 = true := by kernel_rfl

noncomputable def F_strings_Index (v0 : List UInt8) (v1 : List UInt8) : Option (Int) :=
 ((F_stringslite_Index v0 v1).bind fun v1000 => some v1000)
@[simp] def res_strings_Index (r : Int) : RV := .one (.one (.val (.int .i64 r)))
theorem con_strings_Index {v0 : List UInt8} {v1 : List UInt8} {r : Int} (hF : F_strings_Index v0 v1 = some r) : Con Try.prog 42 [.str v0, .str v1] (res_strings_Index r) := by
 unfold F_strings_Index at hF
 refine con_of c42_is fun N => ?_
 refine ws 0 64 ?_
 refine qp (AI 0) rfl ?_
 refine r_nil ?_
 refine ws 64 320 ?_
 refine qp (AS v0) rfl (qp (AS v1) rfl ?_)
 obtain ⟨v1000, e1000, hF⟩ := bind_get hF
 refine qc (AI v1000) [] false (con_stringslite_Index e1000) c52_ok (by first | rfl | simp) rfl ?_
 refine qp (AI v1000) rfl ?_
 refine r_nil ?_
 refine w_ret ?_
 cases hF
 exact eR

def c28 : MC := (.seq (.reg [rg 4 (.p true (.mv (.c (.bool false))))]) (.seq (.reg [mvt 5 0, mvt 6 1, rg 7 (.call true 42 [(.t 5), (.t 6)]), rg 8 (.p true (.bin .geq (.t 7) (.c (.int .i64 0)))), mvt 4 8]) .ret))
theorem c28_is : compFn Try.prog 28 = some (c28, [(.tmp 4)]) := by kernel_rfl
theorem c28_ok : okFn Try.prog 28 = true := by kernel_rfl

noncomputable def F_strings_Contains (v0 : List UInt8) (v1 : List UInt8) : Option (Bool) :=
 ((F_strings_Index v0 v1).bind fun v1000 => some (decide ((0 : Int) ≤ v1000)))
@[simp] def res_strings_Contains (r : Bool) : RV := .one (.one (.val (.bool r)))
theorem con_strings_Contains {v0 : List UInt8} {v1 : List UInt8} {r : Bool} (hF : F_strings_Contains v0 v1 = some r) : Con Try.prog 28 [.str v0, .str v1] (res_strings_Contains r) := by
 unfold F_strings_Contains at hF
 refine con_of c28_is fun N => ?_
 refine ws 0 64 ?_
 refine qp (AB false) rfl ?_
 refine r_nil ?_
 refine ws 64 384 ?_
 refine qp (AS v0) rfl (qp (AS v1) rfl ?_)
 obtain ⟨v1000, e1000, hF⟩ := bind_get hF
 refine qc (AI v1000) [] false (con_strings_Index e1000) c42_ok (by first | rfl | simp) rfl ?_
 refine qp (AB (decide ((0 : Int) ≤ v1000))) rfl (qp (AB (decide ((0 : Int) ≤ v1000))) rfl ?_)
 refine r_nil ?_
 refine w_ret ?_
 cases hF
 exact eR

def c16 : MC := (.seq (.reg [rg 1 (.f (.box (.t 0))), rg 2 (.p true (.mv (.c (.bool false))))]) (.seq (.reg [rg 3 (.p true (.fad (.t 1) 0)), rg 4 (.p true (.ld (.t 3) 1 false)), rg 5 (.call true 27 [(.t 4)]), mvt 6 5, ⟨(some 7), (some (6, true)), (.p true (.fad (.t 1) 1))⟩, ⟨(some 8), (some (6, true)), (.p true (.ld (.t 7) 1 false))⟩, ⟨(some 9), (some (6, true)), (.call true 27 [(.t 8)])⟩, rg 10 (.p true (.pick (.t 6) (.t 9) (.c (.bool false)))), mvt 11 10, ⟨(some 12), (some (11, true)), (.p true (.fad (.t 1) 2))⟩, ⟨(some 13), (some (11, true)), (.p true (.ld (.t 12) 1 false))⟩, ⟨(some 14), (some (11, true)), (.p true (.lens (.t 13)))⟩, ⟨(some 15), (some (11, true)), (.p true (.bin .leq (.t 14) (.c (.int .i64 400))))⟩, rg 16 (.p true (.pick (.t 11) (.t 15) (.c (.bool false)))), mvt 17 16, ⟨(some 18), (some (17, true)), (.p true (.fad (.t 1) 2))⟩, ⟨(some 19), (some (17, true)), (.p true (.ld (.t 18) 1 false))⟩, ⟨(some 20), (some (17, true)), (.call true 28 [(.t 19), (.c (.str [10]))])⟩, ⟨(some 21), (some (17, true)), (.p true (.not (.t 20)))⟩, rg 22 (.p true (.pick (.t 17) (.t 21) (.c (.bool false)))), mvt 2 22]) .ret))
theorem c16_is : compFn Try.prog 16 = some (c16, [(.tmp 2)]) := by kernel_rfl
theorem c16_ok : okFn Try.prog 16 = true := by kernel_rfl

noncomputable def F_impl_ValidBlock (v0 : TBlock) : Option (Bool) :=
 ((F_impl_IsName v0.1).bind fun v1000 => (bif v1000 then ((F_impl_IsName v0.2.1).bind fun v1001 => (bif v1001 then (bif (decide ((v0.2.2.length : Int) ≤ (400 : Int))) then ((F_strings_Contains v0.2.2 [10]).bind fun v1002 => some (!v1002))
 else some false)
 else some false))
 else some false))
@[simp] def res_impl_ValidBlock (r : Bool) : RV := .one (.one (.val (.bool r)))
theorem con_impl_ValidBlock {v0 : TBlock} {r : Bool} (hF : F_impl_ValidBlock v0 = some r) : Con Try.prog 16 [eBlock v0] (res_impl_ValidBlock r) := by
 unfold F_impl_ValidBlock at hF
 refine con_of c16_is fun N => ?_
 refine ws 0 128 ?_
 refine qf (.ptr 0 0 0) [(0, .box [AS v0.1, AS v0.2.1, AS v0.2.2])] (by simp) ?_
 refine qp (AB false) rfl ?_
 refine r_nil ?_
 refine ws 128 1472 ?_
 refine qp (.ptr 0 0 0) rfl (qp (AS v0.1) rfl ?_)
 obtain ⟨v1000, e1000, hF⟩ := bind_get hF
 refine qc (AB v1000) [(0, .box [AS v0.1, AS v0.2.1, AS v0.2.2])] false (con_impl_IsName e1000) c27_ok (by first | rfl | simp) rfl ?_
 refine qp (AB v1000) rfl ?_
 refine q_case 6 hF rfl (fun hF => ?_) (fun hF => ?_)
 ·
  refine qg (.ptr 0 0 1) rfl rfl (qg (AS v0.2.1) rfl rfl ?_)
  obtain ⟨v1001, e1001, hF⟩ := bind_get hF
  refine qcg (AB v1001) [(0, .box [AS v0.1, AS v0.2.1, AS v0.2.2])] false rfl (con_impl_IsName e1001) c27_ok (by first | rfl | simp) rfl ?_
  refine qp (AB v1001) rfl (qp (AB v1001) rfl ?_)
  refine q_case 11 hF rfl (fun hF => ?_) (fun hF => ?_)
  ·
   refine qg (.ptr 0 0 2) rfl rfl (qg (AS v0.2.2) rfl rfl (qg (AI (v0.2.2.length : Int)) rfl rfl (qg (AB (decide ((v0.2.2.length : Int) ≤ (400 : Int)))) rfl rfl (qp (AB (decide ((v0.2.2.length : Int) ≤ (400 : Int)))) rfl (qp (AB (decide ((v0.2.2.length : Int) ≤ (400 : Int)))) rfl ?_)))))
   refine q_case 17 hF rfl (fun hF => ?_) (fun hF => ?_)
   ·
    refine qg (.ptr 0 0 2) rfl rfl (qg (AS v0.2.2) rfl rfl ?_)
    obtain ⟨v1002, e1002, hF⟩ := bind_get hF
    refine qcg (AB v1002) [(0, .box [AS v0.1, AS v0.2.1, AS v0.2.2])] false rfl (con_strings_Contains e1002) c28_ok (by first | rfl | simp) rfl ?_
    refine qg (AB (!v1002)) rfl rfl (qp (AB (!v1002)) rfl (qp (AB (!v1002)) rfl ?_))
    refine r_nil ?_
    refine w_ret ?_
    cases hF
    exact eR
   ·
    refine qn rfl (qn rfl (qn rfl (qn rfl (qp (AB false) rfl (qp (AB false) rfl ?_)))))
    refine r_nil ?_
    refine w_ret ?_
    cases hF
    exact eR
  ·
   refine qn rfl (qn rfl (qn rfl (qn rfl (qp (AB false) rfl (qp (AB false) rfl (qn rfl (qn rfl ?_)))))))
   refine qn rfl (qn rfl (qp (AB false) rfl (qp (AB false) rfl ?_)))
   refine r_nil ?_
   refine w_ret ?_
   cases hF
   exact eR
 ·
  refine qn rfl (qn rfl (qn rfl (qp (AB false) rfl (qp (AB false) rfl (qn rfl (qn rfl (qn rfl ?_)))))))
  refine qn rfl (qp (AB false) rfl (qp (AB false) rfl (qn rfl (qn rfl (qn rfl (qn rfl (qp (AB false) rfl ?_)))))))
  refine qp (AB false) rfl ?_
  refine r_nil ?_
  refine w_ret ?_
  cases hF
  exact eR

def c45 : MC := (.seq (.reg [rg 2 (.p true (.mv (.c (.bool false))))]) (.seq (.reg [mvt 3 0, mvt 4 0, rg 5 (.p true (.bin .neq (.t 3) (.t 4))), mvt 2 5]) .ret))
theorem c45_is : compFn Try.prog 45 = some (c45, [(.tmp 2)]) := by kernel_rfl
theorem c45_ok : okFn Try.prog 45 = true := by kernel_rfl

noncomputable def F_cmp_isNaN_string (v0 : List UInt8) : Option (Bool) :=
 some (decide (v0 ≠ v0))
@[simp] def res_cmp_isNaN_string (r : Bool) : RV := .one (.one (.val (.bool r)))
theorem con_cmp_isNaN_string {v0 : List UInt8} {r : Bool} (hF : F_cmp_isNaN_string v0 = some r) : Con Try.prog 45 [.str v0] (res_cmp_isNaN_string r) := by
 unfold F_cmp_isNaN_string at hF
 refine con_of c45_is fun N => ?_
 refine ws 0 64 ?_
 refine qp (AB false) rfl ?_
 refine r_nil ?_
 refine ws 64 320 ?_
 refine qp (AS v0) rfl (qp (AS v0) rfl (qp (AB (decide (v0 ≠ v0))) rfl (qp (AB (decide (v0 ≠ v0))) rfl ?_)))
 refine r_nil ?_
 refine w_ret ?_
 cases hF
 exact eR

def c31 : MC := (.seq (.reg [rg 4 (.p true (.mv (.c (.int .i64 0))))]) (.seq (.reg [mvt 7 0, rg 8 (.call true 45 [(.t 7)]), mvt 5 8]) (.seq (.reg [mvt 9 1, rg 10 (.call true 45 [(.t 9)]), mvt 6 10]) (.seq (.seq (.reg [mvt 11 5]) (.cond (.t 11) (.seq (.seq (.reg [mvt 12 6]) (.cond (.t 12) (.seq (.reg [rg 4 (.p true (.mv (.c (.int .i64 0))))]) .ret) .skip)) (.seq (.reg [rg 4 (.p true (.mv (.c (.int .i64 (-1)))))]) .ret)) .skip)) (.seq (.seq (.reg [mvt 13 6]) (.cond (.t 13) (.seq (.reg [rg 4 (.p true (.mv (.c (.int .i64 1))))]) .ret) .skip)) (.seq (.seq (.reg [mvt 14 0, mvt 15 1, rg 16 (.p true (.bin .lss (.t 14) (.t 15)))]) (.cond (.t 16) (.seq (.reg [rg 4 (.p true (.mv (.c (.int .i64 (-1)))))]) .ret) .skip)) (.seq (.seq (.reg [mvt 17 0, mvt 18 1, rg 19 (.p true (.bin .gtr (.t 17) (.t 18)))]) (.cond (.t 19) (.seq (.reg [rg 4 (.p true (.mv (.c (.int .i64 1))))]) .ret) .skip)) (.seq (.reg [rg 4 (.p true (.mv (.c (.int .i64 0))))]) .ret))))))))
theorem c31_is : compFn Try.prog 31 = some (c31, [(.tmp 4)]) := by kernel_rfl
theorem c31_ok : okFn Try.prog 31 = true := by kernel_rfl

noncomputable def F_cmp_Compare_string (v0 : List UInt8) (v1 : List UInt8) : Option (Int) :=
 ((F_cmp_isNaN_string v0).bind fun v1000 => ((F_cmp_isNaN_string v1).bind fun v1001 => (bif v1000 then (bif v1001 then some 0
 else some (-1))
 else (bif v1001 then some 1
 else (bif (Op.bytesLess v0 v1) then some (-1)
 else (bif (!(Op.bytesLess v0 v1 || decide (v0 = v1))) then some 1
 else some 0))))))
@[simp] def res_cmp_Compare_string (r : Int) : RV := .one (.one (.val (.int .i64 r)))
theorem con_cmp_Compare_string {v0 : List UInt8} {v1 : List UInt8} {r : Int} (hF : F_cmp_Compare_string v0 v1 = some r) : Con Try.prog 31 [.str v0, .str v1] (res_cmp_Compare_string r) := by
 unfold F_cmp_Compare_string at hF
 refine con_of c31_is fun N => ?_
 refine ws 0 64 ?_
 refine qp (AI 0) rfl ?_
 refine r_nil ?_
 refine ws 64 256 ?_
 refine qp (AS v0) rfl ?_
 obtain ⟨v1000, e1000, hF⟩ := bind_get hF
 refine qc (AB v1000) [] false (con_cmp_isNaN_string e1000) c45_ok (by first | rfl | simp) rfl ?_
 refine qp (AB v1000) rfl ?_
 refine r_nil ?_
 refine ws 256 448 ?_
 refine qp (AS v1) rfl ?_
 obtain ⟨v1001, e1001, hF⟩ := bind_get hF
 refine qc (AB v1001) [] false (con_cmp_isNaN_string e1001) c45_ok (by first | rfl | simp) rfl ?_
 refine qp (AB v1001) rfl ?_
 refine r_nil ?_
 refine w_seq ?_
 refine ws 448 512 ?_
 refine qp (AB v1000) rfl ?_
 refine r_nil ?_
 refine cF hF (fun hF => ?_) fun hF => ?_
 ·
  refine w_seq ?_
  refine ws 512 576 ?_
  refine qp (AB v1001) rfl ?_
  refine r_nil ?_
  refine cF hF (fun hF => ?_) fun hF => ?_
  ·
   refine ws 576 640 ?_
   refine qp (AI 0) rfl ?_
   refine r_nil ?_
   refine w_ret ?_
   refine thenQ_r ?_
   refine thenQ_r ?_
   cases hF
   exact eR
  ·
   refine w_skip ?_
   refine thenQ_n ?_
   refine ws 576 640 ?_
   refine qp (AI (-1)) rfl ?_
   refine r_nil ?_
   refine w_ret ?_
   refine thenQ_r ?_
   cases hF
   exact eR
 ·
  refine w_skip ?_
  refine thenQ_n ?_
  refine w_seq ?_
  refine ws 512 576 ?_
  refine qp (AB v1001) rfl ?_
  refine r_nil ?_
  refine cF hF (fun hF => ?_) fun hF => ?_
  ·
   refine ws 576 640 ?_
   refine qp (AI 1) rfl ?_
   refine r_nil ?_
   refine w_ret ?_
   refine thenQ_r ?_
   cases hF
   exact eR
  ·
   refine w_skip ?_
   refine thenQ_n ?_
   refine w_seq ?_
   refine ws 576 768 ?_
   refine qp (AS v0) rfl (qp (AS v1) rfl (qp (AB (Op.bytesLess v0 v1)) rfl ?_))
   refine r_nil ?_
   refine cF hF (fun hF => ?_) fun hF => ?_
   ·
    refine ws 768 832 ?_
    refine qp (AI (-1)) rfl ?_
    refine r_nil ?_
    refine w_ret ?_
    refine thenQ_r ?_
    cases hF
    exact eR
   ·
    refine w_skip ?_
    refine thenQ_n ?_
    refine w_seq ?_
    refine ws 768 960 ?_
    refine qp (AS v0) rfl (qp (AS v1) rfl (qp (AB (!(Op.bytesLess v0 v1 || decide (v0 = v1)))) rfl ?_))
    refine r_nil ?_
    refine cF hF (fun hF => ?_) fun hF => ?_
    ·
     refine ws 960 1024 ?_
     refine qp (AI 1) rfl ?_
     refine r_nil ?_
     refine w_ret ?_
     refine thenQ_r ?_
     cases hF
     exact eR
    ·
     refine w_skip ?_
     refine thenQ_n ?_
     refine ws 960 1024 ?_
     refine qp (AI 0) rfl ?_
     refine r_nil ?_
     refine w_ret ?_
     cases hF
     exact eR

def c30 : MC := (.seq (.reg [rg 2 (.p true (.mv (.c (.int .i64 0))))]) (.seq (.reg [rg 3 (.p true (.mv (.c (.int .i64 0))))]) (.seq (.seq (.reg [mvt 6 0, rg 7 (.p true (.len (.t 6))), rg 8 (.p true (.mv (.c (.int .i64 0))))]) (.block 0 (.loop (.seq (.reg [rg 9 (.p true (.bin .lss (.t 8) (.t 7)))]) (.seq (.cond (.t 9) .skip (.exit 0)) (.seq (.block 1 (.seq (.reg [rg 10 (.p true (.iad (.t 6) (.t 8) 1)), rg 11 (.p true (.ld (.t 10) 1 false)), mvt 5 11]) (.seq (.reg [mvt 12 5, mvt 13 3, rg 14 (.p true (.bin .neq (.t 12) (.t 13)))]) (.cond (.t 14) (.seq (.reg [mvt 15 5, mvt 2 15]) .ret) .skip)))) (.reg [rg 16 (.p true (.bin .add (.t 8) (.c (.int .i64 1)))), mvt 8 16]))))))) (.seq (.reg [mvt 17 3, mvt 2 17]) .ret))))
theorem c30_is : compFn Try.prog 30 = some (c30, [(.tmp 2)]) := by kernel_rfl
theorem c30_ok : okFn Try.prog 30 = true := by kernel_rfl

noncomputable def F_cmp_Or_int_l0 (v0 : List Int) (k0 : Int → Option (Int)) : Int → Option (Int)
 | v50001 => (bif (decide (v50001 < (v0.length : Int))) then ((ix v0 v50001).bind fun v1000 => (bif (decide (v1000 ≠ (0 : Int))) then some v1000
 else k0 (w64 (v50001 + 1))))
 else some 0)
noncomputable def F_cmp_Or_int (v0 : List Int) : Option (Int) :=
 loop (F_cmp_Or_int_l0 v0) 0
@[simp] def res_cmp_Or_int (r : Int) : RV := .one (.one (.val (.int .i64 r)))
theorem con_cmp_Or_int {v0 : List Int} {r : Int} (hF : F_cmp_Or_int v0 = some r) : Con Try.prog 30 [.sl 1 (v0.map vI)] (res_cmp_Or_int r) := by
 unfold F_cmp_Or_int at hF
 refine con_of c30_is fun N => ?_
 refine ws 0 64 ?_
 refine qp (AI 0) rfl ?_
 refine r_nil ?_
 refine ws 64 128 ?_
 refine qp (AI 0) rfl ?_
 refine r_nil ?_
 refine w_seq ?_
 refine ws 128 320 ?_
 refine qp (AL 1 (v0.map vI)) rfl (qp (AI (v0.length : Int)) (ev_len_n rfl) (qp (AI 0) rfl ?_))
 refine r_nil ?_
 refine w_block ?_
 refine wr (l' := [(3, AI 0), (6, AL 1 (v0.map vI)), (7, AI (v0.length : Int)), (8, AI 0)]) (L := []) [3, 6, 7, 8] [] 1 ?_
 refine w_loopF (F_cmp_Or_int_l0 v0) (fun s : Int => mkS [(3, AI 0), (6, AL 1 (v0.map vI)), (7, AI (v0.length : Int)), (8, AI s)] (fo []) 1) hF ?_
 rintro k0 v50001 hF
 rw [F_cmp_Or_int_l0] at hF
 try dsimp only
 refine ws 1 65 ?_
 refine qp (AB (decide (v50001 < (v0.length : Int)))) rfl ?_
 refine r_nil ?_
 refine w_seq ?_
 refine cF hF (fun hF => ?_) fun hF => ?_
 ·
  refine w_skip ?_
  refine thenQ_n ?_
  refine w_seq ?_
  refine w_block ?_
  refine ws 65 257 ?_
  obtain ⟨v1000, e1000, hF⟩ := bind_get hF
  refine qp (.val none (.ptr [.int .i64 v1000])) (ev_iad_n rfl rfl e1000 rfl) (qp (AI v1000) rfl (qp (AI v1000) rfl ?_))
  refine r_nil ?_
  refine ws 257 449 ?_
  refine qp (AI v1000) rfl (qp (AI 0) rfl (qp (AB (decide (v1000 ≠ (0 : Int)))) rfl ?_))
  refine r_nil ?_
  refine cF hF (fun hF => ?_) fun hF => ?_
  ·
   refine ws 449 577 ?_
   refine qp (AI v1000) rfl (qp (AI v1000) rfl ?_)
   refine r_nil ?_
   refine w_ret ?_
   refine blockQ_r ?_
   refine thenQ_r ?_
   refine thenQ_r ?_
   refine blockQ_r ?_
   refine thenQ_r ?_
   cases hF
   exact eR
  ·
   refine w_skip ?_
   refine blockQ_n ?_
   refine thenQ_n ?_
   refine w_reg 449 577 rfl rfl ?_
   refine qp (AI (w64 (v50001 + 1))) rfl (qp (AI (w64 (v50001 + 1))) rfl ?_)
   refine r_nil ?_
   refine thenQ_n ?_
   refine ar (l' := [(3, AI 0), (6, AL 1 (v0.map vI)), (7, AI (v0.length : Int)), (8, AI (w64 (v50001 + 1)))]) (L := []) [3, 6, 7, 8] [] 1 ⟨_, by rfl, hF⟩
 ·
  refine w_exit ?_
  refine thenQ_e ?_
  refine thenQ_e ?_
  refine blockQ_e ?_
  refine thenQ_n ?_
  refine ws 65 193 ?_
  refine qp (AI 0) rfl (qp (AI 0) rfl ?_)
  refine r_nil ?_
  refine w_ret ?_
  cases hF
  exact eR

def c19 : MC := (.seq (.reg [rg 2 (.f (.box (.t 0))), rg 3 (.f (.box (.t 1))), rg 4 (.p true (.mv (.c (.int .i64 0))))]) (.seq (.reg [rg 5 (.p false (.fad (.t 2) 0)), rg 6 (.p false (.ld (.t 5) 1 false)), rg 7 (.p false (.fad (.t 3) 0)), rg 8 (.p false (.ld (.t 7) 1 false)), rg 9 (.call false 31 [(.t 6), (.t 8)]), rg 10 (.p false (.fad (.t 2) 1)), rg 11 (.p false (.ld (.t 10) 1 false)), rg 12 (.p false (.fad (.t 3) 1)), rg 13 (.p false (.ld (.t 12) 1 false)), rg 14 (.call false 31 [(.t 11), (.t 13)]), rg 15 (.f (.bsl 1 [(.t 9), (.t 14)])), rg 16 (.call false 30 [(.t 15)]), rg 4 (.p false (.mv (.t 16)))]) .ret))
theorem c19_is : compFn Try.prog 19 = some (c19, [(.tmp 4)]) := by kernel_rfl
theorem c19_ok : okFn Try.prog 19 = true := by kernel_rfl

noncomputable def F_impl_compareBlocks (v0 : TBlock) (v1 : TBlock) : Option (Int) :=
 ((F_cmp_Compare_string v0.1 v1.1).bind fun v1000 => ((F_cmp_Compare_string v0.2.1 v1.2.1).bind fun v1001 => ((F_cmp_Or_int [v1000, v1001]).bind fun v1002 => some v1002)))
@[simp] def res_impl_compareBlocks (r : Int) : RV := .one (.one (.val (.int .i64 r)))
theorem con_impl_compareBlocks {v0 : TBlock} {v1 : TBlock} {r : Int} (hF : F_impl_compareBlocks v0 v1 = some r) : Con Try.prog 19 [eBlock v0, eBlock v1] (res_impl_compareBlocks r) := by
 unfold F_impl_compareBlocks at hF
 refine con_of c19_is fun N => ?_
 refine ws 0 192 ?_
 refine qf (.ptr 0 0 0) [(0, .box [AS v0.1, AS v0.2.1, AS v0.2.2])] (by simp) ?_
 refine qf (.ptr 64 0 0) [(64, .box [AS v1.1, AS v1.2.1, AS v1.2.2]), (0, .box [AS v0.1, AS v0.2.1, AS v0.2.2])] (by simp) ?_
 refine qp (AI 0) rfl ?_
 refine r_nil ?_
 refine ws 192 1024 ?_
 refine qp (.ptr 0 0 0) rfl (qp (AS v0.1) rfl (qp (.ptr 64 0 0) rfl (qp (AS v1.1) rfl ?_)))
 obtain ⟨v1000, e1000, hF⟩ := bind_get hF
 refine qc (AI v1000) [(64, .box [AS v1.1, AS v1.2.1, AS v1.2.2]), (0, .box [AS v0.1, AS v0.2.1, AS v0.2.2])] false (con_cmp_Compare_string e1000) c31_ok (by first | rfl | simp) rfl ?_
 refine qp (.ptr 0 0 1) rfl (qp (AS v0.2.1) rfl (qp (.ptr 64 0 1) rfl (qp (AS v1.2.1) rfl ?_)))
 obtain ⟨v1001, e1001, hF⟩ := bind_get hF
 refine qc (AI v1001) [(64, .box [AS v1.1, AS v1.2.1, AS v1.2.2]), (0, .box [AS v0.1, AS v0.2.1, AS v0.2.2])] false (con_cmp_Compare_string e1001) c31_ok (by first | rfl | simp) rfl ?_
 refine qf (.sl 832 0 ([v1000, v1001].length)) [(832, .row true 1 ([v1000, v1001].map vI)), (64, .box [AS v1.1, AS v1.2.1, AS v1.2.2]), (0, .box [AS v0.1, AS v0.2.1, AS v0.2.2])] (by simp [List.take_of_length_le]) ?_
 obtain ⟨v1002, e1002, hF⟩ := bind_get hF
 refine qc (AI v1002) [(832, .row true 1 ([v1000, v1001].map vI)), (64, .box [AS v1.1, AS v1.2.1, AS v1.2.2]), (0, .box [AS v0.1, AS v0.2.1, AS v0.2.2])] true (con_cmp_Or_int e1002) c30_ok (by simp [List.take_of_length_le]) rfl ?_
 refine qp (AI v1002) rfl ?_
 refine r_nil ?_
 refine w_ret ?_
 cases hF
 exact eR

def c15 : MC := (.seq (.reg [rg 2 (.p true (.mv (.c (.bool false))))]) (.seq (.seq (.reg [mvt 5 0, rg 6 (.p true (.len (.t 5))), rg 7 (.p true (.bin .gtr (.t 6) (.c (.int .i64 32))))]) (.cond (.t 7) (.seq (.reg [rg 2 (.p true (.mv (.c (.bool false))))]) .ret) .skip)) (.seq (.seq (.reg [mvt 8 0, rg 9 (.p true (.len (.t 8))), rg 10 (.p true (.mv (.c (.int .i64 0))))]) (.block 0 (.loop (.seq (.reg [rg 11 (.p true (.bin .lss (.t 10) (.t 9)))]) (.seq (.cond (.t 11) .skip (.exit 0)) (.seq (.block 1 (.seq (.reg [mvt 12 10, rg 13 (.p true (.iad (.t 8) (.t 10) 3)), rg 14 (.p true (.ld (.t 13) 3 true)), rg 4 (.f (.alloc [((.str []), (0, false)), ((.str []), (0, false)), ((.str []), (0, false))])), mvt 3 12, ⟨none, none, (.f (.st (.t 4) (.t 14) 3))⟩]) (.seq (.reg [rg 15 (.p false (.ld (.t 4) 3 true)), rg 16 (.call false 16 [(.t 15)]), rg 17 (.p false (.not (.t 16))), rg 18 (.p false (.mv (.t 17))), ⟨(some 19), (some (18, false)), (.p false (.mv (.t 3)))⟩, ⟨(some 20), (some (18, false)), (.p false (.bin .gtr (.t 19) (.c (.int .i64 0))))⟩, ⟨(some 21), (some (18, false)), (.p false (.mv (.t 20)))⟩, ⟨(some 22), (some (21, true)), (.p false (.mv (.t 0)))⟩, ⟨(some 23), (some (21, true)), (.p false (.mv (.t 3)))⟩, ⟨(some 24), (some (21, true)), (.p false (.bin .sub (.t 23) (.c (.int .i64 1))))⟩, ⟨(some 25), (some (21, true)), (.p false (.iad (.t 22) (.t 24) 3))⟩, ⟨(some 26), (some (21, true)), (.p false (.ld (.t 25) 3 true))⟩, ⟨(some 27), (some (21, true)), (.p false (.ld (.t 4) 3 true))⟩, ⟨(some 28), (some (21, true)), (.call false 19 [(.t 26), (.t 27)])⟩, ⟨(some 29), (some (21, true)), (.p false (.bin .geq (.t 28) (.c (.int .i64 0))))⟩, ⟨(some 30), (some (18, false)), (.p false (.pick (.t 21) (.t 29) (.c (.bool false))))⟩, rg 31 (.p false (.pick (.t 18) (.c (.bool true)) (.t 30)))]) (.cond (.t 31) (.seq (.reg [rg 2 (.p true (.mv (.c (.bool false))))]) .ret) .skip)))) (.reg [rg 32 (.p true (.bin .add (.t 10) (.c (.int .i64 1)))), mvt 10 32]))))))) (.seq (.reg [rg 2 (.p true (.mv (.c (.bool true))))]) .ret))))
theorem c15_is : compFn Try.prog 15 = some (c15, [(.tmp 2)]) := by kernel_rfl
theorem c15_ok : okFn Try.prog 15 = true := by kernel_rfl

noncomputable def F_impl_ValidBlocks_l0 (v0 : List TBlock) (k0 : Int → Option (Bool)) : Int → Option (Bool)
 | v50001 => (bif (decide (v50001 < (v0.length : Int))) then ((ix v0 v50001).bind fun v1000 => ((F_impl_ValidBlock v1000).bind fun v1001 => (bif (!v1001) then some false
 else (bif (decide ((0 : Int) < v50001)) then ((ix v0 (w64 (v50001 - 1))).bind fun v1002 => ((F_impl_compareBlocks v1002 v1000).bind fun v1003 => (bif (decide ((0 : Int) ≤ v1003)) then some false
 else k0 (w64 (v50001 + 1)))))
 else k0 (w64 (v50001 + 1))))))
 else some true)
noncomputable def F_impl_ValidBlocks (v0 : List TBlock) : Option (Bool) :=
 (bif (decide ((32 : Int) < (v0.length : Int))) then some false
 else loop (F_impl_ValidBlocks_l0 v0) 0)
@[simp] def res_impl_ValidBlocks (r : Bool) : RV := .one (.one (.val (.bool r)))
theorem con_impl_ValidBlocks {v0 : List TBlock} {r : Bool} (hF : F_impl_ValidBlocks v0 = some r) : Con Try.prog 15 [.sl 3 (v0.map eBlock)] (res_impl_ValidBlocks r) := by
 unfold F_impl_ValidBlocks at hF
 refine con_of c15_is fun N => ?_
 refine ws 0 64 ?_
 refine qp (AB false) rfl ?_
 refine r_nil ?_
 refine w_seq ?_
 refine ws 64 256 ?_
 refine qp (AL 3 (v0.map eBlock)) rfl (qp (AI (v0.length : Int)) (ev_len_n rfl) (qp (AB (decide ((32 : Int) < (v0.length : Int)))) rfl ?_))
 refine r_nil ?_
 refine cF hF (fun hF => ?_) fun hF => ?_
 ·
  refine ws 256 320 ?_
  refine qp (AB false) rfl ?_
  refine r_nil ?_
  refine w_ret ?_
  refine thenQ_r ?_
  cases hF
  exact eR
 ·
  refine w_skip ?_
  refine thenQ_n ?_
  refine w_seq ?_
  refine ws 256 448 ?_
  refine qp (AL 3 (v0.map eBlock)) rfl (qp (AI (v0.length : Int)) (ev_len_n rfl) (qp (AI 0) rfl ?_))
  refine r_nil ?_
  refine w_block ?_
  refine wr (l' := [(0, AL 3 (v0.map eBlock)), (8, AL 3 (v0.map eBlock)), (9, AI (v0.length : Int)), (10, AI 0)]) (L := []) [0, 8, 9, 10] [] 1 ?_
  refine w_loopF (F_impl_ValidBlocks_l0 v0) (fun s : Int => mkS [(0, AL 3 (v0.map eBlock)), (8, AL 3 (v0.map eBlock)), (9, AI (v0.length : Int)), (10, AI s)] (fo []) 1) hF ?_
  rintro k0 v50001 hF
  rw [F_impl_ValidBlocks_l0] at hF
  try dsimp only
  refine ws 1 65 ?_
  refine qp (AB (decide (v50001 < (v0.length : Int)))) rfl ?_
  refine r_nil ?_
  refine w_seq ?_
  refine cF hF (fun hF => ?_) fun hF => ?_
  ·
   refine w_skip ?_
   refine thenQ_n ?_
   refine w_seq ?_
   refine w_block ?_
   refine ws 65 449 ?_
   refine qp (AI v50001) rfl ?_
   obtain ⟨v1000, e1000, hF⟩ := bind_get hF
   refine qp (.val none (.ptr [.str v1000.1, .str v1000.2.1, .str v1000.2.2])) (ev_iad_n rfl rfl e1000 rfl) (qp (.val none (eBlock v1000)) rfl ?_)
   refine qf (.ptr 257 0 0) [(257, .box [AS [], AS [], AS []])] (by simp) ?_
   refine qp (AI v50001) rfl ?_
   refine qf0 (.undef) [(257, .box [AS v1000.1, AS v1000.2.1, AS v1000.2.2]), (257, .box [AS [], AS [], AS []])] (by simp) ?_
   refine r_nil ?_
   refine ws 449 1537 ?_
   refine qp (.agg [AS v1000.1, AS v1000.2.1, AS v1000.2.2]) rfl ?_
   obtain ⟨v1001, e1001, hF⟩ := bind_get hF
   refine qc (AB v1001) [(257, .box [AS v1000.1, AS v1000.2.1, AS v1000.2.2]), (257, .box [AS [], AS [], AS []])] false (con_impl_ValidBlock e1001) c16_ok (by first | rfl | simp) rfl ?_
   refine qp (AB (!v1001)) rfl (qp (AB (!v1001)) rfl ?_)
   refine q_case 18 hF rfl (fun hF => ?_) (fun hF => ?_)
   ·
    refine qn rfl (qn rfl (qn rfl (qu rfl (qu rfl (qu rfl (qu rfl (qu rfl ?_)))))))
    refine qu rfl (qu rfl (qu rfl (qn rfl (qp (AB true) rfl ?_))))
    refine r_nil ?_
    refine w_true rfl ?_
    refine ws 1537 1601 ?_
    refine qp (AB false) rfl ?_
    refine r_nil ?_
    refine w_ret ?_
    refine blockQ_r ?_
    refine thenQ_r ?_
    refine thenQ_r ?_
    refine blockQ_r ?_
    refine thenQ_r ?_
    cases hF
    exact eR
   ·
    refine qg (AI v50001) rfl rfl (qg (AB (decide ((0 : Int) < v50001))) rfl rfl (qg (AB (decide ((0 : Int) < v50001))) rfl rfl ?_))
    refine q_case 21 hF rfl (fun hF => ?_) (fun hF => ?_)
    ·
     refine qg (AL 3 (v0.map eBlock)) rfl rfl (qg (AI v50001) rfl rfl (qg (AI (w64 (v50001 - 1))) rfl rfl ?_))
     obtain ⟨v1002, e1002, hF⟩ := bind_get hF
     refine qg (.val none (.ptr [.str v1002.1, .str v1002.2.1, .str v1002.2.2])) rfl (ev_iad_n rfl rfl e1002 rfl) (qg (.val none (eBlock v1002)) rfl rfl (qg (.agg [AS v1000.1, AS v1000.2.1, AS v1000.2.2]) rfl rfl ?_))
     obtain ⟨v1003, e1003, hF⟩ := bind_get hF
     refine qcg (AI v1003) [(257, .box [AS v1000.1, AS v1000.2.1, AS v1000.2.2]), (257, .box [AS [], AS [], AS []])] false rfl (con_impl_compareBlocks e1003) c19_ok (by first | rfl | simp) rfl ?_
     refine qg (AB (decide ((0 : Int) ≤ v1003))) rfl rfl (qg (AB (decide ((0 : Int) ≤ v1003))) rfl rfl (qp (AB (decide ((0 : Int) ≤ v1003))) rfl ?_))
     refine r_nil ?_
     refine cF hF (fun hF => ?_) fun hF => ?_
     ·
      refine ws 1537 1601 ?_
      refine qp (AB false) rfl ?_
      refine r_nil ?_
      refine w_ret ?_
      refine blockQ_r ?_
      refine thenQ_r ?_
      refine thenQ_r ?_
      refine blockQ_r ?_
      refine thenQ_r ?_
      cases hF
      exact eR
     ·
      refine w_skip ?_
      refine blockQ_n ?_
      refine thenQ_n ?_
      refine w_reg 1537 1665 rfl rfl ?_
      refine qp (AI (w64 (v50001 + 1))) rfl (qp (AI (w64 (v50001 + 1))) rfl ?_)
      refine r_nil ?_
      refine thenQ_n ?_
      refine ar (l' := [(0, AL 3 (v0.map eBlock)), (8, AL 3 (v0.map eBlock)), (9, AI (v0.length : Int)), (10, AI (w64 (v50001 + 1)))]) (L := []) [0, 8, 9, 10] [] 1 ⟨_, by rfl, hF⟩
    ·
     refine qn rfl (qn rfl (qn rfl (qn rfl (qn rfl (qn rfl (qn rfl (qn rfl ?_)))))))
     refine qg (AB false) rfl rfl (qp (AB false) rfl ?_)
     refine r_nil ?_
     refine w_false rfl ?_
     refine w_skip ?_
     refine blockQ_n ?_
     refine thenQ_n ?_
     refine w_reg 1537 1665 rfl rfl ?_
     refine qp (AI (w64 (v50001 + 1))) rfl (qp (AI (w64 (v50001 + 1))) rfl ?_)
     refine r_nil ?_
     refine thenQ_n ?_
     refine ar (l' := [(0, AL 3 (v0.map eBlock)), (8, AL 3 (v0.map eBlock)), (9, AI (v0.length : Int)), (10, AI (w64 (v50001 + 1)))]) (L := []) [0, 8, 9, 10] [] 1 ⟨_, by rfl, hF⟩
  ·
   refine w_exit ?_
   refine thenQ_e ?_
   refine thenQ_e ?_
   refine blockQ_e ?_
   refine thenQ_n ?_
   refine ws 65 129 ?_
   refine qp (AB true) rfl ?_
   refine r_nil ?_
   refine w_ret ?_
   cases hF
   exact eR

def c18 : MC := (.seq (.reg [rg 4 (.f (.box (.t 1))), rg 6 (.p true (.mv (.c (.int .i64 0)))), rg 7 (.p true (.mv (.c (.bool false))))]) (.seq (.reg [mvt 12 0, rg 13 (.p true (.len (.t 12))), mvt 8 13]) (.seq (.reg [mvt 14 8, rg 9 (.p true (.mv (.c (.int .i64 0)))), mvt 10 14]) (.seq (.block 0 (.loop (.seq (.seq (.reg [mvt 15 9, mvt 16 10, rg 17 (.p true (.bin .lss (.t 15) (.t 16)))]) (.cond (.t 17) .skip (.exit 0))) (.block 1 (.seq (.reg [mvt 18 9, mvt 19 10, rg 20 (.p true (.bin .add (.t 18) (.t 19))), rg 21 (.p true (.conv .u64 (.t 20))), rg 22 (.p true (.bin .shr (.t 21) (.c (.int .u64 1)))), rg 23 (.p true (.conv .i64 (.t 22))), mvt 11 23]) (.seq (.reg [rg 24 (.p false (.mv (.t 2))), rg 25 (.p false (.mv (.t 0))), rg 26 (.p false (.mv (.t 11))), rg 27 (.p false (.iad (.t 25) (.t 26) 3)), rg 28 (.p false (.ld (.t 27) 3 true)), rg 29 (.p false (.ld (.t 4) 3 true)), rg 30 (.callv (.t 24) [(.t 28), (.t 29)]), rg 31 (.p false (.bin .lss (.t 30) (.c (.int .i64 0))))]) (.cond (.t 31) (.reg [mvt 32 11, rg 33 (.p true (.bin .add (.t 32) (.c (.int .i64 1)))), mvt 9 33]) (.reg [mvt 34 11, mvt 10 34])))))))) (.seq (.reg [rg 35 (.p false (.mv (.t 9))), rg 36 (.p false (.mv (.t 9))), rg 37 (.p false (.mv (.t 8))), rg 38 (.p false (.bin .lss (.t 36) (.t 37))), rg 39 (.p false (.mv (.t 38))), ⟨(some 40), (some (39, true)), (.p false (.mv (.t 2)))⟩, ⟨(some 41), (some (39, true)), (.p false (.mv (.t 0)))⟩, ⟨(some 42), (some (39, true)), (.p false (.mv (.t 9)))⟩, ⟨(some 43), (some (39, true)), (.p false (.iad (.t 41) (.t 42) 3))⟩, ⟨(some 44), (some (39, true)), (.p false (.ld (.t 43) 3 true))⟩, ⟨(some 45), (some (39, true)), (.p false (.ld (.t 4) 3 true))⟩, ⟨(some 46), (some (39, true)), (.callv (.t 40) [(.t 44), (.t 45)])⟩, ⟨(some 47), (some (39, true)), (.p false (.bin .eql (.t 46) (.c (.int .i64 0))))⟩, rg 48 (.p false (.pick (.t 39) (.t 47) (.c (.bool false)))), rg 6 (.p false (.mv (.t 35))), rg 7 (.p false (.mv (.t 48)))]) .ret)))))
theorem c18_is : compFn Try.prog 18 = some (c18, [(.tmp 6), (.tmp 7)]) := by kernel_rfl
theorem c18_ok : okFn Try.prog 18 = true := by kernel_rfl

noncomputable def F_slices_BinarySearchFunc_SBlock_Block_l0 (v0 : List TBlock) (v1 : TBlock) (k0 : Int × Int → Option (Int × Bool)) : Int × Int → Option (Int × Bool)
 | (v50002, v50003) => (bif (decide (v50002 < v50003)) then (need (0 ≤ (1 : Int)) (((ix v0 (w64 (Int.fdiv (IntKind.wrap .u64 (w64 (v50002 + v50003))) (2 ^ (min ((1 : Int)).toNat (IntKind.bits .u64)))))).bind fun v1001 => ((F_impl_compareBlocks v1001 v1).bind fun v1002 => (bif (decide (v1002 < (0 : Int))) then k0 (w64 ((w64 (Int.fdiv (IntKind.wrap .u64 (w64 (v50002 + v50003))) (2 ^ (min ((1 : Int)).toNat (IntKind.bits .u64))))) + 1), v50003)
 else k0 (v50002, w64 (Int.fdiv (IntKind.wrap .u64 (w64 (v50002 + v50003))) (2 ^ (min ((1 : Int)).toNat (IntKind.bits .u64))))))))))
 else (bif (decide (v50002 < (v0.length : Int))) then ((ix v0 v50002).bind fun v1003 => ((F_impl_compareBlocks v1003 v1).bind fun v1004 => some (v50002, (decide (v1004 = (0 : Int))))))
 else some (v50002, false)))
noncomputable def F_slices_BinarySearchFunc_SBlock_Block (v0 : List TBlock) (v1 : TBlock) : Option (Int × Bool) :=
 loop (F_slices_BinarySearchFunc_SBlock_Block_l0 v0 v1) (0, (v0.length : Int))
@[simp] def res_slices_BinarySearchFunc_SBlock_Block (r : Int × Bool) : RV := .tup [.one (.val (.int .i64 r.1)), .one (.val (.bool r.2))]
theorem con_slices_BinarySearchFunc_SBlock_Block {v0 : List TBlock} {v1 : TBlock} {r : Int × Bool} (hF : F_slices_BinarySearchFunc_SBlock_Block v0 v1 = some r) : Con Try.prog 18 [.sl 3 (v0.map eBlock), eBlock v1, .fn 19 []] (res_slices_BinarySearchFunc_SBlock_Block r) := by
 unfold F_slices_BinarySearchFunc_SBlock_Block at hF
 refine con_of c18_is fun N => ?_
 refine ws 0 192 ?_
 refine qf (.ptr 0 0 0) [(0, .box [AS v1.1, AS v1.2.1, AS v1.2.2])] (by simp) ?_
 refine qp (AI 0) rfl (qp (AB false) rfl ?_)
 refine r_nil ?_
 refine ws 192 384 ?_
 refine qp (AL 3 (v0.map eBlock)) rfl (qp (AI (v0.length : Int)) (ev_len_n rfl) (qp (AI (v0.length : Int)) rfl ?_))
 refine r_nil ?_
 refine ws 384 576 ?_
 refine qp (AI (v0.length : Int)) rfl (qp (AI 0) rfl (qp (AI (v0.length : Int)) rfl ?_))
 refine r_nil ?_
 refine w_seq ?_
 refine w_block ?_
 refine wr (l' := [(0, AL 3 (v0.map eBlock)), (2, .val none (.fn 19 [])), (4, .ptr 0 0 0), (8, AI (v0.length : Int)), (9, AI 0), (10, AI (v0.length : Int))]) (L := [(0, .box [AS v1.1, AS v1.2.1, AS v1.2.2])]) [0, 2, 4, 8, 9, 10] [(0, 0)] 1 ?_
 refine w_loopF (F_slices_BinarySearchFunc_SBlock_Block_l0 v0 v1) (fun s : Int × Int => mkS [(0, AL 3 (v0.map eBlock)), (2, .val none (.fn 19 [])), (4, .ptr 0 0 0), (8, AI (v0.length : Int)), (9, AI s.1), (10, AI s.2)] (fo [(0, .box [AS v1.1, AS v1.2.1, AS v1.2.2])]) 1) hF ?_
 rintro k0 ⟨v50002, v50003⟩ hF
 rw [F_slices_BinarySearchFunc_SBlock_Block_l0] at hF
 try dsimp only
 refine w_seq ?_
 refine ws 1 193 ?_
 refine qp (AI v50002) rfl (qp (AI v50003) rfl (qp (AB (decide (v50002 < v50003))) rfl ?_))
 refine r_nil ?_
 refine cF hF (fun hF => ?_) fun hF => ?_
 ·
  refine w_skip ?_
  refine thenQ_n ?_
  refine w_block ?_
  refine ws 193 641 ?_
  refine qp (AI v50002) rfl (qp (AI v50003) rfl (qp (AI (w64 (v50002 + v50003))) rfl (qp (.val none (.int .u64 (IntKind.wrap .u64 (w64 (v50002 + v50003))))) rfl ?_)))
  obtain ⟨g1000, hF⟩ := need_some hF
  refine qp (.val none (.int .u64 (Int.fdiv (IntKind.wrap .u64 (w64 (v50002 + v50003))) (2 ^ (min ((1 : Int)).toNat (IntKind.bits .u64)))))) (ev_shr rfl rfl g1000) (qp (AI (w64 (Int.fdiv (IntKind.wrap .u64 (w64 (v50002 + v50003))) (2 ^ (min ((1 : Int)).toNat (IntKind.bits .u64)))))) rfl (qp (AI (w64 (Int.fdiv (IntKind.wrap .u64 (w64 (v50002 + v50003))) (2 ^ (min ((1 : Int)).toNat (IntKind.bits .u64)))))) rfl ?_))
  refine r_nil ?_
  refine ws 641 1153 ?_
  refine qp (.val none (.fn 19 [])) rfl (qp (AL 3 (v0.map eBlock)) rfl (qp (AI (w64 (Int.fdiv (IntKind.wrap .u64 (w64 (v50002 + v50003))) (2 ^ (min ((1 : Int)).toNat (IntKind.bits .u64)))))) rfl ?_))
  obtain ⟨v1001, e1001, hF⟩ := bind_get hF
  refine qp (.val none (.ptr [.str v1001.1, .str v1001.2.1, .str v1001.2.2])) (ev_iad_n rfl rfl e1001 rfl) (qp (.val none (eBlock v1001)) rfl (qp (.agg [AS v1.1, AS v1.2.1, AS v1.2.2]) rfl ?_))
  obtain ⟨v1002, e1002, hF⟩ := bind_get hF
  refine qcv (AI v1002) [(0, .box [AS v1.1, AS v1.2.1, AS v1.2.2])] false rfl (con_impl_compareBlocks e1002) c19_ok (by first | rfl | simp) rfl ?_
  refine qp (AB (decide (v1002 < (0 : Int)))) rfl ?_
  refine r_nil ?_
  refine cF hF (fun hF => ?_) fun hF => ?_
  ·
   refine w_reg 1153 1345 rfl rfl ?_
   refine qp (AI (w64 (Int.fdiv (IntKind.wrap .u64 (w64 (v50002 + v50003))) (2 ^ (min ((1 : Int)).toNat (IntKind.bits .u64)))))) rfl (qp (AI (w64 ((w64 (Int.fdiv (IntKind.wrap .u64 (w64 (v50002 + v50003))) (2 ^ (min ((1 : Int)).toNat (IntKind.bits .u64))))) + 1))) rfl (qp (AI (w64 ((w64 (Int.fdiv (IntKind.wrap .u64 (w64 (v50002 + v50003))) (2 ^ (min ((1 : Int)).toNat (IntKind.bits .u64))))) + 1))) rfl ?_))
   refine r_nil ?_
   refine blockQ_n ?_
   refine thenQ_n ?_
   refine ar (l' := [(0, AL 3 (v0.map eBlock)), (2, .val none (.fn 19 [])), (4, .ptr 0 0 0), (8, AI (v0.length : Int)), (9, AI (w64 ((w64 (Int.fdiv (IntKind.wrap .u64 (w64 (v50002 + v50003))) (2 ^ (min ((1 : Int)).toNat (IntKind.bits .u64))))) + 1))), (10, AI v50003)]) (L := [(0, .box [AS v1.1, AS v1.2.1, AS v1.2.2])]) [0, 2, 4, 8, 9, 10] [(0, 0)] 1 ⟨_, by rfl, hF⟩
  ·
   refine w_reg 1153 1281 rfl rfl ?_
   refine qp (AI (w64 (Int.fdiv (IntKind.wrap .u64 (w64 (v50002 + v50003))) (2 ^ (min ((1 : Int)).toNat (IntKind.bits .u64)))))) rfl (qp (AI (w64 (Int.fdiv (IntKind.wrap .u64 (w64 (v50002 + v50003))) (2 ^ (min ((1 : Int)).toNat (IntKind.bits .u64)))))) rfl ?_)
   refine r_nil ?_
   refine blockQ_n ?_
   refine thenQ_n ?_
   refine ar (l' := [(0, AL 3 (v0.map eBlock)), (2, .val none (.fn 19 [])), (4, .ptr 0 0 0), (8, AI (v0.length : Int)), (9, AI v50002), (10, AI (w64 (Int.fdiv (IntKind.wrap .u64 (w64 (v50002 + v50003))) (2 ^ (min ((1 : Int)).toNat (IntKind.bits .u64))))))]) (L := [(0, .box [AS v1.1, AS v1.2.1, AS v1.2.2])]) [0, 2, 4, 8, 9, 10] [(0, 0)] 1 ⟨_, by rfl, hF⟩
 ·
  refine w_exit ?_
  refine thenQ_e ?_
  refine thenQ_e ?_
  refine blockQ_e ?_
  refine thenQ_n ?_
  refine ws 193 1217 ?_
  refine qp (AI v50002) rfl (qp (AI v50002) rfl (qp (AI (v0.length : Int)) rfl (qp (AB (decide (v50002 < (v0.length : Int)))) rfl (qp (AB (decide (v50002 < (v0.length : Int)))) rfl ?_))))
  refine q_case 39 hF rfl (fun hF => ?_) (fun hF => ?_)
  ·
   refine qg (.val none (.fn 19 [])) rfl rfl (qg (AL 3 (v0.map eBlock)) rfl rfl (qg (AI v50002) rfl rfl ?_))
   obtain ⟨v1003, e1003, hF⟩ := bind_get hF
   refine qg (.val none (.ptr [.str v1003.1, .str v1003.2.1, .str v1003.2.2])) rfl (ev_iad_n rfl rfl e1003 rfl) (qg (.val none (eBlock v1003)) rfl rfl (qg (.agg [AS v1.1, AS v1.2.1, AS v1.2.2]) rfl rfl ?_))
   obtain ⟨v1004, e1004, hF⟩ := bind_get hF
   refine qcvg (AI v1004) [(0, .box [AS v1.1, AS v1.2.1, AS v1.2.2])] false rfl rfl (con_impl_compareBlocks e1004) c19_ok (by first | rfl | simp) rfl ?_
   refine qg (AB (decide (v1004 = (0 : Int)))) rfl rfl (qp (AB (decide (v1004 = (0 : Int)))) rfl (qp (AI v50002) rfl (qp (AB (decide (v1004 = (0 : Int)))) rfl ?_)))
   refine r_nil ?_
   refine w_ret ?_
   cases hF
   exact eR
  ·
   refine qn rfl (qn rfl (qn rfl (qn rfl (qn rfl (qn rfl (qn rfl (qn rfl ?_)))))))
   refine qp (AB false) rfl (qp (AI v50002) rfl (qp (AB false) rfl ?_))
   refine r_nil ?_
   refine w_ret ?_
   cases hF
   exact eR

def c21 : MC := (.seq (.reg [rg 2 (.f (.nilrow 3))]) (.seq (.seq (.reg [mvt 3 0, rg 4 (.p true (.isn false (.t 3)))]) (.cond (.t 4) (.seq (.reg [rg 2 (.f (.nilrow 3))]) .ret) .skip)) (.seq (.reg [rg 5 (.f (.bsl 3 [])), mvt 6 0, rg 7 (.f (.app (.t 5) (.t 6) 3 48 false)), mvt 2 7]) .ret)))
theorem c21_is : compFn Try.prog 21 = some (c21, [(.tmp 2)]) := by kernel_rfl
theorem c21_ok : okFn Try.prog 21 = true := by kernel_rfl

noncomputable def F_slices_Clone_SBlock_Block_j0 (v0 : List TBlock) : Option (List TBlock) :=
 (need (room (v0.length) 48) (some v0))
noncomputable def F_slices_Clone_SBlock_Block (v0 : List TBlock) : Option (List TBlock) :=
 (bif (decide (v0.length = 0)) then (both (some []) (F_slices_Clone_SBlock_Block_j0 v0))
 else F_slices_Clone_SBlock_Block_j0 v0)
@[simp] def res_slices_Clone_SBlock_Block (r : List TBlock) : RV := .one (.one (.row true 3 (r.map eBlock)))
theorem con_slices_Clone_SBlock_Block {v0 : List TBlock} {r : List TBlock} (hF : F_slices_Clone_SBlock_Block v0 = some r) : Con Try.prog 21 [.sl 3 (v0.map eBlock)] (res_slices_Clone_SBlock_Block r) := by
 unfold F_slices_Clone_SBlock_Block at hF
 refine con_of c21_is fun N => ?_
 refine ws 0 64 ?_
 refine qf (.sl 0 0 0) [(0, .row true 3 (([] : List Int).map vI))] (by simp) ?_
 refine r_nil ?_
 refine w_meet (fun s' => s' = mkS [(0, AL 3 (v0.map eBlock))] (fo []) 1 ∧ F_slices_Clone_SBlock_Block_j0 v0 = some r) ?_ ?_
 ·
  refine ws 64 192 ?_
  refine qp (AL 3 (v0.map eBlock)) rfl ?_
  refine b_case hF (fun z1000 hF => ?_) (fun z1000 hF => ?_)
  ·
   refine qp .ub (isn_e (by simpa using z1000)) ?_
   refine r_nil ?_
   refine w_condUF hF rfl (fun hF => ?_) (fun hF => ?_)
   ·
    refine ws 192 256 ?_
    refine qf (.sl 192 0 0) [(192, .row true 3 (([] : List TBlock).map eBlock)), (0, .row true 3 (([] : List Int).map vI))] (by simp) ?_
    refine r_nil ?_
    refine w_ret ?_
    refine thenQ_r ?_
    cases hF
    exact eR
   ·
    refine w_skip ?_
    refine thenQ_n ?_
    refine ar (l' := [(0, AL 3 (v0.map eBlock))]) (L := []) [0] [] 1 ⟨rfl, hF⟩
  ·
   refine qp (AB false) (isn_n (by simpa using z1000)) ?_
   refine r_nil ?_
   refine w_false rfl ?_
   refine w_skip ?_
   refine thenQ_n ?_
   refine ar (l' := [(0, AL 3 (v0.map eBlock))]) (L := []) [0] [] 1 ⟨rfl, hF⟩
 ·
  rintro s' ⟨rfl, hF⟩
  unfold F_slices_Clone_SBlock_Block_j0 at hF
  refine ws 1 257 ?_
  refine qf (.sl 1 0 0) [(1, .row true 3 (([] : List TBlock).map eBlock))] (by simp [List.take_of_length_le]) ?_
  refine qp (AL 3 (v0.map eBlock)) rfl ?_
  obtain ⟨g1001, hF⟩ := need_some hF
  refine qf (.sl 129 0 v0.length) [(129, .row true 3 (v0.map eBlock)), (1, .dead), (1, .row true 3 (([] : List TBlock).map eBlock))] (effT_app_v0 rfl (by simp) rfl rfl (fun _ => rfl) g1001) ?_
  refine qp (.sl 129 0 v0.length) rfl ?_
  refine r_nil ?_
  refine w_ret ?_
  cases hF
  exact eR

theorem c29_ok : okFn Try.prog 29 = true := by kernel_rfl




def c17 : MC := (.seq (.reg [rg 3 (.f (.box (.t 1))), rg 4 (.f (.nilrow 3))]) (.seq (.reg [mvt 9 0, rg 10 (.p true (.ld (.t 3) 3 true)), rg 11 (.call true 18 [(.t 9), (.t 10), (.f 19)]), mvt 8 11, rg 12 (.p true (.ext (.t 8) 0)), rg 13 (.p true (.ext (.t 8) 1)), mvt 5 12, mvt 6 13]) (.seq (.reg [mvt 14 0, rg 15 (.call true 21 [(.t 14)]), mvt 7 15]) (.seq (.seq (.reg [mvt 16 6]) (.cond (.t 16) (.seq (.reg [mvt 17 7, mvt 18 5, rg 19 (.p true (.ld (.t 3) 3 true)), rg 20 (.p true (.iad (.t 17) (.t 18) 3)), ⟨none, none, (.f (.st (.t 20) (.t 19) 3))⟩]) (.seq (.reg [mvt 21 7, mvt 4 21]) .ret)) .skip)) (.seq (.reg [mvt 22 7, mvt 23 5, rg 24 (.p true (.ld (.t 3) 3 true)), rg 25 (.f (.bsl 3 [(.t 24)])), rg 26 (.call true 29 [(.t 22), (.t 23), (.t 25)]), mvt 4 26]) .ret)))))
theorem c17_is : compFn Try.prog 17 = some (c17, [(.tmp 4)]) := by kernel_rfl
theorem c17_ok : okFn Try.prog 17 = true := by kernel_rfl

noncomputable def F_impl_withBlock (v0 : List TBlock) (v1 : TBlock) : Option (List TBlock) :=
 ((F_slices_BinarySearchFunc_SBlock_Block v0 v1).bind fun v1000 => ((F_slices_Clone_SBlock_Block v0).bind fun v1001 => (bif v1000.2 then ((ix v1001 v1000.1).bind fun v1002 => some (List.set v1001 v1000.1.toNat v1))
 else ((F_ins 48 v1001 v1000.1 [v1]).bind fun v1003 => some v1003))))
@[simp] def res_impl_withBlock (r : List TBlock) : RV := .one (.one (.row true 3 (r.map eBlock)))
theorem con_impl_withBlock {v0 : List TBlock} {v1 : TBlock} {r : List TBlock} (hF : F_impl_withBlock v0 v1 = some r) : Con Try.prog 17 [.sl 3 (v0.map eBlock), eBlock v1] (res_impl_withBlock r) := by
 unfold F_impl_withBlock at hF
 refine con_of c17_is fun N => ?_
 refine ws 0 128 ?_
 refine qf (.ptr 0 0 0) [(0, .box [AS v1.1, AS v1.2.1, AS v1.2.2])] (by simp) ?_
 refine qf (.sl 64 0 0) [(64, .row true 3 (([] : List Int).map vI)), (0, .box [AS v1.1, AS v1.2.1, AS v1.2.2])] (by simp) ?_
 refine r_nil ?_
 refine ws 128 640 ?_
 refine qp (AL 3 (v0.map eBlock)) rfl (qp (.agg [AS v1.1, AS v1.2.1, AS v1.2.2]) rfl ?_)
 obtain ⟨v1000, e1000, hF⟩ := bind_get hF
 refine qc (.tup [AI v1000.1, AB v1000.2]) [(64, .row true 3 (([] : List Int).map vI)), (0, .box [AS v1.1, AS v1.2.1, AS v1.2.2])] false (con_slices_BinarySearchFunc_SBlock_Block e1000) c18_ok (by first | rfl | simp) rfl ?_
 refine qp (.tup [AI v1000.1, AB v1000.2]) rfl (qp (AI v1000.1) rfl (qp (AB v1000.2) rfl (qp (AI v1000.1) rfl (qp (AB v1000.2) rfl ?_))))
 refine r_nil ?_
 refine ws 640 832 ?_
 refine qp (AL 3 (v0.map eBlock)) rfl ?_
 obtain ⟨v1001, e1001, hF⟩ := bind_get hF
 refine qc (.sl 704 0 v1001.length) [(704, .row true 3 (v1001.map eBlock)), (64, .row true 3 (([] : List Int).map vI)), (0, .box [AS v1.1, AS v1.2.1, AS v1.2.2])] false (con_slices_Clone_SBlock_Block e1001) c21_ok (by first | rfl | simp) (by simp [res_slices_Clone_SBlock_Block]) ?_
 refine qp (.sl 704 0 v1001.length) rfl ?_
 refine r_nil ?_
 refine w_seq ?_
 refine ws 832 896 ?_
 refine qp (AB v1000.2) rfl ?_
 refine r_nil ?_
 refine cF hF (fun hF => ?_) fun hF => ?_
 ·
  refine ws 896 1216 ?_
  refine qp (.sl 704 0 v1001.length) rfl (qp (AI v1000.1) rfl (qp (.agg [AS v1.1, AS v1.2.1, AS v1.2.2]) rfl ?_))
  obtain ⟨v1002, e1002, hF⟩ := bind_get hF
  refine qp (.ptr 704 v1000.1.toNat 0) (ev_iad_r rfl (by simp) rfl rfl e1002) ?_
  refine qf0 (.undef) [(704, .row true 3 ((List.set v1001 v1000.1.toNat v1).map eBlock)), (704, .row true 3 (v1001.map eBlock)), (64, .row true 3 (([] : List Int).map vI)), (0, .box [AS v1.1, AS v1.2.1, AS v1.2.2])] (effT_st rfl rfl (ix_some e1002).2 rfl rfl (by rfl) (by first | rfl | simp [patch, reb, List.take_of_length_le]) (by rfl) rfl) ?_
  refine r_nil ?_
  refine ws 1216 1344 ?_
  refine qp (.sl 704 0 v1001.length) rfl (qp (.sl 704 0 v1001.length) rfl ?_)
  refine r_nil ?_
  refine w_ret ?_
  refine thenQ_r ?_
  cases hF
  exact eR
 ·
  refine w_skip ?_
  refine thenQ_n ?_
  refine ws 896 1280 ?_
  refine qp (.sl 704 0 v1001.length) rfl (qp (AI v1000.1) rfl (qp (.agg [AS v1.1, AS v1.2.1, AS v1.2.2]) rfl ?_))
  refine qf (.sl 1088 0 ([v1].length)) [(1088, .row true 3 ([v1].map eBlock)), (704, .row true 3 (v1001.map eBlock)), (64, .row true 3 (([] : List Int).map vI)), (0, .box [AS v1.1, AS v1.2.1, AS v1.2.2])] (by simp [List.take_of_length_le]) ?_
  obtain ⟨v1003, e1003, hF⟩ := bind_get hF
  refine qX (.sl 1152 0 v1003.length) [(1152, .row true 3 (v1003.map eBlock)), (704, .dead), (1088, .row true 3 ([v1].map eBlock)), (704, .row true 3 (v1001.map eBlock)), (64, .row true 3 (([] : List Int).map vI)), (0, .box [AS v1.1, AS v1.2.1, AS v1.2.2])] true rfl rfl (whole_row (by simp)) (con_ins_29 (e := eBlock) e1003) c29_ok (by simp [List.take_of_length_le]) (by simp [RV.r]) ?_
  refine qp (.sl 1152 0 v1003.length) rfl ?_
  refine r_nil ?_
  refine w_ret ?_
  cases hF
  exact eR

def c6 : MC := (.seq (.reg [rg 3 (.f (.box (.t 1))), rg 4 (.f (.nilrow 3)), rg 5 (.p true (.mv (.c (.int .i64 0))))]) (.seq (.seq (.reg [mvt 7 0, rg 8 (.call true 15 [(.t 7)]), rg 9 (.p true (.not (.t 8))), mvt 10 9, ⟨(some 11), (some (10, false)), (.p true (.ld (.t 3) 3 true))⟩, ⟨(some 12), (some (10, false)), (.call true 16 [(.t 11)])⟩, ⟨(some 13), (some (10, false)), (.p true (.not (.t 12)))⟩, rg 14 (.p true (.pick (.t 10) (.c (.bool true)) (.t 13)))]) (.cond (.t 14) (.seq (.reg [rg 4 (.f (.nilrow 3)), rg 5 (.p true (.mv (.c (.int .i64 1))))]) .ret) .skip)) (.seq (.reg [mvt 15 0, rg 16 (.p true (.ld (.t 3) 3 true)), rg 17 (.call true 17 [(.t 15), (.t 16)]), mvt 6 17]) (.seq (.seq (.reg [mvt 18 6, rg 19 (.p true (.len (.t 18))), rg 20 (.p true (.bin .gtr (.t 19) (.c (.int .i64 32))))]) (.cond (.t 20) (.seq (.reg [rg 4 (.f (.nilrow 3)), rg 5 (.p true (.mv (.c (.int .i64 5))))]) .ret) .skip)) (.seq (.reg [mvt 21 6, mvt 4 21, rg 5 (.p true (.mv (.c (.int .i64 0))))]) .ret)))))
theorem c6_is : compFn Try.prog 6 = some (c6, [(.tmp 4), (.tmp 5)]) := by kernel_rfl
theorem c6_ok : okFn Try.prog 6 = true := by kernel_rfl

noncomputable def F_impl_PutBlock (v0 : List TBlock) (v1 : TBlock) : Option ((List TBlock) × Int) :=
 ((F_impl_ValidBlocks v0).bind fun v1000 => (bif (!v1000) then some ([], 1)
 else ((F_impl_ValidBlock v1).bind fun v1001 => (bif (!v1001) then some ([], 1)
 else ((F_impl_withBlock v0 v1).bind fun v1002 => (bif (decide ((32 : Int) < (v1002.length : Int))) then some ([], 5)
 else some (v1002, 0)))))))
@[simp] def res_impl_PutBlock (r : (List TBlock) × Int) : RV := .tup [.one (.row true 3 (r.1.map eBlock)), .one (.val (.int .i64 r.2))]
theorem con_impl_PutBlock {v0 : List TBlock} {v1 : TBlock} {r : (List TBlock) × Int} (hF : F_impl_PutBlock v0 v1 = some r) : Con Try.prog 6 [.sl 3 (v0.map eBlock), eBlock v1] (res_impl_PutBlock r) := by
 unfold F_impl_PutBlock at hF
 refine con_of c6_is fun N => ?_
 refine ws 0 192 ?_
 refine qf (.ptr 0 0 0) [(0, .box [AS v1.1, AS v1.2.1, AS v1.2.2])] (by simp) ?_
 refine qf (.sl 64 0 0) [(64, .row true 3 (([] : List Int).map vI)), (0, .box [AS v1.1, AS v1.2.1, AS v1.2.2])] (by simp) ?_
 refine qp (AI 0) rfl ?_
 refine r_nil ?_
 refine w_seq ?_
 refine ws 192 704 ?_
 refine qp (AL 3 (v0.map eBlock)) rfl ?_
 obtain ⟨v1000, e1000, hF⟩ := bind_get hF
 refine qc (AB v1000) [(64, .row true 3 (([] : List Int).map vI)), (0, .box [AS v1.1, AS v1.2.1, AS v1.2.2])] false (con_impl_ValidBlocks e1000) c15_ok (by first | rfl | simp) rfl ?_
 refine qp (AB (!v1000)) rfl (qp (AB (!v1000)) rfl ?_)
 refine q_case 10 hF rfl (fun hF => ?_) (fun hF => ?_)
 ·
  refine qn rfl (qn rfl (qn rfl (qp (AB true) rfl ?_)))
  refine r_nil ?_
  refine w_true rfl ?_
  refine ws 704 832 ?_
  refine qf (.sl 704 0 0) [(704, .row true 3 (([] : List TBlock).map eBlock)), (64, .row true 3 (([] : List Int).map vI)), (0, .box [AS v1.1, AS v1.2.1, AS v1.2.2])] (by simp) ?_
  refine qp (AI 1) rfl ?_
  refine r_nil ?_
  refine w_ret ?_
  refine thenQ_r ?_
  cases hF
  exact eR
 ·
  refine qg (.agg [AS v1.1, AS v1.2.1, AS v1.2.2]) rfl rfl ?_
  obtain ⟨v1001, e1001, hF⟩ := bind_get hF
  refine qcg (AB v1001) [(64, .row true 3 (([] : List Int).map vI)), (0, .box [AS v1.1, AS v1.2.1, AS v1.2.2])] false rfl (con_impl_ValidBlock e1001) c16_ok (by first | rfl | simp) rfl ?_
  refine qg (AB (!v1001)) rfl rfl (qp (AB (!v1001)) rfl ?_)
  refine r_nil ?_
  refine cF hF (fun hF => ?_) fun hF => ?_
  ·
   refine ws 704 832 ?_
   refine qf (.sl 704 0 0) [(704, .row true 3 (([] : List TBlock).map eBlock)), (64, .row true 3 (([] : List Int).map vI)), (0, .box [AS v1.1, AS v1.2.1, AS v1.2.2])] (by simp) ?_
   refine qp (AI 1) rfl ?_
   refine r_nil ?_
   refine w_ret ?_
   refine thenQ_r ?_
   cases hF
   exact eR
  ·
   refine w_skip ?_
   refine thenQ_n ?_
   refine ws 704 960 ?_
   refine qp (AL 3 (v0.map eBlock)) rfl (qp (.agg [AS v1.1, AS v1.2.1, AS v1.2.2]) rfl ?_)
   obtain ⟨v1002, e1002, hF⟩ := bind_get hF
   refine qc (.sl 832 0 v1002.length) [(832, .row true 3 (v1002.map eBlock)), (64, .row true 3 (([] : List Int).map vI)), (0, .box [AS v1.1, AS v1.2.1, AS v1.2.2])] false (con_impl_withBlock e1002) c17_ok (by first | rfl | simp) (by simp [res_impl_withBlock]) ?_
   refine qp (.sl 832 0 v1002.length) rfl ?_
   refine r_nil ?_
   refine w_seq ?_
   refine ws 960 1152 ?_
   refine qp (.sl 832 0 v1002.length) rfl (qp (AI (v1002.length : Int)) rfl (qp (AB (decide ((32 : Int) < (v1002.length : Int)))) rfl ?_))
   refine r_nil ?_
   refine cF hF (fun hF => ?_) fun hF => ?_
   ·
    refine ws 1152 1280 ?_
    refine qf (.sl 1152 0 0) [(1152, .row true 3 (([] : List TBlock).map eBlock)), (832, .row true 3 (v1002.map eBlock)), (64, .row true 3 (([] : List Int).map vI)), (0, .box [AS v1.1, AS v1.2.1, AS v1.2.2])] (by simp) ?_
    refine qp (AI 5) rfl ?_
    refine r_nil ?_
    refine w_ret ?_
    refine thenQ_r ?_
    cases hF
    exact eR
   ·
    refine w_skip ?_
    refine thenQ_n ?_
    refine ws 1152 1344 ?_
    refine qp (.sl 832 0 v1002.length) rfl (qp (.sl 832 0 v1002.length) rfl (qp (AI 0) rfl ?_))
    refine r_nil ?_
    refine w_ret ?_
    cases hF
    exact eR

def c7 : MC := (.seq (.reg [rg 6 (.p true (.mv (.c (.str [])))), rg 7 (.p true (.mv (.c (.int .i64 0))))]) (.seq (.seq (.reg [mvt 10 0, rg 11 (.call true 15 [(.t 10)]), rg 12 (.p true (.not (.t 11)))]) (.cond (.t 12) (.seq (.reg [rg 6 (.p true (.mv (.c (.str [])))), rg 7 (.p true (.mv (.c (.int .i64 1))))]) .ret) .skip)) (.seq (.reg [mvt 14 0, mvt 15 1, mvt 16 2, rg 17 (.f (.bld [((.str []), (0, true)), ((.str []), (0, true)), ((.str []), (0, false))] [(0, (1, (.t 15))), (1, (1, (.t 16)))])), rg 18 (.call true 18 [(.t 14), (.t 17), (.f 19)]), mvt 13 18, rg 19 (.p true (.ext (.t 13) 0)), rg 20 (.p true (.ext (.t 13) 1)), mvt 8 19, mvt 9 20]) (.seq (.seq (.reg [mvt 21 9, rg 22 (.p true (.not (.t 21)))]) (.cond (.t 22) (.seq (.reg [rg 6 (.p true (.mv (.c (.str [])))), rg 7 (.p true (.mv (.c (.int .i64 3))))]) .ret) .skip)) (.seq (.reg [mvt 23 0, mvt 24 8, rg 25 (.p true (.iad (.t 23) (.t 24) 3)), rg 26 (.p true (.fad (.t 25) 2)), rg 27 (.p true (.ld (.t 26) 1 false)), mvt 6 27, rg 7 (.p true (.mv (.c (.int .i64 0))))]) .ret)))))
theorem c7_is : compFn Try.prog 7 = some (c7, [(.tmp 6), (.tmp 7)]) := by kernel_rfl
theorem c7_ok : okFn Try.prog 7 = true := by kernel_rfl

noncomputable def F_impl_BlockNamed (v0 : List TBlock) (v1 : List UInt8) (v2 : List UInt8) : Option ((List UInt8) × Int) :=
 ((F_impl_ValidBlocks v0).bind fun v1000 => (bif (!v1000) then some ([], 1)
 else ((F_slices_BinarySearchFunc_SBlock_Block v0 (v1, v2, [])).bind fun v1001 => (bif (!v1001.2) then some ([], 3)
 else ((ix v0 v1001.1).bind fun v1002 => some (v1002.2.2, 0))))))
@[simp] def res_impl_BlockNamed (r : (List UInt8) × Int) : RV := .tup [.one (.val (.str r.1)), .one (.val (.int .i64 r.2))]
theorem con_impl_BlockNamed {v0 : List TBlock} {v1 : List UInt8} {v2 : List UInt8} {r : (List UInt8) × Int} (hF : F_impl_BlockNamed v0 v1 v2 = some r) : Con Try.prog 7 [.sl 3 (v0.map eBlock), .str v1, .str v2] (res_impl_BlockNamed r) := by
 unfold F_impl_BlockNamed at hF
 refine con_of c7_is fun N => ?_
 refine ws 0 128 ?_
 refine qp (AS []) rfl (qp (AI 0) rfl ?_)
 refine r_nil ?_
 refine w_seq ?_
 refine ws 128 320 ?_
 refine qp (AL 3 (v0.map eBlock)) rfl ?_
 obtain ⟨v1000, e1000, hF⟩ := bind_get hF
 refine qc (AB v1000) [] false (con_impl_ValidBlocks e1000) c15_ok (by first | rfl | simp) rfl ?_
 refine qp (AB (!v1000)) rfl ?_
 refine r_nil ?_
 refine cF hF (fun hF => ?_) fun hF => ?_
 ·
  refine ws 320 448 ?_
  refine qp (AS []) rfl (qp (AI 1) rfl ?_)
  refine r_nil ?_
  refine w_ret ?_
  refine thenQ_r ?_
  cases hF
  exact eR
 ·
  refine w_skip ?_
  refine thenQ_n ?_
  refine ws 320 960 ?_
  refine qp (AL 3 (v0.map eBlock)) rfl (qp (AS v1) rfl (qp (AS v2) rfl ?_))
  refine qf (.agg [AS v1, AS v2, AS []]) [] (by simp) ?_
  obtain ⟨v1001, e1001, hF⟩ := bind_get hF
  refine qc (.tup [AI v1001.1, AB v1001.2]) [] false (con_slices_BinarySearchFunc_SBlock_Block e1001) c18_ok (by first | rfl | simp) rfl ?_
  refine qp (.tup [AI v1001.1, AB v1001.2]) rfl (qp (AI v1001.1) rfl (qp (AB v1001.2) rfl (qp (AI v1001.1) rfl (qp (AB v1001.2) rfl ?_))))
  refine r_nil ?_
  refine w_seq ?_
  refine ws 960 1088 ?_
  refine qp (AB v1001.2) rfl (qp (AB (!v1001.2)) rfl ?_)
  refine r_nil ?_
  refine cF hF (fun hF => ?_) fun hF => ?_
  ·
   refine ws 1088 1216 ?_
   refine qp (AS []) rfl (qp (AI 3) rfl ?_)
   refine r_nil ?_
   refine w_ret ?_
   refine thenQ_r ?_
   cases hF
   exact eR
  ·
   refine w_skip ?_
   refine thenQ_n ?_
   refine ws 1088 1536 ?_
   refine qp (AL 3 (v0.map eBlock)) rfl (qp (AI v1001.1) rfl ?_)
   obtain ⟨v1002, e1002, hF⟩ := bind_get hF
   refine qp (.val none (.ptr [.str v1002.1, .str v1002.2.1, .str v1002.2.2])) (ev_iad_n rfl rfl e1002 rfl) (qp (.val none (.ptr [.str v1002.2.2])) rfl (qp (AS v1002.2.2) rfl (qp (AS v1002.2.2) rfl (qp (AI 0) rfl ?_))))
   refine r_nil ?_
   refine w_ret ?_
   cases hF
   exact eR

def c20 : MC := (.seq (.reg [rg 6 (.f (.nilrow 3))]) (.seq (.reg [mvt 8 0, mvt 9 1, mvt 10 2, mvt 11 0, rg 12 (.p true (.len (.t 11))), rg 13 (.p true (.slc3 (.t 8) (some (.t 9)) (some (.t 10)) (some (.t 12)) 3))]) (.seq (.seq (.reg [mvt 14 1, mvt 15 2, rg 16 (.p true (.bin .eql (.t 14) (.t 15)))]) (.cond (.t 16) (.seq (.reg [mvt 17 0, mvt 6 17]) .ret) .skip)) (.seq (.reg [mvt 18 0, rg 19 (.p true (.len (.t 18))), mvt 7 19]) (.seq (.reg [rg 20 (.p false (.mv (.t 0))), rg 21 (.p false (.mv (.t 1))), rg 22 (.p false (.slc (.t 20) none (some (.t 21)) 3)), rg 23 (.p false (.mv (.t 0))), rg 24 (.p false (.mv (.t 2))), rg 25 (.p false (.slc (.t 23) (some (.t 24)) none 3)), rg 26 (.f (.app (.t 22) (.t 25) 3 48 false)), rg 0 (.p false (.mv (.t 26)))]) (.seq (.reg [mvt 27 0, mvt 28 0, rg 29 (.p true (.len (.t 28))), mvt 30 7, rg 31 (.p true (.slc (.t 27) (some (.t 29)) (some (.t 30)) 3)), ⟨none, none, (.f (.clr (.t 31) (.agg [(.str []), (.str []), (.str [])]) 3))⟩]) (.seq (.reg [mvt 32 0, mvt 6 32]) .ret)))))))
theorem c20_is : compFn Try.prog 20 = some (c20, [(.tmp 6)]) := by kernel_rfl
theorem c20_ok : okFn Try.prog 20 = true := by kernel_rfl

noncomputable def F_slices_Delete_SBlock_Block (v0 : List TBlock) (v1 : Int) (v2 : Int) : Option (List TBlock) :=
 (need (0 ≤ v1 ∧ v1 ≤ v2 ∧ v2 ≤ (v0.length : Int) ∧ (v0.length : Int) ≤ (v0.length : Int)) ((bif (decide (v1 = v2)) then some v0
 else (need (0 ≤ (0 : Int) ∧ (0 : Int) ≤ v1 ∧ v1 ≤ (v0.length : Int)) ((need (0 ≤ v2 ∧ v2 ≤ (v0.length : Int) ∧ (v0.length : Int) ≤ (v0.length : Int)) ((need (v1 + ((v0.length : Int) - v2) ≤ (v0.length : Int)) ((need (0 ≤ ((v1 + ((v0.length : Int) - v2)) - (0 : Int)) ∧ ((v1 + ((v0.length : Int) - v2)) - (0 : Int)) ≤ (v0.length : Int) ∧ (0 : Int) + (v0.length : Int) ≤ ((inL v0 v1 v2 (v0.length : Int)).length : Int)) (some (sub (clrL (inL v0 v1 v2 (v0.length : Int)) ((0 : Int) + ((v1 + ((v0.length : Int) - v2)) - (0 : Int))) ((0 : Int) + (v0.length : Int)) (([], [], []) : TBlock)) (0 : Int) (v1 + ((v0.length : Int) - v2))))))))))))))
@[simp] def res_slices_Delete_SBlock_Block (r : List TBlock) : RV := .one (.one (.row true 3 (r.map eBlock)))
theorem con_slices_Delete_SBlock_Block {v0 : List TBlock} {v1 : Int} {v2 : Int} {r : List TBlock} (hF : F_slices_Delete_SBlock_Block v0 v1 v2 = some r) : ConX Try.prog 20 true 3 (v0.map eBlock) [.int .i64 v1, .int .i64 v2] (res_slices_Delete_SBlock_Block r) := by
 unfold F_slices_Delete_SBlock_Block at hF
 refine conX_of (k := v0.length) c20_is (by simp) fun N => ?_
 refine ws 64 128 ?_
 refine qf (.sl 64 0 0) [(64, .row true 3 (([] : List Int).map vI)), (0, .row true 3 (v0.map eBlock))] (by simp) ?_
 refine r_nil ?_
 refine ws 128 512 ?_
 refine qp (.sl 0 0 v0.length) rfl (qp (AI v1) rfl (qp (AI v2) rfl (qp (.sl 0 0 v0.length) rfl (qp (AI (v0.length : Int)) rfl ?_))))
 obtain ⟨g1000, hF⟩ := need_some hF
 refine qp (.bad) (ev_slc3 rfl (by simp) rfl (bnd_some rfl g1000.1) (bnd_some rfl (Int.le_trans g1000.1 g1000.2.1)) (bnd_some rfl (Int.le_trans (Int.le_trans g1000.1 g1000.2.1) g1000.2.2.1)) g1000) ?_
 refine r_nil ?_
 refine w_seq ?_
 refine ws 512 704 ?_
 refine qp (AI v1) rfl (qp (AI v2) rfl (qp (AB (decide (v1 = v2))) rfl ?_))
 refine r_nil ?_
 refine cF hF (fun hF => ?_) fun hF => ?_
 ·
  refine ws 704 832 ?_
  refine qp (.sl 0 0 v0.length) rfl (qp (.sl 0 0 v0.length) rfl ?_)
  refine r_nil ?_
  refine w_ret ?_
  refine thenQ_r ?_
  cases hF
  exact eR
 ·
  refine w_skip ?_
  refine thenQ_n ?_
  refine ws 704 896 ?_
  refine qp (.sl 0 0 v0.length) rfl (qp (AI (v0.length : Int)) rfl (qp (AI (v0.length : Int)) rfl ?_))
  refine r_nil ?_
  refine ws 896 1408 ?_
  refine qp (.sl 0 0 v0.length) rfl (qp (AI v1) rfl ?_)
  obtain ⟨g1001, hF⟩ := need_some hF
  refine qp (.sl 0 (0 : Int).toNat (v1.toNat - (0 : Int).toNat)) (ev_slc_r rfl (by simp) rfl rfl (bnd_some rfl (Int.le_trans g1001.1 g1001.2.1)) g1001) (qp (.sl 0 0 v0.length) rfl (qp (AI v2) rfl ?_))
  obtain ⟨g1002, hF⟩ := need_some hF
  refine qp (.sl 0 v2.toNat ((v0.length : Int).toNat - v2.toNat)) (ev_slc_r rfl (by simp) rfl (bnd_some rfl g1002.1) rfl g1002) ?_
  obtain ⟨g1003, hF⟩ := need_some hF
  refine qf (.sl 0 (0 : Int).toNat ((v1 + ((v0.length : Int) - v2)).toNat - (0 : Int).toNat)) [(0, .row true 3 ((inL v0 v1 v2 (v0.length : Int)).map eBlock)), (64, .row true 3 (([] : List Int).map vI)), (0, .row true 3 (v0.map eBlock))] (effT_in rfl rfl rfl g1001 g1002 g1003 (by simp [List.all_map, Function.comp_def]) (by decide)) ?_
  refine qp (.sl 0 (0 : Int).toNat ((v1 + ((v0.length : Int) - v2)).toNat - (0 : Int).toNat)) rfl ?_
  refine r_nil ?_
  refine ws 1408 1792 ?_
  refine qp (.sl 0 (0 : Int).toNat ((v1 + ((v0.length : Int) - v2)).toNat - (0 : Int).toNat)) rfl (qp (.sl 0 (0 : Int).toNat ((v1 + ((v0.length : Int) - v2)).toNat - (0 : Int).toNat)) rfl (qp (AI ((v1 + ((v0.length : Int) - v2)) - (0 : Int))) (ev_len_p rfl rfl (pt_in g1001 g1002 g1003)) (qp (AI (v0.length : Int)) rfl ?_)))
  obtain ⟨g1004, hF⟩ := need_some hF
  refine qp (.sl 0 ((0 : Int) + ((v1 + ((v0.length : Int) - v2)) - (0 : Int))).toNat (((0 : Int) + (v0.length : Int)).toNat - ((0 : Int) + ((v1 + ((v0.length : Int) - v2)) - (0 : Int))).toNat)) (ev_slc_p rfl rfl (bnd_some rfl g1004.1) (bnd_some rfl (Int.le_trans g1004.1 g1004.2.1)) (pt_in g1001 g1002 g1003) g1004) ?_
  refine qf0 (.undef) [(0, .row true 3 ((clrL (inL v0 v1 v2 (v0.length : Int)) ((0 : Int) + ((v1 + ((v0.length : Int) - v2)) - (0 : Int))) ((0 : Int) + (v0.length : Int)) (([], [], []) : TBlock)).map eBlock)), (0, .row true 3 ((inL v0 v1 v2 (v0.length : Int)).map eBlock)), (64, .row true 3 (([] : List Int).map vI)), (0, .row true 3 (v0.map eBlock))] (effT_clr rfl rfl (pt_sub (pt_in g1001 g1002 g1003) g1004) rfl (by decide)) ?_
  refine r_nil ?_
  refine ws 1792 1920 ?_
  refine qp (.sl 0 (0 : Int).toNat ((v1 + ((v0.length : Int) - v2)).toNat - (0 : Int).toNat)) rfl (qp (.sl 0 (0 : Int).toNat ((v1 + ((v0.length : Int) - v2)).toNat - (0 : Int).toNat)) rfl ?_)
  refine r_nil ?_
  have g1005 : 0 ≤ (0 : Int) ∧ (0 : Int) ≤ (v1 + ((v0.length : Int) - v2)) ∧ (v1 + ((v0.length : Int) - v2)) ≤ ((clrL (inL v0 v1 v2 (v0.length : Int)) ((0 : Int) + ((v1 + ((v0.length : Int) - v2)) - (0 : Int))) ((0 : Int) + (v0.length : Int)) (([], [], []) : TBlock)).length : Int) := by first | exact (pt_in g1001 g1002 g1003) | (have h := (pt_in g1001 g1002 g1003); simp only [inL_len g1001 g1002 g1003, clrL_len (pt_sub (pt_in g1001 g1002 g1003) g1004)] at h ⊢; exact h)
  refine w_drop (l' := [(6, .sl 0 (0 : Int).toNat ((v1 + ((v0.length : Int) - v2)).toNat - (0 : Int).toNat))]) [6] (by first | rfl | simp [inL_len g1001 g1002 g1003, clrL_len (pt_sub (pt_in g1001 g1002 g1003) g1004)]) ?_
  refine w_rebF (l' := [(6, .sl 0 0 ((sub (clrL (inL v0 v1 v2 (v0.length : Int)) ((0 : Int) + ((v1 + ((v0.length : Int) - v2)) - (0 : Int))) ((0 : Int) + (v0.length : Int)) (([], [], []) : TBlock)) (0 : Int) (v1 + ((v0.length : Int) - v2))).length))]) (r := 0) (lo := (0 : Int)) (hi := (v1 + ((v0.length : Int) - v2))) rfl g1005 (RebL.part (sub_len g1005) RebL.nil) rfl ?_
  refine w_ret ?_
  cases hF
  exact endQ_r rfl (.inl ⟨_, _, by first | rfl | (simp [List.take_of_length_le]; first | exact ⟨rfl, rfl⟩ | rfl), by simp, by first | rfl | simp [res_slices_Delete_SBlock_Block, List.take_of_length_le, inL_len g1001 g1002 g1003, clrL_len (pt_sub (pt_in g1001 g1002 g1003) g1004)]⟩)

def c8 : MC := (.seq (.reg [rg 6 (.f (.nilrow 3)), rg 7 (.p true (.mv (.c (.int .i64 0))))]) (.seq (.seq (.reg [mvt 10 0, rg 11 (.call true 15 [(.t 10)]), rg 12 (.p true (.not (.t 11)))]) (.cond (.t 12) (.seq (.reg [rg 6 (.f (.nilrow 3)), rg 7 (.p true (.mv (.c (.int .i64 1))))]) .ret) .skip)) (.seq (.reg [mvt 14 0, mvt 15 1, mvt 16 2, rg 17 (.f (.bld [((.str []), (0, true)), ((.str []), (0, true)), ((.str []), (0, false))] [(0, (1, (.t 15))), (1, (1, (.t 16)))])), rg 18 (.call true 18 [(.t 14), (.t 17), (.f 19)]), mvt 13 18, rg 19 (.p true (.ext (.t 13) 0)), rg 20 (.p true (.ext (.t 13) 1)), mvt 8 19, mvt 9 20]) (.seq (.seq (.reg [mvt 21 9, rg 22 (.p true (.not (.t 21)))]) (.cond (.t 22) (.seq (.reg [rg 6 (.f (.nilrow 3)), rg 7 (.p true (.mv (.c (.int .i64 3))))]) .ret) .skip)) (.seq (.reg [mvt 23 0, rg 24 (.call true 21 [(.t 23)]), mvt 25 8, mvt 26 8, rg 27 (.p true (.bin .add (.t 26) (.c (.int .i64 1)))), rg 28 (.call true 20 [(.t 24), (.t 25), (.t 27)]), mvt 6 28, rg 7 (.p true (.mv (.c (.int .i64 0))))]) .ret)))))
theorem c8_is : compFn Try.prog 8 = some (c8, [(.tmp 6), (.tmp 7)]) := by kernel_rfl
theorem c8_ok : okFn Try.prog 8 = true := by kernel_rfl

noncomputable def F_impl_DropBlock (v0 : List TBlock) (v1 : List UInt8) (v2 : List UInt8) : Option ((List TBlock) × Int) :=
 ((F_impl_ValidBlocks v0).bind fun v1000 => (bif (!v1000) then some ([], 1)
 else ((F_slices_BinarySearchFunc_SBlock_Block v0 (v1, v2, [])).bind fun v1001 => (bif (!v1001.2) then some ([], 3)
 else ((F_slices_Clone_SBlock_Block v0).bind fun v1002 => ((F_slices_Delete_SBlock_Block v1002 v1001.1 (w64 (v1001.1 + 1))).bind fun v1003 => some (v1003, 0)))))))
@[simp] def res_impl_DropBlock (r : (List TBlock) × Int) : RV := .tup [.one (.row true 3 (r.1.map eBlock)), .one (.val (.int .i64 r.2))]
theorem con_impl_DropBlock {v0 : List TBlock} {v1 : List UInt8} {v2 : List UInt8} {r : (List TBlock) × Int} (hF : F_impl_DropBlock v0 v1 v2 = some r) : Con Try.prog 8 [.sl 3 (v0.map eBlock), .str v1, .str v2] (res_impl_DropBlock r) := by
 unfold F_impl_DropBlock at hF
 refine con_of c8_is fun N => ?_
 refine ws 0 128 ?_
 refine qf (.sl 0 0 0) [(0, .row true 3 (([] : List Int).map vI))] (by simp) ?_
 refine qp (AI 0) rfl ?_
 refine r_nil ?_
 refine w_seq ?_
 refine ws 128 320 ?_
 refine qp (AL 3 (v0.map eBlock)) rfl ?_
 obtain ⟨v1000, e1000, hF⟩ := bind_get hF
 refine qc (AB v1000) [(0, .row true 3 (([] : List Int).map vI))] false (con_impl_ValidBlocks e1000) c15_ok (by first | rfl | simp) rfl ?_
 refine qp (AB (!v1000)) rfl ?_
 refine r_nil ?_
 refine cF hF (fun hF => ?_) fun hF => ?_
 ·
  refine ws 320 448 ?_
  refine qf (.sl 320 0 0) [(320, .row true 3 (([] : List TBlock).map eBlock)), (0, .row true 3 (([] : List Int).map vI))] (by simp) ?_
  refine qp (AI 1) rfl ?_
  refine r_nil ?_
  refine w_ret ?_
  refine thenQ_r ?_
  cases hF
  exact eR
 ·
  refine w_skip ?_
  refine thenQ_n ?_
  refine ws 320 960 ?_
  refine qp (AL 3 (v0.map eBlock)) rfl (qp (AS v1) rfl (qp (AS v2) rfl ?_))
  refine qf (.agg [AS v1, AS v2, AS []]) [(0, .row true 3 (([] : List Int).map vI))] (by simp) ?_
  obtain ⟨v1001, e1001, hF⟩ := bind_get hF
  refine qc (.tup [AI v1001.1, AB v1001.2]) [(0, .row true 3 (([] : List Int).map vI))] false (con_slices_BinarySearchFunc_SBlock_Block e1001) c18_ok (by first | rfl | simp) rfl ?_
  refine qp (.tup [AI v1001.1, AB v1001.2]) rfl (qp (AI v1001.1) rfl (qp (AB v1001.2) rfl (qp (AI v1001.1) rfl (qp (AB v1001.2) rfl ?_))))
  refine r_nil ?_
  refine w_seq ?_
  refine ws 960 1088 ?_
  refine qp (AB v1001.2) rfl (qp (AB (!v1001.2)) rfl ?_)
  refine r_nil ?_
  refine cF hF (fun hF => ?_) fun hF => ?_
  ·
   refine ws 1088 1216 ?_
   refine qf (.sl 1088 0 0) [(1088, .row true 3 (([] : List TBlock).map eBlock)), (0, .row true 3 (([] : List Int).map vI))] (by simp) ?_
   refine qp (AI 3) rfl ?_
   refine r_nil ?_
   refine w_ret ?_
   refine thenQ_r ?_
   cases hF
   exact eR
  ·
   refine w_skip ?_
   refine thenQ_n ?_
   refine ws 1088 1600 ?_
   refine qp (AL 3 (v0.map eBlock)) rfl ?_
   obtain ⟨v1002, e1002, hF⟩ := bind_get hF
   refine qc (.sl 1152 0 v1002.length) [(1152, .row true 3 (v1002.map eBlock)), (0, .row true 3 (([] : List Int).map vI))] false (con_slices_Clone_SBlock_Block e1002) c21_ok (by first | rfl | simp) (by simp [res_slices_Clone_SBlock_Block]) ?_
   refine qp (AI v1001.1) rfl (qp (AI v1001.1) rfl (qp (AI (w64 (v1001.1 + 1))) rfl ?_))
   obtain ⟨v1003, e1003, hF⟩ := bind_get hF
   refine qX (.sl 1408 0 v1003.length) [(1408, .row true 3 (v1003.map eBlock)), (1152, .dead), (1152, .row true 3 (v1002.map eBlock)), (0, .row true 3 (([] : List Int).map vI))] false rfl rfl (whole_row (by simp)) (con_slices_Delete_SBlock_Block e1003) c20_ok (by first | rfl | simp) (by simp [res_slices_Delete_SBlock_Block]) ?_
   refine qp (.sl 1408 0 v1003.length) rfl (qp (AI 0) rfl ?_)
   refine r_nil ?_
   refine w_ret ?_
   cases hF
   exact eR

def c9 : MC := (.seq (.reg [rg 4 (.f (.nilrow 3)), rg 5 (.p true (.mv (.c (.int .i64 0))))]) (.seq (.seq (.reg [mvt 9 0, rg 10 (.call true 15 [(.t 9)]), rg 11 (.p true (.not (.t 10))), mvt 12 11, ⟨(some 13), (some (12, false)), (.p true (.mv (.t 1)))⟩, ⟨(some 14), (some (12, false)), (.call true 15 [(.t 13)])⟩, ⟨(some 15), (some (12, false)), (.p true (.not (.t 14)))⟩, rg 16 (.p true (.pick (.t 12) (.c (.bool true)) (.t 15)))]) (.cond (.t 16) (.seq (.reg [rg 4 (.f (.nilrow 3)), rg 5 (.p true (.mv (.c (.int .i64 1))))]) .ret) .skip)) (.seq (.reg [mvt 17 0, rg 18 (.call true 21 [(.t 17)]), mvt 6 18]) (.seq (.seq (.reg [mvt 19 1, rg 20 (.p true (.len (.t 19))), rg 21 (.p true (.mv (.c (.int .i64 0))))]) (.block 0 (.loop (.seq (.reg [rg 22 (.p true (.bin .lss (.t 21) (.t 20)))]) (.seq (.cond (.t 22) .skip (.exit 0)) (.seq (.block 1 (.seq (.reg [rg 23 (.p true (.iad (.t 19) (.t 21) 3)), rg 24 (.p true (.ld (.t 23) 3 true)), rg 8 (.f (.alloc [((.str []), (0, false)), ((.str []), (0, false)), ((.str []), (0, false))])), ⟨none, none, (.f (.st (.t 8) (.t 24) 3))⟩]) (.reg [mvt 25 6, rg 26 (.p true (.ld (.t 8) 3 true)), rg 27 (.call true 17 [(.t 25), (.t 26)]), mvt 6 27]))) (.reg [rg 28 (.p true (.bin .add (.t 21) (.c (.int .i64 1)))), mvt 21 28]))))))) (.seq (.seq (.reg [mvt 29 6, rg 30 (.p true (.len (.t 29))), rg 31 (.p true (.bin .gtr (.t 30) (.c (.int .i64 32))))]) (.cond (.t 31) (.seq (.reg [rg 4 (.f (.nilrow 3)), rg 5 (.p true (.mv (.c (.int .i64 5))))]) .ret) .skip)) (.seq (.reg [mvt 32 6, mvt 4 32, rg 5 (.p true (.mv (.c (.int .i64 0))))]) .ret))))))
theorem c9_is : compFn Try.prog 9 = some (c9, [(.tmp 4), (.tmp 5)]) := by kernel_rfl
theorem c9_ok : okFn Try.prog 9 = true := by kernel_rfl

noncomputable def F_impl_MergeBlocks_l0 (v1 : List TBlock) (k1 : Int × (List TBlock) → Option ((List TBlock) × Int)) : Int × (List TBlock) → Option ((List TBlock) × Int)
 | (v50006, v50007) => (bif (decide (v50006 < (v1.length : Int))) then ((ix v1 v50006).bind fun v1007 => ((F_impl_withBlock v50007 v1007).bind fun v1008 => k1 (w64 (v50006 + 1), v1008)))
 else (bif (decide ((32 : Int) < (v50007.length : Int))) then some ([], 5)
 else some (v50007, 0)))
noncomputable def F_impl_MergeBlocks (v0 : List TBlock) (v1 : List TBlock) : Option ((List TBlock) × Int) :=
 ((F_impl_ValidBlocks v0).bind fun v1000 => (bif (!v1000) then some ([], 1)
 else ((F_impl_ValidBlocks v1).bind fun v1001 => (bif (!v1001) then some ([], 1)
 else ((F_slices_Clone_SBlock_Block v0).bind fun v1002 => loop (F_impl_MergeBlocks_l0 v1) (0, v1002))))))
@[simp] def res_impl_MergeBlocks (r : (List TBlock) × Int) : RV := .tup [.one (.row true 3 (r.1.map eBlock)), .one (.val (.int .i64 r.2))]
theorem con_impl_MergeBlocks {v0 : List TBlock} {v1 : List TBlock} {r : (List TBlock) × Int} (hF : F_impl_MergeBlocks v0 v1 = some r) : Con Try.prog 9 [.sl 3 (v0.map eBlock), .sl 3 (v1.map eBlock)] (res_impl_MergeBlocks r) := by
 unfold F_impl_MergeBlocks at hF
 refine con_of c9_is fun N => ?_
 refine ws 0 128 ?_
 refine qf (.sl 0 0 0) [(0, .row true 3 (([] : List Int).map vI))] (by simp) ?_
 refine qp (AI 0) rfl ?_
 refine r_nil ?_
 refine w_seq ?_
 refine ws 128 640 ?_
 refine qp (AL 3 (v0.map eBlock)) rfl ?_
 obtain ⟨v1000, e1000, hF⟩ := bind_get hF
 refine qc (AB v1000) [(0, .row true 3 (([] : List Int).map vI))] false (con_impl_ValidBlocks e1000) c15_ok (by first | rfl | simp) rfl ?_
 refine qp (AB (!v1000)) rfl (qp (AB (!v1000)) rfl ?_)
 refine q_case 12 hF rfl (fun hF => ?_) (fun hF => ?_)
 ·
  refine qn rfl (qn rfl (qn rfl (qp (AB true) rfl ?_)))
  refine r_nil ?_
  refine w_true rfl ?_
  refine ws 640 768 ?_
  refine qf (.sl 640 0 0) [(640, .row true 3 (([] : List TBlock).map eBlock)), (0, .row true 3 (([] : List Int).map vI))] (by simp) ?_
  refine qp (AI 1) rfl ?_
  refine r_nil ?_
  refine w_ret ?_
  refine thenQ_r ?_
  cases hF
  exact eR
 ·
  refine qg (AL 3 (v1.map eBlock)) rfl rfl ?_
  obtain ⟨v1001, e1001, hF⟩ := bind_get hF
  refine qcg (AB v1001) [(0, .row true 3 (([] : List Int).map vI))] false rfl (con_impl_ValidBlocks e1001) c15_ok (by first | rfl | simp) rfl ?_
  refine qg (AB (!v1001)) rfl rfl (qp (AB (!v1001)) rfl ?_)
  refine r_nil ?_
  refine cF hF (fun hF => ?_) fun hF => ?_
  ·
   refine ws 640 768 ?_
   refine qf (.sl 640 0 0) [(640, .row true 3 (([] : List TBlock).map eBlock)), (0, .row true 3 (([] : List Int).map vI))] (by simp) ?_
   refine qp (AI 1) rfl ?_
   refine r_nil ?_
   refine w_ret ?_
   refine thenQ_r ?_
   cases hF
   exact eR
  ·
   refine w_skip ?_
   refine thenQ_n ?_
   refine ws 640 832 ?_
   refine qp (AL 3 (v0.map eBlock)) rfl ?_
   obtain ⟨v1002, e1002, hF⟩ := bind_get hF
   refine qc (.sl 704 0 v1002.length) [(704, .row true 3 (v1002.map eBlock)), (0, .row true 3 (([] : List Int).map vI))] false (con_slices_Clone_SBlock_Block e1002) c21_ok (by first | rfl | simp) (by simp [res_slices_Clone_SBlock_Block]) ?_
   refine qp (.sl 704 0 v1002.length) rfl ?_
   refine r_nil ?_
   refine w_seq ?_
   refine ws 832 1024 ?_
   refine qp (AL 3 (v1.map eBlock)) rfl (qp (AI (v1.length : Int)) (ev_len_n rfl) (qp (AI 0) rfl ?_))
   refine r_nil ?_
   refine w_block ?_
   refine wr (l' := [(6, .sl 0 0 v1002.length), (19, AL 3 (v1.map eBlock)), (20, AI (v1.length : Int)), (21, AI 0)]) (L := [(0, .row true 3 (v1002.map eBlock))]) [6, 19, 20, 21] [(704, 0)] 1 ?_
   refine w_loopF (F_impl_MergeBlocks_l0 v1) (fun s : Int × (List TBlock) => mkS [(6, .sl 0 0 s.2.length), (19, AL 3 (v1.map eBlock)), (20, AI (v1.length : Int)), (21, AI s.1)] (fo [(0, .row true 3 (s.2.map eBlock))]) 1) hF ?_
   rintro k1 ⟨v50006, v50007⟩ hF
   rw [F_impl_MergeBlocks_l0] at hF
   try dsimp only
   refine ws 1 65 ?_
   refine qp (AB (decide (v50006 < (v1.length : Int)))) rfl ?_
   refine r_nil ?_
   refine w_seq ?_
   refine cF hF (fun hF => ?_) fun hF => ?_
   ·
    refine w_skip ?_
    refine thenQ_n ?_
    refine w_seq ?_
    refine w_block ?_
    refine ws 65 321 ?_
    obtain ⟨v1007, e1007, hF⟩ := bind_get hF
    refine qp (.val none (.ptr [.str v1007.1, .str v1007.2.1, .str v1007.2.2])) (ev_iad_n rfl rfl e1007 rfl) (qp (.val none (eBlock v1007)) rfl ?_)
    refine qf (.ptr 193 0 0) [(193, .box [AS [], AS [], AS []]), (0, .row true 3 (v50007.map eBlock))] (by simp) ?_
    refine qf0 (.undef) [(193, .box [AS v1007.1, AS v1007.2.1, AS v1007.2.2]), (193, .box [AS [], AS [], AS []]), (0, .row true 3 (v50007.map eBlock))] (by simp) ?_
    refine r_nil ?_
    refine w_reg 321 577 rfl rfl ?_
    refine qp (.sl 0 0 v50007.length) rfl (qp (.agg [AS v1007.1, AS v1007.2.1, AS v1007.2.2]) rfl ?_)
    obtain ⟨v1008, e1008, hF⟩ := bind_get hF
    refine qc (.sl 449 0 v1008.length) [(449, .row true 3 (v1008.map eBlock)), (193, .box [AS v1007.1, AS v1007.2.1, AS v1007.2.2]), (193, .box [AS [], AS [], AS []]), (0, .row true 3 (v50007.map eBlock))] true (con_impl_withBlock e1008) c17_ok (by simp [List.take_of_length_le]) (by simp [res_impl_withBlock]) ?_
    refine qp (.sl 449 0 v1008.length) rfl ?_
    refine r_nil ?_
    refine blockQ_n ?_
    refine thenQ_n ?_
    refine w_reg 577 705 rfl rfl ?_
    refine qp (AI (w64 (v50006 + 1))) rfl (qp (AI (w64 (v50006 + 1))) rfl ?_)
    refine r_nil ?_
    refine thenQ_n ?_
    refine ar (l' := [(6, .sl 0 0 v1008.length), (19, AL 3 (v1.map eBlock)), (20, AI (v1.length : Int)), (21, AI (w64 (v50006 + 1)))]) (L := [(0, .row true 3 (v1008.map eBlock))]) [6, 19, 20, 21] [(449, 0)] 1 ⟨_, by rfl, hF⟩
   ·
    refine w_exit ?_
    refine thenQ_e ?_
    refine thenQ_e ?_
    refine blockQ_e ?_
    refine thenQ_n ?_
    refine w_seq ?_
    refine ws 65 257 ?_
    refine qp (.sl 0 0 v50007.length) rfl (qp (AI (v50007.length : Int)) rfl (qp (AB (decide ((32 : Int) < (v50007.length : Int)))) rfl ?_))
    refine r_nil ?_
    refine cF hF (fun hF => ?_) fun hF => ?_
    ·
     refine ws 257 385 ?_
     refine qf (.sl 257 0 0) [(257, .row true 3 (([] : List TBlock).map eBlock)), (0, .row true 3 (v50007.map eBlock))] (by simp) ?_
     refine qp (AI 5) rfl ?_
     refine r_nil ?_
     refine w_ret ?_
     refine thenQ_r ?_
     cases hF
     exact eR
    ·
     refine w_skip ?_
     refine thenQ_n ?_
     refine ws 257 449 ?_
     refine qp (.sl 0 0 v50007.length) rfl (qp (.sl 0 0 v50007.length) rfl (qp (AI 0) rfl ?_))
     refine r_nil ?_
     refine w_ret ?_
     cases hF
     exact eR

def c10 : MC := (.seq (.reg [rg 4 (.f (.nilrow 1)), rg 5 (.p true (.mv (.c (.int .i64 0))))]) (.seq (.seq (.reg [mvt 9 0, rg 10 (.call true 15 [(.t 9)]), rg 11 (.p true (.not (.t 10)))]) (.cond (.t 11) (.seq (.reg [rg 4 (.f (.nilrow 1)), rg 5 (.p true (.mv (.c (.int .i64 1))))]) .ret) .skip)) (.seq (.reg [rg 6 (.f (.nilrow 1))]) (.seq (.seq (.reg [mvt 12 0, rg 13 (.p true (.len (.t 12))), rg 14 (.p true (.mv (.c (.int .i64 0))))]) (.block 0 (.loop (.seq (.reg [rg 15 (.p true (.bin .lss (.t 14) (.t 13)))]) (.seq (.cond (.t 15) .skip (.exit 0)) (.seq (.block 1 (.seq (.reg [rg 16 (.p true (.iad (.t 12) (.t 14) 3)), rg 17 (.p true (.ld (.t 16) 3 true)), rg 8 (.f (.alloc [((.str []), (0, false)), ((.str []), (0, false)), ((.str []), (0, false))])), ⟨none, none, (.f (.st (.t 8) (.t 17) 3))⟩]) (.seq (.reg [rg 18 (.p true (.fad (.t 8) 0)), rg 19 (.p true (.ld (.t 18) 1 false)), mvt 20 1, rg 21 (.p true (.bin .eql (.t 19) (.t 20)))]) (.cond (.t 21) (.reg [mvt 22 6, rg 23 (.p true (.fad (.t 8) 1)), rg 24 (.p true (.ld (.t 23) 1 false)), rg 25 (.f (.bsl 1 [(.t 24)])), rg 26 (.f (.app (.t 22) (.t 25) 1 16 true)), mvt 6 26]) .skip)))) (.reg [rg 27 (.p true (.bin .add (.t 14) (.c (.int .i64 1)))), mvt 14 27]))))))) (.seq (.reg [mvt 28 6, mvt 4 28, rg 5 (.p true (.mv (.c (.int .i64 0))))]) .ret)))))
theorem c10_is : compFn Try.prog 10 = some (c10, [(.tmp 4), (.tmp 5)]) := by kernel_rfl
theorem c10_ok : okFn Try.prog 10 = true := by kernel_rfl

noncomputable def F_impl_BlocksOfKind_l0 (v0 : List TBlock) (v1 : List UInt8) (k1 : Int × (List (List UInt8)) → Option ((List (List UInt8)) × Int)) : Int × (List (List UInt8)) → Option ((List (List UInt8)) × Int)
 | (v50006, v50007) => (bif (decide (v50006 < (v0.length : Int))) then ((ix v0 v50006).bind fun v1005 => (bif (decide (v1005.1 = v1)) then (need (room (v50007.length + [v1005.2.1].length) 16) (k1 (w64 (v50006 + 1), v50007 ++ [v1005.2.1])))
 else k1 (w64 (v50006 + 1), v50007)))
 else some (v50007, 0))
noncomputable def F_impl_BlocksOfKind (v0 : List TBlock) (v1 : List UInt8) : Option ((List (List UInt8)) × Int) :=
 ((F_impl_ValidBlocks v0).bind fun v1000 => (bif (!v1000) then some ([], 1)
 else loop (F_impl_BlocksOfKind_l0 v0 v1) (0, [])))
@[simp] def res_impl_BlocksOfKind (r : (List (List UInt8)) × Int) : RV := .tup [.one (.row true 1 (r.1.map V.str)), .one (.val (.int .i64 r.2))]
theorem con_impl_BlocksOfKind {v0 : List TBlock} {v1 : List UInt8} {r : (List (List UInt8)) × Int} (hF : F_impl_BlocksOfKind v0 v1 = some r) : Con Try.prog 10 [.sl 3 (v0.map eBlock), .str v1] (res_impl_BlocksOfKind r) := by
 unfold F_impl_BlocksOfKind at hF
 refine con_of c10_is fun N => ?_
 refine ws 0 128 ?_
 refine qf (.sl 0 0 0) [(0, .row true 1 (([] : List Int).map vI))] (by simp) ?_
 refine qp (AI 0) rfl ?_
 refine r_nil ?_
 refine w_seq ?_
 refine ws 128 320 ?_
 refine qp (AL 3 (v0.map eBlock)) rfl ?_
 obtain ⟨v1000, e1000, hF⟩ := bind_get hF
 refine qc (AB v1000) [(0, .row true 1 (([] : List Int).map vI))] false (con_impl_ValidBlocks e1000) c15_ok (by first | rfl | simp) rfl ?_
 refine qp (AB (!v1000)) rfl ?_
 refine r_nil ?_
 refine cF hF (fun hF => ?_) fun hF => ?_
 ·
  refine ws 320 448 ?_
  refine qf (.sl 320 0 0) [(320, .row true 1 (([] : List (List UInt8)).map V.str)), (0, .row true 1 (([] : List Int).map vI))] (by simp) ?_
  refine qp (AI 1) rfl ?_
  refine r_nil ?_
  refine w_ret ?_
  refine thenQ_r ?_
  cases hF
  exact eR
 ·
  refine w_skip ?_
  refine thenQ_n ?_
  refine ws 320 384 ?_
  refine qf (.sl 320 0 0) [(320, .row true 1 (([] : List (List UInt8)).map V.str)), (0, .row true 1 (([] : List Int).map vI))] (by simp) ?_
  refine r_nil ?_
  refine w_seq ?_
  refine ws 384 576 ?_
  refine qp (AL 3 (v0.map eBlock)) rfl (qp (AI (v0.length : Int)) (ev_len_n rfl) (qp (AI 0) rfl ?_))
  refine r_nil ?_
  refine w_block ?_
  refine wr (l' := [(1, AS v1), (6, .sl 0 0 0), (12, AL 3 (v0.map eBlock)), (13, AI (v0.length : Int)), (14, AI 0)]) (L := [(0, .row true 1 (([] : List (List UInt8)).map V.str))]) [1, 6, 12, 13, 14] [(320, 0)] 1 ?_
  refine w_loopF (F_impl_BlocksOfKind_l0 v0 v1) (fun s : Int × (List (List UInt8)) => mkS [(1, AS v1), (6, .sl 0 0 s.2.length), (12, AL 3 (v0.map eBlock)), (13, AI (v0.length : Int)), (14, AI s.1)] (fo [(0, .row true 1 (s.2.map V.str))]) 1) hF ?_
  rintro k1 ⟨v50006, v50007⟩ hF
  rw [F_impl_BlocksOfKind_l0] at hF
  try dsimp only
  refine ws 1 65 ?_
  refine qp (AB (decide (v50006 < (v0.length : Int)))) rfl ?_
  refine r_nil ?_
  refine w_seq ?_
  refine cF hF (fun hF => ?_) fun hF => ?_
  ·
   refine w_skip ?_
   refine thenQ_n ?_
   refine w_seq ?_
   refine w_block ?_
   refine ws 65 321 ?_
   obtain ⟨v1005, e1005, hF⟩ := bind_get hF
   refine qp (.val none (.ptr [.str v1005.1, .str v1005.2.1, .str v1005.2.2])) (ev_iad_n rfl rfl e1005 rfl) (qp (.val none (eBlock v1005)) rfl ?_)
   refine qf (.ptr 193 0 0) [(193, .box [AS [], AS [], AS []]), (0, .row true 1 (v50007.map V.str))] (by simp) ?_
   refine qf0 (.undef) [(193, .box [AS v1005.1, AS v1005.2.1, AS v1005.2.2]), (193, .box [AS [], AS [], AS []]), (0, .row true 1 (v50007.map V.str))] (by simp) ?_
   refine r_nil ?_
   refine ws 321 577 ?_
   refine qp (.ptr 193 0 0) rfl (qp (AS v1005.1) rfl (qp (AS v1) rfl (qp (AB (decide (v1005.1 = v1))) rfl ?_)))
   refine r_nil ?_
   refine cF hF (fun hF => ?_) fun hF => ?_
   ·
    refine w_reg 577 961 rfl rfl ?_
    refine qp (.sl 0 0 v50007.length) rfl (qp (.ptr 193 0 1) rfl (qp (AS v1005.2.1) rfl ?_))
    refine qf (.sl 769 0 ([v1005.2.1].length)) [(769, .row true 1 ([v1005.2.1].map V.str)), (193, .box [AS v1005.1, AS v1005.2.1, AS v1005.2.2]), (193, .box [AS [], AS [], AS []]), (0, .row true 1 (v50007.map V.str))] (by simp [List.take_of_length_le]) ?_
    obtain ⟨g1006, hF⟩ := need_some hF
    refine qf (.sl 833 0 ((v50007 ++ [v1005.2.1]).length)) [(833, .row true 1 ((v50007 ++ [v1005.2.1]).map V.str)), (0, .dead), (769, .dead), (769, .row true 1 ([v1005.2.1].map V.str)), (193, .box [AS v1005.1, AS v1005.2.1, AS v1005.2.2]), (193, .box [AS [], AS [], AS []]), (0, .row true 1 (v50007.map V.str))] (effT_app_l rfl (by simp) rfl rfl (by simp) rfl (by decide) g1006 rfl) ?_
    refine qp (.sl 833 0 ((v50007 ++ [v1005.2.1]).length)) rfl ?_
    refine r_nil ?_
    refine blockQ_n ?_
    refine thenQ_n ?_
    refine w_reg 961 1089 rfl rfl ?_
    refine qp (AI (w64 (v50006 + 1))) rfl (qp (AI (w64 (v50006 + 1))) rfl ?_)
    refine r_nil ?_
    refine thenQ_n ?_
    refine ar (l' := [(1, AS v1), (6, .sl 0 0 (v50007 ++ [v1005.2.1]).length), (12, AL 3 (v0.map eBlock)), (13, AI (v0.length : Int)), (14, AI (w64 (v50006 + 1)))]) (L := [(0, .row true 1 ((v50007 ++ [v1005.2.1]).map V.str))]) [1, 6, 12, 13, 14] [(833, 0)] 1 ⟨_, by rfl, hF⟩
   ·
    refine w_skip ?_
    refine blockQ_n ?_
    refine thenQ_n ?_
    refine w_reg 577 705 rfl rfl ?_
    refine qp (AI (w64 (v50006 + 1))) rfl (qp (AI (w64 (v50006 + 1))) rfl ?_)
    refine r_nil ?_
    refine thenQ_n ?_
    refine ar (l' := [(1, AS v1), (6, .sl 0 0 v50007.length), (12, AL 3 (v0.map eBlock)), (13, AI (v0.length : Int)), (14, AI (w64 (v50006 + 1)))]) (L := [(0, .row true 1 (v50007.map V.str))]) [1, 6, 12, 13, 14] [(0, 0)] 1 ⟨_, by rfl, hF⟩
  ·
   refine w_exit ?_
   refine thenQ_e ?_
   refine thenQ_e ?_
   refine blockQ_e ?_
   refine thenQ_n ?_
   refine ws 65 257 ?_
   refine qp (.sl 0 0 v50007.length) rfl (qp (.sl 0 0 v50007.length) rfl (qp (AI 0) rfl ?_))
   refine r_nil ?_
   refine w_ret ?_
   cases hF
   exact eR

def c22 : MC := (.seq (.reg [rg 4 (.p true (.mv (.c (.bool false))))]) (.seq (.seq (.reg [mvt 6 0, rg 7 (.p true (.len (.t 6))), mvt 8 1, rg 9 (.p true (.len (.t 8))), rg 10 (.p true (.bin .neq (.t 7) (.t 9)))]) (.cond (.t 10) (.seq (.reg [rg 4 (.p true (.mv (.c (.bool false))))]) .ret) .skip)) (.seq (.seq (.reg [rg 5 (.p true (.mv (.c (.int .i64 0))))]) (.block 0 (.loop (.seq (.seq (.reg [mvt 11 5, mvt 12 0, rg 13 (.p true (.len (.t 12))), rg 14 (.p true (.bin .lss (.t 11) (.t 13)))]) (.cond (.t 14) .skip (.exit 0))) (.seq (.block 1 (.seq (.reg [rg 17 (.p false (.mv (.t 0))), rg 18 (.p false (.mv (.t 5))), rg 19 (.p false (.iad (.t 17) (.t 18) 3)), rg 20 (.p false (.ld (.t 19) 3 true)), rg 21 (.p false (.mv (.t 1))), rg 22 (.p false (.mv (.t 5))), rg 23 (.p false (.iad (.t 21) (.t 22) 3)), rg 24 (.p false (.ld (.t 23) 3 true)), rg 25 (.p false (.eqs true [2, 2, 2] (.t 20) (.t 24)))]) (.cond (.t 25) (.seq (.reg [rg 4 (.p true (.mv (.c (.bool false))))]) .ret) .skip))) (.reg [mvt 15 5, rg 16 (.p true (.bin .add (.t 15) (.c (.int .i64 1)))), mvt 5 16])))))) (.seq (.reg [rg 4 (.p true (.mv (.c (.bool true))))]) .ret))))
theorem c22_is : compFn Try.prog 22 = some (c22, [(.tmp 4)]) := by kernel_rfl
theorem c22_ok : okFn Try.prog 22 = true := by kernel_rfl

noncomputable def F_spec_l29Same_l0 (v0 : List TBlock) (v1 : List TBlock) (k0 : Int → Option (Bool)) : Int → Option (Bool)
 | v50001 => (bif (decide (v50001 < (v0.length : Int))) then ((ix v0 v50001).bind fun v1000 => ((ix v1 v50001).bind fun v1001 => (bif (!(decide (v1000.1 = v1001.1) && (decide (v1000.2.1 = v1001.2.1) && (decide (v1000.2.2 = v1001.2.2) && true)))) then some false
 else k0 (w64 (v50001 + 1)))))
 else some true)
noncomputable def F_spec_l29Same (v0 : List TBlock) (v1 : List TBlock) : Option (Bool) :=
 (bif (decide ((v0.length : Int) ≠ (v1.length : Int))) then some false
 else loop (F_spec_l29Same_l0 v0 v1) 0)
@[simp] def res_spec_l29Same (r : Bool) : RV := .one (.one (.val (.bool r)))
theorem con_spec_l29Same {v0 : List TBlock} {v1 : List TBlock} {r : Bool} (hF : F_spec_l29Same v0 v1 = some r) : Con Try.prog 22 [.sl 3 (v0.map eBlock), .sl 3 (v1.map eBlock)] (res_spec_l29Same r) := by
 unfold F_spec_l29Same at hF
 refine con_of c22_is fun N => ?_
 refine ws 0 64 ?_
 refine qp (AB false) rfl ?_
 refine r_nil ?_
 refine w_seq ?_
 refine ws 64 384 ?_
 refine qp (AL 3 (v0.map eBlock)) rfl (qp (AI (v0.length : Int)) (ev_len_n rfl) (qp (AL 3 (v1.map eBlock)) rfl (qp (AI (v1.length : Int)) (ev_len_n rfl) (qp (AB (decide ((v0.length : Int) ≠ (v1.length : Int)))) rfl ?_))))
 refine r_nil ?_
 refine cF hF (fun hF => ?_) fun hF => ?_
 ·
  refine ws 384 448 ?_
  refine qp (AB false) rfl ?_
  refine r_nil ?_
  refine w_ret ?_
  refine thenQ_r ?_
  cases hF
  exact eR
 ·
  refine w_skip ?_
  refine thenQ_n ?_
  refine w_seq ?_
  refine ws 384 448 ?_
  refine qp (AI 0) rfl ?_
  refine r_nil ?_
  refine w_block ?_
  refine wr (l' := [(0, AL 3 (v0.map eBlock)), (1, AL 3 (v1.map eBlock)), (5, AI 0)]) (L := []) [0, 1, 5] [] 1 ?_
  refine w_loopF (F_spec_l29Same_l0 v0 v1) (fun s : Int => mkS [(0, AL 3 (v0.map eBlock)), (1, AL 3 (v1.map eBlock)), (5, AI s)] (fo []) 1) hF ?_
  rintro k0 v50001 hF
  rw [F_spec_l29Same_l0] at hF
  try dsimp only
  refine w_seq ?_
  refine ws 1 257 ?_
  refine qp (AI v50001) rfl (qp (AL 3 (v0.map eBlock)) rfl (qp (AI (v0.length : Int)) (ev_len_n rfl) (qp (AB (decide (v50001 < (v0.length : Int)))) rfl ?_)))
  refine r_nil ?_
  refine cF hF (fun hF => ?_) fun hF => ?_
  ·
   refine w_skip ?_
   refine thenQ_n ?_
   refine w_seq ?_
   refine w_block ?_
   refine ws 257 833 ?_
   refine qp (AL 3 (v0.map eBlock)) rfl (qp (AI v50001) rfl ?_)
   obtain ⟨v1000, e1000, hF⟩ := bind_get hF
   refine qp (.val none (.ptr [.str v1000.1, .str v1000.2.1, .str v1000.2.2])) (ev_iad_n rfl rfl e1000 rfl) (qp (.val none (eBlock v1000)) rfl (qp (AL 3 (v1.map eBlock)) rfl (qp (AI v50001) rfl ?_)))
   obtain ⟨v1001, e1001, hF⟩ := bind_get hF
   refine qp (.val none (.ptr [.str v1001.1, .str v1001.2.1, .str v1001.2.2])) (ev_iad_n rfl rfl e1001 rfl) (qp (.val none (eBlock v1001)) rfl (qp (AB (!(decide (v1000.1 = v1001.1) && (decide (v1000.2.1 = v1001.2.1) && (decide (v1000.2.2 = v1001.2.2) && true))))) rfl ?_))
   refine r_nil ?_
   refine cF hF (fun hF => ?_) fun hF => ?_
   ·
    refine ws 833 897 ?_
    refine qp (AB false) rfl ?_
    refine r_nil ?_
    refine w_ret ?_
    refine blockQ_r ?_
    refine thenQ_r ?_
    refine thenQ_r ?_
    refine blockQ_r ?_
    refine thenQ_r ?_
    cases hF
    exact eR
   ·
    refine w_skip ?_
    refine blockQ_n ?_
    refine thenQ_n ?_
    refine w_reg 833 1025 rfl rfl ?_
    refine qp (AI v50001) rfl (qp (AI (w64 (v50001 + 1))) rfl (qp (AI (w64 (v50001 + 1))) rfl ?_))
    refine r_nil ?_
    refine thenQ_n ?_
    refine ar (l' := [(0, AL 3 (v0.map eBlock)), (1, AL 3 (v1.map eBlock)), (5, AI (w64 (v50001 + 1)))]) (L := []) [0, 1, 5] [] 1 ⟨_, by rfl, hF⟩
  ·
   refine w_exit ?_
   refine thenQ_e ?_
   refine thenQ_e ?_
   refine blockQ_e ?_
   refine thenQ_n ?_
   refine ws 257 321 ?_
   refine qp (AB true) rfl ?_
   refine r_nil ?_
   refine w_ret ?_
   cases hF
   exact eR

def c11 : MC := (.seq (.reg [rg 4 (.p true (.mv (.c (.bool false))))]) (.seq (.reg [mvt 5 0, mvt 6 1, rg 7 (.call true 22 [(.t 5), (.t 6)]), mvt 4 7]) .ret))
theorem c11_is : compFn Try.prog 11 = some (c11, [(.tmp 4)]) := by kernel_rfl
theorem c11_ok : okFn Try.prog 11 = true := by kernel_rfl

noncomputable def F_spec_SameBlocks (v0 : List TBlock) (v1 : List TBlock) : Option (Bool) :=
 ((F_spec_l29Same v0 v1).bind fun v1000 => some v1000)
@[simp] def res_spec_SameBlocks (r : Bool) : RV := .one (.one (.val (.bool r)))
theorem con_spec_SameBlocks {v0 : List TBlock} {v1 : List TBlock} {r : Bool} (hF : F_spec_SameBlocks v0 v1 = some r) : Con Try.prog 11 [.sl 3 (v0.map eBlock), .sl 3 (v1.map eBlock)] (res_spec_SameBlocks r) := by
 unfold F_spec_SameBlocks at hF
 refine con_of c11_is fun N => ?_
 refine ws 0 64 ?_
 refine qp (AB false) rfl ?_
 refine r_nil ?_
 refine ws 64 320 ?_
 refine qp (AL 3 (v0.map eBlock)) rfl (qp (AL 3 (v1.map eBlock)) rfl ?_)
 obtain ⟨v1000, e1000, hF⟩ := bind_get hF
 refine qc (AB v1000) [] false (con_spec_l29Same e1000) c22_ok (by first | rfl | simp) rfl ?_
 refine qp (AB v1000) rfl ?_
 refine r_nil ?_
 refine w_ret ?_
 cases hF
 exact eR

def c12 : MC := (.seq (.reg [rg 2 (.p true (.mv (.c (.bool false))))]) (.seq (.reg [mvt 3 0, rg 4 (.call true 23 [(.t 3)]), mvt 2 4]) .ret))
theorem c12_is : compFn Try.prog 12 = some (c12, [(.tmp 2)]) := by kernel_rfl
theorem c12_ok : okFn Try.prog 12 = true := by kernel_rfl

noncomputable def F_spec_ValidBlocks (v0 : List TBlock) : Option (Bool) :=
 ((F_spec_l29Ok v0).bind fun v1000 => some v1000)
@[simp] def res_spec_ValidBlocks (r : Bool) : RV := .one (.one (.val (.bool r)))
theorem con_spec_ValidBlocks {v0 : List TBlock} {r : Bool} (hF : F_spec_ValidBlocks v0 = some r) : Con Try.prog 12 [.sl 3 (v0.map eBlock)] (res_spec_ValidBlocks r) := by
 unfold F_spec_ValidBlocks at hF
 refine con_of c12_is fun N => ?_
 refine ws 0 64 ?_
 refine qp (AB false) rfl ?_
 refine r_nil ?_
 refine ws 64 256 ?_
 refine qp (AL 3 (v0.map eBlock)) rfl ?_
 obtain ⟨v1000, e1000, hF⟩ := bind_get hF
 refine qc (AB v1000) [] false (con_spec_l29Ok e1000) c23_ok (by first | rfl | simp) rfl ?_
 refine qp (AB v1000) rfl ?_
 refine r_nil ?_
 refine w_ret ?_
 cases hF
 exact eR

def c3 : MC := (.seq (.reg [rg 4 (.p true (.mv (.c (.bool false))))]) (.seq (.seq (.reg [mvt 21 0, mvt 22 1, rg 23 (.call true 4 [(.t 21), (.t 22)])]) (.cond (.t 23) (.seq (.reg [rg 4 (.p true (.mv (.c (.bool true))))]) .ret) .skip)) (.seq (.reg [mvt 24 0, rg 25 (.call true 5 [(.t 24)]), mvt 5 25]) (.seq (.reg [mvt 26 1, rg 27 (.call true 5 [(.t 26)]), mvt 6 27]) (.seq (.reg [rg 28 (.f (.bld [((.str []), (0, true)), ((.str []), (0, true)), ((.str []), (0, true))] [(0, (1, (.c (.str [110, 101, 119])))), (1, (1, (.c (.str [120])))), (2, (1, (.c (.str [116]))))])), rg 7 (.f (.alloc [((.str []), (0, false)), ((.str []), (0, false)), ((.str []), (0, false))])), ⟨none, none, (.f (.st (.t 7) (.t 28) 3))⟩]) (.seq (.reg [mvt 30 5, rg 31 (.p true (.ld (.t 7) 3 true)), rg 32 (.call true 6 [(.t 30), (.t 31)]), mvt 29 32, rg 33 (.p true (.ext (.t 29) 0)), rg 34 (.p true (.ext (.t 29) 1)), mvt 8 33, mvt 9 34]) (.seq (.reg [mvt 36 8, rg 37 (.call true 7 [(.t 36), (.c (.str [110, 101, 119])), (.c (.str [120]))]), mvt 35 37, rg 38 (.p true (.ext (.t 35) 0)), rg 39 (.p true (.ext (.t 35) 1)), mvt 10 38, mvt 11 39]) (.seq (.reg [mvt 41 8, rg 42 (.call true 8 [(.t 41), (.c (.str [110, 101, 119])), (.c (.str [120]))]), mvt 40 42, rg 43 (.p true (.ext (.t 40) 0)), rg 44 (.p true (.ext (.t 40) 1)), mvt 12 43, mvt 13 44]) (.seq (.reg [mvt 46 5, mvt 47 6, rg 48 (.call true 9 [(.t 46), (.t 47)]), mvt 45 48, rg 49 (.p true (.ext (.t 45) 0)), rg 50 (.p true (.ext (.t 45) 1)), mvt 14 49, mvt 15 50]) (.seq (.reg [mvt 52 8, rg 53 (.call true 10 [(.t 52), (.c (.str [110, 101, 119]))]), mvt 51 53, rg 54 (.p true (.ext (.t 51) 0)), rg 55 (.p true (.ext (.t 51) 1)), mvt 16 54, mvt 17 55]) (.seq (.seq (.reg [mvt 56 9, rg 57 (.p true (.bin .neq (.t 56) (.c (.int .i64 0)))), mvt 58 57, ⟨(some 59), (some (58, false)), (.p true (.mv (.t 11)))⟩, ⟨(some 60), (some (58, false)), (.p true (.bin .neq (.t 59) (.c (.int .i64 0))))⟩, rg 61 (.p true (.pick (.t 58) (.c (.bool true)) (.t 60))), mvt 62 61, ⟨(some 63), (some (62, false)), (.p true (.mv (.t 10)))⟩, ⟨(some 64), (some (62, false)), (.p true (.bin .neq (.t 63) (.c (.str [116]))))⟩, rg 65 (.p true (.pick (.t 62) (.c (.bool true)) (.t 64))), mvt 66 65, ⟨(some 67), (some (66, false)), (.p true (.mv (.t 13)))⟩, ⟨(some 68), (some (66, false)), (.p true (.bin .neq (.t 67) (.c (.int .i64 0))))⟩, rg 69 (.p true (.pick (.t 66) (.c (.bool true)) (.t 68))), mvt 70 69, ⟨(some 71), (some (70, false)), (.p true (.mv (.t 12)))⟩, ⟨(some 72), (some (70, false)), (.p true (.mv (.t 5)))⟩, ⟨(some 73), (some (70, false)), (.call true 11 [(.t 71), (.t 72)])⟩, ⟨(some 74), (some (70, false)), (.p true (.not (.t 73)))⟩, rg 75 (.p true (.pick (.t 70) (.c (.bool true)) (.t 74))), mvt 76 75, ⟨(some 77), (some (76, false)), (.p true (.mv (.t 15)))⟩, ⟨(some 78), (some (76, false)), (.p true (.bin .neq (.t 77) (.c (.int .i64 0))))⟩, rg 79 (.p true (.pick (.t 76) (.c (.bool true)) (.t 78))), mvt 80 79, ⟨(some 81), (some (80, false)), (.p true (.mv (.t 14)))⟩, ⟨(some 82), (some (80, false)), (.call true 12 [(.t 81)])⟩, ⟨(some 83), (some (80, false)), (.p true (.not (.t 82)))⟩, rg 84 (.p true (.pick (.t 80) (.c (.bool true)) (.t 83))), mvt 85 84, ⟨(some 86), (some (85, false)), (.p true (.mv (.t 17)))⟩, ⟨(some 87), (some (85, false)), (.p true (.bin .neq (.t 86) (.c (.int .i64 0))))⟩, rg 88 (.p true (.pick (.t 85) (.c (.bool true)) (.t 87))), mvt 89 88, ⟨(some 90), (some (89, false)), (.p true (.mv (.t 16)))⟩, ⟨(some 91), (some (89, false)), (.p true (.len (.t 90)))⟩, ⟨(some 92), (some (89, false)), (.p true (.bin .neq (.t 91) (.c (.int .i64 1))))⟩, rg 93 (.p true (.pick (.t 89) (.c (.bool true)) (.t 92)))]) (.cond (.t 93) (.seq (.reg [rg 4 (.p true (.mv (.c (.bool false))))]) .ret) .skip)) (.seq (.seq (.reg [rg 18 (.p true (.mv (.c (.int .i64 0))))]) (.block 0 (.loop (.seq (.seq (.reg [mvt 94 18, mvt 95 6, rg 96 (.p true (.len (.t 95))), rg 97 (.p true (.bin .lss (.t 94) (.t 96)))]) (.cond (.t 97) .skip (.exit 0))) (.seq (.block 1 (.seq (.reg [rg 101 (.p false (.mv (.t 14))), rg 102 (.p false (.mv (.t 6))), rg 103 (.p false (.mv (.t 18))), rg 104 (.p false (.iad (.t 102) (.t 103) 3)), rg 105 (.p false (.fad (.t 104) 0)), rg 106 (.p false (.ld (.t 105) 1 false)), rg 107 (.p false (.mv (.t 6))), rg 108 (.p false (.mv (.t 18))), rg 109 (.p false (.iad (.t 107) (.t 108) 3)), rg 110 (.p false (.fad (.t 109) 1)), rg 111 (.p false (.ld (.t 110) 1 false)), rg 112 (.call false 7 [(.t 101), (.t 106), (.t 111)]), rg 100 (.p false (.mv (.t 112))), rg 113 (.p false (.ext (.t 100) 0)), rg 114 (.p false (.ext (.t 100) 1)), rg 19 (.p false (.mv (.t 113))), rg 20 (.p false (.mv (.t 114)))]) (.seq (.reg [mvt 115 20, rg 116 (.p true (.bin .neq (.t 115) (.c (.int .i64 0)))), mvt 117 116, ⟨(some 118), (some (117, false)), (.p true (.mv (.t 19)))⟩, ⟨(some 119), (some (117, false)), (.p true (.mv (.t 6)))⟩, ⟨(some 120), (some (117, false)), (.p true (.mv (.t 18)))⟩, ⟨(some 121), (some (117, false)), (.p true (.iad (.t 119) (.t 120) 3))⟩, ⟨(some 122), (some (117, false)), (.p true (.fad (.t 121) 2))⟩, ⟨(some 123), (some (117, false)), (.p true (.ld (.t 122) 1 false))⟩, ⟨(some 124), (some (117, false)), (.p true (.bin .neq (.t 118) (.t 123)))⟩, rg 125 (.p true (.pick (.t 117) (.c (.bool true)) (.t 124)))]) (.cond (.t 125) (.seq (.reg [rg 4 (.p true (.mv (.c (.bool false))))]) .ret) .skip)))) (.reg [mvt 98 18, rg 99 (.p true (.bin .add (.t 98) (.c (.int .i64 1)))), mvt 18 99])))))) (.seq (.reg [mvt 126 14, rg 127 (.p true (.len (.t 126))), mvt 128 5, rg 129 (.p true (.len (.t 128))), mvt 130 6, rg 131 (.p true (.len (.t 130))), rg 132 (.p true (.bin .add (.t 129) (.t 131))), rg 133 (.p true (.bin .leq (.t 127) (.t 132))), mvt 4 133]) .ret)))))))))))))
theorem c3_is : compFn Try.prog 3 = some (c3, [(.tmp 4)]) := by kernel_rfl
theorem c3_ok : okFn Try.prog 3 = true := by kernel_rfl

noncomputable def F_laws_FnBlocks_l0 (v1001 : List TBlock) (v1002 : List TBlock) (v1006 : (List TBlock) × Int) (k1 : Int → Option (Bool)) : Int → Option (Bool)
 | v50003 => (bif (decide (v50003 < (v1002.length : Int))) then ((ix v1002 v50003).bind fun v1020 => ((ix v1002 v50003).bind fun v1021 => ((F_impl_BlockNamed v1006.1 v1020.1 v1021.2.1).bind fun v1022 => (bif (decide (v1022.2 ≠ (0 : Int))) then some false
 else ((ix v1002 v50003).bind fun v1023 => (bif (decide (v1022.1 ≠ v1023.2.2)) then some false
 else k1 (w64 (v50003 + 1))))))))
 else some (decide ((v1006.1.length : Int) ≤ w64 ((v1001.length : Int) + (v1002.length : Int)))))
noncomputable def F_laws_FnBlocks (v0 : List Int) (v1 : List Int) : Option (Bool) :=
 ((F_laws_r8Long v0 v1).bind fun v1000 => (bif v1000 then some true
 else ((F_spec_R8Blocks v0).bind fun v1001 => ((F_spec_R8Blocks v1).bind fun v1002 => ((F_impl_PutBlock v1001 ([110, 101, 119], [120], [116])).bind fun v1003 => ((F_impl_BlockNamed v1003.1 [110, 101, 119] [120]).bind fun v1004 => ((F_impl_DropBlock v1003.1 [110, 101, 119] [120]).bind fun v1005 => ((F_impl_MergeBlocks v1001 v1002).bind fun v1006 => ((F_impl_BlocksOfKind v1003.1 [110, 101, 119]).bind fun v1007 => (bif (decide (v1003.2 ≠ (0 : Int))) then some false
 else (bif (decide (v1004.2 ≠ (0 : Int))) then some false
 else (bif (decide (v1004.1 ≠ [116])) then some false
 else (bif (decide (v1005.2 ≠ (0 : Int))) then some false
 else ((F_spec_SameBlocks v1005.1 v1001).bind fun v1010 => (bif (!v1010) then some false
 else (bif (decide (v1006.2 ≠ (0 : Int))) then some false
 else ((F_spec_ValidBlocks v1006.1).bind fun v1011 => (bif (!v1011) then some false
 else (bif (decide (v1007.2 ≠ (0 : Int))) then some false
 else (bif (decide ((v1007.1.length : Int) ≠ (1 : Int))) then some false
 else loop (F_laws_FnBlocks_l0 v1001 v1002 v1006) 0))))))))))))))))))))
@[simp] def res_laws_FnBlocks (r : Bool) : RV := .one (.one (.val (.bool r)))
theorem con_laws_FnBlocks {v0 : List Int} {v1 : List Int} {r : Bool} (hF : F_laws_FnBlocks v0 v1 = some r) : Con Try.prog 3 [.sl 1 (v0.map (V.int .u8)), .sl 1 (v1.map (V.int .u8))] (res_laws_FnBlocks r) := by
 unfold F_laws_FnBlocks at hF
 refine con_of c3_is fun N => ?_
 refine ws 0 64 ?_
 refine qp (AB false) rfl ?_
 refine r_nil ?_
 refine w_seq ?_
 refine ws 64 256 ?_
 refine qp (AL 1 (v0.map (V.int .u8))) rfl (qp (AL 1 (v1.map (V.int .u8))) rfl ?_)
 obtain ⟨v1000, e1000, hF⟩ := bind_get hF
 refine qc (AB v1000) [] false (con_laws_r8Long e1000) c4_ok (by first | rfl | simp) rfl ?_
 refine r_nil ?_
 refine cF hF (fun hF => ?_) fun hF => ?_
 ·
  refine ws 256 320 ?_
  refine qp (AB true) rfl ?_
  refine r_nil ?_
  refine w_ret ?_
  refine thenQ_r ?_
  cases hF
  exact eR
 ·
  refine w_skip ?_
  refine thenQ_n ?_
  refine ws 256 448 ?_
  refine qp (AL 1 (v0.map (V.int .u8))) rfl ?_
  obtain ⟨v1001, e1001, hF⟩ := bind_get hF
  refine qc (.sl 320 0 v1001.length) [(320, .row true 3 (v1001.map eBlock))] false (con_spec_R8Blocks e1001) c5_ok (by first | rfl | simp) (by simp [res_spec_R8Blocks]) ?_
  refine qp (.sl 320 0 v1001.length) rfl ?_
  refine r_nil ?_
  refine ws 448 640 ?_
  refine qp (AL 1 (v1.map (V.int .u8))) rfl ?_
  obtain ⟨v1002, e1002, hF⟩ := bind_get hF
  refine qc (.sl 512 0 v1002.length) [(512, .row true 3 (v1002.map eBlock)), (320, .row true 3 (v1001.map eBlock))] false (con_spec_R8Blocks e1002) c5_ok (by first | rfl | simp) (by simp [res_spec_R8Blocks]) ?_
  refine qp (.sl 512 0 v1002.length) rfl ?_
  refine r_nil ?_
  refine ws 640 832 ?_
  refine qf (.agg [AS [110, 101, 119], AS [120], AS [116]]) [(512, .row true 3 (v1002.map eBlock)), (320, .row true 3 (v1001.map eBlock))] (by simp) ?_
  refine qf (.ptr 704 0 0) [(704, .box [AS [], AS [], AS []]), (512, .row true 3 (v1002.map eBlock)), (320, .row true 3 (v1001.map eBlock))] (by simp) ?_
  refine qf0 (.undef) [(704, .box [AS [110, 101, 119], AS [120], AS [116]]), (704, .box [AS [], AS [], AS []]), (512, .row true 3 (v1002.map eBlock)), (320, .row true 3 (v1001.map eBlock))] (by simp) ?_
  refine r_nil ?_
  refine ws 832 1344 ?_
  refine qp (.sl 320 0 v1001.length) rfl (qp (.agg [AS [110, 101, 119], AS [120], AS [116]]) rfl ?_)
  obtain ⟨v1003, e1003, hF⟩ := bind_get hF
  refine qc (.tup [.sl 960 0 v1003.1.length, AI v1003.2]) [(960, .row true 3 (v1003.1.map eBlock)), (704, .box [AS [110, 101, 119], AS [120], AS [116]]), (704, .box [AS [], AS [], AS []]), (512, .row true 3 (v1002.map eBlock)), (320, .row true 3 (v1001.map eBlock))] true (con_impl_PutBlock e1003) c6_ok (by simp [List.take_of_length_le]) (by simp [res_impl_PutBlock]) ?_
  refine qp (.tup [.sl 960 0 v1003.1.length, AI v1003.2]) rfl (qp (.sl 960 0 v1003.1.length) rfl (qp (AI v1003.2) rfl (qp (.sl 960 0 v1003.1.length) rfl (qp (AI v1003.2) rfl ?_))))
  refine r_nil ?_
  refine ws 1344 1792 ?_
  refine qp (.sl 960 0 v1003.1.length) rfl ?_
  obtain ⟨v1004, e1004, hF⟩ := bind_get hF
  refine qc (.tup [AS v1004.1, AI v1004.2]) [(960, .row true 3 (v1003.1.map eBlock)), (704, .box [AS [110, 101, 119], AS [120], AS [116]]), (704, .box [AS [], AS [], AS []]), (512, .row true 3 (v1002.map eBlock)), (320, .row true 3 (v1001.map eBlock))] true (con_impl_BlockNamed e1004) c7_ok (by simp [List.take_of_length_le]) rfl ?_
  refine qp (.tup [AS v1004.1, AI v1004.2]) rfl (qp (AS v1004.1) rfl (qp (AI v1004.2) rfl (qp (AS v1004.1) rfl (qp (AI v1004.2) rfl ?_))))
  refine r_nil ?_
  refine ws 1792 2240 ?_
  refine qp (.sl 960 0 v1003.1.length) rfl ?_
  obtain ⟨v1005, e1005, hF⟩ := bind_get hF
  refine qc (.tup [.sl 1856 0 v1005.1.length, AI v1005.2]) [(1856, .row true 3 (v1005.1.map eBlock)), (960, .row true 3 (v1003.1.map eBlock)), (704, .box [AS [110, 101, 119], AS [120], AS [116]]), (704, .box [AS [], AS [], AS []]), (512, .row true 3 (v1002.map eBlock)), (320, .row true 3 (v1001.map eBlock))] true (con_impl_DropBlock e1005) c8_ok (by simp [List.take_of_length_le]) (by simp [res_impl_DropBlock]) ?_
  refine qp (.tup [.sl 1856 0 v1005.1.length, AI v1005.2]) rfl (qp (.sl 1856 0 v1005.1.length) rfl (qp (AI v1005.2) rfl (qp (.sl 1856 0 v1005.1.length) rfl (qp (AI v1005.2) rfl ?_))))
  refine r_nil ?_
  refine ws 2240 2752 ?_
  refine qp (.sl 320 0 v1001.length) rfl (qp (.sl 512 0 v1002.length) rfl ?_)
  obtain ⟨v1006, e1006, hF⟩ := bind_get hF
  refine qc (.tup [.sl 2368 0 v1006.1.length, AI v1006.2]) [(2368, .row true 3 (v1006.1.map eBlock)), (1856, .row true 3 (v1005.1.map eBlock)), (960, .row true 3 (v1003.1.map eBlock)), (704, .box [AS [110, 101, 119], AS [120], AS [116]]), (704, .box [AS [], AS [], AS []]), (512, .row true 3 (v1002.map eBlock)), (320, .row true 3 (v1001.map eBlock))] true (con_impl_MergeBlocks e1006) c9_ok (by simp [List.take_of_length_le]) (by simp [res_impl_MergeBlocks]) ?_
  refine qp (.tup [.sl 2368 0 v1006.1.length, AI v1006.2]) rfl (qp (.sl 2368 0 v1006.1.length) rfl (qp (AI v1006.2) rfl (qp (.sl 2368 0 v1006.1.length) rfl (qp (AI v1006.2) rfl ?_))))
  refine r_nil ?_
  refine ws 2752 3200 ?_
  refine qp (.sl 960 0 v1003.1.length) rfl ?_
  obtain ⟨v1007, e1007, hF⟩ := bind_get hF
  refine qc (.tup [.sl 2816 0 v1007.1.length, AI v1007.2]) [(2816, .row true 1 (v1007.1.map V.str)), (2368, .row true 3 (v1006.1.map eBlock)), (1856, .row true 3 (v1005.1.map eBlock)), (960, .row true 3 (v1003.1.map eBlock)), (704, .box [AS [110, 101, 119], AS [120], AS [116]]), (704, .box [AS [], AS [], AS []]), (512, .row true 3 (v1002.map eBlock)), (320, .row true 3 (v1001.map eBlock))] true (con_impl_BlocksOfKind e1007) c10_ok (by simp [List.take_of_length_le]) (by simp [res_impl_BlocksOfKind]) ?_
  refine qp (.tup [.sl 2816 0 v1007.1.length, AI v1007.2]) rfl (qp (.sl 2816 0 v1007.1.length) rfl (qp (AI v1007.2) rfl (qp (.sl 2816 0 v1007.1.length) rfl (qp (AI v1007.2) rfl ?_))))
  refine r_nil ?_
  refine w_seq ?_
  refine ws 3200 5632 ?_
  refine qp (AI v1003.2) rfl (qp (AB (decide (v1003.2 ≠ (0 : Int)))) rfl (qp (AB (decide (v1003.2 ≠ (0 : Int)))) rfl ?_))
  refine q_case 58 hF rfl (fun hF => ?_) (fun hF => ?_)
  ·
   refine qn rfl (qn rfl (qp (AB true) rfl (qp (AB true) rfl (qn rfl (qn rfl (qp (AB true) rfl (qp (AB true) rfl ?_)))))))
   refine qn rfl (qn rfl (qp (AB true) rfl (qp (AB true) rfl (qn rfl (qn rfl (qn rfl (qn rfl ?_)))))))
   refine qp (AB true) rfl (qp (AB true) rfl (qn rfl (qn rfl (qp (AB true) rfl (qp (AB true) rfl (qn rfl (qn rfl ?_)))))))
   refine qn rfl (qp (AB true) rfl (qp (AB true) rfl (qn rfl (qn rfl (qp (AB true) rfl (qp (AB true) rfl (qn rfl ?_)))))))
   refine qn rfl (qn rfl (qp (AB true) rfl ?_))
   refine r_nil ?_
   refine w_true rfl ?_
   refine ws 5632 5696 ?_
   refine qp (AB false) rfl ?_
   refine r_nil ?_
   refine w_ret ?_
   refine thenQ_r ?_
   cases hF
   exact eR
  ·
   refine qg (AI v1004.2) rfl rfl (qg (AB (decide (v1004.2 ≠ (0 : Int)))) rfl rfl (qp (AB (decide (v1004.2 ≠ (0 : Int)))) rfl (qp (AB (decide (v1004.2 ≠ (0 : Int)))) rfl ?_)))
   refine q_case 62 hF rfl (fun hF => ?_) (fun hF => ?_)
   ·
    refine qn rfl (qn rfl (qp (AB true) rfl (qp (AB true) rfl (qn rfl (qn rfl (qp (AB true) rfl (qp (AB true) rfl ?_)))))))
    refine qn rfl (qn rfl (qn rfl (qn rfl (qp (AB true) rfl (qp (AB true) rfl (qn rfl (qn rfl ?_)))))))
    refine qp (AB true) rfl (qp (AB true) rfl (qn rfl (qn rfl (qn rfl (qp (AB true) rfl (qp (AB true) rfl (qn rfl ?_)))))))
    refine qn rfl (qp (AB true) rfl (qp (AB true) rfl (qn rfl (qn rfl (qn rfl (qp (AB true) rfl ?_))))))
    refine r_nil ?_
    refine w_true rfl ?_
    refine ws 5632 5696 ?_
    refine qp (AB false) rfl ?_
    refine r_nil ?_
    refine w_ret ?_
    refine thenQ_r ?_
    cases hF
    exact eR
   ·
    refine qg (AS v1004.1) rfl rfl (qg (AB (decide (v1004.1 ≠ [116]))) rfl rfl (qp (AB (decide (v1004.1 ≠ [116]))) rfl (qp (AB (decide (v1004.1 ≠ [116]))) rfl ?_)))
    refine q_case 66 hF rfl (fun hF => ?_) (fun hF => ?_)
    ·
     refine qn rfl (qn rfl (qp (AB true) rfl (qp (AB true) rfl (qn rfl (qn rfl (qn rfl (qn rfl ?_)))))))
     refine qp (AB true) rfl (qp (AB true) rfl (qn rfl (qn rfl (qp (AB true) rfl (qp (AB true) rfl (qn rfl (qn rfl ?_)))))))
     refine qn rfl (qp (AB true) rfl (qp (AB true) rfl (qn rfl (qn rfl (qp (AB true) rfl (qp (AB true) rfl (qn rfl ?_)))))))
     refine qn rfl (qn rfl (qp (AB true) rfl ?_))
     refine r_nil ?_
     refine w_true rfl ?_
     refine ws 5632 5696 ?_
     refine qp (AB false) rfl ?_
     refine r_nil ?_
     refine w_ret ?_
     refine thenQ_r ?_
     cases hF
     exact eR
    ·
     refine qg (AI v1005.2) rfl rfl (qg (AB (decide (v1005.2 ≠ (0 : Int)))) rfl rfl (qp (AB (decide (v1005.2 ≠ (0 : Int)))) rfl (qp (AB (decide (v1005.2 ≠ (0 : Int)))) rfl ?_)))
     refine q_case 70 hF rfl (fun hF => ?_) (fun hF => ?_)
     ·
      refine qn rfl (qn rfl (qn rfl (qn rfl (qp (AB true) rfl (qp (AB true) rfl (qn rfl (qn rfl ?_)))))))
      refine qp (AB true) rfl (qp (AB true) rfl (qn rfl (qn rfl (qn rfl (qp (AB true) rfl (qp (AB true) rfl (qn rfl ?_)))))))
      refine qn rfl (qp (AB true) rfl (qp (AB true) rfl (qn rfl (qn rfl (qn rfl (qp (AB true) rfl ?_))))))
      refine r_nil ?_
      refine w_true rfl ?_
      refine ws 5632 5696 ?_
      refine qp (AB false) rfl ?_
      refine r_nil ?_
      refine w_ret ?_
      refine thenQ_r ?_
      cases hF
      exact eR
     ·
      refine qg (.sl 1856 0 v1005.1.length) rfl rfl (qg (.sl 320 0 v1001.length) rfl rfl ?_)
      obtain ⟨v1010, e1010, hF⟩ := bind_get hF
      refine qcg (AB v1010) [(2816, .row true 1 (v1007.1.map V.str)), (2368, .row true 3 (v1006.1.map eBlock)), (1856, .row true 3 (v1005.1.map eBlock)), (960, .row true 3 (v1003.1.map eBlock)), (704, .box [AS [110, 101, 119], AS [120], AS [116]]), (704, .box [AS [], AS [], AS []]), (512, .row true 3 (v1002.map eBlock)), (320, .row true 3 (v1001.map eBlock))] true rfl (con_spec_SameBlocks e1010) c11_ok (by simp [List.take_of_length_le]) rfl ?_
      refine qg (AB (!v1010)) rfl rfl (qp (AB (!v1010)) rfl (qp (AB (!v1010)) rfl ?_))
      refine q_case 76 hF rfl (fun hF => ?_) (fun hF => ?_)
      ·
       refine qn rfl (qn rfl (qp (AB true) rfl (qp (AB true) rfl (qn rfl (qn rfl (qn rfl (qp (AB true) rfl ?_)))))))
       refine qp (AB true) rfl (qn rfl (qn rfl (qp (AB true) rfl (qp (AB true) rfl (qn rfl (qn rfl (qn rfl ?_)))))))
       refine qp (AB true) rfl ?_
       refine r_nil ?_
       refine w_true rfl ?_
       refine ws 5632 5696 ?_
       refine qp (AB false) rfl ?_
       refine r_nil ?_
       refine w_ret ?_
       refine thenQ_r ?_
       cases hF
       exact eR
      ·
       refine qg (AI v1006.2) rfl rfl (qg (AB (decide (v1006.2 ≠ (0 : Int)))) rfl rfl (qp (AB (decide (v1006.2 ≠ (0 : Int)))) rfl (qp (AB (decide (v1006.2 ≠ (0 : Int)))) rfl ?_)))
       refine q_case 80 hF rfl (fun hF => ?_) (fun hF => ?_)
       ·
        refine qn rfl (qn rfl (qn rfl (qp (AB true) rfl (qp (AB true) rfl (qn rfl (qn rfl (qp (AB true) rfl ?_)))))))
        refine qp (AB true) rfl (qn rfl (qn rfl (qn rfl (qp (AB true) rfl ?_))))
        refine r_nil ?_
        refine w_true rfl ?_
        refine ws 5632 5696 ?_
        refine qp (AB false) rfl ?_
        refine r_nil ?_
        refine w_ret ?_
        refine thenQ_r ?_
        cases hF
        exact eR
       ·
        refine qg (.sl 2368 0 v1006.1.length) rfl rfl ?_
        obtain ⟨v1011, e1011, hF⟩ := bind_get hF
        refine qcg (AB v1011) [(2816, .row true 1 (v1007.1.map V.str)), (2368, .row true 3 (v1006.1.map eBlock)), (1856, .row true 3 (v1005.1.map eBlock)), (960, .row true 3 (v1003.1.map eBlock)), (704, .box [AS [110, 101, 119], AS [120], AS [116]]), (704, .box [AS [], AS [], AS []]), (512, .row true 3 (v1002.map eBlock)), (320, .row true 3 (v1001.map eBlock))] true rfl (con_spec_ValidBlocks e1011) c12_ok (by simp [List.take_of_length_le]) rfl ?_
        refine qg (AB (!v1011)) rfl rfl (qp (AB (!v1011)) rfl (qp (AB (!v1011)) rfl ?_))
        refine q_case 85 hF rfl (fun hF => ?_) (fun hF => ?_)
        ·
         refine qn rfl (qn rfl (qp (AB true) rfl (qp (AB true) rfl (qn rfl (qn rfl (qn rfl (qp (AB true) rfl ?_)))))))
         refine r_nil ?_
         refine w_true rfl ?_
         refine ws 5632 5696 ?_
         refine qp (AB false) rfl ?_
         refine r_nil ?_
         refine w_ret ?_
         refine thenQ_r ?_
         cases hF
         exact eR
        ·
         refine qg (AI v1007.2) rfl rfl (qg (AB (decide (v1007.2 ≠ (0 : Int)))) rfl rfl (qp (AB (decide (v1007.2 ≠ (0 : Int)))) rfl (qp (AB (decide (v1007.2 ≠ (0 : Int)))) rfl ?_)))
         refine q_case 89 hF rfl (fun hF => ?_) (fun hF => ?_)
         ·
          refine qn rfl (qn rfl (qn rfl (qp (AB true) rfl ?_)))
          refine r_nil ?_
          refine w_true rfl ?_
          refine ws 5632 5696 ?_
          refine qp (AB false) rfl ?_
          refine r_nil ?_
          refine w_ret ?_
          refine thenQ_r ?_
          cases hF
          exact eR
         ·
          refine qg (.sl 2816 0 v1007.1.length) rfl rfl (qg (AI (v1007.1.length : Int)) rfl rfl (qg (AB (decide ((v1007.1.length : Int) ≠ (1 : Int)))) rfl rfl (qp (AB (decide ((v1007.1.length : Int) ≠ (1 : Int)))) rfl ?_)))
          refine r_nil ?_
          refine cF hF (fun hF => ?_) fun hF => ?_
          ·
           refine ws 5632 5696 ?_
           refine qp (AB false) rfl ?_
           refine r_nil ?_
           refine w_ret ?_
           refine thenQ_r ?_
           cases hF
           exact eR
          ·
           refine w_skip ?_
           refine thenQ_n ?_
           refine w_seq ?_
           refine ws 5632 5696 ?_
           refine qp (AI 0) rfl ?_
           refine r_nil ?_
           refine w_block ?_
           refine wr (l' := [(5, .sl 0 0 v1001.length), (6, .sl 1 0 v1002.length), (14, .sl 2 0 v1006.1.length), (18, AI 0)]) (L := [(2, .row true 3 (v1006.1.map eBlock)), (1, .row true 3 (v1002.map eBlock)), (0, .row true 3 (v1001.map eBlock))]) [5, 6, 14, 18] [(2368, 2), (512, 1), (320, 0)] 3 ?_
           refine w_loopF (F_laws_FnBlocks_l0 v1001 v1002 v1006) (fun s : Int => mkS [(5, .sl 0 0 v1001.length), (6, .sl 1 0 v1002.length), (14, .sl 2 0 v1006.1.length), (18, AI s)] (fo [(2, .row true 3 (v1006.1.map eBlock)), (1, .row true 3 (v1002.map eBlock)), (0, .row true 3 (v1001.map eBlock))]) 3) hF ?_
           rintro k1 v50003 hF
           rw [F_laws_FnBlocks_l0] at hF
           try dsimp only
           refine w_seq ?_
           refine ws 3 259 ?_
           refine qp (AI v50003) rfl (qp (.sl 1 0 v1002.length) rfl (qp (AI (v1002.length : Int)) rfl (qp (AB (decide (v50003 < (v1002.length : Int)))) rfl ?_)))
           refine r_nil ?_
           refine cF hF (fun hF => ?_) fun hF => ?_
           ·
            refine w_skip ?_
            refine thenQ_n ?_
            refine w_seq ?_
            refine w_block ?_
            refine ws 259 1347 ?_
            refine qp (.sl 2 0 v1006.1.length) rfl (qp (.sl 1 0 v1002.length) rfl (qp (AI v50003) rfl ?_))
            obtain ⟨v1020, e1020, hF⟩ := bind_get hF
            refine qp (.ptr 1 v50003.toNat 0) (ev_iad_r rfl (by simp) rfl rfl e1020) (qp (.ptr 1 v50003.toNat 0) rfl (qp (AS v1020.1) (ev_ld_r rfl rfl (ix_some e1020).2 rfl rfl) (qp (.sl 1 0 v1002.length) rfl (qp (AI v50003) rfl ?_))))
            obtain ⟨v1021, e1021, hF⟩ := bind_get hF
            refine qp (.ptr 1 v50003.toNat 0) (ev_iad_r rfl (by simp) rfl rfl e1021) (qp (.ptr 1 v50003.toNat 1) rfl (qp (AS v1021.2.1) (ev_ld_r rfl rfl (ix_some e1021).2 rfl rfl) ?_))
            obtain ⟨v1022, e1022, hF⟩ := bind_get hF
            refine qc (.tup [AS v1022.1, AI v1022.2]) [(2, .row true 3 (v1006.1.map eBlock)), (1, .row true 3 (v1002.map eBlock)), (0, .row true 3 (v1001.map eBlock))] true (con_impl_BlockNamed e1022) c7_ok (by simp [List.take_of_length_le]) rfl ?_
            refine qp (.tup [AS v1022.1, AI v1022.2]) rfl (qp (AS v1022.1) rfl (qp (AI v1022.2) rfl (qp (AS v1022.1) rfl (qp (AI v1022.2) rfl ?_))))
            refine r_nil ?_
            refine ws 1347 2051 ?_
            refine qp (AI v1022.2) rfl (qp (AB (decide (v1022.2 ≠ (0 : Int)))) rfl (qp (AB (decide (v1022.2 ≠ (0 : Int)))) rfl ?_))
            refine q_case 117 hF rfl (fun hF => ?_) (fun hF => ?_)
            ·
             refine qn rfl (qn rfl (qn rfl (qn rfl (qn rfl (qn rfl (qn rfl (qp (AB true) rfl ?_)))))))
             refine r_nil ?_
             refine w_true rfl ?_
             refine ws 2051 2115 ?_
             refine qp (AB false) rfl ?_
             refine r_nil ?_
             refine w_ret ?_
             refine blockQ_r ?_
             refine thenQ_r ?_
             refine thenQ_r ?_
             refine blockQ_r ?_
             refine thenQ_r ?_
             cases hF
             exact eR
            ·
             refine qg (AS v1022.1) rfl rfl (qg (.sl 1 0 v1002.length) rfl rfl (qg (AI v50003) rfl rfl ?_))
             obtain ⟨v1023, e1023, hF⟩ := bind_get hF
             refine qg (.ptr 1 v50003.toNat 0) rfl (ev_iad_r rfl (by simp) rfl rfl e1023) (qg (.ptr 1 v50003.toNat 2) rfl rfl (qg (AS v1023.2.2) rfl (ev_ld_r rfl rfl (ix_some e1023).2 rfl rfl) (qg (AB (decide (v1022.1 ≠ v1023.2.2))) rfl rfl (qp (AB (decide (v1022.1 ≠ v1023.2.2))) rfl ?_))))
             refine r_nil ?_
             refine cF hF (fun hF => ?_) fun hF => ?_
             ·
              refine ws 2051 2115 ?_
              refine qp (AB false) rfl ?_
              refine r_nil ?_
              refine w_ret ?_
              refine blockQ_r ?_
              refine thenQ_r ?_
              refine thenQ_r ?_
              refine blockQ_r ?_
              refine thenQ_r ?_
              cases hF
              exact eR
             ·
              refine w_skip ?_
              refine blockQ_n ?_
              refine thenQ_n ?_
              refine w_reg 2051 2243 rfl rfl ?_
              refine qp (AI v50003) rfl (qp (AI (w64 (v50003 + 1))) rfl (qp (AI (w64 (v50003 + 1))) rfl ?_))
              refine r_nil ?_
              refine thenQ_n ?_
              refine ar (l' := [(5, .sl 0 0 v1001.length), (6, .sl 1 0 v1002.length), (14, .sl 2 0 v1006.1.length), (18, AI (w64 (v50003 + 1)))]) (L := [(2, .row true 3 (v1006.1.map eBlock)), (1, .row true 3 (v1002.map eBlock)), (0, .row true 3 (v1001.map eBlock))]) [5, 6, 14, 18] [(2, 2), (1, 1), (0, 0)] 3 ⟨_, by rfl, hF⟩
           ·
            refine w_exit ?_
            refine thenQ_e ?_
            refine thenQ_e ?_
            refine blockQ_e ?_
            refine thenQ_n ?_
            refine ws 259 835 ?_
            refine qp (.sl 2 0 v1006.1.length) rfl (qp (AI (v1006.1.length : Int)) rfl (qp (.sl 0 0 v1001.length) rfl (qp (AI (v1001.length : Int)) rfl (qp (.sl 1 0 v1002.length) rfl (qp (AI (v1002.length : Int)) rfl (qp (AI (w64 ((v1001.length : Int) + (v1002.length : Int)))) rfl (qp (AB (decide ((v1006.1.length : Int) ≤ w64 ((v1001.length : Int) + (v1002.length : Int))))) rfl ?_)))))))
            refine qp (AB (decide ((v1006.1.length : Int) ≤ w64 ((v1001.length : Int) + (v1002.length : Int))))) rfl ?_
            refine r_nil ?_
            refine w_ret ?_
            cases hF
            exact eR

end Go.Ab
