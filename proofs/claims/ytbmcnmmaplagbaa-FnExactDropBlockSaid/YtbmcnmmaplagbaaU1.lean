/- Walks (printed by auto.py, a program of this session's own). -/
import Derived.Test.YtbmcnmmaplagbaaU0
import Derived.Test.YtbmcnmmaplagbaaProg
import Derived.KernelRfl
set_option linter.unusedVariables false
set_option linter.unusedSimpArgs false
namespace Go.Ab
open Go.RowKit Go.Proofs

def c5 : MC := (.seq (.reg [⟨(some 6), none, (.p true (.mv (.c (.bool false))))⟩]) (.seq (.seq (.reg [⟨(some 18), none, (.p true (.mv (.t 1)))⟩, ⟨(some 19), none, (.p true (.lens (.t 18)))⟩, ⟨(some 20), none, (.p true (.bin .gtr (.t 19) (.c (.int .i64 1048576))))⟩]) (.cond (.t 20) (.seq (.reg [⟨(some 6), none, (.p true (.mv (.c (.bool true))))⟩]) .ret) .skip)) (.seq (.seq (.reg [⟨(some 21), none, (.p true (.mv (.t 2)))⟩, ⟨(some 22), none, (.p true (.lens (.t 21)))⟩, ⟨(some 23), none, (.p true (.bin .gtr (.t 22) (.c (.int .i64 1048576))))⟩]) (.cond (.t 23) (.seq (.reg [⟨(some 6), none, (.p true (.mv (.c (.bool true))))⟩]) .ret) .skip)) (.seq (.reg [⟨(some 7), none, (.p true (.mv (.c (.int .i64 1048576))))⟩]) (.seq (.reg [⟨(some 24), none, (.p true (.mv (.t 0)))⟩, ⟨(some 25), none, (.p true (.mv (.t 7)))⟩, ⟨(some 26), none, (.call true 21 [(.t 24), (.t 25)])⟩, ⟨(some 7), none, (.p true (.mv (.t 26)))⟩]) (.seq (.seq (.reg [⟨(some 27), none, (.p true (.mv (.t 7)))⟩, ⟨(some 28), none, (.p true (.bin .lss (.t 27) (.c (.int .i64 0))))⟩]) (.cond (.t 28) (.seq (.reg [⟨(some 6), none, (.p true (.mv (.c (.bool true))))⟩]) .ret) .skip)) (.seq (.reg [⟨(some 30), none, (.p true (.mv (.t 0)))⟩, ⟨(some 31), none, (.call true 23 [(.t 30)])⟩, ⟨(some 32), none, (.p true (.mv (.t 1)))⟩, ⟨(some 33), none, (.p true (.mv (.t 2)))⟩, ⟨(some 34), none, (.call true 22 [(.t 31), (.t 32), (.t 33)])⟩, ⟨(some 29), none, (.p true (.mv (.t 34)))⟩, ⟨(some 35), none, (.p true (.ext (.t 29) 0))⟩, ⟨(some 36), none, (.p true (.ext (.t 29) 1))⟩, ⟨(some 8), none, (.p true (.mv (.t 35)))⟩, ⟨(some 9), none, (.p true (.mv (.t 36)))⟩]) (.seq (.reg [⟨(some 37), none, (.p true (.mv (.t 0)))⟩, ⟨(some 38), none, (.call true 23 [(.t 37)])⟩, ⟨(some 10), none, (.p true (.mv (.t 38)))⟩]) (.seq (.reg [⟨(some 40), none, (.p true (.mv (.t 10)))⟩, ⟨(some 41), none, (.p true (.mv (.t 1)))⟩, ⟨(some 42), none, (.p true (.mv (.t 2)))⟩, ⟨(some 43), none, (.call true 24 [(.t 40), (.t 41), (.t 42)])⟩, ⟨(some 39), none, (.p true (.mv (.t 43)))⟩, ⟨(some 44), none, (.p true (.ext (.t 39) 0))⟩, ⟨(some 45), none, (.p true (.ext (.t 39) 1))⟩, ⟨(some 11), none, (.p true (.mv (.t 44)))⟩, ⟨(some 12), none, (.p true (.mv (.t 45)))⟩]) (.seq (.seq (.reg [⟨(some 46), none, (.p true (.mv (.t 11)))⟩, ⟨(some 47), none, (.p true (.mv (.t 8)))⟩, ⟨(some 48), none, (.call true 25 [(.t 46), (.t 47)])⟩, ⟨(some 49), none, (.p true (.not (.t 48)))⟩, ⟨(some 50), none, (.p true (.mv (.t 49)))⟩, ⟨(some 51), (some (50, false)), (.p true (.mv (.t 12)))⟩, ⟨(some 52), (some (50, false)), (.p true (.mv (.t 9)))⟩, ⟨(some 53), (some (50, false)), (.p true (.bin .neq (.t 51) (.t 52)))⟩, ⟨(some 54), none, (.p true (.pick (.t 50) (.c (.bool true)) (.t 53)))⟩]) (.cond (.t 54) (.seq (.reg [⟨(some 6), none, (.p true (.mv (.c (.bool false))))⟩]) .ret) .skip)) (.seq (.seq (.reg [⟨(some 55), none, (.p true (.mv (.t 10)))⟩, ⟨(some 56), none, (.p true (.mv (.t 0)))⟩, ⟨(some 57), none, (.call true 23 [(.t 56)])⟩, ⟨(some 58), none, (.call true 25 [(.t 55), (.t 57)])⟩, ⟨(some 59), none, (.p true (.not (.t 58)))⟩]) (.cond (.t 59) (.seq (.reg [⟨(some 6), none, (.p true (.mv (.c (.bool false))))⟩]) .ret) .skip)) (.seq (.reg [⟨(some 13), none, (.p true (.mv (.c (.int .i64 1))))⟩]) (.seq (.reg [⟨(some 60), none, (.p true (.mv (.t 10)))⟩, ⟨(some 61), none, (.p true (.mv (.t 13)))⟩, ⟨(some 62), none, (.call true 26 [(.t 60), (.t 61)])⟩, ⟨(some 13), none, (.p true (.mv (.t 62)))⟩]) (.seq (.seq (.reg [⟨(some 63), none, (.p true (.mv (.t 13)))⟩, ⟨(some 64), none, (.p true (.bin .lss (.t 63) (.c (.int .i64 0))))⟩, ⟨(some 65), none, (.p true (.mv (.t 64)))⟩, ⟨(some 66), (some (65, false)), (.p true (.mv (.t 11)))⟩, ⟨(some 67), (some (65, false)), (.p true (.mv (.t 8)))⟩, ⟨(some 68), (some (65, false)), (.call true 25 [(.t 66), (.t 67)])⟩, ⟨(some 69), (some (65, false)), (.p true (.not (.t 68)))⟩, ⟨(some 70), none, (.p true (.pick (.t 65) (.c (.bool true)) (.t 69)))⟩, ⟨(some 71), none, (.p true (.mv (.t 70)))⟩, ⟨(some 72), (some (71, false)), (.p true (.mv (.t 12)))⟩, ⟨(some 73), (some (71, false)), (.p true (.mv (.t 9)))⟩, ⟨(some 74), (some (71, false)), (.p true (.bin .neq (.t 72) (.t 73)))⟩, ⟨(some 75), none, (.p true (.pick (.t 71) (.c (.bool true)) (.t 74)))⟩]) (.cond (.t 75) (.seq (.reg [⟨(some 6), none, (.p true (.mv (.c (.bool false))))⟩]) .ret) .skip)) (.seq (.reg [⟨(some 14), none, (.p true (.mv (.c (.int .i64 1))))⟩]) (.seq (.reg [⟨(some 76), none, (.p true (.mv (.t 11)))⟩, ⟨(some 77), none, (.p true (.mv (.t 14)))⟩, ⟨(some 78), none, (.call true 26 [(.t 76), (.t 77)])⟩, ⟨(some 14), none, (.p true (.mv (.t 78)))⟩]) (.seq (.reg [⟨(some 15), none, (.p true (.mv (.c (.int .i64 1))))⟩]) (.seq (.reg [⟨(some 79), none, (.p true (.mv (.t 11)))⟩, ⟨(some 80), none, (.p true (.mv (.t 15)))⟩, ⟨(some 81), none, (.call true 27 [(.t 79), (.t 80)])⟩, ⟨(some 15), none, (.p true (.mv (.t 81)))⟩]) (.seq (.seq (.reg [⟨(some 82), none, (.p true (.mv (.t 15)))⟩, ⟨(some 83), none, (.p true (.bin .lss (.t 82) (.c (.int .i64 0))))⟩]) (.cond (.t 83) (.seq (.reg [⟨(some 6), none, (.p true (.mv (.c (.bool false))))⟩]) .ret) .skip)) (.seq (.seq (.reg [⟨(some 84), none, (.p true (.mv (.t 15)))⟩, ⟨(some 85), none, (.p true (.mv (.t 14)))⟩, ⟨(some 86), none, (.p true (.bin .neq (.t 84) (.t 85)))⟩]) (.cond (.t 86) (.seq (.reg [⟨(some 6), none, (.p true (.mv (.c (.bool false))))⟩]) .ret) .skip)) (.seq (.reg [⟨(some 88), none, (.p true (.mv (.t 0)))⟩, ⟨(some 89), none, (.call true 23 [(.t 88)])⟩, ⟨(some 90), none, (.p true (.mv (.t 1)))⟩, ⟨(some 91), none, (.p true (.mv (.t 2)))⟩, ⟨(some 92), none, (.call true 24 [(.t 89), (.t 90), (.t 91)])⟩, ⟨(some 87), none, (.p true (.mv (.t 92)))⟩, ⟨(some 93), none, (.p true (.ext (.t 87) 0))⟩, ⟨(some 94), none, (.p true (.ext (.t 87) 1))⟩, ⟨(some 16), none, (.p true (.mv (.t 93)))⟩, ⟨(some 17), none, (.p true (.mv (.t 94)))⟩]) (.seq (.seq (.reg [⟨(some 95), none, (.p true (.mv (.t 16)))⟩, ⟨(some 96), none, (.p true (.mv (.t 8)))⟩, ⟨(some 97), none, (.call true 25 [(.t 95), (.t 96)])⟩, ⟨(some 98), none, (.p true (.not (.t 97)))⟩, ⟨(some 99), none, (.p true (.mv (.t 98)))⟩, ⟨(some 100), (some (99, false)), (.p true (.mv (.t 17)))⟩, ⟨(some 101), (some (99, false)), (.p true (.mv (.t 9)))⟩, ⟨(some 102), (some (99, false)), (.p true (.bin .neq (.t 100) (.t 101)))⟩, ⟨(some 103), none, (.p true (.pick (.t 99) (.c (.bool true)) (.t 102)))⟩]) (.cond (.t 103) (.seq (.reg [⟨(some 6), none, (.p true (.mv (.c (.bool false))))⟩]) .ret) .skip)) (.seq (.reg [⟨(some 15), none, (.p true (.mv (.c (.int .i64 1))))⟩]) (.seq (.reg [⟨(some 104), none, (.p true (.mv (.t 11)))⟩, ⟨(some 105), none, (.p true (.mv (.t 15)))⟩, ⟨(some 106), none, (.call true 27 [(.t 104), (.t 105)])⟩, ⟨(some 15), none, (.p true (.mv (.t 106)))⟩]) (.seq (.seq (.reg [⟨(some 107), none, (.p true (.mv (.t 15)))⟩, ⟨(some 108), none, (.p true (.bin .lss (.t 107) (.c (.int .i64 0))))⟩]) (.cond (.t 108) (.seq (.reg [⟨(some 6), none, (.p true (.mv (.c (.bool false))))⟩]) .ret) .skip)) (.seq (.seq (.reg [⟨(some 109), none, (.p true (.mv (.t 15)))⟩, ⟨(some 110), none, (.p true (.mv (.t 14)))⟩, ⟨(some 111), none, (.p true (.bin .neq (.t 109) (.t 110)))⟩]) (.cond (.t 111) (.seq (.reg [⟨(some 6), none, (.p true (.mv (.c (.bool false))))⟩]) .ret) .skip)) (.seq (.reg [⟨(some 6), none, (.p true (.mv (.c (.bool true))))⟩]) .ret)))))))))))))))))))))))))))
theorem c5_is : compFn Try.prog 5 = some (c5, [(.tmp 6)]) := by kernel_rfl
theorem c5_ok : okFn Try.prog 5 = true := by kernel_rfl

noncomputable def F_laws_FnExactDropBlock (v0 : List TBlock) (v1 : List UInt8) (v2 : List UInt8) : Option (Bool) :=
  (bif (decide ((1048576 : Int) < (v1.length : Int))) then some true
  else (bif (decide ((1048576 : Int) < (v2.length : Int))) then some true
  else ((F_laws_szBlockS v0 1048576).bind fun v1000 => (bif (decide (v1000 < (0 : Int))) then some true
  else ((F_laws_toBlockS v0).bind fun v1001 => ((F_spec_DropBlock v1001 v1 v2).bind fun v1002 => ((F_laws_toBlockS v0).bind fun v1003 => ((F_impl_DropBlock v1003 v1 v2).bind fun v1004 => ((F_laws_eqBlockS v1004.1 v1002.1).bind fun v1006 => (bif (!v1006) then some false
  else (bif (decide (v1004.2 ≠ v1002.2)) then some false
  else ((F_laws_toBlockS v0).bind fun v1007 => ((F_laws_eqBlockS v1003 v1007).bind fun v1008 => (bif (!v1008) then some false
  else ((F_laws_markBlockS v1003 1).bind fun v1009 => need (v1009.1.length = v1003.length) ((bif (decide (v1009.2 < (0 : Int))) then some false
  else ((F_laws_eqBlockS v1004.1 v1002.1).bind fun v1012 => (bif (!v1012) then some false
  else (bif (decide (v1004.2 ≠ v1002.2)) then some false
  else ((F_laws_markBlockS v1004.1 1).bind fun v1013 => need (v1013.1.length = v1004.1.length) (((F_laws_heldBlockS v1013.1 1).bind fun v1015 => (bif (decide (v1015 < (0 : Int))) then some false
  else (bif (decide (v1015 ≠ v1013.2)) then some false
  else ((F_laws_toBlockS v0).bind fun v1016 => ((F_impl_DropBlock v1016 v1 v2).bind fun v1017 => ((F_laws_eqBlockS v1017.1 v1002.1).bind fun v1019 => (bif (!v1019) then some false
  else (bif (decide (v1017.2 ≠ v1002.2)) then some false
  else ((F_laws_heldBlockS v1013.1 1).bind fun v1020 => (bif (decide (v1020 < (0 : Int))) then some false
  else (bif (decide (v1020 ≠ v1013.2)) then some false
  else some true)))))))))))))))))))))))))))))))))
@[simp] def res_laws_FnExactDropBlock (r : Bool) : RV := .one (.one (.val (.bool r)))
theorem con_laws_FnExactDropBlock {v0 : List TBlock} {v1 : List UInt8} {v2 : List UInt8} {r : Bool} (hF : F_laws_FnExactDropBlock v0 v1 v2 = some r) : Con Try.prog 5 [.sl 3 (v0.map eBlock), .str v1, .str v2] (res_laws_FnExactDropBlock r) := by
  unfold F_laws_FnExactDropBlock at hF
  refine con_of c5_is fun N => ?_
  refine w_reg_seq 0 64 rfl rfl ?_
  refine qp (AB false) rfl ?_
  refine r_nil ?_
  refine w_seq ?_
  refine w_reg_seq 64 256 rfl rfl ?_
  refine qp (AS v1) rfl (qp (AI (v1.length : Int)) rfl (qp (AB (decide ((1048576 : Int) < (v1.length : Int)))) rfl ?_))
  refine r_nil ?_
  refine w_condF hF rfl (fun hF => ?_) (fun hF => ?_)
  ·
    refine w_reg_seq 256 320 rfl rfl ?_
    refine qp (AB true) rfl ?_
    refine r_nil ?_
    refine w_ret ?_
    refine thenQ_r ?_
    cases hF
    exact endQ_r rfl (.inl ⟨_, _, by first | rfl | (simp [List.take_of_length_le]; first | exact ⟨rfl, rfl⟩ | rfl), by simp, by first | rfl | simp [res_laws_FnExactDropBlock, List.take_of_length_le]⟩)
  ·
    refine w_skip ?_
    refine thenQ_n ?_
    refine w_seq ?_
    refine w_reg_seq 256 448 rfl rfl ?_
    refine qp (AS v2) rfl (qp (AI (v2.length : Int)) rfl (qp (AB (decide ((1048576 : Int) < (v2.length : Int)))) rfl ?_))
    refine r_nil ?_
    refine w_condF hF rfl (fun hF => ?_) (fun hF => ?_)
    ·
      refine w_reg_seq 448 512 rfl rfl ?_
      refine qp (AB true) rfl ?_
      refine r_nil ?_
      refine w_ret ?_
      refine thenQ_r ?_
      cases hF
      exact endQ_r rfl (.inl ⟨_, _, by first | rfl | (simp [List.take_of_length_le]; first | exact ⟨rfl, rfl⟩ | rfl), by simp, by first | rfl | simp [res_laws_FnExactDropBlock, List.take_of_length_le]⟩)
    ·
      refine w_skip ?_
      refine thenQ_n ?_
      refine w_reg_seq 448 512 rfl rfl ?_
      refine qp (AI 1048576) rfl ?_
      refine r_nil ?_
      refine w_reg_seq 512 768 rfl rfl ?_
      refine qp (.val none (.sl 3 (v0.map eBlock))) rfl (qp (AI 1048576) rfl ?_)
      obtain ⟨v1000, e1000, hF⟩ := bind_get hF
      refine qc (AI v1000) [] false (con_laws_szBlockS e1000) c21_ok (by first | rfl | simp) rfl ?_
      refine qp (AI v1000) rfl ?_
      refine r_nil ?_
      refine w_seq ?_
      refine w_reg_seq 768 896 rfl rfl ?_
      refine qp (AI v1000) rfl (qp (AB (decide (v1000 < (0 : Int)))) rfl ?_)
      refine r_nil ?_
      refine w_condF hF rfl (fun hF => ?_) (fun hF => ?_)
      ·
        refine w_reg_seq 896 960 rfl rfl ?_
        refine qp (AB true) rfl ?_
        refine r_nil ?_
        refine w_ret ?_
        refine thenQ_r ?_
        cases hF
        exact endQ_r rfl (.inl ⟨_, _, by first | rfl | (simp [List.take_of_length_le]; first | exact ⟨rfl, rfl⟩ | rfl), by simp, by first | rfl | simp [res_laws_FnExactDropBlock, List.take_of_length_le]⟩)
      ·
        refine w_skip ?_
        refine thenQ_n ?_
        refine w_reg_seq 896 1536 rfl rfl ?_
        refine qp (.val none (.sl 3 (v0.map eBlock))) rfl ?_
        obtain ⟨v1001, e1001, hF⟩ := bind_get hF
        refine qc (.sl 960 0 v1001.length) [(960, .row true 3 (v1001.map eBlock))] false (con_laws_toBlockS e1001) c23_ok (by first | rfl | simp) (by simp [res_laws_toBlockS]) ?_
        refine qp (AS v1) rfl (qp (AS v2) rfl ?_)
        obtain ⟨v1002, e1002, hF⟩ := bind_get hF
        refine qc (.tup [.sl 1152 0 v1002.1.length, AI v1002.2]) [(1152, .row true 3 (v1002.1.map eBlock)), (960, .row true 3 (v1001.map eBlock))] true (con_spec_DropBlock e1002) c22_ok (by simp [List.take_of_length_le]) (by simp [res_spec_DropBlock]) ?_
        refine qp (.tup [.sl 1152 0 v1002.1.length, AI v1002.2]) rfl (qp (.sl 1152 0 v1002.1.length) rfl (qp (AI v1002.2) rfl (qp (.sl 1152 0 v1002.1.length) rfl (qp (AI v1002.2) rfl ?_))))
        refine r_nil ?_
        refine w_reg_seq 1536 1728 rfl rfl ?_
        refine qp (.val none (.sl 3 (v0.map eBlock))) rfl ?_
        obtain ⟨v1003, e1003, hF⟩ := bind_get hF
        refine qc (.sl 1600 0 v1003.length) [(1600, .row true 3 (v1003.map eBlock)), (1152, .row true 3 (v1002.1.map eBlock)), (960, .row true 3 (v1001.map eBlock))] false (con_laws_toBlockS e1003) c23_ok (by first | rfl | simp) (by simp [res_laws_toBlockS]) ?_
        refine qp (.sl 1600 0 v1003.length) rfl ?_
        refine r_nil ?_
        refine w_reg_seq 1728 2304 rfl rfl ?_
        refine qp (.sl 1600 0 v1003.length) rfl (qp (AS v1) rfl (qp (AS v2) rfl ?_))
        obtain ⟨v1004, e1004, hF⟩ := bind_get hF
        refine qc (.tup [.sl 1920 0 v1004.1.length, AI v1004.2]) [(1920, .row true 3 (v1004.1.map eBlock)), (1600, .row true 3 (v1003.map eBlock)), (1152, .row true 3 (v1002.1.map eBlock)), (960, .row true 3 (v1001.map eBlock))] true (con_impl_DropBlock e1004) c24_ok (by simp [List.take_of_length_le]) (by simp [res_impl_DropBlock]) ?_
        refine qp (.tup [.sl 1920 0 v1004.1.length, AI v1004.2]) rfl (qp (.sl 1920 0 v1004.1.length) rfl (qp (AI v1004.2) rfl (qp (.sl 1920 0 v1004.1.length) rfl (qp (AI v1004.2) rfl ?_))))
        refine r_nil ?_
        refine w_seq ?_
        refine w_reg_seq 2304 2880 rfl rfl ?_
        refine qp (.sl 1920 0 v1004.1.length) rfl (qp (.sl 1152 0 v1002.1.length) rfl ?_)
        obtain ⟨v1006, e1006, hF⟩ := bind_get hF
        refine qc (AB v1006) [(1920, .row true 3 (v1004.1.map eBlock)), (1600, .row true 3 (v1003.map eBlock)), (1152, .row true 3 (v1002.1.map eBlock)), (960, .row true 3 (v1001.map eBlock))] true (con_laws_eqBlockS e1006) c25_ok (by simp [List.take_of_length_le]) rfl ?_
        refine qp (AB (!v1006)) rfl (qp (AB (!v1006)) rfl ?_)
        refine q_case 50 hF rfl (fun hF => ?_) (fun hF => ?_)
        ·
          refine qn rfl (qn rfl (qn rfl (qp (AB true) rfl ?_)))
          refine r_nil ?_
          refine w_true rfl ?_
          refine w_reg_seq 2880 2944 rfl rfl ?_
          refine qp (AB false) rfl ?_
          refine r_nil ?_
          refine w_ret ?_
          refine thenQ_r ?_
          cases hF
          exact endQ_r rfl (.inl ⟨_, _, by first | rfl | (simp [List.take_of_length_le]; first | exact ⟨rfl, rfl⟩ | rfl), by simp, by first | rfl | simp [res_laws_FnExactDropBlock, List.take_of_length_le]⟩)
        ·
          refine qg (AI v1004.2) rfl rfl (qg (AI v1002.2) rfl rfl (qg (AB (decide (v1004.2 ≠ v1002.2))) rfl rfl (qp (AB (decide (v1004.2 ≠ v1002.2))) rfl ?_)))
          refine r_nil ?_
          refine w_condF hF rfl (fun hF => ?_) (fun hF => ?_)
          ·
            refine w_reg_seq 2880 2944 rfl rfl ?_
            refine qp (AB false) rfl ?_
            refine r_nil ?_
            refine w_ret ?_
            refine thenQ_r ?_
            cases hF
            exact endQ_r rfl (.inl ⟨_, _, by first | rfl | (simp [List.take_of_length_le]; first | exact ⟨rfl, rfl⟩ | rfl), by simp, by first | rfl | simp [res_laws_FnExactDropBlock, List.take_of_length_le]⟩)
          ·
            refine w_skip ?_
            refine thenQ_n ?_
            refine w_seq ?_
            refine w_reg_seq 2880 3200 rfl rfl ?_
            refine qp (.sl 1600 0 v1003.length) rfl (qp (.val none (.sl 3 (v0.map eBlock))) rfl ?_)
            obtain ⟨v1007, e1007, hF⟩ := bind_get hF
            refine qc (.sl 3008 0 v1007.length) [(3008, .row true 3 (v1007.map eBlock)), (1920, .row true 3 (v1004.1.map eBlock)), (1600, .row true 3 (v1003.map eBlock)), (1152, .row true 3 (v1002.1.map eBlock)), (960, .row true 3 (v1001.map eBlock))] false (con_laws_toBlockS e1007) c23_ok (by first | rfl | simp) (by simp [res_laws_toBlockS]) ?_
            obtain ⟨v1008, e1008, hF⟩ := bind_get hF
            refine qc (AB v1008) [(3008, .row true 3 (v1007.map eBlock)), (1920, .row true 3 (v1004.1.map eBlock)), (1600, .row true 3 (v1003.map eBlock)), (1152, .row true 3 (v1002.1.map eBlock)), (960, .row true 3 (v1001.map eBlock))] true (con_laws_eqBlockS e1008) c25_ok (by simp [List.take_of_length_le]) rfl ?_
            refine qp (AB (!v1008)) rfl ?_
            refine r_nil ?_
            refine w_condF hF rfl (fun hF => ?_) (fun hF => ?_)
            ·
              refine w_reg_seq 3200 3264 rfl rfl ?_
              refine qp (AB false) rfl ?_
              refine r_nil ?_
              refine w_ret ?_
              refine thenQ_r ?_
              cases hF
              exact endQ_r rfl (.inl ⟨_, _, by first | rfl | (simp [List.take_of_length_le]; first | exact ⟨rfl, rfl⟩ | rfl), by simp, by first | rfl | simp [res_laws_FnExactDropBlock, List.take_of_length_le]⟩)
            ·
              refine w_skip ?_
              refine thenQ_n ?_
              refine w_reg_seq 3200 3264 rfl rfl ?_
              refine qp (AI 1) rfl ?_
              refine r_nil ?_
              refine w_reg_seq 3264 3520 rfl rfl ?_
              refine qp (.sl 1600 0 v1003.length) rfl (qp (AI 1) rfl ?_)
              obtain ⟨v1009, e1009, hF⟩ := bind_get hF
              obtain ⟨g1010, hF⟩ := need_some hF
              refine qm (ls := [1600]) [(1600, .row true 3 (v1009.1.map eBlock)), (3008, .row true 3 (v1007.map eBlock)), (1920, .row true 3 (v1004.1.map eBlock)), (1600, .row true 3 (v1003.map eBlock)), (1152, .row true 3 (v1002.1.map eBlock)), (960, .row true 3 (v1001.map eBlock))] (con_laws_markBlockS e1009) c26_ok (by first | rfl | simp [takeM, takeML, takeM1, g1010]) (by decide) (by simp [like2, likeL, like1, g1010]) rfl rfl rfl (by simp [scrO_fo, newO2, newO, scrR, scrA, scrAs]) ?_
              refine qp (AI v1009.2) rfl ?_
              refine r_nil ?_
              refine w_seq ?_
              refine w_reg_seq 3520 4352 rfl rfl ?_
              refine qp (AI v1009.2) rfl (qp (AB (decide (v1009.2 < (0 : Int)))) rfl (qp (AB (decide (v1009.2 < (0 : Int)))) rfl ?_))
              refine q_case 65 hF rfl (fun hF => ?_) (fun hF => ?_)
              ·
                refine qn rfl (qn rfl (qn rfl (qn rfl (qp (AB true) rfl (qp (AB true) rfl (qn rfl (qn rfl ?_)))))))
                refine qn rfl (qp (AB true) rfl ?_)
                refine r_nil ?_
                refine w_true rfl ?_
                refine w_reg_seq 4352 4416 rfl rfl ?_
                refine qp (AB false) rfl ?_
                refine r_nil ?_
                refine w_ret ?_
                refine thenQ_r ?_
                cases hF
                exact endQ_r rfl (.inl ⟨_, _, by first | rfl | (simp [List.take_of_length_le]; first | exact ⟨rfl, rfl⟩ | rfl), by simp, by first | rfl | simp [res_laws_FnExactDropBlock, List.take_of_length_le, g1010]⟩)
              ·
                refine qg (.sl 1920 0 v1004.1.length) rfl rfl (qg (.sl 1152 0 v1002.1.length) rfl rfl ?_)
                obtain ⟨v1012, e1012, hF⟩ := bind_get hF
                refine qcg (AB v1012) [(1600, .row true 3 (v1009.1.map eBlock)), (3008, .row true 3 (v1007.map eBlock)), (1920, .row true 3 (v1004.1.map eBlock)), (1600, .row true 3 (v1003.map eBlock)), (1152, .row true 3 (v1002.1.map eBlock)), (960, .row true 3 (v1001.map eBlock))] true rfl (con_laws_eqBlockS e1012) c25_ok (by simp [g1010, List.take_of_length_le]) rfl ?_
                refine qg (AB (!v1012)) rfl rfl (qp (AB (!v1012)) rfl (qp (AB (!v1012)) rfl ?_))
                refine q_case 71 hF rfl (fun hF => ?_) (fun hF => ?_)
                ·
                  refine qn rfl (qn rfl (qn rfl (qp (AB true) rfl ?_)))
                  refine r_nil ?_
                  refine w_true rfl ?_
                  refine w_reg_seq 4352 4416 rfl rfl ?_
                  refine qp (AB false) rfl ?_
                  refine r_nil ?_
                  refine w_ret ?_
                  refine thenQ_r ?_
                  cases hF
                  exact endQ_r rfl (.inl ⟨_, _, by first | rfl | (simp [List.take_of_length_le]; first | exact ⟨rfl, rfl⟩ | rfl), by simp, by first | rfl | simp [res_laws_FnExactDropBlock, List.take_of_length_le, g1010]⟩)
                ·
                  refine qg (AI v1004.2) rfl rfl (qg (AI v1002.2) rfl rfl (qg (AB (decide (v1004.2 ≠ v1002.2))) rfl rfl (qp (AB (decide (v1004.2 ≠ v1002.2))) rfl ?_)))
                  refine r_nil ?_
                  refine w_condF hF rfl (fun hF => ?_) (fun hF => ?_)
                  ·
                    refine w_reg_seq 4352 4416 rfl rfl ?_
                    refine qp (AB false) rfl ?_
                    refine r_nil ?_
                    refine w_ret ?_
                    refine thenQ_r ?_
                    cases hF
                    exact endQ_r rfl (.inl ⟨_, _, by first | rfl | (simp [List.take_of_length_le]; first | exact ⟨rfl, rfl⟩ | rfl), by simp, by first | rfl | simp [res_laws_FnExactDropBlock, List.take_of_length_le, g1010]⟩)
                  ·
                    refine w_skip ?_
                    refine thenQ_n ?_
                    refine w_reg_seq 4352 4416 rfl rfl ?_
                    refine qp (AI 1) rfl ?_
                    refine r_nil ?_
                    refine w_reg_seq 4416 4672 rfl rfl ?_
                    refine qp (.sl 1920 0 v1004.1.length) rfl (qp (AI 1) rfl ?_)
                    obtain ⟨v1013, e1013, hF⟩ := bind_get hF
                    obtain ⟨g1014, hF⟩ := need_some hF
                    refine qm (ls := [1920]) [(1920, .row true 3 (v1013.1.map eBlock)), (1600, .row true 3 (v1009.1.map eBlock)), (3008, .row true 3 (v1007.map eBlock)), (1920, .row true 3 (v1004.1.map eBlock)), (1600, .row true 3 (v1003.map eBlock)), (1152, .row true 3 (v1002.1.map eBlock)), (960, .row true 3 (v1001.map eBlock))] (con_laws_markBlockS e1013) c26_ok (by first | rfl | simp [takeM, takeML, takeM1, g1010, g1014]) (by decide) (by simp [like2, likeL, like1, g1014]) rfl rfl rfl (by simp [scrO_fo, newO2, newO, scrR, scrA, scrAs]) ?_
                    refine qp (AI v1013.2) rfl ?_
                    refine r_nil ?_
                    refine w_reg_seq 4672 4736 rfl rfl ?_
                    refine qp (AI 1) rfl ?_
                    refine r_nil ?_
                    refine w_reg_seq 4736 4992 rfl rfl ?_
                    refine qp (.sl 1920 0 v1004.1.length) rfl (qp (AI 1) rfl ?_)
                    obtain ⟨v1015, e1015, hF⟩ := bind_get hF
                    refine qc (AI v1015) [(1920, .row true 3 (v1013.1.map eBlock)), (1600, .row true 3 (v1009.1.map eBlock)), (3008, .row true 3 (v1007.map eBlock)), (1920, .row true 3 (v1004.1.map eBlock)), (1600, .row true 3 (v1003.map eBlock)), (1152, .row true 3 (v1002.1.map eBlock)), (960, .row true 3 (v1001.map eBlock))] true (con_laws_heldBlockS e1015) c27_ok (by simp [g1010, g1014, List.take_of_length_le]) rfl ?_
                    refine qp (AI v1015) rfl ?_
                    refine r_nil ?_
                    refine w_seq ?_
                    refine w_reg_seq 4992 5120 rfl rfl ?_
                    refine qp (AI v1015) rfl (qp (AB (decide (v1015 < (0 : Int)))) rfl ?_)
                    refine r_nil ?_
                    refine w_condF hF rfl (fun hF => ?_) (fun hF => ?_)
                    ·
                      refine w_reg_seq 5120 5184 rfl rfl ?_
                      refine qp (AB false) rfl ?_
                      refine r_nil ?_
                      refine w_ret ?_
                      refine thenQ_r ?_
                      cases hF
                      exact endQ_r rfl (.inl ⟨_, _, by first | rfl | (simp [List.take_of_length_le]; first | exact ⟨rfl, rfl⟩ | rfl), by simp, by first | rfl | simp [res_laws_FnExactDropBlock, List.take_of_length_le, g1010, g1014]⟩)
                    ·
                      refine w_skip ?_
                      refine thenQ_n ?_
                      refine w_seq ?_
                      refine w_reg_seq 5120 5312 rfl rfl ?_
                      refine qp (AI v1015) rfl (qp (AI v1013.2) rfl (qp (AB (decide (v1015 ≠ v1013.2))) rfl ?_))
                      refine r_nil ?_
                      refine w_condF hF rfl (fun hF => ?_) (fun hF => ?_)
                      ·
                        refine w_reg_seq 5312 5376 rfl rfl ?_
                        refine qp (AB false) rfl ?_
                        refine r_nil ?_
                        refine w_ret ?_
                        refine thenQ_r ?_
                        cases hF
                        exact endQ_r rfl (.inl ⟨_, _, by first | rfl | (simp [List.take_of_length_le]; first | exact ⟨rfl, rfl⟩ | rfl), by simp, by first | rfl | simp [res_laws_FnExactDropBlock, List.take_of_length_le, g1010, g1014]⟩)
                      ·
                        refine w_skip ?_
                        refine thenQ_n ?_
                        refine w_reg_seq 5312 5952 rfl rfl ?_
                        refine qp (.val none (.sl 3 (v0.map eBlock))) rfl ?_
                        obtain ⟨v1016, e1016, hF⟩ := bind_get hF
                        refine qc (.sl 5376 0 v1016.length) [(5376, .row true 3 (v1016.map eBlock)), (1920, .row true 3 (v1013.1.map eBlock)), (1600, .row true 3 (v1009.1.map eBlock)), (3008, .row true 3 (v1007.map eBlock)), (1920, .row true 3 (v1004.1.map eBlock)), (1600, .row true 3 (v1003.map eBlock)), (1152, .row true 3 (v1002.1.map eBlock)), (960, .row true 3 (v1001.map eBlock))] false (con_laws_toBlockS e1016) c23_ok (by first | rfl | simp) (by simp [res_laws_toBlockS]) ?_
                        refine qp (AS v1) rfl (qp (AS v2) rfl ?_)
                        obtain ⟨v1017, e1017, hF⟩ := bind_get hF
                        refine qc (.tup [.sl 5568 0 v1017.1.length, AI v1017.2]) [(5568, .row true 3 (v1017.1.map eBlock)), (5376, .row true 3 (v1016.map eBlock)), (1920, .row true 3 (v1013.1.map eBlock)), (1600, .row true 3 (v1009.1.map eBlock)), (3008, .row true 3 (v1007.map eBlock)), (1920, .row true 3 (v1004.1.map eBlock)), (1600, .row true 3 (v1003.map eBlock)), (1152, .row true 3 (v1002.1.map eBlock)), (960, .row true 3 (v1001.map eBlock))] true (con_impl_DropBlock e1017) c24_ok (by simp [g1010, g1014, List.take_of_length_le]) (by simp [res_impl_DropBlock]) ?_
                        refine qp (.tup [.sl 5568 0 v1017.1.length, AI v1017.2]) rfl (qp (.sl 5568 0 v1017.1.length) rfl (qp (AI v1017.2) rfl (qp (.sl 5568 0 v1017.1.length) rfl (qp (AI v1017.2) rfl ?_))))
                        refine r_nil ?_
                        refine w_seq ?_
                        refine w_reg_seq 5952 6528 rfl rfl ?_
                        refine qp (.sl 5568 0 v1017.1.length) rfl (qp (.sl 1152 0 v1002.1.length) rfl ?_)
                        obtain ⟨v1019, e1019, hF⟩ := bind_get hF
                        refine qc (AB v1019) [(5568, .row true 3 (v1017.1.map eBlock)), (5376, .row true 3 (v1016.map eBlock)), (1920, .row true 3 (v1013.1.map eBlock)), (1600, .row true 3 (v1009.1.map eBlock)), (3008, .row true 3 (v1007.map eBlock)), (1920, .row true 3 (v1004.1.map eBlock)), (1600, .row true 3 (v1003.map eBlock)), (1152, .row true 3 (v1002.1.map eBlock)), (960, .row true 3 (v1001.map eBlock))] true (con_laws_eqBlockS e1019) c25_ok (by simp [g1010, g1014, List.take_of_length_le]) rfl ?_
                        refine qp (AB (!v1019)) rfl (qp (AB (!v1019)) rfl ?_)
                        refine q_case 99 hF rfl (fun hF => ?_) (fun hF => ?_)
                        ·
                          refine qn rfl (qn rfl (qn rfl (qp (AB true) rfl ?_)))
                          refine r_nil ?_
                          refine w_true rfl ?_
                          refine w_reg_seq 6528 6592 rfl rfl ?_
                          refine qp (AB false) rfl ?_
                          refine r_nil ?_
                          refine w_ret ?_
                          refine thenQ_r ?_
                          cases hF
                          exact endQ_r rfl (.inl ⟨_, _, by first | rfl | (simp [List.take_of_length_le]; first | exact ⟨rfl, rfl⟩ | rfl), by simp, by first | rfl | simp [res_laws_FnExactDropBlock, List.take_of_length_le, g1010, g1014]⟩)
                        ·
                          refine qg (AI v1017.2) rfl rfl (qg (AI v1002.2) rfl rfl (qg (AB (decide (v1017.2 ≠ v1002.2))) rfl rfl (qp (AB (decide (v1017.2 ≠ v1002.2))) rfl ?_)))
                          refine r_nil ?_
                          refine w_condF hF rfl (fun hF => ?_) (fun hF => ?_)
                          ·
                            refine w_reg_seq 6528 6592 rfl rfl ?_
                            refine qp (AB false) rfl ?_
                            refine r_nil ?_
                            refine w_ret ?_
                            refine thenQ_r ?_
                            cases hF
                            exact endQ_r rfl (.inl ⟨_, _, by first | rfl | (simp [List.take_of_length_le]; first | exact ⟨rfl, rfl⟩ | rfl), by simp, by first | rfl | simp [res_laws_FnExactDropBlock, List.take_of_length_le, g1010, g1014]⟩)
                          ·
                            refine w_skip ?_
                            refine thenQ_n ?_
                            refine w_reg_seq 6528 6592 rfl rfl ?_
                            refine qp (AI 1) rfl ?_
                            refine r_nil ?_
                            refine w_reg_seq 6592 6848 rfl rfl ?_
                            refine qp (.sl 1920 0 v1004.1.length) rfl (qp (AI 1) rfl ?_)
                            obtain ⟨v1020, e1020, hF⟩ := bind_get hF
                            refine qc (AI v1020) [(5568, .row true 3 (v1017.1.map eBlock)), (5376, .row true 3 (v1016.map eBlock)), (1920, .row true 3 (v1013.1.map eBlock)), (1600, .row true 3 (v1009.1.map eBlock)), (3008, .row true 3 (v1007.map eBlock)), (1920, .row true 3 (v1004.1.map eBlock)), (1600, .row true 3 (v1003.map eBlock)), (1152, .row true 3 (v1002.1.map eBlock)), (960, .row true 3 (v1001.map eBlock))] true (con_laws_heldBlockS e1020) c27_ok (by simp [g1010, g1014, List.take_of_length_le]) rfl ?_
                            refine qp (AI v1020) rfl ?_
                            refine r_nil ?_
                            refine w_seq ?_
                            refine w_reg_seq 6848 6976 rfl rfl ?_
                            refine qp (AI v1020) rfl (qp (AB (decide (v1020 < (0 : Int)))) rfl ?_)
                            refine r_nil ?_
                            refine w_condF hF rfl (fun hF => ?_) (fun hF => ?_)
                            ·
                              refine w_reg_seq 6976 7040 rfl rfl ?_
                              refine qp (AB false) rfl ?_
                              refine r_nil ?_
                              refine w_ret ?_
                              refine thenQ_r ?_
                              cases hF
                              exact endQ_r rfl (.inl ⟨_, _, by first | rfl | (simp [List.take_of_length_le]; first | exact ⟨rfl, rfl⟩ | rfl), by simp, by first | rfl | simp [res_laws_FnExactDropBlock, List.take_of_length_le, g1010, g1014]⟩)
                            ·
                              refine w_skip ?_
                              refine thenQ_n ?_
                              refine w_seq ?_
                              refine w_reg_seq 6976 7168 rfl rfl ?_
                              refine qp (AI v1020) rfl (qp (AI v1013.2) rfl (qp (AB (decide (v1020 ≠ v1013.2))) rfl ?_))
                              refine r_nil ?_
                              refine w_condF hF rfl (fun hF => ?_) (fun hF => ?_)
                              ·
                                refine w_reg_seq 7168 7232 rfl rfl ?_
                                refine qp (AB false) rfl ?_
                                refine r_nil ?_
                                refine w_ret ?_
                                refine thenQ_r ?_
                                cases hF
                                exact endQ_r rfl (.inl ⟨_, _, by first | rfl | (simp [List.take_of_length_le]; first | exact ⟨rfl, rfl⟩ | rfl), by simp, by first | rfl | simp [res_laws_FnExactDropBlock, List.take_of_length_le, g1010, g1014]⟩)
                              ·
                                refine w_skip ?_
                                refine thenQ_n ?_
                                refine w_reg_seq 7168 7232 rfl rfl ?_
                                refine qp (AB true) rfl ?_
                                refine r_nil ?_
                                refine w_ret ?_
                                cases hF
                                exact endQ_r rfl (.inl ⟨_, _, by first | rfl | (simp [List.take_of_length_le]; first | exact ⟨rfl, rfl⟩ | rfl), by simp, by first | rfl | simp [res_laws_FnExactDropBlock, List.take_of_length_le, g1010, g1014]⟩)

end Go.Ab
