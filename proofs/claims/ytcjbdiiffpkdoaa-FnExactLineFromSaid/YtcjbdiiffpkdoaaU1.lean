/- Walks (printed by auto.py, a program of this session's own). -/
import Derived.Test.YtcjbdiiffpkdoaaU0
import Derived.Test.YtcjbdiiffpkdoaaProg
import Derived.KernelRfl
set_option linter.unusedVariables false
set_option linter.unusedSimpArgs false
namespace Go.Ab
open Go.RowKit Go.Proofs

def c12 : MC := (.seq (.reg [⟨(some 4), none, (.p true (.mv (.c (.bool false))))⟩]) (.seq (.seq (.reg [⟨(some 16), none, (.p true (.mv (.t 1)))⟩, ⟨(some 17), none, (.p true (.lens (.t 16)))⟩, ⟨(some 18), none, (.p true (.bin .gtr (.t 17) (.c (.int .i64 1048576))))⟩]) (.cond (.t 18) (.seq (.reg [⟨(some 4), none, (.p true (.mv (.c (.bool true))))⟩]) .ret) .skip)) (.seq (.reg [⟨(some 5), none, (.p true (.mv (.c (.int .i64 1048576))))⟩]) (.seq (.reg [⟨(some 19), none, (.p true (.mv (.t 0)))⟩, ⟨(some 20), none, (.p true (.mv (.t 5)))⟩, ⟨(some 21), none, (.call true 35 [(.t 19), (.t 20)])⟩, ⟨(some 5), none, (.p true (.mv (.t 21)))⟩]) (.seq (.seq (.reg [⟨(some 22), none, (.p true (.mv (.t 5)))⟩, ⟨(some 23), none, (.p true (.bin .lss (.t 22) (.c (.int .i64 0))))⟩]) (.cond (.t 23) (.seq (.reg [⟨(some 4), none, (.p true (.mv (.c (.bool true))))⟩]) .ret) .skip)) (.seq (.reg [⟨(some 25), none, (.p true (.mv (.t 0)))⟩, ⟨(some 26), none, (.call true 37 [(.t 25)])⟩, ⟨(some 27), none, (.p true (.mv (.t 1)))⟩, ⟨(some 28), none, (.call true 53 [(.t 26), (.t 27)])⟩, ⟨(some 24), none, (.p true (.mv (.t 28)))⟩, ⟨(some 29), none, (.p true (.ext (.t 24) 0))⟩, ⟨(some 30), none, (.p true (.ext (.t 24) 1))⟩, ⟨(some 6), none, (.p true (.mv (.t 29)))⟩, ⟨(some 7), none, (.p true (.mv (.t 30)))⟩]) (.seq (.reg [⟨(some 31), none, (.p true (.mv (.t 0)))⟩, ⟨(some 32), none, (.call true 37 [(.t 31)])⟩, ⟨(some 8), none, (.p true (.mv (.t 32)))⟩]) (.seq (.reg [⟨(some 34), none, (.p true (.mv (.t 8)))⟩, ⟨(some 35), none, (.p true (.mv (.t 1)))⟩, ⟨(some 36), none, (.call true 54 [(.t 34), (.t 35)])⟩, ⟨(some 33), none, (.p true (.mv (.t 36)))⟩, ⟨(some 37), none, (.p true (.ext (.t 33) 0))⟩, ⟨(some 38), none, (.p true (.ext (.t 33) 1))⟩, ⟨(some 9), none, (.p true (.mv (.t 37)))⟩, ⟨(some 10), none, (.p true (.mv (.t 38)))⟩]) (.seq (.seq (.reg [⟨(some 39), none, (.p true (.mv (.t 9)))⟩, ⟨(some 40), none, (.p true (.mv (.t 6)))⟩, ⟨(some 41), none, (.call true 55 [(.t 39), (.t 40)])⟩, ⟨(some 42), none, (.p true (.not (.t 41)))⟩, ⟨(some 43), none, (.p true (.mv (.t 42)))⟩, ⟨(some 44), (some (43, false)), (.p true (.mv (.t 10)))⟩, ⟨(some 45), (some (43, false)), (.p true (.mv (.t 7)))⟩, ⟨(some 46), (some (43, false)), (.p true (.bin .neq (.t 44) (.t 45)))⟩, ⟨(some 47), none, (.p true (.pick (.t 43) (.c (.bool true)) (.t 46)))⟩]) (.cond (.t 47) (.seq (.reg [⟨(some 4), none, (.p true (.mv (.c (.bool false))))⟩]) .ret) .skip)) (.seq (.seq (.reg [⟨(some 48), none, (.p true (.mv (.t 8)))⟩, ⟨(some 49), none, (.p true (.mv (.t 0)))⟩, ⟨(some 50), none, (.call true 37 [(.t 49)])⟩, ⟨(some 51), none, (.call true 39 [(.t 48), (.t 50)])⟩, ⟨(some 52), none, (.p true (.not (.t 51)))⟩]) (.cond (.t 52) (.seq (.reg [⟨(some 4), none, (.p true (.mv (.c (.bool false))))⟩]) .ret) .skip)) (.seq (.reg [⟨(some 11), none, (.p true (.mv (.c (.int .i64 1))))⟩]) (.seq (.reg [⟨(some 53), none, (.p true (.mv (.t 8)))⟩, ⟨(some 54), none, (.p true (.mv (.t 11)))⟩, ⟨(some 55), none, (.call true 56 [(.t 53), (.t 54)])⟩, ⟨(some 11), none, (.p true (.mv (.t 55)))⟩]) (.seq (.seq (.reg [⟨(some 56), none, (.p true (.mv (.t 11)))⟩, ⟨(some 57), none, (.p true (.bin .lss (.t 56) (.c (.int .i64 0))))⟩, ⟨(some 58), none, (.p true (.mv (.t 57)))⟩, ⟨(some 59), (some (58, false)), (.p true (.mv (.t 9)))⟩, ⟨(some 60), (some (58, false)), (.p true (.mv (.t 6)))⟩, ⟨(some 61), (some (58, false)), (.call true 55 [(.t 59), (.t 60)])⟩, ⟨(some 62), (some (58, false)), (.p true (.not (.t 61)))⟩, ⟨(some 63), none, (.p true (.pick (.t 58) (.c (.bool true)) (.t 62)))⟩, ⟨(some 64), none, (.p true (.mv (.t 63)))⟩, ⟨(some 65), (some (64, false)), (.p true (.mv (.t 10)))⟩, ⟨(some 66), (some (64, false)), (.p true (.mv (.t 7)))⟩, ⟨(some 67), (some (64, false)), (.p true (.bin .neq (.t 65) (.t 66)))⟩, ⟨(some 68), none, (.p true (.pick (.t 64) (.c (.bool true)) (.t 67)))⟩]) (.cond (.t 68) (.seq (.reg [⟨(some 4), none, (.p true (.mv (.c (.bool false))))⟩]) .ret) .skip)) (.seq (.reg [⟨(some 12), none, (.p true (.mv (.c (.int .i64 1))))⟩]) (.seq (.reg [⟨(some 69), none, (.p true (.mv (.t 9)))⟩, ⟨(some 70), none, (.p true (.mv (.t 12)))⟩, ⟨(some 71), none, (.call true 57 [(.t 69), (.t 70)])⟩, ⟨(some 12), none, (.p true (.mv (.t 71)))⟩]) (.seq (.reg [⟨(some 13), none, (.p true (.mv (.c (.int .i64 1))))⟩]) (.seq (.reg [⟨(some 72), none, (.p true (.mv (.t 9)))⟩, ⟨(some 73), none, (.p true (.mv (.t 13)))⟩, ⟨(some 74), none, (.call true 58 [(.t 72), (.t 73)])⟩, ⟨(some 13), none, (.p true (.mv (.t 74)))⟩]) (.seq (.seq (.reg [⟨(some 75), none, (.p true (.mv (.t 13)))⟩, ⟨(some 76), none, (.p true (.bin .lss (.t 75) (.c (.int .i64 0))))⟩]) (.cond (.t 76) (.seq (.reg [⟨(some 4), none, (.p true (.mv (.c (.bool false))))⟩]) .ret) .skip)) (.seq (.seq (.reg [⟨(some 77), none, (.p true (.mv (.t 13)))⟩, ⟨(some 78), none, (.p true (.mv (.t 12)))⟩, ⟨(some 79), none, (.p true (.bin .neq (.t 77) (.t 78)))⟩]) (.cond (.t 79) (.seq (.reg [⟨(some 4), none, (.p true (.mv (.c (.bool false))))⟩]) .ret) .skip)) (.seq (.reg [⟨(some 81), none, (.p true (.mv (.t 0)))⟩, ⟨(some 82), none, (.call true 37 [(.t 81)])⟩, ⟨(some 83), none, (.p true (.mv (.t 1)))⟩, ⟨(some 84), none, (.call true 54 [(.t 82), (.t 83)])⟩, ⟨(some 80), none, (.p true (.mv (.t 84)))⟩, ⟨(some 85), none, (.p true (.ext (.t 80) 0))⟩, ⟨(some 86), none, (.p true (.ext (.t 80) 1))⟩, ⟨(some 14), none, (.p true (.mv (.t 85)))⟩, ⟨(some 15), none, (.p true (.mv (.t 86)))⟩]) (.seq (.seq (.reg [⟨(some 87), none, (.p true (.mv (.t 14)))⟩, ⟨(some 88), none, (.p true (.mv (.t 6)))⟩, ⟨(some 89), none, (.call true 55 [(.t 87), (.t 88)])⟩, ⟨(some 90), none, (.p true (.not (.t 89)))⟩, ⟨(some 91), none, (.p true (.mv (.t 90)))⟩, ⟨(some 92), (some (91, false)), (.p true (.mv (.t 15)))⟩, ⟨(some 93), (some (91, false)), (.p true (.mv (.t 7)))⟩, ⟨(some 94), (some (91, false)), (.p true (.bin .neq (.t 92) (.t 93)))⟩, ⟨(some 95), none, (.p true (.pick (.t 91) (.c (.bool true)) (.t 94)))⟩]) (.cond (.t 95) (.seq (.reg [⟨(some 4), none, (.p true (.mv (.c (.bool false))))⟩]) .ret) .skip)) (.seq (.reg [⟨(some 13), none, (.p true (.mv (.c (.int .i64 1))))⟩]) (.seq (.reg [⟨(some 96), none, (.p true (.mv (.t 9)))⟩, ⟨(some 97), none, (.p true (.mv (.t 13)))⟩, ⟨(some 98), none, (.call true 58 [(.t 96), (.t 97)])⟩, ⟨(some 13), none, (.p true (.mv (.t 98)))⟩]) (.seq (.seq (.reg [⟨(some 99), none, (.p true (.mv (.t 13)))⟩, ⟨(some 100), none, (.p true (.bin .lss (.t 99) (.c (.int .i64 0))))⟩]) (.cond (.t 100) (.seq (.reg [⟨(some 4), none, (.p true (.mv (.c (.bool false))))⟩]) .ret) .skip)) (.seq (.seq (.reg [⟨(some 101), none, (.p true (.mv (.t 13)))⟩, ⟨(some 102), none, (.p true (.mv (.t 12)))⟩, ⟨(some 103), none, (.p true (.bin .neq (.t 101) (.t 102)))⟩]) (.cond (.t 103) (.seq (.reg [⟨(some 4), none, (.p true (.mv (.c (.bool false))))⟩]) .ret) .skip)) (.seq (.reg [⟨(some 4), none, (.p true (.mv (.c (.bool true))))⟩]) .ret))))))))))))))))))))))))))
theorem c12_is : compFn Try.prog 12 = some (c12, [(.tmp 4)]) := by kernel_rfl
theorem c12_ok : okFn Try.prog 12 = true := by kernel_rfl

def F_laws_FnExactLineFrom (v0 : List TPerson) (v1 : List UInt8) : Option (Bool) :=
  (bif (decide ((1048576 : Int) < (v1.length : Int))) then some true
  else ((F_laws_szPersonS v0 1048576).bind fun v1000 => (bif (decide (v1000 < (0 : Int))) then some true
  else ((F_laws_toPersonS v0).bind fun v1001 => ((F_spec_LineFrom v1001 v1).bind fun v1002 => ((F_laws_toPersonS v0).bind fun v1003 => ((F_impl_LineFrom v1003 v1).bind fun v1004 => ((F_laws_eqStringS v1004.1 v1002.1).bind fun v1006 => (bif (!v1006) then some false
  else (bif (decide (v1004.2 ≠ v1002.2)) then some false
  else ((F_laws_toPersonS v0).bind fun v1007 => ((F_laws_eqPersonS v1003 v1007).bind fun v1008 => (bif (!v1008) then some false
  else ((F_laws_markPersonS v1003 1).bind fun v1009 => need (v1009.1.length = v1003.length) ((bif (decide (v1009.2 < (0 : Int))) then some false
  else ((F_laws_eqStringS v1004.1 v1002.1).bind fun v1012 => (bif (!v1012) then some false
  else (bif (decide (v1004.2 ≠ v1002.2)) then some false
  else ((F_laws_markStringS v1004.1 1).bind fun v1013 => need (v1013.1.length = v1004.1.length) (((F_laws_heldStringS v1013.1 1).bind fun v1015 => (bif (decide (v1015 < (0 : Int))) then some false
  else (bif (decide (v1015 ≠ v1013.2)) then some false
  else ((F_laws_toPersonS v0).bind fun v1016 => ((F_impl_LineFrom v1016 v1).bind fun v1017 => ((F_laws_eqStringS v1017.1 v1002.1).bind fun v1019 => (bif (!v1019) then some false
  else (bif (decide (v1017.2 ≠ v1002.2)) then some false
  else ((F_laws_heldStringS v1013.1 1).bind fun v1020 => (bif (decide (v1020 < (0 : Int))) then some false
  else (bif (decide (v1020 ≠ v1013.2)) then some false
  else some true))))))))))))))))))))))))))))))))
@[simp] def res_laws_FnExactLineFrom (r : Bool) : RV := .one (.one (.val (.bool r)))
theorem con_laws_FnExactLineFrom {v0 : List TPerson} {v1 : List UInt8} {r : Bool} (hF : F_laws_FnExactLineFrom v0 v1 = some r) : Con Try.prog 12 [.sl 3 (v0.map ePerson), .str v1] (res_laws_FnExactLineFrom r) := by
  unfold F_laws_FnExactLineFrom at hF
  refine con_of c12_is fun N => ?_
  refine w_reg_seq 0 64 rfl rfl ?_
  refine qp (AB false) rfl ?_
  refine r_nil ?_
  refine w_seq ?_
  refine w_reg_seq 64 256 rfl rfl ?_
  refine qp (AS v1) rfl (qp (AI (v1.length : Int)) rfl (qp (AB (decide ((1048576 : Int) < (v1.length : Int)))) rfl ?_))
  refine r_nil ?_
  refine w_condF hF rfl (fun hF => ?_) (fun hF => ?_)
  ·
    refine w_reg_seq 256 320 rfl rfl ?_
    refine qp (AB true) rfl ?_
    refine r_nil ?_
    refine w_ret ?_
    refine thenQ_r ?_
    cases hF
    exact endQ_r rfl (.inl ⟨_, _, by first | rfl | (simp [List.take_of_length_le]; first | exact ⟨rfl, rfl⟩ | rfl), by simp, by first | rfl | simp [res_laws_FnExactLineFrom, List.take_of_length_le]⟩)
  ·
    refine w_skip ?_
    refine thenQ_n ?_
    refine w_reg_seq 256 320 rfl rfl ?_
    refine qp (AI 1048576) rfl ?_
    refine r_nil ?_
    refine w_reg_seq 320 576 rfl rfl ?_
    refine qp (.val none (.sl 3 (v0.map ePerson))) rfl (qp (AI 1048576) rfl ?_)
    obtain ⟨v1000, e1000, hF⟩ := bind_get hF
    refine qc (AI v1000) [] false (con_laws_szPersonS e1000) c35_ok (by first | rfl | simp) rfl ?_
    refine qp (AI v1000) rfl ?_
    refine r_nil ?_
    refine w_seq ?_
    refine w_reg_seq 576 704 rfl rfl ?_
    refine qp (AI v1000) rfl (qp (AB (decide (v1000 < (0 : Int)))) rfl ?_)
    refine r_nil ?_
    refine w_condF hF rfl (fun hF => ?_) (fun hF => ?_)
    ·
      refine w_reg_seq 704 768 rfl rfl ?_
      refine qp (AB true) rfl ?_
      refine r_nil ?_
      refine w_ret ?_
      refine thenQ_r ?_
      cases hF
      exact endQ_r rfl (.inl ⟨_, _, by first | rfl | (simp [List.take_of_length_le]; first | exact ⟨rfl, rfl⟩ | rfl), by simp, by first | rfl | simp [res_laws_FnExactLineFrom, List.take_of_length_le]⟩)
    ·
      refine w_skip ?_
      refine thenQ_n ?_
      refine w_reg_seq 704 1280 rfl rfl ?_
      refine qp (.val none (.sl 3 (v0.map ePerson))) rfl ?_
      obtain ⟨v1001, e1001, hF⟩ := bind_get hF
      refine qc (.sl 768 0 v1001.length) [(768, .row true 3 (v1001.map ePerson))] false (con_laws_toPersonS e1001) c37_ok (by first | rfl | simp) (by simp [res_laws_toPersonS]) ?_
      refine qp (AS v1) rfl ?_
      obtain ⟨v1002, e1002, hF⟩ := bind_get hF
      refine qc (.tup [.sl 896 0 v1002.1.length, AI v1002.2]) [(896, .row true 1 (v1002.1.map V.str)), (768, .row true 3 (v1001.map ePerson))] true (con_spec_LineFrom e1002) c53_ok (by simp [List.take_of_length_le]) (by simp [res_spec_LineFrom]) ?_
      refine qp (.tup [.sl 896 0 v1002.1.length, AI v1002.2]) rfl (qp (.sl 896 0 v1002.1.length) rfl (qp (AI v1002.2) rfl (qp (.sl 896 0 v1002.1.length) rfl (qp (AI v1002.2) rfl ?_))))
      refine r_nil ?_
      refine w_reg_seq 1280 1472 rfl rfl ?_
      refine qp (.val none (.sl 3 (v0.map ePerson))) rfl ?_
      obtain ⟨v1003, e1003, hF⟩ := bind_get hF
      refine qc (.sl 1344 0 v1003.length) [(1344, .row true 3 (v1003.map ePerson)), (896, .row true 1 (v1002.1.map V.str)), (768, .row true 3 (v1001.map ePerson))] false (con_laws_toPersonS e1003) c37_ok (by first | rfl | simp) (by simp [res_laws_toPersonS]) ?_
      refine qp (.sl 1344 0 v1003.length) rfl ?_
      refine r_nil ?_
      refine w_reg_seq 1472 1984 rfl rfl ?_
      refine qp (.sl 1344 0 v1003.length) rfl (qp (AS v1) rfl ?_)
      obtain ⟨v1004, e1004, hF⟩ := bind_get hF
      refine qc (.tup [.sl 1600 0 v1004.1.length, AI v1004.2]) [(1600, .row true 1 (v1004.1.map V.str)), (1344, .row true 3 (v1003.map ePerson)), (896, .row true 1 (v1002.1.map V.str)), (768, .row true 3 (v1001.map ePerson))] true (con_impl_LineFrom e1004) c54_ok (by simp [List.take_of_length_le]) (by simp [res_impl_LineFrom]) ?_
      refine qp (.tup [.sl 1600 0 v1004.1.length, AI v1004.2]) rfl (qp (.sl 1600 0 v1004.1.length) rfl (qp (AI v1004.2) rfl (qp (.sl 1600 0 v1004.1.length) rfl (qp (AI v1004.2) rfl ?_))))
      refine r_nil ?_
      refine w_seq ?_
      refine w_reg_seq 1984 2560 rfl rfl ?_
      refine qp (.sl 1600 0 v1004.1.length) rfl (qp (.sl 896 0 v1002.1.length) rfl ?_)
      obtain ⟨v1006, e1006, hF⟩ := bind_get hF
      refine qc (AB v1006) [(1600, .row true 1 (v1004.1.map V.str)), (1344, .row true 3 (v1003.map ePerson)), (896, .row true 1 (v1002.1.map V.str)), (768, .row true 3 (v1001.map ePerson))] true (con_laws_eqStringS e1006) c55_ok (by simp [List.take_of_length_le]) rfl ?_
      refine qp (AB (!v1006)) rfl (qp (AB (!v1006)) rfl ?_)
      refine q_case 43 hF rfl (fun hF => ?_) (fun hF => ?_)
      ·
        refine qn rfl (qn rfl (qn rfl (qp (AB true) rfl ?_)))
        refine r_nil ?_
        refine w_true rfl ?_
        refine w_reg_seq 2560 2624 rfl rfl ?_
        refine qp (AB false) rfl ?_
        refine r_nil ?_
        refine w_ret ?_
        refine thenQ_r ?_
        cases hF
        exact endQ_r rfl (.inl ⟨_, _, by first | rfl | (simp [List.take_of_length_le]; first | exact ⟨rfl, rfl⟩ | rfl), by simp, by first | rfl | simp [res_laws_FnExactLineFrom, List.take_of_length_le]⟩)
      ·
        refine qg (AI v1004.2) rfl rfl (qg (AI v1002.2) rfl rfl (qg (AB (decide (v1004.2 ≠ v1002.2))) rfl rfl (qp (AB (decide (v1004.2 ≠ v1002.2))) rfl ?_)))
        refine r_nil ?_
        refine w_condF hF rfl (fun hF => ?_) (fun hF => ?_)
        ·
          refine w_reg_seq 2560 2624 rfl rfl ?_
          refine qp (AB false) rfl ?_
          refine r_nil ?_
          refine w_ret ?_
          refine thenQ_r ?_
          cases hF
          exact endQ_r rfl (.inl ⟨_, _, by first | rfl | (simp [List.take_of_length_le]; first | exact ⟨rfl, rfl⟩ | rfl), by simp, by first | rfl | simp [res_laws_FnExactLineFrom, List.take_of_length_le]⟩)
        ·
          refine w_skip ?_
          refine thenQ_n ?_
          refine w_seq ?_
          refine w_reg_seq 2560 2880 rfl rfl ?_
          refine qp (.sl 1344 0 v1003.length) rfl (qp (.val none (.sl 3 (v0.map ePerson))) rfl ?_)
          obtain ⟨v1007, e1007, hF⟩ := bind_get hF
          refine qc (.sl 2688 0 v1007.length) [(2688, .row true 3 (v1007.map ePerson)), (1600, .row true 1 (v1004.1.map V.str)), (1344, .row true 3 (v1003.map ePerson)), (896, .row true 1 (v1002.1.map V.str)), (768, .row true 3 (v1001.map ePerson))] false (con_laws_toPersonS e1007) c37_ok (by first | rfl | simp) (by simp [res_laws_toPersonS]) ?_
          obtain ⟨v1008, e1008, hF⟩ := bind_get hF
          refine qc (AB v1008) [(2688, .row true 3 (v1007.map ePerson)), (1600, .row true 1 (v1004.1.map V.str)), (1344, .row true 3 (v1003.map ePerson)), (896, .row true 1 (v1002.1.map V.str)), (768, .row true 3 (v1001.map ePerson))] true (con_laws_eqPersonS e1008) c39_ok (by simp [List.take_of_length_le]) rfl ?_
          refine qp (AB (!v1008)) rfl ?_
          refine r_nil ?_
          refine w_condF hF rfl (fun hF => ?_) (fun hF => ?_)
          ·
            refine w_reg_seq 2880 2944 rfl rfl ?_
            refine qp (AB false) rfl ?_
            refine r_nil ?_
            refine w_ret ?_
            refine thenQ_r ?_
            cases hF
            exact endQ_r rfl (.inl ⟨_, _, by first | rfl | (simp [List.take_of_length_le]; first | exact ⟨rfl, rfl⟩ | rfl), by simp, by first | rfl | simp [res_laws_FnExactLineFrom, List.take_of_length_le]⟩)
          ·
            refine w_skip ?_
            refine thenQ_n ?_
            refine w_reg_seq 2880 2944 rfl rfl ?_
            refine qp (AI 1) rfl ?_
            refine r_nil ?_
            refine w_reg_seq 2944 3200 rfl rfl ?_
            refine qp (.sl 1344 0 v1003.length) rfl (qp (AI 1) rfl ?_)
            obtain ⟨v1009, e1009, hF⟩ := bind_get hF
            obtain ⟨g1010, hF⟩ := need_some hF
            refine qm (ls := [1344]) [(1344, .row true 3 (v1009.1.map ePerson)), (2688, .row true 3 (v1007.map ePerson)), (1600, .row true 1 (v1004.1.map V.str)), (1344, .row true 3 (v1003.map ePerson)), (896, .row true 1 (v1002.1.map V.str)), (768, .row true 3 (v1001.map ePerson))] (con_laws_markPersonS e1009) c56_ok (by first | rfl | simp [takeM, takeML, takeM1, g1010]) (by decide) (by simp [like2, likeL, like1, g1010]) rfl rfl rfl (by simp [scrO_fo, newO2, newO, scrR, scrA, scrAs]) ?_
            refine qp (AI v1009.2) rfl ?_
            refine r_nil ?_
            refine w_seq ?_
            refine w_reg_seq 3200 4032 rfl rfl ?_
            refine qp (AI v1009.2) rfl (qp (AB (decide (v1009.2 < (0 : Int)))) rfl (qp (AB (decide (v1009.2 < (0 : Int)))) rfl ?_))
            refine q_case 58 hF rfl (fun hF => ?_) (fun hF => ?_)
            ·
              refine qn rfl (qn rfl (qn rfl (qn rfl (qp (AB true) rfl (qp (AB true) rfl (qn rfl (qn rfl ?_)))))))
              refine qn rfl (qp (AB true) rfl ?_)
              refine r_nil ?_
              refine w_true rfl ?_
              refine w_reg_seq 4032 4096 rfl rfl ?_
              refine qp (AB false) rfl ?_
              refine r_nil ?_
              refine w_ret ?_
              refine thenQ_r ?_
              cases hF
              exact endQ_r rfl (.inl ⟨_, _, by first | rfl | (simp [List.take_of_length_le]; first | exact ⟨rfl, rfl⟩ | rfl), by simp, by first | rfl | simp [res_laws_FnExactLineFrom, List.take_of_length_le, g1010]⟩)
            ·
              refine qg (.sl 1600 0 v1004.1.length) rfl rfl (qg (.sl 896 0 v1002.1.length) rfl rfl ?_)
              obtain ⟨v1012, e1012, hF⟩ := bind_get hF
              refine qcg (AB v1012) [(1344, .row true 3 (v1009.1.map ePerson)), (2688, .row true 3 (v1007.map ePerson)), (1600, .row true 1 (v1004.1.map V.str)), (1344, .row true 3 (v1003.map ePerson)), (896, .row true 1 (v1002.1.map V.str)), (768, .row true 3 (v1001.map ePerson))] true rfl (con_laws_eqStringS e1012) c55_ok (by simp [g1010, List.take_of_length_le]) rfl ?_
              refine qg (AB (!v1012)) rfl rfl (qp (AB (!v1012)) rfl (qp (AB (!v1012)) rfl ?_))
              refine q_case 64 hF rfl (fun hF => ?_) (fun hF => ?_)
              ·
                refine qn rfl (qn rfl (qn rfl (qp (AB true) rfl ?_)))
                refine r_nil ?_
                refine w_true rfl ?_
                refine w_reg_seq 4032 4096 rfl rfl ?_
                refine qp (AB false) rfl ?_
                refine r_nil ?_
                refine w_ret ?_
                refine thenQ_r ?_
                cases hF
                exact endQ_r rfl (.inl ⟨_, _, by first | rfl | (simp [List.take_of_length_le]; first | exact ⟨rfl, rfl⟩ | rfl), by simp, by first | rfl | simp [res_laws_FnExactLineFrom, List.take_of_length_le, g1010]⟩)
              ·
                refine qg (AI v1004.2) rfl rfl (qg (AI v1002.2) rfl rfl (qg (AB (decide (v1004.2 ≠ v1002.2))) rfl rfl (qp (AB (decide (v1004.2 ≠ v1002.2))) rfl ?_)))
                refine r_nil ?_
                refine w_condF hF rfl (fun hF => ?_) (fun hF => ?_)
                ·
                  refine w_reg_seq 4032 4096 rfl rfl ?_
                  refine qp (AB false) rfl ?_
                  refine r_nil ?_
                  refine w_ret ?_
                  refine thenQ_r ?_
                  cases hF
                  exact endQ_r rfl (.inl ⟨_, _, by first | rfl | (simp [List.take_of_length_le]; first | exact ⟨rfl, rfl⟩ | rfl), by simp, by first | rfl | simp [res_laws_FnExactLineFrom, List.take_of_length_le, g1010]⟩)
                ·
                  refine w_skip ?_
                  refine thenQ_n ?_
                  refine w_reg_seq 4032 4096 rfl rfl ?_
                  refine qp (AI 1) rfl ?_
                  refine r_nil ?_
                  refine w_reg_seq 4096 4352 rfl rfl ?_
                  refine qp (.sl 1600 0 v1004.1.length) rfl (qp (AI 1) rfl ?_)
                  obtain ⟨v1013, e1013, hF⟩ := bind_get hF
                  obtain ⟨g1014, hF⟩ := need_some hF
                  refine qm (ls := [1600]) [(1600, .row true 1 (v1013.1.map V.str)), (1344, .row true 3 (v1009.1.map ePerson)), (2688, .row true 3 (v1007.map ePerson)), (1600, .row true 1 (v1004.1.map V.str)), (1344, .row true 3 (v1003.map ePerson)), (896, .row true 1 (v1002.1.map V.str)), (768, .row true 3 (v1001.map ePerson))] (con_laws_markStringS e1013) c57_ok (by first | rfl | simp [takeM, takeML, takeM1, g1010, g1014]) (by decide) (by simp [like2, likeL, like1, g1014]) rfl rfl rfl (by simp [scrO_fo, newO2, newO, scrR, scrA, scrAs]) ?_
                  refine qp (AI v1013.2) rfl ?_
                  refine r_nil ?_
                  refine w_reg_seq 4352 4416 rfl rfl ?_
                  refine qp (AI 1) rfl ?_
                  refine r_nil ?_
                  refine w_reg_seq 4416 4672 rfl rfl ?_
                  refine qp (.sl 1600 0 v1004.1.length) rfl (qp (AI 1) rfl ?_)
                  obtain ⟨v1015, e1015, hF⟩ := bind_get hF
                  refine qc (AI v1015) [(1600, .row true 1 (v1013.1.map V.str)), (1344, .row true 3 (v1009.1.map ePerson)), (2688, .row true 3 (v1007.map ePerson)), (1600, .row true 1 (v1004.1.map V.str)), (1344, .row true 3 (v1003.map ePerson)), (896, .row true 1 (v1002.1.map V.str)), (768, .row true 3 (v1001.map ePerson))] true (con_laws_heldStringS e1015) c58_ok (by simp [g1010, g1014, List.take_of_length_le]) rfl ?_
                  refine qp (AI v1015) rfl ?_
                  refine r_nil ?_
                  refine w_seq ?_
                  refine w_reg_seq 4672 4800 rfl rfl ?_
                  refine qp (AI v1015) rfl (qp (AB (decide (v1015 < (0 : Int)))) rfl ?_)
                  refine r_nil ?_
                  refine w_condF hF rfl (fun hF => ?_) (fun hF => ?_)
                  ·
                    refine w_reg_seq 4800 4864 rfl rfl ?_
                    refine qp (AB false) rfl ?_
                    refine r_nil ?_
                    refine w_ret ?_
                    refine thenQ_r ?_
                    cases hF
                    exact endQ_r rfl (.inl ⟨_, _, by first | rfl | (simp [List.take_of_length_le]; first | exact ⟨rfl, rfl⟩ | rfl), by simp, by first | rfl | simp [res_laws_FnExactLineFrom, List.take_of_length_le, g1010, g1014]⟩)
                  ·
                    refine w_skip ?_
                    refine thenQ_n ?_
                    refine w_seq ?_
                    refine w_reg_seq 4800 4992 rfl rfl ?_
                    refine qp (AI v1015) rfl (qp (AI v1013.2) rfl (qp (AB (decide (v1015 ≠ v1013.2))) rfl ?_))
                    refine r_nil ?_
                    refine w_condF hF rfl (fun hF => ?_) (fun hF => ?_)
                    ·
                      refine w_reg_seq 4992 5056 rfl rfl ?_
                      refine qp (AB false) rfl ?_
                      refine r_nil ?_
                      refine w_ret ?_
                      refine thenQ_r ?_
                      cases hF
                      exact endQ_r rfl (.inl ⟨_, _, by first | rfl | (simp [List.take_of_length_le]; first | exact ⟨rfl, rfl⟩ | rfl), by simp, by first | rfl | simp [res_laws_FnExactLineFrom, List.take_of_length_le, g1010, g1014]⟩)
                    ·
                      refine w_skip ?_
                      refine thenQ_n ?_
                      refine w_reg_seq 4992 5568 rfl rfl ?_
                      refine qp (.val none (.sl 3 (v0.map ePerson))) rfl ?_
                      obtain ⟨v1016, e1016, hF⟩ := bind_get hF
                      refine qc (.sl 5056 0 v1016.length) [(5056, .row true 3 (v1016.map ePerson)), (1600, .row true 1 (v1013.1.map V.str)), (1344, .row true 3 (v1009.1.map ePerson)), (2688, .row true 3 (v1007.map ePerson)), (1600, .row true 1 (v1004.1.map V.str)), (1344, .row true 3 (v1003.map ePerson)), (896, .row true 1 (v1002.1.map V.str)), (768, .row true 3 (v1001.map ePerson))] false (con_laws_toPersonS e1016) c37_ok (by first | rfl | simp) (by simp [res_laws_toPersonS]) ?_
                      refine qp (AS v1) rfl ?_
                      obtain ⟨v1017, e1017, hF⟩ := bind_get hF
                      refine qc (.tup [.sl 5184 0 v1017.1.length, AI v1017.2]) [(5184, .row true 1 (v1017.1.map V.str)), (5056, .row true 3 (v1016.map ePerson)), (1600, .row true 1 (v1013.1.map V.str)), (1344, .row true 3 (v1009.1.map ePerson)), (2688, .row true 3 (v1007.map ePerson)), (1600, .row true 1 (v1004.1.map V.str)), (1344, .row true 3 (v1003.map ePerson)), (896, .row true 1 (v1002.1.map V.str)), (768, .row true 3 (v1001.map ePerson))] true (con_impl_LineFrom e1017) c54_ok (by simp [g1010, g1014, List.take_of_length_le]) (by simp [res_impl_LineFrom]) ?_
                      refine qp (.tup [.sl 5184 0 v1017.1.length, AI v1017.2]) rfl (qp (.sl 5184 0 v1017.1.length) rfl (qp (AI v1017.2) rfl (qp (.sl 5184 0 v1017.1.length) rfl (qp (AI v1017.2) rfl ?_))))
                      refine r_nil ?_
                      refine w_seq ?_
                      refine w_reg_seq 5568 6144 rfl rfl ?_
                      refine qp (.sl 5184 0 v1017.1.length) rfl (qp (.sl 896 0 v1002.1.length) rfl ?_)
                      obtain ⟨v1019, e1019, hF⟩ := bind_get hF
                      refine qc (AB v1019) [(5184, .row true 1 (v1017.1.map V.str)), (5056, .row true 3 (v1016.map ePerson)), (1600, .row true 1 (v1013.1.map V.str)), (1344, .row true 3 (v1009.1.map ePerson)), (2688, .row true 3 (v1007.map ePerson)), (1600, .row true 1 (v1004.1.map V.str)), (1344, .row true 3 (v1003.map ePerson)), (896, .row true 1 (v1002.1.map V.str)), (768, .row true 3 (v1001.map ePerson))] true (con_laws_eqStringS e1019) c55_ok (by simp [g1010, g1014, List.take_of_length_le]) rfl ?_
                      refine qp (AB (!v1019)) rfl (qp (AB (!v1019)) rfl ?_)
                      refine q_case 91 hF rfl (fun hF => ?_) (fun hF => ?_)
                      ·
                        refine qn rfl (qn rfl (qn rfl (qp (AB true) rfl ?_)))
                        refine r_nil ?_
                        refine w_true rfl ?_
                        refine w_reg_seq 6144 6208 rfl rfl ?_
                        refine qp (AB false) rfl ?_
                        refine r_nil ?_
                        refine w_ret ?_
                        refine thenQ_r ?_
                        cases hF
                        exact endQ_r rfl (.inl ⟨_, _, by first | rfl | (simp [List.take_of_length_le]; first | exact ⟨rfl, rfl⟩ | rfl), by simp, by first | rfl | simp [res_laws_FnExactLineFrom, List.take_of_length_le, g1010, g1014]⟩)
                      ·
                        refine qg (AI v1017.2) rfl rfl (qg (AI v1002.2) rfl rfl (qg (AB (decide (v1017.2 ≠ v1002.2))) rfl rfl (qp (AB (decide (v1017.2 ≠ v1002.2))) rfl ?_)))
                        refine r_nil ?_
                        refine w_condF hF rfl (fun hF => ?_) (fun hF => ?_)
                        ·
                          refine w_reg_seq 6144 6208 rfl rfl ?_
                          refine qp (AB false) rfl ?_
                          refine r_nil ?_
                          refine w_ret ?_
                          refine thenQ_r ?_
                          cases hF
                          exact endQ_r rfl (.inl ⟨_, _, by first | rfl | (simp [List.take_of_length_le]; first | exact ⟨rfl, rfl⟩ | rfl), by simp, by first | rfl | simp [res_laws_FnExactLineFrom, List.take_of_length_le, g1010, g1014]⟩)
                        ·
                          refine w_skip ?_
                          refine thenQ_n ?_
                          refine w_reg_seq 6144 6208 rfl rfl ?_
                          refine qp (AI 1) rfl ?_
                          refine r_nil ?_
                          refine w_reg_seq 6208 6464 rfl rfl ?_
                          refine qp (.sl 1600 0 v1004.1.length) rfl (qp (AI 1) rfl ?_)
                          obtain ⟨v1020, e1020, hF⟩ := bind_get hF
                          refine qc (AI v1020) [(5184, .row true 1 (v1017.1.map V.str)), (5056, .row true 3 (v1016.map ePerson)), (1600, .row true 1 (v1013.1.map V.str)), (1344, .row true 3 (v1009.1.map ePerson)), (2688, .row true 3 (v1007.map ePerson)), (1600, .row true 1 (v1004.1.map V.str)), (1344, .row true 3 (v1003.map ePerson)), (896, .row true 1 (v1002.1.map V.str)), (768, .row true 3 (v1001.map ePerson))] true (con_laws_heldStringS e1020) c58_ok (by simp [g1010, g1014, List.take_of_length_le]) rfl ?_
                          refine qp (AI v1020) rfl ?_
                          refine r_nil ?_
                          refine w_seq ?_
                          refine w_reg_seq 6464 6592 rfl rfl ?_
                          refine qp (AI v1020) rfl (qp (AB (decide (v1020 < (0 : Int)))) rfl ?_)
                          refine r_nil ?_
                          refine w_condF hF rfl (fun hF => ?_) (fun hF => ?_)
                          ·
                            refine w_reg_seq 6592 6656 rfl rfl ?_
                            refine qp (AB false) rfl ?_
                            refine r_nil ?_
                            refine w_ret ?_
                            refine thenQ_r ?_
                            cases hF
                            exact endQ_r rfl (.inl ⟨_, _, by first | rfl | (simp [List.take_of_length_le]; first | exact ⟨rfl, rfl⟩ | rfl), by simp, by first | rfl | simp [res_laws_FnExactLineFrom, List.take_of_length_le, g1010, g1014]⟩)
                          ·
                            refine w_skip ?_
                            refine thenQ_n ?_
                            refine w_seq ?_
                            refine w_reg_seq 6592 6784 rfl rfl ?_
                            refine qp (AI v1020) rfl (qp (AI v1013.2) rfl (qp (AB (decide (v1020 ≠ v1013.2))) rfl ?_))
                            refine r_nil ?_
                            refine w_condF hF rfl (fun hF => ?_) (fun hF => ?_)
                            ·
                              refine w_reg_seq 6784 6848 rfl rfl ?_
                              refine qp (AB false) rfl ?_
                              refine r_nil ?_
                              refine w_ret ?_
                              refine thenQ_r ?_
                              cases hF
                              exact endQ_r rfl (.inl ⟨_, _, by first | rfl | (simp [List.take_of_length_le]; first | exact ⟨rfl, rfl⟩ | rfl), by simp, by first | rfl | simp [res_laws_FnExactLineFrom, List.take_of_length_le, g1010, g1014]⟩)
                            ·
                              refine w_skip ?_
                              refine thenQ_n ?_
                              refine w_reg_seq 6784 6848 rfl rfl ?_
                              refine qp (AB true) rfl ?_
                              refine r_nil ?_
                              refine w_ret ?_
                              cases hF
                              exact endQ_r rfl (.inl ⟨_, _, by first | rfl | (simp [List.take_of_length_le]; first | exact ⟨rfl, rfl⟩ | rfl), by simp, by first | rfl | simp [res_laws_FnExactLineFrom, List.take_of_length_le, g1010, g1014]⟩)

end Go.Ab
