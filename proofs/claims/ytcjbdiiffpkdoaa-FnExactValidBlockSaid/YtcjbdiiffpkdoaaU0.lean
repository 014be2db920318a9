/- Walks (printed by auto.py, a program of this session's own). -/
import Derived.Test.YtcjbdiiffpkdoaaA30
import Derived.Test.YtcjbdiiffpkdoaaProg
import Derived.KernelRfl
set_option linter.unusedVariables false
set_option linter.unusedSimpArgs false
namespace Go.Ab
open Go.RowKit Go.Proofs

abbrev TBlock := (List UInt8) × (List UInt8) × (List UInt8)
@[simp] def eBlock (p : TBlock) : V := .agg [.str p.1, .str p.2.1, .str p.2.2]
def c40 : MC := (.seq (.reg [⟨(some 2), none, (.f (.box (.t 0)))⟩, ⟨(some 4), none, (.p true (.mv (.c (.int .i64 0))))⟩]) (.seq (.reg [⟨(some 5), none, (.p true (.mv (.t 1)))⟩, ⟨(some 6), none, (.p true (.fad (.t 2) 0))⟩, ⟨(some 7), none, (.p true (.ld (.t 6) 1 false))⟩, ⟨(some 8), none, (.p true (.lens (.t 7)))⟩, ⟨(some 9), none, (.p true (.bin .sub (.t 5) (.t 8)))⟩, ⟨(some 1), none, (.p true (.mv (.t 9)))⟩]) (.seq (.seq (.reg [⟨(some 10), none, (.p true (.mv (.t 1)))⟩, ⟨(some 11), none, (.p true (.bin .lss (.t 10) (.c (.int .i64 0))))⟩]) (.cond (.t 11) (.seq (.reg [⟨(some 4), none, (.p true (.mv (.c (.int .i64 (-1)))))⟩]) .ret) .skip)) (.seq (.reg [⟨(some 12), none, (.p true (.mv (.t 1)))⟩, ⟨(some 13), none, (.p true (.fad (.t 2) 1))⟩, ⟨(some 14), none, (.p true (.ld (.t 13) 1 false))⟩, ⟨(some 15), none, (.p true (.lens (.t 14)))⟩, ⟨(some 16), none, (.p true (.bin .sub (.t 12) (.t 15)))⟩, ⟨(some 1), none, (.p true (.mv (.t 16)))⟩]) (.seq (.seq (.reg [⟨(some 17), none, (.p true (.mv (.t 1)))⟩, ⟨(some 18), none, (.p true (.bin .lss (.t 17) (.c (.int .i64 0))))⟩]) (.cond (.t 18) (.seq (.reg [⟨(some 4), none, (.p true (.mv (.c (.int .i64 (-1)))))⟩]) .ret) .skip)) (.seq (.reg [⟨(some 19), none, (.p true (.mv (.t 1)))⟩, ⟨(some 20), none, (.p true (.fad (.t 2) 2))⟩, ⟨(some 21), none, (.p true (.ld (.t 20) 1 false))⟩, ⟨(some 22), none, (.p true (.lens (.t 21)))⟩, ⟨(some 23), none, (.p true (.bin .sub (.t 19) (.t 22)))⟩, ⟨(some 1), none, (.p true (.mv (.t 23)))⟩]) (.seq (.seq (.reg [⟨(some 24), none, (.p true (.mv (.t 1)))⟩, ⟨(some 25), none, (.p true (.bin .lss (.t 24) (.c (.int .i64 0))))⟩]) (.cond (.t 25) (.seq (.reg [⟨(some 4), none, (.p true (.mv (.c (.int .i64 (-1)))))⟩]) .ret) .skip)) (.seq (.reg [⟨(some 26), none, (.p true (.mv (.t 1)))⟩, ⟨(some 4), none, (.p true (.mv (.t 26)))⟩]) .ret))))))))
theorem c40_is : compFn Try.prog 40 = some (c40, [(.tmp 4)]) := by kernel_rfl
theorem c40_ok : okFn Try.prog 40 = true := by kernel_rfl

def F_laws_szBlock (v0 : TBlock) (v1 : Int) : Option (Int) :=
  (bif (decide (w64 (v1 - (v0.1.length : Int)) < (0 : Int))) then some (-1)
  else (bif (decide (w64 ((w64 (v1 - (v0.1.length : Int))) - (v0.2.1.length : Int)) < (0 : Int))) then some (-1)
  else (bif (decide (w64 ((w64 ((w64 (v1 - (v0.1.length : Int))) - (v0.2.1.length : Int))) - (v0.2.2.length : Int)) < (0 : Int))) then some (-1)
  else some (w64 ((w64 ((w64 (v1 - (v0.1.length : Int))) - (v0.2.1.length : Int))) - (v0.2.2.length : Int))))))
@[simp] def res_laws_szBlock (r : Int) : RV := .one (.one (.val (.int .i64 r)))
theorem con_laws_szBlock {v0 : TBlock} {v1 : Int} {r : Int} (hF : F_laws_szBlock v0 v1 = some r) : Con Try.prog 40 [eBlock v0, .int .i64 v1] (res_laws_szBlock r) := by
  unfold F_laws_szBlock at hF
  refine con_of c40_is fun N => ?_
  refine w_reg_seq 0 128 rfl rfl ?_
  refine qf (.ptr 0 0 0) [(0, .box [AS v0.1, AS v0.2.1, AS v0.2.2])] (by simp) ?_
  refine qp (AI 0) rfl ?_
  refine r_nil ?_
  refine w_reg_seq 128 512 rfl rfl ?_
  refine qp (AI v1) rfl (qp (.ptr 0 0 0) rfl (qp (AS v0.1) rfl (qp (AI (v0.1.length : Int)) rfl (qp (AI (w64 (v1 - (v0.1.length : Int)))) rfl (qp (AI (w64 (v1 - (v0.1.length : Int)))) rfl ?_)))))
  refine r_nil ?_
  refine w_seq ?_
  refine w_reg_seq 512 640 rfl rfl ?_
  refine qp (AI (w64 (v1 - (v0.1.length : Int)))) rfl (qp (AB (decide (w64 (v1 - (v0.1.length : Int)) < (0 : Int)))) rfl ?_)
  refine r_nil ?_
  refine w_condF hF rfl (fun hF => ?_) (fun hF => ?_)
  ·
    refine w_reg_seq 640 704 rfl rfl ?_
    refine qp (AI (-1)) rfl ?_
    refine r_nil ?_
    refine w_ret ?_
    refine thenQ_r ?_
    cases hF
    exact endQ_r rfl (.inl ⟨_, _, by first | rfl | (simp [List.take_of_length_le]; first | exact ⟨rfl, rfl⟩ | rfl), by simp, by first | rfl | simp [res_laws_szBlock, List.take_of_length_le]⟩)
  ·
    refine w_skip ?_
    refine thenQ_n ?_
    refine w_reg_seq 640 1024 rfl rfl ?_
    refine qp (AI (w64 (v1 - (v0.1.length : Int)))) rfl (qp (.ptr 0 0 1) rfl (qp (AS v0.2.1) rfl (qp (AI (v0.2.1.length : Int)) rfl (qp (AI (w64 ((w64 (v1 - (v0.1.length : Int))) - (v0.2.1.length : Int)))) rfl (qp (AI (w64 ((w64 (v1 - (v0.1.length : Int))) - (v0.2.1.length : Int)))) rfl ?_)))))
    refine r_nil ?_
    refine w_seq ?_
    refine w_reg_seq 1024 1152 rfl rfl ?_
    refine qp (AI (w64 ((w64 (v1 - (v0.1.length : Int))) - (v0.2.1.length : Int)))) rfl (qp (AB (decide (w64 ((w64 (v1 - (v0.1.length : Int))) - (v0.2.1.length : Int)) < (0 : Int)))) rfl ?_)
    refine r_nil ?_
    refine w_condF hF rfl (fun hF => ?_) (fun hF => ?_)
    ·
      refine w_reg_seq 1152 1216 rfl rfl ?_
      refine qp (AI (-1)) rfl ?_
      refine r_nil ?_
      refine w_ret ?_
      refine thenQ_r ?_
      cases hF
      exact endQ_r rfl (.inl ⟨_, _, by first | rfl | (simp [List.take_of_length_le]; first | exact ⟨rfl, rfl⟩ | rfl), by simp, by first | rfl | simp [res_laws_szBlock, List.take_of_length_le]⟩)
    ·
      refine w_skip ?_
      refine thenQ_n ?_
      refine w_reg_seq 1152 1536 rfl rfl ?_
      refine qp (AI (w64 ((w64 (v1 - (v0.1.length : Int))) - (v0.2.1.length : Int)))) rfl (qp (.ptr 0 0 2) rfl (qp (AS v0.2.2) rfl (qp (AI (v0.2.2.length : Int)) rfl (qp (AI (w64 ((w64 ((w64 (v1 - (v0.1.length : Int))) - (v0.2.1.length : Int))) - (v0.2.2.length : Int)))) rfl (qp (AI (w64 ((w64 ((w64 (v1 - (v0.1.length : Int))) - (v0.2.1.length : Int))) - (v0.2.2.length : Int)))) rfl ?_)))))
      refine r_nil ?_
      refine w_seq ?_
      refine w_reg_seq 1536 1664 rfl rfl ?_
      refine qp (AI (w64 ((w64 ((w64 (v1 - (v0.1.length : Int))) - (v0.2.1.length : Int))) - (v0.2.2.length : Int)))) rfl (qp (AB (decide (w64 ((w64 ((w64 (v1 - (v0.1.length : Int))) - (v0.2.1.length : Int))) - (v0.2.2.length : Int)) < (0 : Int)))) rfl ?_)
      refine r_nil ?_
      refine w_condF hF rfl (fun hF => ?_) (fun hF => ?_)
      ·
        refine w_reg_seq 1664 1728 rfl rfl ?_
        refine qp (AI (-1)) rfl ?_
        refine r_nil ?_
        refine w_ret ?_
        refine thenQ_r ?_
        cases hF
        exact endQ_r rfl (.inl ⟨_, _, by first | rfl | (simp [List.take_of_length_le]; first | exact ⟨rfl, rfl⟩ | rfl), by simp, by first | rfl | simp [res_laws_szBlock, List.take_of_length_le]⟩)
      ·
        refine w_skip ?_
        refine thenQ_n ?_
        refine w_reg_seq 1664 1792 rfl rfl ?_
        refine qp (AI (w64 ((w64 ((w64 (v1 - (v0.1.length : Int))) - (v0.2.1.length : Int))) - (v0.2.2.length : Int)))) rfl (qp (AI (w64 ((w64 ((w64 (v1 - (v0.1.length : Int))) - (v0.2.1.length : Int))) - (v0.2.2.length : Int)))) rfl ?_)
        refine r_nil ?_
        refine w_ret ?_
        cases hF
        exact endQ_r rfl (.inl ⟨_, _, by first | rfl | (simp [List.take_of_length_le]; first | exact ⟨rfl, rfl⟩ | rfl), by simp, by first | rfl | simp [res_laws_szBlock, List.take_of_length_le]⟩)

def c42 : MC := (.seq (.reg [⟨(some 1), none, (.f (.box (.t 0)))⟩, ⟨(some 2), none, (.f (.alloc [((.str []), (0, false)), ((.str []), (0, false)), ((.str []), (0, false))]))⟩]) (.seq (.reg [⟨(some 3), none, (.f (.alloc [((.str []), (0, false)), ((.str []), (0, false)), ((.str []), (0, false))]))⟩]) (.seq (.reg [⟨(some 4), none, (.p true (.fad (.t 1) 0))⟩, ⟨(some 5), none, (.p true (.ld (.t 4) 1 false))⟩, ⟨(some 6), none, (.p true (.fad (.t 3) 0))⟩, ⟨none, none, (.f (.st (.t 6) (.t 5) 1))⟩]) (.seq (.reg [⟨(some 7), none, (.p true (.fad (.t 1) 1))⟩, ⟨(some 8), none, (.p true (.ld (.t 7) 1 false))⟩, ⟨(some 9), none, (.p true (.fad (.t 3) 1))⟩, ⟨none, none, (.f (.st (.t 9) (.t 8) 1))⟩]) (.seq (.reg [⟨(some 10), none, (.p true (.fad (.t 1) 2))⟩, ⟨(some 11), none, (.p true (.ld (.t 10) 1 false))⟩, ⟨(some 12), none, (.p true (.fad (.t 3) 2))⟩, ⟨none, none, (.f (.st (.t 12) (.t 11) 1))⟩]) (.seq (.reg [⟨(some 13), none, (.p true (.ld (.t 3) 3 true))⟩, ⟨none, none, (.f (.st (.t 2) (.t 13) 3))⟩]) .ret))))))
theorem c42_is : compFn Try.prog 42 = some (c42, [(.cell (.ld (.t 2) 3 true))]) := by kernel_rfl
theorem c42_ok : okFn Try.prog 42 = true := by kernel_rfl

def F_laws_toBlock (v0 : TBlock) : Option (TBlock) :=
  some v0
@[simp] def res_laws_toBlock (r : TBlock) : RV := .one (.one (.val (eBlock r)))
theorem con_laws_toBlock {v0 : TBlock} {r : TBlock} (hF : F_laws_toBlock v0 = some r) : Con Try.prog 42 [eBlock v0] (res_laws_toBlock r) := by
  unfold F_laws_toBlock at hF
  refine con_of c42_is fun N => ?_
  refine w_reg_seq 0 128 rfl rfl ?_
  refine qf (.ptr 0 0 0) [(0, .box [AS v0.1, AS v0.2.1, AS v0.2.2])] (by simp) ?_
  refine qf (.ptr 64 0 0) [(64, .box [AS [], AS [], AS []]), (0, .box [AS v0.1, AS v0.2.1, AS v0.2.2])] (by simp) ?_
  refine r_nil ?_
  refine w_reg_seq 128 192 rfl rfl ?_
  refine qf (.ptr 128 0 0) [(128, .box [AS [], AS [], AS []]), (64, .box [AS [], AS [], AS []]), (0, .box [AS v0.1, AS v0.2.1, AS v0.2.2])] (by simp) ?_
  refine r_nil ?_
  refine w_reg_seq 192 448 rfl rfl ?_
  refine qp (.ptr 0 0 0) rfl (qp (AS v0.1) rfl (qp (.ptr 128 0 0) rfl ?_))
  refine qf0 (.undef) [(128, .box [AS v0.1, AS [], AS []]), (128, .box [AS [], AS [], AS []]), (64, .box [AS [], AS [], AS []]), (0, .box [AS v0.1, AS v0.2.1, AS v0.2.2])] (by simp) ?_
  refine r_nil ?_
  refine w_reg_seq 448 704 rfl rfl ?_
  refine qp (.ptr 0 0 1) rfl (qp (AS v0.2.1) rfl (qp (.ptr 128 0 1) rfl ?_))
  refine qf0 (.undef) [(128, .box [AS v0.1, AS v0.2.1, AS []]), (128, .box [AS v0.1, AS [], AS []]), (128, .box [AS [], AS [], AS []]), (64, .box [AS [], AS [], AS []]), (0, .box [AS v0.1, AS v0.2.1, AS v0.2.2])] (by simp) ?_
  refine r_nil ?_
  refine w_reg_seq 704 960 rfl rfl ?_
  refine qp (.ptr 0 0 2) rfl (qp (AS v0.2.2) rfl (qp (.ptr 128 0 2) rfl ?_))
  refine qf0 (.undef) [(128, .box [AS v0.1, AS v0.2.1, AS v0.2.2]), (128, .box [AS v0.1, AS v0.2.1, AS []]), (128, .box [AS v0.1, AS [], AS []]), (128, .box [AS [], AS [], AS []]), (64, .box [AS [], AS [], AS []]), (0, .box [AS v0.1, AS v0.2.1, AS v0.2.2])] (by simp) ?_
  refine r_nil ?_
  refine w_reg_seq 960 1088 rfl rfl ?_
  refine qp (.agg [AS v0.1, AS v0.2.1, AS v0.2.2]) rfl ?_
  refine qf0 (.undef) [(64, .box [AS v0.1, AS v0.2.1, AS v0.2.2]), (128, .box [AS v0.1, AS v0.2.1, AS v0.2.2]), (128, .box [AS v0.1, AS v0.2.1, AS []]), (128, .box [AS v0.1, AS [], AS []]), (128, .box [AS [], AS [], AS []]), (64, .box [AS [], AS [], AS []]), (0, .box [AS v0.1, AS v0.2.1, AS v0.2.2])] (by simp) ?_
  refine r_nil ?_
  refine w_ret ?_
  cases hF
  exact endQ_r rfl (.inl ⟨_, _, by first | rfl | (simp [List.take_of_length_le]; first | exact ⟨rfl, rfl⟩ | rfl), by simp, by first | rfl | simp [res_laws_toBlock, List.take_of_length_le]⟩)

def c116 : MC := (.seq (.reg [⟨(some 2), none, (.p true (.mv (.c (.bool false))))⟩]) (.seq (.reg [⟨(some 3), none, (.p true (.mv (.t 0)))⟩, ⟨(some 4), none, (.p true (.bin .geq (.t 3) (.c (.int .u8 97))))⟩, ⟨(some 5), none, (.p true (.mv (.t 4)))⟩, ⟨(some 6), (some (5, true)), (.p true (.mv (.t 0)))⟩, ⟨(some 7), (some (5, true)), (.p true (.bin .leq (.t 6) (.c (.int .u8 122))))⟩, ⟨(some 8), none, (.p true (.pick (.t 5) (.t 7) (.c (.bool false))))⟩, ⟨(some 2), none, (.p true (.mv (.t 8)))⟩]) .ret))
theorem c116_is : compFn Try.prog 116 = some (c116, [(.tmp 2)]) := by kernel_rfl
theorem c116_ok : okFn Try.prog 116 = true := by kernel_rfl

def F_spec_l01Small (v0 : Int) : Option (Bool) :=
  (bif (decide ((97 : Int) ≤ v0)) then some (decide (v0 ≤ (122 : Int)))
  else some false)
@[simp] def res_spec_l01Small (r : Bool) : RV := .one (.one (.val (.bool r)))
theorem con_spec_l01Small {v0 : Int} {r : Bool} (hF : F_spec_l01Small v0 = some r) : Con Try.prog 116 [.int .u8 v0] (res_spec_l01Small r) := by
  unfold F_spec_l01Small at hF
  refine con_of c116_is fun N => ?_
  refine w_reg_seq 0 64 rfl rfl ?_
  refine qp (AB false) rfl ?_
  refine r_nil ?_
  refine w_reg_seq 64 512 rfl rfl ?_
  refine qp (.val none (.int .u8 v0)) rfl (qp (AB (decide ((97 : Int) ≤ v0))) rfl (qp (AB (decide ((97 : Int) ≤ v0))) rfl ?_))
  refine q_case 5 hF rfl (fun hF => ?_) (fun hF => ?_)
  ·
    refine qg (.val none (.int .u8 v0)) rfl rfl (qg (AB (decide (v0 ≤ (122 : Int)))) rfl rfl (qp (AB (decide (v0 ≤ (122 : Int)))) rfl (qp (AB (decide (v0 ≤ (122 : Int)))) rfl ?_)))
    refine r_nil ?_
    refine w_ret ?_
    cases hF
    exact endQ_r rfl (.inl ⟨_, _, by first | rfl | (simp [List.take_of_length_le]; first | exact ⟨rfl, rfl⟩ | rfl), by simp, by first | rfl | simp [res_spec_l01Small, List.take_of_length_le]⟩)
  ·
    refine qn rfl (qn rfl (qp (AB false) rfl (qp (AB false) rfl ?_)))
    refine r_nil ?_
    refine w_ret ?_
    cases hF
    exact endQ_r rfl (.inl ⟨_, _, by first | rfl | (simp [List.take_of_length_le]; first | exact ⟨rfl, rfl⟩ | rfl), by simp, by first | rfl | simp [res_spec_l01Small, List.take_of_length_le]⟩)

def c117 : MC := (.seq (.reg [⟨(some 2), none, (.p true (.mv (.c (.bool false))))⟩]) (.seq (.reg [⟨(some 3), none, (.p true (.mv (.t 0)))⟩, ⟨(some 4), none, (.p true (.bin .geq (.t 3) (.c (.int .u8 48))))⟩, ⟨(some 5), none, (.p true (.mv (.t 4)))⟩, ⟨(some 6), (some (5, true)), (.p true (.mv (.t 0)))⟩, ⟨(some 7), (some (5, true)), (.p true (.bin .leq (.t 6) (.c (.int .u8 57))))⟩, ⟨(some 8), none, (.p true (.pick (.t 5) (.t 7) (.c (.bool false))))⟩, ⟨(some 2), none, (.p true (.mv (.t 8)))⟩]) .ret))
theorem c117_is : compFn Try.prog 117 = some (c117, [(.tmp 2)]) := by kernel_rfl
theorem c117_ok : okFn Try.prog 117 = true := by kernel_rfl

def F_spec_l01Digit (v0 : Int) : Option (Bool) :=
  (bif (decide ((48 : Int) ≤ v0)) then some (decide (v0 ≤ (57 : Int)))
  else some false)
@[simp] def res_spec_l01Digit (r : Bool) : RV := .one (.one (.val (.bool r)))
theorem con_spec_l01Digit {v0 : Int} {r : Bool} (hF : F_spec_l01Digit v0 = some r) : Con Try.prog 117 [.int .u8 v0] (res_spec_l01Digit r) := by
  unfold F_spec_l01Digit at hF
  refine con_of c117_is fun N => ?_
  refine w_reg_seq 0 64 rfl rfl ?_
  refine qp (AB false) rfl ?_
  refine r_nil ?_
  refine w_reg_seq 64 512 rfl rfl ?_
  refine qp (.val none (.int .u8 v0)) rfl (qp (AB (decide ((48 : Int) ≤ v0))) rfl (qp (AB (decide ((48 : Int) ≤ v0))) rfl ?_))
  refine q_case 5 hF rfl (fun hF => ?_) (fun hF => ?_)
  ·
    refine qg (.val none (.int .u8 v0)) rfl rfl (qg (AB (decide (v0 ≤ (57 : Int)))) rfl rfl (qp (AB (decide (v0 ≤ (57 : Int)))) rfl (qp (AB (decide (v0 ≤ (57 : Int)))) rfl ?_)))
    refine r_nil ?_
    refine w_ret ?_
    cases hF
    exact endQ_r rfl (.inl ⟨_, _, by first | rfl | (simp [List.take_of_length_le]; first | exact ⟨rfl, rfl⟩ | rfl), by simp, by first | rfl | simp [res_spec_l01Digit, List.take_of_length_le]⟩)
  ·
    refine qn rfl (qn rfl (qp (AB false) rfl (qp (AB false) rfl ?_)))
    refine r_nil ?_
    refine w_ret ?_
    cases hF
    exact endQ_r rfl (.inl ⟨_, _, by first | rfl | (simp [List.take_of_length_le]; first | exact ⟨rfl, rfl⟩ | rfl), by simp, by first | rfl | simp [res_spec_l01Digit, List.take_of_length_le]⟩)

def c98 : MC := (.seq (.reg [⟨(some 2), none, (.p true (.mv (.c (.bool false))))⟩]) (.seq (.seq (.reg [⟨(some 4), none, (.p true (.mv (.t 0)))⟩, ⟨(some 5), none, (.p true (.bin .eql (.t 4) (.c (.str []))))⟩, ⟨(some 6), none, (.p true (.mv (.t 5)))⟩, ⟨(some 7), (some (6, false)), (.p true (.mv (.t 0)))⟩, ⟨(some 8), (some (6, false)), (.p true (.lens (.t 7)))⟩, ⟨(some 9), (some (6, false)), (.p true (.bin .gtr (.t 8) (.c (.int .i64 10))))⟩, ⟨(some 10), none, (.p true (.pick (.t 6) (.c (.bool true)) (.t 9)))⟩, ⟨(some 11), none, (.p true (.mv (.t 10)))⟩, ⟨(some 12), (some (11, false)), (.p true (.mv (.t 0)))⟩, ⟨(some 13), (some (11, false)), (.p true (.ixs (.t 12) (.c (.int .i64 0))))⟩, ⟨(some 14), (some (11, false)), (.call true 116 [(.t 13)])⟩, ⟨(some 15), (some (11, false)), (.p true (.not (.t 14)))⟩, ⟨(some 16), none, (.p true (.pick (.t 11) (.c (.bool true)) (.t 15)))⟩]) (.cond (.t 16) (.seq (.reg [⟨(some 2), none, (.p true (.mv (.c (.bool false))))⟩]) .ret) .skip)) (.seq (.seq (.reg [⟨(some 3), none, (.p true (.mv (.c (.int .i64 0))))⟩]) (.block 0 (.loop (.seq (.seq (.reg [⟨(some 17), none, (.p true (.mv (.t 3)))⟩, ⟨(some 18), none, (.p true (.mv (.t 0)))⟩, ⟨(some 19), none, (.p true (.lens (.t 18)))⟩, ⟨(some 20), none, (.p true (.bin .lss (.t 17) (.t 19)))⟩]) (.cond (.t 20) .skip (.exit 0))) (.seq (.block 1 (.seq (.reg [⟨(some 23), none, (.p true (.mv (.t 0)))⟩, ⟨(some 24), none, (.p true (.mv (.t 3)))⟩, ⟨(some 25), none, (.p true (.ixs (.t 23) (.t 24)))⟩, ⟨(some 26), none, (.call true 116 [(.t 25)])⟩, ⟨(some 27), none, (.p true (.not (.t 26)))⟩, ⟨(some 28), none, (.p true (.mv (.t 27)))⟩, ⟨(some 29), (some (28, true)), (.p true (.mv (.t 0)))⟩, ⟨(some 30), (some (28, true)), (.p true (.mv (.t 3)))⟩, ⟨(some 31), (some (28, true)), (.p true (.ixs (.t 29) (.t 30)))⟩, ⟨(some 32), (some (28, true)), (.call true 117 [(.t 31)])⟩, ⟨(some 33), (some (28, true)), (.p true (.not (.t 32)))⟩, ⟨(some 34), none, (.p true (.pick (.t 28) (.t 33) (.c (.bool false))))⟩]) (.cond (.t 34) (.seq (.reg [⟨(some 2), none, (.p true (.mv (.c (.bool false))))⟩]) .ret) .skip))) (.reg [⟨(some 21), none, (.p true (.mv (.t 3)))⟩, ⟨(some 22), none, (.p true (.bin .add (.t 21) (.c (.int .i64 1))))⟩, ⟨(some 3), none, (.p true (.mv (.t 22)))⟩])))))) (.seq (.reg [⟨(some 2), none, (.p true (.mv (.c (.bool true))))⟩]) .ret))))
theorem c98_is : compFn Try.prog 98 = some (c98, [(.tmp 2)]) := by kernel_rfl
theorem c98_ok : okFn Try.prog 98 = true := by kernel_rfl

def F_spec_l01Name_l0 (v0 : List UInt8) (k1 : Int → Option (Bool)) : Int → Option (Bool)
  | v1011 => (bif (decide (v1011 < (v0.length : Int))) then ((ix v0 v1011).bind fun v1012 => ((F_spec_l01Small (v1012.toNat : Int)).bind fun v1013 => (bif (!v1013) then ((ix v0 v1011).bind fun v1014 => ((F_spec_l01Digit (v1014.toNat : Int)).bind fun v1015 => (bif (!v1015) then some false
  else k1 (w64 (v1011 + 1)))))
  else k1 (w64 (v1011 + 1)))))
  else some true)
def F_spec_l01Name (v0 : List UInt8) : Option (Bool) :=
  (bif (decide (v0 = [])) then some false
  else (bif (decide ((10 : Int) < (v0.length : Int))) then some false
  else ((ix v0 0).bind fun v1000 => ((F_spec_l01Small (v1000.toNat : Int)).bind fun v1001 => (bif (!v1001) then some false
  else loop (F_spec_l01Name_l0 v0) 0)))))
@[simp] def res_spec_l01Name (r : Bool) : RV := .one (.one (.val (.bool r)))
theorem con_spec_l01Name {v0 : List UInt8} {r : Bool} (hF : F_spec_l01Name v0 = some r) : Con Try.prog 98 [.str v0] (res_spec_l01Name r) := by
  unfold F_spec_l01Name at hF
  refine con_of c98_is fun N => ?_
  refine w_reg_seq 0 64 rfl rfl ?_
  refine qp (AB false) rfl ?_
  refine r_nil ?_
  refine w_seq ?_
  refine w_reg_seq 64 896 rfl rfl ?_
  refine qp (AS v0) rfl (qp (AB (decide (v0 = []))) rfl (qp (AB (decide (v0 = []))) rfl ?_))
  refine q_case 6 hF rfl (fun hF => ?_) (fun hF => ?_)
  ·
    refine qn rfl (qn rfl (qn rfl (qp (AB true) rfl (qp (AB true) rfl (qn rfl (qn rfl (qn rfl ?_)))))))
    refine qn rfl (qp (AB true) rfl ?_)
    refine r_nil ?_
    refine w_true rfl ?_
    refine w_reg_seq 896 960 rfl rfl ?_
    refine qp (AB false) rfl ?_
    refine r_nil ?_
    refine w_ret ?_
    refine thenQ_r ?_
    cases hF
    exact endQ_r rfl (.inl ⟨_, _, by first | rfl | (simp [List.take_of_length_le]; first | exact ⟨rfl, rfl⟩ | rfl), by simp, by first | rfl | simp [res_spec_l01Name, List.take_of_length_le]⟩)
  ·
    refine qg (AS v0) rfl rfl (qg (AI (v0.length : Int)) rfl rfl (qg (AB (decide ((10 : Int) < (v0.length : Int)))) rfl rfl (qp (AB (decide ((10 : Int) < (v0.length : Int)))) rfl (qp (AB (decide ((10 : Int) < (v0.length : Int)))) rfl ?_))))
    refine q_case 11 hF rfl (fun hF => ?_) (fun hF => ?_)
    ·
      refine qn rfl (qn rfl (qn rfl (qn rfl (qp (AB true) rfl ?_))))
      refine r_nil ?_
      refine w_true rfl ?_
      refine w_reg_seq 896 960 rfl rfl ?_
      refine qp (AB false) rfl ?_
      refine r_nil ?_
      refine w_ret ?_
      refine thenQ_r ?_
      cases hF
      exact endQ_r rfl (.inl ⟨_, _, by first | rfl | (simp [List.take_of_length_le]; first | exact ⟨rfl, rfl⟩ | rfl), by simp, by first | rfl | simp [res_spec_l01Name, List.take_of_length_le]⟩)
    ·
      refine qg (AS v0) rfl rfl ?_
      obtain ⟨v1000, e1000, hF⟩ := bind_get hF
      refine qg (.val none (.int .u8 (v1000.toNat : Int))) rfl (ev_ixs rfl rfl e1000) ?_
      obtain ⟨v1001, e1001, hF⟩ := bind_get hF
      refine qcg (AB v1001) [] false rfl (con_spec_l01Small e1001) c116_ok (by first | rfl | simp) rfl ?_
      refine qg (AB (!v1001)) rfl rfl (qp (AB (!v1001)) rfl ?_)
      refine r_nil ?_
      refine w_condF hF rfl (fun hF => ?_) (fun hF => ?_)
      ·
        refine w_reg_seq 896 960 rfl rfl ?_
        refine qp (AB false) rfl ?_
        refine r_nil ?_
        refine w_ret ?_
        refine thenQ_r ?_
        cases hF
        exact endQ_r rfl (.inl ⟨_, _, by first | rfl | (simp [List.take_of_length_le]; first | exact ⟨rfl, rfl⟩ | rfl), by simp, by first | rfl | simp [res_spec_l01Name, List.take_of_length_le]⟩)
      ·
        refine w_skip ?_
        refine thenQ_n ?_
        refine w_seq ?_
        refine w_reg_seq 896 960 rfl rfl ?_
        refine qp (AI 0) rfl ?_
        refine r_nil ?_
        refine w_block ?_
        refine w_ren (l' := [(0, AS v0), (3, AI 0)]) (L := []) [0, 3] [] 1 (by first | rfl | simp) (by first | rfl | simp) (by decide) (by decide) (by decide) ?_
        refine w_loopF (F_spec_l01Name_l0 v0) (fun s : Int => mkS [(0, AS v0), (3, AI s)] (fo []) 1) hF ?_
        rintro k1 v1011 hF
        rw [F_spec_l01Name_l0] at hF
        try dsimp only
        refine w_seq ?_
        refine w_reg_seq 1 257 rfl rfl ?_
        refine qp (AI v1011) rfl (qp (AS v0) rfl (qp (AI (v0.length : Int)) rfl (qp (AB (decide (v1011 < (v0.length : Int)))) rfl ?_)))
        refine r_nil ?_
        refine w_condF hF rfl (fun hF => ?_) (fun hF => ?_)
        ·
          refine w_skip ?_
          refine thenQ_n ?_
          refine w_seq ?_
          refine w_block ?_
          refine w_reg_seq 257 1025 rfl rfl ?_
          refine qp (AS v0) rfl (qp (AI v1011) rfl ?_)
          obtain ⟨v1012, e1012, hF⟩ := bind_get hF
          refine qp (.val none (.int .u8 (v1012.toNat : Int))) (ev_ixs rfl rfl e1012) ?_
          obtain ⟨v1013, e1013, hF⟩ := bind_get hF
          refine qc (AB v1013) [] false (con_spec_l01Small e1013) c116_ok (by first | rfl | simp) rfl ?_
          refine qp (AB (!v1013)) rfl (qp (AB (!v1013)) rfl ?_)
          refine q_case 28 hF rfl (fun hF => ?_) (fun hF => ?_)
          ·
            refine qg (AS v0) rfl rfl (qg (AI v1011) rfl rfl ?_)
            obtain ⟨v1014, e1014, hF⟩ := bind_get hF
            refine qg (.val none (.int .u8 (v1014.toNat : Int))) rfl (ev_ixs rfl rfl e1014) ?_
            obtain ⟨v1015, e1015, hF⟩ := bind_get hF
            refine qcg (AB v1015) [] false rfl (con_spec_l01Digit e1015) c117_ok (by first | rfl | simp) rfl ?_
            refine qg (AB (!v1015)) rfl rfl (qp (AB (!v1015)) rfl ?_)
            refine r_nil ?_
            refine w_condF hF rfl (fun hF => ?_) (fun hF => ?_)
            ·
              refine w_reg_seq 1025 1089 rfl rfl ?_
              refine qp (AB false) rfl ?_
              refine r_nil ?_
              refine w_ret ?_
              refine blockQ_r ?_
              refine thenQ_r ?_
              refine thenQ_r ?_
              refine blockQ_r ?_
              refine thenQ_r ?_
              cases hF
              exact endQ_r rfl (.inl ⟨_, _, by first | rfl | (simp [List.take_of_length_le]; first | exact ⟨rfl, rfl⟩ | rfl), by simp, by first | rfl | simp [res_spec_l01Name, List.take_of_length_le]⟩)
            ·
              refine w_skip ?_
              refine blockQ_n ?_
              refine thenQ_n ?_
              refine w_reg 1025 1217 rfl rfl ?_
              refine qp (AI v1011) rfl (qp (AI (w64 (v1011 + 1))) rfl (qp (AI (w64 (v1011 + 1))) rfl ?_))
              refine r_nil ?_
              refine thenQ_n ?_
              refine aw_ren (l' := [(0, AS v0), (3, AI (w64 (v1011 + 1)))]) (L := []) [0, 3] [] 1 (by first | rfl | simp) (by first | rfl | simp) (by decide) (by decide) (by decide) ⟨_, by rfl, hF⟩
          ·
            refine qn rfl (qn rfl (qn rfl (qn rfl (qn rfl (qp (AB false) rfl ?_)))))
            refine r_nil ?_
            refine w_false rfl ?_
            refine w_skip ?_
            refine blockQ_n ?_
            refine thenQ_n ?_
            refine w_reg 1025 1217 rfl rfl ?_
            refine qp (AI v1011) rfl (qp (AI (w64 (v1011 + 1))) rfl (qp (AI (w64 (v1011 + 1))) rfl ?_))
            refine r_nil ?_
            refine thenQ_n ?_
            refine aw_ren (l' := [(0, AS v0), (3, AI (w64 (v1011 + 1)))]) (L := []) [0, 3] [] 1 (by first | rfl | simp) (by first | rfl | simp) (by decide) (by decide) (by decide) ⟨_, by rfl, hF⟩
        ·
          refine w_exit ?_
          refine thenQ_e ?_
          refine thenQ_e ?_
          refine blockQ_e ?_
          refine thenQ_n ?_
          refine w_reg_seq 257 321 rfl rfl ?_
          refine qp (AB true) rfl ?_
          refine r_nil ?_
          refine w_ret ?_
          cases hF
          exact endQ_r rfl (.inl ⟨_, _, by first | rfl | (simp [List.take_of_length_le]; first | exact ⟨rfl, rfl⟩ | rfl), by simp, by first | rfl | simp [res_spec_l01Name, List.take_of_length_le]⟩)

def c77 : MC := (.seq (.reg [⟨(some 2), none, (.p true (.mv (.c (.bool false))))⟩]) (.seq (.seq (.reg [⟨(some 3), none, (.p true (.mv (.c (.int .i64 0))))⟩]) (.block 0 (.loop (.seq (.seq (.reg [⟨(some 4), none, (.p true (.mv (.t 3)))⟩, ⟨(some 5), none, (.p true (.mv (.t 0)))⟩, ⟨(some 6), none, (.p true (.nck (.t 5)))⟩, ⟨(some 7), none, (.p true (.fad (.t 6) 2))⟩, ⟨(some 8), none, (.p true (.ld (.t 7) 1 false))⟩, ⟨(some 9), none, (.p true (.lens (.t 8)))⟩, ⟨(some 10), none, (.p true (.bin .lss (.t 4) (.t 9)))⟩]) (.cond (.t 10) .skip (.exit 0))) (.seq (.block 1 (.seq (.reg [⟨(some 13), none, (.p true (.mv (.t 0)))⟩, ⟨(some 14), none, (.p true (.nck (.t 13)))⟩, ⟨(some 15), none, (.p true (.fad (.t 14) 2))⟩, ⟨(some 16), none, (.p true (.ld (.t 15) 1 false))⟩, ⟨(some 17), none, (.p true (.mv (.t 3)))⟩, ⟨(some 18), none, (.p true (.ixs (.t 16) (.t 17)))⟩, ⟨(some 19), none, (.p true (.bin .eql (.t 18) (.c (.int .u8 10))))⟩]) (.cond (.t 19) (.seq (.reg [⟨(some 2), none, (.p true (.mv (.c (.bool false))))⟩]) .ret) .skip))) (.reg [⟨(some 11), none, (.p true (.mv (.t 3)))⟩, ⟨(some 12), none, (.p true (.bin .add (.t 11) (.c (.int .i64 1))))⟩, ⟨(some 3), none, (.p true (.mv (.t 12)))⟩])))))) (.seq (.reg [⟨(some 20), none, (.p true (.mv (.t 0)))⟩, ⟨(some 21), none, (.p true (.nck (.t 20)))⟩, ⟨(some 22), none, (.p true (.fad (.t 21) 0))⟩, ⟨(some 23), none, (.p true (.ld (.t 22) 1 false))⟩, ⟨(some 24), none, (.call true 98 [(.t 23)])⟩, ⟨(some 25), none, (.p true (.mv (.t 24)))⟩, ⟨(some 26), (some (25, true)), (.p true (.mv (.t 0)))⟩, ⟨(some 27), (some (25, true)), (.p true (.nck (.t 26)))⟩, ⟨(some 28), (some (25, true)), (.p true (.fad (.t 27) 1))⟩, ⟨(some 29), (some (25, true)), (.p true (.ld (.t 28) 1 false))⟩, ⟨(some 30), (some (25, true)), (.call true 98 [(.t 29)])⟩, ⟨(some 31), none, (.p true (.pick (.t 25) (.t 30) (.c (.bool false))))⟩, ⟨(some 32), none, (.p true (.mv (.t 31)))⟩, ⟨(some 33), (some (32, true)), (.p true (.mv (.t 0)))⟩, ⟨(some 34), (some (32, true)), (.p true (.nck (.t 33)))⟩, ⟨(some 35), (some (32, true)), (.p true (.fad (.t 34) 2))⟩, ⟨(some 36), (some (32, true)), (.p true (.ld (.t 35) 1 false))⟩, ⟨(some 37), (some (32, true)), (.p true (.lens (.t 36)))⟩, ⟨(some 38), (some (32, true)), (.p true (.bin .leq (.t 37) (.c (.int .i64 400))))⟩, ⟨(some 39), none, (.p true (.pick (.t 32) (.t 38) (.c (.bool false))))⟩, ⟨(some 2), none, (.p true (.mv (.t 39)))⟩]) .ret)))
theorem c77_is : compFn Try.prog 77 = some (c77, [(.tmp 2)]) := by kernel_rfl
theorem c77_ok : okFn Try.prog 77 = true := by kernel_rfl

def F_spec_l29One_l0 (v0 : TBlock) (k0 : Int → Option (Bool)) : Int → Option (Bool)
  | v4 => (bif (decide (v4 < (v0.2.2.length : Int))) then ((ix v0.2.2 v4).bind fun v1000 => (bif (decide ((v1000.toNat : Int) = (10 : Int))) then some false
  else k0 (w64 (v4 + 1))))
  else ((F_spec_l01Name v0.1).bind fun v1001 => (bif v1001 then ((F_spec_l01Name v0.2.1).bind fun v1002 => (bif v1002 then some (decide ((v0.2.2.length : Int) ≤ (400 : Int)))
  else some false))
  else some false)))
def F_spec_l29One (v0 : TBlock) : Option (Bool) :=
  loop (F_spec_l29One_l0 v0) 0
@[simp] def res_spec_l29One (r : Bool) : RV := .one (.one (.val (.bool r)))
theorem con_spec_l29One {v0 : TBlock} {r : Bool} (hF : F_spec_l29One v0 = some r) : Con Try.prog 77 [.ptr [.str v0.1, .str v0.2.1, .str v0.2.2]] (res_spec_l29One r) := by
  unfold F_spec_l29One at hF
  refine con_of c77_is fun N => ?_
  refine w_reg_seq 0 64 rfl rfl ?_
  refine qp (AB false) rfl ?_
  refine r_nil ?_
  refine w_seq ?_
  refine w_reg_seq 64 128 rfl rfl ?_
  refine qp (AI 0) rfl ?_
  refine r_nil ?_
  refine w_block ?_
  refine w_ren (l' := [(0, .val none (.ptr [.str v0.1, .str v0.2.1, .str v0.2.2])), (3, AI 0)]) (L := []) [0, 3] [] 1 (by first | rfl | simp) (by first | rfl | simp) (by decide) (by decide) (by decide) ?_
  refine w_loopF (F_spec_l29One_l0 v0) (fun s : Int => mkS [(0, .val none (.ptr [.str v0.1, .str v0.2.1, .str v0.2.2])), (3, AI s)] (fo []) 1) hF ?_
  rintro k0 v4 hF
  rw [F_spec_l29One_l0] at hF
  try dsimp only
  refine w_seq ?_
  refine w_reg_seq 1 449 rfl rfl ?_
  refine qp (AI v4) rfl (qp (.val none (.ptr [.str v0.1, .str v0.2.1, .str v0.2.2])) rfl (qp (.val none (.ptr [.str v0.1, .str v0.2.1, .str v0.2.2])) rfl (qp (.val none (.ptr [.str v0.2.2])) rfl (qp (AS v0.2.2) rfl (qp (AI (v0.2.2.length : Int)) rfl (qp (AB (decide (v4 < (v0.2.2.length : Int)))) rfl ?_))))))
  refine r_nil ?_
  refine w_condF hF rfl (fun hF => ?_) (fun hF => ?_)
  ·
    refine w_skip ?_
    refine thenQ_n ?_
    refine w_seq ?_
    refine w_block ?_
    refine w_reg_seq 449 897 rfl rfl ?_
    refine qp (.val none (.ptr [.str v0.1, .str v0.2.1, .str v0.2.2])) rfl (qp (.val none (.ptr [.str v0.1, .str v0.2.1, .str v0.2.2])) rfl (qp (.val none (.ptr [.str v0.2.2])) rfl (qp (AS v0.2.2) rfl (qp (AI v4) rfl ?_))))
    obtain ⟨v1000, e1000, hF⟩ := bind_get hF
    refine qp (.val none (.int .u8 (v1000.toNat : Int))) (ev_ixs rfl rfl e1000) (qp (AB (decide ((v1000.toNat : Int) = (10 : Int)))) rfl ?_)
    refine r_nil ?_
    refine w_condF hF rfl (fun hF => ?_) (fun hF => ?_)
    ·
      refine w_reg_seq 897 961 rfl rfl ?_
      refine qp (AB false) rfl ?_
      refine r_nil ?_
      refine w_ret ?_
      refine blockQ_r ?_
      refine thenQ_r ?_
      refine thenQ_r ?_
      refine blockQ_r ?_
      refine thenQ_r ?_
      cases hF
      exact endQ_r rfl (.inl ⟨_, _, by first | rfl | (simp [List.take_of_length_le]; first | exact ⟨rfl, rfl⟩ | rfl), by simp, by first | rfl | simp [res_spec_l29One, List.take_of_length_le]⟩)
    ·
      refine w_skip ?_
      refine blockQ_n ?_
      refine thenQ_n ?_
      refine w_reg 897 1089 rfl rfl ?_
      refine qp (AI v4) rfl (qp (AI (w64 (v4 + 1))) rfl (qp (AI (w64 (v4 + 1))) rfl ?_))
      refine r_nil ?_
      refine thenQ_n ?_
      refine aw_ren (l' := [(0, .val none (.ptr [.str v0.1, .str v0.2.1, .str v0.2.2])), (3, AI (w64 (v4 + 1)))]) (L := []) [0, 3] [] 1 (by first | rfl | simp) (by first | rfl | simp) (by decide) (by decide) (by decide) ⟨_, by rfl, hF⟩
  ·
    refine w_exit ?_
    refine thenQ_e ?_
    refine thenQ_e ?_
    refine blockQ_e ?_
    refine thenQ_n ?_
    refine w_reg_seq 449 1793 rfl rfl ?_
    refine qp (.val none (.ptr [.str v0.1, .str v0.2.1, .str v0.2.2])) rfl (qp (.val none (.ptr [.str v0.1, .str v0.2.1, .str v0.2.2])) rfl (qp (.val none (.ptr [.str v0.1, .str v0.2.1, .str v0.2.2])) rfl (qp (AS v0.1) rfl ?_)))
    obtain ⟨v1001, e1001, hF⟩ := bind_get hF
    refine qc (AB v1001) [] false (con_spec_l01Name e1001) c98_ok (by first | rfl | simp) rfl ?_
    refine qp (AB v1001) rfl ?_
    refine q_case 25 hF rfl (fun hF => ?_) (fun hF => ?_)
    ·
      refine qg (.val none (.ptr [.str v0.1, .str v0.2.1, .str v0.2.2])) rfl rfl (qg (.val none (.ptr [.str v0.1, .str v0.2.1, .str v0.2.2])) rfl rfl (qg (.val none (.ptr [.str v0.2.1, .str v0.2.2])) rfl rfl (qg (AS v0.2.1) rfl rfl ?_)))
      obtain ⟨v1002, e1002, hF⟩ := bind_get hF
      refine qcg (AB v1002) [] false rfl (con_spec_l01Name e1002) c98_ok (by first | rfl | simp) rfl ?_
      refine qp (AB v1002) rfl (qp (AB v1002) rfl ?_)
      refine q_case 32 hF rfl (fun hF => ?_) (fun hF => ?_)
      ·
        refine qg (.val none (.ptr [.str v0.1, .str v0.2.1, .str v0.2.2])) rfl rfl (qg (.val none (.ptr [.str v0.1, .str v0.2.1, .str v0.2.2])) rfl rfl (qg (.val none (.ptr [.str v0.2.2])) rfl rfl (qg (AS v0.2.2) rfl rfl (qg (AI (v0.2.2.length : Int)) rfl rfl (qg (AB (decide ((v0.2.2.length : Int) ≤ (400 : Int)))) rfl rfl (qp (AB (decide ((v0.2.2.length : Int) ≤ (400 : Int)))) rfl (qp (AB (decide ((v0.2.2.length : Int) ≤ (400 : Int)))) rfl ?_)))))))
        refine r_nil ?_
        refine w_ret ?_
        cases hF
        exact endQ_r rfl (.inl ⟨_, _, by first | rfl | (simp [List.take_of_length_le]; first | exact ⟨rfl, rfl⟩ | rfl), by simp, by first | rfl | simp [res_spec_l29One, List.take_of_length_le]⟩)
      ·
        refine qn rfl (qn rfl (qn rfl (qn rfl (qn rfl (qn rfl (qp (AB false) rfl (qp (AB false) rfl ?_)))))))
        refine r_nil ?_
        refine w_ret ?_
        cases hF
        exact endQ_r rfl (.inl ⟨_, _, by first | rfl | (simp [List.take_of_length_le]; first | exact ⟨rfl, rfl⟩ | rfl), by simp, by first | rfl | simp [res_spec_l29One, List.take_of_length_le]⟩)
    ·
      refine qn rfl (qn rfl (qn rfl (qn rfl (qn rfl (qp (AB false) rfl (qp (AB false) rfl (qn rfl ?_)))))))
      refine qn rfl (qn rfl (qn rfl (qn rfl (qn rfl (qp (AB false) rfl (qp (AB false) rfl ?_))))))
      refine r_nil ?_
      refine w_ret ?_
      cases hF
      exact endQ_r rfl (.inl ⟨_, _, by first | rfl | (simp [List.take_of_length_le]; first | exact ⟨rfl, rfl⟩ | rfl), by simp, by first | rfl | simp [res_spec_l29One, List.take_of_length_le]⟩)

def c41 : MC := (.seq (.reg [⟨(some 1), none, (.f (.box (.t 0)))⟩, ⟨(some 2), none, (.p true (.mv (.c (.bool false))))⟩]) (.seq (.reg [⟨(some 3), none, (.call true 77 [(.t 1)])⟩, ⟨(some 2), none, (.p true (.mv (.t 3)))⟩]) .ret))
theorem c41_is : compFn Try.prog 41 = some (c41, [(.tmp 2)]) := by kernel_rfl
theorem c41_ok : okFn Try.prog 41 = true := by kernel_rfl

def F_spec_ValidBlock (v0 : TBlock) : Option (Bool) :=
  ((F_spec_l29One v0).bind fun v1000 => some v1000)
@[simp] def res_spec_ValidBlock (r : Bool) : RV := .one (.one (.val (.bool r)))
theorem con_spec_ValidBlock {v0 : TBlock} {r : Bool} (hF : F_spec_ValidBlock v0 = some r) : Con Try.prog 41 [eBlock v0] (res_spec_ValidBlock r) := by
  unfold F_spec_ValidBlock at hF
  refine con_of c41_is fun N => ?_
  refine w_reg_seq 0 128 rfl rfl ?_
  refine qf (.ptr 0 0 0) [(0, .box [AS v0.1, AS v0.2.1, AS v0.2.2])] (by simp) ?_
  refine qp (AB false) rfl ?_
  refine r_nil ?_
  refine w_reg_seq 128 256 rfl rfl ?_
  obtain ⟨v1000, e1000, hF⟩ := bind_get hF
  refine qc (AB v1000) [(0, .box [AS v0.1, AS v0.2.1, AS v0.2.2])] true (con_spec_l29One e1000) c77_ok (by simp [List.take_of_length_le]) rfl ?_
  refine qp (AB v1000) rfl ?_
  refine r_nil ?_
  refine w_ret ?_
  cases hF
  exact endQ_r rfl (.inl ⟨_, _, by first | rfl | (simp [List.take_of_length_le]; first | exact ⟨rfl, rfl⟩ | rfl), by simp, by first | rfl | simp [res_spec_ValidBlock, List.take_of_length_le]⟩)

def c99 : MC := (.seq (.reg [⟨(some 2), none, (.p true (.mv (.c (.bool false))))⟩]) (.seq (.seq (.reg [⟨(some 5), none, (.p true (.mv (.t 0)))⟩, ⟨(some 6), none, (.p true (.lens (.t 5)))⟩, ⟨(some 7), none, (.p true (.mv (.c (.int .i64 0))))⟩]) (.block 0 (.loop (.seq (.reg [⟨(some 8), none, (.p true (.bin .lss (.t 7) (.t 6)))⟩]) (.seq (.cond (.t 8) .skip (.exit 0)) (.seq (.block 1 (.seq (.reg [⟨(some 9), none, (.p true (.mv (.t 7)))⟩, ⟨(some 3), none, (.p true (.mv (.t 9)))⟩]) (.seq (.reg [⟨(some 10), none, (.p true (.mv (.t 0)))⟩, ⟨(some 11), none, (.p true (.mv (.t 3)))⟩, ⟨(some 12), none, (.p true (.ixs (.t 10) (.t 11)))⟩, ⟨(some 4), none, (.p true (.mv (.t 12)))⟩]) (.seq (.reg [⟨(some 13), none, (.p true (.mv (.t 4)))⟩, ⟨(some 14), none, (.p true (.bin .lss (.t 13) (.c (.int .u8 97))))⟩, ⟨(some 15), none, (.p true (.mv (.t 14)))⟩, ⟨(some 16), (some (15, false)), (.p true (.mv (.t 4)))⟩, ⟨(some 17), (some (15, false)), (.p true (.bin .gtr (.t 16) (.c (.int .u8 122))))⟩, ⟨(some 18), none, (.p true (.pick (.t 15) (.c (.bool true)) (.t 17)))⟩, ⟨(some 19), none, (.p true (.mv (.t 18)))⟩, ⟨(some 20), (some (19, true)), (.p true (.mv (.t 4)))⟩, ⟨(some 21), (some (19, true)), (.p true (.bin .lss (.t 20) (.c (.int .u8 48))))⟩, ⟨(some 22), (some (19, true)), (.p true (.mv (.t 21)))⟩, ⟨(some 23), (some (22, false)), (.p true (.mv (.t 4)))⟩, ⟨(some 24), (some (22, false)), (.p true (.bin .gtr (.t 23) (.c (.int .u8 57))))⟩, ⟨(some 25), (some (19, true)), (.p true (.pick (.t 22) (.c (.bool true)) (.t 24)))⟩, ⟨(some 26), none, (.p true (.pick (.t 19) (.t 25) (.c (.bool false))))⟩]) (.cond (.t 26) (.seq (.reg [⟨(some 2), none, (.p true (.mv (.c (.bool false))))⟩]) .ret) .skip))))) (.reg [⟨(some 27), none, (.p true (.bin .add (.t 7) (.c (.int .i64 1))))⟩, ⟨(some 7), none, (.p true (.mv (.t 27)))⟩]))))))) (.seq (.reg [⟨(some 2), none, (.p true (.mv (.c (.bool true))))⟩]) .ret)))
theorem c99_is : compFn Try.prog 99 = some (c99, [(.tmp 2)]) := by kernel_rfl
theorem c99_ok : okFn Try.prog 99 = true := by kernel_rfl

def F_impl_onlyNameBytes_l0 (v0 : List UInt8) (k0 : Int → Option (Bool)) : Int → Option (Bool)
  | v4 => (bif (decide (v4 < (v0.length : Int))) then ((ix v0 v4).bind fun v1000 => (bif (decide ((v1000.toNat : Int) < (97 : Int))) then (bif (decide ((v1000.toNat : Int) < (48 : Int))) then some false
  else (bif (decide ((57 : Int) < (v1000.toNat : Int))) then some false
  else k0 (w64 (v4 + 1))))
  else (bif (decide ((122 : Int) < (v1000.toNat : Int))) then (bif (decide ((v1000.toNat : Int) < (48 : Int))) then some false
  else (bif (decide ((57 : Int) < (v1000.toNat : Int))) then some false
  else k0 (w64 (v4 + 1))))
  else k0 (w64 (v4 + 1)))))
  else some true)
def F_impl_onlyNameBytes (v0 : List UInt8) : Option (Bool) :=
  loop (F_impl_onlyNameBytes_l0 v0) 0
@[simp] def res_impl_onlyNameBytes (r : Bool) : RV := .one (.one (.val (.bool r)))
theorem con_impl_onlyNameBytes {v0 : List UInt8} {r : Bool} (hF : F_impl_onlyNameBytes v0 = some r) : Con Try.prog 99 [.str v0] (res_impl_onlyNameBytes r) := by
  unfold F_impl_onlyNameBytes at hF
  refine con_of c99_is fun N => ?_
  refine w_reg_seq 0 64 rfl rfl ?_
  refine qp (AB false) rfl ?_
  refine r_nil ?_
  refine w_seq ?_
  refine w_reg_seq 64 256 rfl rfl ?_
  refine qp (AS v0) rfl (qp (AI (v0.length : Int)) rfl (qp (AI 0) rfl ?_))
  refine r_nil ?_
  refine w_block ?_
  refine w_ren (l' := [(0, AS v0), (6, AI (v0.length : Int)), (7, AI 0)]) (L := []) [0, 6, 7] [] 1 (by first | rfl | simp) (by first | rfl | simp) (by decide) (by decide) (by decide) ?_
  refine w_loopF (F_impl_onlyNameBytes_l0 v0) (fun s : Int => mkS [(0, AS v0), (6, AI (v0.length : Int)), (7, AI s)] (fo []) 1) hF ?_
  rintro k0 v4 hF
  rw [F_impl_onlyNameBytes_l0] at hF
  try dsimp only
  refine w_reg_seq 1 65 rfl rfl ?_
  refine qp (AB (decide (v4 < (v0.length : Int)))) rfl ?_
  refine r_nil ?_
  refine w_seq ?_
  refine w_condF hF rfl (fun hF => ?_) (fun hF => ?_)
  ·
    refine w_skip ?_
    refine thenQ_n ?_
    refine w_seq ?_
    refine w_block ?_
    refine w_reg_seq 65 193 rfl rfl ?_
    refine qp (AI v4) rfl (qp (AI v4) rfl ?_)
    refine r_nil ?_
    refine w_reg_seq 193 449 rfl rfl ?_
    refine qp (AS v0) rfl (qp (AI v4) rfl ?_)
    obtain ⟨v1000, e1000, hF⟩ := bind_get hF
    refine qp (.val none (.int .u8 (v1000.toNat : Int))) (ev_ixs rfl rfl e1000) (qp (.val none (.int .u8 (v1000.toNat : Int))) rfl ?_)
    refine r_nil ?_
    refine w_reg_seq 449 1345 rfl rfl ?_
    refine qp (.val none (.int .u8 (v1000.toNat : Int))) rfl (qp (AB (decide ((v1000.toNat : Int) < (97 : Int)))) rfl (qp (AB (decide ((v1000.toNat : Int) < (97 : Int)))) rfl ?_))
    refine q_case 15 hF rfl (fun hF => ?_) (fun hF => ?_)
    ·
      refine qn rfl (qn rfl (qp (AB true) rfl (qp (AB true) rfl (qg (.val none (.int .u8 (v1000.toNat : Int))) rfl rfl (qg (AB (decide ((v1000.toNat : Int) < (48 : Int)))) rfl rfl (qg (AB (decide ((v1000.toNat : Int) < (48 : Int)))) rfl rfl ?_))))))
      refine q_case 22 hF rfl (fun hF => ?_) (fun hF => ?_)
      ·
        refine qn rfl (qn rfl (qg (AB true) rfl rfl (qp (AB true) rfl ?_)))
        refine r_nil ?_
        refine w_true rfl ?_
        refine w_reg_seq 1345 1409 rfl rfl ?_
        refine qp (AB false) rfl ?_
        refine r_nil ?_
        refine w_ret ?_
        refine blockQ_r ?_
        refine thenQ_r ?_
        refine thenQ_r ?_
        refine blockQ_r ?_
        refine thenQ_r ?_
        cases hF
        exact endQ_r rfl (.inl ⟨_, _, by first | rfl | (simp [List.take_of_length_le]; first | exact ⟨rfl, rfl⟩ | rfl), by simp, by first | rfl | simp [res_impl_onlyNameBytes, List.take_of_length_le]⟩)
      ·
        refine qg (.val none (.int .u8 (v1000.toNat : Int))) rfl rfl (qg (AB (decide ((57 : Int) < (v1000.toNat : Int)))) rfl rfl (qg (AB (decide ((57 : Int) < (v1000.toNat : Int)))) rfl rfl (qp (AB (decide ((57 : Int) < (v1000.toNat : Int)))) rfl ?_)))
        refine r_nil ?_
        refine w_condF hF rfl (fun hF => ?_) (fun hF => ?_)
        ·
          refine w_reg_seq 1345 1409 rfl rfl ?_
          refine qp (AB false) rfl ?_
          refine r_nil ?_
          refine w_ret ?_
          refine blockQ_r ?_
          refine thenQ_r ?_
          refine thenQ_r ?_
          refine blockQ_r ?_
          refine thenQ_r ?_
          cases hF
          exact endQ_r rfl (.inl ⟨_, _, by first | rfl | (simp [List.take_of_length_le]; first | exact ⟨rfl, rfl⟩ | rfl), by simp, by first | rfl | simp [res_impl_onlyNameBytes, List.take_of_length_le]⟩)
        ·
          refine w_skip ?_
          refine blockQ_n ?_
          refine thenQ_n ?_
          refine w_reg 1345 1473 rfl rfl ?_
          refine qp (AI (w64 (v4 + 1))) rfl (qp (AI (w64 (v4 + 1))) rfl ?_)
          refine r_nil ?_
          refine thenQ_n ?_
          refine aw_ren (l' := [(0, AS v0), (6, AI (v0.length : Int)), (7, AI (w64 (v4 + 1)))]) (L := []) [0, 6, 7] [] 1 (by first | rfl | simp) (by first | rfl | simp) (by decide) (by decide) (by decide) ⟨_, by rfl, hF⟩
    ·
      refine qg (.val none (.int .u8 (v1000.toNat : Int))) rfl rfl (qg (AB (decide ((122 : Int) < (v1000.toNat : Int)))) rfl rfl (qp (AB (decide ((122 : Int) < (v1000.toNat : Int)))) rfl (qp (AB (decide ((122 : Int) < (v1000.toNat : Int)))) rfl ?_)))
      refine q_case 19 hF rfl (fun hF => ?_) (fun hF => ?_)
      ·
        refine qg (.val none (.int .u8 (v1000.toNat : Int))) rfl rfl (qg (AB (decide ((v1000.toNat : Int) < (48 : Int)))) rfl rfl (qg (AB (decide ((v1000.toNat : Int) < (48 : Int)))) rfl rfl ?_))
        refine q_case 22 hF rfl (fun hF => ?_) (fun hF => ?_)
        ·
          refine qn rfl (qn rfl (qg (AB true) rfl rfl (qp (AB true) rfl ?_)))
          refine r_nil ?_
          refine w_true rfl ?_
          refine w_reg_seq 1345 1409 rfl rfl ?_
          refine qp (AB false) rfl ?_
          refine r_nil ?_
          refine w_ret ?_
          refine blockQ_r ?_
          refine thenQ_r ?_
          refine thenQ_r ?_
          refine blockQ_r ?_
          refine thenQ_r ?_
          cases hF
          exact endQ_r rfl (.inl ⟨_, _, by first | rfl | (simp [List.take_of_length_le]; first | exact ⟨rfl, rfl⟩ | rfl), by simp, by first | rfl | simp [res_impl_onlyNameBytes, List.take_of_length_le]⟩)
        ·
          refine qg (.val none (.int .u8 (v1000.toNat : Int))) rfl rfl (qg (AB (decide ((57 : Int) < (v1000.toNat : Int)))) rfl rfl (qg (AB (decide ((57 : Int) < (v1000.toNat : Int)))) rfl rfl (qp (AB (decide ((57 : Int) < (v1000.toNat : Int)))) rfl ?_)))
          refine r_nil ?_
          refine w_condF hF rfl (fun hF => ?_) (fun hF => ?_)
          ·
            refine w_reg_seq 1345 1409 rfl rfl ?_
            refine qp (AB false) rfl ?_
            refine r_nil ?_
            refine w_ret ?_
            refine blockQ_r ?_
            refine thenQ_r ?_
            refine thenQ_r ?_
            refine blockQ_r ?_
            refine thenQ_r ?_
            cases hF
            exact endQ_r rfl (.inl ⟨_, _, by first | rfl | (simp [List.take_of_length_le]; first | exact ⟨rfl, rfl⟩ | rfl), by simp, by first | rfl | simp [res_impl_onlyNameBytes, List.take_of_length_le]⟩)
          ·
            refine w_skip ?_
            refine blockQ_n ?_
            refine thenQ_n ?_
            refine w_reg 1345 1473 rfl rfl ?_
            refine qp (AI (w64 (v4 + 1))) rfl (qp (AI (w64 (v4 + 1))) rfl ?_)
            refine r_nil ?_
            refine thenQ_n ?_
            refine aw_ren (l' := [(0, AS v0), (6, AI (v0.length : Int)), (7, AI (w64 (v4 + 1)))]) (L := []) [0, 6, 7] [] 1 (by first | rfl | simp) (by first | rfl | simp) (by decide) (by decide) (by decide) ⟨_, by rfl, hF⟩
      ·
        refine qn rfl (qn rfl (qn rfl (qu rfl (qu rfl (qn rfl (qp (AB false) rfl ?_))))))
        refine r_nil ?_
        refine w_false rfl ?_
        refine w_skip ?_
        refine blockQ_n ?_
        refine thenQ_n ?_
        refine w_reg 1345 1473 rfl rfl ?_
        refine qp (AI (w64 (v4 + 1))) rfl (qp (AI (w64 (v4 + 1))) rfl ?_)
        refine r_nil ?_
        refine thenQ_n ?_
        refine aw_ren (l' := [(0, AS v0), (6, AI (v0.length : Int)), (7, AI (w64 (v4 + 1)))]) (L := []) [0, 6, 7] [] 1 (by first | rfl | simp) (by first | rfl | simp) (by decide) (by decide) (by decide) ⟨_, by rfl, hF⟩
  ·
    refine w_exit ?_
    refine thenQ_e ?_
    refine thenQ_e ?_
    refine blockQ_e ?_
    refine thenQ_n ?_
    refine w_reg_seq 65 129 rfl rfl ?_
    refine qp (AB true) rfl ?_
    refine r_nil ?_
    refine w_ret ?_
    cases hF
    exact endQ_r rfl (.inl ⟨_, _, by first | rfl | (simp [List.take_of_length_le]; first | exact ⟨rfl, rfl⟩ | rfl), by simp, by first | rfl | simp [res_impl_onlyNameBytes, List.take_of_length_le]⟩)

def c78 : MC := (.seq (.reg [⟨(some 2), none, (.p true (.mv (.c (.bool false))))⟩]) (.seq (.seq (.reg [⟨(some 3), none, (.p true (.mv (.t 0)))⟩, ⟨(some 4), none, (.p true (.lens (.t 3)))⟩, ⟨(some 5), none, (.p true (.bin .lss (.t 4) (.c (.int .i64 1))))⟩, ⟨(some 6), none, (.p true (.mv (.t 5)))⟩, ⟨(some 7), (some (6, false)), (.p true (.mv (.t 0)))⟩, ⟨(some 8), (some (6, false)), (.p true (.lens (.t 7)))⟩, ⟨(some 9), (some (6, false)), (.p true (.bin .gtr (.t 8) (.c (.int .i64 10))))⟩, ⟨(some 10), none, (.p true (.pick (.t 6) (.c (.bool true)) (.t 9)))⟩, ⟨(some 11), none, (.p true (.mv (.t 10)))⟩, ⟨(some 12), (some (11, false)), (.p true (.mv (.t 0)))⟩, ⟨(some 13), (some (11, false)), (.p true (.ixs (.t 12) (.c (.int .i64 0))))⟩, ⟨(some 14), (some (11, false)), (.p true (.bin .lss (.t 13) (.c (.int .u8 97))))⟩, ⟨(some 15), none, (.p true (.pick (.t 11) (.c (.bool true)) (.t 14)))⟩, ⟨(some 16), none, (.p true (.mv (.t 15)))⟩, ⟨(some 17), (some (16, false)), (.p true (.mv (.t 0)))⟩, ⟨(some 18), (some (16, false)), (.p true (.ixs (.t 17) (.c (.int .i64 0))))⟩, ⟨(some 19), (some (16, false)), (.p true (.bin .gtr (.t 18) (.c (.int .u8 122))))⟩, ⟨(some 20), none, (.p true (.pick (.t 16) (.c (.bool true)) (.t 19)))⟩]) (.cond (.t 20) (.seq (.reg [⟨(some 2), none, (.p true (.mv (.c (.bool false))))⟩]) .ret) .skip)) (.seq (.reg [⟨(some 21), none, (.p true (.mv (.t 0)))⟩, ⟨(some 22), none, (.call true 99 [(.t 21)])⟩, ⟨(some 2), none, (.p true (.mv (.t 22)))⟩]) .ret)))
theorem c78_is : compFn Try.prog 78 = some (c78, [(.tmp 2)]) := by kernel_rfl
theorem c78_ok : okFn Try.prog 78 = true := by kernel_rfl

def F_impl_IsName (v0 : List UInt8) : Option (Bool) :=
  (bif (decide ((v0.length : Int) < (1 : Int))) then some false
  else (bif (decide ((10 : Int) < (v0.length : Int))) then some false
  else ((ix v0 0).bind fun v1000 => (bif (decide ((v1000.toNat : Int) < (97 : Int))) then some false
  else ((ix v0 0).bind fun v1001 => (bif (decide ((122 : Int) < (v1001.toNat : Int))) then some false
  else ((F_impl_onlyNameBytes v0).bind fun v1002 => some v1002)))))))
@[simp] def res_impl_IsName (r : Bool) : RV := .one (.one (.val (.bool r)))
theorem con_impl_IsName {v0 : List UInt8} {r : Bool} (hF : F_impl_IsName v0 = some r) : Con Try.prog 78 [.str v0] (res_impl_IsName r) := by
  unfold F_impl_IsName at hF
  refine con_of c78_is fun N => ?_
  refine w_reg_seq 0 64 rfl rfl ?_
  refine qp (AB false) rfl ?_
  refine r_nil ?_
  refine w_seq ?_
  refine w_reg_seq 64 1216 rfl rfl ?_
  refine qp (AS v0) rfl (qp (AI (v0.length : Int)) rfl (qp (AB (decide ((v0.length : Int) < (1 : Int)))) rfl (qp (AB (decide ((v0.length : Int) < (1 : Int)))) rfl ?_)))
  refine q_case 6 hF rfl (fun hF => ?_) (fun hF => ?_)
  ·
    refine qn rfl (qn rfl (qn rfl (qp (AB true) rfl (qp (AB true) rfl (qn rfl (qn rfl (qn rfl ?_)))))))
    refine qp (AB true) rfl (qp (AB true) rfl (qn rfl (qn rfl (qn rfl (qp (AB true) rfl ?_)))))
    refine r_nil ?_
    refine w_true rfl ?_
    refine w_reg_seq 1216 1280 rfl rfl ?_
    refine qp (AB false) rfl ?_
    refine r_nil ?_
    refine w_ret ?_
    refine thenQ_r ?_
    cases hF
    exact endQ_r rfl (.inl ⟨_, _, by first | rfl | (simp [List.take_of_length_le]; first | exact ⟨rfl, rfl⟩ | rfl), by simp, by first | rfl | simp [res_impl_IsName, List.take_of_length_le]⟩)
  ·
    refine qg (AS v0) rfl rfl (qg (AI (v0.length : Int)) rfl rfl (qg (AB (decide ((10 : Int) < (v0.length : Int)))) rfl rfl (qp (AB (decide ((10 : Int) < (v0.length : Int)))) rfl (qp (AB (decide ((10 : Int) < (v0.length : Int)))) rfl ?_))))
    refine q_case 11 hF rfl (fun hF => ?_) (fun hF => ?_)
    ·
      refine qn rfl (qn rfl (qn rfl (qp (AB true) rfl (qp (AB true) rfl (qn rfl (qn rfl (qn rfl ?_)))))))
      refine qp (AB true) rfl ?_
      refine r_nil ?_
      refine w_true rfl ?_
      refine w_reg_seq 1216 1280 rfl rfl ?_
      refine qp (AB false) rfl ?_
      refine r_nil ?_
      refine w_ret ?_
      refine thenQ_r ?_
      cases hF
      exact endQ_r rfl (.inl ⟨_, _, by first | rfl | (simp [List.take_of_length_le]; first | exact ⟨rfl, rfl⟩ | rfl), by simp, by first | rfl | simp [res_impl_IsName, List.take_of_length_le]⟩)
    ·
      refine qg (AS v0) rfl rfl ?_
      obtain ⟨v1000, e1000, hF⟩ := bind_get hF
      refine qg (.val none (.int .u8 (v1000.toNat : Int))) rfl (ev_ixs rfl rfl e1000) (qg (AB (decide ((v1000.toNat : Int) < (97 : Int)))) rfl rfl (qp (AB (decide ((v1000.toNat : Int) < (97 : Int)))) rfl (qp (AB (decide ((v1000.toNat : Int) < (97 : Int)))) rfl ?_)))
      refine q_case 16 hF rfl (fun hF => ?_) (fun hF => ?_)
      ·
        refine qn rfl (qn rfl (qn rfl (qp (AB true) rfl ?_)))
        refine r_nil ?_
        refine w_true rfl ?_
        refine w_reg_seq 1216 1280 rfl rfl ?_
        refine qp (AB false) rfl ?_
        refine r_nil ?_
        refine w_ret ?_
        refine thenQ_r ?_
        cases hF
        exact endQ_r rfl (.inl ⟨_, _, by first | rfl | (simp [List.take_of_length_le]; first | exact ⟨rfl, rfl⟩ | rfl), by simp, by first | rfl | simp [res_impl_IsName, List.take_of_length_le]⟩)
      ·
        refine qg (AS v0) rfl rfl ?_
        obtain ⟨v1001, e1001, hF⟩ := bind_get hF
        refine qg (.val none (.int .u8 (v1001.toNat : Int))) rfl (ev_ixs rfl rfl e1001) (qg (AB (decide ((122 : Int) < (v1001.toNat : Int)))) rfl rfl (qp (AB (decide ((122 : Int) < (v1001.toNat : Int)))) rfl ?_))
        refine r_nil ?_
        refine w_condF hF rfl (fun hF => ?_) (fun hF => ?_)
        ·
          refine w_reg_seq 1216 1280 rfl rfl ?_
          refine qp (AB false) rfl ?_
          refine r_nil ?_
          refine w_ret ?_
          refine thenQ_r ?_
          cases hF
          exact endQ_r rfl (.inl ⟨_, _, by first | rfl | (simp [List.take_of_length_le]; first | exact ⟨rfl, rfl⟩ | rfl), by simp, by first | rfl | simp [res_impl_IsName, List.take_of_length_le]⟩)
        ·
          refine w_skip ?_
          refine thenQ_n ?_
          refine w_reg_seq 1216 1408 rfl rfl ?_
          refine qp (AS v0) rfl ?_
          obtain ⟨v1002, e1002, hF⟩ := bind_get hF
          refine qc (AB v1002) [] false (con_impl_onlyNameBytes e1002) c99_ok (by first | rfl | simp) rfl ?_
          refine qp (AB v1002) rfl ?_
          refine r_nil ?_
          refine w_ret ?_
          cases hF
          exact endQ_r rfl (.inl ⟨_, _, by first | rfl | (simp [List.take_of_length_le]; first | exact ⟨rfl, rfl⟩ | rfl), by simp, by first | rfl | simp [res_impl_IsName, List.take_of_length_le]⟩)

theorem c129_x : IsIdx Try.prog 129 := ⟨by kernel_rfl, by kernel_rfl, by kernel_rfl, by kernel_rfl⟩




def c125 : MC := (.seq (.reg [⟨(some 4), none, (.p true (.mv (.c (.int .i64 0))))⟩]) (.seq (.reg [⟨(some 5), none, (.p true (.mv (.t 0)))⟩, ⟨(some 6), none, (.p true (.mv (.t 1)))⟩, ⟨(some 7), none, (.call true 129 [(.t 5), (.t 6)])⟩, ⟨(some 4), none, (.p true (.mv (.t 7)))⟩]) .ret))
theorem c125_is : compFn Try.prog 125 = some (c125, [(.tmp 4)]) := by kernel_rfl
theorem c125_ok : okFn Try.prog 125 = true := by kernel_rfl

def F_stringslite_IndexByte (v0 : List UInt8) (v1 : Int) : Option (Int) :=
  some (byteIdx v0 (v1).toNat.toUInt8)
@[simp] def res_stringslite_IndexByte (r : Int) : RV := .one (.one (.val (.int .i64 r)))
theorem con_stringslite_IndexByte {v0 : List UInt8} {v1 : Int} {r : Int} (hF : F_stringslite_IndexByte v0 v1 = some r) : Con Try.prog 125 [.str v0, .int .u8 v1] (res_stringslite_IndexByte r) := by
  unfold F_stringslite_IndexByte at hF
  refine con_of c125_is fun N => ?_
  refine w_reg_seq 0 64 rfl rfl ?_
  refine qp (AI 0) rfl ?_
  refine r_nil ?_
  refine w_reg_seq 64 320 rfl rfl ?_
  refine qp (AS v0) rfl (qp (.val none (.int .u8 v1)) rfl ?_)
  refine qx (s := v0) (c := v1) c129_x (by first | rfl | simp) ?_
  refine qp (AI (byteIdx v0 (v1).toNat.toUInt8)) rfl ?_
  refine r_nil ?_
  refine w_ret ?_
  cases hF
  exact endQ_r rfl (.inl ⟨_, _, by first | rfl | (simp [List.take_of_length_le]; first | exact ⟨rfl, rfl⟩ | rfl), by simp, by first | rfl | simp [res_stringslite_IndexByte, List.take_of_length_le]⟩)

def c118 : MC := (.seq (.reg [⟨(some 4), none, (.p true (.mv (.c (.int .i64 0))))⟩]) (.seq (.reg [⟨(some 14), none, (.p true (.mv (.t 1)))⟩, ⟨(some 15), none, (.p true (.lens (.t 14)))⟩, ⟨(some 5), none, (.p true (.mv (.t 15)))⟩]) (.seq (.block 0 (.seq (.reg [⟨(some 17), none, (.p true (.mv (.t 5)))⟩, ⟨(some 18), none, (.p true (.bin .eql (.t 17) (.c (.int .i64 0))))⟩, ⟨(some 19), none, (.p true (.mv (.t 18)))⟩, ⟨(some 20), (some (19, false)), (.p true (.mv (.t 1)))⟩, ⟨(some 21), (some (19, false)), (.p true (.mv (.t 0)))⟩, ⟨(some 22), (some (19, false)), (.p true (.bin .eql (.t 20) (.t 21)))⟩, ⟨(some 23), none, (.p true (.pick (.t 19) (.c (.bool true)) (.t 22)))⟩, ⟨(some 16), none, (.p true (.mv (.t 23)))⟩]) (.cond (.t 16) (.seq (.reg [⟨(some 4), none, (.p true (.mv (.c (.int .i64 0))))⟩]) .ret) (.seq (.reg [⟨(some 25), none, (.p true (.mv (.t 5)))⟩, ⟨(some 26), none, (.p true (.bin .eql (.t 25) (.c (.int .i64 1))))⟩, ⟨(some 24), none, (.p true (.mv (.t 26)))⟩]) (.cond (.t 24) (.seq (.reg [⟨(some 27), none, (.p true (.mv (.t 0)))⟩, ⟨(some 28), none, (.p true (.mv (.t 1)))⟩, ⟨(some 29), none, (.p true (.ixs (.t 28) (.c (.int .i64 0))))⟩, ⟨(some 30), none, (.call true 125 [(.t 27), (.t 29)])⟩, ⟨(some 4), none, (.p true (.mv (.t 30)))⟩]) .ret) (.seq (.reg [⟨(some 32), none, (.p true (.mv (.t 5)))⟩, ⟨(some 33), none, (.p true (.mv (.t 0)))⟩, ⟨(some 34), none, (.p true (.lens (.t 33)))⟩, ⟨(some 35), none, (.p true (.bin .geq (.t 32) (.t 34)))⟩, ⟨(some 31), none, (.p true (.mv (.t 35)))⟩]) (.cond (.t 31) (.seq (.reg [⟨(some 4), none, (.p true (.mv (.c (.int .i64 (-1)))))⟩]) .ret) (.seq .bad (.cond (.t 36) (.seq (.reg [⟨(some 45), none, (.p true (.mv (.t 0)))⟩, ⟨(some 46), none, (.p true (.mv (.t 1)))⟩, ⟨(some 47), none, (.call true 126 [(.t 45), (.t 46)])⟩, ⟨(some 4), none, (.p true (.mv (.t 47)))⟩]) .ret) .skip))))))))) (.seq (.reg [⟨(some 48), none, (.p true (.mv (.t 1)))⟩, ⟨(some 49), none, (.p true (.ixs (.t 48) (.c (.int .i64 0))))⟩, ⟨(some 6), none, (.p true (.mv (.t 49)))⟩]) (.seq (.reg [⟨(some 50), none, (.p true (.mv (.t 1)))⟩, ⟨(some 51), none, (.p true (.ixs (.t 50) (.c (.int .i64 1))))⟩, ⟨(some 7), none, (.p true (.mv (.t 51)))⟩]) (.seq (.reg [⟨(some 8), none, (.p true (.mv (.c (.int .i64 0))))⟩]) (.seq (.reg [⟨(some 52), none, (.p true (.mv (.t 0)))⟩, ⟨(some 53), none, (.p true (.lens (.t 52)))⟩, ⟨(some 54), none, (.p true (.mv (.t 5)))⟩, ⟨(some 55), none, (.p true (.bin .sub (.t 53) (.t 54)))⟩, ⟨(some 56), none, (.p true (.bin .add (.t 55) (.c (.int .i64 1))))⟩, ⟨(some 9), none, (.p true (.mv (.t 56)))⟩]) (.seq (.reg [⟨(some 10), none, (.p true (.mv (.c (.int .i64 0))))⟩]) (.seq (.block 1 (.loop (.seq (.seq (.reg [⟨(some 57), none, (.p true (.mv (.t 8)))⟩, ⟨(some 58), none, (.p true (.mv (.t 9)))⟩, ⟨(some 59), none, (.p true (.bin .lss (.t 57) (.t 58)))⟩]) (.cond (.t 59) .skip (.exit 1))) (.block 2 (.seq (.seq (.reg [⟨(some 60), none, (.p true (.mv (.t 0)))⟩, ⟨(some 61), none, (.p true (.mv (.t 8)))⟩, ⟨(some 62), none, (.p true (.ixs (.t 60) (.t 61)))⟩, ⟨(some 63), none, (.p true (.mv (.t 6)))⟩, ⟨(some 64), none, (.p true (.bin .neq (.t 62) (.t 63)))⟩]) (.cond (.t 64) (.seq (.reg [⟨(some 65), none, (.p true (.mv (.t 0)))⟩, ⟨(some 66), none, (.p true (.mv (.t 8)))⟩, ⟨(some 67), none, (.p true (.bin .add (.t 66) (.c (.int .i64 1))))⟩, ⟨(some 68), none, (.p true (.mv (.t 9)))⟩, ⟨(some 69), none, (.p true (.slcs (.t 65) (some (.t 67)) (some (.t 68))))⟩, ⟨(some 70), none, (.p true (.mv (.t 6)))⟩, ⟨(some 71), none, (.call true 125 [(.t 69), (.t 70)])⟩, ⟨(some 11), none, (.p true (.mv (.t 71)))⟩]) (.seq (.seq (.reg [⟨(some 72), none, (.p true (.mv (.t 11)))⟩, ⟨(some 73), none, (.p true (.bin .lss (.t 72) (.c (.int .i64 0))))⟩]) (.cond (.t 73) (.seq (.reg [⟨(some 4), none, (.p true (.mv (.c (.int .i64 (-1)))))⟩]) .ret) .skip)) (.reg [⟨(some 74), none, (.p true (.mv (.t 8)))⟩, ⟨(some 75), none, (.p true (.mv (.t 11)))⟩, ⟨(some 76), none, (.p true (.bin .add (.t 75) (.c (.int .i64 1))))⟩, ⟨(some 77), none, (.p true (.bin .add (.t 74) (.t 76)))⟩, ⟨(some 8), none, (.p true (.mv (.t 77)))⟩]))) .skip)) (.seq (.seq (.reg [⟨(some 78), none, (.p true (.mv (.t 0)))⟩, ⟨(some 79), none, (.p true (.mv (.t 8)))⟩, ⟨(some 80), none, (.p true (.bin .add (.t 79) (.c (.int .i64 1))))⟩, ⟨(some 81), none, (.p true (.ixs (.t 78) (.t 80)))⟩, ⟨(some 82), none, (.p true (.mv (.t 7)))⟩, ⟨(some 83), none, (.p true (.bin .eql (.t 81) (.t 82)))⟩, ⟨(some 84), none, (.p true (.mv (.t 83)))⟩, ⟨(some 85), (some (84, true)), (.p true (.mv (.t 0)))⟩, ⟨(some 86), (some (84, true)), (.p true (.mv (.t 8)))⟩, ⟨(some 87), (some (84, true)), (.p true (.mv (.t 8)))⟩, ⟨(some 88), (some (84, true)), (.p true (.mv (.t 5)))⟩, ⟨(some 89), (some (84, true)), (.p true (.bin .add (.t 87) (.t 88)))⟩, ⟨(some 90), (some (84, true)), (.p true (.slcs (.t 85) (some (.t 86)) (some (.t 89))))⟩, ⟨(some 91), (some (84, true)), (.p true (.mv (.t 1)))⟩, ⟨(some 92), (some (84, true)), (.p true (.bin .eql (.t 90) (.t 91)))⟩, ⟨(some 93), none, (.p true (.pick (.t 84) (.t 92) (.c (.bool false))))⟩]) (.cond (.t 93) (.seq (.reg [⟨(some 94), none, (.p true (.mv (.t 8)))⟩, ⟨(some 4), none, (.p true (.mv (.t 94)))⟩]) .ret) .skip)) (.seq (.reg [⟨(some 95), none, (.p true (.mv (.t 8)))⟩, ⟨(some 96), none, (.p true (.bin .add (.t 95) (.c (.int .i64 1))))⟩, ⟨(some 8), none, (.p true (.mv (.t 96)))⟩]) (.seq (.reg [⟨(some 97), none, (.p true (.mv (.t 10)))⟩, ⟨(some 98), none, (.p true (.bin .add (.t 97) (.c (.int .i64 1))))⟩, ⟨(some 10), none, (.p true (.mv (.t 98)))⟩]) (.seq .bad (.cond (.t 107) (.seq (.reg [⟨(some 108), none, (.p true (.mv (.t 0)))⟩, ⟨(some 109), none, (.p true (.mv (.t 8)))⟩, ⟨(some 110), none, (.p true (.slcs (.t 108) (some (.t 109)) none))⟩, ⟨(some 111), none, (.p true (.mv (.t 1)))⟩, ⟨(some 112), none, (.call true 126 [(.t 110), (.t 111)])⟩, ⟨(some 12), none, (.p true (.mv (.t 112)))⟩]) (.seq (.seq (.reg [⟨(some 113), none, (.p true (.mv (.t 12)))⟩, ⟨(some 114), none, (.p true (.bin .geq (.t 113) (.c (.int .i64 0))))⟩]) (.cond (.t 114) (.seq (.reg [⟨(some 115), none, (.p true (.mv (.t 12)))⟩, ⟨(some 116), none, (.p true (.mv (.t 8)))⟩, ⟨(some 117), none, (.p true (.bin .add (.t 115) (.t 116)))⟩, ⟨(some 4), none, (.p true (.mv (.t 117)))⟩]) .ret) .skip)) (.seq (.reg [⟨(some 4), none, (.p true (.mv (.c (.int .i64 (-1)))))⟩]) .ret))) (.seq .bad (.cond (.t 132) (.seq (.reg [⟨(some 133), none, (.p true (.mv (.t 0)))⟩, ⟨(some 134), none, (.p true (.mv (.t 8)))⟩, ⟨(some 135), none, (.p true (.slcs (.t 133) (some (.t 134)) none))⟩, ⟨(some 136), none, (.p true (.mv (.t 1)))⟩, ⟨(some 137), none, (.call true 128 [(.t 135), (.t 136)])⟩, ⟨(some 13), none, (.p true (.mv (.t 137)))⟩]) (.seq (.seq (.reg [⟨(some 138), none, (.p true (.mv (.t 13)))⟩, ⟨(some 139), none, (.p true (.bin .lss (.t 138) (.c (.int .i64 0))))⟩]) (.cond (.t 139) (.seq (.reg [⟨(some 4), none, (.p true (.mv (.c (.int .i64 (-1)))))⟩]) .ret) .skip)) (.seq (.reg [⟨(some 140), none, (.p true (.mv (.t 8)))⟩, ⟨(some 141), none, (.p true (.mv (.t 13)))⟩, ⟨(some 142), none, (.p true (.bin .add (.t 140) (.t 141)))⟩, ⟨(some 4), none, (.p true (.mv (.t 142)))⟩]) .ret))) .skip)))))))))))) (.seq (.reg [⟨(some 4), none, (.p true (.mv (.c (.int .i64 (-1)))))⟩]) .ret))))))))))
theorem c118_is : compFn Try.prog 118 = some (c118, [(.tmp 4)]) := by kernel_rfl
theorem c118_ok : okFn Try.prog 118 = true := by kernel_rfl

def F_stringslite_Index_j0 (v0 : List UInt8) (v1 : List UInt8) (v2 : Bool) : Option (Int) :=
  (bif v2 then some 0
  else (bif (decide ((v1.length : Int) = (1 : Int))) then ((ix v1 0).bind fun v1000 => ((F_stringslite_IndexByte v0 (v1000.toNat : Int)).bind fun v1001 => some v1001))
  else (bif (decide ((v0.length : Int) ≤ (v1.length : Int))) then some (-1)
  else none)))
def F_stringslite_Index (v0 : List UInt8) (v1 : List UInt8) : Option (Int) :=
  (bif (decide ((v1.length : Int) = (0 : Int))) then F_stringslite_Index_j0 v0 v1 true
  else F_stringslite_Index_j0 v0 v1 (decide (v1 = v0)))
@[simp] def res_stringslite_Index (r : Int) : RV := .one (.one (.val (.int .i64 r)))
theorem con_stringslite_Index {v0 : List UInt8} {v1 : List UInt8} {r : Int} (hF : F_stringslite_Index v0 v1 = some r) : Con Try.prog 118 [.str v0, .str v1] (res_stringslite_Index r) := by
  unfold F_stringslite_Index at hF
  refine con_of c118_is fun N => ?_
  refine w_reg_seq 0 64 rfl rfl ?_
  refine qp (AI 0) rfl ?_
  refine r_nil ?_
  refine w_reg_seq 64 256 rfl rfl ?_
  refine qp (AS v1) rfl (qp (AI (v1.length : Int)) rfl (qp (AI (v1.length : Int)) rfl ?_))
  refine r_nil ?_
  refine w_seq ?_
  refine w_block ?_
  refine w_meet (fun s' => ∃ (v2 : Bool), s' = mkS [(0, AS v0), (1, AS v1), (5, AI (v1.length : Int)), (16, AB v2)] (fo []) 1 ∧ F_stringslite_Index_j0 v0 v1 v2 = some r) ?_ ?_
  ·
    refine w_reg 256 768 rfl rfl ?_
    refine qp (AI (v1.length : Int)) rfl (qp (AB (decide ((v1.length : Int) = (0 : Int)))) rfl (qp (AB (decide ((v1.length : Int) = (0 : Int)))) rfl ?_))
    refine q_case 19 hF rfl (fun hF => ?_) (fun hF => ?_)
    ·
      refine qn rfl (qn rfl (qn rfl (qp (AB true) rfl (qp (AB true) rfl ?_))))
      refine r_nil ?_
      refine thenQ_n ?_
      refine aw_ren (l' := [(0, AS v0), (1, AS v1), (5, AI (v1.length : Int)), (16, AB true)]) (L := []) [0, 1, 5, 16] [] 1 (by first | rfl | simp) (by first | rfl | simp) (by decide) (by decide) (by decide) ⟨_, rfl, hF⟩
    ·
      refine qg (AS v1) rfl rfl (qg (AS v0) rfl rfl (qg (AB (decide (v1 = v0))) rfl rfl (qp (AB (decide (v1 = v0))) rfl (qp (AB (decide (v1 = v0))) rfl ?_))))
      refine r_nil ?_
      refine thenQ_n ?_
      refine aw_ren (l' := [(0, AS v0), (1, AS v1), (5, AI (v1.length : Int)), (16, AB (decide (v1 = v0)))]) (L := []) [0, 1, 5, 16] [] 1 (by first | rfl | simp) (by first | rfl | simp) (by decide) (by decide) (by decide) ⟨_, rfl, hF⟩
  ·
    rintro s' ⟨v2, rfl, hF⟩
    unfold F_stringslite_Index_j0 at hF
    refine w_condF hF rfl (fun hF => ?_) (fun hF => ?_)
    ·
      refine w_reg_seq 1 65 rfl rfl ?_
      refine qp (AI 0) rfl ?_
      refine r_nil ?_
      refine w_ret ?_
      refine blockQ_r ?_
      refine thenQ_r ?_
      cases hF
      exact endQ_r rfl (.inl ⟨_, _, by first | rfl | (simp [List.take_of_length_le]; first | exact ⟨rfl, rfl⟩ | rfl), by simp, by first | rfl | simp [res_stringslite_Index, List.take_of_length_le]⟩)
    ·
      refine w_reg_seq 1 193 rfl rfl ?_
      refine qp (AI (v1.length : Int)) rfl (qp (AB (decide ((v1.length : Int) = (1 : Int)))) rfl (qp (AB (decide ((v1.length : Int) = (1 : Int)))) rfl ?_))
      refine r_nil ?_
      refine w_condF hF rfl (fun hF => ?_) (fun hF => ?_)
      ·
        refine w_reg_seq 193 513 rfl rfl ?_
        refine qp (AS v0) rfl (qp (AS v1) rfl ?_)
        obtain ⟨v1000, e1000, hF⟩ := bind_get hF
        refine qp (.val none (.int .u8 (v1000.toNat : Int))) (ev_ixs rfl rfl e1000) ?_
        obtain ⟨v1001, e1001, hF⟩ := bind_get hF
        refine qc (AI v1001) [] false (con_stringslite_IndexByte e1001) c125_ok (by first | rfl | simp) rfl ?_
        refine qp (AI v1001) rfl ?_
        refine r_nil ?_
        refine w_ret ?_
        refine blockQ_r ?_
        refine thenQ_r ?_
        cases hF
        exact endQ_r rfl (.inl ⟨_, _, by first | rfl | (simp [List.take_of_length_le]; first | exact ⟨rfl, rfl⟩ | rfl), by simp, by first | rfl | simp [res_stringslite_Index, List.take_of_length_le]⟩)
      ·
        refine w_reg_seq 193 513 rfl rfl ?_
        refine qp (AI (v1.length : Int)) rfl (qp (AS v0) rfl (qp (AI (v0.length : Int)) rfl (qp (AB (decide ((v0.length : Int) ≤ (v1.length : Int)))) rfl (qp (AB (decide ((v0.length : Int) ≤ (v1.length : Int)))) rfl ?_))))
        refine r_nil ?_
        refine w_condF hF rfl (fun hF => ?_) (fun hF => ?_)
        ·
          refine w_reg_seq 513 577 rfl rfl ?_
          refine qp (AI (-1)) rfl ?_
          refine r_nil ?_
          refine w_ret ?_
          refine blockQ_r ?_
          refine thenQ_r ?_
          cases hF
          exact endQ_r rfl (.inl ⟨_, _, by first | rfl | (simp [List.take_of_length_le]; first | exact ⟨rfl, rfl⟩ | rfl), by simp, by first | rfl | simp [res_stringslite_Index, List.take_of_length_le]⟩)
        ·
          refine w_seq ?_
          cases hF

def c100 : MC := (.seq (.reg [⟨(some 4), none, (.p true (.mv (.c (.int .i64 0))))⟩]) (.seq (.reg [⟨(some 5), none, (.p true (.mv (.t 0)))⟩, ⟨(some 6), none, (.p true (.mv (.t 1)))⟩, ⟨(some 7), none, (.call true 118 [(.t 5), (.t 6)])⟩, ⟨(some 4), none, (.p true (.mv (.t 7)))⟩]) .ret))
theorem c100_is : compFn Try.prog 100 = some (c100, [(.tmp 4)]) := by kernel_rfl
theorem c100_ok : okFn Try.prog 100 = true := by kernel_rfl

def F_strings_Index (v0 : List UInt8) (v1 : List UInt8) : Option (Int) :=
  ((F_stringslite_Index v0 v1).bind fun v1000 => some v1000)
@[simp] def res_strings_Index (r : Int) : RV := .one (.one (.val (.int .i64 r)))
theorem con_strings_Index {v0 : List UInt8} {v1 : List UInt8} {r : Int} (hF : F_strings_Index v0 v1 = some r) : Con Try.prog 100 [.str v0, .str v1] (res_strings_Index r) := by
  unfold F_strings_Index at hF
  refine con_of c100_is fun N => ?_
  refine w_reg_seq 0 64 rfl rfl ?_
  refine qp (AI 0) rfl ?_
  refine r_nil ?_
  refine w_reg_seq 64 320 rfl rfl ?_
  refine qp (AS v0) rfl (qp (AS v1) rfl ?_)
  obtain ⟨v1000, e1000, hF⟩ := bind_get hF
  refine qc (AI v1000) [] false (con_stringslite_Index e1000) c118_ok (by first | rfl | simp) rfl ?_
  refine qp (AI v1000) rfl ?_
  refine r_nil ?_
  refine w_ret ?_
  cases hF
  exact endQ_r rfl (.inl ⟨_, _, by first | rfl | (simp [List.take_of_length_le]; first | exact ⟨rfl, rfl⟩ | rfl), by simp, by first | rfl | simp [res_strings_Index, List.take_of_length_le]⟩)

def c79 : MC := (.seq (.reg [⟨(some 4), none, (.p true (.mv (.c (.bool false))))⟩]) (.seq (.reg [⟨(some 5), none, (.p true (.mv (.t 0)))⟩, ⟨(some 6), none, (.p true (.mv (.t 1)))⟩, ⟨(some 7), none, (.call true 100 [(.t 5), (.t 6)])⟩, ⟨(some 8), none, (.p true (.bin .geq (.t 7) (.c (.int .i64 0))))⟩, ⟨(some 4), none, (.p true (.mv (.t 8)))⟩]) .ret))
theorem c79_is : compFn Try.prog 79 = some (c79, [(.tmp 4)]) := by kernel_rfl
theorem c79_ok : okFn Try.prog 79 = true := by kernel_rfl

def F_strings_Contains (v0 : List UInt8) (v1 : List UInt8) : Option (Bool) :=
  ((F_strings_Index v0 v1).bind fun v1000 => some (decide ((0 : Int) ≤ v1000)))
@[simp] def res_strings_Contains (r : Bool) : RV := .one (.one (.val (.bool r)))
theorem con_strings_Contains {v0 : List UInt8} {v1 : List UInt8} {r : Bool} (hF : F_strings_Contains v0 v1 = some r) : Con Try.prog 79 [.str v0, .str v1] (res_strings_Contains r) := by
  unfold F_strings_Contains at hF
  refine con_of c79_is fun N => ?_
  refine w_reg_seq 0 64 rfl rfl ?_
  refine qp (AB false) rfl ?_
  refine r_nil ?_
  refine w_reg_seq 64 384 rfl rfl ?_
  refine qp (AS v0) rfl (qp (AS v1) rfl ?_)
  obtain ⟨v1000, e1000, hF⟩ := bind_get hF
  refine qc (AI v1000) [] false (con_strings_Index e1000) c100_ok (by first | rfl | simp) rfl ?_
  refine qp (AB (decide ((0 : Int) ≤ v1000))) rfl (qp (AB (decide ((0 : Int) ≤ v1000))) rfl ?_)
  refine r_nil ?_
  refine w_ret ?_
  cases hF
  exact endQ_r rfl (.inl ⟨_, _, by first | rfl | (simp [List.take_of_length_le]; first | exact ⟨rfl, rfl⟩ | rfl), by simp, by first | rfl | simp [res_strings_Contains, List.take_of_length_le]⟩)

def c43 : MC := (.seq (.reg [⟨(some 1), none, (.f (.box (.t 0)))⟩, ⟨(some 2), none, (.p true (.mv (.c (.bool false))))⟩]) (.seq (.reg [⟨(some 3), none, (.p true (.fad (.t 1) 0))⟩, ⟨(some 4), none, (.p true (.ld (.t 3) 1 false))⟩, ⟨(some 5), none, (.call true 78 [(.t 4)])⟩, ⟨(some 6), none, (.p true (.mv (.t 5)))⟩, ⟨(some 7), (some (6, true)), (.p true (.fad (.t 1) 1))⟩, ⟨(some 8), (some (6, true)), (.p true (.ld (.t 7) 1 false))⟩, ⟨(some 9), (some (6, true)), (.call true 78 [(.t 8)])⟩, ⟨(some 10), none, (.p true (.pick (.t 6) (.t 9) (.c (.bool false))))⟩, ⟨(some 11), none, (.p true (.mv (.t 10)))⟩, ⟨(some 12), (some (11, true)), (.p true (.fad (.t 1) 2))⟩, ⟨(some 13), (some (11, true)), (.p true (.ld (.t 12) 1 false))⟩, ⟨(some 14), (some (11, true)), (.p true (.lens (.t 13)))⟩, ⟨(some 15), (some (11, true)), (.p true (.bin .leq (.t 14) (.c (.int .i64 400))))⟩, ⟨(some 16), none, (.p true (.pick (.t 11) (.t 15) (.c (.bool false))))⟩, ⟨(some 17), none, (.p true (.mv (.t 16)))⟩, ⟨(some 18), (some (17, true)), (.p true (.fad (.t 1) 2))⟩, ⟨(some 19), (some (17, true)), (.p true (.ld (.t 18) 1 false))⟩, ⟨(some 20), (some (17, true)), (.call true 79 [(.t 19), (.c (.str [10]))])⟩, ⟨(some 21), (some (17, true)), (.p true (.not (.t 20)))⟩, ⟨(some 22), none, (.p true (.pick (.t 17) (.t 21) (.c (.bool false))))⟩, ⟨(some 2), none, (.p true (.mv (.t 22)))⟩]) .ret))
theorem c43_is : compFn Try.prog 43 = some (c43, [(.tmp 2)]) := by kernel_rfl
theorem c43_ok : okFn Try.prog 43 = true := by kernel_rfl

def F_impl_ValidBlock (v0 : TBlock) : Option (Bool) :=
  ((F_impl_IsName v0.1).bind fun v1000 => (bif v1000 then ((F_impl_IsName v0.2.1).bind fun v1001 => (bif v1001 then (bif (decide ((v0.2.2.length : Int) ≤ (400 : Int))) then ((F_strings_Contains v0.2.2 [10]).bind fun v1002 => some (!v1002))
  else some false)
  else some false))
  else some false))
@[simp] def res_impl_ValidBlock (r : Bool) : RV := .one (.one (.val (.bool r)))
theorem con_impl_ValidBlock {v0 : TBlock} {r : Bool} (hF : F_impl_ValidBlock v0 = some r) : Con Try.prog 43 [eBlock v0] (res_impl_ValidBlock r) := by
  unfold F_impl_ValidBlock at hF
  refine con_of c43_is fun N => ?_
  refine w_reg_seq 0 128 rfl rfl ?_
  refine qf (.ptr 0 0 0) [(0, .box [AS v0.1, AS v0.2.1, AS v0.2.2])] (by simp) ?_
  refine qp (AB false) rfl ?_
  refine r_nil ?_
  refine w_reg_seq 128 1472 rfl rfl ?_
  refine qp (.ptr 0 0 0) rfl (qp (AS v0.1) rfl ?_)
  obtain ⟨v1000, e1000, hF⟩ := bind_get hF
  refine qc (AB v1000) [(0, .box [AS v0.1, AS v0.2.1, AS v0.2.2])] false (con_impl_IsName e1000) c78_ok (by first | rfl | simp) rfl ?_
  refine qp (AB v1000) rfl ?_
  refine q_case 6 hF rfl (fun hF => ?_) (fun hF => ?_)
  ·
    refine qg (.ptr 0 0 1) rfl rfl (qg (AS v0.2.1) rfl rfl ?_)
    obtain ⟨v1001, e1001, hF⟩ := bind_get hF
    refine qcg (AB v1001) [(0, .box [AS v0.1, AS v0.2.1, AS v0.2.2])] false rfl (con_impl_IsName e1001) c78_ok (by first | rfl | simp) rfl ?_
    refine qp (AB v1001) rfl (qp (AB v1001) rfl ?_)
    refine q_case 11 hF rfl (fun hF => ?_) (fun hF => ?_)
    ·
      refine qg (.ptr 0 0 2) rfl rfl (qg (AS v0.2.2) rfl rfl (qg (AI (v0.2.2.length : Int)) rfl rfl (qg (AB (decide ((v0.2.2.length : Int) ≤ (400 : Int)))) rfl rfl (qp (AB (decide ((v0.2.2.length : Int) ≤ (400 : Int)))) rfl (qp (AB (decide ((v0.2.2.length : Int) ≤ (400 : Int)))) rfl ?_)))))
      refine q_case 17 hF rfl (fun hF => ?_) (fun hF => ?_)
      ·
        refine qg (.ptr 0 0 2) rfl rfl (qg (AS v0.2.2) rfl rfl ?_)
        obtain ⟨v1002, e1002, hF⟩ := bind_get hF
        refine qcg (AB v1002) [(0, .box [AS v0.1, AS v0.2.1, AS v0.2.2])] false rfl (con_strings_Contains e1002) c79_ok (by first | rfl | simp) rfl ?_
        refine qg (AB (!v1002)) rfl rfl (qp (AB (!v1002)) rfl (qp (AB (!v1002)) rfl ?_))
        refine r_nil ?_
        refine w_ret ?_
        cases hF
        exact endQ_r rfl (.inl ⟨_, _, by first | rfl | (simp [List.take_of_length_le]; first | exact ⟨rfl, rfl⟩ | rfl), by simp, by first | rfl | simp [res_impl_ValidBlock, List.take_of_length_le]⟩)
      ·
        refine qn rfl (qn rfl (qn rfl (qn rfl (qp (AB false) rfl (qp (AB false) rfl ?_)))))
        refine r_nil ?_
        refine w_ret ?_
        cases hF
        exact endQ_r rfl (.inl ⟨_, _, by first | rfl | (simp [List.take_of_length_le]; first | exact ⟨rfl, rfl⟩ | rfl), by simp, by first | rfl | simp [res_impl_ValidBlock, List.take_of_length_le]⟩)
    ·
      refine qn rfl (qn rfl (qn rfl (qn rfl (qp (AB false) rfl (qp (AB false) rfl (qn rfl (qn rfl ?_)))))))
      refine qn rfl (qn rfl (qp (AB false) rfl (qp (AB false) rfl ?_)))
      refine r_nil ?_
      refine w_ret ?_
      cases hF
      exact endQ_r rfl (.inl ⟨_, _, by first | rfl | (simp [List.take_of_length_le]; first | exact ⟨rfl, rfl⟩ | rfl), by simp, by first | rfl | simp [res_impl_ValidBlock, List.take_of_length_le]⟩)
  ·
    refine qn rfl (qn rfl (qn rfl (qp (AB false) rfl (qp (AB false) rfl (qn rfl (qn rfl (qn rfl ?_)))))))
    refine qn rfl (qp (AB false) rfl (qp (AB false) rfl (qn rfl (qn rfl (qn rfl (qn rfl (qp (AB false) rfl ?_)))))))
    refine qp (AB false) rfl ?_
    refine r_nil ?_
    refine w_ret ?_
    cases hF
    exact endQ_r rfl (.inl ⟨_, _, by first | rfl | (simp [List.take_of_length_le]; first | exact ⟨rfl, rfl⟩ | rfl), by simp, by first | rfl | simp [res_impl_ValidBlock, List.take_of_length_le]⟩)

def c8 : MC := (.seq (.reg [⟨(some 1), none, (.f (.box (.t 0)))⟩, ⟨(some 2), none, (.p true (.mv (.c (.bool false))))⟩]) (.seq (.reg [⟨(some 3), none, (.p true (.mv (.c (.int .i64 1048576))))⟩]) (.seq (.reg [⟨(some 6), none, (.p true (.ld (.t 1) 3 true))⟩, ⟨(some 7), none, (.p true (.mv (.t 3)))⟩, ⟨(some 8), none, (.call true 40 [(.t 6), (.t 7)])⟩, ⟨(some 3), none, (.p true (.mv (.t 8)))⟩]) (.seq (.seq (.reg [⟨(some 9), none, (.p true (.mv (.t 3)))⟩, ⟨(some 10), none, (.p true (.bin .lss (.t 9) (.c (.int .i64 0))))⟩]) (.cond (.t 10) (.seq (.reg [⟨(some 2), none, (.p true (.mv (.c (.bool true))))⟩]) .ret) .skip)) (.seq (.reg [⟨(some 11), none, (.p true (.ld (.t 1) 3 true))⟩, ⟨(some 12), none, (.call true 42 [(.t 11)])⟩, ⟨(some 13), none, (.call true 41 [(.t 12)])⟩, ⟨(some 4), none, (.p true (.mv (.t 13)))⟩]) (.seq (.reg [⟨(some 14), none, (.p true (.ld (.t 1) 3 true))⟩, ⟨(some 15), none, (.call true 42 [(.t 14)])⟩, ⟨(some 16), none, (.call true 43 [(.t 15)])⟩, ⟨(some 5), none, (.p true (.mv (.t 16)))⟩]) (.seq (.seq (.reg [⟨(some 17), none, (.p true (.mv (.t 5)))⟩, ⟨(some 18), none, (.p true (.mv (.t 4)))⟩, ⟨(some 19), none, (.p true (.bnb true (.t 17) (.t 18)))⟩]) (.cond (.t 19) (.seq (.reg [⟨(some 2), none, (.p true (.mv (.c (.bool false))))⟩]) .ret) .skip)) (.seq (.reg [⟨(some 2), none, (.p true (.mv (.c (.bool true))))⟩]) .ret))))))))
theorem c8_is : compFn Try.prog 8 = some (c8, [(.tmp 2)]) := by kernel_rfl
theorem c8_ok : okFn Try.prog 8 = true := by kernel_rfl

def F_laws_FnExactValidBlock (v0 : TBlock) : Option (Bool) :=
  ((F_laws_szBlock v0 1048576).bind fun v1000 => (bif (decide (v1000 < (0 : Int))) then some true
  else ((F_laws_toBlock v0).bind fun v1001 => ((F_spec_ValidBlock v1001).bind fun v1002 => ((F_laws_toBlock v0).bind fun v1003 => ((F_impl_ValidBlock v1003).bind fun v1004 => (bif (v1004 != v1002) then some false
  else some true)))))))
@[simp] def res_laws_FnExactValidBlock (r : Bool) : RV := .one (.one (.val (.bool r)))
theorem con_laws_FnExactValidBlock {v0 : TBlock} {r : Bool} (hF : F_laws_FnExactValidBlock v0 = some r) : Con Try.prog 8 [eBlock v0] (res_laws_FnExactValidBlock r) := by
  unfold F_laws_FnExactValidBlock at hF
  refine con_of c8_is fun N => ?_
  refine w_reg_seq 0 128 rfl rfl ?_
  refine qf (.ptr 0 0 0) [(0, .box [AS v0.1, AS v0.2.1, AS v0.2.2])] (by simp) ?_
  refine qp (AB false) rfl ?_
  refine r_nil ?_
  refine w_reg_seq 128 192 rfl rfl ?_
  refine qp (AI 1048576) rfl ?_
  refine r_nil ?_
  refine w_reg_seq 192 448 rfl rfl ?_
  refine qp (.agg [AS v0.1, AS v0.2.1, AS v0.2.2]) rfl (qp (AI 1048576) rfl ?_)
  obtain ⟨v1000, e1000, hF⟩ := bind_get hF
  refine qc (AI v1000) [(0, .box [AS v0.1, AS v0.2.1, AS v0.2.2])] false (con_laws_szBlock e1000) c40_ok (by first | rfl | simp) rfl ?_
  refine qp (AI v1000) rfl ?_
  refine r_nil ?_
  refine w_seq ?_
  refine w_reg_seq 448 576 rfl rfl ?_
  refine qp (AI v1000) rfl (qp (AB (decide (v1000 < (0 : Int)))) rfl ?_)
  refine r_nil ?_
  refine w_condF hF rfl (fun hF => ?_) (fun hF => ?_)
  ·
    refine w_reg_seq 576 640 rfl rfl ?_
    refine qp (AB true) rfl ?_
    refine r_nil ?_
    refine w_ret ?_
    refine thenQ_r ?_
    cases hF
    exact endQ_r rfl (.inl ⟨_, _, by first | rfl | (simp [List.take_of_length_le]; first | exact ⟨rfl, rfl⟩ | rfl), by simp, by first | rfl | simp [res_laws_FnExactValidBlock, List.take_of_length_le]⟩)
  ·
    refine w_skip ?_
    refine thenQ_n ?_
    refine w_reg_seq 576 832 rfl rfl ?_
    refine qp (.agg [AS v0.1, AS v0.2.1, AS v0.2.2]) rfl ?_
    obtain ⟨v1001, e1001, hF⟩ := bind_get hF
    refine qc (.val none (eBlock v1001)) [(0, .box [AS v0.1, AS v0.2.1, AS v0.2.2])] false (con_laws_toBlock e1001) c42_ok (by first | rfl | simp) rfl ?_
    obtain ⟨v1002, e1002, hF⟩ := bind_get hF
    refine qc (AB v1002) [(0, .box [AS v0.1, AS v0.2.1, AS v0.2.2])] false (con_spec_ValidBlock e1002) c41_ok (by first | rfl | simp) rfl ?_
    refine qp (AB v1002) rfl ?_
    refine r_nil ?_
    refine w_reg_seq 832 1088 rfl rfl ?_
    refine qp (.agg [AS v0.1, AS v0.2.1, AS v0.2.2]) rfl ?_
    obtain ⟨v1003, e1003, hF⟩ := bind_get hF
    refine qc (.val none (eBlock v1003)) [(0, .box [AS v0.1, AS v0.2.1, AS v0.2.2])] false (con_laws_toBlock e1003) c42_ok (by first | rfl | simp) rfl ?_
    obtain ⟨v1004, e1004, hF⟩ := bind_get hF
    refine qc (AB v1004) [(0, .box [AS v0.1, AS v0.2.1, AS v0.2.2])] false (con_impl_ValidBlock e1004) c43_ok (by first | rfl | simp) rfl ?_
    refine qp (AB v1004) rfl ?_
    refine r_nil ?_
    refine w_seq ?_
    refine w_reg_seq 1088 1280 rfl rfl ?_
    refine qp (AB v1004) rfl (qp (AB v1002) rfl (qp (AB (v1004 != v1002)) rfl ?_))
    refine r_nil ?_
    refine w_condF hF rfl (fun hF => ?_) (fun hF => ?_)
    ·
      refine w_reg_seq 1280 1344 rfl rfl ?_
      refine qp (AB false) rfl ?_
      refine r_nil ?_
      refine w_ret ?_
      refine thenQ_r ?_
      cases hF
      exact endQ_r rfl (.inl ⟨_, _, by first | rfl | (simp [List.take_of_length_le]; first | exact ⟨rfl, rfl⟩ | rfl), by simp, by first | rfl | simp [res_laws_FnExactValidBlock, List.take_of_length_le]⟩)
    ·
      refine w_skip ?_
      refine thenQ_n ?_
      refine w_reg_seq 1280 1344 rfl rfl ?_
      refine qp (AB true) rfl ?_
      refine r_nil ?_
      refine w_ret ?_
      cases hF
      exact endQ_r rfl (.inl ⟨_, _, by first | rfl | (simp [List.take_of_length_le]; first | exact ⟨rfl, rfl⟩ | rfl), by simp, by first | rfl | simp [res_laws_FnExactValidBlock, List.take_of_length_le]⟩)

end Go.Ab
