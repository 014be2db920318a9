/- Walks (printed by auto.py, a program of this session's own). -/
import Derived.Test.YtcjbdiiffpkdoaaA30
import Derived.Test.YtcjbdiiffpkdoaaProg
import Derived.KernelRfl
set_option linter.unusedVariables false
set_option linter.unusedSimpArgs false
namespace Go.Ab
open Go.RowKit Go.Proofs

abbrev TProblem := Int × (List UInt8) × (List UInt8)
@[simp] def eProblem (p : TProblem) : V := .agg [.int .i64 p.1, .str p.2.1, .str p.2.2]
def c17 : MC := (.seq (.reg [⟨(some 2), none, (.f (.box (.t 0)))⟩, ⟨(some 4), none, (.p true (.mv (.c (.int .i64 0))))⟩]) (.seq (.reg [⟨(some 5), none, (.p true (.mv (.t 1)))⟩, ⟨(some 6), none, (.p true (.fad (.t 2) 1))⟩, ⟨(some 7), none, (.p true (.ld (.t 6) 1 false))⟩, ⟨(some 8), none, (.p true (.lens (.t 7)))⟩, ⟨(some 9), none, (.p true (.bin .sub (.t 5) (.t 8)))⟩, ⟨(some 1), none, (.p true (.mv (.t 9)))⟩]) (.seq (.seq (.reg [⟨(some 10), none, (.p true (.mv (.t 1)))⟩, ⟨(some 11), none, (.p true (.bin .lss (.t 10) (.c (.int .i64 0))))⟩]) (.cond (.t 11) (.seq (.reg [⟨(some 4), none, (.p true (.mv (.c (.int .i64 (-1)))))⟩]) .ret) .skip)) (.seq (.reg [⟨(some 12), none, (.p true (.mv (.t 1)))⟩, ⟨(some 13), none, (.p true (.fad (.t 2) 2))⟩, ⟨(some 14), none, (.p true (.ld (.t 13) 1 false))⟩, ⟨(some 15), none, (.p true (.lens (.t 14)))⟩, ⟨(some 16), none, (.p true (.bin .sub (.t 12) (.t 15)))⟩, ⟨(some 1), none, (.p true (.mv (.t 16)))⟩]) (.seq (.seq (.reg [⟨(some 17), none, (.p true (.mv (.t 1)))⟩, ⟨(some 18), none, (.p true (.bin .lss (.t 17) (.c (.int .i64 0))))⟩]) (.cond (.t 18) (.seq (.reg [⟨(some 4), none, (.p true (.mv (.c (.int .i64 (-1)))))⟩]) .ret) .skip)) (.seq (.reg [⟨(some 19), none, (.p true (.mv (.t 1)))⟩, ⟨(some 4), none, (.p true (.mv (.t 19)))⟩]) .ret))))))
theorem c17_is : compFn Try.prog 17 = some (c17, [(.tmp 4)]) := by kernel_rfl
theorem c17_ok : okFn Try.prog 17 = true := by kernel_rfl

def F_laws_szProblem (v0 : TProblem) (v1 : Int) : Option (Int) :=
  (bif (decide (w64 (v1 - (v0.2.1.length : Int)) < (0 : Int))) then some (-1)
  else (bif (decide (w64 ((w64 (v1 - (v0.2.1.length : Int))) - (v0.2.2.length : Int)) < (0 : Int))) then some (-1)
  else some (w64 ((w64 (v1 - (v0.2.1.length : Int))) - (v0.2.2.length : Int)))))
@[simp] def res_laws_szProblem (r : Int) : RV := .one (.one (.val (.int .i64 r)))
theorem con_laws_szProblem {v0 : TProblem} {v1 : Int} {r : Int} (hF : F_laws_szProblem v0 v1 = some r) : Con Try.prog 17 [eProblem v0, .int .i64 v1] (res_laws_szProblem r) := by
  unfold F_laws_szProblem at hF
  refine con_of c17_is fun N => ?_
  refine w_reg_seq 0 128 rfl rfl ?_
  refine qf (.ptr 0 0 0) [(0, .box [AI v0.1, AS v0.2.1, AS v0.2.2])] (by simp) ?_
  refine qp (AI 0) rfl ?_
  refine r_nil ?_
  refine w_reg_seq 128 512 rfl rfl ?_
  refine qp (AI v1) rfl (qp (.ptr 0 0 1) rfl (qp (AS v0.2.1) rfl (qp (AI (v0.2.1.length : Int)) rfl (qp (AI (w64 (v1 - (v0.2.1.length : Int)))) rfl (qp (AI (w64 (v1 - (v0.2.1.length : Int)))) rfl ?_)))))
  refine r_nil ?_
  refine w_seq ?_
  refine w_reg_seq 512 640 rfl rfl ?_
  refine qp (AI (w64 (v1 - (v0.2.1.length : Int)))) rfl (qp (AB (decide (w64 (v1 - (v0.2.1.length : Int)) < (0 : Int)))) rfl ?_)
  refine r_nil ?_
  refine w_condF hF rfl (fun hF => ?_) (fun hF => ?_)
  ·
    refine w_reg_seq 640 704 rfl rfl ?_
    refine qp (AI (-1)) rfl ?_
    refine r_nil ?_
    refine w_ret ?_
    refine thenQ_r ?_
    cases hF
    exact endQ_r rfl (.inl ⟨_, _, by first | rfl | (simp [List.take_of_length_le]; first | exact ⟨rfl, rfl⟩ | rfl), by simp, by first | rfl | simp [res_laws_szProblem, List.take_of_length_le]⟩)
  ·
    refine w_skip ?_
    refine thenQ_n ?_
    refine w_reg_seq 640 1024 rfl rfl ?_
    refine qp (AI (w64 (v1 - (v0.2.1.length : Int)))) rfl (qp (.ptr 0 0 2) rfl (qp (AS v0.2.2) rfl (qp (AI (v0.2.2.length : Int)) rfl (qp (AI (w64 ((w64 (v1 - (v0.2.1.length : Int))) - (v0.2.2.length : Int)))) rfl (qp (AI (w64 ((w64 (v1 - (v0.2.1.length : Int))) - (v0.2.2.length : Int)))) rfl ?_)))))
    refine r_nil ?_
    refine w_seq ?_
    refine w_reg_seq 1024 1152 rfl rfl ?_
    refine qp (AI (w64 ((w64 (v1 - (v0.2.1.length : Int))) - (v0.2.2.length : Int)))) rfl (qp (AB (decide (w64 ((w64 (v1 - (v0.2.1.length : Int))) - (v0.2.2.length : Int)) < (0 : Int)))) rfl ?_)
    refine r_nil ?_
    refine w_condF hF rfl (fun hF => ?_) (fun hF => ?_)
    ·
      refine w_reg_seq 1152 1216 rfl rfl ?_
      refine qp (AI (-1)) rfl ?_
      refine r_nil ?_
      refine w_ret ?_
      refine thenQ_r ?_
      cases hF
      exact endQ_r rfl (.inl ⟨_, _, by first | rfl | (simp [List.take_of_length_le]; first | exact ⟨rfl, rfl⟩ | rfl), by simp, by first | rfl | simp [res_laws_szProblem, List.take_of_length_le]⟩)
    ·
      refine w_skip ?_
      refine thenQ_n ?_
      refine w_reg_seq 1152 1280 rfl rfl ?_
      refine qp (AI (w64 ((w64 (v1 - (v0.2.1.length : Int))) - (v0.2.2.length : Int)))) rfl (qp (AI (w64 ((w64 (v1 - (v0.2.1.length : Int))) - (v0.2.2.length : Int)))) rfl ?_)
      refine r_nil ?_
      refine w_ret ?_
      cases hF
      exact endQ_r rfl (.inl ⟨_, _, by first | rfl | (simp [List.take_of_length_le]; first | exact ⟨rfl, rfl⟩ | rfl), by simp, by first | rfl | simp [res_laws_szProblem, List.take_of_length_le]⟩)

def c26 : MC := (.seq (.reg [⟨(some 4), none, (.p true (.mv (.c (.int .i64 0))))⟩]) (.seq (.reg [⟨(some 6), none, (.p true (.mv (.t 1)))⟩, ⟨(some 7), none, (.p true (.mv (.t 0)))⟩, ⟨(some 8), none, (.p true (.len (.t 7)))⟩, ⟨(some 9), none, (.p true (.bin .sub (.t 6) (.t 8)))⟩, ⟨(some 1), none, (.p true (.mv (.t 9)))⟩]) (.seq (.seq (.reg [⟨(some 10), none, (.p true (.mv (.t 1)))⟩, ⟨(some 11), none, (.p true (.bin .lss (.t 10) (.c (.int .i64 0))))⟩]) (.cond (.t 11) (.seq (.reg [⟨(some 4), none, (.p true (.mv (.c (.int .i64 (-1)))))⟩]) .ret) .skip)) (.seq (.seq (.reg [⟨(some 5), none, (.p true (.mv (.c (.int .i64 0))))⟩]) (.block 0 (.loop (.seq (.seq (.reg [⟨(some 12), none, (.p true (.mv (.t 5)))⟩, ⟨(some 13), none, (.p true (.mv (.t 0)))⟩, ⟨(some 14), none, (.p true (.len (.t 13)))⟩, ⟨(some 15), none, (.p true (.bin .lss (.t 12) (.t 14)))⟩]) (.cond (.t 15) .skip (.exit 0))) (.seq (.block 1 (.seq (.reg [⟨(some 18), none, (.p true (.mv (.t 0)))⟩, ⟨(some 19), none, (.p true (.mv (.t 5)))⟩, ⟨(some 20), none, (.p true (.iad (.t 18) (.t 19) 3))⟩, ⟨(some 21), none, (.p true (.ld (.t 20) 3 true))⟩, ⟨(some 22), none, (.p true (.mv (.t 1)))⟩, ⟨(some 23), none, (.call true 17 [(.t 21), (.t 22)])⟩, ⟨(some 1), none, (.p true (.mv (.t 23)))⟩]) (.seq (.reg [⟨(some 24), none, (.p true (.mv (.t 1)))⟩, ⟨(some 25), none, (.p true (.bin .lss (.t 24) (.c (.int .i64 0))))⟩]) (.cond (.t 25) (.seq (.reg [⟨(some 4), none, (.p true (.mv (.c (.int .i64 (-1)))))⟩]) .ret) .skip)))) (.reg [⟨(some 16), none, (.p true (.mv (.t 5)))⟩, ⟨(some 17), none, (.p true (.bin .add (.t 16) (.c (.int .i64 1))))⟩, ⟨(some 5), none, (.p true (.mv (.t 17)))⟩])))))) (.seq (.reg [⟨(some 26), none, (.p true (.mv (.t 1)))⟩, ⟨(some 4), none, (.p true (.mv (.t 26)))⟩]) .ret)))))
theorem c26_is : compFn Try.prog 26 = some (c26, [(.tmp 4)]) := by kernel_rfl
theorem c26_ok : okFn Try.prog 26 = true := by kernel_rfl

def F_laws_szProblemS_l0 (v0 : List TProblem) (k0 : Int × Int → Option (Int)) : Int × Int → Option (Int)
  | (v8, v9) => (bif (decide (v9 < (v0.length : Int))) then ((ix v0 v9).bind fun v1000 => ((F_laws_szProblem v1000 v8).bind fun v1001 => (bif (decide (v1001 < (0 : Int))) then some (-1)
  else k0 (v1001, w64 (v9 + 1)))))
  else some v8)
def F_laws_szProblemS (v0 : List TProblem) (v1 : Int) : Option (Int) :=
  (bif (decide (w64 (v1 - (v0.length : Int)) < (0 : Int))) then some (-1)
  else loop (F_laws_szProblemS_l0 v0) (w64 (v1 - (v0.length : Int)), 0))
@[simp] def res_laws_szProblemS (r : Int) : RV := .one (.one (.val (.int .i64 r)))
theorem con_laws_szProblemS {v0 : List TProblem} {v1 : Int} {r : Int} (hF : F_laws_szProblemS v0 v1 = some r) : Con Try.prog 26 [.sl 3 (v0.map eProblem), .int .i64 v1] (res_laws_szProblemS r) := by
  unfold F_laws_szProblemS at hF
  refine con_of c26_is fun N => ?_
  refine w_reg_seq 0 64 rfl rfl ?_
  refine qp (AI 0) rfl ?_
  refine r_nil ?_
  refine w_reg_seq 64 384 rfl rfl ?_
  refine qp (AI v1) rfl (qp (.val none (.sl 3 (v0.map eProblem))) rfl (qp (AI (v0.length : Int)) (ev_len_n rfl) (qp (AI (w64 (v1 - (v0.length : Int)))) rfl (qp (AI (w64 (v1 - (v0.length : Int)))) rfl ?_))))
  refine r_nil ?_
  refine w_seq ?_
  refine w_reg_seq 384 512 rfl rfl ?_
  refine qp (AI (w64 (v1 - (v0.length : Int)))) rfl (qp (AB (decide (w64 (v1 - (v0.length : Int)) < (0 : Int)))) rfl ?_)
  refine r_nil ?_
  refine w_condF hF rfl (fun hF => ?_) (fun hF => ?_)
  ·
    refine w_reg_seq 512 576 rfl rfl ?_
    refine qp (AI (-1)) rfl ?_
    refine r_nil ?_
    refine w_ret ?_
    refine thenQ_r ?_
    cases hF
    exact endQ_r rfl (.inl ⟨_, _, by first | rfl | (simp [List.take_of_length_le]; first | exact ⟨rfl, rfl⟩ | rfl), by simp, by first | rfl | simp [res_laws_szProblemS, List.take_of_length_le]⟩)
  ·
    refine w_skip ?_
    refine thenQ_n ?_
    refine w_seq ?_
    refine w_reg_seq 512 576 rfl rfl ?_
    refine qp (AI 0) rfl ?_
    refine r_nil ?_
    refine w_block ?_
    refine w_ren (l' := [(0, .val none (.sl 3 (v0.map eProblem))), (1, AI (w64 (v1 - (v0.length : Int)))), (5, AI 0)]) (L := []) [0, 1, 5] [] 1 (by first | rfl | simp) (by first | rfl | simp) (by decide) (by decide) (by decide) ?_
    refine w_loopF (F_laws_szProblemS_l0 v0) (fun s : Int × Int => mkS [(0, .val none (.sl 3 (v0.map eProblem))), (1, AI s.1), (5, AI s.2)] (fo []) 1) hF ?_
    rintro k0 ⟨v8, v9⟩ hF
    rw [F_laws_szProblemS_l0] at hF
    try dsimp only
    refine w_seq ?_
    refine w_reg_seq 1 257 rfl rfl ?_
    refine qp (AI v9) rfl (qp (.val none (.sl 3 (v0.map eProblem))) rfl (qp (AI (v0.length : Int)) (ev_len_n rfl) (qp (AB (decide (v9 < (v0.length : Int)))) rfl ?_)))
    refine r_nil ?_
    refine w_condF hF rfl (fun hF => ?_) (fun hF => ?_)
    ·
      refine w_skip ?_
      refine thenQ_n ?_
      refine w_seq ?_
      refine w_block ?_
      refine w_reg_seq 257 705 rfl rfl ?_
      refine qp (.val none (.sl 3 (v0.map eProblem))) rfl (qp (AI v9) rfl ?_)
      obtain ⟨v1000, e1000, hF⟩ := bind_get hF
      refine qp (.val none (.ptr [.int .i64 v1000.1, .str v1000.2.1, .str v1000.2.2])) (ev_iad_n rfl rfl e1000 rfl) (qp (.val none (eProblem v1000)) rfl (qp (AI v8) rfl ?_))
      obtain ⟨v1001, e1001, hF⟩ := bind_get hF
      refine qc (AI v1001) [] false (con_laws_szProblem e1001) c17_ok (by first | rfl | simp) rfl ?_
      refine qp (AI v1001) rfl ?_
      refine r_nil ?_
      refine w_reg_seq 705 833 rfl rfl ?_
      refine qp (AI v1001) rfl (qp (AB (decide (v1001 < (0 : Int)))) rfl ?_)
      refine r_nil ?_
      refine w_condF hF rfl (fun hF => ?_) (fun hF => ?_)
      ·
        refine w_reg_seq 833 897 rfl rfl ?_
        refine qp (AI (-1)) rfl ?_
        refine r_nil ?_
        refine w_ret ?_
        refine blockQ_r ?_
        refine thenQ_r ?_
        refine thenQ_r ?_
        refine blockQ_r ?_
        refine thenQ_r ?_
        cases hF
        exact endQ_r rfl (.inl ⟨_, _, by first | rfl | (simp [List.take_of_length_le]; first | exact ⟨rfl, rfl⟩ | rfl), by simp, by first | rfl | simp [res_laws_szProblemS, List.take_of_length_le]⟩)
      ·
        refine w_skip ?_
        refine blockQ_n ?_
        refine thenQ_n ?_
        refine w_reg 833 1025 rfl rfl ?_
        refine qp (AI v9) rfl (qp (AI (w64 (v9 + 1))) rfl (qp (AI (w64 (v9 + 1))) rfl ?_))
        refine r_nil ?_
        refine thenQ_n ?_
        refine aw_ren (l' := [(0, .val none (.sl 3 (v0.map eProblem))), (1, AI v1001), (5, AI (w64 (v9 + 1)))]) (L := []) [0, 1, 5] [] 1 (by first | rfl | simp) (by first | rfl | simp) (by decide) (by decide) (by decide) ⟨_, by rfl, hF⟩
    ·
      refine w_exit ?_
      refine thenQ_e ?_
      refine thenQ_e ?_
      refine blockQ_e ?_
      refine thenQ_n ?_
      refine w_reg_seq 257 385 rfl rfl ?_
      refine qp (AI v8) rfl (qp (AI v8) rfl ?_)
      refine r_nil ?_
      refine w_ret ?_
      cases hF
      exact endQ_r rfl (.inl ⟨_, _, by first | rfl | (simp [List.take_of_length_le]; first | exact ⟨rfl, rfl⟩ | rfl), by simp, by first | rfl | simp [res_laws_szProblemS, List.take_of_length_le]⟩)

def c19 : MC := (.seq (.reg [⟨(some 1), none, (.f (.box (.t 0)))⟩, ⟨(some 2), none, (.f (.alloc [((.int .i64 0), (0, false)), ((.str []), (0, false)), ((.str []), (0, false))]))⟩]) (.seq (.reg [⟨(some 3), none, (.f (.alloc [((.int .i64 0), (0, false)), ((.str []), (0, false)), ((.str []), (0, false))]))⟩]) (.seq (.reg [⟨(some 4), none, (.p true (.fad (.t 1) 0))⟩, ⟨(some 5), none, (.p true (.ld (.t 4) 1 false))⟩, ⟨(some 6), none, (.p true (.fad (.t 3) 0))⟩, ⟨none, none, (.f (.st (.t 6) (.t 5) 1))⟩]) (.seq (.reg [⟨(some 7), none, (.p true (.fad (.t 1) 1))⟩, ⟨(some 8), none, (.p true (.ld (.t 7) 1 false))⟩, ⟨(some 9), none, (.p true (.fad (.t 3) 1))⟩, ⟨none, none, (.f (.st (.t 9) (.t 8) 1))⟩]) (.seq (.reg [⟨(some 10), none, (.p true (.fad (.t 1) 2))⟩, ⟨(some 11), none, (.p true (.ld (.t 10) 1 false))⟩, ⟨(some 12), none, (.p true (.fad (.t 3) 2))⟩, ⟨none, none, (.f (.st (.t 12) (.t 11) 1))⟩]) (.seq (.reg [⟨(some 13), none, (.p true (.ld (.t 3) 3 true))⟩, ⟨none, none, (.f (.st (.t 2) (.t 13) 3))⟩]) .ret))))))
theorem c19_is : compFn Try.prog 19 = some (c19, [(.cell (.ld (.t 2) 3 true))]) := by kernel_rfl
theorem c19_ok : okFn Try.prog 19 = true := by kernel_rfl

def F_laws_toProblem (v0 : TProblem) : Option (TProblem) :=
  some v0
@[simp] def res_laws_toProblem (r : TProblem) : RV := .one (.one (.val (eProblem r)))
theorem con_laws_toProblem {v0 : TProblem} {r : TProblem} (hF : F_laws_toProblem v0 = some r) : Con Try.prog 19 [eProblem v0] (res_laws_toProblem r) := by
  unfold F_laws_toProblem at hF
  refine con_of c19_is fun N => ?_
  refine w_reg_seq 0 128 rfl rfl ?_
  refine qf (.ptr 0 0 0) [(0, .box [AI v0.1, AS v0.2.1, AS v0.2.2])] (by simp) ?_
  refine qf (.ptr 64 0 0) [(64, .box [AI 0, AS [], AS []]), (0, .box [AI v0.1, AS v0.2.1, AS v0.2.2])] (by simp) ?_
  refine r_nil ?_
  refine w_reg_seq 128 192 rfl rfl ?_
  refine qf (.ptr 128 0 0) [(128, .box [AI 0, AS [], AS []]), (64, .box [AI 0, AS [], AS []]), (0, .box [AI v0.1, AS v0.2.1, AS v0.2.2])] (by simp) ?_
  refine r_nil ?_
  refine w_reg_seq 192 448 rfl rfl ?_
  refine qp (.ptr 0 0 0) rfl (qp (AI v0.1) rfl (qp (.ptr 128 0 0) rfl ?_))
  refine qf0 (.undef) [(128, .box [AI v0.1, AS [], AS []]), (128, .box [AI 0, AS [], AS []]), (64, .box [AI 0, AS [], AS []]), (0, .box [AI v0.1, AS v0.2.1, AS v0.2.2])] (by simp) ?_
  refine r_nil ?_
  refine w_reg_seq 448 704 rfl rfl ?_
  refine qp (.ptr 0 0 1) rfl (qp (AS v0.2.1) rfl (qp (.ptr 128 0 1) rfl ?_))
  refine qf0 (.undef) [(128, .box [AI v0.1, AS v0.2.1, AS []]), (128, .box [AI v0.1, AS [], AS []]), (128, .box [AI 0, AS [], AS []]), (64, .box [AI 0, AS [], AS []]), (0, .box [AI v0.1, AS v0.2.1, AS v0.2.2])] (by simp) ?_
  refine r_nil ?_
  refine w_reg_seq 704 960 rfl rfl ?_
  refine qp (.ptr 0 0 2) rfl (qp (AS v0.2.2) rfl (qp (.ptr 128 0 2) rfl ?_))
  refine qf0 (.undef) [(128, .box [AI v0.1, AS v0.2.1, AS v0.2.2]), (128, .box [AI v0.1, AS v0.2.1, AS []]), (128, .box [AI v0.1, AS [], AS []]), (128, .box [AI 0, AS [], AS []]), (64, .box [AI 0, AS [], AS []]), (0, .box [AI v0.1, AS v0.2.1, AS v0.2.2])] (by simp) ?_
  refine r_nil ?_
  refine w_reg_seq 960 1088 rfl rfl ?_
  refine qp (.agg [AI v0.1, AS v0.2.1, AS v0.2.2]) rfl ?_
  refine qf0 (.undef) [(64, .box [AI v0.1, AS v0.2.1, AS v0.2.2]), (128, .box [AI v0.1, AS v0.2.1, AS v0.2.2]), (128, .box [AI v0.1, AS v0.2.1, AS []]), (128, .box [AI v0.1, AS [], AS []]), (128, .box [AI 0, AS [], AS []]), (64, .box [AI 0, AS [], AS []]), (0, .box [AI v0.1, AS v0.2.1, AS v0.2.2])] (by simp) ?_
  refine r_nil ?_
  refine w_ret ?_
  cases hF
  exact endQ_r rfl (.inl ⟨_, _, by first | rfl | (simp [List.take_of_length_le]; first | exact ⟨rfl, rfl⟩ | rfl), by simp, by first | rfl | simp [res_laws_toProblem, List.take_of_length_le]⟩)

def c28 : MC := (.seq (.reg [⟨(some 2), none, (.f (.nilrow 3))⟩]) (.seq (.reg [⟨(some 5), none, (.p true (.mv (.t 0)))⟩, ⟨(some 6), none, (.p true (.len (.t 5)))⟩, ⟨(some 7), none, (.f (.mks 3 40 (.agg [(.int .i64 0), (.str []), (.str [])]) (.t 6) (.t 6)))⟩, ⟨(some 3), none, (.p true (.mv (.t 7)))⟩]) (.seq (.seq (.reg [⟨(some 4), none, (.p true (.mv (.c (.int .i64 0))))⟩]) (.block 0 (.loop (.seq (.seq (.reg [⟨(some 8), none, (.p true (.mv (.t 4)))⟩, ⟨(some 9), none, (.p true (.mv (.t 0)))⟩, ⟨(some 10), none, (.p true (.len (.t 9)))⟩, ⟨(some 11), none, (.p true (.bin .lss (.t 8) (.t 10)))⟩]) (.cond (.t 11) .skip (.exit 0))) (.seq (.block 1 (.reg [⟨(some 14), none, (.p true (.mv (.t 3)))⟩, ⟨(some 15), none, (.p true (.mv (.t 4)))⟩, ⟨(some 16), none, (.p true (.mv (.t 0)))⟩, ⟨(some 17), none, (.p true (.mv (.t 4)))⟩, ⟨(some 18), none, (.p true (.iad (.t 16) (.t 17) 3))⟩, ⟨(some 19), none, (.p true (.ld (.t 18) 3 true))⟩, ⟨(some 20), none, (.call true 19 [(.t 19)])⟩, ⟨(some 21), none, (.p true (.iad (.t 14) (.t 15) 3))⟩, ⟨none, none, (.f (.st (.t 21) (.t 20) 3))⟩])) (.reg [⟨(some 12), none, (.p true (.mv (.t 4)))⟩, ⟨(some 13), none, (.p true (.bin .add (.t 12) (.c (.int .i64 1))))⟩, ⟨(some 4), none, (.p true (.mv (.t 13)))⟩])))))) (.seq (.reg [⟨(some 22), none, (.p true (.mv (.t 3)))⟩, ⟨(some 2), none, (.p true (.mv (.t 22)))⟩]) .ret))))
theorem c28_is : compFn Try.prog 28 = some (c28, [(.tmp 2)]) := by kernel_rfl
theorem c28_ok : okFn Try.prog 28 = true := by kernel_rfl

def F_laws_toProblemS_l0 (v0 : List TProblem) (k1 : Int × (List TProblem) → Option (List TProblem)) : Int × (List TProblem) → Option (List TProblem)
  | (v1009, v1010) => (bif (decide (v1009 < (v0.length : Int))) then ((ix v0 v1009).bind fun v1011 => ((F_laws_toProblem v1011).bind fun v1012 => ((ix v1010 v1009).bind fun v1013 => k1 (w64 (v1009 + 1), List.set v1010 v1009.toNat v1012))))
  else some v1010)
def F_laws_toProblemS (v0 : List TProblem) : Option (List TProblem) :=
  (need (0 ≤ (v0.length : Int) ∧ (v0.length : Int) ≤ (v0.length : Int) ∧ (v0.length : Int) ≤ 9223372036854775807 ∧ 40 * (v0.length : Int) ≤ 281474976710656) (loop (F_laws_toProblemS_l0 v0) (0, List.replicate ((v0.length : Int)).toNat ((0, [], []) : TProblem))))
@[simp] def res_laws_toProblemS (r : List TProblem) : RV := .one (.one (.row true 3 (r.map eProblem)))
theorem con_laws_toProblemS {v0 : List TProblem} {r : List TProblem} (hF : F_laws_toProblemS v0 = some r) : Con Try.prog 28 [.sl 3 (v0.map eProblem)] (res_laws_toProblemS r) := by
  unfold F_laws_toProblemS at hF
  refine con_of c28_is fun N => ?_
  refine w_reg_seq 0 64 rfl rfl ?_
  refine qf (.sl 0 0 0) [(0, .row true 3 (([] : List Int).map (V.int .i64)))] (by simp) ?_
  refine r_nil ?_
  refine w_reg_seq 64 320 rfl rfl ?_
  refine qp (.val none (.sl 3 (v0.map eProblem))) rfl (qp (AI (v0.length : Int)) (ev_len_n rfl) ?_)
  obtain ⟨g1000, hF⟩ := need_some hF
  refine qf (.sl 192 0 ((List.replicate ((v0.length : Int)).toNat ((0, [], []) : TProblem)).length)) [(192, .row true 3 ((List.replicate ((v0.length : Int)).toNat ((0, [], []) : TProblem)).map eProblem)), (0, .row true 3 (([] : List Int).map (V.int .i64)))] (effT_mks rfl rfl g1000 rfl) ?_
  refine qp (.sl 192 0 ((List.replicate ((v0.length : Int)).toNat ((0, [], []) : TProblem)).length)) rfl ?_
  refine r_nil ?_
  refine w_seq ?_
  refine w_reg_seq 320 384 rfl rfl ?_
  refine qp (AI 0) rfl ?_
  refine r_nil ?_
  refine w_block ?_
  refine w_ren (l' := [(0, .val none (.sl 3 (v0.map eProblem))), (3, .sl 0 0 (List.replicate ((v0.length : Int)).toNat ((0, [], []) : TProblem)).length), (4, AI 0)]) (L := [(0, .row true 3 ((List.replicate ((v0.length : Int)).toNat ((0, [], []) : TProblem)).map eProblem))]) [0, 3, 4] [(192, 0)] 1 (by first | rfl | simp) (by first | rfl | simp) (by decide) (by decide) (by decide) ?_
  refine w_loopF (F_laws_toProblemS_l0 v0) (fun s : Int × (List TProblem) => mkS [(0, .val none (.sl 3 (v0.map eProblem))), (3, .sl 0 0 s.2.length), (4, AI s.1)] (fo [(0, .row true 3 (s.2.map eProblem))]) 1) hF ?_
  rintro k1 ⟨v1009, v1010⟩ hF
  rw [F_laws_toProblemS_l0] at hF
  try dsimp only
  refine w_seq ?_
  refine w_reg_seq 1 257 rfl rfl ?_
  refine qp (AI v1009) rfl (qp (.val none (.sl 3 (v0.map eProblem))) rfl (qp (AI (v0.length : Int)) (ev_len_n rfl) (qp (AB (decide (v1009 < (v0.length : Int)))) rfl ?_)))
  refine r_nil ?_
  refine w_condF hF rfl (fun hF => ?_) (fun hF => ?_)
  ·
    refine w_skip ?_
    refine thenQ_n ?_
    refine w_seq ?_
    refine w_block ?_
    refine w_reg 257 833 rfl rfl ?_
    refine qp (.sl 0 0 v1010.length) rfl (qp (AI v1009) rfl (qp (.val none (.sl 3 (v0.map eProblem))) rfl (qp (AI v1009) rfl ?_)))
    obtain ⟨v1011, e1011, hF⟩ := bind_get hF
    refine qp (.val none (.ptr [.int .i64 v1011.1, .str v1011.2.1, .str v1011.2.2])) (ev_iad_n rfl rfl e1011 rfl) (qp (.val none (eProblem v1011)) rfl ?_)
    obtain ⟨v1012, e1012, hF⟩ := bind_get hF
    refine qc (.val none (eProblem v1012)) [(0, .row true 3 (v1010.map eProblem))] false (con_laws_toProblem e1012) c19_ok (by first | rfl | simp) rfl ?_
    obtain ⟨v1013, e1013, hF⟩ := bind_get hF
    refine qp (.ptr 0 v1009.toNat 0) (ev_iad_r rfl (by simp) rfl rfl e1013) ?_
    refine qf0 (.undef) [(0, .row true 3 ((List.set v1010 v1009.toNat v1012).map eProblem)), (0, .row true 3 (v1010.map eProblem))] (effT_st rfl rfl (ix_some e1013).2 rfl rfl (by rfl) (by first | rfl | simp [patch, reb, List.take_of_length_le]) (by rfl) rfl) ?_
    refine r_nil ?_
    refine blockQ_n ?_
    refine thenQ_n ?_
    refine w_reg 833 1025 rfl rfl ?_
    refine qp (AI v1009) rfl (qp (AI (w64 (v1009 + 1))) rfl (qp (AI (w64 (v1009 + 1))) rfl ?_))
    refine r_nil ?_
    refine thenQ_n ?_
    refine aw_ren (l' := [(0, .val none (.sl 3 (v0.map eProblem))), (3, .sl 0 0 (List.set v1010 v1009.toNat v1012).length), (4, AI (w64 (v1009 + 1)))]) (L := [(0, .row true 3 ((List.set v1010 v1009.toNat v1012).map eProblem))]) [0, 3, 4] [(0, 0)] 1 (by first | rfl | simp) (by first | rfl | simp) (by decide) (by decide) (by decide) ⟨_, by rfl, hF⟩
  ·
    refine w_exit ?_
    refine thenQ_e ?_
    refine thenQ_e ?_
    refine blockQ_e ?_
    refine thenQ_n ?_
    refine w_reg_seq 257 385 rfl rfl ?_
    refine qp (.sl 0 0 v1010.length) rfl (qp (.sl 0 0 v1010.length) rfl ?_)
    refine r_nil ?_
    refine w_ret ?_
    cases hF
    exact endQ_r rfl (.inl ⟨_, _, by first | rfl | (simp [List.take_of_length_le]; first | exact ⟨rfl, rfl⟩ | rfl), by simp, by first | rfl | simp [res_laws_toProblemS, List.take_of_length_le]⟩)

def c95 : MC := (.seq (.reg [⟨(some 6), none, (.p true (.mv (.c (.bool false))))⟩]) (.seq (.reg [⟨(some 7), none, (.p true (.mv (.t 0)))⟩, ⟨(some 8), none, (.p true (.mv (.t 1)))⟩, ⟨(some 9), none, (.p true (.bin .geq (.t 7) (.t 8)))⟩, ⟨(some 10), none, (.p true (.mv (.t 9)))⟩, ⟨(some 11), (some (10, true)), (.p true (.mv (.t 0)))⟩, ⟨(some 12), (some (10, true)), (.p true (.mv (.t 2)))⟩, ⟨(some 13), (some (10, true)), (.p true (.bin .leq (.t 11) (.t 12)))⟩, ⟨(some 14), none, (.p true (.pick (.t 10) (.t 13) (.c (.bool false))))⟩, ⟨(some 6), none, (.p true (.mv (.t 14)))⟩]) .ret))
theorem c95_is : compFn Try.prog 95 = some (c95, [(.tmp 6)]) := by kernel_rfl
theorem c95_ok : okFn Try.prog 95 = true := by kernel_rfl

def F_spec_l00In (v0 : Int) (v1 : Int) (v2 : Int) : Option (Bool) :=
  (bif (decide (v1 ≤ v0)) then some (decide (v0 ≤ v2))
  else some false)
@[simp] def res_spec_l00In (r : Bool) : RV := .one (.one (.val (.bool r)))
theorem con_spec_l00In {v0 : Int} {v1 : Int} {v2 : Int} {r : Bool} (hF : F_spec_l00In v0 v1 v2 = some r) : Con Try.prog 95 [.int .i64 v0, .int .i64 v1, .int .i64 v2] (res_spec_l00In r) := by
  unfold F_spec_l00In at hF
  refine con_of c95_is fun N => ?_
  refine w_reg_seq 0 64 rfl rfl ?_
  refine qp (AB false) rfl ?_
  refine r_nil ?_
  refine w_reg_seq 64 640 rfl rfl ?_
  refine qp (AI v0) rfl (qp (AI v1) rfl (qp (AB (decide (v1 ≤ v0))) rfl (qp (AB (decide (v1 ≤ v0))) rfl ?_)))
  refine q_case 10 hF rfl (fun hF => ?_) (fun hF => ?_)
  ·
    refine qg (AI v0) rfl rfl (qg (AI v2) rfl rfl (qg (AB (decide (v0 ≤ v2))) rfl rfl (qp (AB (decide (v0 ≤ v2))) rfl (qp (AB (decide (v0 ≤ v2))) rfl ?_))))
    refine r_nil ?_
    refine w_ret ?_
    cases hF
    exact endQ_r rfl (.inl ⟨_, _, by first | rfl | (simp [List.take_of_length_le]; first | exact ⟨rfl, rfl⟩ | rfl), by simp, by first | rfl | simp [res_spec_l00In, List.take_of_length_le]⟩)
  ·
    refine qn rfl (qn rfl (qn rfl (qp (AB false) rfl (qp (AB false) rfl ?_))))
    refine r_nil ?_
    refine w_ret ?_
    cases hF
    exact endQ_r rfl (.inl ⟨_, _, by first | rfl | (simp [List.take_of_length_le]; first | exact ⟨rfl, rfl⟩ | rfl), by simp, by first | rfl | simp [res_spec_l00In, List.take_of_length_le]⟩)

def c63 : MC := (.seq (.reg [⟨(some 2), none, (.p true (.mv (.c (.bool false))))⟩]) (.seq (.reg [⟨(some 3), none, (.p true (.mv (.t 0)))⟩, ⟨(some 4), none, (.call true 95 [(.t 3), (.c (.int .i64 1)), (.c (.int .i64 5))])⟩, ⟨(some 2), none, (.p true (.mv (.t 4)))⟩]) .ret))
theorem c63_is : compFn Try.prog 63 = some (c63, [(.tmp 2)]) := by kernel_rfl
theorem c63_ok : okFn Try.prog 63 = true := by kernel_rfl

def F_spec_l31Kind (v0 : Int) : Option (Bool) :=
  ((F_spec_l00In v0 1 5).bind fun v1000 => some v1000)
@[simp] def res_spec_l31Kind (r : Bool) : RV := .one (.one (.val (.bool r)))
theorem con_spec_l31Kind {v0 : Int} {r : Bool} (hF : F_spec_l31Kind v0 = some r) : Con Try.prog 63 [.int .i64 v0] (res_spec_l31Kind r) := by
  unfold F_spec_l31Kind at hF
  refine con_of c63_is fun N => ?_
  refine w_reg_seq 0 64 rfl rfl ?_
  refine qp (AB false) rfl ?_
  refine r_nil ?_
  refine w_reg_seq 64 256 rfl rfl ?_
  refine qp (AI v0) rfl ?_
  obtain ⟨v1000, e1000, hF⟩ := bind_get hF
  refine qc (AB v1000) [] false (con_spec_l00In e1000) c95_ok (by first | rfl | simp) rfl ?_
  refine qp (AB v1000) rfl ?_
  refine r_nil ?_
  refine w_ret ?_
  cases hF
  exact endQ_r rfl (.inl ⟨_, _, by first | rfl | (simp [List.take_of_length_le]; first | exact ⟨rfl, rfl⟩ | rfl), by simp, by first | rfl | simp [res_spec_l31Kind, List.take_of_length_le]⟩)

def c27 : MC := (.seq (.reg [⟨(some 2), none, (.f (.nilrow 1))⟩]) (.seq (.reg [⟨(some 5), none, (.f (.mks 1 8 (.int .i64 0) (.c (.int .i64 6)) (.c (.int .i64 6))))⟩, ⟨(some 3), none, (.p true (.mv (.t 5)))⟩]) (.seq (.seq (.reg [⟨(some 4), none, (.p true (.mv (.c (.int .i64 0))))⟩]) (.block 0 (.loop (.seq (.seq (.reg [⟨(some 6), none, (.p true (.mv (.t 4)))⟩, ⟨(some 7), none, (.p true (.mv (.t 0)))⟩, ⟨(some 8), none, (.p true (.len (.t 7)))⟩, ⟨(some 9), none, (.p true (.bin .lss (.t 6) (.t 8)))⟩]) (.cond (.t 9) .skip (.exit 0))) (.seq (.block 1 (.seq (.reg [⟨(some 12), none, (.p true (.mv (.t 0)))⟩, ⟨(some 13), none, (.p true (.mv (.t 4)))⟩, ⟨(some 14), none, (.p true (.iad (.t 12) (.t 13) 3))⟩, ⟨(some 15), none, (.p true (.fad (.t 14) 0))⟩, ⟨(some 16), none, (.p true (.ld (.t 15) 1 false))⟩, ⟨(some 17), none, (.call true 63 [(.t 16)])⟩]) (.cond (.t 17) (.seq (.reg [⟨(some 18), none, (.p true (.mv (.t 3)))⟩, ⟨(some 19), none, (.p true (.mv (.t 0)))⟩, ⟨(some 20), none, (.p true (.mv (.t 4)))⟩, ⟨(some 21), none, (.p true (.iad (.t 19) (.t 20) 3))⟩, ⟨(some 22), none, (.p true (.fad (.t 21) 0))⟩, ⟨(some 23), none, (.p true (.ld (.t 22) 1 false))⟩, ⟨(some 24), none, (.p true (.iad (.t 18) (.t 23) 1))⟩, ⟨(some 25), none, (.p true (.ld (.t 24) 1 false))⟩, ⟨(some 26), none, (.p true (.bin .add (.t 25) (.c (.int .i64 1))))⟩, ⟨(some 27), none, (.p true (.iad (.t 18) (.t 23) 1))⟩, ⟨none, none, (.f (.st (.t 27) (.t 26) 1))⟩]) (.reg [⟨(some 28), none, (.p true (.mv (.t 3)))⟩, ⟨(some 29), none, (.p true (.iad (.t 28) (.c (.int .i64 0)) 1))⟩, ⟨(some 30), none, (.p true (.ld (.t 29) 1 false))⟩, ⟨(some 31), none, (.p true (.bin .add (.t 30) (.c (.int .i64 1))))⟩, ⟨(some 32), none, (.p true (.iad (.t 28) (.c (.int .i64 0)) 1))⟩, ⟨none, none, (.f (.st (.t 32) (.t 31) 1))⟩])) .skip))) (.reg [⟨(some 10), none, (.p true (.mv (.t 4)))⟩, ⟨(some 11), none, (.p true (.bin .add (.t 10) (.c (.int .i64 1))))⟩, ⟨(some 4), none, (.p true (.mv (.t 11)))⟩])))))) (.seq (.reg [⟨(some 33), none, (.p true (.mv (.t 3)))⟩, ⟨(some 2), none, (.p true (.mv (.t 33)))⟩]) .ret))))
theorem c27_is : compFn Try.prog 27 = some (c27, [(.tmp 2)]) := by kernel_rfl
theorem c27_ok : okFn Try.prog 27 = true := by kernel_rfl

def F_spec_CountProblems_l0 (v0 : List TProblem) (k1 : Int × (List Int) → Option (List Int)) : Int × (List Int) → Option (List Int)
  | (v1017, v1018) => (bif (decide (v1017 < (v0.length : Int))) then ((ix v0 v1017).bind fun v1019 => ((F_spec_l31Kind v1019.1).bind fun v1020 => (bif v1020 then ((ix v0 v1017).bind fun v1021 => ((ix v1018 v1021.1).bind fun v1022 => ((ix v1018 v1021.1).bind fun v1023 => ((ix (List.set v1018 v1021.1.toNat (w64 (v1022 + 1))) 0).bind fun v1024 => ((ix (List.set v1018 v1021.1.toNat (w64 (v1022 + 1))) 0).bind fun v1025 => k1 (w64 (v1017 + 1), List.set (List.set v1018 v1021.1.toNat (w64 (v1022 + 1))) (0 : Int).toNat (w64 (v1024 + 1))))))))
  else k1 (w64 (v1017 + 1), v1018))))
  else some v1018)
def F_spec_CountProblems (v0 : List TProblem) : Option (List Int) :=
  (need (0 ≤ (6 : Int) ∧ (6 : Int) ≤ (6 : Int) ∧ (6 : Int) ≤ 9223372036854775807 ∧ 8 * (6 : Int) ≤ 281474976710656) (loop (F_spec_CountProblems_l0 v0) (0, List.replicate ((6 : Int)).toNat (0 : Int))))
@[simp] def res_spec_CountProblems (r : List Int) : RV := .one (.one (.row true 1 (r.map (V.int .i64))))
theorem con_spec_CountProblems {v0 : List TProblem} {r : List Int} (hF : F_spec_CountProblems v0 = some r) : Con Try.prog 27 [.sl 3 (v0.map eProblem)] (res_spec_CountProblems r) := by
  unfold F_spec_CountProblems at hF
  refine con_of c27_is fun N => ?_
  refine w_reg_seq 0 64 rfl rfl ?_
  refine qf (.sl 0 0 0) [(0, .row true 1 (([] : List Int).map (V.int .i64)))] (by simp) ?_
  refine r_nil ?_
  refine w_reg_seq 64 192 rfl rfl ?_
  obtain ⟨g1000, hF⟩ := need_some hF
  refine qf (.sl 64 0 ((List.replicate ((6 : Int)).toNat (0 : Int)).length)) [(64, .row true 1 ((List.replicate ((6 : Int)).toNat (0 : Int)).map (V.int .i64))), (0, .row true 1 (([] : List Int).map (V.int .i64)))] (effT_mks rfl rfl g1000 rfl) ?_
  refine qp (.sl 64 0 ((List.replicate ((6 : Int)).toNat (0 : Int)).length)) rfl ?_
  refine r_nil ?_
  refine w_seq ?_
  refine w_reg_seq 192 256 rfl rfl ?_
  refine qp (AI 0) rfl ?_
  refine r_nil ?_
  refine w_block ?_
  refine w_ren (l' := [(0, .val none (.sl 3 (v0.map eProblem))), (3, .sl 0 0 (List.replicate ((6 : Int)).toNat (0 : Int)).length), (4, AI 0)]) (L := [(0, .row true 1 ((List.replicate ((6 : Int)).toNat (0 : Int)).map (V.int .i64)))]) [0, 3, 4] [(64, 0)] 1 (by first | rfl | simp) (by first | rfl | simp) (by decide) (by decide) (by decide) ?_
  refine w_loopF (F_spec_CountProblems_l0 v0) (fun s : Int × (List Int) => mkS [(0, .val none (.sl 3 (v0.map eProblem))), (3, .sl 0 0 s.2.length), (4, AI s.1)] (fo [(0, .row true 1 (s.2.map (V.int .i64)))]) 1) hF ?_
  rintro k1 ⟨v1017, v1018⟩ hF
  rw [F_spec_CountProblems_l0] at hF
  try dsimp only
  refine w_seq ?_
  refine w_reg_seq 1 257 rfl rfl ?_
  refine qp (AI v1017) rfl (qp (.val none (.sl 3 (v0.map eProblem))) rfl (qp (AI (v0.length : Int)) (ev_len_n rfl) (qp (AB (decide (v1017 < (v0.length : Int)))) rfl ?_)))
  refine r_nil ?_
  refine w_condF hF rfl (fun hF => ?_) (fun hF => ?_)
  ·
    refine w_skip ?_
    refine thenQ_n ?_
    refine w_seq ?_
    refine w_block ?_
    refine w_reg_seq 257 641 rfl rfl ?_
    refine qp (.val none (.sl 3 (v0.map eProblem))) rfl (qp (AI v1017) rfl ?_)
    obtain ⟨v1019, e1019, hF⟩ := bind_get hF
    refine qp (.val none (.ptr [.int .i64 v1019.1, .str v1019.2.1, .str v1019.2.2])) (ev_iad_n rfl rfl e1019 rfl) (qp (.val none (.ptr [.int .i64 v1019.1, .str v1019.2.1, .str v1019.2.2])) rfl (qp (AI v1019.1) rfl ?_))
    obtain ⟨v1020, e1020, hF⟩ := bind_get hF
    refine qc (AB v1020) [(0, .row true 1 (v1018.map (V.int .i64)))] false (con_spec_l31Kind e1020) c63_ok (by first | rfl | simp) rfl ?_
    refine r_nil ?_
    refine w_condF hF rfl (fun hF => ?_) (fun hF => ?_)
    ·
      refine w_reg_seq 641 1345 rfl rfl ?_
      refine qp (.sl 0 0 v1018.length) rfl (qp (.val none (.sl 3 (v0.map eProblem))) rfl (qp (AI v1017) rfl ?_))
      obtain ⟨v1021, e1021, hF⟩ := bind_get hF
      refine qp (.val none (.ptr [.int .i64 v1021.1, .str v1021.2.1, .str v1021.2.2])) (ev_iad_n rfl rfl e1021 rfl) (qp (.val none (.ptr [.int .i64 v1021.1, .str v1021.2.1, .str v1021.2.2])) rfl (qp (AI v1021.1) rfl ?_))
      obtain ⟨v1022, e1022, hF⟩ := bind_get hF
      refine qp (.ptr 0 v1021.1.toNat 0) (ev_iad_r rfl (by simp) rfl rfl e1022) (qp (AI v1022) (ev_ld_r rfl rfl (ix_some e1022).2 rfl rfl) (qp (AI (w64 (v1022 + 1))) rfl ?_))
      obtain ⟨v1023, e1023, hF⟩ := bind_get hF
      refine qp (.ptr 0 v1021.1.toNat 0) (ev_iad_r rfl (by simp) rfl rfl e1023) ?_
      refine qf0 (.undef) [(0, .row true 1 ((List.set v1018 v1021.1.toNat (w64 (v1022 + 1))).map (V.int .i64))), (0, .row true 1 (v1018.map (V.int .i64)))] (effT_st rfl rfl (ix_some e1023).2 rfl rfl (by rfl) (by first | rfl | simp [patch, reb, List.take_of_length_le]) (by rfl) rfl) ?_
      refine r_nil ?_
      refine w_reg 1345 1729 rfl rfl ?_
      refine qp (.sl 0 0 v1018.length) rfl ?_
      obtain ⟨v1024, e1024, hF⟩ := bind_get hF
      refine qp (.ptr 0 ((0 : Int).toNat) 0) (ev_iad_r rfl (by simp) rfl rfl e1024) (qp (AI v1024) (ev_ld_r rfl rfl (ix_some e1024).2 rfl rfl) (qp (AI (w64 (v1024 + 1))) rfl ?_))
      obtain ⟨v1025, e1025, hF⟩ := bind_get hF
      refine qp (.ptr 0 ((0 : Int).toNat) 0) (ev_iad_r rfl (by simp) rfl rfl e1025) ?_
      refine qf0 (.undef) [(0, .row true 1 ((List.set (List.set v1018 v1021.1.toNat (w64 (v1022 + 1))) (0 : Int).toNat (w64 (v1024 + 1))).map (V.int .i64))), (0, .row true 1 ((List.set v1018 v1021.1.toNat (w64 (v1022 + 1))).map (V.int .i64))), (0, .row true 1 (v1018.map (V.int .i64)))] (effT_st rfl rfl (ix_some e1025).2 rfl rfl (by rfl) (by first | rfl | simp [patch, reb, List.take_of_length_le]) (by rfl) rfl) ?_
      refine r_nil ?_
      refine blockQ_n ?_
      refine thenQ_n ?_
      refine w_reg 1729 1921 rfl rfl ?_
      refine qp (AI v1017) rfl (qp (AI (w64 (v1017 + 1))) rfl (qp (AI (w64 (v1017 + 1))) rfl ?_))
      refine r_nil ?_
      refine thenQ_n ?_
      refine aw_ren (l' := [(0, .val none (.sl 3 (v0.map eProblem))), (3, .sl 0 0 (List.set (List.set v1018 v1021.1.toNat (w64 (v1022 + 1))) (0 : Int).toNat (w64 (v1024 + 1))).length), (4, AI (w64 (v1017 + 1)))]) (L := [(0, .row true 1 ((List.set (List.set v1018 v1021.1.toNat (w64 (v1022 + 1))) (0 : Int).toNat (w64 (v1024 + 1))).map (V.int .i64)))]) [0, 3, 4] [(0, 0)] 1 (by first | rfl | simp) (by first | rfl | simp) (by decide) (by decide) (by decide) ⟨_, by rfl, hF⟩
    ·
      refine w_skip ?_
      refine blockQ_n ?_
      refine thenQ_n ?_
      refine w_reg 641 833 rfl rfl ?_
      refine qp (AI v1017) rfl (qp (AI (w64 (v1017 + 1))) rfl (qp (AI (w64 (v1017 + 1))) rfl ?_))
      refine r_nil ?_
      refine thenQ_n ?_
      refine aw_ren (l' := [(0, .val none (.sl 3 (v0.map eProblem))), (3, .sl 0 0 v1018.length), (4, AI (w64 (v1017 + 1)))]) (L := [(0, .row true 1 (v1018.map (V.int .i64)))]) [0, 3, 4] [(0, 0)] 1 (by first | rfl | simp) (by first | rfl | simp) (by decide) (by decide) (by decide) ⟨_, by rfl, hF⟩
  ·
    refine w_exit ?_
    refine thenQ_e ?_
    refine thenQ_e ?_
    refine blockQ_e ?_
    refine thenQ_n ?_
    refine w_reg_seq 257 385 rfl rfl ?_
    refine qp (.sl 0 0 v1018.length) rfl (qp (.sl 0 0 v1018.length) rfl ?_)
    refine r_nil ?_
    refine w_ret ?_
    cases hF
    exact endQ_r rfl (.inl ⟨_, _, by first | rfl | (simp [List.take_of_length_le]; first | exact ⟨rfl, rfl⟩ | rfl), by simp, by first | rfl | simp [res_spec_CountProblems, List.take_of_length_le]⟩)

def c65 : MC := (.seq (.reg [⟨(some 6), none, (.p true (.mv (.c (.bool false))))⟩]) (.seq (.reg [⟨(some 7), none, (.p true (.mv (.t 0)))⟩, ⟨(some 8), none, (.p true (.mv (.t 1)))⟩, ⟨(some 9), none, (.p true (.bin .geq (.t 7) (.t 8)))⟩, ⟨(some 10), none, (.p true (.mv (.t 9)))⟩, ⟨(some 11), (some (10, true)), (.p true (.mv (.t 0)))⟩, ⟨(some 12), (some (10, true)), (.p true (.mv (.t 2)))⟩, ⟨(some 13), (some (10, true)), (.p true (.bin .leq (.t 11) (.t 12)))⟩, ⟨(some 14), none, (.p true (.pick (.t 10) (.t 13) (.c (.bool false))))⟩, ⟨(some 6), none, (.p true (.mv (.t 14)))⟩]) .ret))
theorem c65_is : compFn Try.prog 65 = some (c65, [(.tmp 6)]) := by kernel_rfl
theorem c65_ok : okFn Try.prog 65 = true := by kernel_rfl

def F_impl_within (v0 : Int) (v1 : Int) (v2 : Int) : Option (Bool) :=
  (bif (decide (v1 ≤ v0)) then some (decide (v0 ≤ v2))
  else some false)
@[simp] def res_impl_within (r : Bool) : RV := .one (.one (.val (.bool r)))
theorem con_impl_within {v0 : Int} {v1 : Int} {v2 : Int} {r : Bool} (hF : F_impl_within v0 v1 v2 = some r) : Con Try.prog 65 [.int .i64 v0, .int .i64 v1, .int .i64 v2] (res_impl_within r) := by
  unfold F_impl_within at hF
  refine con_of c65_is fun N => ?_
  refine w_reg_seq 0 64 rfl rfl ?_
  refine qp (AB false) rfl ?_
  refine r_nil ?_
  refine w_reg_seq 64 640 rfl rfl ?_
  refine qp (AI v0) rfl (qp (AI v1) rfl (qp (AB (decide (v1 ≤ v0))) rfl (qp (AB (decide (v1 ≤ v0))) rfl ?_)))
  refine q_case 10 hF rfl (fun hF => ?_) (fun hF => ?_)
  ·
    refine qg (AI v0) rfl rfl (qg (AI v2) rfl rfl (qg (AB (decide (v0 ≤ v2))) rfl rfl (qp (AB (decide (v0 ≤ v2))) rfl (qp (AB (decide (v0 ≤ v2))) rfl ?_))))
    refine r_nil ?_
    refine w_ret ?_
    cases hF
    exact endQ_r rfl (.inl ⟨_, _, by first | rfl | (simp [List.take_of_length_le]; first | exact ⟨rfl, rfl⟩ | rfl), by simp, by first | rfl | simp [res_impl_within, List.take_of_length_le]⟩)
  ·
    refine qn rfl (qn rfl (qn rfl (qp (AB false) rfl (qp (AB false) rfl ?_))))
    refine r_nil ?_
    refine w_ret ?_
    cases hF
    exact endQ_r rfl (.inl ⟨_, _, by first | rfl | (simp [List.take_of_length_le]; first | exact ⟨rfl, rfl⟩ | rfl), by simp, by first | rfl | simp [res_impl_within, List.take_of_length_le]⟩)

def c29 : MC := (.seq (.reg [⟨(some 2), none, (.f (.nilrow 1))⟩]) (.seq (.reg [⟨(some 6), none, (.f (.mks 1 8 (.int .i64 0) (.c (.int .i64 6)) (.c (.int .i64 6))))⟩, ⟨(some 3), none, (.p true (.mv (.t 6)))⟩]) (.seq (.seq (.reg [⟨(some 7), none, (.p true (.mv (.t 0)))⟩, ⟨(some 8), none, (.p true (.len (.t 7)))⟩, ⟨(some 9), none, (.p true (.mv (.c (.int .i64 0))))⟩]) (.block 0 (.loop (.seq (.reg [⟨(some 10), none, (.p true (.bin .lss (.t 9) (.t 8)))⟩]) (.seq (.cond (.t 10) .skip (.exit 0)) (.seq (.block 1 (.seq (.reg [⟨(some 11), none, (.p true (.iad (.t 7) (.t 9) 3))⟩, ⟨(some 12), none, (.p true (.ld (.t 11) 3 true))⟩, ⟨(some 5), none, (.f (.alloc [((.int .i64 0), (0, false)), ((.str []), (0, false)), ((.str []), (0, false))]))⟩, ⟨none, none, (.f (.st (.t 5) (.t 12) 3))⟩]) (.seq (.reg [⟨(some 13), none, (.p true (.fad (.t 5) 0))⟩, ⟨(some 14), none, (.p true (.ld (.t 13) 1 false))⟩, ⟨(some 15), none, (.call true 65 [(.t 14), (.c (.int .i64 1)), (.c (.int .i64 5))])⟩]) (.cond (.t 15) (.seq (.reg [⟨(some 16), none, (.p true (.mv (.t 3)))⟩, ⟨(some 17), none, (.p true (.iad (.t 16) (.c (.int .i64 0)) 1))⟩, ⟨(some 18), none, (.p true (.ld (.t 17) 1 false))⟩, ⟨(some 19), none, (.p true (.bin .add (.t 18) (.c (.int .i64 1))))⟩, ⟨(some 20), none, (.p true (.iad (.t 16) (.c (.int .i64 0)) 1))⟩, ⟨none, none, (.f (.st (.t 20) (.t 19) 1))⟩]) (.reg [⟨(some 21), none, (.p true (.mv (.t 3)))⟩, ⟨(some 22), none, (.p true (.fad (.t 5) 0))⟩, ⟨(some 23), none, (.p true (.ld (.t 22) 1 false))⟩, ⟨(some 24), none, (.p true (.iad (.t 21) (.t 23) 1))⟩, ⟨(some 25), none, (.p true (.ld (.t 24) 1 false))⟩, ⟨(some 26), none, (.p true (.bin .add (.t 25) (.c (.int .i64 1))))⟩, ⟨(some 27), none, (.p true (.iad (.t 21) (.t 23) 1))⟩, ⟨none, none, (.f (.st (.t 27) (.t 26) 1))⟩])) .skip)))) (.reg [⟨(some 28), none, (.p true (.bin .add (.t 9) (.c (.int .i64 1))))⟩, ⟨(some 9), none, (.p true (.mv (.t 28)))⟩]))))))) (.seq (.reg [⟨(some 29), none, (.p true (.mv (.t 3)))⟩, ⟨(some 2), none, (.p true (.mv (.t 29)))⟩]) .ret))))
theorem c29_is : compFn Try.prog 29 = some (c29, [(.tmp 2)]) := by kernel_rfl
theorem c29_ok : okFn Try.prog 29 = true := by kernel_rfl

def F_impl_CountProblems_l0 (v0 : List TProblem) (k1 : Int × (List Int) → Option (List Int)) : Int × (List Int) → Option (List Int)
  | (v1015, v1016) => (bif (decide (v1015 < (v0.length : Int))) then ((ix v0 v1015).bind fun v1017 => ((F_impl_within v1017.1 1 5).bind fun v1018 => (bif v1018 then ((ix v1016 0).bind fun v1019 => ((ix v1016 0).bind fun v1020 => ((ix (List.set v1016 (0 : Int).toNat (w64 (v1019 + 1))) v1017.1).bind fun v1021 => ((ix (List.set v1016 (0 : Int).toNat (w64 (v1019 + 1))) v1017.1).bind fun v1022 => k1 (w64 (v1015 + 1), List.set (List.set v1016 (0 : Int).toNat (w64 (v1019 + 1))) v1017.1.toNat (w64 (v1021 + 1)))))))
  else k1 (w64 (v1015 + 1), v1016))))
  else some v1016)
def F_impl_CountProblems (v0 : List TProblem) : Option (List Int) :=
  (need (0 ≤ (6 : Int) ∧ (6 : Int) ≤ (6 : Int) ∧ (6 : Int) ≤ 9223372036854775807 ∧ 8 * (6 : Int) ≤ 281474976710656) (loop (F_impl_CountProblems_l0 v0) (0, List.replicate ((6 : Int)).toNat (0 : Int))))
@[simp] def res_impl_CountProblems (r : List Int) : RV := .one (.one (.row true 1 (r.map (V.int .i64))))
theorem con_impl_CountProblems {v0 : List TProblem} {r : List Int} (hF : F_impl_CountProblems v0 = some r) : Con Try.prog 29 [.sl 3 (v0.map eProblem)] (res_impl_CountProblems r) := by
  unfold F_impl_CountProblems at hF
  refine con_of c29_is fun N => ?_
  refine w_reg_seq 0 64 rfl rfl ?_
  refine qf (.sl 0 0 0) [(0, .row true 1 (([] : List Int).map (V.int .i64)))] (by simp) ?_
  refine r_nil ?_
  refine w_reg_seq 64 192 rfl rfl ?_
  obtain ⟨g1000, hF⟩ := need_some hF
  refine qf (.sl 64 0 ((List.replicate ((6 : Int)).toNat (0 : Int)).length)) [(64, .row true 1 ((List.replicate ((6 : Int)).toNat (0 : Int)).map (V.int .i64))), (0, .row true 1 (([] : List Int).map (V.int .i64)))] (effT_mks rfl rfl g1000 rfl) ?_
  refine qp (.sl 64 0 ((List.replicate ((6 : Int)).toNat (0 : Int)).length)) rfl ?_
  refine r_nil ?_
  refine w_seq ?_
  refine w_reg_seq 192 384 rfl rfl ?_
  refine qp (.val none (.sl 3 (v0.map eProblem))) rfl (qp (AI (v0.length : Int)) (ev_len_n rfl) (qp (AI 0) rfl ?_))
  refine r_nil ?_
  refine w_block ?_
  refine w_ren (l' := [(3, .sl 0 0 (List.replicate ((6 : Int)).toNat (0 : Int)).length), (7, .val none (.sl 3 (v0.map eProblem))), (8, AI (v0.length : Int)), (9, AI 0)]) (L := [(0, .row true 1 ((List.replicate ((6 : Int)).toNat (0 : Int)).map (V.int .i64)))]) [3, 7, 8, 9] [(64, 0)] 1 (by first | rfl | simp) (by first | rfl | simp) (by decide) (by decide) (by decide) ?_
  refine w_loopF (F_impl_CountProblems_l0 v0) (fun s : Int × (List Int) => mkS [(3, .sl 0 0 s.2.length), (7, .val none (.sl 3 (v0.map eProblem))), (8, AI (v0.length : Int)), (9, AI s.1)] (fo [(0, .row true 1 (s.2.map (V.int .i64)))]) 1) hF ?_
  rintro k1 ⟨v1015, v1016⟩ hF
  rw [F_impl_CountProblems_l0] at hF
  try dsimp only
  refine w_reg_seq 1 65 rfl rfl ?_
  refine qp (AB (decide (v1015 < (v0.length : Int)))) rfl ?_
  refine r_nil ?_
  refine w_seq ?_
  refine w_condF hF rfl (fun hF => ?_) (fun hF => ?_)
  ·
    refine w_skip ?_
    refine thenQ_n ?_
    refine w_seq ?_
    refine w_block ?_
    refine w_reg_seq 65 321 rfl rfl ?_
    obtain ⟨v1017, e1017, hF⟩ := bind_get hF
    refine qp (.val none (.ptr [.int .i64 v1017.1, .str v1017.2.1, .str v1017.2.2])) (ev_iad_n rfl rfl e1017 rfl) (qp (.val none (eProblem v1017)) rfl ?_)
    refine qf (.ptr 193 0 0) [(193, .box [AI 0, AS [], AS []]), (0, .row true 1 (v1016.map (V.int .i64)))] (by simp) ?_
    refine qf0 (.undef) [(193, .box [AI v1017.1, AS v1017.2.1, AS v1017.2.2]), (193, .box [AI 0, AS [], AS []]), (0, .row true 1 (v1016.map (V.int .i64)))] (by simp) ?_
    refine r_nil ?_
    refine w_reg_seq 321 513 rfl rfl ?_
    refine qp (.ptr 193 0 0) rfl (qp (AI v1017.1) rfl ?_)
    obtain ⟨v1018, e1018, hF⟩ := bind_get hF
    refine qc (AB v1018) [(193, .box [AI v1017.1, AS v1017.2.1, AS v1017.2.2]), (193, .box [AI 0, AS [], AS []]), (0, .row true 1 (v1016.map (V.int .i64)))] false (con_impl_within e1018) c65_ok (by first | rfl | simp) rfl ?_
    refine r_nil ?_
    refine w_condF hF rfl (fun hF => ?_) (fun hF => ?_)
    ·
      refine w_reg_seq 513 897 rfl rfl ?_
      refine qp (.sl 0 0 v1016.length) rfl ?_
      obtain ⟨v1019, e1019, hF⟩ := bind_get hF
      refine qp (.ptr 0 ((0 : Int).toNat) 0) (ev_iad_r rfl (by simp) rfl rfl e1019) (qp (AI v1019) (ev_ld_r rfl rfl (ix_some e1019).2 rfl rfl) (qp (AI (w64 (v1019 + 1))) rfl ?_))
      obtain ⟨v1020, e1020, hF⟩ := bind_get hF
      refine qp (.ptr 0 ((0 : Int).toNat) 0) (ev_iad_r rfl (by simp) rfl rfl e1020) ?_
      refine qf0 (.undef) [(0, .row true 1 ((List.set v1016 (0 : Int).toNat (w64 (v1019 + 1))).map (V.int .i64))), (193, .box [AI v1017.1, AS v1017.2.1, AS v1017.2.2]), (193, .box [AI 0, AS [], AS []]), (0, .row true 1 (v1016.map (V.int .i64)))] (effT_st rfl rfl (ix_some e1020).2 rfl rfl (by rfl) (by first | rfl | simp [patch, reb, List.take_of_length_le]) (by rfl) rfl) ?_
      refine r_nil ?_
      refine w_reg 897 1409 rfl rfl ?_
      refine qp (.sl 0 0 v1016.length) rfl (qp (.ptr 193 0 0) rfl (qp (AI v1017.1) rfl ?_))
      obtain ⟨v1021, e1021, hF⟩ := bind_get hF
      refine qp (.ptr 0 v1017.1.toNat 0) (ev_iad_r rfl (by simp) rfl rfl e1021) (qp (AI v1021) (ev_ld_r rfl rfl (ix_some e1021).2 rfl rfl) (qp (AI (w64 (v1021 + 1))) rfl ?_))
      obtain ⟨v1022, e1022, hF⟩ := bind_get hF
      refine qp (.ptr 0 v1017.1.toNat 0) (ev_iad_r rfl (by simp) rfl rfl e1022) ?_
      refine qf0 (.undef) [(0, .row true 1 ((List.set (List.set v1016 (0 : Int).toNat (w64 (v1019 + 1))) v1017.1.toNat (w64 (v1021 + 1))).map (V.int .i64))), (0, .row true 1 ((List.set v1016 (0 : Int).toNat (w64 (v1019 + 1))).map (V.int .i64))), (193, .box [AI v1017.1, AS v1017.2.1, AS v1017.2.2]), (193, .box [AI 0, AS [], AS []]), (0, .row true 1 (v1016.map (V.int .i64)))] (effT_st rfl rfl (ix_some e1022).2 rfl rfl (by rfl) (by first | rfl | simp [patch, reb, List.take_of_length_le]) (by rfl) rfl) ?_
      refine r_nil ?_
      refine blockQ_n ?_
      refine thenQ_n ?_
      refine w_reg 1409 1537 rfl rfl ?_
      refine qp (AI (w64 (v1015 + 1))) rfl (qp (AI (w64 (v1015 + 1))) rfl ?_)
      refine r_nil ?_
      refine thenQ_n ?_
      refine aw_ren (l' := [(3, .sl 0 0 (List.set (List.set v1016 (0 : Int).toNat (w64 (v1019 + 1))) v1017.1.toNat (w64 (v1021 + 1))).length), (7, .val none (.sl 3 (v0.map eProblem))), (8, AI (v0.length : Int)), (9, AI (w64 (v1015 + 1)))]) (L := [(0, .row true 1 ((List.set (List.set v1016 (0 : Int).toNat (w64 (v1019 + 1))) v1017.1.toNat (w64 (v1021 + 1))).map (V.int .i64)))]) [3, 7, 8, 9] [(0, 0)] 1 (by first | rfl | simp) (by first | rfl | simp) (by decide) (by decide) (by decide) ⟨_, by rfl, hF⟩
    ·
      refine w_skip ?_
      refine blockQ_n ?_
      refine thenQ_n ?_
      refine w_reg 513 641 rfl rfl ?_
      refine qp (AI (w64 (v1015 + 1))) rfl (qp (AI (w64 (v1015 + 1))) rfl ?_)
      refine r_nil ?_
      refine thenQ_n ?_
      refine aw_ren (l' := [(3, .sl 0 0 v1016.length), (7, .val none (.sl 3 (v0.map eProblem))), (8, AI (v0.length : Int)), (9, AI (w64 (v1015 + 1)))]) (L := [(0, .row true 1 (v1016.map (V.int .i64)))]) [3, 7, 8, 9] [(0, 0)] 1 (by first | rfl | simp) (by first | rfl | simp) (by decide) (by decide) (by decide) ⟨_, by rfl, hF⟩
  ·
    refine w_exit ?_
    refine thenQ_e ?_
    refine thenQ_e ?_
    refine blockQ_e ?_
    refine thenQ_n ?_
    refine w_reg_seq 65 193 rfl rfl ?_
    refine qp (.sl 0 0 v1016.length) rfl (qp (.sl 0 0 v1016.length) rfl ?_)
    refine r_nil ?_
    refine w_ret ?_
    cases hF
    exact endQ_r rfl (.inl ⟨_, _, by first | rfl | (simp [List.take_of_length_le]; first | exact ⟨rfl, rfl⟩ | rfl), by simp, by first | rfl | simp [res_impl_CountProblems, List.take_of_length_le]⟩)

def c30 : MC := (.seq (.reg [⟨(some 4), none, (.p true (.mv (.c (.bool false))))⟩]) (.seq (.seq (.reg [⟨(some 6), none, (.p true (.mv (.t 0)))⟩, ⟨(some 7), none, (.p true (.len (.t 6)))⟩, ⟨(some 8), none, (.p true (.mv (.t 1)))⟩, ⟨(some 9), none, (.p true (.len (.t 8)))⟩, ⟨(some 10), none, (.p true (.bin .neq (.t 7) (.t 9)))⟩]) (.cond (.t 10) (.seq (.reg [⟨(some 4), none, (.p true (.mv (.c (.bool false))))⟩]) .ret) .skip)) (.seq (.seq (.reg [⟨(some 5), none, (.p true (.mv (.c (.int .i64 0))))⟩]) (.block 0 (.loop (.seq (.seq (.reg [⟨(some 11), none, (.p true (.mv (.t 5)))⟩, ⟨(some 12), none, (.p true (.mv (.t 0)))⟩, ⟨(some 13), none, (.p true (.len (.t 12)))⟩, ⟨(some 14), none, (.p true (.bin .lss (.t 11) (.t 13)))⟩]) (.cond (.t 14) .skip (.exit 0))) (.seq (.block 1 (.seq (.reg [⟨(some 17), none, (.p false (.mv (.t 0)))⟩, ⟨(some 18), none, (.p false (.mv (.t 5)))⟩, ⟨(some 19), none, (.p false (.iad (.t 17) (.t 18) 1))⟩, ⟨(some 20), none, (.p false (.ld (.t 19) 1 false))⟩, ⟨(some 21), none, (.p false (.mv (.t 1)))⟩, ⟨(some 22), none, (.p false (.mv (.t 5)))⟩, ⟨(some 23), none, (.p false (.iad (.t 21) (.t 22) 1))⟩, ⟨(some 24), none, (.p false (.ld (.t 23) 1 false))⟩, ⟨(some 25), none, (.p false (.bin .neq (.t 20) (.t 24)))⟩]) (.cond (.t 25) (.seq (.reg [⟨(some 4), none, (.p true (.mv (.c (.bool false))))⟩]) .ret) .skip))) (.reg [⟨(some 15), none, (.p true (.mv (.t 5)))⟩, ⟨(some 16), none, (.p true (.bin .add (.t 15) (.c (.int .i64 1))))⟩, ⟨(some 5), none, (.p true (.mv (.t 16)))⟩])))))) (.seq (.reg [⟨(some 4), none, (.p true (.mv (.c (.bool true))))⟩]) .ret))))
theorem c30_is : compFn Try.prog 30 = some (c30, [(.tmp 4)]) := by kernel_rfl
theorem c30_ok : okFn Try.prog 30 = true := by kernel_rfl

def F_laws_eqInt64S_l0 (v0 : List Int) (v1 : List Int) (k0 : Int → Option (Bool)) : Int → Option (Bool)
  | v7 => (bif (decide (v7 < (v0.length : Int))) then ((ix v0 v7).bind fun v1000 => ((ix v1 v7).bind fun v1001 => (bif (decide (v1000 ≠ v1001)) then some false
  else k0 (w64 (v7 + 1)))))
  else some true)
def F_laws_eqInt64S (v0 : List Int) (v1 : List Int) : Option (Bool) :=
  (bif (decide ((v0.length : Int) ≠ (v1.length : Int))) then some false
  else loop (F_laws_eqInt64S_l0 v0 v1) 0)
@[simp] def res_laws_eqInt64S (r : Bool) : RV := .one (.one (.val (.bool r)))
theorem con_laws_eqInt64S {v0 : List Int} {v1 : List Int} {r : Bool} (hF : F_laws_eqInt64S v0 v1 = some r) : Con Try.prog 30 [.sl 1 (v0.map (V.int .i64)), .sl 1 (v1.map (V.int .i64))] (res_laws_eqInt64S r) := by
  unfold F_laws_eqInt64S at hF
  refine con_of c30_is fun N => ?_
  refine w_reg_seq 0 64 rfl rfl ?_
  refine qp (AB false) rfl ?_
  refine r_nil ?_
  refine w_seq ?_
  refine w_reg_seq 64 384 rfl rfl ?_
  refine qp (.val none (.sl 1 (v0.map (V.int .i64)))) rfl (qp (AI (v0.length : Int)) (ev_len_n rfl) (qp (.val none (.sl 1 (v1.map (V.int .i64)))) rfl (qp (AI (v1.length : Int)) (ev_len_n rfl) (qp (AB (decide ((v0.length : Int) ≠ (v1.length : Int)))) rfl ?_))))
  refine r_nil ?_
  refine w_condF hF rfl (fun hF => ?_) (fun hF => ?_)
  ·
    refine w_reg_seq 384 448 rfl rfl ?_
    refine qp (AB false) rfl ?_
    refine r_nil ?_
    refine w_ret ?_
    refine thenQ_r ?_
    cases hF
    exact endQ_r rfl (.inl ⟨_, _, by first | rfl | (simp [List.take_of_length_le]; first | exact ⟨rfl, rfl⟩ | rfl), by simp, by first | rfl | simp [res_laws_eqInt64S, List.take_of_length_le]⟩)
  ·
    refine w_skip ?_
    refine thenQ_n ?_
    refine w_seq ?_
    refine w_reg_seq 384 448 rfl rfl ?_
    refine qp (AI 0) rfl ?_
    refine r_nil ?_
    refine w_block ?_
    refine w_ren (l' := [(0, .val none (.sl 1 (v0.map (V.int .i64)))), (1, .val none (.sl 1 (v1.map (V.int .i64)))), (5, AI 0)]) (L := []) [0, 1, 5] [] 1 (by first | rfl | simp) (by first | rfl | simp) (by decide) (by decide) (by decide) ?_
    refine w_loopF (F_laws_eqInt64S_l0 v0 v1) (fun s : Int => mkS [(0, .val none (.sl 1 (v0.map (V.int .i64)))), (1, .val none (.sl 1 (v1.map (V.int .i64)))), (5, AI s)] (fo []) 1) hF ?_
    rintro k0 v7 hF
    rw [F_laws_eqInt64S_l0] at hF
    try dsimp only
    refine w_seq ?_
    refine w_reg_seq 1 257 rfl rfl ?_
    refine qp (AI v7) rfl (qp (.val none (.sl 1 (v0.map (V.int .i64)))) rfl (qp (AI (v0.length : Int)) (ev_len_n rfl) (qp (AB (decide (v7 < (v0.length : Int)))) rfl ?_)))
    refine r_nil ?_
    refine w_condF hF rfl (fun hF => ?_) (fun hF => ?_)
    ·
      refine w_skip ?_
      refine thenQ_n ?_
      refine w_seq ?_
      refine w_block ?_
      refine w_reg_seq 257 833 rfl rfl ?_
      refine qp (.val none (.sl 1 (v0.map (V.int .i64)))) rfl (qp (AI v7) rfl ?_)
      obtain ⟨v1000, e1000, hF⟩ := bind_get hF
      refine qp (.val none (.ptr [.int .i64 v1000])) (ev_iad_n rfl rfl e1000 rfl) (qp (AI v1000) rfl (qp (.val none (.sl 1 (v1.map (V.int .i64)))) rfl (qp (AI v7) rfl ?_)))
      obtain ⟨v1001, e1001, hF⟩ := bind_get hF
      refine qp (.val none (.ptr [.int .i64 v1001])) (ev_iad_n rfl rfl e1001 rfl) (qp (AI v1001) rfl (qp (AB (decide (v1000 ≠ v1001))) rfl ?_))
      refine r_nil ?_
      refine w_condF hF rfl (fun hF => ?_) (fun hF => ?_)
      ·
        refine w_reg_seq 833 897 rfl rfl ?_
        refine qp (AB false) rfl ?_
        refine r_nil ?_
        refine w_ret ?_
        refine blockQ_r ?_
        refine thenQ_r ?_
        refine thenQ_r ?_
        refine blockQ_r ?_
        refine thenQ_r ?_
        cases hF
        exact endQ_r rfl (.inl ⟨_, _, by first | rfl | (simp [List.take_of_length_le]; first | exact ⟨rfl, rfl⟩ | rfl), by simp, by first | rfl | simp [res_laws_eqInt64S, List.take_of_length_le]⟩)
      ·
        refine w_skip ?_
        refine blockQ_n ?_
        refine thenQ_n ?_
        refine w_reg 833 1025 rfl rfl ?_
        refine qp (AI v7) rfl (qp (AI (w64 (v7 + 1))) rfl (qp (AI (w64 (v7 + 1))) rfl ?_))
        refine r_nil ?_
        refine thenQ_n ?_
        refine aw_ren (l' := [(0, .val none (.sl 1 (v0.map (V.int .i64)))), (1, .val none (.sl 1 (v1.map (V.int .i64)))), (5, AI (w64 (v7 + 1)))]) (L := []) [0, 1, 5] [] 1 (by first | rfl | simp) (by first | rfl | simp) (by decide) (by decide) (by decide) ⟨_, by rfl, hF⟩
    ·
      refine w_exit ?_
      refine thenQ_e ?_
      refine thenQ_e ?_
      refine blockQ_e ?_
      refine thenQ_n ?_
      refine w_reg_seq 257 321 rfl rfl ?_
      refine qp (AB true) rfl ?_
      refine r_nil ?_
      refine w_ret ?_
      cases hF
      exact endQ_r rfl (.inl ⟨_, _, by first | rfl | (simp [List.take_of_length_le]; first | exact ⟨rfl, rfl⟩ | rfl), by simp, by first | rfl | simp [res_laws_eqInt64S, List.take_of_length_le]⟩)

def c69 : MC := (.seq (.reg [⟨(some 2), none, (.f (.box (.t 0)))⟩, ⟨(some 3), none, (.f (.box (.t 1)))⟩, ⟨(some 4), none, (.p true (.mv (.c (.bool false))))⟩]) (.seq (.seq (.reg [⟨(some 5), none, (.p true (.fad (.t 2) 0))⟩, ⟨(some 6), none, (.p true (.ld (.t 5) 1 false))⟩, ⟨(some 7), none, (.p true (.fad (.t 3) 0))⟩, ⟨(some 8), none, (.p true (.ld (.t 7) 1 false))⟩, ⟨(some 9), none, (.p true (.bin .neq (.t 6) (.t 8)))⟩]) (.cond (.t 9) (.seq (.reg [⟨(some 4), none, (.p true (.mv (.c (.bool false))))⟩]) .ret) .skip)) (.seq (.seq (.reg [⟨(some 10), none, (.p true (.fad (.t 2) 1))⟩, ⟨(some 11), none, (.p true (.ld (.t 10) 1 false))⟩, ⟨(some 12), none, (.p true (.fad (.t 3) 1))⟩, ⟨(some 13), none, (.p true (.ld (.t 12) 1 false))⟩, ⟨(some 14), none, (.p true (.bin .neq (.t 11) (.t 13)))⟩]) (.cond (.t 14) (.seq (.reg [⟨(some 4), none, (.p true (.mv (.c (.bool false))))⟩]) .ret) .skip)) (.seq (.seq (.reg [⟨(some 15), none, (.p true (.fad (.t 2) 2))⟩, ⟨(some 16), none, (.p true (.ld (.t 15) 1 false))⟩, ⟨(some 17), none, (.p true (.fad (.t 3) 2))⟩, ⟨(some 18), none, (.p true (.ld (.t 17) 1 false))⟩, ⟨(some 19), none, (.p true (.bin .neq (.t 16) (.t 18)))⟩]) (.cond (.t 19) (.seq (.reg [⟨(some 4), none, (.p true (.mv (.c (.bool false))))⟩]) .ret) .skip)) (.seq (.reg [⟨(some 4), none, (.p true (.mv (.c (.bool true))))⟩]) .ret)))))
theorem c69_is : compFn Try.prog 69 = some (c69, [(.tmp 4)]) := by kernel_rfl
theorem c69_ok : okFn Try.prog 69 = true := by kernel_rfl

def F_laws_eqProblem (v0 : TProblem) (v1 : TProblem) : Option (Bool) :=
  (bif (decide (v0.1 ≠ v1.1)) then some false
  else (bif (decide (v0.2.1 ≠ v1.2.1)) then some false
  else (bif (decide (v0.2.2 ≠ v1.2.2)) then some false
  else some true)))
@[simp] def res_laws_eqProblem (r : Bool) : RV := .one (.one (.val (.bool r)))
theorem con_laws_eqProblem {v0 : TProblem} {v1 : TProblem} {r : Bool} (hF : F_laws_eqProblem v0 v1 = some r) : Con Try.prog 69 [eProblem v0, eProblem v1] (res_laws_eqProblem r) := by
  unfold F_laws_eqProblem at hF
  refine con_of c69_is fun N => ?_
  refine w_reg_seq 0 192 rfl rfl ?_
  refine qf (.ptr 0 0 0) [(0, .box [AI v0.1, AS v0.2.1, AS v0.2.2])] (by simp) ?_
  refine qf (.ptr 64 0 0) [(64, .box [AI v1.1, AS v1.2.1, AS v1.2.2]), (0, .box [AI v0.1, AS v0.2.1, AS v0.2.2])] (by simp) ?_
  refine qp (AB false) rfl ?_
  refine r_nil ?_
  refine w_seq ?_
  refine w_reg_seq 192 512 rfl rfl ?_
  refine qp (.ptr 0 0 0) rfl (qp (AI v0.1) rfl (qp (.ptr 64 0 0) rfl (qp (AI v1.1) rfl (qp (AB (decide (v0.1 ≠ v1.1))) rfl ?_))))
  refine r_nil ?_
  refine w_condF hF rfl (fun hF => ?_) (fun hF => ?_)
  ·
    refine w_reg_seq 512 576 rfl rfl ?_
    refine qp (AB false) rfl ?_
    refine r_nil ?_
    refine w_ret ?_
    refine thenQ_r ?_
    cases hF
    exact endQ_r rfl (.inl ⟨_, _, by first | rfl | (simp [List.take_of_length_le]; first | exact ⟨rfl, rfl⟩ | rfl), by simp, by first | rfl | simp [res_laws_eqProblem, List.take_of_length_le]⟩)
  ·
    refine w_skip ?_
    refine thenQ_n ?_
    refine w_seq ?_
    refine w_reg_seq 512 832 rfl rfl ?_
    refine qp (.ptr 0 0 1) rfl (qp (AS v0.2.1) rfl (qp (.ptr 64 0 1) rfl (qp (AS v1.2.1) rfl (qp (AB (decide (v0.2.1 ≠ v1.2.1))) rfl ?_))))
    refine r_nil ?_
    refine w_condF hF rfl (fun hF => ?_) (fun hF => ?_)
    ·
      refine w_reg_seq 832 896 rfl rfl ?_
      refine qp (AB false) rfl ?_
      refine r_nil ?_
      refine w_ret ?_
      refine thenQ_r ?_
      cases hF
      exact endQ_r rfl (.inl ⟨_, _, by first | rfl | (simp [List.take_of_length_le]; first | exact ⟨rfl, rfl⟩ | rfl), by simp, by first | rfl | simp [res_laws_eqProblem, List.take_of_length_le]⟩)
    ·
      refine w_skip ?_
      refine thenQ_n ?_
      refine w_seq ?_
      refine w_reg_seq 832 1152 rfl rfl ?_
      refine qp (.ptr 0 0 2) rfl (qp (AS v0.2.2) rfl (qp (.ptr 64 0 2) rfl (qp (AS v1.2.2) rfl (qp (AB (decide (v0.2.2 ≠ v1.2.2))) rfl ?_))))
      refine r_nil ?_
      refine w_condF hF rfl (fun hF => ?_) (fun hF => ?_)
      ·
        refine w_reg_seq 1152 1216 rfl rfl ?_
        refine qp (AB false) rfl ?_
        refine r_nil ?_
        refine w_ret ?_
        refine thenQ_r ?_
        cases hF
        exact endQ_r rfl (.inl ⟨_, _, by first | rfl | (simp [List.take_of_length_le]; first | exact ⟨rfl, rfl⟩ | rfl), by simp, by first | rfl | simp [res_laws_eqProblem, List.take_of_length_le]⟩)
      ·
        refine w_skip ?_
        refine thenQ_n ?_
        refine w_reg_seq 1152 1216 rfl rfl ?_
        refine qp (AB true) rfl ?_
        refine r_nil ?_
        refine w_ret ?_
        cases hF
        exact endQ_r rfl (.inl ⟨_, _, by first | rfl | (simp [List.take_of_length_le]; first | exact ⟨rfl, rfl⟩ | rfl), by simp, by first | rfl | simp [res_laws_eqProblem, List.take_of_length_le]⟩)

def c31 : MC := (.seq (.reg [⟨(some 4), none, (.p true (.mv (.c (.bool false))))⟩]) (.seq (.seq (.reg [⟨(some 6), none, (.p true (.mv (.t 0)))⟩, ⟨(some 7), none, (.p true (.len (.t 6)))⟩, ⟨(some 8), none, (.p true (.mv (.t 1)))⟩, ⟨(some 9), none, (.p true (.len (.t 8)))⟩, ⟨(some 10), none, (.p true (.bin .neq (.t 7) (.t 9)))⟩]) (.cond (.t 10) (.seq (.reg [⟨(some 4), none, (.p true (.mv (.c (.bool false))))⟩]) .ret) .skip)) (.seq (.seq (.reg [⟨(some 5), none, (.p true (.mv (.c (.int .i64 0))))⟩]) (.block 0 (.loop (.seq (.seq (.reg [⟨(some 11), none, (.p true (.mv (.t 5)))⟩, ⟨(some 12), none, (.p true (.mv (.t 0)))⟩, ⟨(some 13), none, (.p true (.len (.t 12)))⟩, ⟨(some 14), none, (.p true (.bin .lss (.t 11) (.t 13)))⟩]) (.cond (.t 14) .skip (.exit 0))) (.seq (.block 1 (.seq (.reg [⟨(some 17), none, (.p false (.mv (.t 0)))⟩, ⟨(some 18), none, (.p false (.mv (.t 5)))⟩, ⟨(some 19), none, (.p false (.iad (.t 17) (.t 18) 3))⟩, ⟨(some 20), none, (.p false (.ld (.t 19) 3 true))⟩, ⟨(some 21), none, (.p false (.mv (.t 1)))⟩, ⟨(some 22), none, (.p false (.mv (.t 5)))⟩, ⟨(some 23), none, (.p false (.iad (.t 21) (.t 22) 3))⟩, ⟨(some 24), none, (.p false (.ld (.t 23) 3 true))⟩, ⟨(some 25), none, (.call false 69 [(.t 20), (.t 24)])⟩, ⟨(some 26), none, (.p false (.not (.t 25)))⟩]) (.cond (.t 26) (.seq (.reg [⟨(some 4), none, (.p true (.mv (.c (.bool false))))⟩]) .ret) .skip))) (.reg [⟨(some 15), none, (.p true (.mv (.t 5)))⟩, ⟨(some 16), none, (.p true (.bin .add (.t 15) (.c (.int .i64 1))))⟩, ⟨(some 5), none, (.p true (.mv (.t 16)))⟩])))))) (.seq (.reg [⟨(some 4), none, (.p true (.mv (.c (.bool true))))⟩]) .ret))))
theorem c31_is : compFn Try.prog 31 = some (c31, [(.tmp 4)]) := by kernel_rfl
theorem c31_ok : okFn Try.prog 31 = true := by kernel_rfl

def F_laws_eqProblemS_l0 (v0 : List TProblem) (v1 : List TProblem) (k0 : Int → Option (Bool)) : Int → Option (Bool)
  | v9 => (bif (decide (v9 < (v0.length : Int))) then ((ix v0 v9).bind fun v1000 => ((ix v1 v9).bind fun v1001 => ((F_laws_eqProblem v1000 v1001).bind fun v1002 => (bif (!v1002) then some false
  else k0 (w64 (v9 + 1))))))
  else some true)
def F_laws_eqProblemS (v0 : List TProblem) (v1 : List TProblem) : Option (Bool) :=
  (bif (decide ((v0.length : Int) ≠ (v1.length : Int))) then some false
  else loop (F_laws_eqProblemS_l0 v0 v1) 0)
@[simp] def res_laws_eqProblemS (r : Bool) : RV := .one (.one (.val (.bool r)))
theorem con_laws_eqProblemS {v0 : List TProblem} {v1 : List TProblem} {r : Bool} (hF : F_laws_eqProblemS v0 v1 = some r) : Con Try.prog 31 [.sl 3 (v0.map eProblem), .sl 3 (v1.map eProblem)] (res_laws_eqProblemS r) := by
  unfold F_laws_eqProblemS at hF
  refine con_of c31_is fun N => ?_
  refine w_reg_seq 0 64 rfl rfl ?_
  refine qp (AB false) rfl ?_
  refine r_nil ?_
  refine w_seq ?_
  refine w_reg_seq 64 384 rfl rfl ?_
  refine qp (.val none (.sl 3 (v0.map eProblem))) rfl (qp (AI (v0.length : Int)) (ev_len_n rfl) (qp (.val none (.sl 3 (v1.map eProblem))) rfl (qp (AI (v1.length : Int)) (ev_len_n rfl) (qp (AB (decide ((v0.length : Int) ≠ (v1.length : Int)))) rfl ?_))))
  refine r_nil ?_
  refine w_condF hF rfl (fun hF => ?_) (fun hF => ?_)
  ·
    refine w_reg_seq 384 448 rfl rfl ?_
    refine qp (AB false) rfl ?_
    refine r_nil ?_
    refine w_ret ?_
    refine thenQ_r ?_
    cases hF
    exact endQ_r rfl (.inl ⟨_, _, by first | rfl | (simp [List.take_of_length_le]; first | exact ⟨rfl, rfl⟩ | rfl), by simp, by first | rfl | simp [res_laws_eqProblemS, List.take_of_length_le]⟩)
  ·
    refine w_skip ?_
    refine thenQ_n ?_
    refine w_seq ?_
    refine w_reg_seq 384 448 rfl rfl ?_
    refine qp (AI 0) rfl ?_
    refine r_nil ?_
    refine w_block ?_
    refine w_ren (l' := [(0, .val none (.sl 3 (v0.map eProblem))), (1, .val none (.sl 3 (v1.map eProblem))), (5, AI 0)]) (L := []) [0, 1, 5] [] 1 (by first | rfl | simp) (by first | rfl | simp) (by decide) (by decide) (by decide) ?_
    refine w_loopF (F_laws_eqProblemS_l0 v0 v1) (fun s : Int => mkS [(0, .val none (.sl 3 (v0.map eProblem))), (1, .val none (.sl 3 (v1.map eProblem))), (5, AI s)] (fo []) 1) hF ?_
    rintro k0 v9 hF
    rw [F_laws_eqProblemS_l0] at hF
    try dsimp only
    refine w_seq ?_
    refine w_reg_seq 1 257 rfl rfl ?_
    refine qp (AI v9) rfl (qp (.val none (.sl 3 (v0.map eProblem))) rfl (qp (AI (v0.length : Int)) (ev_len_n rfl) (qp (AB (decide (v9 < (v0.length : Int)))) rfl ?_)))
    refine r_nil ?_
    refine w_condF hF rfl (fun hF => ?_) (fun hF => ?_)
    ·
      refine w_skip ?_
      refine thenQ_n ?_
      refine w_seq ?_
      refine w_block ?_
      refine w_reg_seq 257 897 rfl rfl ?_
      refine qp (.val none (.sl 3 (v0.map eProblem))) rfl (qp (AI v9) rfl ?_)
      obtain ⟨v1000, e1000, hF⟩ := bind_get hF
      refine qp (.val none (.ptr [.int .i64 v1000.1, .str v1000.2.1, .str v1000.2.2])) (ev_iad_n rfl rfl e1000 rfl) (qp (.val none (eProblem v1000)) rfl (qp (.val none (.sl 3 (v1.map eProblem))) rfl (qp (AI v9) rfl ?_)))
      obtain ⟨v1001, e1001, hF⟩ := bind_get hF
      refine qp (.val none (.ptr [.int .i64 v1001.1, .str v1001.2.1, .str v1001.2.2])) (ev_iad_n rfl rfl e1001 rfl) (qp (.val none (eProblem v1001)) rfl ?_)
      obtain ⟨v1002, e1002, hF⟩ := bind_get hF
      refine qc (AB v1002) [] false (con_laws_eqProblem e1002) c69_ok (by first | rfl | simp) rfl ?_
      refine qp (AB (!v1002)) rfl ?_
      refine r_nil ?_
      refine w_condF hF rfl (fun hF => ?_) (fun hF => ?_)
      ·
        refine w_reg_seq 897 961 rfl rfl ?_
        refine qp (AB false) rfl ?_
        refine r_nil ?_
        refine w_ret ?_
        refine blockQ_r ?_
        refine thenQ_r ?_
        refine thenQ_r ?_
        refine blockQ_r ?_
        refine thenQ_r ?_
        cases hF
        exact endQ_r rfl (.inl ⟨_, _, by first | rfl | (simp [List.take_of_length_le]; first | exact ⟨rfl, rfl⟩ | rfl), by simp, by first | rfl | simp [res_laws_eqProblemS, List.take_of_length_le]⟩)
      ·
        refine w_skip ?_
        refine blockQ_n ?_
        refine thenQ_n ?_
        refine w_reg 897 1089 rfl rfl ?_
        refine qp (AI v9) rfl (qp (AI (w64 (v9 + 1))) rfl (qp (AI (w64 (v9 + 1))) rfl ?_))
        refine r_nil ?_
        refine thenQ_n ?_
        refine aw_ren (l' := [(0, .val none (.sl 3 (v0.map eProblem))), (1, .val none (.sl 3 (v1.map eProblem))), (5, AI (w64 (v9 + 1)))]) (L := []) [0, 1, 5] [] 1 (by first | rfl | simp) (by first | rfl | simp) (by decide) (by decide) (by decide) ⟨_, by rfl, hF⟩
    ·
      refine w_exit ?_
      refine thenQ_e ?_
      refine thenQ_e ?_
      refine blockQ_e ?_
      refine thenQ_n ?_
      refine w_reg_seq 257 321 rfl rfl ?_
      refine qp (AB true) rfl ?_
      refine r_nil ?_
      refine w_ret ?_
      cases hF
      exact endQ_r rfl (.inl ⟨_, _, by first | rfl | (simp [List.take_of_length_le]; first | exact ⟨rfl, rfl⟩ | rfl), by simp, by first | rfl | simp [res_laws_eqProblemS, List.take_of_length_le]⟩)

def c70 : MC := (.seq (.reg [⟨(some 2), none, (.p true (.mv (.c (.str []))))⟩]) (.seq (.seq (.reg [⟨(some 4), none, (.p true (.mv (.t 0)))⟩, ⟨(some 5), none, (.p true (.bin .leq (.t 4) (.c (.int .i64 0))))⟩]) (.cond (.t 5) (.seq (.reg [⟨(some 2), none, (.p true (.mv (.c (.str [109, 48]))))⟩]) .ret) .skip)) (.seq (.reg [⟨(some 3), none, (.p true (.mv (.c (.str []))))⟩]) (.seq (.block 0 (.loop (.seq (.seq (.reg [⟨(some 6), none, (.p true (.mv (.t 0)))⟩, ⟨(some 7), none, (.p true (.bin .gtr (.t 6) (.c (.int .i64 0))))⟩]) (.cond (.t 7) .skip (.exit 0))) (.block 1 (.seq (.reg [⟨(some 8), none, (.p true (.mv (.t 0)))⟩, ⟨(some 9), none, (.p true (.bin .rem (.t 8) (.c (.int .i64 10))))⟩, ⟨(some 10), none, (.p true (.bin .add (.c (.int .i64 48)) (.t 9)))⟩, ⟨(some 11), none, (.p true (.conv .u8 (.t 10)))⟩, ⟨(some 12), none, (.f (.bsl 1 [(.t 11)]))⟩, ⟨(some 13), none, (.p true (.bts (.t 12)))⟩, ⟨(some 14), none, (.p true (.mv (.t 3)))⟩, ⟨(some 15), none, (.p true (.bin .add (.t 13) (.t 14)))⟩, ⟨(some 3), none, (.p true (.mv (.t 15)))⟩]) (.reg [⟨(some 16), none, (.p true (.mv (.t 0)))⟩, ⟨(some 17), none, (.p true (.bin .quo (.t 16) (.c (.int .i64 10))))⟩, ⟨(some 0), none, (.p true (.mv (.t 17)))⟩])))))) (.seq (.reg [⟨(some 18), none, (.p true (.mv (.t 3)))⟩, ⟨(some 19), none, (.p true (.bin .add (.c (.str [109])) (.t 18)))⟩, ⟨(some 2), none, (.p true (.mv (.t 19)))⟩]) .ret)))))
theorem c70_is : compFn Try.prog 70 = some (c70, [(.tmp 2)]) := by kernel_rfl
theorem c70_ok : okFn Try.prog 70 = true := by kernel_rfl

def F_laws_markText_l0 (k0 : Int × (List UInt8) → Option (List UInt8)) : Int × (List UInt8) → Option (List UInt8)
  | (v5, v6) => (bif (decide ((0 : Int) < v5)) then (need ((bytesI [IntKind.wrap .u8 (w64 (48 + (Int.tmod v5 10)))]).length + v6.length < 9223372036854775808) (k0 (w64 (Int.tdiv v5 10), (bytesI [IntKind.wrap .u8 (w64 (48 + (Int.tmod v5 10)))]) ++ v6)))
  else (need ([109].length + v6.length < 9223372036854775808) (some ([109] ++ v6))))
def F_laws_markText (v0 : Int) : Option (List UInt8) :=
  (bif (decide (v0 ≤ (0 : Int))) then some [109, 48]
  else loop (F_laws_markText_l0) (v0, []))
@[simp] def res_laws_markText (r : List UInt8) : RV := .one (.one (.val (.str r)))
theorem con_laws_markText {v0 : Int} {r : List UInt8} (hF : F_laws_markText v0 = some r) : Con Try.prog 70 [.int .i64 v0] (res_laws_markText r) := by
  unfold F_laws_markText at hF
  refine con_of c70_is fun N => ?_
  refine w_reg_seq 0 64 rfl rfl ?_
  refine qp (AS []) rfl ?_
  refine r_nil ?_
  refine w_seq ?_
  refine w_reg_seq 64 192 rfl rfl ?_
  refine qp (AI v0) rfl (qp (AB (decide (v0 ≤ (0 : Int)))) rfl ?_)
  refine r_nil ?_
  refine w_condF hF rfl (fun hF => ?_) (fun hF => ?_)
  ·
    refine w_reg_seq 192 256 rfl rfl ?_
    refine qp (AS [109, 48]) rfl ?_
    refine r_nil ?_
    refine w_ret ?_
    refine thenQ_r ?_
    cases hF
    exact endQ_r rfl (.inl ⟨_, _, by first | rfl | (simp [List.take_of_length_le]; first | exact ⟨rfl, rfl⟩ | rfl), by simp, by first | rfl | simp [res_laws_markText, List.take_of_length_le]⟩)
  ·
    refine w_skip ?_
    refine thenQ_n ?_
    refine w_reg_seq 192 256 rfl rfl ?_
    refine qp (AS []) rfl ?_
    refine r_nil ?_
    refine w_seq ?_
    refine w_block ?_
    refine w_ren (l' := [(0, AI v0), (3, AS ([] : List UInt8))]) (L := []) [0, 3] [] 1 (by first | rfl | simp) (by first | rfl | simp) (by decide) (by decide) (by decide) ?_
    refine w_loopF (F_laws_markText_l0) (fun s : Int × (List UInt8) => mkS [(0, AI s.1), (3, AS s.2)] (fo []) 1) hF ?_
    rintro k0 ⟨v5, v6⟩ hF
    rw [F_laws_markText_l0] at hF
    try dsimp only
    refine w_seq ?_
    refine w_reg_seq 1 129 rfl rfl ?_
    refine qp (AI v5) rfl (qp (AB (decide ((0 : Int) < v5))) rfl ?_)
    refine r_nil ?_
    refine w_condF hF rfl (fun hF => ?_) (fun hF => ?_)
    ·
      refine w_skip ?_
      refine thenQ_n ?_
      refine w_block ?_
      refine w_reg_seq 129 705 rfl rfl ?_
      refine qp (AI v5) rfl (qp (AI (Int.tmod v5 10)) (ev_rem rfl rfl (by decide)) (qp (AI (w64 (48 + (Int.tmod v5 10)))) rfl (qp (.val none (.int .u8 (IntKind.wrap .u8 (w64 (48 + (Int.tmod v5 10)))))) rfl ?_)))
      refine qf (.sl 385 0 ([IntKind.wrap .u8 (w64 (48 + (Int.tmod v5 10)))].length)) [(385, .row true 1 ([IntKind.wrap .u8 (w64 (48 + (Int.tmod v5 10)))].map (V.int .u8)))] (by simp [List.take_of_length_le]) ?_
      refine qp (AS (bytesI [IntKind.wrap .u8 (w64 (48 + (Int.tmod v5 10)))])) (ev_bts_r rfl (by simp) rfl) (qp (AS v6) rfl ?_)
      obtain ⟨g1000, hF⟩ := need_some hF
      refine qp (AS ((bytesI [IntKind.wrap .u8 (w64 (48 + (Int.tmod v5 10)))]) ++ v6)) (ev_add_s rfl rfl g1000) (qp (AS ((bytesI [IntKind.wrap .u8 (w64 (48 + (Int.tmod v5 10)))]) ++ v6)) rfl ?_)
      refine r_nil ?_
      refine w_reg 705 897 rfl rfl ?_
      refine qp (AI v5) rfl (qp (AI (w64 (Int.tdiv v5 10))) (ev_quo rfl rfl (by decide)) (qp (AI (w64 (Int.tdiv v5 10))) rfl ?_))
      refine r_nil ?_
      refine blockQ_n ?_
      refine thenQ_n ?_
      refine aw_ren (l' := [(0, AI (w64 (Int.tdiv v5 10))), (3, AS ((bytesI [IntKind.wrap .u8 (w64 (48 + (Int.tmod v5 10)))]) ++ v6))]) (L := []) [0, 3] [] 1 (by first | rfl | simp) (by first | rfl | simp) (by decide) (by decide) (by decide) ⟨_, by rfl, hF⟩
    ·
      refine w_exit ?_
      refine thenQ_e ?_
      refine thenQ_e ?_
      refine blockQ_e ?_
      refine thenQ_n ?_
      refine w_reg_seq 129 321 rfl rfl ?_
      refine qp (AS v6) rfl ?_
      obtain ⟨g1001, hF⟩ := need_some hF
      refine qp (AS ([109] ++ v6)) (ev_add_s rfl rfl g1001) (qp (AS ([109] ++ v6)) rfl ?_)
      refine r_nil ?_
      refine w_ret ?_
      cases hF
      exact endQ_r rfl (.inl ⟨_, _, by first | rfl | (simp [List.take_of_length_le]; first | exact ⟨rfl, rfl⟩ | rfl), by simp, by first | rfl | simp [res_laws_markText, List.take_of_length_le]⟩)

def c32 : MC := (.seq (.reg [⟨(some 4), none, (.p true (.mv (.c (.int .i64 0))))⟩]) (.seq (.seq (.reg [⟨(some 5), none, (.p true (.mv (.c (.int .i64 0))))⟩]) (.block 0 (.loop (.seq (.seq (.reg [⟨(some 6), none, (.p true (.mv (.t 5)))⟩, ⟨(some 7), none, (.p true (.mv (.t 0)))⟩, ⟨(some 8), none, (.p true (.len (.t 7)))⟩, ⟨(some 9), none, (.p true (.bin .lss (.t 6) (.t 8)))⟩]) (.cond (.t 9) .skip (.exit 0))) (.seq (.block 1 (.seq (.reg [⟨(some 12), none, (.p true (.mv (.t 0)))⟩, ⟨(some 13), none, (.p true (.mv (.t 5)))⟩, ⟨(some 14), none, (.p true (.mv (.t 1)))⟩, ⟨(some 15), none, (.p true (.iad (.t 12) (.t 13) 3))⟩, ⟨(some 16), none, (.p true (.fad (.t 15) 0))⟩, ⟨none, none, (.f (.st (.t 16) (.t 14) 1))⟩]) (.seq (.reg [⟨(some 17), none, (.p true (.mv (.t 1)))⟩, ⟨(some 18), none, (.p true (.bin .add (.t 17) (.c (.int .i64 1))))⟩, ⟨(some 1), none, (.p true (.mv (.t 18)))⟩]) (.seq (.reg [⟨(some 19), none, (.p true (.mv (.t 0)))⟩, ⟨(some 20), none, (.p true (.mv (.t 5)))⟩, ⟨(some 21), none, (.p true (.mv (.t 1)))⟩, ⟨(some 22), none, (.call true 70 [(.t 21)])⟩, ⟨(some 23), none, (.p true (.iad (.t 19) (.t 20) 3))⟩, ⟨(some 24), none, (.p true (.fad (.t 23) 1))⟩, ⟨none, none, (.f (.st (.t 24) (.t 22) 1))⟩]) (.seq (.reg [⟨(some 25), none, (.p true (.mv (.t 1)))⟩, ⟨(some 26), none, (.p true (.bin .add (.t 25) (.c (.int .i64 1))))⟩, ⟨(some 1), none, (.p true (.mv (.t 26)))⟩]) (.seq (.reg [⟨(some 27), none, (.p true (.mv (.t 0)))⟩, ⟨(some 28), none, (.p true (.mv (.t 5)))⟩, ⟨(some 29), none, (.p true (.mv (.t 1)))⟩, ⟨(some 30), none, (.call true 70 [(.t 29)])⟩, ⟨(some 31), none, (.p true (.iad (.t 27) (.t 28) 3))⟩, ⟨(some 32), none, (.p true (.fad (.t 31) 2))⟩, ⟨none, none, (.f (.st (.t 32) (.t 30) 1))⟩]) (.reg [⟨(some 33), none, (.p true (.mv (.t 1)))⟩, ⟨(some 34), none, (.p true (.bin .add (.t 33) (.c (.int .i64 1))))⟩, ⟨(some 1), none, (.p true (.mv (.t 34)))⟩]))))))) (.reg [⟨(some 10), none, (.p true (.mv (.t 5)))⟩, ⟨(some 11), none, (.p true (.bin .add (.t 10) (.c (.int .i64 1))))⟩, ⟨(some 5), none, (.p true (.mv (.t 11)))⟩])))))) (.seq (.reg [⟨(some 35), none, (.p true (.mv (.t 1)))⟩, ⟨(some 4), none, (.p true (.mv (.t 35)))⟩]) .ret)))
theorem c32_is : compFnM Try.prog 32 = some (c32, [(.tmp 4)]) := by kernel_rfl
theorem c32_ok : okFn Try.prog 32 = true := by kernel_rfl

def F_laws_markProblemS_l0 (k0 : Int × Int × (List TProblem) → Option ((List TProblem) × Int)) : Int × Int × (List TProblem) → Option ((List TProblem) × Int)
  | (v15, v16, v17) => (bif (decide (v16 < (v17.length : Int))) then ((ix v17 v16).bind fun v1000 => ((F_laws_markText (w64 (v15 + 1))).bind fun v1001 => ((ix (List.set v17 v16.toNat (v15, v1000.2.1, v1000.2.2)) v16).bind fun v1002 => ((F_laws_markText (w64 ((w64 (v15 + 1)) + 1))).bind fun v1003 => ((ix (List.set (List.set v17 v16.toNat (v15, v1000.2.1, v1000.2.2)) v16.toNat (v1002.1, v1001, v1002.2.2)) v16).bind fun v1004 => k0 (w64 ((w64 ((w64 (v15 + 1)) + 1)) + 1), w64 (v16 + 1), List.set (List.set (List.set v17 v16.toNat (v15, v1000.2.1, v1000.2.2)) v16.toNat (v1002.1, v1001, v1002.2.2)) v16.toNat (v1004.1, v1004.2.1, v1003)))))))
  else some (v17, v15))
def F_laws_markProblemS (v0 : List TProblem) (v1 : Int) : Option ((List TProblem) × Int) :=
  loop (F_laws_markProblemS_l0) (v1, 0, v0)
theorem con_laws_markProblemS {v0 : List TProblem} {v1 : Int} {r : (List TProblem) × Int} (hF : F_laws_markProblemS v0 v1 = some r) : ConM Try.prog 32 (.one (.row true 3 (v0.map eProblem))) (.one (.row true 3 (r.1.map eProblem))) [.int .i64 v1] (.int .i64 r.2) := by
  unfold F_laws_markProblemS at hF
  refine conM_of (av := .sl 0 0 v0.length) (L := [(0, .row true 3 (v0.map eProblem))]) c32_is rfl rfl rfl (by simp) fun N => ?_
  refine w_reg_seq 64 128 rfl rfl ?_
  refine qp (AI 0) rfl ?_
  refine r_nil ?_
  refine w_seq ?_
  refine w_reg_seq 128 192 rfl rfl ?_
  refine qp (AI 0) rfl ?_
  refine r_nil ?_
  refine w_block ?_
  refine w_ren (l' := [(0, .sl 0 0 v0.length), (1, AI v1), (5, AI 0)]) (L := [(0, .row true 3 (v0.map eProblem))]) [0, 1, 5] [(0, 0)] 1 (by first | rfl | simp) (by first | rfl | simp) (by decide) (by decide) (by decide) ?_
  refine w_loopF (F_laws_markProblemS_l0) (fun s : Int × Int × (List TProblem) => mkS [(0, .sl 0 0 s.2.2.length), (1, AI s.1), (5, AI s.2.1)] (fo [(0, .row true 3 (s.2.2.map eProblem))]) 1) hF ?_
  rintro k0 ⟨v15, v16, v17⟩ hF
  rw [F_laws_markProblemS_l0] at hF
  try dsimp only
  refine w_seq ?_
  refine w_reg_seq 1 257 rfl rfl ?_
  refine qp (AI v16) rfl (qp (.sl 0 0 v17.length) rfl (qp (AI (v17.length : Int)) rfl (qp (AB (decide (v16 < (v17.length : Int)))) rfl ?_)))
  refine r_nil ?_
  refine w_condF hF rfl (fun hF => ?_) (fun hF => ?_)
  ·
    refine w_skip ?_
    refine thenQ_n ?_
    refine w_seq ?_
    refine w_block ?_
    refine w_reg_seq 257 641 rfl rfl ?_
    refine qp (.sl 0 0 v17.length) rfl (qp (AI v16) rfl (qp (AI v15) rfl ?_))
    obtain ⟨v1000, e1000, hF⟩ := bind_get hF
    refine qp (.ptr 0 v16.toNat 0) (ev_iad_r rfl (by simp) rfl rfl e1000) (qp (.ptr 0 v16.toNat 0) rfl ?_)
    refine qf0 (.undef) [(0, .row true 3 ((List.set v17 v16.toNat (v15, v1000.2.1, v1000.2.2)).map eProblem)), (0, .row true 3 (v17.map eProblem))] (effT_st rfl rfl (ix_some e1000).2 rfl rfl (by rfl) (by first | rfl | simp [patch, reb, List.take_of_length_le]) (by rfl) rfl) ?_
    refine r_nil ?_
    refine w_reg_seq 641 833 rfl rfl ?_
    refine qp (AI v15) rfl (qp (AI (w64 (v15 + 1))) rfl (qp (AI (w64 (v15 + 1))) rfl ?_))
    refine r_nil ?_
    refine w_reg_seq 833 1281 rfl rfl ?_
    refine qp (.sl 0 0 v17.length) rfl (qp (AI v16) rfl (qp (AI (w64 (v15 + 1))) rfl ?_))
    obtain ⟨v1001, e1001, hF⟩ := bind_get hF
    refine qc (AS v1001) [(0, .row true 3 ((List.set v17 v16.toNat (v15, v1000.2.1, v1000.2.2)).map eProblem)), (0, .row true 3 (v17.map eProblem))] false (con_laws_markText e1001) c70_ok (by first | rfl | simp) rfl ?_
    obtain ⟨v1002, e1002, hF⟩ := bind_get hF
    refine qp (.ptr 0 v16.toNat 0) (ev_iad_r rfl (by simp) rfl rfl e1002) (qp (.ptr 0 v16.toNat 1) rfl ?_)
    refine qf0 (.undef) [(0, .row true 3 ((List.set (List.set v17 v16.toNat (v15, v1000.2.1, v1000.2.2)) v16.toNat (v1002.1, v1001, v1002.2.2)).map eProblem)), (0, .row true 3 ((List.set v17 v16.toNat (v15, v1000.2.1, v1000.2.2)).map eProblem)), (0, .row true 3 (v17.map eProblem))] (effT_st rfl rfl (ix_some e1002).2 rfl rfl (by rfl) (by first | rfl | simp [patch, reb, List.take_of_length_le]) (by rfl) rfl) ?_
    refine r_nil ?_
    refine w_reg_seq 1281 1473 rfl rfl ?_
    refine qp (AI (w64 (v15 + 1))) rfl (qp (AI (w64 ((w64 (v15 + 1)) + 1))) rfl (qp (AI (w64 ((w64 (v15 + 1)) + 1))) rfl ?_))
    refine r_nil ?_
    refine w_reg_seq 1473 1921 rfl rfl ?_
    refine qp (.sl 0 0 v17.length) rfl (qp (AI v16) rfl (qp (AI (w64 ((w64 (v15 + 1)) + 1))) rfl ?_))
    obtain ⟨v1003, e1003, hF⟩ := bind_get hF
    refine qc (AS v1003) [(0, .row true 3 ((List.set (List.set v17 v16.toNat (v15, v1000.2.1, v1000.2.2)) v16.toNat (v1002.1, v1001, v1002.2.2)).map eProblem)), (0, .row true 3 ((List.set v17 v16.toNat (v15, v1000.2.1, v1000.2.2)).map eProblem)), (0, .row true 3 (v17.map eProblem))] false (con_laws_markText e1003) c70_ok (by first | rfl | simp) rfl ?_
    obtain ⟨v1004, e1004, hF⟩ := bind_get hF
    refine qp (.ptr 0 v16.toNat 0) (ev_iad_r rfl (by simp) rfl rfl e1004) (qp (.ptr 0 v16.toNat 2) rfl ?_)
    refine qf0 (.undef) [(0, .row true 3 ((List.set (List.set (List.set v17 v16.toNat (v15, v1000.2.1, v1000.2.2)) v16.toNat (v1002.1, v1001, v1002.2.2)) v16.toNat (v1004.1, v1004.2.1, v1003)).map eProblem)), (0, .row true 3 ((List.set (List.set v17 v16.toNat (v15, v1000.2.1, v1000.2.2)) v16.toNat (v1002.1, v1001, v1002.2.2)).map eProblem)), (0, .row true 3 ((List.set v17 v16.toNat (v15, v1000.2.1, v1000.2.2)).map eProblem)), (0, .row true 3 (v17.map eProblem))] (effT_st rfl rfl (ix_some e1004).2 rfl rfl (by rfl) (by first | rfl | simp [patch, reb, List.take_of_length_le]) (by rfl) rfl) ?_
    refine r_nil ?_
    refine w_reg 1921 2113 rfl rfl ?_
    refine qp (AI (w64 ((w64 (v15 + 1)) + 1))) rfl (qp (AI (w64 ((w64 ((w64 (v15 + 1)) + 1)) + 1))) rfl (qp (AI (w64 ((w64 ((w64 (v15 + 1)) + 1)) + 1))) rfl ?_))
    refine r_nil ?_
    refine blockQ_n ?_
    refine thenQ_n ?_
    refine w_reg 2113 2305 rfl rfl ?_
    refine qp (AI v16) rfl (qp (AI (w64 (v16 + 1))) rfl (qp (AI (w64 (v16 + 1))) rfl ?_))
    refine r_nil ?_
    refine thenQ_n ?_
    refine aw_ren (l' := [(0, .sl 0 0 (List.set (List.set (List.set v17 v16.toNat (v15, v1000.2.1, v1000.2.2)) v16.toNat (v1002.1, v1001, v1002.2.2)) v16.toNat (v1004.1, v1004.2.1, v1003)).length), (1, AI (w64 ((w64 ((w64 (v15 + 1)) + 1)) + 1))), (5, AI (w64 (v16 + 1)))]) (L := [(0, .row true 3 ((List.set (List.set (List.set v17 v16.toNat (v15, v1000.2.1, v1000.2.2)) v16.toNat (v1002.1, v1001, v1002.2.2)) v16.toNat (v1004.1, v1004.2.1, v1003)).map eProblem))]) [0, 1, 5] [(0, 0)] 1 (by first | rfl | simp) (by first | rfl | simp) (by decide) (by decide) (by decide) ⟨_, by rfl, hF⟩
  ·
    refine w_exit ?_
    refine thenQ_e ?_
    refine thenQ_e ?_
    refine blockQ_e ?_
    refine thenQ_n ?_
    refine w_reg_seq 257 385 rfl rfl ?_
    refine qp (AI v15) rfl (qp (AI v15) rfl ?_)
    refine r_nil ?_
    refine w_ret ?_
    cases hF
    exact endM_r rfl rfl (by first | rfl | (simp [List.take_of_length_le]; first | exact ⟨rfl, rfl⟩ | rfl)) (by simp)

def c33 : MC := (.seq (.reg [⟨(some 4), none, (.p true (.mv (.c (.int .i64 0))))⟩]) (.seq (.seq (.reg [⟨(some 5), none, (.p true (.mv (.c (.int .i64 0))))⟩]) (.block 0 (.loop (.seq (.seq (.reg [⟨(some 6), none, (.p true (.mv (.t 5)))⟩, ⟨(some 7), none, (.p true (.mv (.t 0)))⟩, ⟨(some 8), none, (.p true (.len (.t 7)))⟩, ⟨(some 9), none, (.p true (.bin .lss (.t 6) (.t 8)))⟩]) (.cond (.t 9) .skip (.exit 0))) (.seq (.block 1 (.seq (.reg [⟨(some 12), none, (.p true (.mv (.t 0)))⟩, ⟨(some 13), none, (.p true (.mv (.t 5)))⟩, ⟨(some 14), none, (.p true (.mv (.t 1)))⟩, ⟨(some 15), none, (.p true (.iad (.t 12) (.t 13) 1))⟩, ⟨none, none, (.f (.st (.t 15) (.t 14) 1))⟩]) (.reg [⟨(some 16), none, (.p true (.mv (.t 1)))⟩, ⟨(some 17), none, (.p true (.bin .add (.t 16) (.c (.int .i64 1))))⟩, ⟨(some 1), none, (.p true (.mv (.t 17)))⟩]))) (.reg [⟨(some 10), none, (.p true (.mv (.t 5)))⟩, ⟨(some 11), none, (.p true (.bin .add (.t 10) (.c (.int .i64 1))))⟩, ⟨(some 5), none, (.p true (.mv (.t 11)))⟩])))))) (.seq (.reg [⟨(some 18), none, (.p true (.mv (.t 1)))⟩, ⟨(some 4), none, (.p true (.mv (.t 18)))⟩]) .ret)))
theorem c33_is : compFnM Try.prog 33 = some (c33, [(.tmp 4)]) := by kernel_rfl
theorem c33_ok : okFn Try.prog 33 = true := by kernel_rfl

def F_laws_markInt64S_l0 (k0 : Int × Int × (List Int) → Option ((List Int) × Int)) : Int × Int × (List Int) → Option ((List Int) × Int)
  | (v7, v8, v9) => (bif (decide (v8 < (v9.length : Int))) then ((ix v9 v8).bind fun v1000 => k0 (w64 (v7 + 1), w64 (v8 + 1), List.set v9 v8.toNat v7))
  else some (v9, v7))
def F_laws_markInt64S (v0 : List Int) (v1 : Int) : Option ((List Int) × Int) :=
  loop (F_laws_markInt64S_l0) (v1, 0, v0)
theorem con_laws_markInt64S {v0 : List Int} {v1 : Int} {r : (List Int) × Int} (hF : F_laws_markInt64S v0 v1 = some r) : ConM Try.prog 33 (.one (.row true 1 (v0.map (V.int .i64)))) (.one (.row true 1 (r.1.map (V.int .i64)))) [.int .i64 v1] (.int .i64 r.2) := by
  unfold F_laws_markInt64S at hF
  refine conM_of (av := .sl 0 0 v0.length) (L := [(0, .row true 1 (v0.map (V.int .i64)))]) c33_is rfl rfl rfl (by simp) fun N => ?_
  refine w_reg_seq 64 128 rfl rfl ?_
  refine qp (AI 0) rfl ?_
  refine r_nil ?_
  refine w_seq ?_
  refine w_reg_seq 128 192 rfl rfl ?_
  refine qp (AI 0) rfl ?_
  refine r_nil ?_
  refine w_block ?_
  refine w_ren (l' := [(0, .sl 0 0 v0.length), (1, AI v1), (5, AI 0)]) (L := [(0, .row true 1 (v0.map (V.int .i64)))]) [0, 1, 5] [(0, 0)] 1 (by first | rfl | simp) (by first | rfl | simp) (by decide) (by decide) (by decide) ?_
  refine w_loopF (F_laws_markInt64S_l0) (fun s : Int × Int × (List Int) => mkS [(0, .sl 0 0 s.2.2.length), (1, AI s.1), (5, AI s.2.1)] (fo [(0, .row true 1 (s.2.2.map (V.int .i64)))]) 1) hF ?_
  rintro k0 ⟨v7, v8, v9⟩ hF
  rw [F_laws_markInt64S_l0] at hF
  try dsimp only
  refine w_seq ?_
  refine w_reg_seq 1 257 rfl rfl ?_
  refine qp (AI v8) rfl (qp (.sl 0 0 v9.length) rfl (qp (AI (v9.length : Int)) rfl (qp (AB (decide (v8 < (v9.length : Int)))) rfl ?_)))
  refine r_nil ?_
  refine w_condF hF rfl (fun hF => ?_) (fun hF => ?_)
  ·
    refine w_skip ?_
    refine thenQ_n ?_
    refine w_seq ?_
    refine w_block ?_
    refine w_reg_seq 257 577 rfl rfl ?_
    refine qp (.sl 0 0 v9.length) rfl (qp (AI v8) rfl (qp (AI v7) rfl ?_))
    obtain ⟨v1000, e1000, hF⟩ := bind_get hF
    refine qp (.ptr 0 v8.toNat 0) (ev_iad_r rfl (by simp) rfl rfl e1000) ?_
    refine qf0 (.undef) [(0, .row true 1 ((List.set v9 v8.toNat v7).map (V.int .i64))), (0, .row true 1 (v9.map (V.int .i64)))] (effT_st rfl rfl (ix_some e1000).2 rfl rfl (by rfl) (by first | rfl | simp [patch, reb, List.take_of_length_le]) (by rfl) rfl) ?_
    refine r_nil ?_
    refine w_reg 577 769 rfl rfl ?_
    refine qp (AI v7) rfl (qp (AI (w64 (v7 + 1))) rfl (qp (AI (w64 (v7 + 1))) rfl ?_))
    refine r_nil ?_
    refine blockQ_n ?_
    refine thenQ_n ?_
    refine w_reg 769 961 rfl rfl ?_
    refine qp (AI v8) rfl (qp (AI (w64 (v8 + 1))) rfl (qp (AI (w64 (v8 + 1))) rfl ?_))
    refine r_nil ?_
    refine thenQ_n ?_
    refine aw_ren (l' := [(0, .sl 0 0 (List.set v9 v8.toNat v7).length), (1, AI (w64 (v7 + 1))), (5, AI (w64 (v8 + 1)))]) (L := [(0, .row true 1 ((List.set v9 v8.toNat v7).map (V.int .i64)))]) [0, 1, 5] [(0, 0)] 1 (by first | rfl | simp) (by first | rfl | simp) (by decide) (by decide) (by decide) ⟨_, by rfl, hF⟩
  ·
    refine w_exit ?_
    refine thenQ_e ?_
    refine thenQ_e ?_
    refine blockQ_e ?_
    refine thenQ_n ?_
    refine w_reg_seq 257 385 rfl rfl ?_
    refine qp (AI v7) rfl (qp (AI v7) rfl ?_)
    refine r_nil ?_
    refine w_ret ?_
    cases hF
    exact endM_r rfl rfl (by first | rfl | (simp [List.take_of_length_le]; first | exact ⟨rfl, rfl⟩ | rfl)) (by simp)

def c34 : MC := (.seq (.reg [⟨(some 4), none, (.p true (.mv (.c (.int .i64 0))))⟩]) (.seq (.seq (.reg [⟨(some 5), none, (.p true (.mv (.c (.int .i64 0))))⟩]) (.block 0 (.loop (.seq (.seq (.reg [⟨(some 6), none, (.p true (.mv (.t 5)))⟩, ⟨(some 7), none, (.p true (.mv (.t 0)))⟩, ⟨(some 8), none, (.p true (.len (.t 7)))⟩, ⟨(some 9), none, (.p true (.bin .lss (.t 6) (.t 8)))⟩]) (.cond (.t 9) .skip (.exit 0))) (.seq (.block 1 (.seq (.seq (.reg [⟨(some 12), none, (.p true (.mv (.t 0)))⟩, ⟨(some 13), none, (.p true (.mv (.t 5)))⟩, ⟨(some 14), none, (.p true (.iad (.t 12) (.t 13) 1))⟩, ⟨(some 15), none, (.p true (.ld (.t 14) 1 false))⟩, ⟨(some 16), none, (.p true (.mv (.t 1)))⟩, ⟨(some 17), none, (.p true (.bin .neq (.t 15) (.t 16)))⟩]) (.cond (.t 17) (.seq (.reg [⟨(some 4), none, (.p true (.mv (.c (.int .i64 (-1)))))⟩]) .ret) .skip)) (.reg [⟨(some 18), none, (.p true (.mv (.t 1)))⟩, ⟨(some 19), none, (.p true (.bin .add (.t 18) (.c (.int .i64 1))))⟩, ⟨(some 1), none, (.p true (.mv (.t 19)))⟩]))) (.reg [⟨(some 10), none, (.p true (.mv (.t 5)))⟩, ⟨(some 11), none, (.p true (.bin .add (.t 10) (.c (.int .i64 1))))⟩, ⟨(some 5), none, (.p true (.mv (.t 11)))⟩])))))) (.seq (.reg [⟨(some 20), none, (.p true (.mv (.t 1)))⟩, ⟨(some 4), none, (.p true (.mv (.t 20)))⟩]) .ret)))
theorem c34_is : compFn Try.prog 34 = some (c34, [(.tmp 4)]) := by kernel_rfl
theorem c34_ok : okFn Try.prog 34 = true := by kernel_rfl

def F_laws_heldInt64S_l0 (v0 : List Int) (k0 : Int × Int → Option (Int)) : Int × Int → Option (Int)
  | (v6, v7) => (bif (decide (v7 < (v0.length : Int))) then ((ix v0 v7).bind fun v1000 => (bif (decide (v1000 ≠ v6)) then some (-1)
  else k0 (w64 (v6 + 1), w64 (v7 + 1))))
  else some v6)
def F_laws_heldInt64S (v0 : List Int) (v1 : Int) : Option (Int) :=
  loop (F_laws_heldInt64S_l0 v0) (v1, 0)
@[simp] def res_laws_heldInt64S (r : Int) : RV := .one (.one (.val (.int .i64 r)))
theorem con_laws_heldInt64S {v0 : List Int} {v1 : Int} {r : Int} (hF : F_laws_heldInt64S v0 v1 = some r) : Con Try.prog 34 [.sl 1 (v0.map (V.int .i64)), .int .i64 v1] (res_laws_heldInt64S r) := by
  unfold F_laws_heldInt64S at hF
  refine con_of c34_is fun N => ?_
  refine w_reg_seq 0 64 rfl rfl ?_
  refine qp (AI 0) rfl ?_
  refine r_nil ?_
  refine w_seq ?_
  refine w_reg_seq 64 128 rfl rfl ?_
  refine qp (AI 0) rfl ?_
  refine r_nil ?_
  refine w_block ?_
  refine w_ren (l' := [(0, .val none (.sl 1 (v0.map (V.int .i64)))), (1, AI v1), (5, AI 0)]) (L := []) [0, 1, 5] [] 1 (by first | rfl | simp) (by first | rfl | simp) (by decide) (by decide) (by decide) ?_
  refine w_loopF (F_laws_heldInt64S_l0 v0) (fun s : Int × Int => mkS [(0, .val none (.sl 1 (v0.map (V.int .i64)))), (1, AI s.1), (5, AI s.2)] (fo []) 1) hF ?_
  rintro k0 ⟨v6, v7⟩ hF
  rw [F_laws_heldInt64S_l0] at hF
  try dsimp only
  refine w_seq ?_
  refine w_reg_seq 1 257 rfl rfl ?_
  refine qp (AI v7) rfl (qp (.val none (.sl 1 (v0.map (V.int .i64)))) rfl (qp (AI (v0.length : Int)) (ev_len_n rfl) (qp (AB (decide (v7 < (v0.length : Int)))) rfl ?_)))
  refine r_nil ?_
  refine w_condF hF rfl (fun hF => ?_) (fun hF => ?_)
  ·
    refine w_skip ?_
    refine thenQ_n ?_
    refine w_seq ?_
    refine w_block ?_
    refine w_seq ?_
    refine w_reg_seq 257 641 rfl rfl ?_
    refine qp (.val none (.sl 1 (v0.map (V.int .i64)))) rfl (qp (AI v7) rfl ?_)
    obtain ⟨v1000, e1000, hF⟩ := bind_get hF
    refine qp (.val none (.ptr [.int .i64 v1000])) (ev_iad_n rfl rfl e1000 rfl) (qp (AI v1000) rfl (qp (AI v6) rfl (qp (AB (decide (v1000 ≠ v6))) rfl ?_)))
    refine r_nil ?_
    refine w_condF hF rfl (fun hF => ?_) (fun hF => ?_)
    ·
      refine w_reg_seq 641 705 rfl rfl ?_
      refine qp (AI (-1)) rfl ?_
      refine r_nil ?_
      refine w_ret ?_
      refine thenQ_r ?_
      refine blockQ_r ?_
      refine thenQ_r ?_
      refine thenQ_r ?_
      refine blockQ_r ?_
      refine thenQ_r ?_
      cases hF
      exact endQ_r rfl (.inl ⟨_, _, by first | rfl | (simp [List.take_of_length_le]; first | exact ⟨rfl, rfl⟩ | rfl), by simp, by first | rfl | simp [res_laws_heldInt64S, List.take_of_length_le]⟩)
    ·
      refine w_skip ?_
      refine thenQ_n ?_
      refine w_reg 641 833 rfl rfl ?_
      refine qp (AI v6) rfl (qp (AI (w64 (v6 + 1))) rfl (qp (AI (w64 (v6 + 1))) rfl ?_))
      refine r_nil ?_
      refine blockQ_n ?_
      refine thenQ_n ?_
      refine w_reg 833 1025 rfl rfl ?_
      refine qp (AI v7) rfl (qp (AI (w64 (v7 + 1))) rfl (qp (AI (w64 (v7 + 1))) rfl ?_))
      refine r_nil ?_
      refine thenQ_n ?_
      refine aw_ren (l' := [(0, .val none (.sl 1 (v0.map (V.int .i64)))), (1, AI (w64 (v6 + 1))), (5, AI (w64 (v7 + 1)))]) (L := []) [0, 1, 5] [] 1 (by first | rfl | simp) (by first | rfl | simp) (by decide) (by decide) (by decide) ⟨_, by rfl, hF⟩
  ·
    refine w_exit ?_
    refine thenQ_e ?_
    refine thenQ_e ?_
    refine blockQ_e ?_
    refine thenQ_n ?_
    refine w_reg_seq 257 385 rfl rfl ?_
    refine qp (AI v6) rfl (qp (AI v6) rfl ?_)
    refine r_nil ?_
    refine w_ret ?_
    cases hF
    exact endQ_r rfl (.inl ⟨_, _, by first | rfl | (simp [List.take_of_length_le]; first | exact ⟨rfl, rfl⟩ | rfl), by simp, by first | rfl | simp [res_laws_heldInt64S, List.take_of_length_le]⟩)

def c6 : MC := (.seq (.reg [⟨(some 2), none, (.p true (.mv (.c (.bool false))))⟩]) (.seq (.reg [⟨(some 3), none, (.p true (.mv (.c (.int .i64 1048576))))⟩]) (.seq (.reg [⟨(some 11), none, (.p true (.mv (.t 0)))⟩, ⟨(some 12), none, (.p true (.mv (.t 3)))⟩, ⟨(some 13), none, (.call true 26 [(.t 11), (.t 12)])⟩, ⟨(some 3), none, (.p true (.mv (.t 13)))⟩]) (.seq (.seq (.reg [⟨(some 14), none, (.p true (.mv (.t 3)))⟩, ⟨(some 15), none, (.p true (.bin .lss (.t 14) (.c (.int .i64 0))))⟩]) (.cond (.t 15) (.seq (.reg [⟨(some 2), none, (.p true (.mv (.c (.bool true))))⟩]) .ret) .skip)) (.seq (.reg [⟨(some 16), none, (.p true (.mv (.t 0)))⟩, ⟨(some 17), none, (.call true 28 [(.t 16)])⟩, ⟨(some 18), none, (.call true 27 [(.t 17)])⟩, ⟨(some 4), none, (.p true (.mv (.t 18)))⟩]) (.seq (.reg [⟨(some 19), none, (.p true (.mv (.t 0)))⟩, ⟨(some 20), none, (.call true 28 [(.t 19)])⟩, ⟨(some 5), none, (.p true (.mv (.t 20)))⟩]) (.seq (.reg [⟨(some 21), none, (.p true (.mv (.t 5)))⟩, ⟨(some 22), none, (.call true 29 [(.t 21)])⟩, ⟨(some 6), none, (.p true (.mv (.t 22)))⟩]) (.seq (.seq (.reg [⟨(some 23), none, (.p true (.mv (.t 6)))⟩, ⟨(some 24), none, (.p true (.mv (.t 4)))⟩, ⟨(some 25), none, (.call true 30 [(.t 23), (.t 24)])⟩, ⟨(some 26), none, (.p true (.not (.t 25)))⟩]) (.cond (.t 26) (.seq (.reg [⟨(some 2), none, (.p true (.mv (.c (.bool false))))⟩]) .ret) .skip)) (.seq (.seq (.reg [⟨(some 27), none, (.p true (.mv (.t 5)))⟩, ⟨(some 28), none, (.p true (.mv (.t 0)))⟩, ⟨(some 29), none, (.call true 28 [(.t 28)])⟩, ⟨(some 30), none, (.call true 31 [(.t 27), (.t 29)])⟩, ⟨(some 31), none, (.p true (.not (.t 30)))⟩]) (.cond (.t 31) (.seq (.reg [⟨(some 2), none, (.p true (.mv (.c (.bool false))))⟩]) .ret) .skip)) (.seq (.reg [⟨(some 7), none, (.p true (.mv (.c (.int .i64 1))))⟩]) (.seq (.reg [⟨(some 32), none, (.p true (.mv (.t 5)))⟩, ⟨(some 33), none, (.p true (.mv (.t 7)))⟩, ⟨(some 34), none, (.call true 32 [(.t 32), (.t 33)])⟩, ⟨(some 7), none, (.p true (.mv (.t 34)))⟩]) (.seq (.seq (.reg [⟨(some 35), none, (.p true (.mv (.t 7)))⟩, ⟨(some 36), none, (.p true (.bin .lss (.t 35) (.c (.int .i64 0))))⟩, ⟨(some 37), none, (.p true (.mv (.t 36)))⟩, ⟨(some 38), (some (37, false)), (.p true (.mv (.t 6)))⟩, ⟨(some 39), (some (37, false)), (.p true (.mv (.t 4)))⟩, ⟨(some 40), (some (37, false)), (.call true 30 [(.t 38), (.t 39)])⟩, ⟨(some 41), (some (37, false)), (.p true (.not (.t 40)))⟩, ⟨(some 42), none, (.p true (.pick (.t 37) (.c (.bool true)) (.t 41)))⟩]) (.cond (.t 42) (.seq (.reg [⟨(some 2), none, (.p true (.mv (.c (.bool false))))⟩]) .ret) .skip)) (.seq (.reg [⟨(some 8), none, (.p true (.mv (.c (.int .i64 1))))⟩]) (.seq (.reg [⟨(some 43), none, (.p true (.mv (.t 6)))⟩, ⟨(some 44), none, (.p true (.mv (.t 8)))⟩, ⟨(some 45), none, (.call true 33 [(.t 43), (.t 44)])⟩, ⟨(some 8), none, (.p true (.mv (.t 45)))⟩]) (.seq (.reg [⟨(some 9), none, (.p true (.mv (.c (.int .i64 1))))⟩]) (.seq (.reg [⟨(some 46), none, (.p true (.mv (.t 6)))⟩, ⟨(some 47), none, (.p true (.mv (.t 9)))⟩, ⟨(some 48), none, (.call true 34 [(.t 46), (.t 47)])⟩, ⟨(some 9), none, (.p true (.mv (.t 48)))⟩]) (.seq (.seq (.reg [⟨(some 49), none, (.p true (.mv (.t 9)))⟩, ⟨(some 50), none, (.p true (.bin .lss (.t 49) (.c (.int .i64 0))))⟩]) (.cond (.t 50) (.seq (.reg [⟨(some 2), none, (.p true (.mv (.c (.bool false))))⟩]) .ret) .skip)) (.seq (.seq (.reg [⟨(some 51), none, (.p true (.mv (.t 9)))⟩, ⟨(some 52), none, (.p true (.mv (.t 8)))⟩, ⟨(some 53), none, (.p true (.bin .neq (.t 51) (.t 52)))⟩]) (.cond (.t 53) (.seq (.reg [⟨(some 2), none, (.p true (.mv (.c (.bool false))))⟩]) .ret) .skip)) (.seq (.reg [⟨(some 54), none, (.p true (.mv (.t 0)))⟩, ⟨(some 55), none, (.call true 28 [(.t 54)])⟩, ⟨(some 56), none, (.call true 29 [(.t 55)])⟩, ⟨(some 10), none, (.p true (.mv (.t 56)))⟩]) (.seq (.seq (.reg [⟨(some 57), none, (.p true (.mv (.t 10)))⟩, ⟨(some 58), none, (.p true (.mv (.t 4)))⟩, ⟨(some 59), none, (.call true 30 [(.t 57), (.t 58)])⟩, ⟨(some 60), none, (.p true (.not (.t 59)))⟩]) (.cond (.t 60) (.seq (.reg [⟨(some 2), none, (.p true (.mv (.c (.bool false))))⟩]) .ret) .skip)) (.seq (.reg [⟨(some 9), none, (.p true (.mv (.c (.int .i64 1))))⟩]) (.seq (.reg [⟨(some 61), none, (.p true (.mv (.t 6)))⟩, ⟨(some 62), none, (.p true (.mv (.t 9)))⟩, ⟨(some 63), none, (.call true 34 [(.t 61), (.t 62)])⟩, ⟨(some 9), none, (.p true (.mv (.t 63)))⟩]) (.seq (.seq (.reg [⟨(some 64), none, (.p true (.mv (.t 9)))⟩, ⟨(some 65), none, (.p true (.bin .lss (.t 64) (.c (.int .i64 0))))⟩]) (.cond (.t 65) (.seq (.reg [⟨(some 2), none, (.p true (.mv (.c (.bool false))))⟩]) .ret) .skip)) (.seq (.seq (.reg [⟨(some 66), none, (.p true (.mv (.t 9)))⟩, ⟨(some 67), none, (.p true (.mv (.t 8)))⟩, ⟨(some 68), none, (.p true (.bin .neq (.t 66) (.t 67)))⟩]) (.cond (.t 68) (.seq (.reg [⟨(some 2), none, (.p true (.mv (.c (.bool false))))⟩]) .ret) .skip)) (.seq (.reg [⟨(some 2), none, (.p true (.mv (.c (.bool true))))⟩]) .ret)))))))))))))))))))))))))
theorem c6_is : compFn Try.prog 6 = some (c6, [(.tmp 2)]) := by kernel_rfl
theorem c6_ok : okFn Try.prog 6 = true := by kernel_rfl

def F_laws_FnExactCountProblems (v0 : List TProblem) : Option (Bool) :=
  ((F_laws_szProblemS v0 1048576).bind fun v1000 => (bif (decide (v1000 < (0 : Int))) then some true
  else ((F_laws_toProblemS v0).bind fun v1001 => ((F_spec_CountProblems v1001).bind fun v1002 => ((F_laws_toProblemS v0).bind fun v1003 => ((F_impl_CountProblems v1003).bind fun v1004 => ((F_laws_eqInt64S v1004 v1002).bind fun v1005 => (bif (!v1005) then some false
  else ((F_laws_toProblemS v0).bind fun v1006 => ((F_laws_eqProblemS v1003 v1006).bind fun v1007 => (bif (!v1007) then some false
  else ((F_laws_markProblemS v1003 1).bind fun v1008 => need (v1008.1.length = v1003.length) ((bif (decide (v1008.2 < (0 : Int))) then some false
  else ((F_laws_eqInt64S v1004 v1002).bind fun v1011 => (bif (!v1011) then some false
  else ((F_laws_markInt64S v1004 1).bind fun v1012 => need (v1012.1.length = v1004.length) (((F_laws_heldInt64S v1012.1 1).bind fun v1014 => (bif (decide (v1014 < (0 : Int))) then some false
  else (bif (decide (v1014 ≠ v1012.2)) then some false
  else ((F_laws_toProblemS v0).bind fun v1015 => ((F_impl_CountProblems v1015).bind fun v1016 => ((F_laws_eqInt64S v1016 v1002).bind fun v1017 => (bif (!v1017) then some false
  else ((F_laws_heldInt64S v1012.1 1).bind fun v1018 => (bif (decide (v1018 < (0 : Int))) then some false
  else (bif (decide (v1018 ≠ v1012.2)) then some false
  else some true))))))))))))))))))))))))))))
@[simp] def res_laws_FnExactCountProblems (r : Bool) : RV := .one (.one (.val (.bool r)))
theorem con_laws_FnExactCountProblems {v0 : List TProblem} {r : Bool} (hF : F_laws_FnExactCountProblems v0 = some r) : Con Try.prog 6 [.sl 3 (v0.map eProblem)] (res_laws_FnExactCountProblems r) := by
  unfold F_laws_FnExactCountProblems at hF
  refine con_of c6_is fun N => ?_
  refine w_reg_seq 0 64 rfl rfl ?_
  refine qp (AB false) rfl ?_
  refine r_nil ?_
  refine w_reg_seq 64 128 rfl rfl ?_
  refine qp (AI 1048576) rfl ?_
  refine r_nil ?_
  refine w_reg_seq 128 384 rfl rfl ?_
  refine qp (.val none (.sl 3 (v0.map eProblem))) rfl (qp (AI 1048576) rfl ?_)
  obtain ⟨v1000, e1000, hF⟩ := bind_get hF
  refine qc (AI v1000) [] false (con_laws_szProblemS e1000) c26_ok (by first | rfl | simp) rfl ?_
  refine qp (AI v1000) rfl ?_
  refine r_nil ?_
  refine w_seq ?_
  refine w_reg_seq 384 512 rfl rfl ?_
  refine qp (AI v1000) rfl (qp (AB (decide (v1000 < (0 : Int)))) rfl ?_)
  refine r_nil ?_
  refine w_condF hF rfl (fun hF => ?_) (fun hF => ?_)
  ·
    refine w_reg_seq 512 576 rfl rfl ?_
    refine qp (AB true) rfl ?_
    refine r_nil ?_
    refine w_ret ?_
    refine thenQ_r ?_
    cases hF
    exact endQ_r rfl (.inl ⟨_, _, by first | rfl | (simp [List.take_of_length_le]; first | exact ⟨rfl, rfl⟩ | rfl), by simp, by first | rfl | simp [res_laws_FnExactCountProblems, List.take_of_length_le]⟩)
  ·
    refine w_skip ?_
    refine thenQ_n ?_
    refine w_reg_seq 512 768 rfl rfl ?_
    refine qp (.val none (.sl 3 (v0.map eProblem))) rfl ?_
    obtain ⟨v1001, e1001, hF⟩ := bind_get hF
    refine qc (.sl 576 0 v1001.length) [(576, .row true 3 (v1001.map eProblem))] false (con_laws_toProblemS e1001) c28_ok (by first | rfl | simp) (by simp [res_laws_toProblemS]) ?_
    obtain ⟨v1002, e1002, hF⟩ := bind_get hF
    refine qc (.sl 640 0 v1002.length) [(640, .row true 1 (v1002.map (V.int .i64))), (576, .row true 3 (v1001.map eProblem))] true (con_spec_CountProblems e1002) c27_ok (by simp [List.take_of_length_le]) (by simp [res_spec_CountProblems]) ?_
    refine qp (.sl 640 0 v1002.length) rfl ?_
    refine r_nil ?_
    refine w_reg_seq 768 960 rfl rfl ?_
    refine qp (.val none (.sl 3 (v0.map eProblem))) rfl ?_
    obtain ⟨v1003, e1003, hF⟩ := bind_get hF
    refine qc (.sl 832 0 v1003.length) [(832, .row true 3 (v1003.map eProblem)), (640, .row true 1 (v1002.map (V.int .i64))), (576, .row true 3 (v1001.map eProblem))] false (con_laws_toProblemS e1003) c28_ok (by first | rfl | simp) (by simp [res_laws_toProblemS]) ?_
    refine qp (.sl 832 0 v1003.length) rfl ?_
    refine r_nil ?_
    refine w_reg_seq 960 1152 rfl rfl ?_
    refine qp (.sl 832 0 v1003.length) rfl ?_
    obtain ⟨v1004, e1004, hF⟩ := bind_get hF
    refine qc (.sl 1024 0 v1004.length) [(1024, .row true 1 (v1004.map (V.int .i64))), (832, .row true 3 (v1003.map eProblem)), (640, .row true 1 (v1002.map (V.int .i64))), (576, .row true 3 (v1001.map eProblem))] true (con_impl_CountProblems e1004) c29_ok (by simp [List.take_of_length_le]) (by simp [res_impl_CountProblems]) ?_
    refine qp (.sl 1024 0 v1004.length) rfl ?_
    refine r_nil ?_
    refine w_seq ?_
    refine w_reg_seq 1152 1408 rfl rfl ?_
    refine qp (.sl 1024 0 v1004.length) rfl (qp (.sl 640 0 v1002.length) rfl ?_)
    obtain ⟨v1005, e1005, hF⟩ := bind_get hF
    refine qc (AB v1005) [(1024, .row true 1 (v1004.map (V.int .i64))), (832, .row true 3 (v1003.map eProblem)), (640, .row true 1 (v1002.map (V.int .i64))), (576, .row true 3 (v1001.map eProblem))] true (con_laws_eqInt64S e1005) c30_ok (by simp [List.take_of_length_le]) rfl ?_
    refine qp (AB (!v1005)) rfl ?_
    refine r_nil ?_
    refine w_condF hF rfl (fun hF => ?_) (fun hF => ?_)
    ·
      refine w_reg_seq 1408 1472 rfl rfl ?_
      refine qp (AB false) rfl ?_
      refine r_nil ?_
      refine w_ret ?_
      refine thenQ_r ?_
      cases hF
      exact endQ_r rfl (.inl ⟨_, _, by first | rfl | (simp [List.take_of_length_le]; first | exact ⟨rfl, rfl⟩ | rfl), by simp, by first | rfl | simp [res_laws_FnExactCountProblems, List.take_of_length_le]⟩)
    ·
      refine w_skip ?_
      refine thenQ_n ?_
      refine w_seq ?_
      refine w_reg_seq 1408 1728 rfl rfl ?_
      refine qp (.sl 832 0 v1003.length) rfl (qp (.val none (.sl 3 (v0.map eProblem))) rfl ?_)
      obtain ⟨v1006, e1006, hF⟩ := bind_get hF
      refine qc (.sl 1536 0 v1006.length) [(1536, .row true 3 (v1006.map eProblem)), (1024, .row true 1 (v1004.map (V.int .i64))), (832, .row true 3 (v1003.map eProblem)), (640, .row true 1 (v1002.map (V.int .i64))), (576, .row true 3 (v1001.map eProblem))] false (con_laws_toProblemS e1006) c28_ok (by first | rfl | simp) (by simp [res_laws_toProblemS]) ?_
      obtain ⟨v1007, e1007, hF⟩ := bind_get hF
      refine qc (AB v1007) [(1536, .row true 3 (v1006.map eProblem)), (1024, .row true 1 (v1004.map (V.int .i64))), (832, .row true 3 (v1003.map eProblem)), (640, .row true 1 (v1002.map (V.int .i64))), (576, .row true 3 (v1001.map eProblem))] true (con_laws_eqProblemS e1007) c31_ok (by simp [List.take_of_length_le]) rfl ?_
      refine qp (AB (!v1007)) rfl ?_
      refine r_nil ?_
      refine w_condF hF rfl (fun hF => ?_) (fun hF => ?_)
      ·
        refine w_reg_seq 1728 1792 rfl rfl ?_
        refine qp (AB false) rfl ?_
        refine r_nil ?_
        refine w_ret ?_
        refine thenQ_r ?_
        cases hF
        exact endQ_r rfl (.inl ⟨_, _, by first | rfl | (simp [List.take_of_length_le]; first | exact ⟨rfl, rfl⟩ | rfl), by simp, by first | rfl | simp [res_laws_FnExactCountProblems, List.take_of_length_le]⟩)
      ·
        refine w_skip ?_
        refine thenQ_n ?_
        refine w_reg_seq 1728 1792 rfl rfl ?_
        refine qp (AI 1) rfl ?_
        refine r_nil ?_
        refine w_reg_seq 1792 2048 rfl rfl ?_
        refine qp (.sl 832 0 v1003.length) rfl (qp (AI 1) rfl ?_)
        obtain ⟨v1008, e1008, hF⟩ := bind_get hF
        obtain ⟨g1009, hF⟩ := need_some hF
        refine qm (ls := [832]) [(832, .row true 3 (v1008.1.map eProblem)), (1536, .row true 3 (v1006.map eProblem)), (1024, .row true 1 (v1004.map (V.int .i64))), (832, .row true 3 (v1003.map eProblem)), (640, .row true 1 (v1002.map (V.int .i64))), (576, .row true 3 (v1001.map eProblem))] (con_laws_markProblemS e1008) c32_ok (by first | rfl | simp [takeM, takeML, takeM1, g1009]) (by decide) (by simp [like2, likeL, like1, g1009]) rfl rfl rfl (by simp [scrO_fo, newO2, newO, scrR, scrA, scrAs]) ?_
        refine qp (AI v1008.2) rfl ?_
        refine r_nil ?_
        refine w_seq ?_
        refine w_reg_seq 2048 2560 rfl rfl ?_
        refine qp (AI v1008.2) rfl (qp (AB (decide (v1008.2 < (0 : Int)))) rfl (qp (AB (decide (v1008.2 < (0 : Int)))) rfl ?_))
        refine q_case 37 hF rfl (fun hF => ?_) (fun hF => ?_)
        ·
          refine qn rfl (qn rfl (qn rfl (qn rfl (qp (AB true) rfl ?_))))
          refine r_nil ?_
          refine w_true rfl ?_
          refine w_reg_seq 2560 2624 rfl rfl ?_
          refine qp (AB false) rfl ?_
          refine r_nil ?_
          refine w_ret ?_
          refine thenQ_r ?_
          cases hF
          exact endQ_r rfl (.inl ⟨_, _, by first | rfl | (simp [List.take_of_length_le]; first | exact ⟨rfl, rfl⟩ | rfl), by simp, by first | rfl | simp [res_laws_FnExactCountProblems, List.take_of_length_le, g1009]⟩)
        ·
          refine qg (.sl 1024 0 v1004.length) rfl rfl (qg (.sl 640 0 v1002.length) rfl rfl ?_)
          obtain ⟨v1011, e1011, hF⟩ := bind_get hF
          refine qcg (AB v1011) [(832, .row true 3 (v1008.1.map eProblem)), (1536, .row true 3 (v1006.map eProblem)), (1024, .row true 1 (v1004.map (V.int .i64))), (832, .row true 3 (v1003.map eProblem)), (640, .row true 1 (v1002.map (V.int .i64))), (576, .row true 3 (v1001.map eProblem))] true rfl (con_laws_eqInt64S e1011) c30_ok (by simp [g1009, List.take_of_length_le]) rfl ?_
          refine qg (AB (!v1011)) rfl rfl (qp (AB (!v1011)) rfl ?_)
          refine r_nil ?_
          refine w_condF hF rfl (fun hF => ?_) (fun hF => ?_)
          ·
            refine w_reg_seq 2560 2624 rfl rfl ?_
            refine qp (AB false) rfl ?_
            refine r_nil ?_
            refine w_ret ?_
            refine thenQ_r ?_
            cases hF
            exact endQ_r rfl (.inl ⟨_, _, by first | rfl | (simp [List.take_of_length_le]; first | exact ⟨rfl, rfl⟩ | rfl), by simp, by first | rfl | simp [res_laws_FnExactCountProblems, List.take_of_length_le, g1009]⟩)
          ·
            refine w_skip ?_
            refine thenQ_n ?_
            refine w_reg_seq 2560 2624 rfl rfl ?_
            refine qp (AI 1) rfl ?_
            refine r_nil ?_
            refine w_reg_seq 2624 2880 rfl rfl ?_
            refine qp (.sl 1024 0 v1004.length) rfl (qp (AI 1) rfl ?_)
            obtain ⟨v1012, e1012, hF⟩ := bind_get hF
            obtain ⟨g1013, hF⟩ := need_some hF
            refine qm (ls := [1024]) [(1024, .row true 1 (v1012.1.map (V.int .i64))), (832, .row true 3 (v1008.1.map eProblem)), (1536, .row true 3 (v1006.map eProblem)), (1024, .row true 1 (v1004.map (V.int .i64))), (832, .row true 3 (v1003.map eProblem)), (640, .row true 1 (v1002.map (V.int .i64))), (576, .row true 3 (v1001.map eProblem))] (con_laws_markInt64S e1012) c33_ok (by first | rfl | simp [takeM, takeML, takeM1, g1009, g1013]) (by decide) (by simp [like2, likeL, like1, g1013]) rfl rfl rfl (by simp [scrO_fo, newO2, newO, scrR, scrA, scrAs]) ?_
            refine qp (AI v1012.2) rfl ?_
            refine r_nil ?_
            refine w_reg_seq 2880 2944 rfl rfl ?_
            refine qp (AI 1) rfl ?_
            refine r_nil ?_
            refine w_reg_seq 2944 3200 rfl rfl ?_
            refine qp (.sl 1024 0 v1004.length) rfl (qp (AI 1) rfl ?_)
            obtain ⟨v1014, e1014, hF⟩ := bind_get hF
            refine qc (AI v1014) [(1024, .row true 1 (v1012.1.map (V.int .i64))), (832, .row true 3 (v1008.1.map eProblem)), (1536, .row true 3 (v1006.map eProblem)), (1024, .row true 1 (v1004.map (V.int .i64))), (832, .row true 3 (v1003.map eProblem)), (640, .row true 1 (v1002.map (V.int .i64))), (576, .row true 3 (v1001.map eProblem))] true (con_laws_heldInt64S e1014) c34_ok (by simp [g1009, g1013, List.take_of_length_le]) rfl ?_
            refine qp (AI v1014) rfl ?_
            refine r_nil ?_
            refine w_seq ?_
            refine w_reg_seq 3200 3328 rfl rfl ?_
            refine qp (AI v1014) rfl (qp (AB (decide (v1014 < (0 : Int)))) rfl ?_)
            refine r_nil ?_
            refine w_condF hF rfl (fun hF => ?_) (fun hF => ?_)
            ·
              refine w_reg_seq 3328 3392 rfl rfl ?_
              refine qp (AB false) rfl ?_
              refine r_nil ?_
              refine w_ret ?_
              refine thenQ_r ?_
              cases hF
              exact endQ_r rfl (.inl ⟨_, _, by first | rfl | (simp [List.take_of_length_le]; first | exact ⟨rfl, rfl⟩ | rfl), by simp, by first | rfl | simp [res_laws_FnExactCountProblems, List.take_of_length_le, g1009, g1013]⟩)
            ·
              refine w_skip ?_
              refine thenQ_n ?_
              refine w_seq ?_
              refine w_reg_seq 3328 3520 rfl rfl ?_
              refine qp (AI v1014) rfl (qp (AI v1012.2) rfl (qp (AB (decide (v1014 ≠ v1012.2))) rfl ?_))
              refine r_nil ?_
              refine w_condF hF rfl (fun hF => ?_) (fun hF => ?_)
              ·
                refine w_reg_seq 3520 3584 rfl rfl ?_
                refine qp (AB false) rfl ?_
                refine r_nil ?_
                refine w_ret ?_
                refine thenQ_r ?_
                cases hF
                exact endQ_r rfl (.inl ⟨_, _, by first | rfl | (simp [List.take_of_length_le]; first | exact ⟨rfl, rfl⟩ | rfl), by simp, by first | rfl | simp [res_laws_FnExactCountProblems, List.take_of_length_le, g1009, g1013]⟩)
              ·
                refine w_skip ?_
                refine thenQ_n ?_
                refine w_reg_seq 3520 3776 rfl rfl ?_
                refine qp (.val none (.sl 3 (v0.map eProblem))) rfl ?_
                obtain ⟨v1015, e1015, hF⟩ := bind_get hF
                refine qc (.sl 3584 0 v1015.length) [(3584, .row true 3 (v1015.map eProblem)), (1024, .row true 1 (v1012.1.map (V.int .i64))), (832, .row true 3 (v1008.1.map eProblem)), (1536, .row true 3 (v1006.map eProblem)), (1024, .row true 1 (v1004.map (V.int .i64))), (832, .row true 3 (v1003.map eProblem)), (640, .row true 1 (v1002.map (V.int .i64))), (576, .row true 3 (v1001.map eProblem))] false (con_laws_toProblemS e1015) c28_ok (by first | rfl | simp) (by simp [res_laws_toProblemS]) ?_
                obtain ⟨v1016, e1016, hF⟩ := bind_get hF
                refine qc (.sl 3648 0 v1016.length) [(3648, .row true 1 (v1016.map (V.int .i64))), (3584, .row true 3 (v1015.map eProblem)), (1024, .row true 1 (v1012.1.map (V.int .i64))), (832, .row true 3 (v1008.1.map eProblem)), (1536, .row true 3 (v1006.map eProblem)), (1024, .row true 1 (v1004.map (V.int .i64))), (832, .row true 3 (v1003.map eProblem)), (640, .row true 1 (v1002.map (V.int .i64))), (576, .row true 3 (v1001.map eProblem))] true (con_impl_CountProblems e1016) c29_ok (by simp [g1009, g1013, List.take_of_length_le]) (by simp [res_impl_CountProblems]) ?_
                refine qp (.sl 3648 0 v1016.length) rfl ?_
                refine r_nil ?_
                refine w_seq ?_
                refine w_reg_seq 3776 4032 rfl rfl ?_
                refine qp (.sl 3648 0 v1016.length) rfl (qp (.sl 640 0 v1002.length) rfl ?_)
                obtain ⟨v1017, e1017, hF⟩ := bind_get hF
                refine qc (AB v1017) [(3648, .row true 1 (v1016.map (V.int .i64))), (3584, .row true 3 (v1015.map eProblem)), (1024, .row true 1 (v1012.1.map (V.int .i64))), (832, .row true 3 (v1008.1.map eProblem)), (1536, .row true 3 (v1006.map eProblem)), (1024, .row true 1 (v1004.map (V.int .i64))), (832, .row true 3 (v1003.map eProblem)), (640, .row true 1 (v1002.map (V.int .i64))), (576, .row true 3 (v1001.map eProblem))] true (con_laws_eqInt64S e1017) c30_ok (by simp [g1009, g1013, List.take_of_length_le]) rfl ?_
                refine qp (AB (!v1017)) rfl ?_
                refine r_nil ?_
                refine w_condF hF rfl (fun hF => ?_) (fun hF => ?_)
                ·
                  refine w_reg_seq 4032 4096 rfl rfl ?_
                  refine qp (AB false) rfl ?_
                  refine r_nil ?_
                  refine w_ret ?_
                  refine thenQ_r ?_
                  cases hF
                  exact endQ_r rfl (.inl ⟨_, _, by first | rfl | (simp [List.take_of_length_le]; first | exact ⟨rfl, rfl⟩ | rfl), by simp, by first | rfl | simp [res_laws_FnExactCountProblems, List.take_of_length_le, g1009, g1013]⟩)
                ·
                  refine w_skip ?_
                  refine thenQ_n ?_
                  refine w_reg_seq 4032 4096 rfl rfl ?_
                  refine qp (AI 1) rfl ?_
                  refine r_nil ?_
                  refine w_reg_seq 4096 4352 rfl rfl ?_
                  refine qp (.sl 1024 0 v1004.length) rfl (qp (AI 1) rfl ?_)
                  obtain ⟨v1018, e1018, hF⟩ := bind_get hF
                  refine qc (AI v1018) [(3648, .row true 1 (v1016.map (V.int .i64))), (3584, .row true 3 (v1015.map eProblem)), (1024, .row true 1 (v1012.1.map (V.int .i64))), (832, .row true 3 (v1008.1.map eProblem)), (1536, .row true 3 (v1006.map eProblem)), (1024, .row true 1 (v1004.map (V.int .i64))), (832, .row true 3 (v1003.map eProblem)), (640, .row true 1 (v1002.map (V.int .i64))), (576, .row true 3 (v1001.map eProblem))] true (con_laws_heldInt64S e1018) c34_ok (by simp [g1009, g1013, List.take_of_length_le]) rfl ?_
                  refine qp (AI v1018) rfl ?_
                  refine r_nil ?_
                  refine w_seq ?_
                  refine w_reg_seq 4352 4480 rfl rfl ?_
                  refine qp (AI v1018) rfl (qp (AB (decide (v1018 < (0 : Int)))) rfl ?_)
                  refine r_nil ?_
                  refine w_condF hF rfl (fun hF => ?_) (fun hF => ?_)
                  ·
                    refine w_reg_seq 4480 4544 rfl rfl ?_
                    refine qp (AB false) rfl ?_
                    refine r_nil ?_
                    refine w_ret ?_
                    refine thenQ_r ?_
                    cases hF
                    exact endQ_r rfl (.inl ⟨_, _, by first | rfl | (simp [List.take_of_length_le]; first | exact ⟨rfl, rfl⟩ | rfl), by simp, by first | rfl | simp [res_laws_FnExactCountProblems, List.take_of_length_le, g1009, g1013]⟩)
                  ·
                    refine w_skip ?_
                    refine thenQ_n ?_
                    refine w_seq ?_
                    refine w_reg_seq 4480 4672 rfl rfl ?_
                    refine qp (AI v1018) rfl (qp (AI v1012.2) rfl (qp (AB (decide (v1018 ≠ v1012.2))) rfl ?_))
                    refine r_nil ?_
                    refine w_condF hF rfl (fun hF => ?_) (fun hF => ?_)
                    ·
                      refine w_reg_seq 4672 4736 rfl rfl ?_
                      refine qp (AB false) rfl ?_
                      refine r_nil ?_
                      refine w_ret ?_
                      refine thenQ_r ?_
                      cases hF
                      exact endQ_r rfl (.inl ⟨_, _, by first | rfl | (simp [List.take_of_length_le]; first | exact ⟨rfl, rfl⟩ | rfl), by simp, by first | rfl | simp [res_laws_FnExactCountProblems, List.take_of_length_le, g1009, g1013]⟩)
                    ·
                      refine w_skip ?_
                      refine thenQ_n ?_
                      refine w_reg_seq 4672 4736 rfl rfl ?_
                      refine qp (AB true) rfl ?_
                      refine r_nil ?_
                      refine w_ret ?_
                      cases hF
                      exact endQ_r rfl (.inl ⟨_, _, by first | rfl | (simp [List.take_of_length_le]; first | exact ⟨rfl, rfl⟩ | rfl), by simp, by first | rfl | simp [res_laws_FnExactCountProblems, List.take_of_length_le, g1009, g1013]⟩)

end Go.Ab
