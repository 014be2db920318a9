/- Walks (printed by auto.py, a program of this session's own). -/
import Derived.Test.YtnldnipdcdhoeaaA30
import Derived.Test.YtnldnipdcdhoeaaProg
import Derived.KernelRfl
set_option linter.unusedVariables false
set_option linter.unusedSimpArgs false
namespace Go.Ab
open Go.RowKit Go.Proofs

abbrev TBlock := (List UInt8) × (List UInt8) × (List UInt8)
@[simp] def eBlock (p : TBlock) : V := .agg [.str p.1, .str p.2.1, .str p.2.2]
def c43 : MC := (.seq (.reg [⟨(some 2), none, (.f (.box (.t 0)))⟩, ⟨(some 4), none, (.p true (.mv (.c (.int .i64 0))))⟩]) (.seq (.reg [⟨(some 5), none, (.p true (.mv (.t 1)))⟩, ⟨(some 6), none, (.p true (.fad (.t 2) 0))⟩, ⟨(some 7), none, (.p true (.ld (.t 6) 1 false))⟩, ⟨(some 8), none, (.p true (.lens (.t 7)))⟩, ⟨(some 9), none, (.p true (.bin .sub (.t 5) (.t 8)))⟩, ⟨(some 1), none, (.p true (.mv (.t 9)))⟩]) (.seq (.seq (.reg [⟨(some 10), none, (.p true (.mv (.t 1)))⟩, ⟨(some 11), none, (.p true (.bin .lss (.t 10) (.c (.int .i64 0))))⟩]) (.cond (.t 11) (.seq (.reg [⟨(some 4), none, (.p true (.mv (.c (.int .i64 (-1)))))⟩]) .ret) .skip)) (.seq (.reg [⟨(some 12), none, (.p true (.mv (.t 1)))⟩, ⟨(some 13), none, (.p true (.fad (.t 2) 1))⟩, ⟨(some 14), none, (.p true (.ld (.t 13) 1 false))⟩, ⟨(some 15), none, (.p true (.lens (.t 14)))⟩, ⟨(some 16), none, (.p true (.bin .sub (.t 12) (.t 15)))⟩, ⟨(some 1), none, (.p true (.mv (.t 16)))⟩]) (.seq (.seq (.reg [⟨(some 17), none, (.p true (.mv (.t 1)))⟩, ⟨(some 18), none, (.p true (.bin .lss (.t 17) (.c (.int .i64 0))))⟩]) (.cond (.t 18) (.seq (.reg [⟨(some 4), none, (.p true (.mv (.c (.int .i64 (-1)))))⟩]) .ret) .skip)) (.seq (.reg [⟨(some 19), none, (.p true (.mv (.t 1)))⟩, ⟨(some 20), none, (.p true (.fad (.t 2) 2))⟩, ⟨(some 21), none, (.p true (.ld (.t 20) 1 false))⟩, ⟨(some 22), none, (.p true (.lens (.t 21)))⟩, ⟨(some 23), none, (.p true (.bin .sub (.t 19) (.t 22)))⟩, ⟨(some 1), none, (.p true (.mv (.t 23)))⟩]) (.seq (.seq (.reg [⟨(some 24), none, (.p true (.mv (.t 1)))⟩, ⟨(some 25), none, (.p true (.bin .lss (.t 24) (.c (.int .i64 0))))⟩]) (.cond (.t 25) (.seq (.reg [⟨(some 4), none, (.p true (.mv (.c (.int .i64 (-1)))))⟩]) .ret) .skip)) (.seq (.reg [⟨(some 26), none, (.p true (.mv (.t 1)))⟩, ⟨(some 4), none, (.p true (.mv (.t 26)))⟩]) .ret))))))))
theorem c43_is : compFn Try.prog 43 = some (c43, [(.tmp 4)]) := by kernel_rfl
theorem c43_ok : okFn Try.prog 43 = true := by kernel_rfl

def F_laws_szBlock (v0 : TBlock) (v1 : Int) : Option (Int) :=
  (bif (decide (w64 (v1 - (v0.1.length : Int)) < (0 : Int))) then some (-1)
  else (bif (decide (w64 ((w64 (v1 - (v0.1.length : Int))) - (v0.2.1.length : Int)) < (0 : Int))) then some (-1)
  else (bif (decide (w64 ((w64 ((w64 (v1 - (v0.1.length : Int))) - (v0.2.1.length : Int))) - (v0.2.2.length : Int)) < (0 : Int))) then some (-1)
  else some (w64 ((w64 ((w64 (v1 - (v0.1.length : Int))) - (v0.2.1.length : Int))) - (v0.2.2.length : Int))))))
@[simp] def res_laws_szBlock (r : Int) : RV := .one (.one (.val (.int .i64 r)))
theorem con_laws_szBlock {v0 : TBlock} {v1 : Int} {r : Int} (hF : F_laws_szBlock v0 v1 = some r) : Con Try.prog 43 [eBlock v0, .int .i64 v1] (res_laws_szBlock r) := by
  unfold F_laws_szBlock at hF
  refine con_of c43_is fun N => ?_
  refine w_reg_seq 0 128 rfl rfl ?_
  refine qf (.ptr 0 0 0) [(0, .box [AS v0.1, AS v0.2.1, AS v0.2.2])] (by simp) ?_
  refine qp (AI 0) rfl ?_
  refine r_nil ?_
  refine w_reg_seq 128 512 rfl rfl ?_
  refine qp (AI v1) rfl (qp (.ptr 0 0 0) rfl (qp (AS v0.1) rfl (qp (AI (v0.1.length : Int)) rfl (qp (AI (w64 (v1 - (v0.1.length : Int)))) rfl (qp (AI (w64 (v1 - (v0.1.length : Int)))) rfl ?_)))))
  refine r_nil ?_
  refine w_seq ?_
  refine w_reg_seq 512 640 rfl rfl ?_
  refine qp (AI (w64 (v1 - (v0.1.length : Int)))) rfl (qp (AB (decide (w64 (v1 - (v0.1.length : Int)) < (0 : Int)))) rfl ?_)
  refine r_nil ?_
  refine w_condF hF rfl (fun hF => ?_) (fun hF => ?_)
  ·
    refine w_reg_seq 640 704 rfl rfl ?_
    refine qp (AI (-1)) rfl ?_
    refine r_nil ?_
    refine w_ret ?_
    refine thenQ_r ?_
    cases hF
    exact endQ_r rfl (.inl ⟨_, _, by first | rfl | (simp [List.take_of_length_le]; first | exact ⟨rfl, rfl⟩ | rfl), by simp, by first | rfl | simp [res_laws_szBlock, List.take_of_length_le]⟩)
  ·
    refine w_skip ?_
    refine thenQ_n ?_
    refine w_reg_seq 640 1024 rfl rfl ?_
    refine qp (AI (w64 (v1 - (v0.1.length : Int)))) rfl (qp (.ptr 0 0 1) rfl (qp (AS v0.2.1) rfl (qp (AI (v0.2.1.length : Int)) rfl (qp (AI (w64 ((w64 (v1 - (v0.1.length : Int))) - (v0.2.1.length : Int)))) rfl (qp (AI (w64 ((w64 (v1 - (v0.1.length : Int))) - (v0.2.1.length : Int)))) rfl ?_)))))
    refine r_nil ?_
    refine w_seq ?_
    refine w_reg_seq 1024 1152 rfl rfl ?_
    refine qp (AI (w64 ((w64 (v1 - (v0.1.length : Int))) - (v0.2.1.length : Int)))) rfl (qp (AB (decide (w64 ((w64 (v1 - (v0.1.length : Int))) - (v0.2.1.length : Int)) < (0 : Int)))) rfl ?_)
    refine r_nil ?_
    refine w_condF hF rfl (fun hF => ?_) (fun hF => ?_)
    ·
      refine w_reg_seq 1152 1216 rfl rfl ?_
      refine qp (AI (-1)) rfl ?_
      refine r_nil ?_
      refine w_ret ?_
      refine thenQ_r ?_
      cases hF
      exact endQ_r rfl (.inl ⟨_, _, by first | rfl | (simp [List.take_of_length_le]; first | exact ⟨rfl, rfl⟩ | rfl), by simp, by first | rfl | simp [res_laws_szBlock, List.take_of_length_le]⟩)
    ·
      refine w_skip ?_
      refine thenQ_n ?_
      refine w_reg_seq 1152 1536 rfl rfl ?_
      refine qp (AI (w64 ((w64 (v1 - (v0.1.length : Int))) - (v0.2.1.length : Int)))) rfl (qp (.ptr 0 0 2) rfl (qp (AS v0.2.2) rfl (qp (AI (v0.2.2.length : Int)) rfl (qp (AI (w64 ((w64 ((w64 (v1 - (v0.1.length : Int))) - (v0.2.1.length : Int))) - (v0.2.2.length : Int)))) rfl (qp (AI (w64 ((w64 ((w64 (v1 - (v0.1.length : Int))) - (v0.2.1.length : Int))) - (v0.2.2.length : Int)))) rfl ?_)))))
      refine r_nil ?_
      refine w_seq ?_
      refine w_reg_seq 1536 1664 rfl rfl ?_
      refine qp (AI (w64 ((w64 ((w64 (v1 - (v0.1.length : Int))) - (v0.2.1.length : Int))) - (v0.2.2.length : Int)))) rfl (qp (AB (decide (w64 ((w64 ((w64 (v1 - (v0.1.length : Int))) - (v0.2.1.length : Int))) - (v0.2.2.length : Int)) < (0 : Int)))) rfl ?_)
      refine r_nil ?_
      refine w_condF hF rfl (fun hF => ?_) (fun hF => ?_)
      ·
        refine w_reg_seq 1664 1728 rfl rfl ?_
        refine qp (AI (-1)) rfl ?_
        refine r_nil ?_
        refine w_ret ?_
        refine thenQ_r ?_
        cases hF
        exact endQ_r rfl (.inl ⟨_, _, by first | rfl | (simp [List.take_of_length_le]; first | exact ⟨rfl, rfl⟩ | rfl), by simp, by first | rfl | simp [res_laws_szBlock, List.take_of_length_le]⟩)
      ·
        refine w_skip ?_
        refine thenQ_n ?_
        refine w_reg_seq 1664 1792 rfl rfl ?_
        refine qp (AI (w64 ((w64 ((w64 (v1 - (v0.1.length : Int))) - (v0.2.1.length : Int))) - (v0.2.2.length : Int)))) rfl (qp (AI (w64 ((w64 ((w64 (v1 - (v0.1.length : Int))) - (v0.2.1.length : Int))) - (v0.2.2.length : Int)))) rfl ?_)
        refine r_nil ?_
        refine w_ret ?_
        cases hF
        exact endQ_r rfl (.inl ⟨_, _, by first | rfl | (simp [List.take_of_length_le]; first | exact ⟨rfl, rfl⟩ | rfl), by simp, by first | rfl | simp [res_laws_szBlock, List.take_of_length_le]⟩)

def c23 : MC := (.seq (.reg [⟨(some 4), none, (.p true (.mv (.c (.int .i64 0))))⟩]) (.seq (.reg [⟨(some 6), none, (.p true (.mv (.t 1)))⟩, ⟨(some 7), none, (.p true (.mv (.t 0)))⟩, ⟨(some 8), none, (.p true (.len (.t 7)))⟩, ⟨(some 9), none, (.p true (.bin .sub (.t 6) (.t 8)))⟩, ⟨(some 1), none, (.p true (.mv (.t 9)))⟩]) (.seq (.seq (.reg [⟨(some 10), none, (.p true (.mv (.t 1)))⟩, ⟨(some 11), none, (.p true (.bin .lss (.t 10) (.c (.int .i64 0))))⟩]) (.cond (.t 11) (.seq (.reg [⟨(some 4), none, (.p true (.mv (.c (.int .i64 (-1)))))⟩]) .ret) .skip)) (.seq (.seq (.reg [⟨(some 5), none, (.p true (.mv (.c (.int .i64 0))))⟩]) (.block 0 (.loop (.seq (.seq (.reg [⟨(some 12), none, (.p true (.mv (.t 5)))⟩, ⟨(some 13), none, (.p true (.mv (.t 0)))⟩, ⟨(some 14), none, (.p true (.len (.t 13)))⟩, ⟨(some 15), none, (.p true (.bin .lss (.t 12) (.t 14)))⟩]) (.cond (.t 15) .skip (.exit 0))) (.seq (.block 1 (.seq (.reg [⟨(some 18), none, (.p true (.mv (.t 0)))⟩, ⟨(some 19), none, (.p true (.mv (.t 5)))⟩, ⟨(some 20), none, (.p true (.iad (.t 18) (.t 19) 3))⟩, ⟨(some 21), none, (.p true (.ld (.t 20) 3 true))⟩, ⟨(some 22), none, (.p true (.mv (.t 1)))⟩, ⟨(some 23), none, (.call true 43 [(.t 21), (.t 22)])⟩, ⟨(some 1), none, (.p true (.mv (.t 23)))⟩]) (.seq (.reg [⟨(some 24), none, (.p true (.mv (.t 1)))⟩, ⟨(some 25), none, (.p true (.bin .lss (.t 24) (.c (.int .i64 0))))⟩]) (.cond (.t 25) (.seq (.reg [⟨(some 4), none, (.p true (.mv (.c (.int .i64 (-1)))))⟩]) .ret) .skip)))) (.reg [⟨(some 16), none, (.p true (.mv (.t 5)))⟩, ⟨(some 17), none, (.p true (.bin .add (.t 16) (.c (.int .i64 1))))⟩, ⟨(some 5), none, (.p true (.mv (.t 17)))⟩])))))) (.seq (.reg [⟨(some 26), none, (.p true (.mv (.t 1)))⟩, ⟨(some 4), none, (.p true (.mv (.t 26)))⟩]) .ret)))))
theorem c23_is : compFn Try.prog 23 = some (c23, [(.tmp 4)]) := by kernel_rfl
theorem c23_ok : okFn Try.prog 23 = true := by kernel_rfl

def F_laws_szBlockS_l0 (v0 : List TBlock) (k0 : Int × Int → Option (Int)) : Int × Int → Option (Int)
  | (v8, v9) => (bif (decide (v9 < (v0.length : Int))) then ((ix v0 v9).bind fun v1000 => ((F_laws_szBlock v1000 v8).bind fun v1001 => (bif (decide (v1001 < (0 : Int))) then some (-1)
  else k0 (v1001, w64 (v9 + 1)))))
  else some v8)
def F_laws_szBlockS (v0 : List TBlock) (v1 : Int) : Option (Int) :=
  (bif (decide (w64 (v1 - (v0.length : Int)) < (0 : Int))) then some (-1)
  else loop (F_laws_szBlockS_l0 v0) (w64 (v1 - (v0.length : Int)), 0))
@[simp] def res_laws_szBlockS (r : Int) : RV := .one (.one (.val (.int .i64 r)))
theorem con_laws_szBlockS {v0 : List TBlock} {v1 : Int} {r : Int} (hF : F_laws_szBlockS v0 v1 = some r) : Con Try.prog 23 [.sl 3 (v0.map eBlock), .int .i64 v1] (res_laws_szBlockS r) := by
  unfold F_laws_szBlockS at hF
  refine con_of c23_is fun N => ?_
  refine w_reg_seq 0 64 rfl rfl ?_
  refine qp (AI 0) rfl ?_
  refine r_nil ?_
  refine w_reg_seq 64 384 rfl rfl ?_
  refine qp (AI v1) rfl (qp (.val none (.sl 3 (v0.map eBlock))) rfl (qp (AI (v0.length : Int)) (ev_len_n rfl) (qp (AI (w64 (v1 - (v0.length : Int)))) rfl (qp (AI (w64 (v1 - (v0.length : Int)))) rfl ?_))))
  refine r_nil ?_
  refine w_seq ?_
  refine w_reg_seq 384 512 rfl rfl ?_
  refine qp (AI (w64 (v1 - (v0.length : Int)))) rfl (qp (AB (decide (w64 (v1 - (v0.length : Int)) < (0 : Int)))) rfl ?_)
  refine r_nil ?_
  refine w_condF hF rfl (fun hF => ?_) (fun hF => ?_)
  ·
    refine w_reg_seq 512 576 rfl rfl ?_
    refine qp (AI (-1)) rfl ?_
    refine r_nil ?_
    refine w_ret ?_
    refine thenQ_r ?_
    cases hF
    exact endQ_r rfl (.inl ⟨_, _, by first | rfl | (simp [List.take_of_length_le]; first | exact ⟨rfl, rfl⟩ | rfl), by simp, by first | rfl | simp [res_laws_szBlockS, List.take_of_length_le]⟩)
  ·
    refine w_skip ?_
    refine thenQ_n ?_
    refine w_seq ?_
    refine w_reg_seq 512 576 rfl rfl ?_
    refine qp (AI 0) rfl ?_
    refine r_nil ?_
    refine w_block ?_
    refine w_ren (l' := [(0, .val none (.sl 3 (v0.map eBlock))), (1, AI (w64 (v1 - (v0.length : Int)))), (5, AI 0)]) (L := []) [0, 1, 5] [] 1 (by first | rfl | simp) (by first | rfl | simp) (by decide) (by decide) (by decide) ?_
    refine w_loopF (F_laws_szBlockS_l0 v0) (fun s : Int × Int => mkS [(0, .val none (.sl 3 (v0.map eBlock))), (1, AI s.1), (5, AI s.2)] (fo []) 1) hF ?_
    rintro k0 ⟨v8, v9⟩ hF
    rw [F_laws_szBlockS_l0] at hF
    try dsimp only
    refine w_seq ?_
    refine w_reg_seq 1 257 rfl rfl ?_
    refine qp (AI v9) rfl (qp (.val none (.sl 3 (v0.map eBlock))) rfl (qp (AI (v0.length : Int)) (ev_len_n rfl) (qp (AB (decide (v9 < (v0.length : Int)))) rfl ?_)))
    refine r_nil ?_
    refine w_condF hF rfl (fun hF => ?_) (fun hF => ?_)
    ·
      refine w_skip ?_
      refine thenQ_n ?_
      refine w_seq ?_
      refine w_block ?_
      refine w_reg_seq 257 705 rfl rfl ?_
      refine qp (.val none (.sl 3 (v0.map eBlock))) rfl (qp (AI v9) rfl ?_)
      obtain ⟨v1000, e1000, hF⟩ := bind_get hF
      refine qp (.val none (.ptr [.str v1000.1, .str v1000.2.1, .str v1000.2.2])) (ev_iad_n rfl rfl e1000 rfl) (qp (.val none (eBlock v1000)) rfl (qp (AI v8) rfl ?_))
      obtain ⟨v1001, e1001, hF⟩ := bind_get hF
      refine qc (AI v1001) [] false (con_laws_szBlock e1001) c43_ok (by first | rfl | simp) rfl ?_
      refine qp (AI v1001) rfl ?_
      refine r_nil ?_
      refine w_reg_seq 705 833 rfl rfl ?_
      refine qp (AI v1001) rfl (qp (AB (decide (v1001 < (0 : Int)))) rfl ?_)
      refine r_nil ?_
      refine w_condF hF rfl (fun hF => ?_) (fun hF => ?_)
      ·
        refine w_reg_seq 833 897 rfl rfl ?_
        refine qp (AI (-1)) rfl ?_
        refine r_nil ?_
        refine w_ret ?_
        refine blockQ_r ?_
        refine thenQ_r ?_
        refine thenQ_r ?_
        refine blockQ_r ?_
        refine thenQ_r ?_
        cases hF
        exact endQ_r rfl (.inl ⟨_, _, by first | rfl | (simp [List.take_of_length_le]; first | exact ⟨rfl, rfl⟩ | rfl), by simp, by first | rfl | simp [res_laws_szBlockS, List.take_of_length_le]⟩)
      ·
        refine w_skip ?_
        refine blockQ_n ?_
        refine thenQ_n ?_
        refine w_reg 833 1025 rfl rfl ?_
        refine qp (AI v9) rfl (qp (AI (w64 (v9 + 1))) rfl (qp (AI (w64 (v9 + 1))) rfl ?_))
        refine r_nil ?_
        refine thenQ_n ?_
        refine aw_ren (l' := [(0, .val none (.sl 3 (v0.map eBlock))), (1, AI v1001), (5, AI (w64 (v9 + 1)))]) (L := []) [0, 1, 5] [] 1 (by first | rfl | simp) (by first | rfl | simp) (by decide) (by decide) (by decide) ⟨_, by rfl, hF⟩
    ·
      refine w_exit ?_
      refine thenQ_e ?_
      refine thenQ_e ?_
      refine blockQ_e ?_
      refine thenQ_n ?_
      refine w_reg_seq 257 385 rfl rfl ?_
      refine qp (AI v8) rfl (qp (AI v8) rfl ?_)
      refine r_nil ?_
      refine w_ret ?_
      cases hF
      exact endQ_r rfl (.inl ⟨_, _, by first | rfl | (simp [List.take_of_length_le]; first | exact ⟨rfl, rfl⟩ | rfl), by simp, by first | rfl | simp [res_laws_szBlockS, List.take_of_length_le]⟩)

def c45 : MC := (.seq (.reg [⟨(some 1), none, (.f (.box (.t 0)))⟩, ⟨(some 2), none, (.f (.alloc [((.str []), (0, false)), ((.str []), (0, false)), ((.str []), (0, false))]))⟩]) (.seq (.reg [⟨(some 3), none, (.f (.alloc [((.str []), (0, false)), ((.str []), (0, false)), ((.str []), (0, false))]))⟩]) (.seq (.reg [⟨(some 4), none, (.p true (.fad (.t 1) 0))⟩, ⟨(some 5), none, (.p true (.ld (.t 4) 1 false))⟩, ⟨(some 6), none, (.p true (.fad (.t 3) 0))⟩, ⟨none, none, (.f (.st (.t 6) (.t 5) 1))⟩]) (.seq (.reg [⟨(some 7), none, (.p true (.fad (.t 1) 1))⟩, ⟨(some 8), none, (.p true (.ld (.t 7) 1 false))⟩, ⟨(some 9), none, (.p true (.fad (.t 3) 1))⟩, ⟨none, none, (.f (.st (.t 9) (.t 8) 1))⟩]) (.seq (.reg [⟨(some 10), none, (.p true (.fad (.t 1) 2))⟩, ⟨(some 11), none, (.p true (.ld (.t 10) 1 false))⟩, ⟨(some 12), none, (.p true (.fad (.t 3) 2))⟩, ⟨none, none, (.f (.st (.t 12) (.t 11) 1))⟩]) (.seq (.reg [⟨(some 13), none, (.p true (.ld (.t 3) 3 true))⟩, ⟨none, none, (.f (.st (.t 2) (.t 13) 3))⟩]) .ret))))))
theorem c45_is : compFn Try.prog 45 = some (c45, [(.cell (.ld (.t 2) 3 true))]) := by kernel_rfl
theorem c45_ok : okFn Try.prog 45 = true := by kernel_rfl

def F_laws_toBlock (v0 : TBlock) : Option (TBlock) :=
  some v0
@[simp] def res_laws_toBlock (r : TBlock) : RV := .one (.one (.val (eBlock r)))
theorem con_laws_toBlock {v0 : TBlock} {r : TBlock} (hF : F_laws_toBlock v0 = some r) : Con Try.prog 45 [eBlock v0] (res_laws_toBlock r) := by
  unfold F_laws_toBlock at hF
  refine con_of c45_is fun N => ?_
  refine w_reg_seq 0 128 rfl rfl ?_
  refine qf (.ptr 0 0 0) [(0, .box [AS v0.1, AS v0.2.1, AS v0.2.2])] (by simp) ?_
  refine qf (.ptr 64 0 0) [(64, .box [AS [], AS [], AS []]), (0, .box [AS v0.1, AS v0.2.1, AS v0.2.2])] (by simp) ?_
  refine r_nil ?_
  refine w_reg_seq 128 192 rfl rfl ?_
  refine qf (.ptr 128 0 0) [(128, .box [AS [], AS [], AS []]), (64, .box [AS [], AS [], AS []]), (0, .box [AS v0.1, AS v0.2.1, AS v0.2.2])] (by simp) ?_
  refine r_nil ?_
  refine w_reg_seq 192 448 rfl rfl ?_
  refine qp (.ptr 0 0 0) rfl (qp (AS v0.1) rfl (qp (.ptr 128 0 0) rfl ?_))
  refine qf0 (.undef) [(128, .box [AS v0.1, AS [], AS []]), (128, .box [AS [], AS [], AS []]), (64, .box [AS [], AS [], AS []]), (0, .box [AS v0.1, AS v0.2.1, AS v0.2.2])] (by simp) ?_
  refine r_nil ?_
  refine w_reg_seq 448 704 rfl rfl ?_
  refine qp (.ptr 0 0 1) rfl (qp (AS v0.2.1) rfl (qp (.ptr 128 0 1) rfl ?_))
  refine qf0 (.undef) [(128, .box [AS v0.1, AS v0.2.1, AS []]), (128, .box [AS v0.1, AS [], AS []]), (128, .box [AS [], AS [], AS []]), (64, .box [AS [], AS [], AS []]), (0, .box [AS v0.1, AS v0.2.1, AS v0.2.2])] (by simp) ?_
  refine r_nil ?_
  refine w_reg_seq 704 960 rfl rfl ?_
  refine qp (.ptr 0 0 2) rfl (qp (AS v0.2.2) rfl (qp (.ptr 128 0 2) rfl ?_))
  refine qf0 (.undef) [(128, .box [AS v0.1, AS v0.2.1, AS v0.2.2]), (128, .box [AS v0.1, AS v0.2.1, AS []]), (128, .box [AS v0.1, AS [], AS []]), (128, .box [AS [], AS [], AS []]), (64, .box [AS [], AS [], AS []]), (0, .box [AS v0.1, AS v0.2.1, AS v0.2.2])] (by simp) ?_
  refine r_nil ?_
  refine w_reg_seq 960 1088 rfl rfl ?_
  refine qp (.agg [AS v0.1, AS v0.2.1, AS v0.2.2]) rfl ?_
  refine qf0 (.undef) [(64, .box [AS v0.1, AS v0.2.1, AS v0.2.2]), (128, .box [AS v0.1, AS v0.2.1, AS v0.2.2]), (128, .box [AS v0.1, AS v0.2.1, AS []]), (128, .box [AS v0.1, AS [], AS []]), (128, .box [AS [], AS [], AS []]), (64, .box [AS [], AS [], AS []]), (0, .box [AS v0.1, AS v0.2.1, AS v0.2.2])] (by simp) ?_
  refine r_nil ?_
  refine w_ret ?_
  cases hF
  exact endQ_r rfl (.inl ⟨_, _, by first | rfl | (simp [List.take_of_length_le]; first | exact ⟨rfl, rfl⟩ | rfl), by simp, by first | rfl | simp [res_laws_toBlock, List.take_of_length_le]⟩)

def c25 : MC := (.seq (.reg [⟨(some 2), none, (.f (.nilrow 3))⟩]) (.seq (.reg [⟨(some 5), none, (.p true (.mv (.t 0)))⟩, ⟨(some 6), none, (.p true (.len (.t 5)))⟩, ⟨(some 7), none, (.f (.mks 3 48 (.agg [(.str []), (.str []), (.str [])]) (.t 6) (.t 6)))⟩, ⟨(some 3), none, (.p true (.mv (.t 7)))⟩]) (.seq (.seq (.reg [⟨(some 4), none, (.p true (.mv (.c (.int .i64 0))))⟩]) (.block 0 (.loop (.seq (.seq (.reg [⟨(some 8), none, (.p true (.mv (.t 4)))⟩, ⟨(some 9), none, (.p true (.mv (.t 0)))⟩, ⟨(some 10), none, (.p true (.len (.t 9)))⟩, ⟨(some 11), none, (.p true (.bin .lss (.t 8) (.t 10)))⟩]) (.cond (.t 11) .skip (.exit 0))) (.seq (.block 1 (.reg [⟨(some 14), none, (.p true (.mv (.t 3)))⟩, ⟨(some 15), none, (.p true (.mv (.t 4)))⟩, ⟨(some 16), none, (.p true (.mv (.t 0)))⟩, ⟨(some 17), none, (.p true (.mv (.t 4)))⟩, ⟨(some 18), none, (.p true (.iad (.t 16) (.t 17) 3))⟩, ⟨(some 19), none, (.p true (.ld (.t 18) 3 true))⟩, ⟨(some 20), none, (.call true 45 [(.t 19)])⟩, ⟨(some 21), none, (.p true (.iad (.t 14) (.t 15) 3))⟩, ⟨none, none, (.f (.st (.t 21) (.t 20) 3))⟩])) (.reg [⟨(some 12), none, (.p true (.mv (.t 4)))⟩, ⟨(some 13), none, (.p true (.bin .add (.t 12) (.c (.int .i64 1))))⟩, ⟨(some 4), none, (.p true (.mv (.t 13)))⟩])))))) (.seq (.reg [⟨(some 22), none, (.p true (.mv (.t 3)))⟩, ⟨(some 2), none, (.p true (.mv (.t 22)))⟩]) .ret))))
theorem c25_is : compFn Try.prog 25 = some (c25, [(.tmp 2)]) := by kernel_rfl
theorem c25_ok : okFn Try.prog 25 = true := by kernel_rfl

def F_laws_toBlockS_l0 (v0 : List TBlock) (k1 : Int × (List TBlock) → Option (List TBlock)) : Int × (List TBlock) → Option (List TBlock)
  | (v1009, v1010) => (bif (decide (v1009 < (v0.length : Int))) then ((ix v0 v1009).bind fun v1011 => ((F_laws_toBlock v1011).bind fun v1012 => ((ix v1010 v1009).bind fun v1013 => k1 (w64 (v1009 + 1), List.set v1010 v1009.toNat v1012))))
  else some v1010)
def F_laws_toBlockS (v0 : List TBlock) : Option (List TBlock) :=
  (need (0 ≤ (v0.length : Int) ∧ (v0.length : Int) ≤ (v0.length : Int) ∧ (v0.length : Int) ≤ 9223372036854775807 ∧ 48 * (v0.length : Int) ≤ 281474976710656) (loop (F_laws_toBlockS_l0 v0) (0, List.replicate ((v0.length : Int)).toNat (([], [], []) : TBlock))))
@[simp] def res_laws_toBlockS (r : List TBlock) : RV := .one (.one (.row true 3 (r.map eBlock)))
theorem con_laws_toBlockS {v0 : List TBlock} {r : List TBlock} (hF : F_laws_toBlockS v0 = some r) : Con Try.prog 25 [.sl 3 (v0.map eBlock)] (res_laws_toBlockS r) := by
  unfold F_laws_toBlockS at hF
  refine con_of c25_is fun N => ?_
  refine w_reg_seq 0 64 rfl rfl ?_
  refine qf (.sl 0 0 0) [(0, .row true 3 (([] : List Int).map (V.int .i64)))] (by simp) ?_
  refine r_nil ?_
  refine w_reg_seq 64 320 rfl rfl ?_
  refine qp (.val none (.sl 3 (v0.map eBlock))) rfl (qp (AI (v0.length : Int)) (ev_len_n rfl) ?_)
  obtain ⟨g1000, hF⟩ := need_some hF
  refine qf (.sl 192 0 ((List.replicate ((v0.length : Int)).toNat (([], [], []) : TBlock)).length)) [(192, .row true 3 ((List.replicate ((v0.length : Int)).toNat (([], [], []) : TBlock)).map eBlock)), (0, .row true 3 (([] : List Int).map (V.int .i64)))] (effT_mks rfl rfl g1000 rfl) ?_
  refine qp (.sl 192 0 ((List.replicate ((v0.length : Int)).toNat (([], [], []) : TBlock)).length)) rfl ?_
  refine r_nil ?_
  refine w_seq ?_
  refine w_reg_seq 320 384 rfl rfl ?_
  refine qp (AI 0) rfl ?_
  refine r_nil ?_
  refine w_block ?_
  refine w_ren (l' := [(0, .val none (.sl 3 (v0.map eBlock))), (3, .sl 0 0 (List.replicate ((v0.length : Int)).toNat (([], [], []) : TBlock)).length), (4, AI 0)]) (L := [(0, .row true 3 ((List.replicate ((v0.length : Int)).toNat (([], [], []) : TBlock)).map eBlock))]) [0, 3, 4] [(192, 0)] 1 (by first | rfl | simp) (by first | rfl | simp) (by decide) (by decide) (by decide) ?_
  refine w_loopF (F_laws_toBlockS_l0 v0) (fun s : Int × (List TBlock) => mkS [(0, .val none (.sl 3 (v0.map eBlock))), (3, .sl 0 0 s.2.length), (4, AI s.1)] (fo [(0, .row true 3 (s.2.map eBlock))]) 1) hF ?_
  rintro k1 ⟨v1009, v1010⟩ hF
  rw [F_laws_toBlockS_l0] at hF
  try dsimp only
  refine w_seq ?_
  refine w_reg_seq 1 257 rfl rfl ?_
  refine qp (AI v1009) rfl (qp (.val none (.sl 3 (v0.map eBlock))) rfl (qp (AI (v0.length : Int)) (ev_len_n rfl) (qp (AB (decide (v1009 < (v0.length : Int)))) rfl ?_)))
  refine r_nil ?_
  refine w_condF hF rfl (fun hF => ?_) (fun hF => ?_)
  ·
    refine w_skip ?_
    refine thenQ_n ?_
    refine w_seq ?_
    refine w_block ?_
    refine w_reg 257 833 rfl rfl ?_
    refine qp (.sl 0 0 v1010.length) rfl (qp (AI v1009) rfl (qp (.val none (.sl 3 (v0.map eBlock))) rfl (qp (AI v1009) rfl ?_)))
    obtain ⟨v1011, e1011, hF⟩ := bind_get hF
    refine qp (.val none (.ptr [.str v1011.1, .str v1011.2.1, .str v1011.2.2])) (ev_iad_n rfl rfl e1011 rfl) (qp (.val none (eBlock v1011)) rfl ?_)
    obtain ⟨v1012, e1012, hF⟩ := bind_get hF
    refine qc (.val none (eBlock v1012)) [(0, .row true 3 (v1010.map eBlock))] false (con_laws_toBlock e1012) c45_ok (by first | rfl | simp) rfl ?_
    obtain ⟨v1013, e1013, hF⟩ := bind_get hF
    refine qp (.ptr 0 v1009.toNat 0) (ev_iad_r rfl (by simp) rfl rfl e1013) ?_
    refine qf0 (.undef) [(0, .row true 3 ((List.set v1010 v1009.toNat v1012).map eBlock)), (0, .row true 3 (v1010.map eBlock))] (effT_st rfl rfl (ix_some e1013).2 rfl rfl (by rfl) (by first | rfl | simp [patch, reb, List.take_of_length_le]) (by rfl) rfl) ?_
    refine r_nil ?_
    refine blockQ_n ?_
    refine thenQ_n ?_
    refine w_reg 833 1025 rfl rfl ?_
    refine qp (AI v1009) rfl (qp (AI (w64 (v1009 + 1))) rfl (qp (AI (w64 (v1009 + 1))) rfl ?_))
    refine r_nil ?_
    refine thenQ_n ?_
    refine aw_ren (l' := [(0, .val none (.sl 3 (v0.map eBlock))), (3, .sl 0 0 (List.set v1010 v1009.toNat v1012).length), (4, AI (w64 (v1009 + 1)))]) (L := [(0, .row true 3 ((List.set v1010 v1009.toNat v1012).map eBlock))]) [0, 3, 4] [(0, 0)] 1 (by first | rfl | simp) (by first | rfl | simp) (by decide) (by decide) (by decide) ⟨_, by rfl, hF⟩
  ·
    refine w_exit ?_
    refine thenQ_e ?_
    refine thenQ_e ?_
    refine blockQ_e ?_
    refine thenQ_n ?_
    refine w_reg_seq 257 385 rfl rfl ?_
    refine qp (.sl 0 0 v1010.length) rfl (qp (.sl 0 0 v1010.length) rfl ?_)
    refine r_nil ?_
    refine w_ret ?_
    cases hF
    exact endQ_r rfl (.inl ⟨_, _, by first | rfl | (simp [List.take_of_length_le]; first | exact ⟨rfl, rfl⟩ | rfl), by simp, by first | rfl | simp [res_laws_toBlockS, List.take_of_length_le]⟩)

def c116 : MC := (.seq (.reg [⟨(some 2), none, (.p true (.mv (.c (.bool false))))⟩]) (.seq (.reg [⟨(some 3), none, (.p true (.mv (.t 0)))⟩, ⟨(some 4), none, (.p true (.bin .geq (.t 3) (.c (.int .u8 97))))⟩, ⟨(some 5), none, (.p true (.mv (.t 4)))⟩, ⟨(some 6), (some (5, true)), (.p true (.mv (.t 0)))⟩, ⟨(some 7), (some (5, true)), (.p true (.bin .leq (.t 6) (.c (.int .u8 122))))⟩, ⟨(some 8), none, (.p true (.pick (.t 5) (.t 7) (.c (.bool false))))⟩, ⟨(some 2), none, (.p true (.mv (.t 8)))⟩]) .ret))
theorem c116_is : compFn Try.prog 116 = some (c116, [(.tmp 2)]) := by kernel_rfl
theorem c116_ok : okFn Try.prog 116 = true := by kernel_rfl

def F_spec_l01Small (v0 : Int) : Option (Bool) :=
  (bif (decide ((97 : Int) ≤ v0)) then some (decide (v0 ≤ (122 : Int)))
  else some false)
@[simp] def res_spec_l01Small (r : Bool) : RV := .one (.one (.val (.bool r)))
theorem con_spec_l01Small {v0 : Int} {r : Bool} (hF : F_spec_l01Small v0 = some r) : Con Try.prog 116 [.int .u8 v0] (res_spec_l01Small r) := by
  unfold F_spec_l01Small at hF
  refine con_of c116_is fun N => ?_
  refine w_reg_seq 0 64 rfl rfl ?_
  refine qp (AB false) rfl ?_
  refine r_nil ?_
  refine w_reg_seq 64 512 rfl rfl ?_
  refine qp (.val none (.int .u8 v0)) rfl (qp (AB (decide ((97 : Int) ≤ v0))) rfl (qp (AB (decide ((97 : Int) ≤ v0))) rfl ?_))
  refine q_case 5 hF rfl (fun hF => ?_) (fun hF => ?_)
  ·
    refine qg (.val none (.int .u8 v0)) rfl rfl (qg (AB (decide (v0 ≤ (122 : Int)))) rfl rfl (qp (AB (decide (v0 ≤ (122 : Int)))) rfl (qp (AB (decide (v0 ≤ (122 : Int)))) rfl ?_)))
    refine r_nil ?_
    refine w_ret ?_
    cases hF
    exact endQ_r rfl (.inl ⟨_, _, by first | rfl | (simp [List.take_of_length_le]; first | exact ⟨rfl, rfl⟩ | rfl), by simp, by first | rfl | simp [res_spec_l01Small, List.take_of_length_le]⟩)
  ·
    refine qn rfl (qn rfl (qp (AB false) rfl (qp (AB false) rfl ?_)))
    refine r_nil ?_
    refine w_ret ?_
    cases hF
    exact endQ_r rfl (.inl ⟨_, _, by first | rfl | (simp [List.take_of_length_le]; first | exact ⟨rfl, rfl⟩ | rfl), by simp, by first | rfl | simp [res_spec_l01Small, List.take_of_length_le]⟩)

def c117 : MC := (.seq (.reg [⟨(some 2), none, (.p true (.mv (.c (.bool false))))⟩]) (.seq (.reg [⟨(some 3), none, (.p true (.mv (.t 0)))⟩, ⟨(some 4), none, (.p true (.bin .geq (.t 3) (.c (.int .u8 48))))⟩, ⟨(some 5), none, (.p true (.mv (.t 4)))⟩, ⟨(some 6), (some (5, true)), (.p true (.mv (.t 0)))⟩, ⟨(some 7), (some (5, true)), (.p true (.bin .leq (.t 6) (.c (.int .u8 57))))⟩, ⟨(some 8), none, (.p true (.pick (.t 5) (.t 7) (.c (.bool false))))⟩, ⟨(some 2), none, (.p true (.mv (.t 8)))⟩]) .ret))
theorem c117_is : compFn Try.prog 117 = some (c117, [(.tmp 2)]) := by kernel_rfl
theorem c117_ok : okFn Try.prog 117 = true := by kernel_rfl

def F_spec_l01Digit (v0 : Int) : Option (Bool) :=
  (bif (decide ((48 : Int) ≤ v0)) then some (decide (v0 ≤ (57 : Int)))
  else some false)
@[simp] def res_spec_l01Digit (r : Bool) : RV := .one (.one (.val (.bool r)))
theorem con_spec_l01Digit {v0 : Int} {r : Bool} (hF : F_spec_l01Digit v0 = some r) : Con Try.prog 117 [.int .u8 v0] (res_spec_l01Digit r) := by
  unfold F_spec_l01Digit at hF
  refine con_of c117_is fun N => ?_
  refine w_reg_seq 0 64 rfl rfl ?_
  refine qp (AB false) rfl ?_
  refine r_nil ?_
  refine w_reg_seq 64 512 rfl rfl ?_
  refine qp (.val none (.int .u8 v0)) rfl (qp (AB (decide ((48 : Int) ≤ v0))) rfl (qp (AB (decide ((48 : Int) ≤ v0))) rfl ?_))
  refine q_case 5 hF rfl (fun hF => ?_) (fun hF => ?_)
  ·
    refine qg (.val none (.int .u8 v0)) rfl rfl (qg (AB (decide (v0 ≤ (57 : Int)))) rfl rfl (qp (AB (decide (v0 ≤ (57 : Int)))) rfl (qp (AB (decide (v0 ≤ (57 : Int)))) rfl ?_)))
    refine r_nil ?_
    refine w_ret ?_
    cases hF
    exact endQ_r rfl (.inl ⟨_, _, by first | rfl | (simp [List.take_of_length_le]; first | exact ⟨rfl, rfl⟩ | rfl), by simp, by first | rfl | simp [res_spec_l01Digit, List.take_of_length_le]⟩)
  ·
    refine qn rfl (qn rfl (qp (AB false) rfl (qp (AB false) rfl ?_)))
    refine r_nil ?_
    refine w_ret ?_
    cases hF
    exact endQ_r rfl (.inl ⟨_, _, by first | rfl | (simp [List.take_of_length_le]; first | exact ⟨rfl, rfl⟩ | rfl), by simp, by first | rfl | simp [res_spec_l01Digit, List.take_of_length_le]⟩)

def c93 : MC := (.seq (.reg [⟨(some 2), none, (.p true (.mv (.c (.bool false))))⟩]) (.seq (.seq (.reg [⟨(some 4), none, (.p true (.mv (.t 0)))⟩, ⟨(some 5), none, (.p true (.bin .eql (.t 4) (.c (.str []))))⟩, ⟨(some 6), none, (.p true (.mv (.t 5)))⟩, ⟨(some 7), (some (6, false)), (.p true (.mv (.t 0)))⟩, ⟨(some 8), (some (6, false)), (.p true (.lens (.t 7)))⟩, ⟨(some 9), (some (6, false)), (.p true (.bin .gtr (.t 8) (.c (.int .i64 10))))⟩, ⟨(some 10), none, (.p true (.pick (.t 6) (.c (.bool true)) (.t 9)))⟩, ⟨(some 11), none, (.p true (.mv (.t 10)))⟩, ⟨(some 12), (some (11, false)), (.p true (.mv (.t 0)))⟩, ⟨(some 13), (some (11, false)), (.p true (.ixs (.t 12) (.c (.int .i64 0))))⟩, ⟨(some 14), (some (11, false)), (.call true 116 [(.t 13)])⟩, ⟨(some 15), (some (11, false)), (.p true (.not (.t 14)))⟩, ⟨(some 16), none, (.p true (.pick (.t 11) (.c (.bool true)) (.t 15)))⟩]) (.cond (.t 16) (.seq (.reg [⟨(some 2), none, (.p true (.mv (.c (.bool false))))⟩]) .ret) .skip)) (.seq (.seq (.reg [⟨(some 3), none, (.p true (.mv (.c (.int .i64 0))))⟩]) (.block 0 (.loop (.seq (.seq (.reg [⟨(some 17), none, (.p true (.mv (.t 3)))⟩, ⟨(some 18), none, (.p true (.mv (.t 0)))⟩, ⟨(some 19), none, (.p true (.lens (.t 18)))⟩, ⟨(some 20), none, (.p true (.bin .lss (.t 17) (.t 19)))⟩]) (.cond (.t 20) .skip (.exit 0))) (.seq (.block 1 (.seq (.reg [⟨(some 23), none, (.p true (.mv (.t 0)))⟩, ⟨(some 24), none, (.p true (.mv (.t 3)))⟩, ⟨(some 25), none, (.p true (.ixs (.t 23) (.t 24)))⟩, ⟨(some 26), none, (.call true 116 [(.t 25)])⟩, ⟨(some 27), none, (.p true (.not (.t 26)))⟩, ⟨(some 28), none, (.p true (.mv (.t 27)))⟩, ⟨(some 29), (some (28, true)), (.p true (.mv (.t 0)))⟩, ⟨(some 30), (some (28, true)), (.p true (.mv (.t 3)))⟩, ⟨(some 31), (some (28, true)), (.p true (.ixs (.t 29) (.t 30)))⟩, ⟨(some 32), (some (28, true)), (.call true 117 [(.t 31)])⟩, ⟨(some 33), (some (28, true)), (.p true (.not (.t 32)))⟩, ⟨(some 34), none, (.p true (.pick (.t 28) (.t 33) (.c (.bool false))))⟩]) (.cond (.t 34) (.seq (.reg [⟨(some 2), none, (.p true (.mv (.c (.bool false))))⟩]) .ret) .skip))) (.reg [⟨(some 21), none, (.p true (.mv (.t 3)))⟩, ⟨(some 22), none, (.p true (.bin .add (.t 21) (.c (.int .i64 1))))⟩, ⟨(some 3), none, (.p true (.mv (.t 22)))⟩])))))) (.seq (.reg [⟨(some 2), none, (.p true (.mv (.c (.bool true))))⟩]) .ret))))
theorem c93_is : compFn Try.prog 93 = some (c93, [(.tmp 2)]) := by kernel_rfl
theorem c93_ok : okFn Try.prog 93 = true := by kernel_rfl

def F_spec_l01Name_l0 (v0 : List UInt8) (k1 : Int → Option (Bool)) : Int → Option (Bool)
  | v1011 => (bif (decide (v1011 < (v0.length : Int))) then ((ix v0 v1011).bind fun v1012 => ((F_spec_l01Small (v1012.toNat : Int)).bind fun v1013 => (bif (!v1013) then ((ix v0 v1011).bind fun v1014 => ((F_spec_l01Digit (v1014.toNat : Int)).bind fun v1015 => (bif (!v1015) then some false
  else k1 (w64 (v1011 + 1)))))
  else k1 (w64 (v1011 + 1)))))
  else some true)
def F_spec_l01Name (v0 : List UInt8) : Option (Bool) :=
  (bif (decide (v0 = [])) then some false
  else (bif (decide ((10 : Int) < (v0.length : Int))) then some false
  else ((ix v0 0).bind fun v1000 => ((F_spec_l01Small (v1000.toNat : Int)).bind fun v1001 => (bif (!v1001) then some false
  else loop (F_spec_l01Name_l0 v0) 0)))))
@[simp] def res_spec_l01Name (r : Bool) : RV := .one (.one (.val (.bool r)))
theorem con_spec_l01Name {v0 : List UInt8} {r : Bool} (hF : F_spec_l01Name v0 = some r) : Con Try.prog 93 [.str v0] (res_spec_l01Name r) := by
  unfold F_spec_l01Name at hF
  refine con_of c93_is fun N => ?_
  refine w_reg_seq 0 64 rfl rfl ?_
  refine qp (AB false) rfl ?_
  refine r_nil ?_
  refine w_seq ?_
  refine w_reg_seq 64 896 rfl rfl ?_
  refine qp (AS v0) rfl (qp (AB (decide (v0 = []))) rfl (qp (AB (decide (v0 = []))) rfl ?_))
  refine q_case 6 hF rfl (fun hF => ?_) (fun hF => ?_)
  ·
    refine qn rfl (qn rfl (qn rfl (qp (AB true) rfl (qp (AB true) rfl (qn rfl (qn rfl (qn rfl ?_)))))))
    refine qn rfl (qp (AB true) rfl ?_)
    refine r_nil ?_
    refine w_true rfl ?_
    refine w_reg_seq 896 960 rfl rfl ?_
    refine qp (AB false) rfl ?_
    refine r_nil ?_
    refine w_ret ?_
    refine thenQ_r ?_
    cases hF
    exact endQ_r rfl (.inl ⟨_, _, by first | rfl | (simp [List.take_of_length_le]; first | exact ⟨rfl, rfl⟩ | rfl), by simp, by first | rfl | simp [res_spec_l01Name, List.take_of_length_le]⟩)
  ·
    refine qg (AS v0) rfl rfl (qg (AI (v0.length : Int)) rfl rfl (qg (AB (decide ((10 : Int) < (v0.length : Int)))) rfl rfl (qp (AB (decide ((10 : Int) < (v0.length : Int)))) rfl (qp (AB (decide ((10 : Int) < (v0.length : Int)))) rfl ?_))))
    refine q_case 11 hF rfl (fun hF => ?_) (fun hF => ?_)
    ·
      refine qn rfl (qn rfl (qn rfl (qn rfl (qp (AB true) rfl ?_))))
      refine r_nil ?_
      refine w_true rfl ?_
      refine w_reg_seq 896 960 rfl rfl ?_
      refine qp (AB false) rfl ?_
      refine r_nil ?_
      refine w_ret ?_
      refine thenQ_r ?_
      cases hF
      exact endQ_r rfl (.inl ⟨_, _, by first | rfl | (simp [List.take_of_length_le]; first | exact ⟨rfl, rfl⟩ | rfl), by simp, by first | rfl | simp [res_spec_l01Name, List.take_of_length_le]⟩)
    ·
      refine qg (AS v0) rfl rfl ?_
      obtain ⟨v1000, e1000, hF⟩ := bind_get hF
      refine qg (.val none (.int .u8 (v1000.toNat : Int))) rfl (ev_ixs rfl rfl e1000) ?_
      obtain ⟨v1001, e1001, hF⟩ := bind_get hF
      refine qcg (AB v1001) [] false rfl (con_spec_l01Small e1001) c116_ok (by first | rfl | simp) rfl ?_
      refine qg (AB (!v1001)) rfl rfl (qp (AB (!v1001)) rfl ?_)
      refine r_nil ?_
      refine w_condF hF rfl (fun hF => ?_) (fun hF => ?_)
      ·
        refine w_reg_seq 896 960 rfl rfl ?_
        refine qp (AB false) rfl ?_
        refine r_nil ?_
        refine w_ret ?_
        refine thenQ_r ?_
        cases hF
        exact endQ_r rfl (.inl ⟨_, _, by first | rfl | (simp [List.take_of_length_le]; first | exact ⟨rfl, rfl⟩ | rfl), by simp, by first | rfl | simp [res_spec_l01Name, List.take_of_length_le]⟩)
      ·
        refine w_skip ?_
        refine thenQ_n ?_
        refine w_seq ?_
        refine w_reg_seq 896 960 rfl rfl ?_
        refine qp (AI 0) rfl ?_
        refine r_nil ?_
        refine w_block ?_
        refine w_ren (l' := [(0, AS v0), (3, AI 0)]) (L := []) [0, 3] [] 1 (by first | rfl | simp) (by first | rfl | simp) (by decide) (by decide) (by decide) ?_
        refine w_loopF (F_spec_l01Name_l0 v0) (fun s : Int => mkS [(0, AS v0), (3, AI s)] (fo []) 1) hF ?_
        rintro k1 v1011 hF
        rw [F_spec_l01Name_l0] at hF
        try dsimp only
        refine w_seq ?_
        refine w_reg_seq 1 257 rfl rfl ?_
        refine qp (AI v1011) rfl (qp (AS v0) rfl (qp (AI (v0.length : Int)) rfl (qp (AB (decide (v1011 < (v0.length : Int)))) rfl ?_)))
        refine r_nil ?_
        refine w_condF hF rfl (fun hF => ?_) (fun hF => ?_)
        ·
          refine w_skip ?_
          refine thenQ_n ?_
          refine w_seq ?_
          refine w_block ?_
          refine w_reg_seq 257 1025 rfl rfl ?_
          refine qp (AS v0) rfl (qp (AI v1011) rfl ?_)
          obtain ⟨v1012, e1012, hF⟩ := bind_get hF
          refine qp (.val none (.int .u8 (v1012.toNat : Int))) (ev_ixs rfl rfl e1012) ?_
          obtain ⟨v1013, e1013, hF⟩ := bind_get hF
          refine qc (AB v1013) [] false (con_spec_l01Small e1013) c116_ok (by first | rfl | simp) rfl ?_
          refine qp (AB (!v1013)) rfl (qp (AB (!v1013)) rfl ?_)
          refine q_case 28 hF rfl (fun hF => ?_) (fun hF => ?_)
          ·
            refine qg (AS v0) rfl rfl (qg (AI v1011) rfl rfl ?_)
            obtain ⟨v1014, e1014, hF⟩ := bind_get hF
            refine qg (.val none (.int .u8 (v1014.toNat : Int))) rfl (ev_ixs rfl rfl e1014) ?_
            obtain ⟨v1015, e1015, hF⟩ := bind_get hF
            refine qcg (AB v1015) [] false rfl (con_spec_l01Digit e1015) c117_ok (by first | rfl | simp) rfl ?_
            refine qg (AB (!v1015)) rfl rfl (qp (AB (!v1015)) rfl ?_)
            refine r_nil ?_
            refine w_condF hF rfl (fun hF => ?_) (fun hF => ?_)
            ·
              refine w_reg_seq 1025 1089 rfl rfl ?_
              refine qp (AB false) rfl ?_
              refine r_nil ?_
              refine w_ret ?_
              refine blockQ_r ?_
              refine thenQ_r ?_
              refine thenQ_r ?_
              refine blockQ_r ?_
              refine thenQ_r ?_
              cases hF
              exact endQ_r rfl (.inl ⟨_, _, by first | rfl | (simp [List.take_of_length_le]; first | exact ⟨rfl, rfl⟩ | rfl), by simp, by first | rfl | simp [res_spec_l01Name, List.take_of_length_le]⟩)
            ·
              refine w_skip ?_
              refine blockQ_n ?_
              refine thenQ_n ?_
              refine w_reg 1025 1217 rfl rfl ?_
              refine qp (AI v1011) rfl (qp (AI (w64 (v1011 + 1))) rfl (qp (AI (w64 (v1011 + 1))) rfl ?_))
              refine r_nil ?_
              refine thenQ_n ?_
              refine aw_ren (l' := [(0, AS v0), (3, AI (w64 (v1011 + 1)))]) (L := []) [0, 3] [] 1 (by first | rfl | simp) (by first | rfl | simp) (by decide) (by decide) (by decide) ⟨_, by rfl, hF⟩
          ·
            refine qn rfl (qn rfl (qn rfl (qn rfl (qn rfl (qp (AB false) rfl ?_)))))
            refine r_nil ?_
            refine w_false rfl ?_
            refine w_skip ?_
            refine blockQ_n ?_
            refine thenQ_n ?_
            refine w_reg 1025 1217 rfl rfl ?_
            refine qp (AI v1011) rfl (qp (AI (w64 (v1011 + 1))) rfl (qp (AI (w64 (v1011 + 1))) rfl ?_))
            refine r_nil ?_
            refine thenQ_n ?_
            refine aw_ren (l' := [(0, AS v0), (3, AI (w64 (v1011 + 1)))]) (L := []) [0, 3] [] 1 (by first | rfl | simp) (by first | rfl | simp) (by decide) (by decide) (by decide) ⟨_, by rfl, hF⟩
        ·
          refine w_exit ?_
          refine thenQ_e ?_
          refine thenQ_e ?_
          refine blockQ_e ?_
          refine thenQ_n ?_
          refine w_reg_seq 257 321 rfl rfl ?_
          refine qp (AB true) rfl ?_
          refine r_nil ?_
          refine w_ret ?_
          cases hF
          exact endQ_r rfl (.inl ⟨_, _, by first | rfl | (simp [List.take_of_length_le]; first | exact ⟨rfl, rfl⟩ | rfl), by simp, by first | rfl | simp [res_spec_l01Name, List.take_of_length_le]⟩)

def c85 : MC := (.seq (.reg [⟨(some 2), none, (.p true (.mv (.c (.bool false))))⟩]) (.seq (.seq (.reg [⟨(some 3), none, (.p true (.mv (.c (.int .i64 0))))⟩]) (.block 0 (.loop (.seq (.seq (.reg [⟨(some 4), none, (.p true (.mv (.t 3)))⟩, ⟨(some 5), none, (.p true (.mv (.t 0)))⟩, ⟨(some 6), none, (.p true (.nck (.t 5)))⟩, ⟨(some 7), none, (.p true (.fad (.t 6) 2))⟩, ⟨(some 8), none, (.p true (.ld (.t 7) 1 false))⟩, ⟨(some 9), none, (.p true (.lens (.t 8)))⟩, ⟨(some 10), none, (.p true (.bin .lss (.t 4) (.t 9)))⟩]) (.cond (.t 10) .skip (.exit 0))) (.seq (.block 1 (.seq (.reg [⟨(some 13), none, (.p true (.mv (.t 0)))⟩, ⟨(some 14), none, (.p true (.nck (.t 13)))⟩, ⟨(some 15), none, (.p true (.fad (.t 14) 2))⟩, ⟨(some 16), none, (.p true (.ld (.t 15) 1 false))⟩, ⟨(some 17), none, (.p true (.mv (.t 3)))⟩, ⟨(some 18), none, (.p true (.ixs (.t 16) (.t 17)))⟩, ⟨(some 19), none, (.p true (.bin .eql (.t 18) (.c (.int .u8 10))))⟩]) (.cond (.t 19) (.seq (.reg [⟨(some 2), none, (.p true (.mv (.c (.bool false))))⟩]) .ret) .skip))) (.reg [⟨(some 11), none, (.p true (.mv (.t 3)))⟩, ⟨(some 12), none, (.p true (.bin .add (.t 11) (.c (.int .i64 1))))⟩, ⟨(some 3), none, (.p true (.mv (.t 12)))⟩])))))) (.seq (.reg [⟨(some 20), none, (.p true (.mv (.t 0)))⟩, ⟨(some 21), none, (.p true (.nck (.t 20)))⟩, ⟨(some 22), none, (.p true (.fad (.t 21) 0))⟩, ⟨(some 23), none, (.p true (.ld (.t 22) 1 false))⟩, ⟨(some 24), none, (.call true 93 [(.t 23)])⟩, ⟨(some 25), none, (.p true (.mv (.t 24)))⟩, ⟨(some 26), (some (25, true)), (.p true (.mv (.t 0)))⟩, ⟨(some 27), (some (25, true)), (.p true (.nck (.t 26)))⟩, ⟨(some 28), (some (25, true)), (.p true (.fad (.t 27) 1))⟩, ⟨(some 29), (some (25, true)), (.p true (.ld (.t 28) 1 false))⟩, ⟨(some 30), (some (25, true)), (.call true 93 [(.t 29)])⟩, ⟨(some 31), none, (.p true (.pick (.t 25) (.t 30) (.c (.bool false))))⟩, ⟨(some 32), none, (.p true (.mv (.t 31)))⟩, ⟨(some 33), (some (32, true)), (.p true (.mv (.t 0)))⟩, ⟨(some 34), (some (32, true)), (.p true (.nck (.t 33)))⟩, ⟨(some 35), (some (32, true)), (.p true (.fad (.t 34) 2))⟩, ⟨(some 36), (some (32, true)), (.p true (.ld (.t 35) 1 false))⟩, ⟨(some 37), (some (32, true)), (.p true (.lens (.t 36)))⟩, ⟨(some 38), (some (32, true)), (.p true (.bin .leq (.t 37) (.c (.int .i64 400))))⟩, ⟨(some 39), none, (.p true (.pick (.t 32) (.t 38) (.c (.bool false))))⟩, ⟨(some 2), none, (.p true (.mv (.t 39)))⟩]) .ret)))
theorem c85_is : compFn Try.prog 85 = some (c85, [(.tmp 2)]) := by kernel_rfl
theorem c85_ok : okFn Try.prog 85 = true := by kernel_rfl

def F_spec_l29One_l0 (v0 : TBlock) (k0 : Int → Option (Bool)) : Int → Option (Bool)
  | v4 => (bif (decide (v4 < (v0.2.2.length : Int))) then ((ix v0.2.2 v4).bind fun v1000 => (bif (decide ((v1000.toNat : Int) = (10 : Int))) then some false
  else k0 (w64 (v4 + 1))))
  else ((F_spec_l01Name v0.1).bind fun v1001 => (bif v1001 then ((F_spec_l01Name v0.2.1).bind fun v1002 => (bif v1002 then some (decide ((v0.2.2.length : Int) ≤ (400 : Int)))
  else some false))
  else some false)))
def F_spec_l29One (v0 : TBlock) : Option (Bool) :=
  loop (F_spec_l29One_l0 v0) 0
@[simp] def res_spec_l29One (r : Bool) : RV := .one (.one (.val (.bool r)))
theorem con_spec_l29One {v0 : TBlock} {r : Bool} (hF : F_spec_l29One v0 = some r) : Con Try.prog 85 [.ptr [.str v0.1, .str v0.2.1, .str v0.2.2]] (res_spec_l29One r) := by
  unfold F_spec_l29One at hF
  refine con_of c85_is fun N => ?_
  refine w_reg_seq 0 64 rfl rfl ?_
  refine qp (AB false) rfl ?_
  refine r_nil ?_
  refine w_seq ?_
  refine w_reg_seq 64 128 rfl rfl ?_
  refine qp (AI 0) rfl ?_
  refine r_nil ?_
  refine w_block ?_
  refine w_ren (l' := [(0, .val none (.ptr [.str v0.1, .str v0.2.1, .str v0.2.2])), (3, AI 0)]) (L := []) [0, 3] [] 1 (by first | rfl | simp) (by first | rfl | simp) (by decide) (by decide) (by decide) ?_
  refine w_loopF (F_spec_l29One_l0 v0) (fun s : Int => mkS [(0, .val none (.ptr [.str v0.1, .str v0.2.1, .str v0.2.2])), (3, AI s)] (fo []) 1) hF ?_
  rintro k0 v4 hF
  rw [F_spec_l29One_l0] at hF
  try dsimp only
  refine w_seq ?_
  refine w_reg_seq 1 449 rfl rfl ?_
  refine qp (AI v4) rfl (qp (.val none (.ptr [.str v0.1, .str v0.2.1, .str v0.2.2])) rfl (qp (.val none (.ptr [.str v0.1, .str v0.2.1, .str v0.2.2])) rfl (qp (.val none (.ptr [.str v0.2.2])) rfl (qp (AS v0.2.2) rfl (qp (AI (v0.2.2.length : Int)) rfl (qp (AB (decide (v4 < (v0.2.2.length : Int)))) rfl ?_))))))
  refine r_nil ?_
  refine w_condF hF rfl (fun hF => ?_) (fun hF => ?_)
  ·
    refine w_skip ?_
    refine thenQ_n ?_
    refine w_seq ?_
    refine w_block ?_
    refine w_reg_seq 449 897 rfl rfl ?_
    refine qp (.val none (.ptr [.str v0.1, .str v0.2.1, .str v0.2.2])) rfl (qp (.val none (.ptr [.str v0.1, .str v0.2.1, .str v0.2.2])) rfl (qp (.val none (.ptr [.str v0.2.2])) rfl (qp (AS v0.2.2) rfl (qp (AI v4) rfl ?_))))
    obtain ⟨v1000, e1000, hF⟩ := bind_get hF
    refine qp (.val none (.int .u8 (v1000.toNat : Int))) (ev_ixs rfl rfl e1000) (qp (AB (decide ((v1000.toNat : Int) = (10 : Int)))) rfl ?_)
    refine r_nil ?_
    refine w_condF hF rfl (fun hF => ?_) (fun hF => ?_)
    ·
      refine w_reg_seq 897 961 rfl rfl ?_
      refine qp (AB false) rfl ?_
      refine r_nil ?_
      refine w_ret ?_
      refine blockQ_r ?_
      refine thenQ_r ?_
      refine thenQ_r ?_
      refine blockQ_r ?_
      refine thenQ_r ?_
      cases hF
      exact endQ_r rfl (.inl ⟨_, _, by first | rfl | (simp [List.take_of_length_le]; first | exact ⟨rfl, rfl⟩ | rfl), by simp, by first | rfl | simp [res_spec_l29One, List.take_of_length_le]⟩)
    ·
      refine w_skip ?_
      refine blockQ_n ?_
      refine thenQ_n ?_
      refine w_reg 897 1089 rfl rfl ?_
      refine qp (AI v4) rfl (qp (AI (w64 (v4 + 1))) rfl (qp (AI (w64 (v4 + 1))) rfl ?_))
      refine r_nil ?_
      refine thenQ_n ?_
      refine aw_ren (l' := [(0, .val none (.ptr [.str v0.1, .str v0.2.1, .str v0.2.2])), (3, AI (w64 (v4 + 1)))]) (L := []) [0, 3] [] 1 (by first | rfl | simp) (by first | rfl | simp) (by decide) (by decide) (by decide) ⟨_, by rfl, hF⟩
  ·
    refine w_exit ?_
    refine thenQ_e ?_
    refine thenQ_e ?_
    refine blockQ_e ?_
    refine thenQ_n ?_
    refine w_reg_seq 449 1793 rfl rfl ?_
    refine qp (.val none (.ptr [.str v0.1, .str v0.2.1, .str v0.2.2])) rfl (qp (.val none (.ptr [.str v0.1, .str v0.2.1, .str v0.2.2])) rfl (qp (.val none (.ptr [.str v0.1, .str v0.2.1, .str v0.2.2])) rfl (qp (AS v0.1) rfl ?_)))
    obtain ⟨v1001, e1001, hF⟩ := bind_get hF
    refine qc (AB v1001) [] false (con_spec_l01Name e1001) c93_ok (by first | rfl | simp) rfl ?_
    refine qp (AB v1001) rfl ?_
    refine q_case 25 hF rfl (fun hF => ?_) (fun hF => ?_)
    ·
      refine qg (.val none (.ptr [.str v0.1, .str v0.2.1, .str v0.2.2])) rfl rfl (qg (.val none (.ptr [.str v0.1, .str v0.2.1, .str v0.2.2])) rfl rfl (qg (.val none (.ptr [.str v0.2.1, .str v0.2.2])) rfl rfl (qg (AS v0.2.1) rfl rfl ?_)))
      obtain ⟨v1002, e1002, hF⟩ := bind_get hF
      refine qcg (AB v1002) [] false rfl (con_spec_l01Name e1002) c93_ok (by first | rfl | simp) rfl ?_
      refine qp (AB v1002) rfl (qp (AB v1002) rfl ?_)
      refine q_case 32 hF rfl (fun hF => ?_) (fun hF => ?_)
      ·
        refine qg (.val none (.ptr [.str v0.1, .str v0.2.1, .str v0.2.2])) rfl rfl (qg (.val none (.ptr [.str v0.1, .str v0.2.1, .str v0.2.2])) rfl rfl (qg (.val none (.ptr [.str v0.2.2])) rfl rfl (qg (AS v0.2.2) rfl rfl (qg (AI (v0.2.2.length : Int)) rfl rfl (qg (AB (decide ((v0.2.2.length : Int) ≤ (400 : Int)))) rfl rfl (qp (AB (decide ((v0.2.2.length : Int) ≤ (400 : Int)))) rfl (qp (AB (decide ((v0.2.2.length : Int) ≤ (400 : Int)))) rfl ?_)))))))
        refine r_nil ?_
        refine w_ret ?_
        cases hF
        exact endQ_r rfl (.inl ⟨_, _, by first | rfl | (simp [List.take_of_length_le]; first | exact ⟨rfl, rfl⟩ | rfl), by simp, by first | rfl | simp [res_spec_l29One, List.take_of_length_le]⟩)
      ·
        refine qn rfl (qn rfl (qn rfl (qn rfl (qn rfl (qn rfl (qp (AB false) rfl (qp (AB false) rfl ?_)))))))
        refine r_nil ?_
        refine w_ret ?_
        cases hF
        exact endQ_r rfl (.inl ⟨_, _, by first | rfl | (simp [List.take_of_length_le]; first | exact ⟨rfl, rfl⟩ | rfl), by simp, by first | rfl | simp [res_spec_l29One, List.take_of_length_le]⟩)
    ·
      refine qn rfl (qn rfl (qn rfl (qn rfl (qn rfl (qp (AB false) rfl (qp (AB false) rfl (qn rfl ?_)))))))
      refine qn rfl (qn rfl (qn rfl (qn rfl (qn rfl (qp (AB false) rfl (qp (AB false) rfl ?_))))))
      refine r_nil ?_
      refine w_ret ?_
      cases hF
      exact endQ_r rfl (.inl ⟨_, _, by first | rfl | (simp [List.take_of_length_le]; first | exact ⟨rfl, rfl⟩ | rfl), by simp, by first | rfl | simp [res_spec_l29One, List.take_of_length_le]⟩)

def c99 : MC := (.seq (.reg [⟨(some 4), none, (.p true (.mv (.c (.bool false))))⟩]) (.seq (.reg [⟨(some 5), none, (.p false (.mv (.t 0)))⟩, ⟨(some 6), none, (.p false (.nck (.t 5)))⟩, ⟨(some 7), none, (.p false (.fad (.t 6) 0))⟩, ⟨(some 8), none, (.p false (.ld (.t 7) 1 false))⟩, ⟨(some 9), none, (.p false (.mv (.t 1)))⟩, ⟨(some 10), none, (.p false (.nck (.t 9)))⟩, ⟨(some 11), none, (.p false (.fad (.t 10) 0))⟩, ⟨(some 12), none, (.p false (.ld (.t 11) 1 false))⟩, ⟨(some 13), none, (.p false (.bin .lss (.t 8) (.t 12)))⟩, ⟨(some 14), none, (.p false (.mv (.t 13)))⟩, ⟨(some 15), (some (14, false)), (.p false (.mv (.t 0)))⟩, ⟨(some 16), (some (14, false)), (.p false (.nck (.t 15)))⟩, ⟨(some 17), (some (14, false)), (.p false (.fad (.t 16) 0))⟩, ⟨(some 18), (some (14, false)), (.p false (.ld (.t 17) 1 false))⟩, ⟨(some 19), (some (14, false)), (.p false (.mv (.t 1)))⟩, ⟨(some 20), (some (14, false)), (.p false (.nck (.t 19)))⟩, ⟨(some 21), (some (14, false)), (.p false (.fad (.t 20) 0))⟩, ⟨(some 22), (some (14, false)), (.p false (.ld (.t 21) 1 false))⟩, ⟨(some 23), (some (14, false)), (.p false (.bin .eql (.t 18) (.t 22)))⟩, ⟨(some 24), (some (14, false)), (.p false (.mv (.t 23)))⟩, ⟨(some 25), (some (24, true)), (.p false (.mv (.t 0)))⟩, ⟨(some 26), (some (24, true)), (.p false (.nck (.t 25)))⟩, ⟨(some 27), (some (24, true)), (.p false (.fad (.t 26) 1))⟩, ⟨(some 28), (some (24, true)), (.p false (.ld (.t 27) 1 false))⟩, ⟨(some 29), (some (24, true)), (.p false (.mv (.t 1)))⟩, ⟨(some 30), (some (24, true)), (.p false (.nck (.t 29)))⟩, ⟨(some 31), (some (24, true)), (.p false (.fad (.t 30) 1))⟩, ⟨(some 32), (some (24, true)), (.p false (.ld (.t 31) 1 false))⟩, ⟨(some 33), (some (24, true)), (.p false (.bin .lss (.t 28) (.t 32)))⟩, ⟨(some 34), (some (14, false)), (.p false (.pick (.t 24) (.t 33) (.c (.bool false))))⟩, ⟨(some 35), none, (.p false (.pick (.t 14) (.c (.bool true)) (.t 34)))⟩, ⟨(some 4), none, (.p false (.mv (.t 35)))⟩]) .ret))
theorem c99_is : compFn Try.prog 99 = some (c99, [(.tmp 4)]) := by kernel_rfl
theorem c99_ok : okFn Try.prog 99 = true := by kernel_rfl

def F_spec_l29Before (v0 : TBlock) (v1 : TBlock) : Option (Bool) :=
  (bif (Op.bytesLess v0.1 v1.1) then some true
  else (bif (decide (v0.1 = v1.1)) then some (Op.bytesLess v0.2.1 v1.2.1)
  else some false))
@[simp] def res_spec_l29Before (r : Bool) : RV := .one (.one (.val (.bool r)))
theorem con_spec_l29Before {v0 : TBlock} {v1 : TBlock} {r : Bool} (hF : F_spec_l29Before v0 v1 = some r) : Con Try.prog 99 [.ptr [.str v0.1, .str v0.2.1, .str v0.2.2], .ptr [.str v1.1, .str v1.2.1, .str v1.2.2]] (res_spec_l29Before r) := by
  unfold F_spec_l29Before at hF
  refine con_of c99_is fun N => ?_
  refine w_reg_seq 0 64 rfl rfl ?_
  refine qp (AB false) rfl ?_
  refine r_nil ?_
  refine w_reg_seq 64 2112 rfl rfl ?_
  refine qp (.val none (.ptr [.str v0.1, .str v0.2.1, .str v0.2.2])) rfl (qp (.val none (.ptr [.str v0.1, .str v0.2.1, .str v0.2.2])) rfl (qp (.val none (.ptr [.str v0.1, .str v0.2.1, .str v0.2.2])) rfl (qp (AS v0.1) rfl (qp (.val none (.ptr [.str v1.1, .str v1.2.1, .str v1.2.2])) rfl (qp (.val none (.ptr [.str v1.1, .str v1.2.1, .str v1.2.2])) rfl (qp (.val none (.ptr [.str v1.1, .str v1.2.1, .str v1.2.2])) rfl (qp (AS v1.1) rfl ?_)))))))
  refine qp (AB (Op.bytesLess v0.1 v1.1)) rfl (qp (AB (Op.bytesLess v0.1 v1.1)) rfl ?_)
  refine q_case 14 hF rfl (fun hF => ?_) (fun hF => ?_)
  ·
    refine qn rfl (qn rfl (qn rfl (qn rfl (qn rfl (qn rfl (qn rfl (qn rfl ?_)))))))
    refine qn rfl (qn rfl (qu rfl (qu rfl (qu rfl (qu rfl (qu rfl (qu rfl ?_)))))))
    refine qu rfl (qu rfl (qu rfl (qn rfl (qp (AB true) rfl (qp (AB true) rfl ?_)))))
    refine r_nil ?_
    refine w_ret ?_
    cases hF
    exact endQ_r rfl (.inl ⟨_, _, by first | rfl | (simp [List.take_of_length_le]; first | exact ⟨rfl, rfl⟩ | rfl), by simp, by first | rfl | simp [res_spec_l29Before, List.take_of_length_le]⟩)
  ·
    refine qg (.val none (.ptr [.str v0.1, .str v0.2.1, .str v0.2.2])) rfl rfl (qg (.val none (.ptr [.str v0.1, .str v0.2.1, .str v0.2.2])) rfl rfl (qg (.val none (.ptr [.str v0.1, .str v0.2.1, .str v0.2.2])) rfl rfl (qg (AS v0.1) rfl rfl (qg (.val none (.ptr [.str v1.1, .str v1.2.1, .str v1.2.2])) rfl rfl (qg (.val none (.ptr [.str v1.1, .str v1.2.1, .str v1.2.2])) rfl rfl (qg (.val none (.ptr [.str v1.1, .str v1.2.1, .str v1.2.2])) rfl rfl (qg (AS v1.1) rfl rfl ?_)))))))
    refine qg (AB (decide (v0.1 = v1.1))) rfl rfl (qg (AB (decide (v0.1 = v1.1))) rfl rfl ?_)
    refine q_case 24 hF rfl (fun hF => ?_) (fun hF => ?_)
    ·
      refine qg (.val none (.ptr [.str v0.1, .str v0.2.1, .str v0.2.2])) rfl rfl (qg (.val none (.ptr [.str v0.1, .str v0.2.1, .str v0.2.2])) rfl rfl (qg (.val none (.ptr [.str v0.2.1, .str v0.2.2])) rfl rfl (qg (AS v0.2.1) rfl rfl (qg (.val none (.ptr [.str v1.1, .str v1.2.1, .str v1.2.2])) rfl rfl (qg (.val none (.ptr [.str v1.1, .str v1.2.1, .str v1.2.2])) rfl rfl (qg (.val none (.ptr [.str v1.2.1, .str v1.2.2])) rfl rfl (qg (AS v1.2.1) rfl rfl ?_)))))))
      refine qg (AB (Op.bytesLess v0.2.1 v1.2.1)) rfl rfl (qg (AB (Op.bytesLess v0.2.1 v1.2.1)) rfl rfl (qp (AB (Op.bytesLess v0.2.1 v1.2.1)) rfl (qp (AB (Op.bytesLess v0.2.1 v1.2.1)) rfl ?_)))
      refine r_nil ?_
      refine w_ret ?_
      cases hF
      exact endQ_r rfl (.inl ⟨_, _, by first | rfl | (simp [List.take_of_length_le]; first | exact ⟨rfl, rfl⟩ | rfl), by simp, by first | rfl | simp [res_spec_l29Before, List.take_of_length_le]⟩)
    ·
      refine qn rfl (qn rfl (qn rfl (qn rfl (qn rfl (qn rfl (qn rfl (qn rfl ?_)))))))
      refine qn rfl (qg (AB false) rfl rfl (qp (AB false) rfl (qp (AB false) rfl ?_)))
      refine r_nil ?_
      refine w_ret ?_
      cases hF
      exact endQ_r rfl (.inl ⟨_, _, by first | rfl | (simp [List.take_of_length_le]; first | exact ⟨rfl, rfl⟩ | rfl), by simp, by first | rfl | simp [res_spec_l29Before, List.take_of_length_le]⟩)

def c63 : MC := (.seq (.reg [⟨(some 2), none, (.p true (.mv (.c (.bool false))))⟩]) (.seq (.seq (.reg [⟨(some 3), none, (.p true (.mv (.c (.int .i64 0))))⟩]) (.block 0 (.loop (.seq (.seq (.reg [⟨(some 4), none, (.p true (.mv (.t 3)))⟩, ⟨(some 5), none, (.p true (.mv (.t 0)))⟩, ⟨(some 6), none, (.p true (.len (.t 5)))⟩, ⟨(some 7), none, (.p true (.bin .lss (.t 4) (.t 6)))⟩]) (.cond (.t 7) .skip (.exit 0))) (.seq (.block 1 (.seq (.reg [⟨(some 10), none, (.p false (.mv (.t 0)))⟩, ⟨(some 11), none, (.p false (.mv (.t 3)))⟩, ⟨(some 12), none, (.p false (.iad (.t 10) (.t 11) 3))⟩, ⟨(some 13), none, (.call false 85 [(.t 12)])⟩, ⟨(some 14), none, (.p false (.not (.t 13)))⟩, ⟨(some 15), none, (.p false (.mv (.t 14)))⟩, ⟨(some 16), (some (15, false)), (.p false (.mv (.t 3)))⟩, ⟨(some 17), (some (15, false)), (.p false (.bin .gtr (.t 16) (.c (.int .i64 0))))⟩, ⟨(some 18), (some (15, false)), (.p false (.mv (.t 17)))⟩, ⟨(some 19), (some (18, true)), (.p false (.mv (.t 0)))⟩, ⟨(some 20), (some (18, true)), (.p false (.mv (.t 3)))⟩, ⟨(some 21), (some (18, true)), (.p false (.bin .sub (.t 20) (.c (.int .i64 1))))⟩, ⟨(some 22), (some (18, true)), (.p false (.iad (.t 19) (.t 21) 3))⟩, ⟨(some 23), (some (18, true)), (.p false (.mv (.t 0)))⟩, ⟨(some 24), (some (18, true)), (.p false (.mv (.t 3)))⟩, ⟨(some 25), (some (18, true)), (.p false (.iad (.t 23) (.t 24) 3))⟩, ⟨(some 26), (some (18, true)), (.call false 99 [(.t 22), (.t 25)])⟩, ⟨(some 27), (some (18, true)), (.p false (.not (.t 26)))⟩, ⟨(some 28), (some (15, false)), (.p false (.pick (.t 18) (.t 27) (.c (.bool false))))⟩, ⟨(some 29), none, (.p false (.pick (.t 15) (.c (.bool true)) (.t 28)))⟩]) (.cond (.t 29) (.seq (.reg [⟨(some 2), none, (.p true (.mv (.c (.bool false))))⟩]) .ret) .skip))) (.reg [⟨(some 8), none, (.p true (.mv (.t 3)))⟩, ⟨(some 9), none, (.p true (.bin .add (.t 8) (.c (.int .i64 1))))⟩, ⟨(some 3), none, (.p true (.mv (.t 9)))⟩])))))) (.seq (.reg [⟨(some 30), none, (.p true (.mv (.t 0)))⟩, ⟨(some 31), none, (.p true (.len (.t 30)))⟩, ⟨(some 32), none, (.p true (.bin .leq (.t 31) (.c (.int .i64 32))))⟩, ⟨(some 2), none, (.p true (.mv (.t 32)))⟩]) .ret)))
theorem c63_is : compFn Try.prog 63 = some (c63, [(.tmp 2)]) := by kernel_rfl
theorem c63_ok : okFn Try.prog 63 = true := by kernel_rfl

def F_spec_l29Ok_l0 (v0 : List TBlock) (k0 : Int → Option (Bool)) : Int → Option (Bool)
  | v12 => (bif (decide (v12 < (v0.length : Int))) then ((ix v0 v12).bind fun v1000 => ((F_spec_l29One v1000).bind fun v1001 => (bif (!v1001) then some false
  else (bif (decide ((0 : Int) < v12)) then ((ix v0 (w64 (v12 - 1))).bind fun v1002 => ((ix v0 v12).bind fun v1003 => ((F_spec_l29Before v1002 v1003).bind fun v1004 => (bif (!v1004) then some false
  else k0 (w64 (v12 + 1))))))
  else k0 (w64 (v12 + 1))))))
  else some (decide ((v0.length : Int) ≤ (32 : Int))))
def F_spec_l29Ok (v0 : List TBlock) : Option (Bool) :=
  loop (F_spec_l29Ok_l0 v0) 0
@[simp] def res_spec_l29Ok (r : Bool) : RV := .one (.one (.val (.bool r)))
theorem con_spec_l29Ok {v0 : List TBlock} {r : Bool} (hF : F_spec_l29Ok v0 = some r) : Con Try.prog 63 [.sl 3 (v0.map eBlock)] (res_spec_l29Ok r) := by
  unfold F_spec_l29Ok at hF
  refine con_of c63_is fun N => ?_
  refine w_reg_seq 0 64 rfl rfl ?_
  refine qp (AB false) rfl ?_
  refine r_nil ?_
  refine w_seq ?_
  refine w_reg_seq 64 128 rfl rfl ?_
  refine qp (AI 0) rfl ?_
  refine r_nil ?_
  refine w_block ?_
  refine w_ren (l' := [(0, .val none (.sl 3 (v0.map eBlock))), (3, AI 0)]) (L := []) [0, 3] [] 1 (by first | rfl | simp) (by first | rfl | simp) (by decide) (by decide) (by decide) ?_
  refine w_loopF (F_spec_l29Ok_l0 v0) (fun s : Int => mkS [(0, .val none (.sl 3 (v0.map eBlock))), (3, AI s)] (fo []) 1) hF ?_
  rintro k0 v12 hF
  rw [F_spec_l29Ok_l0] at hF
  try dsimp only
  refine w_seq ?_
  refine w_reg_seq 1 257 rfl rfl ?_
  refine qp (AI v12) rfl (qp (.val none (.sl 3 (v0.map eBlock))) rfl (qp (AI (v0.length : Int)) (ev_len_n rfl) (qp (AB (decide (v12 < (v0.length : Int)))) rfl ?_)))
  refine r_nil ?_
  refine w_condF hF rfl (fun hF => ?_) (fun hF => ?_)
  ·
    refine w_skip ?_
    refine thenQ_n ?_
    refine w_seq ?_
    refine w_block ?_
    refine w_reg_seq 257 1537 rfl rfl ?_
    refine qp (.val none (.sl 3 (v0.map eBlock))) rfl (qp (AI v12) rfl ?_)
    obtain ⟨v1000, e1000, hF⟩ := bind_get hF
    refine qp (.val none (.ptr [.str v1000.1, .str v1000.2.1, .str v1000.2.2])) (ev_iad_n rfl rfl e1000 rfl) ?_
    obtain ⟨v1001, e1001, hF⟩ := bind_get hF
    refine qc (AB v1001) [] false (con_spec_l29One e1001) c85_ok (by first | rfl | simp) rfl ?_
    refine qp (AB (!v1001)) rfl (qp (AB (!v1001)) rfl ?_)
    refine q_case 15 hF rfl (fun hF => ?_) (fun hF => ?_)
    ·
      refine qn rfl (qn rfl (qn rfl (qu rfl (qu rfl (qu rfl (qu rfl (qu rfl ?_)))))))
      refine qu rfl (qu rfl (qu rfl (qu rfl (qn rfl (qp (AB true) rfl ?_)))))
      refine r_nil ?_
      refine w_true rfl ?_
      refine w_reg_seq 1537 1601 rfl rfl ?_
      refine qp (AB false) rfl ?_
      refine r_nil ?_
      refine w_ret ?_
      refine blockQ_r ?_
      refine thenQ_r ?_
      refine thenQ_r ?_
      refine blockQ_r ?_
      refine thenQ_r ?_
      cases hF
      exact endQ_r rfl (.inl ⟨_, _, by first | rfl | (simp [List.take_of_length_le]; first | exact ⟨rfl, rfl⟩ | rfl), by simp, by first | rfl | simp [res_spec_l29Ok, List.take_of_length_le]⟩)
    ·
      refine qg (AI v12) rfl rfl (qg (AB (decide ((0 : Int) < v12))) rfl rfl (qg (AB (decide ((0 : Int) < v12))) rfl rfl ?_))
      refine q_case 18 hF rfl (fun hF => ?_) (fun hF => ?_)
      ·
        refine qg (.val none (.sl 3 (v0.map eBlock))) rfl rfl (qg (AI v12) rfl rfl (qg (AI (w64 (v12 - 1))) rfl rfl ?_))
        obtain ⟨v1002, e1002, hF⟩ := bind_get hF
        refine qg (.val none (.ptr [.str v1002.1, .str v1002.2.1, .str v1002.2.2])) rfl (ev_iad_n rfl rfl e1002 rfl) (qg (.val none (.sl 3 (v0.map eBlock))) rfl rfl (qg (AI v12) rfl rfl ?_))
        obtain ⟨v1003, e1003, hF⟩ := bind_get hF
        refine qg (.val none (.ptr [.str v1003.1, .str v1003.2.1, .str v1003.2.2])) rfl (ev_iad_n rfl rfl e1003 rfl) ?_
        obtain ⟨v1004, e1004, hF⟩ := bind_get hF
        refine qcg (AB v1004) [] false rfl (con_spec_l29Before e1004) c99_ok (by first | rfl | simp) rfl ?_
        refine qg (AB (!v1004)) rfl rfl (qg (AB (!v1004)) rfl rfl (qp (AB (!v1004)) rfl ?_))
        refine r_nil ?_
        refine w_condF hF rfl (fun hF => ?_) (fun hF => ?_)
        ·
          refine w_reg_seq 1537 1601 rfl rfl ?_
          refine qp (AB false) rfl ?_
          refine r_nil ?_
          refine w_ret ?_
          refine blockQ_r ?_
          refine thenQ_r ?_
          refine thenQ_r ?_
          refine blockQ_r ?_
          refine thenQ_r ?_
          cases hF
          exact endQ_r rfl (.inl ⟨_, _, by first | rfl | (simp [List.take_of_length_le]; first | exact ⟨rfl, rfl⟩ | rfl), by simp, by first | rfl | simp [res_spec_l29Ok, List.take_of_length_le]⟩)
        ·
          refine w_skip ?_
          refine blockQ_n ?_
          refine thenQ_n ?_
          refine w_reg 1537 1729 rfl rfl ?_
          refine qp (AI v12) rfl (qp (AI (w64 (v12 + 1))) rfl (qp (AI (w64 (v12 + 1))) rfl ?_))
          refine r_nil ?_
          refine thenQ_n ?_
          refine aw_ren (l' := [(0, .val none (.sl 3 (v0.map eBlock))), (3, AI (w64 (v12 + 1)))]) (L := []) [0, 3] [] 1 (by first | rfl | simp) (by first | rfl | simp) (by decide) (by decide) (by decide) ⟨_, by rfl, hF⟩
      ·
        refine qn rfl (qn rfl (qn rfl (qn rfl (qn rfl (qn rfl (qn rfl (qn rfl ?_)))))))
        refine qn rfl (qg (AB false) rfl rfl (qp (AB false) rfl ?_))
        refine r_nil ?_
        refine w_false rfl ?_
        refine w_skip ?_
        refine blockQ_n ?_
        refine thenQ_n ?_
        refine w_reg 1537 1729 rfl rfl ?_
        refine qp (AI v12) rfl (qp (AI (w64 (v12 + 1))) rfl (qp (AI (w64 (v12 + 1))) rfl ?_))
        refine r_nil ?_
        refine thenQ_n ?_
        refine aw_ren (l' := [(0, .val none (.sl 3 (v0.map eBlock))), (3, AI (w64 (v12 + 1)))]) (L := []) [0, 3] [] 1 (by first | rfl | simp) (by first | rfl | simp) (by decide) (by decide) (by decide) ⟨_, by rfl, hF⟩
  ·
    refine w_exit ?_
    refine thenQ_e ?_
    refine thenQ_e ?_
    refine blockQ_e ?_
    refine thenQ_n ?_
    refine w_reg_seq 257 513 rfl rfl ?_
    refine qp (.val none (.sl 3 (v0.map eBlock))) rfl (qp (AI (v0.length : Int)) (ev_len_n rfl) (qp (AB (decide ((v0.length : Int) ≤ (32 : Int)))) rfl (qp (AB (decide ((v0.length : Int) ≤ (32 : Int)))) rfl ?_)))
    refine r_nil ?_
    refine w_ret ?_
    cases hF
    exact endQ_r rfl (.inl ⟨_, _, by first | rfl | (simp [List.take_of_length_le]; first | exact ⟨rfl, rfl⟩ | rfl), by simp, by first | rfl | simp [res_spec_l29Ok, List.take_of_length_le]⟩)

def c64 : MC := (.seq (.reg [⟨(some 6), none, (.p true (.mv (.c (.int .i64 0))))⟩]) (.seq (.seq (.reg [⟨(some 7), none, (.p true (.mv (.c (.int .i64 0))))⟩]) (.block 0 (.loop (.seq (.seq (.reg [⟨(some 8), none, (.p true (.mv (.t 7)))⟩, ⟨(some 9), none, (.p true (.mv (.t 0)))⟩, ⟨(some 10), none, (.p true (.len (.t 9)))⟩, ⟨(some 11), none, (.p true (.bin .lss (.t 8) (.t 10)))⟩]) (.cond (.t 11) .skip (.exit 0))) (.seq (.block 1 (.seq (.reg [⟨(some 14), none, (.p true (.mv (.t 0)))⟩, ⟨(some 15), none, (.p true (.mv (.t 7)))⟩, ⟨(some 16), none, (.p true (.iad (.t 14) (.t 15) 3))⟩, ⟨(some 17), none, (.p true (.fad (.t 16) 0))⟩, ⟨(some 18), none, (.p true (.ld (.t 17) 1 false))⟩, ⟨(some 19), none, (.p true (.mv (.t 1)))⟩, ⟨(some 20), none, (.p true (.bin .eql (.t 18) (.t 19)))⟩, ⟨(some 21), none, (.p true (.mv (.t 20)))⟩, ⟨(some 22), (some (21, true)), (.p true (.mv (.t 0)))⟩, ⟨(some 23), (some (21, true)), (.p true (.mv (.t 7)))⟩, ⟨(some 24), (some (21, true)), (.p true (.iad (.t 22) (.t 23) 3))⟩, ⟨(some 25), (some (21, true)), (.p true (.fad (.t 24) 1))⟩, ⟨(some 26), (some (21, true)), (.p true (.ld (.t 25) 1 false))⟩, ⟨(some 27), (some (21, true)), (.p true (.mv (.t 2)))⟩, ⟨(some 28), (some (21, true)), (.p true (.bin .eql (.t 26) (.t 27)))⟩, ⟨(some 29), none, (.p true (.pick (.t 21) (.t 28) (.c (.bool false))))⟩]) (.cond (.t 29) (.seq (.reg [⟨(some 30), none, (.p true (.mv (.t 7)))⟩, ⟨(some 6), none, (.p true (.mv (.t 30)))⟩]) .ret) .skip))) (.reg [⟨(some 12), none, (.p true (.mv (.t 7)))⟩, ⟨(some 13), none, (.p true (.bin .add (.t 12) (.c (.int .i64 1))))⟩, ⟨(some 7), none, (.p true (.mv (.t 13)))⟩])))))) (.seq (.reg [⟨(some 6), none, (.p true (.mv (.c (.int .i64 (-1)))))⟩]) .ret)))
theorem c64_is : compFn Try.prog 64 = some (c64, [(.tmp 6)]) := by kernel_rfl
theorem c64_ok : okFn Try.prog 64 = true := by kernel_rfl

def F_spec_l29Find_l0 (v0 : List TBlock) (v1 : List UInt8) (v2 : List UInt8) (k0 : Int → Option (Int)) : Int → Option (Int)
  | v8 => (bif (decide (v8 < (v0.length : Int))) then ((ix v0 v8).bind fun v1000 => (bif (decide (v1000.1 = v1)) then ((ix v0 v8).bind fun v1001 => (bif (decide (v1001.2.1 = v2)) then some v8
  else k0 (w64 (v8 + 1))))
  else k0 (w64 (v8 + 1))))
  else some (-1))
def F_spec_l29Find (v0 : List TBlock) (v1 : List UInt8) (v2 : List UInt8) : Option (Int) :=
  loop (F_spec_l29Find_l0 v0 v1 v2) 0
@[simp] def res_spec_l29Find (r : Int) : RV := .one (.one (.val (.int .i64 r)))
theorem con_spec_l29Find {v0 : List TBlock} {v1 : List UInt8} {v2 : List UInt8} {r : Int} (hF : F_spec_l29Find v0 v1 v2 = some r) : Con Try.prog 64 [.sl 3 (v0.map eBlock), .str v1, .str v2] (res_spec_l29Find r) := by
  unfold F_spec_l29Find at hF
  refine con_of c64_is fun N => ?_
  refine w_reg_seq 0 64 rfl rfl ?_
  refine qp (AI 0) rfl ?_
  refine r_nil ?_
  refine w_seq ?_
  refine w_reg_seq 64 128 rfl rfl ?_
  refine qp (AI 0) rfl ?_
  refine r_nil ?_
  refine w_block ?_
  refine w_ren (l' := [(0, .val none (.sl 3 (v0.map eBlock))), (1, AS v1), (2, AS v2), (7, AI 0)]) (L := []) [0, 1, 2, 7] [] 1 (by first | rfl | simp) (by first | rfl | simp) (by decide) (by decide) (by decide) ?_
  refine w_loopF (F_spec_l29Find_l0 v0 v1 v2) (fun s : Int => mkS [(0, .val none (.sl 3 (v0.map eBlock))), (1, AS v1), (2, AS v2), (7, AI s)] (fo []) 1) hF ?_
  rintro k0 v8 hF
  rw [F_spec_l29Find_l0] at hF
  try dsimp only
  refine w_seq ?_
  refine w_reg_seq 1 257 rfl rfl ?_
  refine qp (AI v8) rfl (qp (.val none (.sl 3 (v0.map eBlock))) rfl (qp (AI (v0.length : Int)) (ev_len_n rfl) (qp (AB (decide (v8 < (v0.length : Int)))) rfl ?_)))
  refine r_nil ?_
  refine w_condF hF rfl (fun hF => ?_) (fun hF => ?_)
  ·
    refine w_skip ?_
    refine thenQ_n ?_
    refine w_seq ?_
    refine w_block ?_
    refine w_reg_seq 257 1281 rfl rfl ?_
    refine qp (.val none (.sl 3 (v0.map eBlock))) rfl (qp (AI v8) rfl ?_)
    obtain ⟨v1000, e1000, hF⟩ := bind_get hF
    refine qp (.val none (.ptr [.str v1000.1, .str v1000.2.1, .str v1000.2.2])) (ev_iad_n rfl rfl e1000 rfl) (qp (.val none (.ptr [.str v1000.1, .str v1000.2.1, .str v1000.2.2])) rfl (qp (AS v1000.1) rfl (qp (AS v1) rfl (qp (AB (decide (v1000.1 = v1))) rfl (qp (AB (decide (v1000.1 = v1))) rfl ?_)))))
    refine q_case 21 hF rfl (fun hF => ?_) (fun hF => ?_)
    ·
      refine qg (.val none (.sl 3 (v0.map eBlock))) rfl rfl (qg (AI v8) rfl rfl ?_)
      obtain ⟨v1001, e1001, hF⟩ := bind_get hF
      refine qg (.val none (.ptr [.str v1001.1, .str v1001.2.1, .str v1001.2.2])) rfl (ev_iad_n rfl rfl e1001 rfl) (qg (.val none (.ptr [.str v1001.2.1, .str v1001.2.2])) rfl rfl (qg (AS v1001.2.1) rfl rfl (qg (AS v2) rfl rfl (qg (AB (decide (v1001.2.1 = v2))) rfl rfl (qp (AB (decide (v1001.2.1 = v2))) rfl ?_)))))
      refine r_nil ?_
      refine w_condF hF rfl (fun hF => ?_) (fun hF => ?_)
      ·
        refine w_reg_seq 1281 1409 rfl rfl ?_
        refine qp (AI v8) rfl (qp (AI v8) rfl ?_)
        refine r_nil ?_
        refine w_ret ?_
        refine blockQ_r ?_
        refine thenQ_r ?_
        refine thenQ_r ?_
        refine blockQ_r ?_
        refine thenQ_r ?_
        cases hF
        exact endQ_r rfl (.inl ⟨_, _, by first | rfl | (simp [List.take_of_length_le]; first | exact ⟨rfl, rfl⟩ | rfl), by simp, by first | rfl | simp [res_spec_l29Find, List.take_of_length_le]⟩)
      ·
        refine w_skip ?_
        refine blockQ_n ?_
        refine thenQ_n ?_
        refine w_reg 1281 1473 rfl rfl ?_
        refine qp (AI v8) rfl (qp (AI (w64 (v8 + 1))) rfl (qp (AI (w64 (v8 + 1))) rfl ?_))
        refine r_nil ?_
        refine thenQ_n ?_
        refine aw_ren (l' := [(0, .val none (.sl 3 (v0.map eBlock))), (1, AS v1), (2, AS v2), (7, AI (w64 (v8 + 1)))]) (L := []) [0, 1, 2, 7] [] 1 (by first | rfl | simp) (by first | rfl | simp) (by decide) (by decide) (by decide) ⟨_, by rfl, hF⟩
    ·
      refine qn rfl (qn rfl (qn rfl (qn rfl (qn rfl (qn rfl (qn rfl (qp (AB false) rfl ?_)))))))
      refine r_nil ?_
      refine w_false rfl ?_
      refine w_skip ?_
      refine blockQ_n ?_
      refine thenQ_n ?_
      refine w_reg 1281 1473 rfl rfl ?_
      refine qp (AI v8) rfl (qp (AI (w64 (v8 + 1))) rfl (qp (AI (w64 (v8 + 1))) rfl ?_))
      refine r_nil ?_
      refine thenQ_n ?_
      refine aw_ren (l' := [(0, .val none (.sl 3 (v0.map eBlock))), (1, AS v1), (2, AS v2), (7, AI (w64 (v8 + 1)))]) (L := []) [0, 1, 2, 7] [] 1 (by first | rfl | simp) (by first | rfl | simp) (by decide) (by decide) (by decide) ⟨_, by rfl, hF⟩
  ·
    refine w_exit ?_
    refine thenQ_e ?_
    refine thenQ_e ?_
    refine blockQ_e ?_
    refine thenQ_n ?_
    refine w_reg_seq 257 321 rfl rfl ?_
    refine qp (AI (-1)) rfl ?_
    refine r_nil ?_
    refine w_ret ?_
    cases hF
    exact endQ_r rfl (.inl ⟨_, _, by first | rfl | (simp [List.take_of_length_le]; first | exact ⟨rfl, rfl⟩ | rfl), by simp, by first | rfl | simp [res_spec_l29Find, List.take_of_length_le]⟩)

def c24 : MC := (.seq (.reg [⟨(some 6), none, (.p true (.mv (.c (.str []))))⟩, ⟨(some 7), none, (.p true (.mv (.c (.int .i64 0))))⟩]) (.seq (.seq (.reg [⟨(some 9), none, (.p true (.mv (.t 0)))⟩, ⟨(some 10), none, (.call true 63 [(.t 9)])⟩, ⟨(some 11), none, (.p true (.not (.t 10)))⟩]) (.cond (.t 11) (.seq (.reg [⟨(some 6), none, (.p true (.mv (.c (.str []))))⟩, ⟨(some 7), none, (.p true (.mv (.c (.int .i64 1))))⟩]) .ret) .skip)) (.seq (.reg [⟨(some 12), none, (.p true (.mv (.t 0)))⟩, ⟨(some 13), none, (.p true (.mv (.t 1)))⟩, ⟨(some 14), none, (.p true (.mv (.t 2)))⟩, ⟨(some 15), none, (.call true 64 [(.t 12), (.t 13), (.t 14)])⟩, ⟨(some 8), none, (.p true (.mv (.t 15)))⟩]) (.seq (.seq (.reg [⟨(some 16), none, (.p true (.mv (.t 8)))⟩, ⟨(some 17), none, (.p true (.bin .lss (.t 16) (.c (.int .i64 0))))⟩]) (.cond (.t 17) (.seq (.reg [⟨(some 6), none, (.p true (.mv (.c (.str []))))⟩, ⟨(some 7), none, (.p true (.mv (.c (.int .i64 3))))⟩]) .ret) .skip)) (.seq (.reg [⟨(some 18), none, (.p true (.mv (.t 0)))⟩, ⟨(some 19), none, (.p true (.mv (.t 8)))⟩, ⟨(some 20), none, (.p true (.iad (.t 18) (.t 19) 3))⟩, ⟨(some 21), none, (.p true (.fad (.t 20) 2))⟩, ⟨(some 22), none, (.p true (.ld (.t 21) 1 false))⟩, ⟨(some 6), none, (.p true (.mv (.t 22)))⟩, ⟨(some 7), none, (.p true (.mv (.c (.int .i64 0))))⟩]) .ret)))))
theorem c24_is : compFn Try.prog 24 = some (c24, [(.tmp 6), (.tmp 7)]) := by kernel_rfl
theorem c24_ok : okFn Try.prog 24 = true := by kernel_rfl

def F_spec_BlockNamed (v0 : List TBlock) (v1 : List UInt8) (v2 : List UInt8) : Option ((List UInt8) × Int) :=
  ((F_spec_l29Ok v0).bind fun v1000 => (bif (!v1000) then some ([], 1)
  else ((F_spec_l29Find v0 v1 v2).bind fun v1001 => (bif (decide (v1001 < (0 : Int))) then some ([], 3)
  else ((ix v0 v1001).bind fun v1002 => some (v1002.2.2, 0))))))
@[simp] def res_spec_BlockNamed (r : (List UInt8) × Int) : RV := .tup [.one (.val (.str r.1)), .one (.val (.int .i64 r.2))]
theorem con_spec_BlockNamed {v0 : List TBlock} {v1 : List UInt8} {v2 : List UInt8} {r : (List UInt8) × Int} (hF : F_spec_BlockNamed v0 v1 v2 = some r) : Con Try.prog 24 [.sl 3 (v0.map eBlock), .str v1, .str v2] (res_spec_BlockNamed r) := by
  unfold F_spec_BlockNamed at hF
  refine con_of c24_is fun N => ?_
  refine w_reg_seq 0 128 rfl rfl ?_
  refine qp (AS []) rfl (qp (AI 0) rfl ?_)
  refine r_nil ?_
  refine w_seq ?_
  refine w_reg_seq 128 320 rfl rfl ?_
  refine qp (.val none (.sl 3 (v0.map eBlock))) rfl ?_
  obtain ⟨v1000, e1000, hF⟩ := bind_get hF
  refine qc (AB v1000) [] false (con_spec_l29Ok e1000) c63_ok (by first | rfl | simp) rfl ?_
  refine qp (AB (!v1000)) rfl ?_
  refine r_nil ?_
  refine w_condF hF rfl (fun hF => ?_) (fun hF => ?_)
  ·
    refine w_reg_seq 320 448 rfl rfl ?_
    refine qp (AS []) rfl (qp (AI 1) rfl ?_)
    refine r_nil ?_
    refine w_ret ?_
    refine thenQ_r ?_
    cases hF
    exact endQ_r rfl (.inl ⟨_, _, by first | rfl | (simp [List.take_of_length_le]; first | exact ⟨rfl, rfl⟩ | rfl), by simp, by first | rfl | simp [res_spec_BlockNamed, List.take_of_length_le]⟩)
  ·
    refine w_skip ?_
    refine thenQ_n ?_
    refine w_reg_seq 320 640 rfl rfl ?_
    refine qp (.val none (.sl 3 (v0.map eBlock))) rfl (qp (AS v1) rfl (qp (AS v2) rfl ?_))
    obtain ⟨v1001, e1001, hF⟩ := bind_get hF
    refine qc (AI v1001) [] false (con_spec_l29Find e1001) c64_ok (by first | rfl | simp) rfl ?_
    refine qp (AI v1001) rfl ?_
    refine r_nil ?_
    refine w_seq ?_
    refine w_reg_seq 640 768 rfl rfl ?_
    refine qp (AI v1001) rfl (qp (AB (decide (v1001 < (0 : Int)))) rfl ?_)
    refine r_nil ?_
    refine w_condF hF rfl (fun hF => ?_) (fun hF => ?_)
    ·
      refine w_reg_seq 768 896 rfl rfl ?_
      refine qp (AS []) rfl (qp (AI 3) rfl ?_)
      refine r_nil ?_
      refine w_ret ?_
      refine thenQ_r ?_
      cases hF
      exact endQ_r rfl (.inl ⟨_, _, by first | rfl | (simp [List.take_of_length_le]; first | exact ⟨rfl, rfl⟩ | rfl), by simp, by first | rfl | simp [res_spec_BlockNamed, List.take_of_length_le]⟩)
    ·
      refine w_skip ?_
      refine thenQ_n ?_
      refine w_reg_seq 768 1216 rfl rfl ?_
      refine qp (.val none (.sl 3 (v0.map eBlock))) rfl (qp (AI v1001) rfl ?_)
      obtain ⟨v1002, e1002, hF⟩ := bind_get hF
      refine qp (.val none (.ptr [.str v1002.1, .str v1002.2.1, .str v1002.2.2])) (ev_iad_n rfl rfl e1002 rfl) (qp (.val none (.ptr [.str v1002.2.2])) rfl (qp (AS v1002.2.2) rfl (qp (AS v1002.2.2) rfl (qp (AI 0) rfl ?_))))
      refine r_nil ?_
      refine w_ret ?_
      cases hF
      exact endQ_r rfl (.inl ⟨_, _, by first | rfl | (simp [List.take_of_length_le]; first | exact ⟨rfl, rfl⟩ | rfl), by simp, by first | rfl | simp [res_spec_BlockNamed, List.take_of_length_le]⟩)

def c118 : MC := (.seq (.reg [⟨(some 2), none, (.p true (.mv (.c (.bool false))))⟩]) (.seq (.seq (.reg [⟨(some 5), none, (.p true (.mv (.t 0)))⟩, ⟨(some 6), none, (.p true (.lens (.t 5)))⟩, ⟨(some 7), none, (.p true (.mv (.c (.int .i64 0))))⟩]) (.block 0 (.loop (.seq (.reg [⟨(some 8), none, (.p true (.bin .lss (.t 7) (.t 6)))⟩]) (.seq (.cond (.t 8) .skip (.exit 0)) (.seq (.block 1 (.seq (.reg [⟨(some 9), none, (.p true (.mv (.t 7)))⟩, ⟨(some 3), none, (.p true (.mv (.t 9)))⟩]) (.seq (.reg [⟨(some 10), none, (.p true (.mv (.t 0)))⟩, ⟨(some 11), none, (.p true (.mv (.t 3)))⟩, ⟨(some 12), none, (.p true (.ixs (.t 10) (.t 11)))⟩, ⟨(some 4), none, (.p true (.mv (.t 12)))⟩]) (.seq (.reg [⟨(some 13), none, (.p true (.mv (.t 4)))⟩, ⟨(some 14), none, (.p true (.bin .lss (.t 13) (.c (.int .u8 97))))⟩, ⟨(some 15), none, (.p true (.mv (.t 14)))⟩, ⟨(some 16), (some (15, false)), (.p true (.mv (.t 4)))⟩, ⟨(some 17), (some (15, false)), (.p true (.bin .gtr (.t 16) (.c (.int .u8 122))))⟩, ⟨(some 18), none, (.p true (.pick (.t 15) (.c (.bool true)) (.t 17)))⟩, ⟨(some 19), none, (.p true (.mv (.t 18)))⟩, ⟨(some 20), (some (19, true)), (.p true (.mv (.t 4)))⟩, ⟨(some 21), (some (19, true)), (.p true (.bin .lss (.t 20) (.c (.int .u8 48))))⟩, ⟨(some 22), (some (19, true)), (.p true (.mv (.t 21)))⟩, ⟨(some 23), (some (22, false)), (.p true (.mv (.t 4)))⟩, ⟨(some 24), (some (22, false)), (.p true (.bin .gtr (.t 23) (.c (.int .u8 57))))⟩, ⟨(some 25), (some (19, true)), (.p true (.pick (.t 22) (.c (.bool true)) (.t 24)))⟩, ⟨(some 26), none, (.p true (.pick (.t 19) (.t 25) (.c (.bool false))))⟩]) (.cond (.t 26) (.seq (.reg [⟨(some 2), none, (.p true (.mv (.c (.bool false))))⟩]) .ret) .skip))))) (.reg [⟨(some 27), none, (.p true (.bin .add (.t 7) (.c (.int .i64 1))))⟩, ⟨(some 7), none, (.p true (.mv (.t 27)))⟩]))))))) (.seq (.reg [⟨(some 2), none, (.p true (.mv (.c (.bool true))))⟩]) .ret)))
theorem c118_is : compFn Try.prog 118 = some (c118, [(.tmp 2)]) := by kernel_rfl
theorem c118_ok : okFn Try.prog 118 = true := by kernel_rfl

def F_impl_onlyNameBytes_l0 (v0 : List UInt8) (k0 : Int → Option (Bool)) : Int → Option (Bool)
  | v4 => (bif (decide (v4 < (v0.length : Int))) then ((ix v0 v4).bind fun v1000 => (bif (decide ((v1000.toNat : Int) < (97 : Int))) then (bif (decide ((v1000.toNat : Int) < (48 : Int))) then some false
  else (bif (decide ((57 : Int) < (v1000.toNat : Int))) then some false
  else k0 (w64 (v4 + 1))))
  else (bif (decide ((122 : Int) < (v1000.toNat : Int))) then (bif (decide ((v1000.toNat : Int) < (48 : Int))) then some false
  else (bif (decide ((57 : Int) < (v1000.toNat : Int))) then some false
  else k0 (w64 (v4 + 1))))
  else k0 (w64 (v4 + 1)))))
  else some true)
def F_impl_onlyNameBytes (v0 : List UInt8) : Option (Bool) :=
  loop (F_impl_onlyNameBytes_l0 v0) 0
@[simp] def res_impl_onlyNameBytes (r : Bool) : RV := .one (.one (.val (.bool r)))
theorem con_impl_onlyNameBytes {v0 : List UInt8} {r : Bool} (hF : F_impl_onlyNameBytes v0 = some r) : Con Try.prog 118 [.str v0] (res_impl_onlyNameBytes r) := by
  unfold F_impl_onlyNameBytes at hF
  refine con_of c118_is fun N => ?_
  refine w_reg_seq 0 64 rfl rfl ?_
  refine qp (AB false) rfl ?_
  refine r_nil ?_
  refine w_seq ?_
  refine w_reg_seq 64 256 rfl rfl ?_
  refine qp (AS v0) rfl (qp (AI (v0.length : Int)) rfl (qp (AI 0) rfl ?_))
  refine r_nil ?_
  refine w_block ?_
  refine w_ren (l' := [(0, AS v0), (6, AI (v0.length : Int)), (7, AI 0)]) (L := []) [0, 6, 7] [] 1 (by first | rfl | simp) (by first | rfl | simp) (by decide) (by decide) (by decide) ?_
  refine w_loopF (F_impl_onlyNameBytes_l0 v0) (fun s : Int => mkS [(0, AS v0), (6, AI (v0.length : Int)), (7, AI s)] (fo []) 1) hF ?_
  rintro k0 v4 hF
  rw [F_impl_onlyNameBytes_l0] at hF
  try dsimp only
  refine w_reg_seq 1 65 rfl rfl ?_
  refine qp (AB (decide (v4 < (v0.length : Int)))) rfl ?_
  refine r_nil ?_
  refine w_seq ?_
  refine w_condF hF rfl (fun hF => ?_) (fun hF => ?_)
  ·
    refine w_skip ?_
    refine thenQ_n ?_
    refine w_seq ?_
    refine w_block ?_
    refine w_reg_seq 65 193 rfl rfl ?_
    refine qp (AI v4) rfl (qp (AI v4) rfl ?_)
    refine r_nil ?_
    refine w_reg_seq 193 449 rfl rfl ?_
    refine qp (AS v0) rfl (qp (AI v4) rfl ?_)
    obtain ⟨v1000, e1000, hF⟩ := bind_get hF
    refine qp (.val none (.int .u8 (v1000.toNat : Int))) (ev_ixs rfl rfl e1000) (qp (.val none (.int .u8 (v1000.toNat : Int))) rfl ?_)
    refine r_nil ?_
    refine w_reg_seq 449 1345 rfl rfl ?_
    refine qp (.val none (.int .u8 (v1000.toNat : Int))) rfl (qp (AB (decide ((v1000.toNat : Int) < (97 : Int)))) rfl (qp (AB (decide ((v1000.toNat : Int) < (97 : Int)))) rfl ?_))
    refine q_case 15 hF rfl (fun hF => ?_) (fun hF => ?_)
    ·
      refine qn rfl (qn rfl (qp (AB true) rfl (qp (AB true) rfl (qg (.val none (.int .u8 (v1000.toNat : Int))) rfl rfl (qg (AB (decide ((v1000.toNat : Int) < (48 : Int)))) rfl rfl (qg (AB (decide ((v1000.toNat : Int) < (48 : Int)))) rfl rfl ?_))))))
      refine q_case 22 hF rfl (fun hF => ?_) (fun hF => ?_)
      ·
        refine qn rfl (qn rfl (qg (AB true) rfl rfl (qp (AB true) rfl ?_)))
        refine r_nil ?_
        refine w_true rfl ?_
        refine w_reg_seq 1345 1409 rfl rfl ?_
        refine qp (AB false) rfl ?_
        refine r_nil ?_
        refine w_ret ?_
        refine blockQ_r ?_
        refine thenQ_r ?_
        refine thenQ_r ?_
        refine blockQ_r ?_
        refine thenQ_r ?_
        cases hF
        exact endQ_r rfl (.inl ⟨_, _, by first | rfl | (simp [List.take_of_length_le]; first | exact ⟨rfl, rfl⟩ | rfl), by simp, by first | rfl | simp [res_impl_onlyNameBytes, List.take_of_length_le]⟩)
      ·
        refine qg (.val none (.int .u8 (v1000.toNat : Int))) rfl rfl (qg (AB (decide ((57 : Int) < (v1000.toNat : Int)))) rfl rfl (qg (AB (decide ((57 : Int) < (v1000.toNat : Int)))) rfl rfl (qp (AB (decide ((57 : Int) < (v1000.toNat : Int)))) rfl ?_)))
        refine r_nil ?_
        refine w_condF hF rfl (fun hF => ?_) (fun hF => ?_)
        ·
          refine w_reg_seq 1345 1409 rfl rfl ?_
          refine qp (AB false) rfl ?_
          refine r_nil ?_
          refine w_ret ?_
          refine blockQ_r ?_
          refine thenQ_r ?_
          refine thenQ_r ?_
          refine blockQ_r ?_
          refine thenQ_r ?_
          cases hF
          exact endQ_r rfl (.inl ⟨_, _, by first | rfl | (simp [List.take_of_length_le]; first | exact ⟨rfl, rfl⟩ | rfl), by simp, by first | rfl | simp [res_impl_onlyNameBytes, List.take_of_length_le]⟩)
        ·
          refine w_skip ?_
          refine blockQ_n ?_
          refine thenQ_n ?_
          refine w_reg 1345 1473 rfl rfl ?_
          refine qp (AI (w64 (v4 + 1))) rfl (qp (AI (w64 (v4 + 1))) rfl ?_)
          refine r_nil ?_
          refine thenQ_n ?_
          refine aw_ren (l' := [(0, AS v0), (6, AI (v0.length : Int)), (7, AI (w64 (v4 + 1)))]) (L := []) [0, 6, 7] [] 1 (by first | rfl | simp) (by first | rfl | simp) (by decide) (by decide) (by decide) ⟨_, by rfl, hF⟩
    ·
      refine qg (.val none (.int .u8 (v1000.toNat : Int))) rfl rfl (qg (AB (decide ((122 : Int) < (v1000.toNat : Int)))) rfl rfl (qp (AB (decide ((122 : Int) < (v1000.toNat : Int)))) rfl (qp (AB (decide ((122 : Int) < (v1000.toNat : Int)))) rfl ?_)))
      refine q_case 19 hF rfl (fun hF => ?_) (fun hF => ?_)
      ·
        refine qg (.val none (.int .u8 (v1000.toNat : Int))) rfl rfl (qg (AB (decide ((v1000.toNat : Int) < (48 : Int)))) rfl rfl (qg (AB (decide ((v1000.toNat : Int) < (48 : Int)))) rfl rfl ?_))
        refine q_case 22 hF rfl (fun hF => ?_) (fun hF => ?_)
        ·
          refine qn rfl (qn rfl (qg (AB true) rfl rfl (qp (AB true) rfl ?_)))
          refine r_nil ?_
          refine w_true rfl ?_
          refine w_reg_seq 1345 1409 rfl rfl ?_
          refine qp (AB false) rfl ?_
          refine r_nil ?_
          refine w_ret ?_
          refine blockQ_r ?_
          refine thenQ_r ?_
          refine thenQ_r ?_
          refine blockQ_r ?_
          refine thenQ_r ?_
          cases hF
          exact endQ_r rfl (.inl ⟨_, _, by first | rfl | (simp [List.take_of_length_le]; first | exact ⟨rfl, rfl⟩ | rfl), by simp, by first | rfl | simp [res_impl_onlyNameBytes, List.take_of_length_le]⟩)
        ·
          refine qg (.val none (.int .u8 (v1000.toNat : Int))) rfl rfl (qg (AB (decide ((57 : Int) < (v1000.toNat : Int)))) rfl rfl (qg (AB (decide ((57 : Int) < (v1000.toNat : Int)))) rfl rfl (qp (AB (decide ((57 : Int) < (v1000.toNat : Int)))) rfl ?_)))
          refine r_nil ?_
          refine w_condF hF rfl (fun hF => ?_) (fun hF => ?_)
          ·
            refine w_reg_seq 1345 1409 rfl rfl ?_
            refine qp (AB false) rfl ?_
            refine r_nil ?_
            refine w_ret ?_
            refine blockQ_r ?_
            refine thenQ_r ?_
            refine thenQ_r ?_
            refine blockQ_r ?_
            refine thenQ_r ?_
            cases hF
            exact endQ_r rfl (.inl ⟨_, _, by first | rfl | (simp [List.take_of_length_le]; first | exact ⟨rfl, rfl⟩ | rfl), by simp, by first | rfl | simp [res_impl_onlyNameBytes, List.take_of_length_le]⟩)
          ·
            refine w_skip ?_
            refine blockQ_n ?_
            refine thenQ_n ?_
            refine w_reg 1345 1473 rfl rfl ?_
            refine qp (AI (w64 (v4 + 1))) rfl (qp (AI (w64 (v4 + 1))) rfl ?_)
            refine r_nil ?_
            refine thenQ_n ?_
            refine aw_ren (l' := [(0, AS v0), (6, AI (v0.length : Int)), (7, AI (w64 (v4 + 1)))]) (L := []) [0, 6, 7] [] 1 (by first | rfl | simp) (by first | rfl | simp) (by decide) (by decide) (by decide) ⟨_, by rfl, hF⟩
      ·
        refine qn rfl (qn rfl (qn rfl (qu rfl (qu rfl (qn rfl (qp (AB false) rfl ?_))))))
        refine r_nil ?_
        refine w_false rfl ?_
        refine w_skip ?_
        refine blockQ_n ?_
        refine thenQ_n ?_
        refine w_reg 1345 1473 rfl rfl ?_
        refine qp (AI (w64 (v4 + 1))) rfl (qp (AI (w64 (v4 + 1))) rfl ?_)
        refine r_nil ?_
        refine thenQ_n ?_
        refine aw_ren (l' := [(0, AS v0), (6, AI (v0.length : Int)), (7, AI (w64 (v4 + 1)))]) (L := []) [0, 6, 7] [] 1 (by first | rfl | simp) (by first | rfl | simp) (by decide) (by decide) (by decide) ⟨_, by rfl, hF⟩
  ·
    refine w_exit ?_
    refine thenQ_e ?_
    refine thenQ_e ?_
    refine blockQ_e ?_
    refine thenQ_n ?_
    refine w_reg_seq 65 129 rfl rfl ?_
    refine qp (AB true) rfl ?_
    refine r_nil ?_
    refine w_ret ?_
    cases hF
    exact endQ_r rfl (.inl ⟨_, _, by first | rfl | (simp [List.take_of_length_le]; first | exact ⟨rfl, rfl⟩ | rfl), by simp, by first | rfl | simp [res_impl_onlyNameBytes, List.take_of_length_le]⟩)

def c95 : MC := (.seq (.reg [⟨(some 2), none, (.p true (.mv (.c (.bool false))))⟩]) (.seq (.seq (.reg [⟨(some 3), none, (.p true (.mv (.t 0)))⟩, ⟨(some 4), none, (.p true (.lens (.t 3)))⟩, ⟨(some 5), none, (.p true (.bin .lss (.t 4) (.c (.int .i64 1))))⟩, ⟨(some 6), none, (.p true (.mv (.t 5)))⟩, ⟨(some 7), (some (6, false)), (.p true (.mv (.t 0)))⟩, ⟨(some 8), (some (6, false)), (.p true (.lens (.t 7)))⟩, ⟨(some 9), (some (6, false)), (.p true (.bin .gtr (.t 8) (.c (.int .i64 10))))⟩, ⟨(some 10), none, (.p true (.pick (.t 6) (.c (.bool true)) (.t 9)))⟩, ⟨(some 11), none, (.p true (.mv (.t 10)))⟩, ⟨(some 12), (some (11, false)), (.p true (.mv (.t 0)))⟩, ⟨(some 13), (some (11, false)), (.p true (.ixs (.t 12) (.c (.int .i64 0))))⟩, ⟨(some 14), (some (11, false)), (.p true (.bin .lss (.t 13) (.c (.int .u8 97))))⟩, ⟨(some 15), none, (.p true (.pick (.t 11) (.c (.bool true)) (.t 14)))⟩, ⟨(some 16), none, (.p true (.mv (.t 15)))⟩, ⟨(some 17), (some (16, false)), (.p true (.mv (.t 0)))⟩, ⟨(some 18), (some (16, false)), (.p true (.ixs (.t 17) (.c (.int .i64 0))))⟩, ⟨(some 19), (some (16, false)), (.p true (.bin .gtr (.t 18) (.c (.int .u8 122))))⟩, ⟨(some 20), none, (.p true (.pick (.t 16) (.c (.bool true)) (.t 19)))⟩]) (.cond (.t 20) (.seq (.reg [⟨(some 2), none, (.p true (.mv (.c (.bool false))))⟩]) .ret) .skip)) (.seq (.reg [⟨(some 21), none, (.p true (.mv (.t 0)))⟩, ⟨(some 22), none, (.call true 118 [(.t 21)])⟩, ⟨(some 2), none, (.p true (.mv (.t 22)))⟩]) .ret)))
theorem c95_is : compFn Try.prog 95 = some (c95, [(.tmp 2)]) := by kernel_rfl
theorem c95_ok : okFn Try.prog 95 = true := by kernel_rfl

def F_impl_IsName (v0 : List UInt8) : Option (Bool) :=
  (bif (decide ((v0.length : Int) < (1 : Int))) then some false
  else (bif (decide ((10 : Int) < (v0.length : Int))) then some false
  else ((ix v0 0).bind fun v1000 => (bif (decide ((v1000.toNat : Int) < (97 : Int))) then some false
  else ((ix v0 0).bind fun v1001 => (bif (decide ((122 : Int) < (v1001.toNat : Int))) then some false
  else ((F_impl_onlyNameBytes v0).bind fun v1002 => some v1002)))))))
@[simp] def res_impl_IsName (r : Bool) : RV := .one (.one (.val (.bool r)))
theorem con_impl_IsName {v0 : List UInt8} {r : Bool} (hF : F_impl_IsName v0 = some r) : Con Try.prog 95 [.str v0] (res_impl_IsName r) := by
  unfold F_impl_IsName at hF
  refine con_of c95_is fun N => ?_
  refine w_reg_seq 0 64 rfl rfl ?_
  refine qp (AB false) rfl ?_
  refine r_nil ?_
  refine w_seq ?_
  refine w_reg_seq 64 1216 rfl rfl ?_
  refine qp (AS v0) rfl (qp (AI (v0.length : Int)) rfl (qp (AB (decide ((v0.length : Int) < (1 : Int)))) rfl (qp (AB (decide ((v0.length : Int) < (1 : Int)))) rfl ?_)))
  refine q_case 6 hF rfl (fun hF => ?_) (fun hF => ?_)
  ·
    refine qn rfl (qn rfl (qn rfl (qp (AB true) rfl (qp (AB true) rfl (qn rfl (qn rfl (qn rfl ?_)))))))
    refine qp (AB true) rfl (qp (AB true) rfl (qn rfl (qn rfl (qn rfl (qp (AB true) rfl ?_)))))
    refine r_nil ?_
    refine w_true rfl ?_
    refine w_reg_seq 1216 1280 rfl rfl ?_
    refine qp (AB false) rfl ?_
    refine r_nil ?_
    refine w_ret ?_
    refine thenQ_r ?_
    cases hF
    exact endQ_r rfl (.inl ⟨_, _, by first | rfl | (simp [List.take_of_length_le]; first | exact ⟨rfl, rfl⟩ | rfl), by simp, by first | rfl | simp [res_impl_IsName, List.take_of_length_le]⟩)
  ·
    refine qg (AS v0) rfl rfl (qg (AI (v0.length : Int)) rfl rfl (qg (AB (decide ((10 : Int) < (v0.length : Int)))) rfl rfl (qp (AB (decide ((10 : Int) < (v0.length : Int)))) rfl (qp (AB (decide ((10 : Int) < (v0.length : Int)))) rfl ?_))))
    refine q_case 11 hF rfl (fun hF => ?_) (fun hF => ?_)
    ·
      refine qn rfl (qn rfl (qn rfl (qp (AB true) rfl (qp (AB true) rfl (qn rfl (qn rfl (qn rfl ?_)))))))
      refine qp (AB true) rfl ?_
      refine r_nil ?_
      refine w_true rfl ?_
      refine w_reg_seq 1216 1280 rfl rfl ?_
      refine qp (AB false) rfl ?_
      refine r_nil ?_
      refine w_ret ?_
      refine thenQ_r ?_
      cases hF
      exact endQ_r rfl (.inl ⟨_, _, by first | rfl | (simp [List.take_of_length_le]; first | exact ⟨rfl, rfl⟩ | rfl), by simp, by first | rfl | simp [res_impl_IsName, List.take_of_length_le]⟩)
    ·
      refine qg (AS v0) rfl rfl ?_
      obtain ⟨v1000, e1000, hF⟩ := bind_get hF
      refine qg (.val none (.int .u8 (v1000.toNat : Int))) rfl (ev_ixs rfl rfl e1000) (qg (AB (decide ((v1000.toNat : Int) < (97 : Int)))) rfl rfl (qp (AB (decide ((v1000.toNat : Int) < (97 : Int)))) rfl (qp (AB (decide ((v1000.toNat : Int) < (97 : Int)))) rfl ?_)))
      refine q_case 16 hF rfl (fun hF => ?_) (fun hF => ?_)
      ·
        refine qn rfl (qn rfl (qn rfl (qp (AB true) rfl ?_)))
        refine r_nil ?_
        refine w_true rfl ?_
        refine w_reg_seq 1216 1280 rfl rfl ?_
        refine qp (AB false) rfl ?_
        refine r_nil ?_
        refine w_ret ?_
        refine thenQ_r ?_
        cases hF
        exact endQ_r rfl (.inl ⟨_, _, by first | rfl | (simp [List.take_of_length_le]; first | exact ⟨rfl, rfl⟩ | rfl), by simp, by first | rfl | simp [res_impl_IsName, List.take_of_length_le]⟩)
      ·
        refine qg (AS v0) rfl rfl ?_
        obtain ⟨v1001, e1001, hF⟩ := bind_get hF
        refine qg (.val none (.int .u8 (v1001.toNat : Int))) rfl (ev_ixs rfl rfl e1001) (qg (AB (decide ((122 : Int) < (v1001.toNat : Int)))) rfl rfl (qp (AB (decide ((122 : Int) < (v1001.toNat : Int)))) rfl ?_))
        refine r_nil ?_
        refine w_condF hF rfl (fun hF => ?_) (fun hF => ?_)
        ·
          refine w_reg_seq 1216 1280 rfl rfl ?_
          refine qp (AB false) rfl ?_
          refine r_nil ?_
          refine w_ret ?_
          refine thenQ_r ?_
          cases hF
          exact endQ_r rfl (.inl ⟨_, _, by first | rfl | (simp [List.take_of_length_le]; first | exact ⟨rfl, rfl⟩ | rfl), by simp, by first | rfl | simp [res_impl_IsName, List.take_of_length_le]⟩)
        ·
          refine w_skip ?_
          refine thenQ_n ?_
          refine w_reg_seq 1216 1408 rfl rfl ?_
          refine qp (AS v0) rfl ?_
          obtain ⟨v1002, e1002, hF⟩ := bind_get hF
          refine qc (AB v1002) [] false (con_impl_onlyNameBytes e1002) c118_ok (by first | rfl | simp) rfl ?_
          refine qp (AB v1002) rfl ?_
          refine r_nil ?_
          refine w_ret ?_
          cases hF
          exact endQ_r rfl (.inl ⟨_, _, by first | rfl | (simp [List.take_of_length_le]; first | exact ⟨rfl, rfl⟩ | rfl), by simp, by first | rfl | simp [res_impl_IsName, List.take_of_length_le]⟩)

theorem c155_x : IsIdx Try.prog 155 := ⟨by kernel_rfl, by kernel_rfl, by kernel_rfl, by kernel_rfl⟩




def c144 : MC := (.seq (.reg [⟨(some 4), none, (.p true (.mv (.c (.int .i64 0))))⟩]) (.seq (.reg [⟨(some 5), none, (.p true (.mv (.t 0)))⟩, ⟨(some 6), none, (.p true (.mv (.t 1)))⟩, ⟨(some 7), none, (.call true 155 [(.t 5), (.t 6)])⟩, ⟨(some 4), none, (.p true (.mv (.t 7)))⟩]) .ret))
theorem c144_is : compFn Try.prog 144 = some (c144, [(.tmp 4)]) := by kernel_rfl
theorem c144_ok : okFn Try.prog 144 = true := by kernel_rfl

def F_stringslite_IndexByte (v0 : List UInt8) (v1 : Int) : Option (Int) :=
  some (byteIdx v0 (v1).toNat.toUInt8)
@[simp] def res_stringslite_IndexByte (r : Int) : RV := .one (.one (.val (.int .i64 r)))
theorem con_stringslite_IndexByte {v0 : List UInt8} {v1 : Int} {r : Int} (hF : F_stringslite_IndexByte v0 v1 = some r) : Con Try.prog 144 [.str v0, .int .u8 v1] (res_stringslite_IndexByte r) := by
  unfold F_stringslite_IndexByte at hF
  refine con_of c144_is fun N => ?_
  refine w_reg_seq 0 64 rfl rfl ?_
  refine qp (AI 0) rfl ?_
  refine r_nil ?_
  refine w_reg_seq 64 320 rfl rfl ?_
  refine qp (AS v0) rfl (qp (.val none (.int .u8 v1)) rfl ?_)
  refine qx (s := v0) (c := v1) c155_x (by first | rfl | simp) ?_
  refine qp (AI (byteIdx v0 (v1).toNat.toUInt8)) rfl ?_
  refine r_nil ?_
  refine w_ret ?_
  cases hF
  exact endQ_r rfl (.inl ⟨_, _, by first | rfl | (simp [List.take_of_length_le]; first | exact ⟨rfl, rfl⟩ | rfl), by simp, by first | rfl | simp [res_stringslite_IndexByte, List.take_of_length_le]⟩)

def c130 : MC := (.seq (.reg [⟨(some 4), none, (.p true (.mv (.c (.int .i64 0))))⟩]) (.seq (.reg [⟨(some 14), none, (.p true (.mv (.t 1)))⟩, ⟨(some 15), none, (.p true (.lens (.t 14)))⟩, ⟨(some 5), none, (.p true (.mv (.t 15)))⟩]) (.seq (.block 0 (.seq (.reg [⟨(some 17), none, (.p true (.mv (.t 5)))⟩, ⟨(some 18), none, (.p true (.bin .eql (.t 17) (.c (.int .i64 0))))⟩, ⟨(some 19), none, (.p true (.mv (.t 18)))⟩, ⟨(some 20), (some (19, false)), (.p true (.mv (.t 1)))⟩, ⟨(some 21), (some (19, false)), (.p true (.mv (.t 0)))⟩, ⟨(some 22), (some (19, false)), (.p true (.bin .eql (.t 20) (.t 21)))⟩, ⟨(some 23), none, (.p true (.pick (.t 19) (.c (.bool true)) (.t 22)))⟩, ⟨(some 16), none, (.p true (.mv (.t 23)))⟩]) (.cond (.t 16) (.seq (.reg [⟨(some 4), none, (.p true (.mv (.c (.int .i64 0))))⟩]) .ret) (.seq (.reg [⟨(some 25), none, (.p true (.mv (.t 5)))⟩, ⟨(some 26), none, (.p true (.bin .eql (.t 25) (.c (.int .i64 1))))⟩, ⟨(some 24), none, (.p true (.mv (.t 26)))⟩]) (.cond (.t 24) (.seq (.reg [⟨(some 27), none, (.p true (.mv (.t 0)))⟩, ⟨(some 28), none, (.p true (.mv (.t 1)))⟩, ⟨(some 29), none, (.p true (.ixs (.t 28) (.c (.int .i64 0))))⟩, ⟨(some 30), none, (.call true 144 [(.t 27), (.t 29)])⟩, ⟨(some 4), none, (.p true (.mv (.t 30)))⟩]) .ret) (.seq (.reg [⟨(some 32), none, (.p true (.mv (.t 5)))⟩, ⟨(some 33), none, (.p true (.mv (.t 0)))⟩, ⟨(some 34), none, (.p true (.lens (.t 33)))⟩, ⟨(some 35), none, (.p true (.bin .geq (.t 32) (.t 34)))⟩, ⟨(some 31), none, (.p true (.mv (.t 35)))⟩]) (.cond (.t 31) (.seq (.reg [⟨(some 4), none, (.p true (.mv (.c (.int .i64 (-1)))))⟩]) .ret) (.seq .bad (.cond (.t 36) (.seq (.reg [⟨(some 45), none, (.p true (.mv (.t 0)))⟩, ⟨(some 46), none, (.p true (.mv (.t 1)))⟩, ⟨(some 47), none, (.call true 145 [(.t 45), (.t 46)])⟩, ⟨(some 4), none, (.p true (.mv (.t 47)))⟩]) .ret) .skip))))))))) (.seq (.reg [⟨(some 48), none, (.p true (.mv (.t 1)))⟩, ⟨(some 49), none, (.p true (.ixs (.t 48) (.c (.int .i64 0))))⟩, ⟨(some 6), none, (.p true (.mv (.t 49)))⟩]) (.seq (.reg [⟨(some 50), none, (.p true (.mv (.t 1)))⟩, ⟨(some 51), none, (.p true (.ixs (.t 50) (.c (.int .i64 1))))⟩, ⟨(some 7), none, (.p true (.mv (.t 51)))⟩]) (.seq (.reg [⟨(some 8), none, (.p true (.mv (.c (.int .i64 0))))⟩]) (.seq (.reg [⟨(some 52), none, (.p true (.mv (.t 0)))⟩, ⟨(some 53), none, (.p true (.lens (.t 52)))⟩, ⟨(some 54), none, (.p true (.mv (.t 5)))⟩, ⟨(some 55), none, (.p true (.bin .sub (.t 53) (.t 54)))⟩, ⟨(some 56), none, (.p true (.bin .add (.t 55) (.c (.int .i64 1))))⟩, ⟨(some 9), none, (.p true (.mv (.t 56)))⟩]) (.seq (.reg [⟨(some 10), none, (.p true (.mv (.c (.int .i64 0))))⟩]) (.seq (.block 1 (.loop (.seq (.seq (.reg [⟨(some 57), none, (.p true (.mv (.t 8)))⟩, ⟨(some 58), none, (.p true (.mv (.t 9)))⟩, ⟨(some 59), none, (.p true (.bin .lss (.t 57) (.t 58)))⟩]) (.cond (.t 59) .skip (.exit 1))) (.block 2 (.seq (.seq (.reg [⟨(some 60), none, (.p true (.mv (.t 0)))⟩, ⟨(some 61), none, (.p true (.mv (.t 8)))⟩, ⟨(some 62), none, (.p true (.ixs (.t 60) (.t 61)))⟩, ⟨(some 63), none, (.p true (.mv (.t 6)))⟩, ⟨(some 64), none, (.p true (.bin .neq (.t 62) (.t 63)))⟩]) (.cond (.t 64) (.seq (.reg [⟨(some 65), none, (.p true (.mv (.t 0)))⟩, ⟨(some 66), none, (.p true (.mv (.t 8)))⟩, ⟨(some 67), none, (.p true (.bin .add (.t 66) (.c (.int .i64 1))))⟩, ⟨(some 68), none, (.p true (.mv (.t 9)))⟩, ⟨(some 69), none, (.p true (.slcs (.t 65) (some (.t 67)) (some (.t 68))))⟩, ⟨(some 70), none, (.p true (.mv (.t 6)))⟩, ⟨(some 71), none, (.call true 144 [(.t 69), (.t 70)])⟩, ⟨(some 11), none, (.p true (.mv (.t 71)))⟩]) (.seq (.seq (.reg [⟨(some 72), none, (.p true (.mv (.t 11)))⟩, ⟨(some 73), none, (.p true (.bin .lss (.t 72) (.c (.int .i64 0))))⟩]) (.cond (.t 73) (.seq (.reg [⟨(some 4), none, (.p true (.mv (.c (.int .i64 (-1)))))⟩]) .ret) .skip)) (.reg [⟨(some 74), none, (.p true (.mv (.t 8)))⟩, ⟨(some 75), none, (.p true (.mv (.t 11)))⟩, ⟨(some 76), none, (.p true (.bin .add (.t 75) (.c (.int .i64 1))))⟩, ⟨(some 77), none, (.p true (.bin .add (.t 74) (.t 76)))⟩, ⟨(some 8), none, (.p true (.mv (.t 77)))⟩]))) .skip)) (.seq (.seq (.reg [⟨(some 78), none, (.p true (.mv (.t 0)))⟩, ⟨(some 79), none, (.p true (.mv (.t 8)))⟩, ⟨(some 80), none, (.p true (.bin .add (.t 79) (.c (.int .i64 1))))⟩, ⟨(some 81), none, (.p true (.ixs (.t 78) (.t 80)))⟩, ⟨(some 82), none, (.p true (.mv (.t 7)))⟩, ⟨(some 83), none, (.p true (.bin .eql (.t 81) (.t 82)))⟩, ⟨(some 84), none, (.p true (.mv (.t 83)))⟩, ⟨(some 85), (some (84, true)), (.p true (.mv (.t 0)))⟩, ⟨(some 86), (some (84, true)), (.p true (.mv (.t 8)))⟩, ⟨(some 87), (some (84, true)), (.p true (.mv (.t 8)))⟩, ⟨(some 88), (some (84, true)), (.p true (.mv (.t 5)))⟩, ⟨(some 89), (some (84, true)), (.p true (.bin .add (.t 87) (.t 88)))⟩, ⟨(some 90), (some (84, true)), (.p true (.slcs (.t 85) (some (.t 86)) (some (.t 89))))⟩, ⟨(some 91), (some (84, true)), (.p true (.mv (.t 1)))⟩, ⟨(some 92), (some (84, true)), (.p true (.bin .eql (.t 90) (.t 91)))⟩, ⟨(some 93), none, (.p true (.pick (.t 84) (.t 92) (.c (.bool false))))⟩]) (.cond (.t 93) (.seq (.reg [⟨(some 94), none, (.p true (.mv (.t 8)))⟩, ⟨(some 4), none, (.p true (.mv (.t 94)))⟩]) .ret) .skip)) (.seq (.reg [⟨(some 95), none, (.p true (.mv (.t 8)))⟩, ⟨(some 96), none, (.p true (.bin .add (.t 95) (.c (.int .i64 1))))⟩, ⟨(some 8), none, (.p true (.mv (.t 96)))⟩]) (.seq (.reg [⟨(some 97), none, (.p true (.mv (.t 10)))⟩, ⟨(some 98), none, (.p true (.bin .add (.t 97) (.c (.int .i64 1))))⟩, ⟨(some 10), none, (.p true (.mv (.t 98)))⟩]) (.seq .bad (.cond (.t 107) (.seq (.reg [⟨(some 108), none, (.p true (.mv (.t 0)))⟩, ⟨(some 109), none, (.p true (.mv (.t 8)))⟩, ⟨(some 110), none, (.p true (.slcs (.t 108) (some (.t 109)) none))⟩, ⟨(some 111), none, (.p true (.mv (.t 1)))⟩, ⟨(some 112), none, (.call true 145 [(.t 110), (.t 111)])⟩, ⟨(some 12), none, (.p true (.mv (.t 112)))⟩]) (.seq (.seq (.reg [⟨(some 113), none, (.p true (.mv (.t 12)))⟩, ⟨(some 114), none, (.p true (.bin .geq (.t 113) (.c (.int .i64 0))))⟩]) (.cond (.t 114) (.seq (.reg [⟨(some 115), none, (.p true (.mv (.t 12)))⟩, ⟨(some 116), none, (.p true (.mv (.t 8)))⟩, ⟨(some 117), none, (.p true (.bin .add (.t 115) (.t 116)))⟩, ⟨(some 4), none, (.p true (.mv (.t 117)))⟩]) .ret) .skip)) (.seq (.reg [⟨(some 4), none, (.p true (.mv (.c (.int .i64 (-1)))))⟩]) .ret))) (.seq .bad (.cond (.t 132) (.seq (.reg [⟨(some 133), none, (.p true (.mv (.t 0)))⟩, ⟨(some 134), none, (.p true (.mv (.t 8)))⟩, ⟨(some 135), none, (.p true (.slcs (.t 133) (some (.t 134)) none))⟩, ⟨(some 136), none, (.p true (.mv (.t 1)))⟩, ⟨(some 137), none, (.call true 147 [(.t 135), (.t 136)])⟩, ⟨(some 13), none, (.p true (.mv (.t 137)))⟩]) (.seq (.seq (.reg [⟨(some 138), none, (.p true (.mv (.t 13)))⟩, ⟨(some 139), none, (.p true (.bin .lss (.t 138) (.c (.int .i64 0))))⟩]) (.cond (.t 139) (.seq (.reg [⟨(some 4), none, (.p true (.mv (.c (.int .i64 (-1)))))⟩]) .ret) .skip)) (.seq (.reg [⟨(some 140), none, (.p true (.mv (.t 8)))⟩, ⟨(some 141), none, (.p true (.mv (.t 13)))⟩, ⟨(some 142), none, (.p true (.bin .add (.t 140) (.t 141)))⟩, ⟨(some 4), none, (.p true (.mv (.t 142)))⟩]) .ret))) .skip)))))))))))) (.seq (.reg [⟨(some 4), none, (.p true (.mv (.c (.int .i64 (-1)))))⟩]) .ret))))))))))
theorem c130_is : compFn Try.prog 130 = some (c130, [(.tmp 4)]) := by kernel_rfl
theorem c130_ok : okFn Try.prog 130 = true := by kernel_rfl

def F_stringslite_Index_j0 (v0 : List UInt8) (v1 : List UInt8) (v2 : Bool) : Option (Int) :=
  (bif v2 then some 0
  else (bif (decide ((v1.length : Int) = (1 : Int))) then ((ix v1 0).bind fun v1000 => ((F_stringslite_IndexByte v0 (v1000.toNat : Int)).bind fun v1001 => some v1001))
  else (bif (decide ((v0.length : Int) ≤ (v1.length : Int))) then some (-1)
  else none)))
def F_stringslite_Index (v0 : List UInt8) (v1 : List UInt8) : Option (Int) :=
  (bif (decide ((v1.length : Int) = (0 : Int))) then F_stringslite_Index_j0 v0 v1 true
  else F_stringslite_Index_j0 v0 v1 (decide (v1 = v0)))
@[simp] def res_stringslite_Index (r : Int) : RV := .one (.one (.val (.int .i64 r)))
theorem con_stringslite_Index {v0 : List UInt8} {v1 : List UInt8} {r : Int} (hF : F_stringslite_Index v0 v1 = some r) : Con Try.prog 130 [.str v0, .str v1] (res_stringslite_Index r) := by
  unfold F_stringslite_Index at hF
  refine con_of c130_is fun N => ?_
  refine w_reg_seq 0 64 rfl rfl ?_
  refine qp (AI 0) rfl ?_
  refine r_nil ?_
  refine w_reg_seq 64 256 rfl rfl ?_
  refine qp (AS v1) rfl (qp (AI (v1.length : Int)) rfl (qp (AI (v1.length : Int)) rfl ?_))
  refine r_nil ?_
  refine w_seq ?_
  refine w_block ?_
  refine w_meet (fun s' => ∃ (v2 : Bool), s' = mkS [(0, AS v0), (1, AS v1), (5, AI (v1.length : Int)), (16, AB v2)] (fo []) 1 ∧ F_stringslite_Index_j0 v0 v1 v2 = some r) ?_ ?_
  ·
    refine w_reg 256 768 rfl rfl ?_
    refine qp (AI (v1.length : Int)) rfl (qp (AB (decide ((v1.length : Int) = (0 : Int)))) rfl (qp (AB (decide ((v1.length : Int) = (0 : Int)))) rfl ?_))
    refine q_case 19 hF rfl (fun hF => ?_) (fun hF => ?_)
    ·
      refine qn rfl (qn rfl (qn rfl (qp (AB true) rfl (qp (AB true) rfl ?_))))
      refine r_nil ?_
      refine thenQ_n ?_
      refine aw_ren (l' := [(0, AS v0), (1, AS v1), (5, AI (v1.length : Int)), (16, AB true)]) (L := []) [0, 1, 5, 16] [] 1 (by first | rfl | simp) (by first | rfl | simp) (by decide) (by decide) (by decide) ⟨_, rfl, hF⟩
    ·
      refine qg (AS v1) rfl rfl (qg (AS v0) rfl rfl (qg (AB (decide (v1 = v0))) rfl rfl (qp (AB (decide (v1 = v0))) rfl (qp (AB (decide (v1 = v0))) rfl ?_))))
      refine r_nil ?_
      refine thenQ_n ?_
      refine aw_ren (l' := [(0, AS v0), (1, AS v1), (5, AI (v1.length : Int)), (16, AB (decide (v1 = v0)))]) (L := []) [0, 1, 5, 16] [] 1 (by first | rfl | simp) (by first | rfl | simp) (by decide) (by decide) (by decide) ⟨_, rfl, hF⟩
  ·
    rintro s' ⟨v2, rfl, hF⟩
    unfold F_stringslite_Index_j0 at hF
    refine w_condF hF rfl (fun hF => ?_) (fun hF => ?_)
    ·
      refine w_reg_seq 1 65 rfl rfl ?_
      refine qp (AI 0) rfl ?_
      refine r_nil ?_
      refine w_ret ?_
      refine blockQ_r ?_
      refine thenQ_r ?_
      cases hF
      exact endQ_r rfl (.inl ⟨_, _, by first | rfl | (simp [List.take_of_length_le]; first | exact ⟨rfl, rfl⟩ | rfl), by simp, by first | rfl | simp [res_stringslite_Index, List.take_of_length_le]⟩)
    ·
      refine w_reg_seq 1 193 rfl rfl ?_
      refine qp (AI (v1.length : Int)) rfl (qp (AB (decide ((v1.length : Int) = (1 : Int)))) rfl (qp (AB (decide ((v1.length : Int) = (1 : Int)))) rfl ?_))
      refine r_nil ?_
      refine w_condF hF rfl (fun hF => ?_) (fun hF => ?_)
      ·
        refine w_reg_seq 193 513 rfl rfl ?_
        refine qp (AS v0) rfl (qp (AS v1) rfl ?_)
        obtain ⟨v1000, e1000, hF⟩ := bind_get hF
        refine qp (.val none (.int .u8 (v1000.toNat : Int))) (ev_ixs rfl rfl e1000) ?_
        obtain ⟨v1001, e1001, hF⟩ := bind_get hF
        refine qc (AI v1001) [] false (con_stringslite_IndexByte e1001) c144_ok (by first | rfl | simp) rfl ?_
        refine qp (AI v1001) rfl ?_
        refine r_nil ?_
        refine w_ret ?_
        refine blockQ_r ?_
        refine thenQ_r ?_
        cases hF
        exact endQ_r rfl (.inl ⟨_, _, by first | rfl | (simp [List.take_of_length_le]; first | exact ⟨rfl, rfl⟩ | rfl), by simp, by first | rfl | simp [res_stringslite_Index, List.take_of_length_le]⟩)
      ·
        refine w_reg_seq 193 513 rfl rfl ?_
        refine qp (AI (v1.length : Int)) rfl (qp (AS v0) rfl (qp (AI (v0.length : Int)) rfl (qp (AB (decide ((v0.length : Int) ≤ (v1.length : Int)))) rfl (qp (AB (decide ((v0.length : Int) ≤ (v1.length : Int)))) rfl ?_))))
        refine r_nil ?_
        refine w_condF hF rfl (fun hF => ?_) (fun hF => ?_)
        ·
          refine w_reg_seq 513 577 rfl rfl ?_
          refine qp (AI (-1)) rfl ?_
          refine r_nil ?_
          refine w_ret ?_
          refine blockQ_r ?_
          refine thenQ_r ?_
          cases hF
          exact endQ_r rfl (.inl ⟨_, _, by first | rfl | (simp [List.take_of_length_le]; first | exact ⟨rfl, rfl⟩ | rfl), by simp, by first | rfl | simp [res_stringslite_Index, List.take_of_length_le]⟩)
        ·
          refine w_seq ?_
          cases hF

def c122 : MC := (.seq (.reg [⟨(some 4), none, (.p true (.mv (.c (.int .i64 0))))⟩]) (.seq (.reg [⟨(some 5), none, (.p true (.mv (.t 0)))⟩, ⟨(some 6), none, (.p true (.mv (.t 1)))⟩, ⟨(some 7), none, (.call true 130 [(.t 5), (.t 6)])⟩, ⟨(some 4), none, (.p true (.mv (.t 7)))⟩]) .ret))
theorem c122_is : compFn Try.prog 122 = some (c122, [(.tmp 4)]) := by kernel_rfl
theorem c122_ok : okFn Try.prog 122 = true := by kernel_rfl

def F_strings_Index (v0 : List UInt8) (v1 : List UInt8) : Option (Int) :=
  ((F_stringslite_Index v0 v1).bind fun v1000 => some v1000)
@[simp] def res_strings_Index (r : Int) : RV := .one (.one (.val (.int .i64 r)))
theorem con_strings_Index {v0 : List UInt8} {v1 : List UInt8} {r : Int} (hF : F_strings_Index v0 v1 = some r) : Con Try.prog 122 [.str v0, .str v1] (res_strings_Index r) := by
  unfold F_strings_Index at hF
  refine con_of c122_is fun N => ?_
  refine w_reg_seq 0 64 rfl rfl ?_
  refine qp (AI 0) rfl ?_
  refine r_nil ?_
  refine w_reg_seq 64 320 rfl rfl ?_
  refine qp (AS v0) rfl (qp (AS v1) rfl ?_)
  obtain ⟨v1000, e1000, hF⟩ := bind_get hF
  refine qc (AI v1000) [] false (con_stringslite_Index e1000) c130_ok (by first | rfl | simp) rfl ?_
  refine qp (AI v1000) rfl ?_
  refine r_nil ?_
  refine w_ret ?_
  cases hF
  exact endQ_r rfl (.inl ⟨_, _, by first | rfl | (simp [List.take_of_length_le]; first | exact ⟨rfl, rfl⟩ | rfl), by simp, by first | rfl | simp [res_strings_Index, List.take_of_length_le]⟩)

def c112 : MC := (.seq (.reg [⟨(some 4), none, (.p true (.mv (.c (.bool false))))⟩]) (.seq (.reg [⟨(some 5), none, (.p true (.mv (.t 0)))⟩, ⟨(some 6), none, (.p true (.mv (.t 1)))⟩, ⟨(some 7), none, (.call true 122 [(.t 5), (.t 6)])⟩, ⟨(some 8), none, (.p true (.bin .geq (.t 7) (.c (.int .i64 0))))⟩, ⟨(some 4), none, (.p true (.mv (.t 8)))⟩]) .ret))
theorem c112_is : compFn Try.prog 112 = some (c112, [(.tmp 4)]) := by kernel_rfl
theorem c112_ok : okFn Try.prog 112 = true := by kernel_rfl

def F_strings_Contains (v0 : List UInt8) (v1 : List UInt8) : Option (Bool) :=
  ((F_strings_Index v0 v1).bind fun v1000 => some (decide ((0 : Int) ≤ v1000)))
@[simp] def res_strings_Contains (r : Bool) : RV := .one (.one (.val (.bool r)))
theorem con_strings_Contains {v0 : List UInt8} {v1 : List UInt8} {r : Bool} (hF : F_strings_Contains v0 v1 = some r) : Con Try.prog 112 [.str v0, .str v1] (res_strings_Contains r) := by
  unfold F_strings_Contains at hF
  refine con_of c112_is fun N => ?_
  refine w_reg_seq 0 64 rfl rfl ?_
  refine qp (AB false) rfl ?_
  refine r_nil ?_
  refine w_reg_seq 64 384 rfl rfl ?_
  refine qp (AS v0) rfl (qp (AS v1) rfl ?_)
  obtain ⟨v1000, e1000, hF⟩ := bind_get hF
  refine qc (AI v1000) [] false (con_strings_Index e1000) c122_ok (by first | rfl | simp) rfl ?_
  refine qp (AB (decide ((0 : Int) ≤ v1000))) rfl (qp (AB (decide ((0 : Int) ≤ v1000))) rfl ?_)
  refine r_nil ?_
  refine w_ret ?_
  cases hF
  exact endQ_r rfl (.inl ⟨_, _, by first | rfl | (simp [List.take_of_length_le]; first | exact ⟨rfl, rfl⟩ | rfl), by simp, by first | rfl | simp [res_strings_Contains, List.take_of_length_le]⟩)

def c87 : MC := (.seq (.reg [⟨(some 1), none, (.f (.box (.t 0)))⟩, ⟨(some 2), none, (.p true (.mv (.c (.bool false))))⟩]) (.seq (.reg [⟨(some 3), none, (.p true (.fad (.t 1) 0))⟩, ⟨(some 4), none, (.p true (.ld (.t 3) 1 false))⟩, ⟨(some 5), none, (.call true 95 [(.t 4)])⟩, ⟨(some 6), none, (.p true (.mv (.t 5)))⟩, ⟨(some 7), (some (6, true)), (.p true (.fad (.t 1) 1))⟩, ⟨(some 8), (some (6, true)), (.p true (.ld (.t 7) 1 false))⟩, ⟨(some 9), (some (6, true)), (.call true 95 [(.t 8)])⟩, ⟨(some 10), none, (.p true (.pick (.t 6) (.t 9) (.c (.bool false))))⟩, ⟨(some 11), none, (.p true (.mv (.t 10)))⟩, ⟨(some 12), (some (11, true)), (.p true (.fad (.t 1) 2))⟩, ⟨(some 13), (some (11, true)), (.p true (.ld (.t 12) 1 false))⟩, ⟨(some 14), (some (11, true)), (.p true (.lens (.t 13)))⟩, ⟨(some 15), (some (11, true)), (.p true (.bin .leq (.t 14) (.c (.int .i64 400))))⟩, ⟨(some 16), none, (.p true (.pick (.t 11) (.t 15) (.c (.bool false))))⟩, ⟨(some 17), none, (.p true (.mv (.t 16)))⟩, ⟨(some 18), (some (17, true)), (.p true (.fad (.t 1) 2))⟩, ⟨(some 19), (some (17, true)), (.p true (.ld (.t 18) 1 false))⟩, ⟨(some 20), (some (17, true)), (.call true 112 [(.t 19), (.c (.str [10]))])⟩, ⟨(some 21), (some (17, true)), (.p true (.not (.t 20)))⟩, ⟨(some 22), none, (.p true (.pick (.t 17) (.t 21) (.c (.bool false))))⟩, ⟨(some 2), none, (.p true (.mv (.t 22)))⟩]) .ret))
theorem c87_is : compFn Try.prog 87 = some (c87, [(.tmp 2)]) := by kernel_rfl
theorem c87_ok : okFn Try.prog 87 = true := by kernel_rfl

def F_impl_ValidBlock (v0 : TBlock) : Option (Bool) :=
  ((F_impl_IsName v0.1).bind fun v1000 => (bif v1000 then ((F_impl_IsName v0.2.1).bind fun v1001 => (bif v1001 then (bif (decide ((v0.2.2.length : Int) ≤ (400 : Int))) then ((F_strings_Contains v0.2.2 [10]).bind fun v1002 => some (!v1002))
  else some false)
  else some false))
  else some false))
@[simp] def res_impl_ValidBlock (r : Bool) : RV := .one (.one (.val (.bool r)))
theorem con_impl_ValidBlock {v0 : TBlock} {r : Bool} (hF : F_impl_ValidBlock v0 = some r) : Con Try.prog 87 [eBlock v0] (res_impl_ValidBlock r) := by
  unfold F_impl_ValidBlock at hF
  refine con_of c87_is fun N => ?_
  refine w_reg_seq 0 128 rfl rfl ?_
  refine qf (.ptr 0 0 0) [(0, .box [AS v0.1, AS v0.2.1, AS v0.2.2])] (by simp) ?_
  refine qp (AB false) rfl ?_
  refine r_nil ?_
  refine w_reg_seq 128 1472 rfl rfl ?_
  refine qp (.ptr 0 0 0) rfl (qp (AS v0.1) rfl ?_)
  obtain ⟨v1000, e1000, hF⟩ := bind_get hF
  refine qc (AB v1000) [(0, .box [AS v0.1, AS v0.2.1, AS v0.2.2])] false (con_impl_IsName e1000) c95_ok (by first | rfl | simp) rfl ?_
  refine qp (AB v1000) rfl ?_
  refine q_case 6 hF rfl (fun hF => ?_) (fun hF => ?_)
  ·
    refine qg (.ptr 0 0 1) rfl rfl (qg (AS v0.2.1) rfl rfl ?_)
    obtain ⟨v1001, e1001, hF⟩ := bind_get hF
    refine qcg (AB v1001) [(0, .box [AS v0.1, AS v0.2.1, AS v0.2.2])] false rfl (con_impl_IsName e1001) c95_ok (by first | rfl | simp) rfl ?_
    refine qp (AB v1001) rfl (qp (AB v1001) rfl ?_)
    refine q_case 11 hF rfl (fun hF => ?_) (fun hF => ?_)
    ·
      refine qg (.ptr 0 0 2) rfl rfl (qg (AS v0.2.2) rfl rfl (qg (AI (v0.2.2.length : Int)) rfl rfl (qg (AB (decide ((v0.2.2.length : Int) ≤ (400 : Int)))) rfl rfl (qp (AB (decide ((v0.2.2.length : Int) ≤ (400 : Int)))) rfl (qp (AB (decide ((v0.2.2.length : Int) ≤ (400 : Int)))) rfl ?_)))))
      refine q_case 17 hF rfl (fun hF => ?_) (fun hF => ?_)
      ·
        refine qg (.ptr 0 0 2) rfl rfl (qg (AS v0.2.2) rfl rfl ?_)
        obtain ⟨v1002, e1002, hF⟩ := bind_get hF
        refine qcg (AB v1002) [(0, .box [AS v0.1, AS v0.2.1, AS v0.2.2])] false rfl (con_strings_Contains e1002) c112_ok (by first | rfl | simp) rfl ?_
        refine qg (AB (!v1002)) rfl rfl (qp (AB (!v1002)) rfl (qp (AB (!v1002)) rfl ?_))
        refine r_nil ?_
        refine w_ret ?_
        cases hF
        exact endQ_r rfl (.inl ⟨_, _, by first | rfl | (simp [List.take_of_length_le]; first | exact ⟨rfl, rfl⟩ | rfl), by simp, by first | rfl | simp [res_impl_ValidBlock, List.take_of_length_le]⟩)
      ·
        refine qn rfl (qn rfl (qn rfl (qn rfl (qp (AB false) rfl (qp (AB false) rfl ?_)))))
        refine r_nil ?_
        refine w_ret ?_
        cases hF
        exact endQ_r rfl (.inl ⟨_, _, by first | rfl | (simp [List.take_of_length_le]; first | exact ⟨rfl, rfl⟩ | rfl), by simp, by first | rfl | simp [res_impl_ValidBlock, List.take_of_length_le]⟩)
    ·
      refine qn rfl (qn rfl (qn rfl (qn rfl (qp (AB false) rfl (qp (AB false) rfl (qn rfl (qn rfl ?_)))))))
      refine qn rfl (qn rfl (qp (AB false) rfl (qp (AB false) rfl ?_)))
      refine r_nil ?_
      refine w_ret ?_
      cases hF
      exact endQ_r rfl (.inl ⟨_, _, by first | rfl | (simp [List.take_of_length_le]; first | exact ⟨rfl, rfl⟩ | rfl), by simp, by first | rfl | simp [res_impl_ValidBlock, List.take_of_length_le]⟩)
  ·
    refine qn rfl (qn rfl (qn rfl (qp (AB false) rfl (qp (AB false) rfl (qn rfl (qn rfl (qn rfl ?_)))))))
    refine qn rfl (qp (AB false) rfl (qp (AB false) rfl (qn rfl (qn rfl (qn rfl (qn rfl (qp (AB false) rfl ?_)))))))
    refine qp (AB false) rfl ?_
    refine r_nil ?_
    refine w_ret ?_
    cases hF
    exact endQ_r rfl (.inl ⟨_, _, by first | rfl | (simp [List.take_of_length_le]; first | exact ⟨rfl, rfl⟩ | rfl), by simp, by first | rfl | simp [res_impl_ValidBlock, List.take_of_length_le]⟩)

def c108 : MC := (.seq (.reg [⟨(some 2), none, (.p true (.mv (.c (.bool false))))⟩]) (.seq (.reg [⟨(some 3), none, (.p true (.mv (.t 0)))⟩, ⟨(some 4), none, (.p true (.mv (.t 0)))⟩, ⟨(some 5), none, (.p true (.bin .neq (.t 3) (.t 4)))⟩, ⟨(some 2), none, (.p true (.mv (.t 5)))⟩]) .ret))
theorem c108_is : compFn Try.prog 108 = some (c108, [(.tmp 2)]) := by kernel_rfl
theorem c108_ok : okFn Try.prog 108 = true := by kernel_rfl

def F_cmp_isNaN_string (v0 : List UInt8) : Option (Bool) :=
  some (decide (v0 ≠ v0))
@[simp] def res_cmp_isNaN_string (r : Bool) : RV := .one (.one (.val (.bool r)))
theorem con_cmp_isNaN_string {v0 : List UInt8} {r : Bool} (hF : F_cmp_isNaN_string v0 = some r) : Con Try.prog 108 [.str v0] (res_cmp_isNaN_string r) := by
  unfold F_cmp_isNaN_string at hF
  refine con_of c108_is fun N => ?_
  refine w_reg_seq 0 64 rfl rfl ?_
  refine qp (AB false) rfl ?_
  refine r_nil ?_
  refine w_reg_seq 64 320 rfl rfl ?_
  refine qp (AS v0) rfl (qp (AS v0) rfl (qp (AB (decide (v0 ≠ v0))) rfl (qp (AB (decide (v0 ≠ v0))) rfl ?_)))
  refine r_nil ?_
  refine w_ret ?_
  cases hF
  exact endQ_r rfl (.inl ⟨_, _, by first | rfl | (simp [List.take_of_length_le]; first | exact ⟨rfl, rfl⟩ | rfl), by simp, by first | rfl | simp [res_cmp_isNaN_string, List.take_of_length_le]⟩)

def c81 : MC := (.seq (.reg [⟨(some 4), none, (.p true (.mv (.c (.int .i64 0))))⟩]) (.seq (.reg [⟨(some 7), none, (.p true (.mv (.t 0)))⟩, ⟨(some 8), none, (.call true 108 [(.t 7)])⟩, ⟨(some 5), none, (.p true (.mv (.t 8)))⟩]) (.seq (.reg [⟨(some 9), none, (.p true (.mv (.t 1)))⟩, ⟨(some 10), none, (.call true 108 [(.t 9)])⟩, ⟨(some 6), none, (.p true (.mv (.t 10)))⟩]) (.seq (.seq (.reg [⟨(some 11), none, (.p true (.mv (.t 5)))⟩]) (.cond (.t 11) (.seq (.seq (.reg [⟨(some 12), none, (.p true (.mv (.t 6)))⟩]) (.cond (.t 12) (.seq (.reg [⟨(some 4), none, (.p true (.mv (.c (.int .i64 0))))⟩]) .ret) .skip)) (.seq (.reg [⟨(some 4), none, (.p true (.mv (.c (.int .i64 (-1)))))⟩]) .ret)) .skip)) (.seq (.seq (.reg [⟨(some 13), none, (.p true (.mv (.t 6)))⟩]) (.cond (.t 13) (.seq (.reg [⟨(some 4), none, (.p true (.mv (.c (.int .i64 1))))⟩]) .ret) .skip)) (.seq (.seq (.reg [⟨(some 14), none, (.p true (.mv (.t 0)))⟩, ⟨(some 15), none, (.p true (.mv (.t 1)))⟩, ⟨(some 16), none, (.p true (.bin .lss (.t 14) (.t 15)))⟩]) (.cond (.t 16) (.seq (.reg [⟨(some 4), none, (.p true (.mv (.c (.int .i64 (-1)))))⟩]) .ret) .skip)) (.seq (.seq (.reg [⟨(some 17), none, (.p true (.mv (.t 0)))⟩, ⟨(some 18), none, (.p true (.mv (.t 1)))⟩, ⟨(some 19), none, (.p true (.bin .gtr (.t 17) (.t 18)))⟩]) (.cond (.t 19) (.seq (.reg [⟨(some 4), none, (.p true (.mv (.c (.int .i64 1))))⟩]) .ret) .skip)) (.seq (.reg [⟨(some 4), none, (.p true (.mv (.c (.int .i64 0))))⟩]) .ret))))))))
theorem c81_is : compFn Try.prog 81 = some (c81, [(.tmp 4)]) := by kernel_rfl
theorem c81_ok : okFn Try.prog 81 = true := by kernel_rfl

def F_cmp_Compare_string (v0 : List UInt8) (v1 : List UInt8) : Option (Int) :=
  ((F_cmp_isNaN_string v0).bind fun v1000 => ((F_cmp_isNaN_string v1).bind fun v1001 => (bif v1000 then (bif v1001 then some 0
  else some (-1))
  else (bif v1001 then some 1
  else (bif (Op.bytesLess v0 v1) then some (-1)
  else (bif (!(Op.bytesLess v0 v1 || decide (v0 = v1))) then some 1
  else some 0))))))
@[simp] def res_cmp_Compare_string (r : Int) : RV := .one (.one (.val (.int .i64 r)))
theorem con_cmp_Compare_string {v0 : List UInt8} {v1 : List UInt8} {r : Int} (hF : F_cmp_Compare_string v0 v1 = some r) : Con Try.prog 81 [.str v0, .str v1] (res_cmp_Compare_string r) := by
  unfold F_cmp_Compare_string at hF
  refine con_of c81_is fun N => ?_
  refine w_reg_seq 0 64 rfl rfl ?_
  refine qp (AI 0) rfl ?_
  refine r_nil ?_
  refine w_reg_seq 64 256 rfl rfl ?_
  refine qp (AS v0) rfl ?_
  obtain ⟨v1000, e1000, hF⟩ := bind_get hF
  refine qc (AB v1000) [] false (con_cmp_isNaN_string e1000) c108_ok (by first | rfl | simp) rfl ?_
  refine qp (AB v1000) rfl ?_
  refine r_nil ?_
  refine w_reg_seq 256 448 rfl rfl ?_
  refine qp (AS v1) rfl ?_
  obtain ⟨v1001, e1001, hF⟩ := bind_get hF
  refine qc (AB v1001) [] false (con_cmp_isNaN_string e1001) c108_ok (by first | rfl | simp) rfl ?_
  refine qp (AB v1001) rfl ?_
  refine r_nil ?_
  refine w_seq ?_
  refine w_reg_seq 448 512 rfl rfl ?_
  refine qp (AB v1000) rfl ?_
  refine r_nil ?_
  refine w_condF hF rfl (fun hF => ?_) (fun hF => ?_)
  ·
    refine w_seq ?_
    refine w_reg_seq 512 576 rfl rfl ?_
    refine qp (AB v1001) rfl ?_
    refine r_nil ?_
    refine w_condF hF rfl (fun hF => ?_) (fun hF => ?_)
    ·
      refine w_reg_seq 576 640 rfl rfl ?_
      refine qp (AI 0) rfl ?_
      refine r_nil ?_
      refine w_ret ?_
      refine thenQ_r ?_
      refine thenQ_r ?_
      cases hF
      exact endQ_r rfl (.inl ⟨_, _, by first | rfl | (simp [List.take_of_length_le]; first | exact ⟨rfl, rfl⟩ | rfl), by simp, by first | rfl | simp [res_cmp_Compare_string, List.take_of_length_le]⟩)
    ·
      refine w_skip ?_
      refine thenQ_n ?_
      refine w_reg_seq 576 640 rfl rfl ?_
      refine qp (AI (-1)) rfl ?_
      refine r_nil ?_
      refine w_ret ?_
      refine thenQ_r ?_
      cases hF
      exact endQ_r rfl (.inl ⟨_, _, by first | rfl | (simp [List.take_of_length_le]; first | exact ⟨rfl, rfl⟩ | rfl), by simp, by first | rfl | simp [res_cmp_Compare_string, List.take_of_length_le]⟩)
  ·
    refine w_skip ?_
    refine thenQ_n ?_
    refine w_seq ?_
    refine w_reg_seq 512 576 rfl rfl ?_
    refine qp (AB v1001) rfl ?_
    refine r_nil ?_
    refine w_condF hF rfl (fun hF => ?_) (fun hF => ?_)
    ·
      refine w_reg_seq 576 640 rfl rfl ?_
      refine qp (AI 1) rfl ?_
      refine r_nil ?_
      refine w_ret ?_
      refine thenQ_r ?_
      cases hF
      exact endQ_r rfl (.inl ⟨_, _, by first | rfl | (simp [List.take_of_length_le]; first | exact ⟨rfl, rfl⟩ | rfl), by simp, by first | rfl | simp [res_cmp_Compare_string, List.take_of_length_le]⟩)
    ·
      refine w_skip ?_
      refine thenQ_n ?_
      refine w_seq ?_
      refine w_reg_seq 576 768 rfl rfl ?_
      refine qp (AS v0) rfl (qp (AS v1) rfl (qp (AB (Op.bytesLess v0 v1)) rfl ?_))
      refine r_nil ?_
      refine w_condF hF rfl (fun hF => ?_) (fun hF => ?_)
      ·
        refine w_reg_seq 768 832 rfl rfl ?_
        refine qp (AI (-1)) rfl ?_
        refine r_nil ?_
        refine w_ret ?_
        refine thenQ_r ?_
        cases hF
        exact endQ_r rfl (.inl ⟨_, _, by first | rfl | (simp [List.take_of_length_le]; first | exact ⟨rfl, rfl⟩ | rfl), by simp, by first | rfl | simp [res_cmp_Compare_string, List.take_of_length_le]⟩)
      ·
        refine w_skip ?_
        refine thenQ_n ?_
        refine w_seq ?_
        refine w_reg_seq 768 960 rfl rfl ?_
        refine qp (AS v0) rfl (qp (AS v1) rfl (qp (AB (!(Op.bytesLess v0 v1 || decide (v0 = v1)))) rfl ?_))
        refine r_nil ?_
        refine w_condF hF rfl (fun hF => ?_) (fun hF => ?_)
        ·
          refine w_reg_seq 960 1024 rfl rfl ?_
          refine qp (AI 1) rfl ?_
          refine r_nil ?_
          refine w_ret ?_
          refine thenQ_r ?_
          cases hF
          exact endQ_r rfl (.inl ⟨_, _, by first | rfl | (simp [List.take_of_length_le]; first | exact ⟨rfl, rfl⟩ | rfl), by simp, by first | rfl | simp [res_cmp_Compare_string, List.take_of_length_le]⟩)
        ·
          refine w_skip ?_
          refine thenQ_n ?_
          refine w_reg_seq 960 1024 rfl rfl ?_
          refine qp (AI 0) rfl ?_
          refine r_nil ?_
          refine w_ret ?_
          cases hF
          exact endQ_r rfl (.inl ⟨_, _, by first | rfl | (simp [List.take_of_length_le]; first | exact ⟨rfl, rfl⟩ | rfl), by simp, by first | rfl | simp [res_cmp_Compare_string, List.take_of_length_le]⟩)

def c100 : MC := (.seq (.reg [⟨(some 2), none, (.p true (.mv (.c (.int .i64 0))))⟩]) (.seq (.reg [⟨(some 3), none, (.p true (.mv (.c (.int .i64 0))))⟩]) (.seq (.seq (.reg [⟨(some 6), none, (.p true (.mv (.t 0)))⟩, ⟨(some 7), none, (.p true (.len (.t 6)))⟩, ⟨(some 8), none, (.p true (.mv (.c (.int .i64 0))))⟩]) (.block 0 (.loop (.seq (.reg [⟨(some 9), none, (.p true (.bin .lss (.t 8) (.t 7)))⟩]) (.seq (.cond (.t 9) .skip (.exit 0)) (.seq (.block 1 (.seq (.reg [⟨(some 10), none, (.p true (.iad (.t 6) (.t 8) 1))⟩, ⟨(some 11), none, (.p true (.ld (.t 10) 1 false))⟩, ⟨(some 5), none, (.p true (.mv (.t 11)))⟩]) (.seq (.reg [⟨(some 12), none, (.p true (.mv (.t 5)))⟩, ⟨(some 13), none, (.p true (.mv (.t 3)))⟩, ⟨(some 14), none, (.p true (.bin .neq (.t 12) (.t 13)))⟩]) (.cond (.t 14) (.seq (.reg [⟨(some 15), none, (.p true (.mv (.t 5)))⟩, ⟨(some 2), none, (.p true (.mv (.t 15)))⟩]) .ret) .skip)))) (.reg [⟨(some 16), none, (.p true (.bin .add (.t 8) (.c (.int .i64 1))))⟩, ⟨(some 8), none, (.p true (.mv (.t 16)))⟩]))))))) (.seq (.reg [⟨(some 17), none, (.p true (.mv (.t 3)))⟩, ⟨(some 2), none, (.p true (.mv (.t 17)))⟩]) .ret))))
theorem c100_is : compFn Try.prog 100 = some (c100, [(.tmp 2)]) := by kernel_rfl
theorem c100_ok : okFn Try.prog 100 = true := by kernel_rfl

def F_cmp_Or_int_l0 (v0 : List Int) (k0 : Int → Option (Int)) : Int → Option (Int)
  | v4 => (bif (decide (v4 < (v0.length : Int))) then ((ix v0 v4).bind fun v1000 => (bif (decide (v1000 ≠ (0 : Int))) then some v1000
  else k0 (w64 (v4 + 1))))
  else some 0)
def F_cmp_Or_int (v0 : List Int) : Option (Int) :=
  loop (F_cmp_Or_int_l0 v0) 0
@[simp] def res_cmp_Or_int (r : Int) : RV := .one (.one (.val (.int .i64 r)))
theorem con_cmp_Or_int {v0 : List Int} {r : Int} (hF : F_cmp_Or_int v0 = some r) : Con Try.prog 100 [.sl 1 (v0.map (V.int .i64))] (res_cmp_Or_int r) := by
  unfold F_cmp_Or_int at hF
  refine con_of c100_is fun N => ?_
  refine w_reg_seq 0 64 rfl rfl ?_
  refine qp (AI 0) rfl ?_
  refine r_nil ?_
  refine w_reg_seq 64 128 rfl rfl ?_
  refine qp (AI 0) rfl ?_
  refine r_nil ?_
  refine w_seq ?_
  refine w_reg_seq 128 320 rfl rfl ?_
  refine qp (.val none (.sl 1 (v0.map (V.int .i64)))) rfl (qp (AI (v0.length : Int)) (ev_len_n rfl) (qp (AI 0) rfl ?_))
  refine r_nil ?_
  refine w_block ?_
  refine w_ren (l' := [(3, AI 0), (6, .val none (.sl 1 (v0.map (V.int .i64)))), (7, AI (v0.length : Int)), (8, AI 0)]) (L := []) [3, 6, 7, 8] [] 1 (by first | rfl | simp) (by first | rfl | simp) (by decide) (by decide) (by decide) ?_
  refine w_loopF (F_cmp_Or_int_l0 v0) (fun s : Int => mkS [(3, AI 0), (6, .val none (.sl 1 (v0.map (V.int .i64)))), (7, AI (v0.length : Int)), (8, AI s)] (fo []) 1) hF ?_
  rintro k0 v4 hF
  rw [F_cmp_Or_int_l0] at hF
  try dsimp only
  refine w_reg_seq 1 65 rfl rfl ?_
  refine qp (AB (decide (v4 < (v0.length : Int)))) rfl ?_
  refine r_nil ?_
  refine w_seq ?_
  refine w_condF hF rfl (fun hF => ?_) (fun hF => ?_)
  ·
    refine w_skip ?_
    refine thenQ_n ?_
    refine w_seq ?_
    refine w_block ?_
    refine w_reg_seq 65 257 rfl rfl ?_
    obtain ⟨v1000, e1000, hF⟩ := bind_get hF
    refine qp (.val none (.ptr [.int .i64 v1000])) (ev_iad_n rfl rfl e1000 rfl) (qp (AI v1000) rfl (qp (AI v1000) rfl ?_))
    refine r_nil ?_
    refine w_reg_seq 257 449 rfl rfl ?_
    refine qp (AI v1000) rfl (qp (AI 0) rfl (qp (AB (decide (v1000 ≠ (0 : Int)))) rfl ?_))
    refine r_nil ?_
    refine w_condF hF rfl (fun hF => ?_) (fun hF => ?_)
    ·
      refine w_reg_seq 449 577 rfl rfl ?_
      refine qp (AI v1000) rfl (qp (AI v1000) rfl ?_)
      refine r_nil ?_
      refine w_ret ?_
      refine blockQ_r ?_
      refine thenQ_r ?_
      refine thenQ_r ?_
      refine blockQ_r ?_
      refine thenQ_r ?_
      cases hF
      exact endQ_r rfl (.inl ⟨_, _, by first | rfl | (simp [List.take_of_length_le]; first | exact ⟨rfl, rfl⟩ | rfl), by simp, by first | rfl | simp [res_cmp_Or_int, List.take_of_length_le]⟩)
    ·
      refine w_skip ?_
      refine blockQ_n ?_
      refine thenQ_n ?_
      refine w_reg 449 577 rfl rfl ?_
      refine qp (AI (w64 (v4 + 1))) rfl (qp (AI (w64 (v4 + 1))) rfl ?_)
      refine r_nil ?_
      refine thenQ_n ?_
      refine aw_ren (l' := [(3, AI 0), (6, .val none (.sl 1 (v0.map (V.int .i64)))), (7, AI (v0.length : Int)), (8, AI (w64 (v4 + 1)))]) (L := []) [3, 6, 7, 8] [] 1 (by first | rfl | simp) (by first | rfl | simp) (by decide) (by decide) (by decide) ⟨_, by rfl, hF⟩
  ·
    refine w_exit ?_
    refine thenQ_e ?_
    refine thenQ_e ?_
    refine blockQ_e ?_
    refine thenQ_n ?_
    refine w_reg_seq 65 193 rfl rfl ?_
    refine qp (AI 0) rfl (qp (AI 0) rfl ?_)
    refine r_nil ?_
    refine w_ret ?_
    cases hF
    exact endQ_r rfl (.inl ⟨_, _, by first | rfl | (simp [List.take_of_length_le]; first | exact ⟨rfl, rfl⟩ | rfl), by simp, by first | rfl | simp [res_cmp_Or_int, List.take_of_length_le]⟩)

def c67 : MC := (.seq (.reg [⟨(some 2), none, (.f (.box (.t 0)))⟩, ⟨(some 3), none, (.f (.box (.t 1)))⟩, ⟨(some 4), none, (.p true (.mv (.c (.int .i64 0))))⟩]) (.seq (.reg [⟨(some 5), none, (.p false (.fad (.t 2) 0))⟩, ⟨(some 6), none, (.p false (.ld (.t 5) 1 false))⟩, ⟨(some 7), none, (.p false (.fad (.t 3) 0))⟩, ⟨(some 8), none, (.p false (.ld (.t 7) 1 false))⟩, ⟨(some 9), none, (.call false 81 [(.t 6), (.t 8)])⟩, ⟨(some 10), none, (.p false (.fad (.t 2) 1))⟩, ⟨(some 11), none, (.p false (.ld (.t 10) 1 false))⟩, ⟨(some 12), none, (.p false (.fad (.t 3) 1))⟩, ⟨(some 13), none, (.p false (.ld (.t 12) 1 false))⟩, ⟨(some 14), none, (.call false 81 [(.t 11), (.t 13)])⟩, ⟨(some 15), none, (.f (.bsl 1 [(.t 9), (.t 14)]))⟩, ⟨(some 16), none, (.call false 100 [(.t 15)])⟩, ⟨(some 4), none, (.p false (.mv (.t 16)))⟩]) .ret))
theorem c67_is : compFn Try.prog 67 = some (c67, [(.tmp 4)]) := by kernel_rfl
theorem c67_ok : okFn Try.prog 67 = true := by kernel_rfl

def F_impl_compareBlocks (v0 : TBlock) (v1 : TBlock) : Option (Int) :=
  ((F_cmp_Compare_string v0.1 v1.1).bind fun v1000 => ((F_cmp_Compare_string v0.2.1 v1.2.1).bind fun v1001 => ((F_cmp_Or_int [v1000, v1001]).bind fun v1002 => some v1002)))
@[simp] def res_impl_compareBlocks (r : Int) : RV := .one (.one (.val (.int .i64 r)))
theorem con_impl_compareBlocks {v0 : TBlock} {v1 : TBlock} {r : Int} (hF : F_impl_compareBlocks v0 v1 = some r) : Con Try.prog 67 [eBlock v0, eBlock v1] (res_impl_compareBlocks r) := by
  unfold F_impl_compareBlocks at hF
  refine con_of c67_is fun N => ?_
  refine w_reg_seq 0 192 rfl rfl ?_
  refine qf (.ptr 0 0 0) [(0, .box [AS v0.1, AS v0.2.1, AS v0.2.2])] (by simp) ?_
  refine qf (.ptr 64 0 0) [(64, .box [AS v1.1, AS v1.2.1, AS v1.2.2]), (0, .box [AS v0.1, AS v0.2.1, AS v0.2.2])] (by simp) ?_
  refine qp (AI 0) rfl ?_
  refine r_nil ?_
  refine w_reg_seq 192 1024 rfl rfl ?_
  refine qp (.ptr 0 0 0) rfl (qp (AS v0.1) rfl (qp (.ptr 64 0 0) rfl (qp (AS v1.1) rfl ?_)))
  obtain ⟨v1000, e1000, hF⟩ := bind_get hF
  refine qc (AI v1000) [(64, .box [AS v1.1, AS v1.2.1, AS v1.2.2]), (0, .box [AS v0.1, AS v0.2.1, AS v0.2.2])] false (con_cmp_Compare_string e1000) c81_ok (by first | rfl | simp) rfl ?_
  refine qp (.ptr 0 0 1) rfl (qp (AS v0.2.1) rfl (qp (.ptr 64 0 1) rfl (qp (AS v1.2.1) rfl ?_)))
  obtain ⟨v1001, e1001, hF⟩ := bind_get hF
  refine qc (AI v1001) [(64, .box [AS v1.1, AS v1.2.1, AS v1.2.2]), (0, .box [AS v0.1, AS v0.2.1, AS v0.2.2])] false (con_cmp_Compare_string e1001) c81_ok (by first | rfl | simp) rfl ?_
  refine qf (.sl 832 0 ([v1000, v1001].length)) [(832, .row true 1 ([v1000, v1001].map (V.int .i64))), (64, .box [AS v1.1, AS v1.2.1, AS v1.2.2]), (0, .box [AS v0.1, AS v0.2.1, AS v0.2.2])] (by simp [List.take_of_length_le]) ?_
  obtain ⟨v1002, e1002, hF⟩ := bind_get hF
  refine qc (AI v1002) [(832, .row true 1 ([v1000, v1001].map (V.int .i64))), (64, .box [AS v1.1, AS v1.2.1, AS v1.2.2]), (0, .box [AS v0.1, AS v0.2.1, AS v0.2.2])] true (con_cmp_Or_int e1002) c100_ok (by simp [List.take_of_length_le]) rfl ?_
  refine qp (AI v1002) rfl ?_
  refine r_nil ?_
  refine w_ret ?_
  cases hF
  exact endQ_r rfl (.inl ⟨_, _, by first | rfl | (simp [List.take_of_length_le]; first | exact ⟨rfl, rfl⟩ | rfl), by simp, by first | rfl | simp [res_impl_compareBlocks, List.take_of_length_le]⟩)

def c65 : MC := (.seq (.reg [⟨(some 2), none, (.p true (.mv (.c (.bool false))))⟩]) (.seq (.seq (.reg [⟨(some 5), none, (.p true (.mv (.t 0)))⟩, ⟨(some 6), none, (.p true (.len (.t 5)))⟩, ⟨(some 7), none, (.p true (.bin .gtr (.t 6) (.c (.int .i64 32))))⟩]) (.cond (.t 7) (.seq (.reg [⟨(some 2), none, (.p true (.mv (.c (.bool false))))⟩]) .ret) .skip)) (.seq (.seq (.reg [⟨(some 8), none, (.p true (.mv (.t 0)))⟩, ⟨(some 9), none, (.p true (.len (.t 8)))⟩, ⟨(some 10), none, (.p true (.mv (.c (.int .i64 0))))⟩]) (.block 0 (.loop (.seq (.reg [⟨(some 11), none, (.p true (.bin .lss (.t 10) (.t 9)))⟩]) (.seq (.cond (.t 11) .skip (.exit 0)) (.seq (.block 1 (.seq (.reg [⟨(some 12), none, (.p true (.mv (.t 10)))⟩, ⟨(some 13), none, (.p true (.iad (.t 8) (.t 10) 3))⟩, ⟨(some 14), none, (.p true (.ld (.t 13) 3 true))⟩, ⟨(some 4), none, (.f (.alloc [((.str []), (0, false)), ((.str []), (0, false)), ((.str []), (0, false))]))⟩, ⟨(some 3), none, (.p true (.mv (.t 12)))⟩, ⟨none, none, (.f (.st (.t 4) (.t 14) 3))⟩]) (.seq (.reg [⟨(some 15), none, (.p false (.ld (.t 4) 3 true))⟩, ⟨(some 16), none, (.call false 87 [(.t 15)])⟩, ⟨(some 17), none, (.p false (.not (.t 16)))⟩, ⟨(some 18), none, (.p false (.mv (.t 17)))⟩, ⟨(some 19), (some (18, false)), (.p false (.mv (.t 3)))⟩, ⟨(some 20), (some (18, false)), (.p false (.bin .gtr (.t 19) (.c (.int .i64 0))))⟩, ⟨(some 21), (some (18, false)), (.p false (.mv (.t 20)))⟩, ⟨(some 22), (some (21, true)), (.p false (.mv (.t 0)))⟩, ⟨(some 23), (some (21, true)), (.p false (.mv (.t 3)))⟩, ⟨(some 24), (some (21, true)), (.p false (.bin .sub (.t 23) (.c (.int .i64 1))))⟩, ⟨(some 25), (some (21, true)), (.p false (.iad (.t 22) (.t 24) 3))⟩, ⟨(some 26), (some (21, true)), (.p false (.ld (.t 25) 3 true))⟩, ⟨(some 27), (some (21, true)), (.p false (.ld (.t 4) 3 true))⟩, ⟨(some 28), (some (21, true)), (.call false 67 [(.t 26), (.t 27)])⟩, ⟨(some 29), (some (21, true)), (.p false (.bin .geq (.t 28) (.c (.int .i64 0))))⟩, ⟨(some 30), (some (18, false)), (.p false (.pick (.t 21) (.t 29) (.c (.bool false))))⟩, ⟨(some 31), none, (.p false (.pick (.t 18) (.c (.bool true)) (.t 30)))⟩]) (.cond (.t 31) (.seq (.reg [⟨(some 2), none, (.p true (.mv (.c (.bool false))))⟩]) .ret) .skip)))) (.reg [⟨(some 32), none, (.p true (.bin .add (.t 10) (.c (.int .i64 1))))⟩, ⟨(some 10), none, (.p true (.mv (.t 32)))⟩]))))))) (.seq (.reg [⟨(some 2), none, (.p true (.mv (.c (.bool true))))⟩]) .ret))))
theorem c65_is : compFn Try.prog 65 = some (c65, [(.tmp 2)]) := by kernel_rfl
theorem c65_ok : okFn Try.prog 65 = true := by kernel_rfl

def F_impl_ValidBlocks_l0 (v0 : List TBlock) (k0 : Int → Option (Bool)) : Int → Option (Bool)
  | v10 => (bif (decide (v10 < (v0.length : Int))) then ((ix v0 v10).bind fun v1000 => ((F_impl_ValidBlock v1000).bind fun v1001 => (bif (!v1001) then some false
  else (bif (decide ((0 : Int) < v10)) then ((ix v0 (w64 (v10 - 1))).bind fun v1002 => ((F_impl_compareBlocks v1002 v1000).bind fun v1003 => (bif (decide ((0 : Int) ≤ v1003)) then some false
  else k0 (w64 (v10 + 1)))))
  else k0 (w64 (v10 + 1))))))
  else some true)
def F_impl_ValidBlocks (v0 : List TBlock) : Option (Bool) :=
  (bif (decide ((32 : Int) < (v0.length : Int))) then some false
  else loop (F_impl_ValidBlocks_l0 v0) 0)
@[simp] def res_impl_ValidBlocks (r : Bool) : RV := .one (.one (.val (.bool r)))
theorem con_impl_ValidBlocks {v0 : List TBlock} {r : Bool} (hF : F_impl_ValidBlocks v0 = some r) : Con Try.prog 65 [.sl 3 (v0.map eBlock)] (res_impl_ValidBlocks r) := by
  unfold F_impl_ValidBlocks at hF
  refine con_of c65_is fun N => ?_
  refine w_reg_seq 0 64 rfl rfl ?_
  refine qp (AB false) rfl ?_
  refine r_nil ?_
  refine w_seq ?_
  refine w_reg_seq 64 256 rfl rfl ?_
  refine qp (.val none (.sl 3 (v0.map eBlock))) rfl (qp (AI (v0.length : Int)) (ev_len_n rfl) (qp (AB (decide ((32 : Int) < (v0.length : Int)))) rfl ?_))
  refine r_nil ?_
  refine w_condF hF rfl (fun hF => ?_) (fun hF => ?_)
  ·
    refine w_reg_seq 256 320 rfl rfl ?_
    refine qp (AB false) rfl ?_
    refine r_nil ?_
    refine w_ret ?_
    refine thenQ_r ?_
    cases hF
    exact endQ_r rfl (.inl ⟨_, _, by first | rfl | (simp [List.take_of_length_le]; first | exact ⟨rfl, rfl⟩ | rfl), by simp, by first | rfl | simp [res_impl_ValidBlocks, List.take_of_length_le]⟩)
  ·
    refine w_skip ?_
    refine thenQ_n ?_
    refine w_seq ?_
    refine w_reg_seq 256 448 rfl rfl ?_
    refine qp (.val none (.sl 3 (v0.map eBlock))) rfl (qp (AI (v0.length : Int)) (ev_len_n rfl) (qp (AI 0) rfl ?_))
    refine r_nil ?_
    refine w_block ?_
    refine w_ren (l' := [(0, .val none (.sl 3 (v0.map eBlock))), (8, .val none (.sl 3 (v0.map eBlock))), (9, AI (v0.length : Int)), (10, AI 0)]) (L := []) [0, 8, 9, 10] [] 1 (by first | rfl | simp) (by first | rfl | simp) (by decide) (by decide) (by decide) ?_
    refine w_loopF (F_impl_ValidBlocks_l0 v0) (fun s : Int => mkS [(0, .val none (.sl 3 (v0.map eBlock))), (8, .val none (.sl 3 (v0.map eBlock))), (9, AI (v0.length : Int)), (10, AI s)] (fo []) 1) hF ?_
    rintro k0 v10 hF
    rw [F_impl_ValidBlocks_l0] at hF
    try dsimp only
    refine w_reg_seq 1 65 rfl rfl ?_
    refine qp (AB (decide (v10 < (v0.length : Int)))) rfl ?_
    refine r_nil ?_
    refine w_seq ?_
    refine w_condF hF rfl (fun hF => ?_) (fun hF => ?_)
    ·
      refine w_skip ?_
      refine thenQ_n ?_
      refine w_seq ?_
      refine w_block ?_
      refine w_reg_seq 65 449 rfl rfl ?_
      refine qp (AI v10) rfl ?_
      obtain ⟨v1000, e1000, hF⟩ := bind_get hF
      refine qp (.val none (.ptr [.str v1000.1, .str v1000.2.1, .str v1000.2.2])) (ev_iad_n rfl rfl e1000 rfl) (qp (.val none (eBlock v1000)) rfl ?_)
      refine qf (.ptr 257 0 0) [(257, .box [AS [], AS [], AS []])] (by simp) ?_
      refine qp (AI v10) rfl ?_
      refine qf0 (.undef) [(257, .box [AS v1000.1, AS v1000.2.1, AS v1000.2.2]), (257, .box [AS [], AS [], AS []])] (by simp) ?_
      refine r_nil ?_
      refine w_reg_seq 449 1537 rfl rfl ?_
      refine qp (.agg [AS v1000.1, AS v1000.2.1, AS v1000.2.2]) rfl ?_
      obtain ⟨v1001, e1001, hF⟩ := bind_get hF
      refine qc (AB v1001) [(257, .box [AS v1000.1, AS v1000.2.1, AS v1000.2.2]), (257, .box [AS [], AS [], AS []])] false (con_impl_ValidBlock e1001) c87_ok (by first | rfl | simp) rfl ?_
      refine qp (AB (!v1001)) rfl (qp (AB (!v1001)) rfl ?_)
      refine q_case 18 hF rfl (fun hF => ?_) (fun hF => ?_)
      ·
        refine qn rfl (qn rfl (qn rfl (qu rfl (qu rfl (qu rfl (qu rfl (qu rfl ?_)))))))
        refine qu rfl (qu rfl (qu rfl (qn rfl (qp (AB true) rfl ?_))))
        refine r_nil ?_
        refine w_true rfl ?_
        refine w_reg_seq 1537 1601 rfl rfl ?_
        refine qp (AB false) rfl ?_
        refine r_nil ?_
        refine w_ret ?_
        refine blockQ_r ?_
        refine thenQ_r ?_
        refine thenQ_r ?_
        refine blockQ_r ?_
        refine thenQ_r ?_
        cases hF
        exact endQ_r rfl (.inl ⟨_, _, by first | rfl | (simp [List.take_of_length_le]; first | exact ⟨rfl, rfl⟩ | rfl), by simp, by first | rfl | simp [res_impl_ValidBlocks, List.take_of_length_le]⟩)
      ·
        refine qg (AI v10) rfl rfl (qg (AB (decide ((0 : Int) < v10))) rfl rfl (qg (AB (decide ((0 : Int) < v10))) rfl rfl ?_))
        refine q_case 21 hF rfl (fun hF => ?_) (fun hF => ?_)
        ·
          refine qg (.val none (.sl 3 (v0.map eBlock))) rfl rfl (qg (AI v10) rfl rfl (qg (AI (w64 (v10 - 1))) rfl rfl ?_))
          obtain ⟨v1002, e1002, hF⟩ := bind_get hF
          refine qg (.val none (.ptr [.str v1002.1, .str v1002.2.1, .str v1002.2.2])) rfl (ev_iad_n rfl rfl e1002 rfl) (qg (.val none (eBlock v1002)) rfl rfl (qg (.agg [AS v1000.1, AS v1000.2.1, AS v1000.2.2]) rfl rfl ?_))
          obtain ⟨v1003, e1003, hF⟩ := bind_get hF
          refine qcg (AI v1003) [(257, .box [AS v1000.1, AS v1000.2.1, AS v1000.2.2]), (257, .box [AS [], AS [], AS []])] false rfl (con_impl_compareBlocks e1003) c67_ok (by first | rfl | simp) rfl ?_
          refine qg (AB (decide ((0 : Int) ≤ v1003))) rfl rfl (qg (AB (decide ((0 : Int) ≤ v1003))) rfl rfl (qp (AB (decide ((0 : Int) ≤ v1003))) rfl ?_))
          refine r_nil ?_
          refine w_condF hF rfl (fun hF => ?_) (fun hF => ?_)
          ·
            refine w_reg_seq 1537 1601 rfl rfl ?_
            refine qp (AB false) rfl ?_
            refine r_nil ?_
            refine w_ret ?_
            refine blockQ_r ?_
            refine thenQ_r ?_
            refine thenQ_r ?_
            refine blockQ_r ?_
            refine thenQ_r ?_
            cases hF
            exact endQ_r rfl (.inl ⟨_, _, by first | rfl | (simp [List.take_of_length_le]; first | exact ⟨rfl, rfl⟩ | rfl), by simp, by first | rfl | simp [res_impl_ValidBlocks, List.take_of_length_le]⟩)
          ·
            refine w_skip ?_
            refine blockQ_n ?_
            refine thenQ_n ?_
            refine w_reg 1537 1665 rfl rfl ?_
            refine qp (AI (w64 (v10 + 1))) rfl (qp (AI (w64 (v10 + 1))) rfl ?_)
            refine r_nil ?_
            refine thenQ_n ?_
            refine aw_ren (l' := [(0, .val none (.sl 3 (v0.map eBlock))), (8, .val none (.sl 3 (v0.map eBlock))), (9, AI (v0.length : Int)), (10, AI (w64 (v10 + 1)))]) (L := []) [0, 8, 9, 10] [] 1 (by first | rfl | simp) (by first | rfl | simp) (by decide) (by decide) (by decide) ⟨_, by rfl, hF⟩
        ·
          refine qn rfl (qn rfl (qn rfl (qn rfl (qn rfl (qn rfl (qn rfl (qn rfl ?_)))))))
          refine qg (AB false) rfl rfl (qp (AB false) rfl ?_)
          refine r_nil ?_
          refine w_false rfl ?_
          refine w_skip ?_
          refine blockQ_n ?_
          refine thenQ_n ?_
          refine w_reg 1537 1665 rfl rfl ?_
          refine qp (AI (w64 (v10 + 1))) rfl (qp (AI (w64 (v10 + 1))) rfl ?_)
          refine r_nil ?_
          refine thenQ_n ?_
          refine aw_ren (l' := [(0, .val none (.sl 3 (v0.map eBlock))), (8, .val none (.sl 3 (v0.map eBlock))), (9, AI (v0.length : Int)), (10, AI (w64 (v10 + 1)))]) (L := []) [0, 8, 9, 10] [] 1 (by first | rfl | simp) (by first | rfl | simp) (by decide) (by decide) (by decide) ⟨_, by rfl, hF⟩
    ·
      refine w_exit ?_
      refine thenQ_e ?_
      refine thenQ_e ?_
      refine blockQ_e ?_
      refine thenQ_n ?_
      refine w_reg_seq 65 129 rfl rfl ?_
      refine qp (AB true) rfl ?_
      refine r_nil ?_
      refine w_ret ?_
      cases hF
      exact endQ_r rfl (.inl ⟨_, _, by first | rfl | (simp [List.take_of_length_le]; first | exact ⟨rfl, rfl⟩ | rfl), by simp, by first | rfl | simp [res_impl_ValidBlocks, List.take_of_length_le]⟩)

def c66 : MC := (.seq (.reg [⟨(some 4), none, (.f (.box (.t 1)))⟩, ⟨(some 6), none, (.p true (.mv (.c (.int .i64 0))))⟩, ⟨(some 7), none, (.p true (.mv (.c (.bool false))))⟩]) (.seq (.reg [⟨(some 12), none, (.p true (.mv (.t 0)))⟩, ⟨(some 13), none, (.p true (.len (.t 12)))⟩, ⟨(some 8), none, (.p true (.mv (.t 13)))⟩]) (.seq (.reg [⟨(some 14), none, (.p true (.mv (.t 8)))⟩, ⟨(some 9), none, (.p true (.mv (.c (.int .i64 0))))⟩, ⟨(some 10), none, (.p true (.mv (.t 14)))⟩]) (.seq (.block 0 (.loop (.seq (.seq (.reg [⟨(some 15), none, (.p true (.mv (.t 9)))⟩, ⟨(some 16), none, (.p true (.mv (.t 10)))⟩, ⟨(some 17), none, (.p true (.bin .lss (.t 15) (.t 16)))⟩]) (.cond (.t 17) .skip (.exit 0))) (.block 1 (.seq (.reg [⟨(some 18), none, (.p true (.mv (.t 9)))⟩, ⟨(some 19), none, (.p true (.mv (.t 10)))⟩, ⟨(some 20), none, (.p true (.bin .add (.t 18) (.t 19)))⟩, ⟨(some 21), none, (.p true (.conv .u64 (.t 20)))⟩, ⟨(some 22), none, (.p true (.bin .shr (.t 21) (.c (.int .u64 1))))⟩, ⟨(some 23), none, (.p true (.conv .i64 (.t 22)))⟩, ⟨(some 11), none, (.p true (.mv (.t 23)))⟩]) (.seq (.reg [⟨(some 24), none, (.p false (.mv (.t 2)))⟩, ⟨(some 25), none, (.p false (.mv (.t 0)))⟩, ⟨(some 26), none, (.p false (.mv (.t 11)))⟩, ⟨(some 27), none, (.p false (.iad (.t 25) (.t 26) 3))⟩, ⟨(some 28), none, (.p false (.ld (.t 27) 3 true))⟩, ⟨(some 29), none, (.p false (.ld (.t 4) 3 true))⟩, ⟨(some 30), none, (.callv (.t 24) [(.t 28), (.t 29)])⟩, ⟨(some 31), none, (.p false (.bin .lss (.t 30) (.c (.int .i64 0))))⟩]) (.cond (.t 31) (.reg [⟨(some 32), none, (.p true (.mv (.t 11)))⟩, ⟨(some 33), none, (.p true (.bin .add (.t 32) (.c (.int .i64 1))))⟩, ⟨(some 9), none, (.p true (.mv (.t 33)))⟩]) (.reg [⟨(some 34), none, (.p true (.mv (.t 11)))⟩, ⟨(some 10), none, (.p true (.mv (.t 34)))⟩])))))))) (.seq (.reg [⟨(some 35), none, (.p false (.mv (.t 9)))⟩, ⟨(some 36), none, (.p false (.mv (.t 9)))⟩, ⟨(some 37), none, (.p false (.mv (.t 8)))⟩, ⟨(some 38), none, (.p false (.bin .lss (.t 36) (.t 37)))⟩, ⟨(some 39), none, (.p false (.mv (.t 38)))⟩, ⟨(some 40), (some (39, true)), (.p false (.mv (.t 2)))⟩, ⟨(some 41), (some (39, true)), (.p false (.mv (.t 0)))⟩, ⟨(some 42), (some (39, true)), (.p false (.mv (.t 9)))⟩, ⟨(some 43), (some (39, true)), (.p false (.iad (.t 41) (.t 42) 3))⟩, ⟨(some 44), (some (39, true)), (.p false (.ld (.t 43) 3 true))⟩, ⟨(some 45), (some (39, true)), (.p false (.ld (.t 4) 3 true))⟩, ⟨(some 46), (some (39, true)), (.callv (.t 40) [(.t 44), (.t 45)])⟩, ⟨(some 47), (some (39, true)), (.p false (.bin .eql (.t 46) (.c (.int .i64 0))))⟩, ⟨(some 48), none, (.p false (.pick (.t 39) (.t 47) (.c (.bool false))))⟩, ⟨(some 6), none, (.p false (.mv (.t 35)))⟩, ⟨(some 7), none, (.p false (.mv (.t 48)))⟩]) .ret)))))
theorem c66_is : compFn Try.prog 66 = some (c66, [(.tmp 6), (.tmp 7)]) := by kernel_rfl
theorem c66_ok : okFn Try.prog 66 = true := by kernel_rfl

def F_slices_BinarySearchFunc_SBlock_Block_l0 (v0 : List TBlock) (v1 : TBlock) (k0 : Int × Int → Option (Int × Bool)) : Int × Int → Option (Int × Bool)
  | (v10, v11) => (bif (decide (v10 < v11)) then (need (0 ≤ (1 : Int)) (((ix v0 (w64 (Int.fdiv (IntKind.wrap .u64 (w64 (v10 + v11))) (2 ^ (min ((1 : Int)).toNat (IntKind.bits .u64)))))).bind fun v1001 => ((F_impl_compareBlocks v1001 v1).bind fun v1002 => (bif (decide (v1002 < (0 : Int))) then k0 (w64 ((w64 (Int.fdiv (IntKind.wrap .u64 (w64 (v10 + v11))) (2 ^ (min ((1 : Int)).toNat (IntKind.bits .u64))))) + 1), v11)
  else k0 (v10, w64 (Int.fdiv (IntKind.wrap .u64 (w64 (v10 + v11))) (2 ^ (min ((1 : Int)).toNat (IntKind.bits .u64))))))))))
  else (bif (decide (v10 < (v0.length : Int))) then ((ix v0 v10).bind fun v1003 => ((F_impl_compareBlocks v1003 v1).bind fun v1004 => some (v10, (decide (v1004 = (0 : Int))))))
  else some (v10, false)))
def F_slices_BinarySearchFunc_SBlock_Block (v0 : List TBlock) (v1 : TBlock) : Option (Int × Bool) :=
  loop (F_slices_BinarySearchFunc_SBlock_Block_l0 v0 v1) (0, (v0.length : Int))
@[simp] def res_slices_BinarySearchFunc_SBlock_Block (r : Int × Bool) : RV := .tup [.one (.val (.int .i64 r.1)), .one (.val (.bool r.2))]
theorem con_slices_BinarySearchFunc_SBlock_Block {v0 : List TBlock} {v1 : TBlock} {r : Int × Bool} (hF : F_slices_BinarySearchFunc_SBlock_Block v0 v1 = some r) : Con Try.prog 66 [.sl 3 (v0.map eBlock), eBlock v1, .fn 67 []] (res_slices_BinarySearchFunc_SBlock_Block r) := by
  unfold F_slices_BinarySearchFunc_SBlock_Block at hF
  refine con_of c66_is fun N => ?_
  refine w_reg_seq 0 192 rfl rfl ?_
  refine qf (.ptr 0 0 0) [(0, .box [AS v1.1, AS v1.2.1, AS v1.2.2])] (by simp) ?_
  refine qp (AI 0) rfl (qp (AB false) rfl ?_)
  refine r_nil ?_
  refine w_reg_seq 192 384 rfl rfl ?_
  refine qp (.val none (.sl 3 (v0.map eBlock))) rfl (qp (AI (v0.length : Int)) (ev_len_n rfl) (qp (AI (v0.length : Int)) rfl ?_))
  refine r_nil ?_
  refine w_reg_seq 384 576 rfl rfl ?_
  refine qp (AI (v0.length : Int)) rfl (qp (AI 0) rfl (qp (AI (v0.length : Int)) rfl ?_))
  refine r_nil ?_
  refine w_seq ?_
  refine w_block ?_
  refine w_ren (l' := [(0, .val none (.sl 3 (v0.map eBlock))), (2, .val none (.fn 67 [])), (4, .ptr 0 0 0), (8, AI (v0.length : Int)), (9, AI 0), (10, AI (v0.length : Int))]) (L := [(0, .box [AS v1.1, AS v1.2.1, AS v1.2.2])]) [0, 2, 4, 8, 9, 10] [(0, 0)] 1 (by first | rfl | simp) (by first | rfl | simp) (by decide) (by decide) (by decide) ?_
  refine w_loopF (F_slices_BinarySearchFunc_SBlock_Block_l0 v0 v1) (fun s : Int × Int => mkS [(0, .val none (.sl 3 (v0.map eBlock))), (2, .val none (.fn 67 [])), (4, .ptr 0 0 0), (8, AI (v0.length : Int)), (9, AI s.1), (10, AI s.2)] (fo [(0, .box [AS v1.1, AS v1.2.1, AS v1.2.2])]) 1) hF ?_
  rintro k0 ⟨v10, v11⟩ hF
  rw [F_slices_BinarySearchFunc_SBlock_Block_l0] at hF
  try dsimp only
  refine w_seq ?_
  refine w_reg_seq 1 193 rfl rfl ?_
  refine qp (AI v10) rfl (qp (AI v11) rfl (qp (AB (decide (v10 < v11))) rfl ?_))
  refine r_nil ?_
  refine w_condF hF rfl (fun hF => ?_) (fun hF => ?_)
  ·
    refine w_skip ?_
    refine thenQ_n ?_
    refine w_block ?_
    refine w_reg_seq 193 641 rfl rfl ?_
    refine qp (AI v10) rfl (qp (AI v11) rfl (qp (AI (w64 (v10 + v11))) rfl (qp (.val none (.int .u64 (IntKind.wrap .u64 (w64 (v10 + v11))))) rfl ?_)))
    obtain ⟨g1000, hF⟩ := need_some hF
    refine qp (.val none (.int .u64 (Int.fdiv (IntKind.wrap .u64 (w64 (v10 + v11))) (2 ^ (min ((1 : Int)).toNat (IntKind.bits .u64)))))) (ev_shr rfl rfl g1000) (qp (AI (w64 (Int.fdiv (IntKind.wrap .u64 (w64 (v10 + v11))) (2 ^ (min ((1 : Int)).toNat (IntKind.bits .u64)))))) rfl (qp (AI (w64 (Int.fdiv (IntKind.wrap .u64 (w64 (v10 + v11))) (2 ^ (min ((1 : Int)).toNat (IntKind.bits .u64)))))) rfl ?_))
    refine r_nil ?_
    refine w_reg_seq 641 1153 rfl rfl ?_
    refine qp (.val none (.fn 67 [])) rfl (qp (.val none (.sl 3 (v0.map eBlock))) rfl (qp (AI (w64 (Int.fdiv (IntKind.wrap .u64 (w64 (v10 + v11))) (2 ^ (min ((1 : Int)).toNat (IntKind.bits .u64)))))) rfl ?_))
    obtain ⟨v1001, e1001, hF⟩ := bind_get hF
    refine qp (.val none (.ptr [.str v1001.1, .str v1001.2.1, .str v1001.2.2])) (ev_iad_n rfl rfl e1001 rfl) (qp (.val none (eBlock v1001)) rfl (qp (.agg [AS v1.1, AS v1.2.1, AS v1.2.2]) rfl ?_))
    obtain ⟨v1002, e1002, hF⟩ := bind_get hF
    refine qcv (AI v1002) [(0, .box [AS v1.1, AS v1.2.1, AS v1.2.2])] false rfl (con_impl_compareBlocks e1002) c67_ok (by first | rfl | simp) rfl ?_
    refine qp (AB (decide (v1002 < (0 : Int)))) rfl ?_
    refine r_nil ?_
    refine w_condF hF rfl (fun hF => ?_) (fun hF => ?_)
    ·
      refine w_reg 1153 1345 rfl rfl ?_
      refine qp (AI (w64 (Int.fdiv (IntKind.wrap .u64 (w64 (v10 + v11))) (2 ^ (min ((1 : Int)).toNat (IntKind.bits .u64)))))) rfl (qp (AI (w64 ((w64 (Int.fdiv (IntKind.wrap .u64 (w64 (v10 + v11))) (2 ^ (min ((1 : Int)).toNat (IntKind.bits .u64))))) + 1))) rfl (qp (AI (w64 ((w64 (Int.fdiv (IntKind.wrap .u64 (w64 (v10 + v11))) (2 ^ (min ((1 : Int)).toNat (IntKind.bits .u64))))) + 1))) rfl ?_))
      refine r_nil ?_
      refine blockQ_n ?_
      refine thenQ_n ?_
      refine aw_ren (l' := [(0, .val none (.sl 3 (v0.map eBlock))), (2, .val none (.fn 67 [])), (4, .ptr 0 0 0), (8, AI (v0.length : Int)), (9, AI (w64 ((w64 (Int.fdiv (IntKind.wrap .u64 (w64 (v10 + v11))) (2 ^ (min ((1 : Int)).toNat (IntKind.bits .u64))))) + 1))), (10, AI v11)]) (L := [(0, .box [AS v1.1, AS v1.2.1, AS v1.2.2])]) [0, 2, 4, 8, 9, 10] [(0, 0)] 1 (by first | rfl | simp) (by first | rfl | simp) (by decide) (by decide) (by decide) ⟨_, by rfl, hF⟩
    ·
      refine w_reg 1153 1281 rfl rfl ?_
      refine qp (AI (w64 (Int.fdiv (IntKind.wrap .u64 (w64 (v10 + v11))) (2 ^ (min ((1 : Int)).toNat (IntKind.bits .u64)))))) rfl (qp (AI (w64 (Int.fdiv (IntKind.wrap .u64 (w64 (v10 + v11))) (2 ^ (min ((1 : Int)).toNat (IntKind.bits .u64)))))) rfl ?_)
      refine r_nil ?_
      refine blockQ_n ?_
      refine thenQ_n ?_
      refine aw_ren (l' := [(0, .val none (.sl 3 (v0.map eBlock))), (2, .val none (.fn 67 [])), (4, .ptr 0 0 0), (8, AI (v0.length : Int)), (9, AI v10), (10, AI (w64 (Int.fdiv (IntKind.wrap .u64 (w64 (v10 + v11))) (2 ^ (min ((1 : Int)).toNat (IntKind.bits .u64))))))]) (L := [(0, .box [AS v1.1, AS v1.2.1, AS v1.2.2])]) [0, 2, 4, 8, 9, 10] [(0, 0)] 1 (by first | rfl | simp) (by first | rfl | simp) (by decide) (by decide) (by decide) ⟨_, by rfl, hF⟩
  ·
    refine w_exit ?_
    refine thenQ_e ?_
    refine thenQ_e ?_
    refine blockQ_e ?_
    refine thenQ_n ?_
    refine w_reg_seq 193 1217 rfl rfl ?_
    refine qp (AI v10) rfl (qp (AI v10) rfl (qp (AI (v0.length : Int)) rfl (qp (AB (decide (v10 < (v0.length : Int)))) rfl (qp (AB (decide (v10 < (v0.length : Int)))) rfl ?_))))
    refine q_case 39 hF rfl (fun hF => ?_) (fun hF => ?_)
    ·
      refine qg (.val none (.fn 67 [])) rfl rfl (qg (.val none (.sl 3 (v0.map eBlock))) rfl rfl (qg (AI v10) rfl rfl ?_))
      obtain ⟨v1003, e1003, hF⟩ := bind_get hF
      refine qg (.val none (.ptr [.str v1003.1, .str v1003.2.1, .str v1003.2.2])) rfl (ev_iad_n rfl rfl e1003 rfl) (qg (.val none (eBlock v1003)) rfl rfl (qg (.agg [AS v1.1, AS v1.2.1, AS v1.2.2]) rfl rfl ?_))
      obtain ⟨v1004, e1004, hF⟩ := bind_get hF
      refine qcvg (AI v1004) [(0, .box [AS v1.1, AS v1.2.1, AS v1.2.2])] false rfl rfl (con_impl_compareBlocks e1004) c67_ok (by first | rfl | simp) rfl ?_
      refine qg (AB (decide (v1004 = (0 : Int)))) rfl rfl (qp (AB (decide (v1004 = (0 : Int)))) rfl (qp (AI v10) rfl (qp (AB (decide (v1004 = (0 : Int)))) rfl ?_)))
      refine r_nil ?_
      refine w_ret ?_
      cases hF
      exact endQ_r rfl (.inl ⟨_, _, by first | rfl | (simp [List.take_of_length_le]; first | exact ⟨rfl, rfl⟩ | rfl), by simp, by first | rfl | simp [res_slices_BinarySearchFunc_SBlock_Block, List.take_of_length_le]⟩)
    ·
      refine qn rfl (qn rfl (qn rfl (qn rfl (qn rfl (qn rfl (qn rfl (qn rfl ?_)))))))
      refine qp (AB false) rfl (qp (AI v10) rfl (qp (AB false) rfl ?_))
      refine r_nil ?_
      refine w_ret ?_
      cases hF
      exact endQ_r rfl (.inl ⟨_, _, by first | rfl | (simp [List.take_of_length_le]; first | exact ⟨rfl, rfl⟩ | rfl), by simp, by first | rfl | simp [res_slices_BinarySearchFunc_SBlock_Block, List.take_of_length_le]⟩)

def c26 : MC := (.seq (.reg [⟨(some 6), none, (.p true (.mv (.c (.str []))))⟩, ⟨(some 7), none, (.p true (.mv (.c (.int .i64 0))))⟩]) (.seq (.seq (.reg [⟨(some 10), none, (.p true (.mv (.t 0)))⟩, ⟨(some 11), none, (.call true 65 [(.t 10)])⟩, ⟨(some 12), none, (.p true (.not (.t 11)))⟩]) (.cond (.t 12) (.seq (.reg [⟨(some 6), none, (.p true (.mv (.c (.str []))))⟩, ⟨(some 7), none, (.p true (.mv (.c (.int .i64 1))))⟩]) .ret) .skip)) (.seq (.reg [⟨(some 14), none, (.p true (.mv (.t 0)))⟩, ⟨(some 15), none, (.p true (.mv (.t 1)))⟩, ⟨(some 16), none, (.p true (.mv (.t 2)))⟩, ⟨(some 17), none, (.f (.bld [((.str []), (0, true)), ((.str []), (0, true)), ((.str []), (0, false))] [(0, (1, (.t 15))), (1, (1, (.t 16)))]))⟩, ⟨(some 18), none, (.call true 66 [(.t 14), (.t 17), (.f 67)])⟩, ⟨(some 13), none, (.p true (.mv (.t 18)))⟩, ⟨(some 19), none, (.p true (.ext (.t 13) 0))⟩, ⟨(some 20), none, (.p true (.ext (.t 13) 1))⟩, ⟨(some 8), none, (.p true (.mv (.t 19)))⟩, ⟨(some 9), none, (.p true (.mv (.t 20)))⟩]) (.seq (.seq (.reg [⟨(some 21), none, (.p true (.mv (.t 9)))⟩, ⟨(some 22), none, (.p true (.not (.t 21)))⟩]) (.cond (.t 22) (.seq (.reg [⟨(some 6), none, (.p true (.mv (.c (.str []))))⟩, ⟨(some 7), none, (.p true (.mv (.c (.int .i64 3))))⟩]) .ret) .skip)) (.seq (.reg [⟨(some 23), none, (.p true (.mv (.t 0)))⟩, ⟨(some 24), none, (.p true (.mv (.t 8)))⟩, ⟨(some 25), none, (.p true (.iad (.t 23) (.t 24) 3))⟩, ⟨(some 26), none, (.p true (.fad (.t 25) 2))⟩, ⟨(some 27), none, (.p true (.ld (.t 26) 1 false))⟩, ⟨(some 6), none, (.p true (.mv (.t 27)))⟩, ⟨(some 7), none, (.p true (.mv (.c (.int .i64 0))))⟩]) .ret)))))
theorem c26_is : compFn Try.prog 26 = some (c26, [(.tmp 6), (.tmp 7)]) := by kernel_rfl
theorem c26_ok : okFn Try.prog 26 = true := by kernel_rfl

def F_impl_BlockNamed (v0 : List TBlock) (v1 : List UInt8) (v2 : List UInt8) : Option ((List UInt8) × Int) :=
  ((F_impl_ValidBlocks v0).bind fun v1000 => (bif (!v1000) then some ([], 1)
  else ((F_slices_BinarySearchFunc_SBlock_Block v0 (v1, v2, [])).bind fun v1001 => (bif (!v1001.2) then some ([], 3)
  else ((ix v0 v1001.1).bind fun v1002 => some (v1002.2.2, 0))))))
@[simp] def res_impl_BlockNamed (r : (List UInt8) × Int) : RV := .tup [.one (.val (.str r.1)), .one (.val (.int .i64 r.2))]
theorem con_impl_BlockNamed {v0 : List TBlock} {v1 : List UInt8} {v2 : List UInt8} {r : (List UInt8) × Int} (hF : F_impl_BlockNamed v0 v1 v2 = some r) : Con Try.prog 26 [.sl 3 (v0.map eBlock), .str v1, .str v2] (res_impl_BlockNamed r) := by
  unfold F_impl_BlockNamed at hF
  refine con_of c26_is fun N => ?_
  refine w_reg_seq 0 128 rfl rfl ?_
  refine qp (AS []) rfl (qp (AI 0) rfl ?_)
  refine r_nil ?_
  refine w_seq ?_
  refine w_reg_seq 128 320 rfl rfl ?_
  refine qp (.val none (.sl 3 (v0.map eBlock))) rfl ?_
  obtain ⟨v1000, e1000, hF⟩ := bind_get hF
  refine qc (AB v1000) [] false (con_impl_ValidBlocks e1000) c65_ok (by first | rfl | simp) rfl ?_
  refine qp (AB (!v1000)) rfl ?_
  refine r_nil ?_
  refine w_condF hF rfl (fun hF => ?_) (fun hF => ?_)
  ·
    refine w_reg_seq 320 448 rfl rfl ?_
    refine qp (AS []) rfl (qp (AI 1) rfl ?_)
    refine r_nil ?_
    refine w_ret ?_
    refine thenQ_r ?_
    cases hF
    exact endQ_r rfl (.inl ⟨_, _, by first | rfl | (simp [List.take_of_length_le]; first | exact ⟨rfl, rfl⟩ | rfl), by simp, by first | rfl | simp [res_impl_BlockNamed, List.take_of_length_le]⟩)
  ·
    refine w_skip ?_
    refine thenQ_n ?_
    refine w_reg_seq 320 960 rfl rfl ?_
    refine qp (.val none (.sl 3 (v0.map eBlock))) rfl (qp (AS v1) rfl (qp (AS v2) rfl ?_))
    refine qf (.agg [AS v1, AS v2, AS []]) [] (by simp) ?_
    obtain ⟨v1001, e1001, hF⟩ := bind_get hF
    refine qc (.tup [AI v1001.1, AB v1001.2]) [] false (con_slices_BinarySearchFunc_SBlock_Block e1001) c66_ok (by first | rfl | simp) rfl ?_
    refine qp (.tup [AI v1001.1, AB v1001.2]) rfl (qp (AI v1001.1) rfl (qp (AB v1001.2) rfl (qp (AI v1001.1) rfl (qp (AB v1001.2) rfl ?_))))
    refine r_nil ?_
    refine w_seq ?_
    refine w_reg_seq 960 1088 rfl rfl ?_
    refine qp (AB v1001.2) rfl (qp (AB (!v1001.2)) rfl ?_)
    refine r_nil ?_
    refine w_condF hF rfl (fun hF => ?_) (fun hF => ?_)
    ·
      refine w_reg_seq 1088 1216 rfl rfl ?_
      refine qp (AS []) rfl (qp (AI 3) rfl ?_)
      refine r_nil ?_
      refine w_ret ?_
      refine thenQ_r ?_
      cases hF
      exact endQ_r rfl (.inl ⟨_, _, by first | rfl | (simp [List.take_of_length_le]; first | exact ⟨rfl, rfl⟩ | rfl), by simp, by first | rfl | simp [res_impl_BlockNamed, List.take_of_length_le]⟩)
    ·
      refine w_skip ?_
      refine thenQ_n ?_
      refine w_reg_seq 1088 1536 rfl rfl ?_
      refine qp (.val none (.sl 3 (v0.map eBlock))) rfl (qp (AI v1001.1) rfl ?_)
      obtain ⟨v1002, e1002, hF⟩ := bind_get hF
      refine qp (.val none (.ptr [.str v1002.1, .str v1002.2.1, .str v1002.2.2])) (ev_iad_n rfl rfl e1002 rfl) (qp (.val none (.ptr [.str v1002.2.2])) rfl (qp (AS v1002.2.2) rfl (qp (AS v1002.2.2) rfl (qp (AI 0) rfl ?_))))
      refine r_nil ?_
      refine w_ret ?_
      cases hF
      exact endQ_r rfl (.inl ⟨_, _, by first | rfl | (simp [List.take_of_length_le]; first | exact ⟨rfl, rfl⟩ | rfl), by simp, by first | rfl | simp [res_impl_BlockNamed, List.take_of_length_le]⟩)

def c68 : MC := (.seq (.reg [⟨(some 2), none, (.f (.box (.t 0)))⟩, ⟨(some 3), none, (.f (.box (.t 1)))⟩, ⟨(some 4), none, (.p true (.mv (.c (.bool false))))⟩]) (.seq (.seq (.reg [⟨(some 5), none, (.p true (.fad (.t 2) 0))⟩, ⟨(some 6), none, (.p true (.ld (.t 5) 1 false))⟩, ⟨(some 7), none, (.p true (.fad (.t 3) 0))⟩, ⟨(some 8), none, (.p true (.ld (.t 7) 1 false))⟩, ⟨(some 9), none, (.p true (.bin .neq (.t 6) (.t 8)))⟩]) (.cond (.t 9) (.seq (.reg [⟨(some 4), none, (.p true (.mv (.c (.bool false))))⟩]) .ret) .skip)) (.seq (.seq (.reg [⟨(some 10), none, (.p true (.fad (.t 2) 1))⟩, ⟨(some 11), none, (.p true (.ld (.t 10) 1 false))⟩, ⟨(some 12), none, (.p true (.fad (.t 3) 1))⟩, ⟨(some 13), none, (.p true (.ld (.t 12) 1 false))⟩, ⟨(some 14), none, (.p true (.bin .neq (.t 11) (.t 13)))⟩]) (.cond (.t 14) (.seq (.reg [⟨(some 4), none, (.p true (.mv (.c (.bool false))))⟩]) .ret) .skip)) (.seq (.seq (.reg [⟨(some 15), none, (.p true (.fad (.t 2) 2))⟩, ⟨(some 16), none, (.p true (.ld (.t 15) 1 false))⟩, ⟨(some 17), none, (.p true (.fad (.t 3) 2))⟩, ⟨(some 18), none, (.p true (.ld (.t 17) 1 false))⟩, ⟨(some 19), none, (.p true (.bin .neq (.t 16) (.t 18)))⟩]) (.cond (.t 19) (.seq (.reg [⟨(some 4), none, (.p true (.mv (.c (.bool false))))⟩]) .ret) .skip)) (.seq (.reg [⟨(some 4), none, (.p true (.mv (.c (.bool true))))⟩]) .ret)))))
theorem c68_is : compFn Try.prog 68 = some (c68, [(.tmp 4)]) := by kernel_rfl
theorem c68_ok : okFn Try.prog 68 = true := by kernel_rfl

def F_laws_eqBlock (v0 : TBlock) (v1 : TBlock) : Option (Bool) :=
  (bif (decide (v0.1 ≠ v1.1)) then some false
  else (bif (decide (v0.2.1 ≠ v1.2.1)) then some false
  else (bif (decide (v0.2.2 ≠ v1.2.2)) then some false
  else some true)))
@[simp] def res_laws_eqBlock (r : Bool) : RV := .one (.one (.val (.bool r)))
theorem con_laws_eqBlock {v0 : TBlock} {v1 : TBlock} {r : Bool} (hF : F_laws_eqBlock v0 v1 = some r) : Con Try.prog 68 [eBlock v0, eBlock v1] (res_laws_eqBlock r) := by
  unfold F_laws_eqBlock at hF
  refine con_of c68_is fun N => ?_
  refine w_reg_seq 0 192 rfl rfl ?_
  refine qf (.ptr 0 0 0) [(0, .box [AS v0.1, AS v0.2.1, AS v0.2.2])] (by simp) ?_
  refine qf (.ptr 64 0 0) [(64, .box [AS v1.1, AS v1.2.1, AS v1.2.2]), (0, .box [AS v0.1, AS v0.2.1, AS v0.2.2])] (by simp) ?_
  refine qp (AB false) rfl ?_
  refine r_nil ?_
  refine w_seq ?_
  refine w_reg_seq 192 512 rfl rfl ?_
  refine qp (.ptr 0 0 0) rfl (qp (AS v0.1) rfl (qp (.ptr 64 0 0) rfl (qp (AS v1.1) rfl (qp (AB (decide (v0.1 ≠ v1.1))) rfl ?_))))
  refine r_nil ?_
  refine w_condF hF rfl (fun hF => ?_) (fun hF => ?_)
  ·
    refine w_reg_seq 512 576 rfl rfl ?_
    refine qp (AB false) rfl ?_
    refine r_nil ?_
    refine w_ret ?_
    refine thenQ_r ?_
    cases hF
    exact endQ_r rfl (.inl ⟨_, _, by first | rfl | (simp [List.take_of_length_le]; first | exact ⟨rfl, rfl⟩ | rfl), by simp, by first | rfl | simp [res_laws_eqBlock, List.take_of_length_le]⟩)
  ·
    refine w_skip ?_
    refine thenQ_n ?_
    refine w_seq ?_
    refine w_reg_seq 512 832 rfl rfl ?_
    refine qp (.ptr 0 0 1) rfl (qp (AS v0.2.1) rfl (qp (.ptr 64 0 1) rfl (qp (AS v1.2.1) rfl (qp (AB (decide (v0.2.1 ≠ v1.2.1))) rfl ?_))))
    refine r_nil ?_
    refine w_condF hF rfl (fun hF => ?_) (fun hF => ?_)
    ·
      refine w_reg_seq 832 896 rfl rfl ?_
      refine qp (AB false) rfl ?_
      refine r_nil ?_
      refine w_ret ?_
      refine thenQ_r ?_
      cases hF
      exact endQ_r rfl (.inl ⟨_, _, by first | rfl | (simp [List.take_of_length_le]; first | exact ⟨rfl, rfl⟩ | rfl), by simp, by first | rfl | simp [res_laws_eqBlock, List.take_of_length_le]⟩)
    ·
      refine w_skip ?_
      refine thenQ_n ?_
      refine w_seq ?_
      refine w_reg_seq 832 1152 rfl rfl ?_
      refine qp (.ptr 0 0 2) rfl (qp (AS v0.2.2) rfl (qp (.ptr 64 0 2) rfl (qp (AS v1.2.2) rfl (qp (AB (decide (v0.2.2 ≠ v1.2.2))) rfl ?_))))
      refine r_nil ?_
      refine w_condF hF rfl (fun hF => ?_) (fun hF => ?_)
      ·
        refine w_reg_seq 1152 1216 rfl rfl ?_
        refine qp (AB false) rfl ?_
        refine r_nil ?_
        refine w_ret ?_
        refine thenQ_r ?_
        cases hF
        exact endQ_r rfl (.inl ⟨_, _, by first | rfl | (simp [List.take_of_length_le]; first | exact ⟨rfl, rfl⟩ | rfl), by simp, by first | rfl | simp [res_laws_eqBlock, List.take_of_length_le]⟩)
      ·
        refine w_skip ?_
        refine thenQ_n ?_
        refine w_reg_seq 1152 1216 rfl rfl ?_
        refine qp (AB true) rfl ?_
        refine r_nil ?_
        refine w_ret ?_
        cases hF
        exact endQ_r rfl (.inl ⟨_, _, by first | rfl | (simp [List.take_of_length_le]; first | exact ⟨rfl, rfl⟩ | rfl), by simp, by first | rfl | simp [res_laws_eqBlock, List.take_of_length_le]⟩)

def c27 : MC := (.seq (.reg [⟨(some 4), none, (.p true (.mv (.c (.bool false))))⟩]) (.seq (.seq (.reg [⟨(some 6), none, (.p true (.mv (.t 0)))⟩, ⟨(some 7), none, (.p true (.len (.t 6)))⟩, ⟨(some 8), none, (.p true (.mv (.t 1)))⟩, ⟨(some 9), none, (.p true (.len (.t 8)))⟩, ⟨(some 10), none, (.p true (.bin .neq (.t 7) (.t 9)))⟩]) (.cond (.t 10) (.seq (.reg [⟨(some 4), none, (.p true (.mv (.c (.bool false))))⟩]) .ret) .skip)) (.seq (.seq (.reg [⟨(some 5), none, (.p true (.mv (.c (.int .i64 0))))⟩]) (.block 0 (.loop (.seq (.seq (.reg [⟨(some 11), none, (.p true (.mv (.t 5)))⟩, ⟨(some 12), none, (.p true (.mv (.t 0)))⟩, ⟨(some 13), none, (.p true (.len (.t 12)))⟩, ⟨(some 14), none, (.p true (.bin .lss (.t 11) (.t 13)))⟩]) (.cond (.t 14) .skip (.exit 0))) (.seq (.block 1 (.seq (.reg [⟨(some 17), none, (.p false (.mv (.t 0)))⟩, ⟨(some 18), none, (.p false (.mv (.t 5)))⟩, ⟨(some 19), none, (.p false (.iad (.t 17) (.t 18) 3))⟩, ⟨(some 20), none, (.p false (.ld (.t 19) 3 true))⟩, ⟨(some 21), none, (.p false (.mv (.t 1)))⟩, ⟨(some 22), none, (.p false (.mv (.t 5)))⟩, ⟨(some 23), none, (.p false (.iad (.t 21) (.t 22) 3))⟩, ⟨(some 24), none, (.p false (.ld (.t 23) 3 true))⟩, ⟨(some 25), none, (.call false 68 [(.t 20), (.t 24)])⟩, ⟨(some 26), none, (.p false (.not (.t 25)))⟩]) (.cond (.t 26) (.seq (.reg [⟨(some 4), none, (.p true (.mv (.c (.bool false))))⟩]) .ret) .skip))) (.reg [⟨(some 15), none, (.p true (.mv (.t 5)))⟩, ⟨(some 16), none, (.p true (.bin .add (.t 15) (.c (.int .i64 1))))⟩, ⟨(some 5), none, (.p true (.mv (.t 16)))⟩])))))) (.seq (.reg [⟨(some 4), none, (.p true (.mv (.c (.bool true))))⟩]) .ret))))
theorem c27_is : compFn Try.prog 27 = some (c27, [(.tmp 4)]) := by kernel_rfl
theorem c27_ok : okFn Try.prog 27 = true := by kernel_rfl

def F_laws_eqBlockS_l0 (v0 : List TBlock) (v1 : List TBlock) (k0 : Int → Option (Bool)) : Int → Option (Bool)
  | v9 => (bif (decide (v9 < (v0.length : Int))) then ((ix v0 v9).bind fun v1000 => ((ix v1 v9).bind fun v1001 => ((F_laws_eqBlock v1000 v1001).bind fun v1002 => (bif (!v1002) then some false
  else k0 (w64 (v9 + 1))))))
  else some true)
def F_laws_eqBlockS (v0 : List TBlock) (v1 : List TBlock) : Option (Bool) :=
  (bif (decide ((v0.length : Int) ≠ (v1.length : Int))) then some false
  else loop (F_laws_eqBlockS_l0 v0 v1) 0)
@[simp] def res_laws_eqBlockS (r : Bool) : RV := .one (.one (.val (.bool r)))
theorem con_laws_eqBlockS {v0 : List TBlock} {v1 : List TBlock} {r : Bool} (hF : F_laws_eqBlockS v0 v1 = some r) : Con Try.prog 27 [.sl 3 (v0.map eBlock), .sl 3 (v1.map eBlock)] (res_laws_eqBlockS r) := by
  unfold F_laws_eqBlockS at hF
  refine con_of c27_is fun N => ?_
  refine w_reg_seq 0 64 rfl rfl ?_
  refine qp (AB false) rfl ?_
  refine r_nil ?_
  refine w_seq ?_
  refine w_reg_seq 64 384 rfl rfl ?_
  refine qp (.val none (.sl 3 (v0.map eBlock))) rfl (qp (AI (v0.length : Int)) (ev_len_n rfl) (qp (.val none (.sl 3 (v1.map eBlock))) rfl (qp (AI (v1.length : Int)) (ev_len_n rfl) (qp (AB (decide ((v0.length : Int) ≠ (v1.length : Int)))) rfl ?_))))
  refine r_nil ?_
  refine w_condF hF rfl (fun hF => ?_) (fun hF => ?_)
  ·
    refine w_reg_seq 384 448 rfl rfl ?_
    refine qp (AB false) rfl ?_
    refine r_nil ?_
    refine w_ret ?_
    refine thenQ_r ?_
    cases hF
    exact endQ_r rfl (.inl ⟨_, _, by first | rfl | (simp [List.take_of_length_le]; first | exact ⟨rfl, rfl⟩ | rfl), by simp, by first | rfl | simp [res_laws_eqBlockS, List.take_of_length_le]⟩)
  ·
    refine w_skip ?_
    refine thenQ_n ?_
    refine w_seq ?_
    refine w_reg_seq 384 448 rfl rfl ?_
    refine qp (AI 0) rfl ?_
    refine r_nil ?_
    refine w_block ?_
    refine w_ren (l' := [(0, .val none (.sl 3 (v0.map eBlock))), (1, .val none (.sl 3 (v1.map eBlock))), (5, AI 0)]) (L := []) [0, 1, 5] [] 1 (by first | rfl | simp) (by first | rfl | simp) (by decide) (by decide) (by decide) ?_
    refine w_loopF (F_laws_eqBlockS_l0 v0 v1) (fun s : Int => mkS [(0, .val none (.sl 3 (v0.map eBlock))), (1, .val none (.sl 3 (v1.map eBlock))), (5, AI s)] (fo []) 1) hF ?_
    rintro k0 v9 hF
    rw [F_laws_eqBlockS_l0] at hF
    try dsimp only
    refine w_seq ?_
    refine w_reg_seq 1 257 rfl rfl ?_
    refine qp (AI v9) rfl (qp (.val none (.sl 3 (v0.map eBlock))) rfl (qp (AI (v0.length : Int)) (ev_len_n rfl) (qp (AB (decide (v9 < (v0.length : Int)))) rfl ?_)))
    refine r_nil ?_
    refine w_condF hF rfl (fun hF => ?_) (fun hF => ?_)
    ·
      refine w_skip ?_
      refine thenQ_n ?_
      refine w_seq ?_
      refine w_block ?_
      refine w_reg_seq 257 897 rfl rfl ?_
      refine qp (.val none (.sl 3 (v0.map eBlock))) rfl (qp (AI v9) rfl ?_)
      obtain ⟨v1000, e1000, hF⟩ := bind_get hF
      refine qp (.val none (.ptr [.str v1000.1, .str v1000.2.1, .str v1000.2.2])) (ev_iad_n rfl rfl e1000 rfl) (qp (.val none (eBlock v1000)) rfl (qp (.val none (.sl 3 (v1.map eBlock))) rfl (qp (AI v9) rfl ?_)))
      obtain ⟨v1001, e1001, hF⟩ := bind_get hF
      refine qp (.val none (.ptr [.str v1001.1, .str v1001.2.1, .str v1001.2.2])) (ev_iad_n rfl rfl e1001 rfl) (qp (.val none (eBlock v1001)) rfl ?_)
      obtain ⟨v1002, e1002, hF⟩ := bind_get hF
      refine qc (AB v1002) [] false (con_laws_eqBlock e1002) c68_ok (by first | rfl | simp) rfl ?_
      refine qp (AB (!v1002)) rfl ?_
      refine r_nil ?_
      refine w_condF hF rfl (fun hF => ?_) (fun hF => ?_)
      ·
        refine w_reg_seq 897 961 rfl rfl ?_
        refine qp (AB false) rfl ?_
        refine r_nil ?_
        refine w_ret ?_
        refine blockQ_r ?_
        refine thenQ_r ?_
        refine thenQ_r ?_
        refine blockQ_r ?_
        refine thenQ_r ?_
        cases hF
        exact endQ_r rfl (.inl ⟨_, _, by first | rfl | (simp [List.take_of_length_le]; first | exact ⟨rfl, rfl⟩ | rfl), by simp, by first | rfl | simp [res_laws_eqBlockS, List.take_of_length_le]⟩)
      ·
        refine w_skip ?_
        refine blockQ_n ?_
        refine thenQ_n ?_
        refine w_reg 897 1089 rfl rfl ?_
        refine qp (AI v9) rfl (qp (AI (w64 (v9 + 1))) rfl (qp (AI (w64 (v9 + 1))) rfl ?_))
        refine r_nil ?_
        refine thenQ_n ?_
        refine aw_ren (l' := [(0, .val none (.sl 3 (v0.map eBlock))), (1, .val none (.sl 3 (v1.map eBlock))), (5, AI (w64 (v9 + 1)))]) (L := []) [0, 1, 5] [] 1 (by first | rfl | simp) (by first | rfl | simp) (by decide) (by decide) (by decide) ⟨_, by rfl, hF⟩
    ·
      refine w_exit ?_
      refine thenQ_e ?_
      refine thenQ_e ?_
      refine blockQ_e ?_
      refine thenQ_n ?_
      refine w_reg_seq 257 321 rfl rfl ?_
      refine qp (AB true) rfl ?_
      refine r_nil ?_
      refine w_ret ?_
      cases hF
      exact endQ_r rfl (.inl ⟨_, _, by first | rfl | (simp [List.take_of_length_le]; first | exact ⟨rfl, rfl⟩ | rfl), by simp, by first | rfl | simp [res_laws_eqBlockS, List.take_of_length_le]⟩)

def c4 : MC := (.seq (.reg [⟨(some 6), none, (.p true (.mv (.c (.bool false))))⟩]) (.seq (.seq (.reg [⟨(some 13), none, (.p true (.mv (.t 1)))⟩, ⟨(some 14), none, (.p true (.lens (.t 13)))⟩, ⟨(some 15), none, (.p true (.bin .gtr (.t 14) (.c (.int .i64 1048576))))⟩]) (.cond (.t 15) (.seq (.reg [⟨(some 6), none, (.p true (.mv (.c (.bool true))))⟩]) .ret) .skip)) (.seq (.seq (.reg [⟨(some 16), none, (.p true (.mv (.t 2)))⟩, ⟨(some 17), none, (.p true (.lens (.t 16)))⟩, ⟨(some 18), none, (.p true (.bin .gtr (.t 17) (.c (.int .i64 1048576))))⟩]) (.cond (.t 18) (.seq (.reg [⟨(some 6), none, (.p true (.mv (.c (.bool true))))⟩]) .ret) .skip)) (.seq (.reg [⟨(some 7), none, (.p true (.mv (.c (.int .i64 1048576))))⟩]) (.seq (.reg [⟨(some 19), none, (.p true (.mv (.t 0)))⟩, ⟨(some 20), none, (.p true (.mv (.t 7)))⟩, ⟨(some 21), none, (.call true 23 [(.t 19), (.t 20)])⟩, ⟨(some 7), none, (.p true (.mv (.t 21)))⟩]) (.seq (.seq (.reg [⟨(some 22), none, (.p true (.mv (.t 7)))⟩, ⟨(some 23), none, (.p true (.bin .lss (.t 22) (.c (.int .i64 0))))⟩]) (.cond (.t 23) (.seq (.reg [⟨(some 6), none, (.p true (.mv (.c (.bool true))))⟩]) .ret) .skip)) (.seq (.reg [⟨(some 25), none, (.p true (.mv (.t 0)))⟩, ⟨(some 26), none, (.call true 25 [(.t 25)])⟩, ⟨(some 27), none, (.p true (.mv (.t 1)))⟩, ⟨(some 28), none, (.p true (.mv (.t 2)))⟩, ⟨(some 29), none, (.call true 24 [(.t 26), (.t 27), (.t 28)])⟩, ⟨(some 24), none, (.p true (.mv (.t 29)))⟩, ⟨(some 30), none, (.p true (.ext (.t 24) 0))⟩, ⟨(some 31), none, (.p true (.ext (.t 24) 1))⟩, ⟨(some 8), none, (.p true (.mv (.t 30)))⟩, ⟨(some 9), none, (.p true (.mv (.t 31)))⟩]) (.seq (.reg [⟨(some 32), none, (.p true (.mv (.t 0)))⟩, ⟨(some 33), none, (.call true 25 [(.t 32)])⟩, ⟨(some 10), none, (.p true (.mv (.t 33)))⟩]) (.seq (.reg [⟨(some 35), none, (.p true (.mv (.t 10)))⟩, ⟨(some 36), none, (.p true (.mv (.t 1)))⟩, ⟨(some 37), none, (.p true (.mv (.t 2)))⟩, ⟨(some 38), none, (.call true 26 [(.t 35), (.t 36), (.t 37)])⟩, ⟨(some 34), none, (.p true (.mv (.t 38)))⟩, ⟨(some 39), none, (.p true (.ext (.t 34) 0))⟩, ⟨(some 40), none, (.p true (.ext (.t 34) 1))⟩, ⟨(some 11), none, (.p true (.mv (.t 39)))⟩, ⟨(some 12), none, (.p true (.mv (.t 40)))⟩]) (.seq (.seq (.reg [⟨(some 41), none, (.p true (.mv (.t 11)))⟩, ⟨(some 42), none, (.p true (.mv (.t 8)))⟩, ⟨(some 43), none, (.p true (.bin .neq (.t 41) (.t 42)))⟩, ⟨(some 44), none, (.p true (.mv (.t 43)))⟩, ⟨(some 45), (some (44, false)), (.p true (.mv (.t 12)))⟩, ⟨(some 46), (some (44, false)), (.p true (.mv (.t 9)))⟩, ⟨(some 47), (some (44, false)), (.p true (.bin .neq (.t 45) (.t 46)))⟩, ⟨(some 48), none, (.p true (.pick (.t 44) (.c (.bool true)) (.t 47)))⟩]) (.cond (.t 48) (.seq (.reg [⟨(some 6), none, (.p true (.mv (.c (.bool false))))⟩]) .ret) .skip)) (.seq (.seq (.reg [⟨(some 49), none, (.p true (.mv (.t 10)))⟩, ⟨(some 50), none, (.p true (.mv (.t 0)))⟩, ⟨(some 51), none, (.call true 25 [(.t 50)])⟩, ⟨(some 52), none, (.call true 27 [(.t 49), (.t 51)])⟩, ⟨(some 53), none, (.p true (.not (.t 52)))⟩]) (.cond (.t 53) (.seq (.reg [⟨(some 6), none, (.p true (.mv (.c (.bool false))))⟩]) .ret) .skip)) (.seq (.reg [⟨(some 6), none, (.p true (.mv (.c (.bool true))))⟩]) .ret))))))))))))
theorem c4_is : compFn Try.prog 4 = some (c4, [(.tmp 6)]) := by kernel_rfl
theorem c4_ok : okFn Try.prog 4 = true := by kernel_rfl

def F_laws_FnExactBlockNamed (v0 : List TBlock) (v1 : List UInt8) (v2 : List UInt8) : Option (Bool) :=
  (bif (decide ((1048576 : Int) < (v1.length : Int))) then some true
  else (bif (decide ((1048576 : Int) < (v2.length : Int))) then some true
  else ((F_laws_szBlockS v0 1048576).bind fun v1000 => (bif (decide (v1000 < (0 : Int))) then some true
  else ((F_laws_toBlockS v0).bind fun v1001 => ((F_spec_BlockNamed v1001 v1 v2).bind fun v1002 => ((F_laws_toBlockS v0).bind fun v1003 => ((F_impl_BlockNamed v1003 v1 v2).bind fun v1004 => (bif (decide (v1004.1 ≠ v1002.1)) then some false
  else (bif (decide (v1004.2 ≠ v1002.2)) then some false
  else ((F_laws_toBlockS v0).bind fun v1005 => ((F_laws_eqBlockS v1003 v1005).bind fun v1006 => (bif (!v1006) then some false
  else some true)))))))))))))
@[simp] def res_laws_FnExactBlockNamed (r : Bool) : RV := .one (.one (.val (.bool r)))
theorem con_laws_FnExactBlockNamed {v0 : List TBlock} {v1 : List UInt8} {v2 : List UInt8} {r : Bool} (hF : F_laws_FnExactBlockNamed v0 v1 v2 = some r) : Con Try.prog 4 [.sl 3 (v0.map eBlock), .str v1, .str v2] (res_laws_FnExactBlockNamed r) := by
  unfold F_laws_FnExactBlockNamed at hF
  refine con_of c4_is fun N => ?_
  refine w_reg_seq 0 64 rfl rfl ?_
  refine qp (AB false) rfl ?_
  refine r_nil ?_
  refine w_seq ?_
  refine w_reg_seq 64 256 rfl rfl ?_
  refine qp (AS v1) rfl (qp (AI (v1.length : Int)) rfl (qp (AB (decide ((1048576 : Int) < (v1.length : Int)))) rfl ?_))
  refine r_nil ?_
  refine w_condF hF rfl (fun hF => ?_) (fun hF => ?_)
  ·
    refine w_reg_seq 256 320 rfl rfl ?_
    refine qp (AB true) rfl ?_
    refine r_nil ?_
    refine w_ret ?_
    refine thenQ_r ?_
    cases hF
    exact endQ_r rfl (.inl ⟨_, _, by first | rfl | (simp [List.take_of_length_le]; first | exact ⟨rfl, rfl⟩ | rfl), by simp, by first | rfl | simp [res_laws_FnExactBlockNamed, List.take_of_length_le]⟩)
  ·
    refine w_skip ?_
    refine thenQ_n ?_
    refine w_seq ?_
    refine w_reg_seq 256 448 rfl rfl ?_
    refine qp (AS v2) rfl (qp (AI (v2.length : Int)) rfl (qp (AB (decide ((1048576 : Int) < (v2.length : Int)))) rfl ?_))
    refine r_nil ?_
    refine w_condF hF rfl (fun hF => ?_) (fun hF => ?_)
    ·
      refine w_reg_seq 448 512 rfl rfl ?_
      refine qp (AB true) rfl ?_
      refine r_nil ?_
      refine w_ret ?_
      refine thenQ_r ?_
      cases hF
      exact endQ_r rfl (.inl ⟨_, _, by first | rfl | (simp [List.take_of_length_le]; first | exact ⟨rfl, rfl⟩ | rfl), by simp, by first | rfl | simp [res_laws_FnExactBlockNamed, List.take_of_length_le]⟩)
    ·
      refine w_skip ?_
      refine thenQ_n ?_
      refine w_reg_seq 448 512 rfl rfl ?_
      refine qp (AI 1048576) rfl ?_
      refine r_nil ?_
      refine w_reg_seq 512 768 rfl rfl ?_
      refine qp (.val none (.sl 3 (v0.map eBlock))) rfl (qp (AI 1048576) rfl ?_)
      obtain ⟨v1000, e1000, hF⟩ := bind_get hF
      refine qc (AI v1000) [] false (con_laws_szBlockS e1000) c23_ok (by first | rfl | simp) rfl ?_
      refine qp (AI v1000) rfl ?_
      refine r_nil ?_
      refine w_seq ?_
      refine w_reg_seq 768 896 rfl rfl ?_
      refine qp (AI v1000) rfl (qp (AB (decide (v1000 < (0 : Int)))) rfl ?_)
      refine r_nil ?_
      refine w_condF hF rfl (fun hF => ?_) (fun hF => ?_)
      ·
        refine w_reg_seq 896 960 rfl rfl ?_
        refine qp (AB true) rfl ?_
        refine r_nil ?_
        refine w_ret ?_
        refine thenQ_r ?_
        cases hF
        exact endQ_r rfl (.inl ⟨_, _, by first | rfl | (simp [List.take_of_length_le]; first | exact ⟨rfl, rfl⟩ | rfl), by simp, by first | rfl | simp [res_laws_FnExactBlockNamed, List.take_of_length_le]⟩)
      ·
        refine w_skip ?_
        refine thenQ_n ?_
        refine w_reg_seq 896 1536 rfl rfl ?_
        refine qp (.val none (.sl 3 (v0.map eBlock))) rfl ?_
        obtain ⟨v1001, e1001, hF⟩ := bind_get hF
        refine qc (.sl 960 0 v1001.length) [(960, .row true 3 (v1001.map eBlock))] false (con_laws_toBlockS e1001) c25_ok (by first | rfl | simp) (by simp [res_laws_toBlockS]) ?_
        refine qp (AS v1) rfl (qp (AS v2) rfl ?_)
        obtain ⟨v1002, e1002, hF⟩ := bind_get hF
        refine qc (.tup [AS v1002.1, AI v1002.2]) [(960, .row true 3 (v1001.map eBlock))] true (con_spec_BlockNamed e1002) c24_ok (by simp [List.take_of_length_le]) rfl ?_
        refine qp (.tup [AS v1002.1, AI v1002.2]) rfl (qp (AS v1002.1) rfl (qp (AI v1002.2) rfl (qp (AS v1002.1) rfl (qp (AI v1002.2) rfl ?_))))
        refine r_nil ?_
        refine w_reg_seq 1536 1728 rfl rfl ?_
        refine qp (.val none (.sl 3 (v0.map eBlock))) rfl ?_
        obtain ⟨v1003, e1003, hF⟩ := bind_get hF
        refine qc (.sl 1600 0 v1003.length) [(1600, .row true 3 (v1003.map eBlock)), (960, .row true 3 (v1001.map eBlock))] false (con_laws_toBlockS e1003) c25_ok (by first | rfl | simp) (by simp [res_laws_toBlockS]) ?_
        refine qp (.sl 1600 0 v1003.length) rfl ?_
        refine r_nil ?_
        refine w_reg_seq 1728 2304 rfl rfl ?_
        refine qp (.sl 1600 0 v1003.length) rfl (qp (AS v1) rfl (qp (AS v2) rfl ?_))
        obtain ⟨v1004, e1004, hF⟩ := bind_get hF
        refine qc (.tup [AS v1004.1, AI v1004.2]) [(1600, .row true 3 (v1003.map eBlock)), (960, .row true 3 (v1001.map eBlock))] true (con_impl_BlockNamed e1004) c26_ok (by simp [List.take_of_length_le]) rfl ?_
        refine qp (.tup [AS v1004.1, AI v1004.2]) rfl (qp (AS v1004.1) rfl (qp (AI v1004.2) rfl (qp (AS v1004.1) rfl (qp (AI v1004.2) rfl ?_))))
        refine r_nil ?_
        refine w_seq ?_
        refine w_reg_seq 2304 2816 rfl rfl ?_
        refine qp (AS v1004.1) rfl (qp (AS v1002.1) rfl (qp (AB (decide (v1004.1 ≠ v1002.1))) rfl (qp (AB (decide (v1004.1 ≠ v1002.1))) rfl ?_)))
        refine q_case 44 hF rfl (fun hF => ?_) (fun hF => ?_)
        ·
          refine qn rfl (qn rfl (qn rfl (qp (AB true) rfl ?_)))
          refine r_nil ?_
          refine w_true rfl ?_
          refine w_reg_seq 2816 2880 rfl rfl ?_
          refine qp (AB false) rfl ?_
          refine r_nil ?_
          refine w_ret ?_
          refine thenQ_r ?_
          cases hF
          exact endQ_r rfl (.inl ⟨_, _, by first | rfl | (simp [List.take_of_length_le]; first | exact ⟨rfl, rfl⟩ | rfl), by simp, by first | rfl | simp [res_laws_FnExactBlockNamed, List.take_of_length_le]⟩)
        ·
          refine qg (AI v1004.2) rfl rfl (qg (AI v1002.2) rfl rfl (qg (AB (decide (v1004.2 ≠ v1002.2))) rfl rfl (qp (AB (decide (v1004.2 ≠ v1002.2))) rfl ?_)))
          refine r_nil ?_
          refine w_condF hF rfl (fun hF => ?_) (fun hF => ?_)
          ·
            refine w_reg_seq 2816 2880 rfl rfl ?_
            refine qp (AB false) rfl ?_
            refine r_nil ?_
            refine w_ret ?_
            refine thenQ_r ?_
            cases hF
            exact endQ_r rfl (.inl ⟨_, _, by first | rfl | (simp [List.take_of_length_le]; first | exact ⟨rfl, rfl⟩ | rfl), by simp, by first | rfl | simp [res_laws_FnExactBlockNamed, List.take_of_length_le]⟩)
          ·
            refine w_skip ?_
            refine thenQ_n ?_
            refine w_seq ?_
            refine w_reg_seq 2816 3136 rfl rfl ?_
            refine qp (.sl 1600 0 v1003.length) rfl (qp (.val none (.sl 3 (v0.map eBlock))) rfl ?_)
            obtain ⟨v1005, e1005, hF⟩ := bind_get hF
            refine qc (.sl 2944 0 v1005.length) [(2944, .row true 3 (v1005.map eBlock)), (1600, .row true 3 (v1003.map eBlock)), (960, .row true 3 (v1001.map eBlock))] false (con_laws_toBlockS e1005) c25_ok (by first | rfl | simp) (by simp [res_laws_toBlockS]) ?_
            obtain ⟨v1006, e1006, hF⟩ := bind_get hF
            refine qc (AB v1006) [(2944, .row true 3 (v1005.map eBlock)), (1600, .row true 3 (v1003.map eBlock)), (960, .row true 3 (v1001.map eBlock))] true (con_laws_eqBlockS e1006) c27_ok (by simp [List.take_of_length_le]) rfl ?_
            refine qp (AB (!v1006)) rfl ?_
            refine r_nil ?_
            refine w_condF hF rfl (fun hF => ?_) (fun hF => ?_)
            ·
              refine w_reg_seq 3136 3200 rfl rfl ?_
              refine qp (AB false) rfl ?_
              refine r_nil ?_
              refine w_ret ?_
              refine thenQ_r ?_
              cases hF
              exact endQ_r rfl (.inl ⟨_, _, by first | rfl | (simp [List.take_of_length_le]; first | exact ⟨rfl, rfl⟩ | rfl), by simp, by first | rfl | simp [res_laws_FnExactBlockNamed, List.take_of_length_le]⟩)
            ·
              refine w_skip ?_
              refine thenQ_n ?_
              refine w_reg_seq 3136 3200 rfl rfl ?_
              refine qp (AB true) rfl ?_
              refine r_nil ?_
              refine w_ret ?_
              cases hF
              exact endQ_r rfl (.inl ⟨_, _, by first | rfl | (simp [List.take_of_length_le]; first | exact ⟨rfl, rfl⟩ | rfl), by simp, by first | rfl | simp [res_laws_FnExactBlockNamed, List.take_of_length_le]⟩)

end Go.Ab
