/- Walks (printed by auto.py, a program of this session's own). -/
import Derived.Test.YtbmcnmmaplagbaaS0
import Derived.Test.YtbmcnmmaplagbaaProg
import Derived.KernelRfl
import Derived.Test.YtbmcnmmaplagbaaSQ
set_option linter.unusedVariables false
set_option linter.unusedSimpArgs false
set_option maxRecDepth 8000
set_option maxHeartbeats 8000000
namespace Go.Ab
open Go.RowKit Go.Proofs

abbrev TBlock := (List UInt8) × (List UInt8) × (List UInt8)
@[simp] def eBlock (p : TBlock) : V := .agg [.str p.1, .str p.2.1, .str p.2.2]
def c38 : MC := (.seq (.reg [rg 2 (.f (.box (.t 0))), rg 4 (.p true (.mv (.c (.int .i64 0))))]) (.seq (.reg [rg 5 (.p true (.mv (.t 1))), rg 6 (.p true (.fad (.t 2) 0)), rg 7 (.p true (.ld (.t 6) 1 false)), rg 8 (.p true (.lens (.t 7))), rg 9 (.p true (.bin .sub (.t 5) (.t 8))), rg 1 (.p true (.mv (.t 9)))]) (.seq (.seq (.reg [rg 10 (.p true (.mv (.t 1))), rg 11 (.p true (.bin .lss (.t 10) (.c (.int .i64 0))))]) (.cond (.t 11) (.seq (.reg [rg 4 (.p true (.mv (.c (.int .i64 (-1)))))]) .ret) .skip)) (.seq (.reg [rg 12 (.p true (.mv (.t 1))), rg 13 (.p true (.fad (.t 2) 1)), rg 14 (.p true (.ld (.t 13) 1 false)), rg 15 (.p true (.lens (.t 14))), rg 16 (.p true (.bin .sub (.t 12) (.t 15))), rg 1 (.p true (.mv (.t 16)))]) (.seq (.seq (.reg [rg 17 (.p true (.mv (.t 1))), rg 18 (.p true (.bin .lss (.t 17) (.c (.int .i64 0))))]) (.cond (.t 18) (.seq (.reg [rg 4 (.p true (.mv (.c (.int .i64 (-1)))))]) .ret) .skip)) (.seq (.reg [rg 19 (.p true (.mv (.t 1))), rg 20 (.p true (.fad (.t 2) 2)), rg 21 (.p true (.ld (.t 20) 1 false)), rg 22 (.p true (.lens (.t 21))), rg 23 (.p true (.bin .sub (.t 19) (.t 22))), rg 1 (.p true (.mv (.t 23)))]) (.seq (.seq (.reg [rg 24 (.p true (.mv (.t 1))), rg 25 (.p true (.bin .lss (.t 24) (.c (.int .i64 0))))]) (.cond (.t 25) (.seq (.reg [rg 4 (.p true (.mv (.c (.int .i64 (-1)))))]) .ret) .skip)) (.seq (.reg [rg 26 (.p true (.mv (.t 1))), rg 4 (.p true (.mv (.t 26)))]) .ret))))))))
theorem c38_is : compFn Try.prog 38 = some (c38, [(.tmp 4)]) := by kernel_rfl
theorem c38_ok : okFn Try.prog 38 = true := by kernel_rfl

noncomputable def F_laws_szBlock (v0 : TBlock) (v1 : Int) : Option (Int) :=
 (bif (decide (w64 (v1 - (v0.1.length : Int)) < (0 : Int))) then some (-1)
 else (bif (decide (w64 ((w64 (v1 - (v0.1.length : Int))) - (v0.2.1.length : Int)) < (0 : Int))) then some (-1)
 else (bif (decide (w64 ((w64 ((w64 (v1 - (v0.1.length : Int))) - (v0.2.1.length : Int))) - (v0.2.2.length : Int)) < (0 : Int))) then some (-1)
 else some (w64 ((w64 ((w64 (v1 - (v0.1.length : Int))) - (v0.2.1.length : Int))) - (v0.2.2.length : Int))))))
@[simp] def res_laws_szBlock (r : Int) : RV := .one (.one (.val (.int .i64 r)))
theorem con_laws_szBlock {v0 : TBlock} {v1 : Int} {r : Int} (hF : F_laws_szBlock v0 v1 = some r) : Con Try.prog 38 [eBlock v0, .int .i64 v1] (res_laws_szBlock r) := by
 unfold F_laws_szBlock at hF
 refine con_of c38_is fun N => ?_
 refine ws 0 128 ?_
 refine qf (.ptr 0 0 0) [(0, .box [AS v0.1, AS v0.2.1, AS v0.2.2])] (by simp) ?_
 refine qp (AI 0) rfl ?_
 refine r_nil ?_
 refine ws 128 512 ?_
 refine qp (AI v1) rfl (qp (.ptr 0 0 0) rfl (qp (AS v0.1) rfl (qp (AI (v0.1.length : Int)) rfl (qp (AI (w64 (v1 - (v0.1.length : Int)))) rfl (qp (AI (w64 (v1 - (v0.1.length : Int)))) rfl ?_)))))
 refine r_nil ?_
 refine w_seq ?_
 refine ws 512 640 ?_
 refine qp (AI (w64 (v1 - (v0.1.length : Int)))) rfl (qp (AB (decide (w64 (v1 - (v0.1.length : Int)) < (0 : Int)))) rfl ?_)
 refine r_nil ?_
 refine cF hF (fun hF => ?_) fun hF => ?_
 ·
  refine ws 640 704 ?_
  refine qp (AI (-1)) rfl ?_
  refine r_nil ?_
  refine w_ret ?_
  refine thenQ_r ?_
  cases hF
  exact eR
 ·
  refine w_skip ?_
  refine thenQ_n ?_
  refine ws 640 1024 ?_
  refine qp (AI (w64 (v1 - (v0.1.length : Int)))) rfl (qp (.ptr 0 0 1) rfl (qp (AS v0.2.1) rfl (qp (AI (v0.2.1.length : Int)) rfl (qp (AI (w64 ((w64 (v1 - (v0.1.length : Int))) - (v0.2.1.length : Int)))) rfl (qp (AI (w64 ((w64 (v1 - (v0.1.length : Int))) - (v0.2.1.length : Int)))) rfl ?_)))))
  refine r_nil ?_
  refine w_seq ?_
  refine ws 1024 1152 ?_
  refine qp (AI (w64 ((w64 (v1 - (v0.1.length : Int))) - (v0.2.1.length : Int)))) rfl (qp (AB (decide (w64 ((w64 (v1 - (v0.1.length : Int))) - (v0.2.1.length : Int)) < (0 : Int)))) rfl ?_)
  refine r_nil ?_
  refine cF hF (fun hF => ?_) fun hF => ?_
  ·
   refine ws 1152 1216 ?_
   refine qp (AI (-1)) rfl ?_
   refine r_nil ?_
   refine w_ret ?_
   refine thenQ_r ?_
   cases hF
   exact eR
  ·
   refine w_skip ?_
   refine thenQ_n ?_
   refine ws 1152 1536 ?_
   refine qp (AI (w64 ((w64 (v1 - (v0.1.length : Int))) - (v0.2.1.length : Int)))) rfl (qp (.ptr 0 0 2) rfl (qp (AS v0.2.2) rfl (qp (AI (v0.2.2.length : Int)) rfl (qp (AI (w64 ((w64 ((w64 (v1 - (v0.1.length : Int))) - (v0.2.1.length : Int))) - (v0.2.2.length : Int)))) rfl (qp (AI (w64 ((w64 ((w64 (v1 - (v0.1.length : Int))) - (v0.2.1.length : Int))) - (v0.2.2.length : Int)))) rfl ?_)))))
   refine r_nil ?_
   refine w_seq ?_
   refine ws 1536 1664 ?_
   refine qp (AI (w64 ((w64 ((w64 (v1 - (v0.1.length : Int))) - (v0.2.1.length : Int))) - (v0.2.2.length : Int)))) rfl (qp (AB (decide (w64 ((w64 ((w64 (v1 - (v0.1.length : Int))) - (v0.2.1.length : Int))) - (v0.2.2.length : Int)) < (0 : Int)))) rfl ?_)
   refine r_nil ?_
   refine cF hF (fun hF => ?_) fun hF => ?_
   ·
    refine ws 1664 1728 ?_
    refine qp (AI (-1)) rfl ?_
    refine r_nil ?_
    refine w_ret ?_
    refine thenQ_r ?_
    cases hF
    exact eR
   ·
    refine w_skip ?_
    refine thenQ_n ?_
    refine ws 1664 1792 ?_
    refine qp (AI (w64 ((w64 ((w64 (v1 - (v0.1.length : Int))) - (v0.2.1.length : Int))) - (v0.2.2.length : Int)))) rfl (qp (AI (w64 ((w64 ((w64 (v1 - (v0.1.length : Int))) - (v0.2.1.length : Int))) - (v0.2.2.length : Int)))) rfl ?_)
    refine r_nil ?_
    refine w_ret ?_
    cases hF
    exact eR

def c21 : MC := (.seq (.reg [rg 4 (.p true (.mv (.c (.int .i64 0))))]) (.seq (.reg [rg 6 (.p true (.mv (.t 1))), rg 7 (.p true (.mv (.t 0))), rg 8 (.p true (.len (.t 7))), rg 9 (.p true (.bin .sub (.t 6) (.t 8))), rg 1 (.p true (.mv (.t 9)))]) (.seq (.seq (.reg [rg 10 (.p true (.mv (.t 1))), rg 11 (.p true (.bin .lss (.t 10) (.c (.int .i64 0))))]) (.cond (.t 11) (.seq (.reg [rg 4 (.p true (.mv (.c (.int .i64 (-1)))))]) .ret) .skip)) (.seq (.seq (.reg [rg 5 (.p true (.mv (.c (.int .i64 0))))]) (.block 0 (.loop (.seq (.seq (.reg [rg 12 (.p true (.mv (.t 5))), rg 13 (.p true (.mv (.t 0))), rg 14 (.p true (.len (.t 13))), rg 15 (.p true (.bin .lss (.t 12) (.t 14)))]) (.cond (.t 15) .skip (.exit 0))) (.seq (.block 1 (.seq (.reg [rg 18 (.p true (.mv (.t 0))), rg 19 (.p true (.mv (.t 5))), rg 20 (.p true (.iad (.t 18) (.t 19) 3)), rg 21 (.p true (.ld (.t 20) 3 true)), rg 22 (.p true (.mv (.t 1))), rg 23 (.call true 38 [(.t 21), (.t 22)]), rg 1 (.p true (.mv (.t 23)))]) (.seq (.reg [rg 24 (.p true (.mv (.t 1))), rg 25 (.p true (.bin .lss (.t 24) (.c (.int .i64 0))))]) (.cond (.t 25) (.seq (.reg [rg 4 (.p true (.mv (.c (.int .i64 (-1)))))]) .ret) .skip)))) (.reg [rg 16 (.p true (.mv (.t 5))), rg 17 (.p true (.bin .add (.t 16) (.c (.int .i64 1)))), rg 5 (.p true (.mv (.t 17)))])))))) (.seq (.reg [rg 26 (.p true (.mv (.t 1))), rg 4 (.p true (.mv (.t 26)))]) .ret)))))
theorem c21_is : compFn Try.prog 21 = some (c21, [(.tmp 4)]) := by kernel_rfl
theorem c21_ok : okFn Try.prog 21 = true := by kernel_rfl

noncomputable def F_laws_szBlockS_l0 (v0 : List TBlock) (k0 : Int × Int → Option (Int)) : Int × Int → Option (Int)
 | (v8, v9) => (bif (decide (v9 < (v0.length : Int))) then ((ix v0 v9).bind fun v1000 => ((F_laws_szBlock v1000 v8).bind fun v1001 => (bif (decide (v1001 < (0 : Int))) then some (-1)
 else k0 (v1001, w64 (v9 + 1)))))
 else some v8)
noncomputable def F_laws_szBlockS (v0 : List TBlock) (v1 : Int) : Option (Int) :=
 (bif (decide (w64 (v1 - (v0.length : Int)) < (0 : Int))) then some (-1)
 else loop (F_laws_szBlockS_l0 v0) (w64 (v1 - (v0.length : Int)), 0))
@[simp] def res_laws_szBlockS (r : Int) : RV := .one (.one (.val (.int .i64 r)))
theorem con_laws_szBlockS {v0 : List TBlock} {v1 : Int} {r : Int} (hF : F_laws_szBlockS v0 v1 = some r) : Con Try.prog 21 [.sl 3 (v0.map eBlock), .int .i64 v1] (res_laws_szBlockS r) := by
 unfold F_laws_szBlockS at hF
 refine con_of c21_is fun N => ?_
 refine ws 0 64 ?_
 refine qp (AI 0) rfl ?_
 refine r_nil ?_
 refine ws 64 384 ?_
 refine qp (AI v1) rfl (qp (AL 3 (v0.map eBlock)) rfl (qp (AI (v0.length : Int)) (ev_len_n rfl) (qp (AI (w64 (v1 - (v0.length : Int)))) rfl (qp (AI (w64 (v1 - (v0.length : Int)))) rfl ?_))))
 refine r_nil ?_
 refine w_seq ?_
 refine ws 384 512 ?_
 refine qp (AI (w64 (v1 - (v0.length : Int)))) rfl (qp (AB (decide (w64 (v1 - (v0.length : Int)) < (0 : Int)))) rfl ?_)
 refine r_nil ?_
 refine cF hF (fun hF => ?_) fun hF => ?_
 ·
  refine ws 512 576 ?_
  refine qp (AI (-1)) rfl ?_
  refine r_nil ?_
  refine w_ret ?_
  refine thenQ_r ?_
  cases hF
  exact eR
 ·
  refine w_skip ?_
  refine thenQ_n ?_
  refine w_seq ?_
  refine ws 512 576 ?_
  refine qp (AI 0) rfl ?_
  refine r_nil ?_
  refine w_block ?_
  refine wr (l' := [(0, AL 3 (v0.map eBlock)), (1, AI (w64 (v1 - (v0.length : Int)))), (5, AI 0)]) (L := []) [0, 1, 5] [] 1 ?_
  refine w_loopF (F_laws_szBlockS_l0 v0) (fun s : Int × Int => mkS [(0, AL 3 (v0.map eBlock)), (1, AI s.1), (5, AI s.2)] (fo []) 1) hF ?_
  rintro k0 ⟨v8, v9⟩ hF
  rw [F_laws_szBlockS_l0] at hF
  try dsimp only
  refine w_seq ?_
  refine ws 1 257 ?_
  refine qp (AI v9) rfl (qp (AL 3 (v0.map eBlock)) rfl (qp (AI (v0.length : Int)) (ev_len_n rfl) (qp (AB (decide (v9 < (v0.length : Int)))) rfl ?_)))
  refine r_nil ?_
  refine cF hF (fun hF => ?_) fun hF => ?_
  ·
   refine w_skip ?_
   refine thenQ_n ?_
   refine w_seq ?_
   refine w_block ?_
   refine ws 257 705 ?_
   refine qp (AL 3 (v0.map eBlock)) rfl (qp (AI v9) rfl ?_)
   obtain ⟨v1000, e1000, hF⟩ := bind_get hF
   refine qp (.val none (.ptr [.str v1000.1, .str v1000.2.1, .str v1000.2.2])) (ev_iad_n rfl rfl e1000 rfl) (qp (.val none (eBlock v1000)) rfl (qp (AI v8) rfl ?_))
   obtain ⟨v1001, e1001, hF⟩ := bind_get hF
   refine qc (AI v1001) [] false (con_laws_szBlock e1001) c38_ok (by first | rfl | simp) rfl ?_
   refine qp (AI v1001) rfl ?_
   refine r_nil ?_
   refine ws 705 833 ?_
   refine qp (AI v1001) rfl (qp (AB (decide (v1001 < (0 : Int)))) rfl ?_)
   refine r_nil ?_
   refine cF hF (fun hF => ?_) fun hF => ?_
   ·
    refine ws 833 897 ?_
    refine qp (AI (-1)) rfl ?_
    refine r_nil ?_
    refine w_ret ?_
    refine blockQ_r ?_
    refine thenQ_r ?_
    refine thenQ_r ?_
    refine blockQ_r ?_
    refine thenQ_r ?_
    cases hF
    exact eR
   ·
    refine w_skip ?_
    refine blockQ_n ?_
    refine thenQ_n ?_
    refine w_reg 833 1025 rfl rfl ?_
    refine qp (AI v9) rfl (qp (AI (w64 (v9 + 1))) rfl (qp (AI (w64 (v9 + 1))) rfl ?_))
    refine r_nil ?_
    refine thenQ_n ?_
    refine ar (l' := [(0, AL 3 (v0.map eBlock)), (1, AI v1001), (5, AI (w64 (v9 + 1)))]) (L := []) [0, 1, 5] [] 1 ⟨_, by rfl, hF⟩
  ·
   refine w_exit ?_
   refine thenQ_e ?_
   refine thenQ_e ?_
   refine blockQ_e ?_
   refine thenQ_n ?_
   refine ws 257 385 ?_
   refine qp (AI v8) rfl (qp (AI v8) rfl ?_)
   refine r_nil ?_
   refine w_ret ?_
   cases hF
   exact eR

def c40 : MC := (.seq (.reg [rg 1 (.f (.box (.t 0))), rg 2 (.f (.alloc [((.str []), (0, false)), ((.str []), (0, false)), ((.str []), (0, false))]))]) (.seq (.reg [rg 3 (.f (.alloc [((.str []), (0, false)), ((.str []), (0, false)), ((.str []), (0, false))]))]) (.seq (.reg [rg 4 (.p true (.fad (.t 1) 0)), rg 5 (.p true (.ld (.t 4) 1 false)), rg 6 (.p true (.fad (.t 3) 0)), ⟨none, none, (.f (.st (.t 6) (.t 5) 1))⟩]) (.seq (.reg [rg 7 (.p true (.fad (.t 1) 1)), rg 8 (.p true (.ld (.t 7) 1 false)), rg 9 (.p true (.fad (.t 3) 1)), ⟨none, none, (.f (.st (.t 9) (.t 8) 1))⟩]) (.seq (.reg [rg 10 (.p true (.fad (.t 1) 2)), rg 11 (.p true (.ld (.t 10) 1 false)), rg 12 (.p true (.fad (.t 3) 2)), ⟨none, none, (.f (.st (.t 12) (.t 11) 1))⟩]) (.seq (.reg [rg 13 (.p true (.ld (.t 3) 3 true)), ⟨none, none, (.f (.st (.t 2) (.t 13) 3))⟩]) .ret))))))
theorem c40_is : compFn Try.prog 40 = some (c40, [(.cell (.ld (.t 2) 3 true))]) := by kernel_rfl
theorem c40_ok : okFn Try.prog 40 = true := by kernel_rfl

noncomputable def F_laws_toBlock (v0 : TBlock) : Option (TBlock) :=
 some v0
@[simp] def res_laws_toBlock (r : TBlock) : RV := .one (.one (.val (eBlock r)))
theorem con_laws_toBlock {v0 : TBlock} {r : TBlock} (hF : F_laws_toBlock v0 = some r) : Con Try.prog 40 [eBlock v0] (res_laws_toBlock r) := by
 unfold F_laws_toBlock at hF
 refine con_of c40_is fun N => ?_
 refine ws 0 128 ?_
 refine qf (.ptr 0 0 0) [(0, .box [AS v0.1, AS v0.2.1, AS v0.2.2])] (by simp) ?_
 refine qf (.ptr 64 0 0) [(64, .box [AS [], AS [], AS []]), (0, .box [AS v0.1, AS v0.2.1, AS v0.2.2])] (by simp) ?_
 refine r_nil ?_
 refine ws 128 192 ?_
 refine qf (.ptr 128 0 0) [(128, .box [AS [], AS [], AS []]), (64, .box [AS [], AS [], AS []]), (0, .box [AS v0.1, AS v0.2.1, AS v0.2.2])] (by simp) ?_
 refine r_nil ?_
 refine ws 192 448 ?_
 refine qp (.ptr 0 0 0) rfl (qp (AS v0.1) rfl (qp (.ptr 128 0 0) rfl ?_))
 refine qf0 (.undef) [(128, .box [AS v0.1, AS [], AS []]), (128, .box [AS [], AS [], AS []]), (64, .box [AS [], AS [], AS []]), (0, .box [AS v0.1, AS v0.2.1, AS v0.2.2])] (by simp) ?_
 refine r_nil ?_
 refine ws 448 704 ?_
 refine qp (.ptr 0 0 1) rfl (qp (AS v0.2.1) rfl (qp (.ptr 128 0 1) rfl ?_))
 refine qf0 (.undef) [(128, .box [AS v0.1, AS v0.2.1, AS []]), (128, .box [AS v0.1, AS [], AS []]), (128, .box [AS [], AS [], AS []]), (64, .box [AS [], AS [], AS []]), (0, .box [AS v0.1, AS v0.2.1, AS v0.2.2])] (by simp) ?_
 refine r_nil ?_
 refine ws 704 960 ?_
 refine qp (.ptr 0 0 2) rfl (qp (AS v0.2.2) rfl (qp (.ptr 128 0 2) rfl ?_))
 refine qf0 (.undef) [(128, .box [AS v0.1, AS v0.2.1, AS v0.2.2]), (128, .box [AS v0.1, AS v0.2.1, AS []]), (128, .box [AS v0.1, AS [], AS []]), (128, .box [AS [], AS [], AS []]), (64, .box [AS [], AS [], AS []]), (0, .box [AS v0.1, AS v0.2.1, AS v0.2.2])] (by simp) ?_
 refine r_nil ?_
 refine ws 960 1088 ?_
 refine qp (.agg [AS v0.1, AS v0.2.1, AS v0.2.2]) rfl ?_
 refine qf0 (.undef) [(64, .box [AS v0.1, AS v0.2.1, AS v0.2.2]), (128, .box [AS v0.1, AS v0.2.1, AS v0.2.2]), (128, .box [AS v0.1, AS v0.2.1, AS []]), (128, .box [AS v0.1, AS [], AS []]), (128, .box [AS [], AS [], AS []]), (64, .box [AS [], AS [], AS []]), (0, .box [AS v0.1, AS v0.2.1, AS v0.2.2])] (by simp) ?_
 refine r_nil ?_
 refine w_ret ?_
 cases hF
 exact eR

def c23 : MC := (.seq (.reg [rg 2 (.f (.nilrow 3))]) (.seq (.reg [rg 5 (.p true (.mv (.t 0))), rg 6 (.p true (.len (.t 5))), rg 7 (.f (.mks 3 48 (.agg [(.str []), (.str []), (.str [])]) (.t 6) (.t 6))), rg 3 (.p true (.mv (.t 7)))]) (.seq (.seq (.reg [rg 4 (.p true (.mv (.c (.int .i64 0))))]) (.block 0 (.loop (.seq (.seq (.reg [rg 8 (.p true (.mv (.t 4))), rg 9 (.p true (.mv (.t 0))), rg 10 (.p true (.len (.t 9))), rg 11 (.p true (.bin .lss (.t 8) (.t 10)))]) (.cond (.t 11) .skip (.exit 0))) (.seq (.block 1 (.reg [rg 14 (.p true (.mv (.t 3))), rg 15 (.p true (.mv (.t 4))), rg 16 (.p true (.mv (.t 0))), rg 17 (.p true (.mv (.t 4))), rg 18 (.p true (.iad (.t 16) (.t 17) 3)), rg 19 (.p true (.ld (.t 18) 3 true)), rg 20 (.call true 40 [(.t 19)]), rg 21 (.p true (.iad (.t 14) (.t 15) 3)), ⟨none, none, (.f (.st (.t 21) (.t 20) 3))⟩])) (.reg [rg 12 (.p true (.mv (.t 4))), rg 13 (.p true (.bin .add (.t 12) (.c (.int .i64 1)))), rg 4 (.p true (.mv (.t 13)))])))))) (.seq (.reg [rg 22 (.p true (.mv (.t 3))), rg 2 (.p true (.mv (.t 22)))]) .ret))))
theorem c23_is : compFn Try.prog 23 = some (c23, [(.tmp 2)]) := by kernel_rfl
theorem c23_ok : okFn Try.prog 23 = true := by kernel_rfl

noncomputable def F_laws_toBlockS_l0 (v0 : List TBlock) (k1 : Int × (List TBlock) → Option (List TBlock)) : Int × (List TBlock) → Option (List TBlock)
 | (v1009, v1010) => (bif (decide (v1009 < (v0.length : Int))) then ((ix v0 v1009).bind fun v1011 => ((F_laws_toBlock v1011).bind fun v1012 => ((ix v1010 v1009).bind fun v1013 => k1 (w64 (v1009 + 1), List.set v1010 v1009.toNat v1012))))
 else some v1010)
noncomputable def F_laws_toBlockS (v0 : List TBlock) : Option (List TBlock) :=
 (need (0 ≤ (v0.length : Int) ∧ (v0.length : Int) ≤ (v0.length : Int) ∧ (v0.length : Int) ≤ 9223372036854775807 ∧ 48 * (v0.length : Int) ≤ 281474976710656) (loop (F_laws_toBlockS_l0 v0) (0, List.replicate ((v0.length : Int)).toNat (([], [], []) : TBlock))))
@[simp] def res_laws_toBlockS (r : List TBlock) : RV := .one (.one (.row true 3 (r.map eBlock)))
theorem con_laws_toBlockS {v0 : List TBlock} {r : List TBlock} (hF : F_laws_toBlockS v0 = some r) : Con Try.prog 23 [.sl 3 (v0.map eBlock)] (res_laws_toBlockS r) := by
 unfold F_laws_toBlockS at hF
 refine con_of c23_is fun N => ?_
 refine ws 0 64 ?_
 refine qf (.sl 0 0 0) [(0, .row true 3 (([] : List Int).map (V.int .i64)))] (by simp) ?_
 refine r_nil ?_
 refine ws 64 320 ?_
 refine qp (AL 3 (v0.map eBlock)) rfl (qp (AI (v0.length : Int)) (ev_len_n rfl) ?_)
 obtain ⟨g1000, hF⟩ := need_some hF
 refine qf (.sl 192 0 ((List.replicate ((v0.length : Int)).toNat (([], [], []) : TBlock)).length)) [(192, .row true 3 ((List.replicate ((v0.length : Int)).toNat (([], [], []) : TBlock)).map eBlock)), (0, .row true 3 (([] : List Int).map (V.int .i64)))] (effT_mks rfl rfl g1000 rfl) ?_
 refine qp (.sl 192 0 ((List.replicate ((v0.length : Int)).toNat (([], [], []) : TBlock)).length)) rfl ?_
 refine r_nil ?_
 refine w_seq ?_
 refine ws 320 384 ?_
 refine qp (AI 0) rfl ?_
 refine r_nil ?_
 refine w_block ?_
 refine wr (l' := [(0, AL 3 (v0.map eBlock)), (3, .sl 0 0 (List.replicate ((v0.length : Int)).toNat (([], [], []) : TBlock)).length), (4, AI 0)]) (L := [(0, .row true 3 ((List.replicate ((v0.length : Int)).toNat (([], [], []) : TBlock)).map eBlock))]) [0, 3, 4] [(192, 0)] 1 ?_
 refine w_loopF (F_laws_toBlockS_l0 v0) (fun s : Int × (List TBlock) => mkS [(0, AL 3 (v0.map eBlock)), (3, .sl 0 0 s.2.length), (4, AI s.1)] (fo [(0, .row true 3 (s.2.map eBlock))]) 1) hF ?_
 rintro k1 ⟨v1009, v1010⟩ hF
 rw [F_laws_toBlockS_l0] at hF
 try dsimp only
 refine w_seq ?_
 refine ws 1 257 ?_
 refine qp (AI v1009) rfl (qp (AL 3 (v0.map eBlock)) rfl (qp (AI (v0.length : Int)) (ev_len_n rfl) (qp (AB (decide (v1009 < (v0.length : Int)))) rfl ?_)))
 refine r_nil ?_
 refine cF hF (fun hF => ?_) fun hF => ?_
 ·
  refine w_skip ?_
  refine thenQ_n ?_
  refine w_seq ?_
  refine w_block ?_
  refine w_reg 257 833 rfl rfl ?_
  refine qp (.sl 0 0 v1010.length) rfl (qp (AI v1009) rfl (qp (AL 3 (v0.map eBlock)) rfl (qp (AI v1009) rfl ?_)))
  obtain ⟨v1011, e1011, hF⟩ := bind_get hF
  refine qp (.val none (.ptr [.str v1011.1, .str v1011.2.1, .str v1011.2.2])) (ev_iad_n rfl rfl e1011 rfl) (qp (.val none (eBlock v1011)) rfl ?_)
  obtain ⟨v1012, e1012, hF⟩ := bind_get hF
  refine qc (.val none (eBlock v1012)) [(0, .row true 3 (v1010.map eBlock))] false (con_laws_toBlock e1012) c40_ok (by first | rfl | simp) rfl ?_
  obtain ⟨v1013, e1013, hF⟩ := bind_get hF
  refine qp (.ptr 0 v1009.toNat 0) (ev_iad_r rfl (by simp) rfl rfl e1013) ?_
  refine qf0 (.undef) [(0, .row true 3 ((List.set v1010 v1009.toNat v1012).map eBlock)), (0, .row true 3 (v1010.map eBlock))] (effT_st rfl rfl (ix_some e1013).2 rfl rfl (by rfl) (by first | rfl | simp [patch, reb, List.take_of_length_le]) (by rfl) rfl) ?_
  refine r_nil ?_
  refine blockQ_n ?_
  refine thenQ_n ?_
  refine w_reg 833 1025 rfl rfl ?_
  refine qp (AI v1009) rfl (qp (AI (w64 (v1009 + 1))) rfl (qp (AI (w64 (v1009 + 1))) rfl ?_))
  refine r_nil ?_
  refine thenQ_n ?_
  refine ar (l' := [(0, AL 3 (v0.map eBlock)), (3, .sl 0 0 (List.set v1010 v1009.toNat v1012).length), (4, AI (w64 (v1009 + 1)))]) (L := [(0, .row true 3 ((List.set v1010 v1009.toNat v1012).map eBlock))]) [0, 3, 4] [(0, 0)] 1 ⟨_, by rfl, hF⟩
 ·
  refine w_exit ?_
  refine thenQ_e ?_
  refine thenQ_e ?_
  refine blockQ_e ?_
  refine thenQ_n ?_
  refine ws 257 385 ?_
  refine qp (.sl 0 0 v1010.length) rfl (qp (.sl 0 0 v1010.length) rfl ?_)
  refine r_nil ?_
  refine w_ret ?_
  cases hF
  exact eR

def c139 : MC := (.seq (.reg [rg 2 (.p true (.mv (.c (.bool false))))]) (.seq (.reg [rg 3 (.p true (.mv (.t 0))), rg 4 (.p true (.bin .geq (.t 3) (.c (.int .u8 97)))), rg 5 (.p true (.mv (.t 4))), ⟨(some 6), (some (5, true)), (.p true (.mv (.t 0)))⟩, ⟨(some 7), (some (5, true)), (.p true (.bin .leq (.t 6) (.c (.int .u8 122))))⟩, rg 8 (.p true (.pick (.t 5) (.t 7) (.c (.bool false)))), rg 2 (.p true (.mv (.t 8)))]) .ret))
theorem c139_is : compFn Try.prog 139 = some (c139, [(.tmp 2)]) := by kernel_rfl
theorem c139_ok : okFn Try.prog 139 = true := by kernel_rfl

noncomputable def F_spec_l01Small (v0 : Int) : Option (Bool) :=
 (bif (decide ((97 : Int) ≤ v0)) then some (decide (v0 ≤ (122 : Int)))
 else some false)
@[simp] def res_spec_l01Small (r : Bool) : RV := .one (.one (.val (.bool r)))
theorem con_spec_l01Small {v0 : Int} {r : Bool} (hF : F_spec_l01Small v0 = some r) : Con Try.prog 139 [.int .u8 v0] (res_spec_l01Small r) := by
 unfold F_spec_l01Small at hF
 refine con_of c139_is fun N => ?_
 refine ws 0 64 ?_
 refine qp (AB false) rfl ?_
 refine r_nil ?_
 refine ws 64 512 ?_
 refine qp (.val none (.int .u8 v0)) rfl (qp (AB (decide ((97 : Int) ≤ v0))) rfl (qp (AB (decide ((97 : Int) ≤ v0))) rfl ?_))
 refine q_case 5 hF rfl (fun hF => ?_) (fun hF => ?_)
 ·
  refine qg (.val none (.int .u8 v0)) rfl rfl (qg (AB (decide (v0 ≤ (122 : Int)))) rfl rfl (qp (AB (decide (v0 ≤ (122 : Int)))) rfl (qp (AB (decide (v0 ≤ (122 : Int)))) rfl ?_)))
  refine r_nil ?_
  refine w_ret ?_
  cases hF
  exact eR
 ·
  refine qn rfl (qn rfl (qp (AB false) rfl (qp (AB false) rfl ?_)))
  refine r_nil ?_
  refine w_ret ?_
  cases hF
  exact eR

def c140 : MC := (.seq (.reg [rg 2 (.p true (.mv (.c (.bool false))))]) (.seq (.reg [rg 3 (.p true (.mv (.t 0))), rg 4 (.p true (.bin .geq (.t 3) (.c (.int .u8 48)))), rg 5 (.p true (.mv (.t 4))), ⟨(some 6), (some (5, true)), (.p true (.mv (.t 0)))⟩, ⟨(some 7), (some (5, true)), (.p true (.bin .leq (.t 6) (.c (.int .u8 57))))⟩, rg 8 (.p true (.pick (.t 5) (.t 7) (.c (.bool false)))), rg 2 (.p true (.mv (.t 8)))]) .ret))
theorem c140_is : compFn Try.prog 140 = some (c140, [(.tmp 2)]) := by kernel_rfl
theorem c140_ok : okFn Try.prog 140 = true := by kernel_rfl

noncomputable def F_spec_l01Digit (v0 : Int) : Option (Bool) :=
 (bif (decide ((48 : Int) ≤ v0)) then some (decide (v0 ≤ (57 : Int)))
 else some false)
@[simp] def res_spec_l01Digit (r : Bool) : RV := .one (.one (.val (.bool r)))
theorem con_spec_l01Digit {v0 : Int} {r : Bool} (hF : F_spec_l01Digit v0 = some r) : Con Try.prog 140 [.int .u8 v0] (res_spec_l01Digit r) := by
 unfold F_spec_l01Digit at hF
 refine con_of c140_is fun N => ?_
 refine ws 0 64 ?_
 refine qp (AB false) rfl ?_
 refine r_nil ?_
 refine ws 64 512 ?_
 refine qp (.val none (.int .u8 v0)) rfl (qp (AB (decide ((48 : Int) ≤ v0))) rfl (qp (AB (decide ((48 : Int) ≤ v0))) rfl ?_))
 refine q_case 5 hF rfl (fun hF => ?_) (fun hF => ?_)
 ·
  refine qg (.val none (.int .u8 v0)) rfl rfl (qg (AB (decide (v0 ≤ (57 : Int)))) rfl rfl (qp (AB (decide (v0 ≤ (57 : Int)))) rfl (qp (AB (decide (v0 ≤ (57 : Int)))) rfl ?_)))
  refine r_nil ?_
  refine w_ret ?_
  cases hF
  exact eR
 ·
  refine qn rfl (qn rfl (qp (AB false) rfl (qp (AB false) rfl ?_)))
  refine r_nil ?_
  refine w_ret ?_
  cases hF
  exact eR

def c121 : MC := (.seq (.reg [rg 2 (.p true (.mv (.c (.bool false))))]) (.seq (.seq (.reg [rg 4 (.p true (.mv (.t 0))), rg 5 (.p true (.bin .eql (.t 4) (.c (.str [])))), rg 6 (.p true (.mv (.t 5))), ⟨(some 7), (some (6, false)), (.p true (.mv (.t 0)))⟩, ⟨(some 8), (some (6, false)), (.p true (.lens (.t 7)))⟩, ⟨(some 9), (some (6, false)), (.p true (.bin .gtr (.t 8) (.c (.int .i64 10))))⟩, rg 10 (.p true (.pick (.t 6) (.c (.bool true)) (.t 9))), rg 11 (.p true (.mv (.t 10))), ⟨(some 12), (some (11, false)), (.p true (.mv (.t 0)))⟩, ⟨(some 13), (some (11, false)), (.p true (.ixs (.t 12) (.c (.int .i64 0))))⟩, ⟨(some 14), (some (11, false)), (.call true 139 [(.t 13)])⟩, ⟨(some 15), (some (11, false)), (.p true (.not (.t 14)))⟩, rg 16 (.p true (.pick (.t 11) (.c (.bool true)) (.t 15)))]) (.cond (.t 16) (.seq (.reg [rg 2 (.p true (.mv (.c (.bool false))))]) .ret) .skip)) (.seq (.seq (.reg [rg 3 (.p true (.mv (.c (.int .i64 0))))]) (.block 0 (.loop (.seq (.seq (.reg [rg 17 (.p true (.mv (.t 3))), rg 18 (.p true (.mv (.t 0))), rg 19 (.p true (.lens (.t 18))), rg 20 (.p true (.bin .lss (.t 17) (.t 19)))]) (.cond (.t 20) .skip (.exit 0))) (.seq (.block 1 (.seq (.reg [rg 23 (.p true (.mv (.t 0))), rg 24 (.p true (.mv (.t 3))), rg 25 (.p true (.ixs (.t 23) (.t 24))), rg 26 (.call true 139 [(.t 25)]), rg 27 (.p true (.not (.t 26))), rg 28 (.p true (.mv (.t 27))), ⟨(some 29), (some (28, true)), (.p true (.mv (.t 0)))⟩, ⟨(some 30), (some (28, true)), (.p true (.mv (.t 3)))⟩, ⟨(some 31), (some (28, true)), (.p true (.ixs (.t 29) (.t 30)))⟩, ⟨(some 32), (some (28, true)), (.call true 140 [(.t 31)])⟩, ⟨(some 33), (some (28, true)), (.p true (.not (.t 32)))⟩, rg 34 (.p true (.pick (.t 28) (.t 33) (.c (.bool false))))]) (.cond (.t 34) (.seq (.reg [rg 2 (.p true (.mv (.c (.bool false))))]) .ret) .skip))) (.reg [rg 21 (.p true (.mv (.t 3))), rg 22 (.p true (.bin .add (.t 21) (.c (.int .i64 1)))), rg 3 (.p true (.mv (.t 22)))])))))) (.seq (.reg [rg 2 (.p true (.mv (.c (.bool true))))]) .ret))))
theorem c121_is : compFn Try.prog 121 = some (c121, [(.tmp 2)]) := by kernel_rfl
theorem c121_ok : okFn Try.prog 121 = true := by kernel_rfl

noncomputable def F_spec_l01Name_l0 (v0 : List UInt8) (k1 : Int → Option (Bool)) : Int → Option (Bool)
 | v1011 => (bif (decide (v1011 < (v0.length : Int))) then ((ix v0 v1011).bind fun v1012 => ((F_spec_l01Small (v1012.toNat : Int)).bind fun v1013 => (bif (!v1013) then ((ix v0 v1011).bind fun v1014 => ((F_spec_l01Digit (v1014.toNat : Int)).bind fun v1015 => (bif (!v1015) then some false
 else k1 (w64 (v1011 + 1)))))
 else k1 (w64 (v1011 + 1)))))
 else some true)
noncomputable def F_spec_l01Name (v0 : List UInt8) : Option (Bool) :=
 (bif (decide (v0 = [])) then some false
 else (bif (decide ((10 : Int) < (v0.length : Int))) then some false
 else ((ix v0 0).bind fun v1000 => ((F_spec_l01Small (v1000.toNat : Int)).bind fun v1001 => (bif (!v1001) then some false
 else loop (F_spec_l01Name_l0 v0) 0)))))
@[simp] def res_spec_l01Name (r : Bool) : RV := .one (.one (.val (.bool r)))
theorem con_spec_l01Name {v0 : List UInt8} {r : Bool} (hF : F_spec_l01Name v0 = some r) : Con Try.prog 121 [.str v0] (res_spec_l01Name r) := by
 unfold F_spec_l01Name at hF
 refine con_of c121_is fun N => ?_
 refine ws 0 64 ?_
 refine qp (AB false) rfl ?_
 refine r_nil ?_
 refine w_seq ?_
 refine ws 64 896 ?_
 refine qp (AS v0) rfl (qp (AB (decide (v0 = []))) rfl (qp (AB (decide (v0 = []))) rfl ?_))
 refine q_case 6 hF rfl (fun hF => ?_) (fun hF => ?_)
 ·
  refine qn rfl (qn rfl (qn rfl (qp (AB true) rfl (qp (AB true) rfl (qn rfl (qn rfl (qn rfl ?_)))))))
  refine qn rfl (qp (AB true) rfl ?_)
  refine r_nil ?_
  refine w_true rfl ?_
  refine ws 896 960 ?_
  refine qp (AB false) rfl ?_
  refine r_nil ?_
  refine w_ret ?_
  refine thenQ_r ?_
  cases hF
  exact eR
 ·
  refine qg (AS v0) rfl rfl (qg (AI (v0.length : Int)) rfl rfl (qg (AB (decide ((10 : Int) < (v0.length : Int)))) rfl rfl (qp (AB (decide ((10 : Int) < (v0.length : Int)))) rfl (qp (AB (decide ((10 : Int) < (v0.length : Int)))) rfl ?_))))
  refine q_case 11 hF rfl (fun hF => ?_) (fun hF => ?_)
  ·
   refine qn rfl (qn rfl (qn rfl (qn rfl (qp (AB true) rfl ?_))))
   refine r_nil ?_
   refine w_true rfl ?_
   refine ws 896 960 ?_
   refine qp (AB false) rfl ?_
   refine r_nil ?_
   refine w_ret ?_
   refine thenQ_r ?_
   cases hF
   exact eR
  ·
   refine qg (AS v0) rfl rfl ?_
   obtain ⟨v1000, e1000, hF⟩ := bind_get hF
   refine qg (.val none (.int .u8 (v1000.toNat : Int))) rfl (ev_ixs rfl rfl e1000) ?_
   obtain ⟨v1001, e1001, hF⟩ := bind_get hF
   refine qcg (AB v1001) [] false rfl (con_spec_l01Small e1001) c139_ok (by first | rfl | simp) rfl ?_
   refine qg (AB (!v1001)) rfl rfl (qp (AB (!v1001)) rfl ?_)
   refine r_nil ?_
   refine cF hF (fun hF => ?_) fun hF => ?_
   ·
    refine ws 896 960 ?_
    refine qp (AB false) rfl ?_
    refine r_nil ?_
    refine w_ret ?_
    refine thenQ_r ?_
    cases hF
    exact eR
   ·
    refine w_skip ?_
    refine thenQ_n ?_
    refine w_seq ?_
    refine ws 896 960 ?_
    refine qp (AI 0) rfl ?_
    refine r_nil ?_
    refine w_block ?_
    refine wr (l' := [(0, AS v0), (3, AI 0)]) (L := []) [0, 3] [] 1 ?_
    refine w_loopF (F_spec_l01Name_l0 v0) (fun s : Int => mkS [(0, AS v0), (3, AI s)] (fo []) 1) hF ?_
    rintro k1 v1011 hF
    rw [F_spec_l01Name_l0] at hF
    try dsimp only
    refine w_seq ?_
    refine ws 1 257 ?_
    refine qp (AI v1011) rfl (qp (AS v0) rfl (qp (AI (v0.length : Int)) rfl (qp (AB (decide (v1011 < (v0.length : Int)))) rfl ?_)))
    refine r_nil ?_
    refine cF hF (fun hF => ?_) fun hF => ?_
    ·
     refine w_skip ?_
     refine thenQ_n ?_
     refine w_seq ?_
     refine w_block ?_
     refine ws 257 1025 ?_
     refine qp (AS v0) rfl (qp (AI v1011) rfl ?_)
     obtain ⟨v1012, e1012, hF⟩ := bind_get hF
     refine qp (.val none (.int .u8 (v1012.toNat : Int))) (ev_ixs rfl rfl e1012) ?_
     obtain ⟨v1013, e1013, hF⟩ := bind_get hF
     refine qc (AB v1013) [] false (con_spec_l01Small e1013) c139_ok (by first | rfl | simp) rfl ?_
     refine qp (AB (!v1013)) rfl (qp (AB (!v1013)) rfl ?_)
     refine q_case 28 hF rfl (fun hF => ?_) (fun hF => ?_)
     ·
      refine qg (AS v0) rfl rfl (qg (AI v1011) rfl rfl ?_)
      obtain ⟨v1014, e1014, hF⟩ := bind_get hF
      refine qg (.val none (.int .u8 (v1014.toNat : Int))) rfl (ev_ixs rfl rfl e1014) ?_
      obtain ⟨v1015, e1015, hF⟩ := bind_get hF
      refine qcg (AB v1015) [] false rfl (con_spec_l01Digit e1015) c140_ok (by first | rfl | simp) rfl ?_
      refine qg (AB (!v1015)) rfl rfl (qp (AB (!v1015)) rfl ?_)
      refine r_nil ?_
      refine cF hF (fun hF => ?_) fun hF => ?_
      ·
       refine ws 1025 1089 ?_
       refine qp (AB false) rfl ?_
       refine r_nil ?_
       refine w_ret ?_
       refine blockQ_r ?_
       refine thenQ_r ?_
       refine thenQ_r ?_
       refine blockQ_r ?_
       refine thenQ_r ?_
       cases hF
       exact eR
      ·
       refine w_skip ?_
       refine blockQ_n ?_
       refine thenQ_n ?_
       refine w_reg 1025 1217 rfl rfl ?_
       refine qp (AI v1011) rfl (qp (AI (w64 (v1011 + 1))) rfl (qp (AI (w64 (v1011 + 1))) rfl ?_))
       refine r_nil ?_
       refine thenQ_n ?_
       refine ar (l' := [(0, AS v0), (3, AI (w64 (v1011 + 1)))]) (L := []) [0, 3] [] 1 ⟨_, by rfl, hF⟩
     ·
      refine qn rfl (qn rfl (qn rfl (qn rfl (qn rfl (qp (AB false) rfl ?_)))))
      refine r_nil ?_
      refine w_false rfl ?_
      refine w_skip ?_
      refine blockQ_n ?_
      refine thenQ_n ?_
      refine w_reg 1025 1217 rfl rfl ?_
      refine qp (AI v1011) rfl (qp (AI (w64 (v1011 + 1))) rfl (qp (AI (w64 (v1011 + 1))) rfl ?_))
      refine r_nil ?_
      refine thenQ_n ?_
      refine ar (l' := [(0, AS v0), (3, AI (w64 (v1011 + 1)))]) (L := []) [0, 3] [] 1 ⟨_, by rfl, hF⟩
    ·
     refine w_exit ?_
     refine thenQ_e ?_
     refine thenQ_e ?_
     refine blockQ_e ?_
     refine thenQ_n ?_
     refine ws 257 321 ?_
     refine qp (AB true) rfl ?_
     refine r_nil ?_
     refine w_ret ?_
     cases hF
     exact eR

def c90 : MC := (.seq (.reg [rg 2 (.p true (.mv (.c (.bool false))))]) (.seq (.seq (.reg [rg 3 (.p true (.mv (.c (.int .i64 0))))]) (.block 0 (.loop (.seq (.seq (.reg [rg 4 (.p true (.mv (.t 3))), rg 5 (.p true (.mv (.t 0))), rg 6 (.p true (.nck (.t 5))), rg 7 (.p true (.fad (.t 6) 2)), rg 8 (.p true (.ld (.t 7) 1 false)), rg 9 (.p true (.lens (.t 8))), rg 10 (.p true (.bin .lss (.t 4) (.t 9)))]) (.cond (.t 10) .skip (.exit 0))) (.seq (.block 1 (.seq (.reg [rg 13 (.p true (.mv (.t 0))), rg 14 (.p true (.nck (.t 13))), rg 15 (.p true (.fad (.t 14) 2)), rg 16 (.p true (.ld (.t 15) 1 false)), rg 17 (.p true (.mv (.t 3))), rg 18 (.p true (.ixs (.t 16) (.t 17))), rg 19 (.p true (.bin .eql (.t 18) (.c (.int .u8 10))))]) (.cond (.t 19) (.seq (.reg [rg 2 (.p true (.mv (.c (.bool false))))]) .ret) .skip))) (.reg [rg 11 (.p true (.mv (.t 3))), rg 12 (.p true (.bin .add (.t 11) (.c (.int .i64 1)))), rg 3 (.p true (.mv (.t 12)))])))))) (.seq (.reg [rg 20 (.p true (.mv (.t 0))), rg 21 (.p true (.nck (.t 20))), rg 22 (.p true (.fad (.t 21) 0)), rg 23 (.p true (.ld (.t 22) 1 false)), rg 24 (.call true 121 [(.t 23)]), rg 25 (.p true (.mv (.t 24))), ⟨(some 26), (some (25, true)), (.p true (.mv (.t 0)))⟩, ⟨(some 27), (some (25, true)), (.p true (.nck (.t 26)))⟩, ⟨(some 28), (some (25, true)), (.p true (.fad (.t 27) 1))⟩, ⟨(some 29), (some (25, true)), (.p true (.ld (.t 28) 1 false))⟩, ⟨(some 30), (some (25, true)), (.call true 121 [(.t 29)])⟩, rg 31 (.p true (.pick (.t 25) (.t 30) (.c (.bool false)))), rg 32 (.p true (.mv (.t 31))), ⟨(some 33), (some (32, true)), (.p true (.mv (.t 0)))⟩, ⟨(some 34), (some (32, true)), (.p true (.nck (.t 33)))⟩, ⟨(some 35), (some (32, true)), (.p true (.fad (.t 34) 2))⟩, ⟨(some 36), (some (32, true)), (.p true (.ld (.t 35) 1 false))⟩, ⟨(some 37), (some (32, true)), (.p true (.lens (.t 36)))⟩, ⟨(some 38), (some (32, true)), (.p true (.bin .leq (.t 37) (.c (.int .i64 400))))⟩, rg 39 (.p true (.pick (.t 32) (.t 38) (.c (.bool false)))), rg 2 (.p true (.mv (.t 39)))]) .ret)))
theorem c90_is : compFn Try.prog 90 = some (c90, [(.tmp 2)]) := by kernel_rfl
theorem c90_ok : okFn Try.prog 90 = true := by kernel_rfl

noncomputable def F_spec_l29One_l0 (v0 : TBlock) (k0 : Int → Option (Bool)) : Int → Option (Bool)
 | v4 => (bif (decide (v4 < (v0.2.2.length : Int))) then ((ix v0.2.2 v4).bind fun v1000 => (bif (decide ((v1000.toNat : Int) = (10 : Int))) then some false
 else k0 (w64 (v4 + 1))))
 else ((F_spec_l01Name v0.1).bind fun v1001 => (bif v1001 then ((F_spec_l01Name v0.2.1).bind fun v1002 => (bif v1002 then some (decide ((v0.2.2.length : Int) ≤ (400 : Int)))
 else some false))
 else some false)))
noncomputable def F_spec_l29One (v0 : TBlock) : Option (Bool) :=
 loop (F_spec_l29One_l0 v0) 0
@[simp] def res_spec_l29One (r : Bool) : RV := .one (.one (.val (.bool r)))
theorem con_spec_l29One {v0 : TBlock} {r : Bool} (hF : F_spec_l29One v0 = some r) : Con Try.prog 90 [.ptr [.str v0.1, .str v0.2.1, .str v0.2.2]] (res_spec_l29One r) := by
 unfold F_spec_l29One at hF
 refine con_of c90_is fun N => ?_
 refine ws 0 64 ?_
 refine qp (AB false) rfl ?_
 refine r_nil ?_
 refine w_seq ?_
 refine ws 64 128 ?_
 refine qp (AI 0) rfl ?_
 refine r_nil ?_
 refine w_block ?_
 refine wr (l' := [(0, .val none (.ptr [.str v0.1, .str v0.2.1, .str v0.2.2])), (3, AI 0)]) (L := []) [0, 3] [] 1 ?_
 refine w_loopF (F_spec_l29One_l0 v0) (fun s : Int => mkS [(0, .val none (.ptr [.str v0.1, .str v0.2.1, .str v0.2.2])), (3, AI s)] (fo []) 1) hF ?_
 rintro k0 v4 hF
 rw [F_spec_l29One_l0] at hF
 try dsimp only
 refine w_seq ?_
 refine ws 1 449 ?_
 refine qp (AI v4) rfl (qp (.val none (.ptr [.str v0.1, .str v0.2.1, .str v0.2.2])) rfl (qp (.val none (.ptr [.str v0.1, .str v0.2.1, .str v0.2.2])) rfl (qp (.val none (.ptr [.str v0.2.2])) rfl (qp (AS v0.2.2) rfl (qp (AI (v0.2.2.length : Int)) rfl (qp (AB (decide (v4 < (v0.2.2.length : Int)))) rfl ?_))))))
 refine r_nil ?_
 refine cF hF (fun hF => ?_) fun hF => ?_
 ·
  refine w_skip ?_
  refine thenQ_n ?_
  refine w_seq ?_
  refine w_block ?_
  refine ws 449 897 ?_
  refine qp (.val none (.ptr [.str v0.1, .str v0.2.1, .str v0.2.2])) rfl (qp (.val none (.ptr [.str v0.1, .str v0.2.1, .str v0.2.2])) rfl (qp (.val none (.ptr [.str v0.2.2])) rfl (qp (AS v0.2.2) rfl (qp (AI v4) rfl ?_))))
  obtain ⟨v1000, e1000, hF⟩ := bind_get hF
  refine qp (.val none (.int .u8 (v1000.toNat : Int))) (ev_ixs rfl rfl e1000) (qp (AB (decide ((v1000.toNat : Int) = (10 : Int)))) rfl ?_)
  refine r_nil ?_
  refine cF hF (fun hF => ?_) fun hF => ?_
  ·
   refine ws 897 961 ?_
   refine qp (AB false) rfl ?_
   refine r_nil ?_
   refine w_ret ?_
   refine blockQ_r ?_
   refine thenQ_r ?_
   refine thenQ_r ?_
   refine blockQ_r ?_
   refine thenQ_r ?_
   cases hF
   exact eR
  ·
   refine w_skip ?_
   refine blockQ_n ?_
   refine thenQ_n ?_
   refine w_reg 897 1089 rfl rfl ?_
   refine qp (AI v4) rfl (qp (AI (w64 (v4 + 1))) rfl (qp (AI (w64 (v4 + 1))) rfl ?_))
   refine r_nil ?_
   refine thenQ_n ?_
   refine ar (l' := [(0, .val none (.ptr [.str v0.1, .str v0.2.1, .str v0.2.2])), (3, AI (w64 (v4 + 1)))]) (L := []) [0, 3] [] 1 ⟨_, by rfl, hF⟩
 ·
  refine w_exit ?_
  refine thenQ_e ?_
  refine thenQ_e ?_
  refine blockQ_e ?_
  refine thenQ_n ?_
  refine ws 449 1793 ?_
  refine qp (.val none (.ptr [.str v0.1, .str v0.2.1, .str v0.2.2])) rfl (qp (.val none (.ptr [.str v0.1, .str v0.2.1, .str v0.2.2])) rfl (qp (.val none (.ptr [.str v0.1, .str v0.2.1, .str v0.2.2])) rfl (qp (AS v0.1) rfl ?_)))
  obtain ⟨v1001, e1001, hF⟩ := bind_get hF
  refine qc (AB v1001) [] false (con_spec_l01Name e1001) c121_ok (by first | rfl | simp) rfl ?_
  refine qp (AB v1001) rfl ?_
  refine q_case 25 hF rfl (fun hF => ?_) (fun hF => ?_)
  ·
   refine qg (.val none (.ptr [.str v0.1, .str v0.2.1, .str v0.2.2])) rfl rfl (qg (.val none (.ptr [.str v0.1, .str v0.2.1, .str v0.2.2])) rfl rfl (qg (.val none (.ptr [.str v0.2.1, .str v0.2.2])) rfl rfl (qg (AS v0.2.1) rfl rfl ?_)))
   obtain ⟨v1002, e1002, hF⟩ := bind_get hF
   refine qcg (AB v1002) [] false rfl (con_spec_l01Name e1002) c121_ok (by first | rfl | simp) rfl ?_
   refine qp (AB v1002) rfl (qp (AB v1002) rfl ?_)
   refine q_case 32 hF rfl (fun hF => ?_) (fun hF => ?_)
   ·
    refine qg (.val none (.ptr [.str v0.1, .str v0.2.1, .str v0.2.2])) rfl rfl (qg (.val none (.ptr [.str v0.1, .str v0.2.1, .str v0.2.2])) rfl rfl (qg (.val none (.ptr [.str v0.2.2])) rfl rfl (qg (AS v0.2.2) rfl rfl (qg (AI (v0.2.2.length : Int)) rfl rfl (qg (AB (decide ((v0.2.2.length : Int) ≤ (400 : Int)))) rfl rfl (qp (AB (decide ((v0.2.2.length : Int) ≤ (400 : Int)))) rfl (qp (AB (decide ((v0.2.2.length : Int) ≤ (400 : Int)))) rfl ?_)))))))
    refine r_nil ?_
    refine w_ret ?_
    cases hF
    exact eR
   ·
    refine qn rfl (qn rfl (qn rfl (qn rfl (qn rfl (qn rfl (qp (AB false) rfl (qp (AB false) rfl ?_)))))))
    refine r_nil ?_
    refine w_ret ?_
    cases hF
    exact eR
  ·
   refine qn rfl (qn rfl (qn rfl (qn rfl (qn rfl (qp (AB false) rfl (qp (AB false) rfl (qn rfl ?_)))))))
   refine qn rfl (qn rfl (qn rfl (qn rfl (qn rfl (qp (AB false) rfl (qp (AB false) rfl ?_))))))
   refine r_nil ?_
   refine w_ret ?_
   cases hF
   exact eR

def c116 : MC := (.seq (.reg [rg 4 (.p true (.mv (.c (.bool false))))]) (.seq (.reg [rg 5 (.p false (.mv (.t 0))), rg 6 (.p false (.nck (.t 5))), rg 7 (.p false (.fad (.t 6) 0)), rg 8 (.p false (.ld (.t 7) 1 false)), rg 9 (.p false (.mv (.t 1))), rg 10 (.p false (.nck (.t 9))), rg 11 (.p false (.fad (.t 10) 0)), rg 12 (.p false (.ld (.t 11) 1 false)), rg 13 (.p false (.bin .lss (.t 8) (.t 12))), rg 14 (.p false (.mv (.t 13))), ⟨(some 15), (some (14, false)), (.p false (.mv (.t 0)))⟩, ⟨(some 16), (some (14, false)), (.p false (.nck (.t 15)))⟩, ⟨(some 17), (some (14, false)), (.p false (.fad (.t 16) 0))⟩, ⟨(some 18), (some (14, false)), (.p false (.ld (.t 17) 1 false))⟩, ⟨(some 19), (some (14, false)), (.p false (.mv (.t 1)))⟩, ⟨(some 20), (some (14, false)), (.p false (.nck (.t 19)))⟩, ⟨(some 21), (some (14, false)), (.p false (.fad (.t 20) 0))⟩, ⟨(some 22), (some (14, false)), (.p false (.ld (.t 21) 1 false))⟩, ⟨(some 23), (some (14, false)), (.p false (.bin .eql (.t 18) (.t 22)))⟩, ⟨(some 24), (some (14, false)), (.p false (.mv (.t 23)))⟩, ⟨(some 25), (some (24, true)), (.p false (.mv (.t 0)))⟩, ⟨(some 26), (some (24, true)), (.p false (.nck (.t 25)))⟩, ⟨(some 27), (some (24, true)), (.p false (.fad (.t 26) 1))⟩, ⟨(some 28), (some (24, true)), (.p false (.ld (.t 27) 1 false))⟩, ⟨(some 29), (some (24, true)), (.p false (.mv (.t 1)))⟩, ⟨(some 30), (some (24, true)), (.p false (.nck (.t 29)))⟩, ⟨(some 31), (some (24, true)), (.p false (.fad (.t 30) 1))⟩, ⟨(some 32), (some (24, true)), (.p false (.ld (.t 31) 1 false))⟩, ⟨(some 33), (some (24, true)), (.p false (.bin .lss (.t 28) (.t 32)))⟩, ⟨(some 34), (some (14, false)), (.p false (.pick (.t 24) (.t 33) (.c (.bool false))))⟩, rg 35 (.p false (.pick (.t 14) (.c (.bool true)) (.t 34))), rg 4 (.p false (.mv (.t 35)))]) .ret))
theorem c116_is : compFn Try.prog 116 = some (c116, [(.tmp 4)]) := by kernel_rfl
theorem c116_ok : okFn Try.prog 116 = true := by kernel_rfl

noncomputable def F_spec_l29Before (v0 : TBlock) (v1 : TBlock) : Option (Bool) :=
 (bif (Op.bytesLess v0.1 v1.1) then some true
 else (bif (decide (v0.1 = v1.1)) then some (Op.bytesLess v0.2.1 v1.2.1)
 else some false))
@[simp] def res_spec_l29Before (r : Bool) : RV := .one (.one (.val (.bool r)))
theorem con_spec_l29Before {v0 : TBlock} {v1 : TBlock} {r : Bool} (hF : F_spec_l29Before v0 v1 = some r) : Con Try.prog 116 [.ptr [.str v0.1, .str v0.2.1, .str v0.2.2], .ptr [.str v1.1, .str v1.2.1, .str v1.2.2]] (res_spec_l29Before r) := by
 unfold F_spec_l29Before at hF
 refine con_of c116_is fun N => ?_
 refine ws 0 64 ?_
 refine qp (AB false) rfl ?_
 refine r_nil ?_
 refine ws 64 2112 ?_
 refine qp (.val none (.ptr [.str v0.1, .str v0.2.1, .str v0.2.2])) rfl (qp (.val none (.ptr [.str v0.1, .str v0.2.1, .str v0.2.2])) rfl (qp (.val none (.ptr [.str v0.1, .str v0.2.1, .str v0.2.2])) rfl (qp (AS v0.1) rfl (qp (.val none (.ptr [.str v1.1, .str v1.2.1, .str v1.2.2])) rfl (qp (.val none (.ptr [.str v1.1, .str v1.2.1, .str v1.2.2])) rfl (qp (.val none (.ptr [.str v1.1, .str v1.2.1, .str v1.2.2])) rfl (qp (AS v1.1) rfl ?_)))))))
 refine qp (AB (Op.bytesLess v0.1 v1.1)) rfl (qp (AB (Op.bytesLess v0.1 v1.1)) rfl ?_)
 refine q_case 14 hF rfl (fun hF => ?_) (fun hF => ?_)
 ·
  refine qn rfl (qn rfl (qn rfl (qn rfl (qn rfl (qn rfl (qn rfl (qn rfl ?_)))))))
  refine qn rfl (qn rfl (qu rfl (qu rfl (qu rfl (qu rfl (qu rfl (qu rfl ?_)))))))
  refine qu rfl (qu rfl (qu rfl (qn rfl (qp (AB true) rfl (qp (AB true) rfl ?_)))))
  refine r_nil ?_
  refine w_ret ?_
  cases hF
  exact eR
 ·
  refine qg (.val none (.ptr [.str v0.1, .str v0.2.1, .str v0.2.2])) rfl rfl (qg (.val none (.ptr [.str v0.1, .str v0.2.1, .str v0.2.2])) rfl rfl (qg (.val none (.ptr [.str v0.1, .str v0.2.1, .str v0.2.2])) rfl rfl (qg (AS v0.1) rfl rfl (qg (.val none (.ptr [.str v1.1, .str v1.2.1, .str v1.2.2])) rfl rfl (qg (.val none (.ptr [.str v1.1, .str v1.2.1, .str v1.2.2])) rfl rfl (qg (.val none (.ptr [.str v1.1, .str v1.2.1, .str v1.2.2])) rfl rfl (qg (AS v1.1) rfl rfl ?_)))))))
  refine qg (AB (decide (v0.1 = v1.1))) rfl rfl (qg (AB (decide (v0.1 = v1.1))) rfl rfl ?_)
  refine q_case 24 hF rfl (fun hF => ?_) (fun hF => ?_)
  ·
   refine qg (.val none (.ptr [.str v0.1, .str v0.2.1, .str v0.2.2])) rfl rfl (qg (.val none (.ptr [.str v0.1, .str v0.2.1, .str v0.2.2])) rfl rfl (qg (.val none (.ptr [.str v0.2.1, .str v0.2.2])) rfl rfl (qg (AS v0.2.1) rfl rfl (qg (.val none (.ptr [.str v1.1, .str v1.2.1, .str v1.2.2])) rfl rfl (qg (.val none (.ptr [.str v1.1, .str v1.2.1, .str v1.2.2])) rfl rfl (qg (.val none (.ptr [.str v1.2.1, .str v1.2.2])) rfl rfl (qg (AS v1.2.1) rfl rfl ?_)))))))
   refine qg (AB (Op.bytesLess v0.2.1 v1.2.1)) rfl rfl (qg (AB (Op.bytesLess v0.2.1 v1.2.1)) rfl rfl (qp (AB (Op.bytesLess v0.2.1 v1.2.1)) rfl (qp (AB (Op.bytesLess v0.2.1 v1.2.1)) rfl ?_)))
   refine r_nil ?_
   refine w_ret ?_
   cases hF
   exact eR
  ·
   refine qn rfl (qn rfl (qn rfl (qn rfl (qn rfl (qn rfl (qn rfl (qn rfl ?_)))))))
   refine qn rfl (qg (AB false) rfl rfl (qp (AB false) rfl (qp (AB false) rfl ?_)))
   refine r_nil ?_
   refine w_ret ?_
   cases hF
   exact eR

def c69 : MC := (.seq (.reg [rg 2 (.p true (.mv (.c (.bool false))))]) (.seq (.seq (.reg [rg 3 (.p true (.mv (.c (.int .i64 0))))]) (.block 0 (.loop (.seq (.seq (.reg [rg 4 (.p true (.mv (.t 3))), rg 5 (.p true (.mv (.t 0))), rg 6 (.p true (.len (.t 5))), rg 7 (.p true (.bin .lss (.t 4) (.t 6)))]) (.cond (.t 7) .skip (.exit 0))) (.seq (.block 1 (.seq (.reg [rg 10 (.p false (.mv (.t 0))), rg 11 (.p false (.mv (.t 3))), rg 12 (.p false (.iad (.t 10) (.t 11) 3)), rg 13 (.call false 90 [(.t 12)]), rg 14 (.p false (.not (.t 13))), rg 15 (.p false (.mv (.t 14))), ⟨(some 16), (some (15, false)), (.p false (.mv (.t 3)))⟩, ⟨(some 17), (some (15, false)), (.p false (.bin .gtr (.t 16) (.c (.int .i64 0))))⟩, ⟨(some 18), (some (15, false)), (.p false (.mv (.t 17)))⟩, ⟨(some 19), (some (18, true)), (.p false (.mv (.t 0)))⟩, ⟨(some 20), (some (18, true)), (.p false (.mv (.t 3)))⟩, ⟨(some 21), (some (18, true)), (.p false (.bin .sub (.t 20) (.c (.int .i64 1))))⟩, ⟨(some 22), (some (18, true)), (.p false (.iad (.t 19) (.t 21) 3))⟩, ⟨(some 23), (some (18, true)), (.p false (.mv (.t 0)))⟩, ⟨(some 24), (some (18, true)), (.p false (.mv (.t 3)))⟩, ⟨(some 25), (some (18, true)), (.p false (.iad (.t 23) (.t 24) 3))⟩, ⟨(some 26), (some (18, true)), (.call false 116 [(.t 22), (.t 25)])⟩, ⟨(some 27), (some (18, true)), (.p false (.not (.t 26)))⟩, ⟨(some 28), (some (15, false)), (.p false (.pick (.t 18) (.t 27) (.c (.bool false))))⟩, rg 29 (.p false (.pick (.t 15) (.c (.bool true)) (.t 28)))]) (.cond (.t 29) (.seq (.reg [rg 2 (.p true (.mv (.c (.bool false))))]) .ret) .skip))) (.reg [rg 8 (.p true (.mv (.t 3))), rg 9 (.p true (.bin .add (.t 8) (.c (.int .i64 1)))), rg 3 (.p true (.mv (.t 9)))])))))) (.seq (.reg [rg 30 (.p true (.mv (.t 0))), rg 31 (.p true (.len (.t 30))), rg 32 (.p true (.bin .leq (.t 31) (.c (.int .i64 32)))), rg 2 (.p true (.mv (.t 32)))]) .ret)))
theorem c69_is : compFn Try.prog 69 = some (c69, [(.tmp 2)]) := by kernel_rfl
theorem c69_ok : okFn Try.prog 69 = true := by kernel_rfl

noncomputable def F_spec_l29Ok_l0 (v0 : List TBlock) (k0 : Int → Option (Bool)) : Int → Option (Bool)
 | v12 => (bif (decide (v12 < (v0.length : Int))) then ((ix v0 v12).bind fun v1000 => ((F_spec_l29One v1000).bind fun v1001 => (bif (!v1001) then some false
 else (bif (decide ((0 : Int) < v12)) then ((ix v0 (w64 (v12 - 1))).bind fun v1002 => ((ix v0 v12).bind fun v1003 => ((F_spec_l29Before v1002 v1003).bind fun v1004 => (bif (!v1004) then some false
 else k0 (w64 (v12 + 1))))))
 else k0 (w64 (v12 + 1))))))
 else some (decide ((v0.length : Int) ≤ (32 : Int))))
noncomputable def F_spec_l29Ok (v0 : List TBlock) : Option (Bool) :=
 loop (F_spec_l29Ok_l0 v0) 0
@[simp] def res_spec_l29Ok (r : Bool) : RV := .one (.one (.val (.bool r)))
theorem con_spec_l29Ok {v0 : List TBlock} {r : Bool} (hF : F_spec_l29Ok v0 = some r) : Con Try.prog 69 [.sl 3 (v0.map eBlock)] (res_spec_l29Ok r) := by
 unfold F_spec_l29Ok at hF
 refine con_of c69_is fun N => ?_
 refine ws 0 64 ?_
 refine qp (AB false) rfl ?_
 refine r_nil ?_
 refine w_seq ?_
 refine ws 64 128 ?_
 refine qp (AI 0) rfl ?_
 refine r_nil ?_
 refine w_block ?_
 refine wr (l' := [(0, AL 3 (v0.map eBlock)), (3, AI 0)]) (L := []) [0, 3] [] 1 ?_
 refine w_loopF (F_spec_l29Ok_l0 v0) (fun s : Int => mkS [(0, AL 3 (v0.map eBlock)), (3, AI s)] (fo []) 1) hF ?_
 rintro k0 v12 hF
 rw [F_spec_l29Ok_l0] at hF
 try dsimp only
 refine w_seq ?_
 refine ws 1 257 ?_
 refine qp (AI v12) rfl (qp (AL 3 (v0.map eBlock)) rfl (qp (AI (v0.length : Int)) (ev_len_n rfl) (qp (AB (decide (v12 < (v0.length : Int)))) rfl ?_)))
 refine r_nil ?_
 refine cF hF (fun hF => ?_) fun hF => ?_
 ·
  refine w_skip ?_
  refine thenQ_n ?_
  refine w_seq ?_
  refine w_block ?_
  refine ws 257 1537 ?_
  refine qp (AL 3 (v0.map eBlock)) rfl (qp (AI v12) rfl ?_)
  obtain ⟨v1000, e1000, hF⟩ := bind_get hF
  refine qp (.val none (.ptr [.str v1000.1, .str v1000.2.1, .str v1000.2.2])) (ev_iad_n rfl rfl e1000 rfl) ?_
  obtain ⟨v1001, e1001, hF⟩ := bind_get hF
  refine qc (AB v1001) [] false (con_spec_l29One e1001) c90_ok (by first | rfl | simp) rfl ?_
  refine qp (AB (!v1001)) rfl (qp (AB (!v1001)) rfl ?_)
  refine q_case 15 hF rfl (fun hF => ?_) (fun hF => ?_)
  ·
   refine qn rfl (qn rfl (qn rfl (qu rfl (qu rfl (qu rfl (qu rfl (qu rfl ?_)))))))
   refine qu rfl (qu rfl (qu rfl (qu rfl (qn rfl (qp (AB true) rfl ?_)))))
   refine r_nil ?_
   refine w_true rfl ?_
   refine ws 1537 1601 ?_
   refine qp (AB false) rfl ?_
   refine r_nil ?_
   refine w_ret ?_
   refine blockQ_r ?_
   refine thenQ_r ?_
   refine thenQ_r ?_
   refine blockQ_r ?_
   refine thenQ_r ?_
   cases hF
   exact eR
  ·
   refine qg (AI v12) rfl rfl (qg (AB (decide ((0 : Int) < v12))) rfl rfl (qg (AB (decide ((0 : Int) < v12))) rfl rfl ?_))
   refine q_case 18 hF rfl (fun hF => ?_) (fun hF => ?_)
   ·
    refine qg (AL 3 (v0.map eBlock)) rfl rfl (qg (AI v12) rfl rfl (qg (AI (w64 (v12 - 1))) rfl rfl ?_))
    obtain ⟨v1002, e1002, hF⟩ := bind_get hF
    refine qg (.val none (.ptr [.str v1002.1, .str v1002.2.1, .str v1002.2.2])) rfl (ev_iad_n rfl rfl e1002 rfl) (qg (AL 3 (v0.map eBlock)) rfl rfl (qg (AI v12) rfl rfl ?_))
    obtain ⟨v1003, e1003, hF⟩ := bind_get hF
    refine qg (.val none (.ptr [.str v1003.1, .str v1003.2.1, .str v1003.2.2])) rfl (ev_iad_n rfl rfl e1003 rfl) ?_
    obtain ⟨v1004, e1004, hF⟩ := bind_get hF
    refine qcg (AB v1004) [] false rfl (con_spec_l29Before e1004) c116_ok (by first | rfl | simp) rfl ?_
    refine qg (AB (!v1004)) rfl rfl (qg (AB (!v1004)) rfl rfl (qp (AB (!v1004)) rfl ?_))
    refine r_nil ?_
    refine cF hF (fun hF => ?_) fun hF => ?_
    ·
     refine ws 1537 1601 ?_
     refine qp (AB false) rfl ?_
     refine r_nil ?_
     refine w_ret ?_
     refine blockQ_r ?_
     refine thenQ_r ?_
     refine thenQ_r ?_
     refine blockQ_r ?_
     refine thenQ_r ?_
     cases hF
     exact eR
    ·
     refine w_skip ?_
     refine blockQ_n ?_
     refine thenQ_n ?_
     refine w_reg 1537 1729 rfl rfl ?_
     refine qp (AI v12) rfl (qp (AI (w64 (v12 + 1))) rfl (qp (AI (w64 (v12 + 1))) rfl ?_))
     refine r_nil ?_
     refine thenQ_n ?_
     refine ar (l' := [(0, AL 3 (v0.map eBlock)), (3, AI (w64 (v12 + 1)))]) (L := []) [0, 3] [] 1 ⟨_, by rfl, hF⟩
   ·
    refine qn rfl (qn rfl (qn rfl (qn rfl (qn rfl (qn rfl (qn rfl (qn rfl ?_)))))))
    refine qn rfl (qg (AB false) rfl rfl (qp (AB false) rfl ?_))
    refine r_nil ?_
    refine w_false rfl ?_
    refine w_skip ?_
    refine blockQ_n ?_
    refine thenQ_n ?_
    refine w_reg 1537 1729 rfl rfl ?_
    refine qp (AI v12) rfl (qp (AI (w64 (v12 + 1))) rfl (qp (AI (w64 (v12 + 1))) rfl ?_))
    refine r_nil ?_
    refine thenQ_n ?_
    refine ar (l' := [(0, AL 3 (v0.map eBlock)), (3, AI (w64 (v12 + 1)))]) (L := []) [0, 3] [] 1 ⟨_, by rfl, hF⟩
 ·
  refine w_exit ?_
  refine thenQ_e ?_
  refine thenQ_e ?_
  refine blockQ_e ?_
  refine thenQ_n ?_
  refine ws 257 513 ?_
  refine qp (AL 3 (v0.map eBlock)) rfl (qp (AI (v0.length : Int)) (ev_len_n rfl) (qp (AB (decide ((v0.length : Int) ≤ (32 : Int)))) rfl (qp (AB (decide ((v0.length : Int) ≤ (32 : Int)))) rfl ?_)))
  refine r_nil ?_
  refine w_ret ?_
  cases hF
  exact eR

def c91 : MC := (.seq (.reg [rg 3 (.f (.box (.t 1))), rg 4 (.f (.nilrow 3))]) (.seq (.reg [rg 8 (.f (.bsl 3 [])), rg 5 (.p true (.mv (.t 8)))]) (.seq (.reg [rg 6 (.p true (.mv (.c (.bool false))))]) (.seq (.seq (.reg [rg 7 (.p true (.mv (.c (.int .i64 0))))]) (.block 0 (.loop (.seq (.seq (.reg [rg 9 (.p true (.mv (.t 7))), rg 10 (.p true (.mv (.t 0))), rg 11 (.p true (.len (.t 10))), rg 12 (.p true (.bin .lss (.t 9) (.t 11)))]) (.cond (.t 12) .skip (.exit 0))) (.seq (.block 1 (.seq (.seq (.reg [rg 15 (.p true (.mv (.t 6))), rg 16 (.p true (.not (.t 15))), rg 17 (.p true (.mv (.t 16))), ⟨(some 18), (some (17, true)), (.p true (.mv (.t 0)))⟩, ⟨(some 19), (some (17, true)), (.p true (.mv (.t 7)))⟩, ⟨(some 20), (some (17, true)), (.p true (.iad (.t 18) (.t 19) 3))⟩, ⟨(some 21), (some (17, true)), (.call true 116 [(.t 20), (.t 3)])⟩, ⟨(some 22), (some (17, true)), (.p true (.not (.t 21)))⟩, rg 23 (.p true (.pick (.t 17) (.t 22) (.c (.bool false))))]) (.cond (.t 23) (.seq (.reg [rg 24 (.p true (.mv (.t 5))), rg 25 (.p true (.ld (.t 3) 3 true)), rg 26 (.f (.bsl 3 [(.t 25)])), rg 27 (.f (.app (.t 24) (.t 26) 3 48 true)), rg 5 (.p true (.mv (.t 27)))]) (.reg [rg 6 (.p true (.mv (.c (.bool true))))])) .skip)) (.seq (.reg [rg 28 (.p false (.mv (.t 0))), rg 29 (.p false (.mv (.t 7))), rg 30 (.p false (.iad (.t 28) (.t 29) 3)), rg 31 (.p false (.fad (.t 30) 0)), rg 32 (.p false (.ld (.t 31) 1 false)), rg 33 (.p false (.fad (.t 3) 0)), rg 34 (.p false (.ld (.t 33) 1 false)), rg 35 (.p false (.bin .neq (.t 32) (.t 34))), rg 36 (.p false (.mv (.t 35))), ⟨(some 37), (some (36, false)), (.p false (.mv (.t 0)))⟩, ⟨(some 38), (some (36, false)), (.p false (.mv (.t 7)))⟩, ⟨(some 39), (some (36, false)), (.p false (.iad (.t 37) (.t 38) 3))⟩, ⟨(some 40), (some (36, false)), (.p false (.fad (.t 39) 1))⟩, ⟨(some 41), (some (36, false)), (.p false (.ld (.t 40) 1 false))⟩, ⟨(some 42), (some (36, false)), (.p false (.fad (.t 3) 1))⟩, ⟨(some 43), (some (36, false)), (.p false (.ld (.t 42) 1 false))⟩, ⟨(some 44), (some (36, false)), (.p false (.bin .neq (.t 41) (.t 43)))⟩, rg 45 (.p false (.pick (.t 36) (.c (.bool true)) (.t 44)))]) (.cond (.t 45) (.reg [rg 46 (.p true (.mv (.t 5))), rg 47 (.p true (.mv (.t 0))), rg 48 (.p true (.mv (.t 7))), rg 49 (.p true (.iad (.t 47) (.t 48) 3)), rg 50 (.p true (.ld (.t 49) 3 true)), rg 51 (.f (.bsl 3 [(.t 50)])), rg 52 (.f (.app (.t 46) (.t 51) 3 48 true)), rg 5 (.p true (.mv (.t 52)))]) .skip)))) (.reg [rg 13 (.p true (.mv (.t 7))), rg 14 (.p true (.bin .add (.t 13) (.c (.int .i64 1)))), rg 7 (.p true (.mv (.t 14)))])))))) (.seq (.seq (.reg [rg 53 (.p true (.mv (.t 6))), rg 54 (.p true (.not (.t 53)))]) (.cond (.t 54) (.reg [rg 55 (.p true (.mv (.t 5))), rg 56 (.p true (.ld (.t 3) 3 true)), rg 57 (.f (.bsl 3 [(.t 56)])), rg 58 (.f (.app (.t 55) (.t 57) 3 48 true)), rg 5 (.p true (.mv (.t 58)))]) .skip)) (.seq (.reg [rg 59 (.p true (.mv (.t 5))), rg 4 (.p true (.mv (.t 59)))]) .ret))))))
theorem c91_is : compFn Try.prog 91 = some (c91, [(.tmp 4)]) := by kernel_rfl
theorem c91_ok : okFn Try.prog 91 = true := by kernel_rfl

noncomputable def F_spec_l29Put_j1 (v0 : List TBlock) (v1 : TBlock) (v34 : Int) (k0 : Bool × Int × (List TBlock) → Option (List TBlock)) (v39 : Bool) (v40 : List TBlock) : Option (List TBlock) :=
 ((ix v0 v34).bind fun v1003 => (bif (decide (v1003.1 ≠ v1.1)) then ((ix v0 v34).bind fun v1004 => (need (room (v40.length + [v1004].length) 48) (k0 (v39, w64 (v34 + 1), v40 ++ [v1004]))))
 else ((ix v0 v34).bind fun v1006 => (bif (decide (v1006.2.1 ≠ v1.2.1)) then ((ix v0 v34).bind fun v1007 => (need (room (v40.length + [v1007].length) 48) (k0 (v39, w64 (v34 + 1), v40 ++ [v1007]))))
 else k0 (v39, w64 (v34 + 1), v40)))))
noncomputable def F_spec_l29Put_l0 (v0 : List TBlock) (v1 : TBlock) (k0 : Bool × Int × (List TBlock) → Option (List TBlock)) : Bool × Int × (List TBlock) → Option (List TBlock)
 | (v33, v34, v35) => (bif (decide (v34 < (v0.length : Int))) then (bif (!v33) then ((ix v0 v34).bind fun v1000 => ((F_spec_l29Before v1000 v1).bind fun v1001 => (bif (!v1001) then (need (room (v35.length + [v1].length) 48) (F_spec_l29Put_j1 v0 v1 v34 k0 true (v35 ++ [v1])))
 else F_spec_l29Put_j1 v0 v1 v34 k0 v33 v35)))
 else F_spec_l29Put_j1 v0 v1 v34 k0 v33 v35)
 else (bif (!v33) then (need (room (v35.length + [v1].length) 48) (some (v35 ++ [v1])))
 else some v35))
noncomputable def F_spec_l29Put (v0 : List TBlock) (v1 : TBlock) : Option (List TBlock) :=
 loop (F_spec_l29Put_l0 v0 v1) (false, 0, [])
@[simp] def res_spec_l29Put (r : List TBlock) : RV := .one (.one (.row true 3 (r.map eBlock)))
theorem con_spec_l29Put {v0 : List TBlock} {v1 : TBlock} {r : List TBlock} (hF : F_spec_l29Put v0 v1 = some r) : Con Try.prog 91 [.sl 3 (v0.map eBlock), eBlock v1] (res_spec_l29Put r) := by
 unfold F_spec_l29Put at hF
 refine con_of c91_is fun N => ?_
 refine ws 0 128 ?_
 refine qf (.ptr 0 0 0) [(0, .box [AS v1.1, AS v1.2.1, AS v1.2.2])] (by simp) ?_
 refine qf (.sl 64 0 0) [(64, .row true 3 (([] : List Int).map (V.int .i64))), (0, .box [AS v1.1, AS v1.2.1, AS v1.2.2])] (by simp) ?_
 refine r_nil ?_
 refine ws 128 256 ?_
 refine qf (.sl 128 0 0) [(128, .row true 3 (([] : List TBlock).map eBlock)), (64, .row true 3 (([] : List Int).map (V.int .i64))), (0, .box [AS v1.1, AS v1.2.1, AS v1.2.2])] (by simp [List.take_of_length_le]) ?_
 refine qp (.sl 128 0 0) rfl ?_
 refine r_nil ?_
 refine ws 256 320 ?_
 refine qp (AB false) rfl ?_
 refine r_nil ?_
 refine w_seq ?_
 refine ws 320 384 ?_
 refine qp (AI 0) rfl ?_
 refine r_nil ?_
 refine w_block ?_
 refine wr (l' := [(0, AL 3 (v0.map eBlock)), (3, .ptr 0 0 0), (5, .sl 1 0 0), (6, AB false), (7, AI 0)]) (L := [(1, .row true 3 (([] : List TBlock).map eBlock)), (0, .box [AS v1.1, AS v1.2.1, AS v1.2.2])]) [0, 3, 5, 6, 7] [(128, 1), (0, 0)] 2 ?_
 refine w_loopF (F_spec_l29Put_l0 v0 v1) (fun s : Bool × Int × (List TBlock) => mkS [(0, AL 3 (v0.map eBlock)), (3, .ptr 0 0 0), (5, .sl 1 0 s.2.2.length), (6, AB s.1), (7, AI s.2.1)] (fo [(1, .row true 3 (s.2.2.map eBlock)), (0, .box [AS v1.1, AS v1.2.1, AS v1.2.2])]) 2) hF ?_
 rintro k0 ⟨v33, v34, v35⟩ hF
 rw [F_spec_l29Put_l0] at hF
 try dsimp only
 refine w_seq ?_
 refine ws 2 258 ?_
 refine qp (AI v34) rfl (qp (AL 3 (v0.map eBlock)) rfl (qp (AI (v0.length : Int)) (ev_len_n rfl) (qp (AB (decide (v34 < (v0.length : Int)))) rfl ?_)))
 refine r_nil ?_
 refine cF hF (fun hF => ?_) fun hF => ?_
 ·
  refine w_skip ?_
  refine thenQ_n ?_
  refine w_seq ?_
  refine w_block ?_
  refine w_meet (fun s' => ∃ (v39 : Bool) (v40 : List TBlock), s' = mkS [(0, AL 3 (v0.map eBlock)), (3, .ptr 0 0 0), (5, .sl 1 0 v40.length), (6, AB v39), (7, AI v34)] (fo [(1, .row true 3 (v40.map eBlock)), (0, .box [AS v1.1, AS v1.2.1, AS v1.2.2])]) 2 ∧ F_spec_l29Put_j1 v0 v1 v34 k0 v39 v40 = some r) ?_ ?_
  ·
   refine ws 258 834 ?_
   refine qp (AB v33) rfl (qp (AB (!v33)) rfl (qp (AB (!v33)) rfl ?_))
   refine q_case 17 hF rfl (fun hF => ?_) (fun hF => ?_)
   ·
    refine qg (AL 3 (v0.map eBlock)) rfl rfl (qg (AI v34) rfl rfl ?_)
    obtain ⟨v1000, e1000, hF⟩ := bind_get hF
    refine qg (.val none (.ptr [.str v1000.1, .str v1000.2.1, .str v1000.2.2])) rfl (ev_iad_n rfl rfl e1000 rfl) ?_
    obtain ⟨v1001, e1001, hF⟩ := bind_get hF
    refine qcg (AB v1001) [(1, .row true 3 (v35.map eBlock)), (0, .box [AS v1.1, AS v1.2.1, AS v1.2.2])] true rfl (con_spec_l29Before e1001) c116_ok (by simp [List.take_of_length_le]) rfl ?_
    refine qg (AB (!v1001)) rfl rfl (qp (AB (!v1001)) rfl ?_)
    refine r_nil ?_
    refine cF hF (fun hF => ?_) fun hF => ?_
    ·
     refine ws 834 1154 ?_
     refine qp (.sl 1 0 v35.length) rfl (qp (.agg [AS v1.1, AS v1.2.1, AS v1.2.2]) rfl ?_)
     refine qf (.sl 962 0 ([v1].length)) [(962, .row true 3 ([v1].map eBlock)), (1, .row true 3 (v35.map eBlock)), (0, .box [AS v1.1, AS v1.2.1, AS v1.2.2])] (by simp [List.take_of_length_le]) ?_
     obtain ⟨g1002, hF⟩ := need_some hF
     refine qf (.sl 1026 0 ((v35 ++ [v1]).length)) [(1026, .row true 3 ((v35 ++ [v1]).map eBlock)), (1, .dead), (962, .dead), (962, .row true 3 ([v1].map eBlock)), (1, .row true 3 (v35.map eBlock)), (0, .box [AS v1.1, AS v1.2.1, AS v1.2.2])] (effT_app_l rfl (by simp) rfl rfl (by simp) rfl (by decide) g1002 rfl) ?_
     refine qp (.sl 1026 0 ((v35 ++ [v1]).length)) rfl ?_
     refine r_nil ?_
     refine w_reg 1154 1218 rfl rfl ?_
     refine qp (AB true) rfl ?_
     refine r_nil ?_
     refine thenQ_n ?_
     refine aw_ren (l' := [(0, AL 3 (v0.map eBlock)), (3, .ptr 0 0 0), (5, .sl 1 0 (v35 ++ [v1]).length), (6, AB true), (7, AI v34)]) (L := [(1, .row true 3 ((v35 ++ [v1]).map eBlock)), (0, .box [AS v1.1, AS v1.2.1, AS v1.2.2])]) [0, 3, 5, 6, 7] [(1026, 1), (0, 0)] 2 (by first | rfl | simp) (by first | rfl | simp) (by decide) (by decide) (by decide) ⟨_, _, rfl, hF⟩
    ·
     refine w_skip ?_
     refine thenQ_n ?_
     refine aw_ren (l' := [(0, AL 3 (v0.map eBlock)), (3, .ptr 0 0 0), (5, .sl 1 0 v35.length), (6, AB v33), (7, AI v34)]) (L := [(1, .row true 3 (v35.map eBlock)), (0, .box [AS v1.1, AS v1.2.1, AS v1.2.2])]) [0, 3, 5, 6, 7] [(1, 1), (0, 0)] 2 (by first | rfl | simp) (by first | rfl | simp) (by decide) (by decide) (by decide) ⟨_, _, rfl, hF⟩
   ·
    refine qn rfl (qn rfl (qn rfl (qn rfl (qn rfl (qp (AB false) rfl ?_)))))
    refine r_nil ?_
    refine w_false rfl ?_
    refine w_skip ?_
    refine thenQ_n ?_
    refine aw_ren (l' := [(0, AL 3 (v0.map eBlock)), (3, .ptr 0 0 0), (5, .sl 1 0 v35.length), (6, AB v33), (7, AI v34)]) (L := [(1, .row true 3 (v35.map eBlock)), (0, .box [AS v1.1, AS v1.2.1, AS v1.2.2])]) [0, 3, 5, 6, 7] [(1, 1), (0, 0)] 2 (by first | rfl | simp) (by first | rfl | simp) (by decide) (by decide) (by decide) ⟨_, _, rfl, hF⟩
  ·
   rintro s' ⟨v39, v40, rfl, hF⟩
   unfold F_spec_l29Put_j1 at hF
   refine ws 2 1154 ?_
   refine qp (AL 3 (v0.map eBlock)) rfl (qp (AI v34) rfl ?_)
   obtain ⟨v1003, e1003, hF⟩ := bind_get hF
   refine qp (.val none (.ptr [.str v1003.1, .str v1003.2.1, .str v1003.2.2])) (ev_iad_n rfl rfl e1003 rfl) (qp (.val none (.ptr [.str v1003.1, .str v1003.2.1, .str v1003.2.2])) rfl (qp (AS v1003.1) rfl (qp (.ptr 0 0 0) rfl (qp (AS v1.1) rfl (qp (AB (decide (v1003.1 ≠ v1.1))) rfl (qp (AB (decide (v1003.1 ≠ v1.1))) rfl ?_))))))
   refine q_case 36 hF rfl (fun hF => ?_) (fun hF => ?_)
   ·
    refine qn rfl (qn rfl (qn rfl (qn rfl (qn rfl (qn rfl (qn rfl (qn rfl ?_)))))))
    refine qp (AB true) rfl ?_
    refine r_nil ?_
    refine w_true rfl ?_
    refine w_reg 1154 1666 rfl rfl ?_
    refine qp (.sl 1 0 v40.length) rfl (qp (AL 3 (v0.map eBlock)) rfl (qp (AI v34) rfl ?_))
    obtain ⟨v1004, e1004, hF⟩ := bind_get hF
    refine qp (.val none (.ptr [.str v1004.1, .str v1004.2.1, .str v1004.2.2])) (ev_iad_n rfl rfl e1004 rfl) (qp (.val none (eBlock v1004)) rfl ?_)
    refine qf (.sl 1474 0 ([v1004].length)) [(1474, .row true 3 ([v1004].map eBlock)), (1, .row true 3 (v40.map eBlock)), (0, .box [AS v1.1, AS v1.2.1, AS v1.2.2])] (by simp [List.take_of_length_le]) ?_
    obtain ⟨g1005, hF⟩ := need_some hF
    refine qf (.sl 1538 0 ((v40 ++ [v1004]).length)) [(1538, .row true 3 ((v40 ++ [v1004]).map eBlock)), (1, .dead), (1474, .dead), (1474, .row true 3 ([v1004].map eBlock)), (1, .row true 3 (v40.map eBlock)), (0, .box [AS v1.1, AS v1.2.1, AS v1.2.2])] (effT_app_l rfl (by simp) rfl rfl (by simp) rfl (by decide) g1005 rfl) ?_
    refine qp (.sl 1538 0 ((v40 ++ [v1004]).length)) rfl ?_
    refine r_nil ?_
    refine blockQ_n ?_
    refine thenQ_n ?_
    refine w_reg 1666 1858 rfl rfl ?_
    refine qp (AI v34) rfl (qp (AI (w64 (v34 + 1))) rfl (qp (AI (w64 (v34 + 1))) rfl ?_))
    refine r_nil ?_
    refine thenQ_n ?_
    refine ar (l' := [(0, AL 3 (v0.map eBlock)), (3, .ptr 0 0 0), (5, .sl 1 0 (v40 ++ [v1004]).length), (6, AB v39), (7, AI (w64 (v34 + 1)))]) (L := [(1, .row true 3 ((v40 ++ [v1004]).map eBlock)), (0, .box [AS v1.1, AS v1.2.1, AS v1.2.2])]) [0, 3, 5, 6, 7] [(1538, 1), (0, 0)] 2 ⟨_, by rfl, hF⟩
   ·
    refine qg (AL 3 (v0.map eBlock)) rfl rfl (qg (AI v34) rfl rfl ?_)
    obtain ⟨v1006, e1006, hF⟩ := bind_get hF
    refine qg (.val none (.ptr [.str v1006.1, .str v1006.2.1, .str v1006.2.2])) rfl (ev_iad_n rfl rfl e1006 rfl) (qg (.val none (.ptr [.str v1006.2.1, .str v1006.2.2])) rfl rfl (qg (AS v1006.2.1) rfl rfl (qg (.ptr 0 0 1) rfl rfl (qg (AS v1.2.1) rfl rfl (qg (AB (decide (v1006.2.1 ≠ v1.2.1))) rfl rfl (qp (AB (decide (v1006.2.1 ≠ v1.2.1))) rfl ?_))))))
    refine r_nil ?_
    refine cF hF (fun hF => ?_) fun hF => ?_
    ·
     refine w_reg 1154 1666 rfl rfl ?_
     refine qp (.sl 1 0 v40.length) rfl (qp (AL 3 (v0.map eBlock)) rfl (qp (AI v34) rfl ?_))
     obtain ⟨v1007, e1007, hF⟩ := bind_get hF
     refine qp (.val none (.ptr [.str v1007.1, .str v1007.2.1, .str v1007.2.2])) (ev_iad_n rfl rfl e1007 rfl) (qp (.val none (eBlock v1007)) rfl ?_)
     refine qf (.sl 1474 0 ([v1007].length)) [(1474, .row true 3 ([v1007].map eBlock)), (1, .row true 3 (v40.map eBlock)), (0, .box [AS v1.1, AS v1.2.1, AS v1.2.2])] (by simp [List.take_of_length_le]) ?_
     obtain ⟨g1008, hF⟩ := need_some hF
     refine qf (.sl 1538 0 ((v40 ++ [v1007]).length)) [(1538, .row true 3 ((v40 ++ [v1007]).map eBlock)), (1, .dead), (1474, .dead), (1474, .row true 3 ([v1007].map eBlock)), (1, .row true 3 (v40.map eBlock)), (0, .box [AS v1.1, AS v1.2.1, AS v1.2.2])] (effT_app_l rfl (by simp) rfl rfl (by simp) rfl (by decide) g1008 rfl) ?_
     refine qp (.sl 1538 0 ((v40 ++ [v1007]).length)) rfl ?_
     refine r_nil ?_
     refine blockQ_n ?_
     refine thenQ_n ?_
     refine w_reg 1666 1858 rfl rfl ?_
     refine qp (AI v34) rfl (qp (AI (w64 (v34 + 1))) rfl (qp (AI (w64 (v34 + 1))) rfl ?_))
     refine r_nil ?_
     refine thenQ_n ?_
     refine ar (l' := [(0, AL 3 (v0.map eBlock)), (3, .ptr 0 0 0), (5, .sl 1 0 (v40 ++ [v1007]).length), (6, AB v39), (7, AI (w64 (v34 + 1)))]) (L := [(1, .row true 3 ((v40 ++ [v1007]).map eBlock)), (0, .box [AS v1.1, AS v1.2.1, AS v1.2.2])]) [0, 3, 5, 6, 7] [(1538, 1), (0, 0)] 2 ⟨_, by rfl, hF⟩
    ·
     refine w_skip ?_
     refine blockQ_n ?_
     refine thenQ_n ?_
     refine w_reg 1154 1346 rfl rfl ?_
     refine qp (AI v34) rfl (qp (AI (w64 (v34 + 1))) rfl (qp (AI (w64 (v34 + 1))) rfl ?_))
     refine r_nil ?_
     refine thenQ_n ?_
     refine ar (l' := [(0, AL 3 (v0.map eBlock)), (3, .ptr 0 0 0), (5, .sl 1 0 v40.length), (6, AB v39), (7, AI (w64 (v34 + 1)))]) (L := [(1, .row true 3 (v40.map eBlock)), (0, .box [AS v1.1, AS v1.2.1, AS v1.2.2])]) [0, 3, 5, 6, 7] [(1, 1), (0, 0)] 2 ⟨_, by rfl, hF⟩
 ·
  refine w_exit ?_
  refine thenQ_e ?_
  refine thenQ_e ?_
  refine blockQ_e ?_
  refine thenQ_n ?_
  refine w_seq ?_
  refine ws 258 386 ?_
  refine qp (AB v33) rfl (qp (AB (!v33)) rfl ?_)
  refine r_nil ?_
  refine cF hF (fun hF => ?_) fun hF => ?_
  ·
   refine w_reg 386 706 rfl rfl ?_
   refine qp (.sl 1 0 v35.length) rfl (qp (.agg [AS v1.1, AS v1.2.1, AS v1.2.2]) rfl ?_)
   refine qf (.sl 514 0 ([v1].length)) [(514, .row true 3 ([v1].map eBlock)), (1, .row true 3 (v35.map eBlock)), (0, .box [AS v1.1, AS v1.2.1, AS v1.2.2])] (by simp [List.take_of_length_le]) ?_
   obtain ⟨g1009, hF⟩ := need_some hF
   refine qf (.sl 578 0 ((v35 ++ [v1]).length)) [(578, .row true 3 ((v35 ++ [v1]).map eBlock)), (1, .dead), (514, .dead), (514, .row true 3 ([v1].map eBlock)), (1, .row true 3 (v35.map eBlock)), (0, .box [AS v1.1, AS v1.2.1, AS v1.2.2])] (effT_app_l rfl (by simp) rfl rfl (by simp) rfl (by decide) g1009 rfl) ?_
   refine qp (.sl 578 0 ((v35 ++ [v1]).length)) rfl ?_
   refine r_nil ?_
   refine thenQ_n ?_
   refine ws 706 834 ?_
   refine qp (.sl 578 0 ((v35 ++ [v1]).length)) rfl (qp (.sl 578 0 ((v35 ++ [v1]).length)) rfl ?_)
   refine r_nil ?_
   refine w_ret ?_
   cases hF
   exact eR
  ·
   refine w_skip ?_
   refine thenQ_n ?_
   refine ws 386 514 ?_
   refine qp (.sl 1 0 v35.length) rfl (qp (.sl 1 0 v35.length) rfl ?_)
   refine r_nil ?_
   refine w_ret ?_
   cases hF
   exact eR

def c42 : MC := (.seq (.reg [rg 4 (.f (.nilrow 3)), rg 5 (.p true (.mv (.c (.int .i64 0))))]) (.seq (.seq (.reg [rg 8 (.p true (.mv (.t 0))), rg 9 (.call true 69 [(.t 8)]), rg 10 (.p true (.not (.t 9))), rg 11 (.p true (.mv (.t 10))), ⟨(some 12), (some (11, false)), (.p true (.mv (.t 1)))⟩, ⟨(some 13), (some (11, false)), (.call true 69 [(.t 12)])⟩, ⟨(some 14), (some (11, false)), (.p true (.not (.t 13)))⟩, rg 15 (.p true (.pick (.t 11) (.c (.bool true)) (.t 14)))]) (.cond (.t 15) (.seq (.reg [rg 4 (.f (.nilrow 3)), rg 5 (.p true (.mv (.c (.int .i64 1))))]) .ret) .skip)) (.seq (.reg [rg 16 (.f (.bsl 3 [])), rg 17 (.p true (.mv (.t 0))), rg 18 (.f (.app (.t 16) (.t 17) 3 48 false)), rg 6 (.p true (.mv (.t 18)))]) (.seq (.seq (.reg [rg 7 (.p true (.mv (.c (.int .i64 0))))]) (.block 0 (.loop (.seq (.seq (.reg [rg 19 (.p true (.mv (.t 7))), rg 20 (.p true (.mv (.t 1))), rg 21 (.p true (.len (.t 20))), rg 22 (.p true (.bin .lss (.t 19) (.t 21)))]) (.cond (.t 22) .skip (.exit 0))) (.seq (.block 1 (.reg [rg 25 (.p true (.mv (.t 6))), rg 26 (.p true (.mv (.t 1))), rg 27 (.p true (.mv (.t 7))), rg 28 (.p true (.iad (.t 26) (.t 27) 3)), rg 29 (.p true (.ld (.t 28) 3 true)), rg 30 (.call true 91 [(.t 25), (.t 29)]), rg 6 (.p true (.mv (.t 30)))])) (.reg [rg 23 (.p true (.mv (.t 7))), rg 24 (.p true (.bin .add (.t 23) (.c (.int .i64 1)))), rg 7 (.p true (.mv (.t 24)))])))))) (.seq (.seq (.reg [rg 31 (.p true (.mv (.t 6))), rg 32 (.p true (.len (.t 31))), rg 33 (.p true (.bin .gtr (.t 32) (.c (.int .i64 32))))]) (.cond (.t 33) (.seq (.reg [rg 4 (.f (.nilrow 3)), rg 5 (.p true (.mv (.c (.int .i64 5))))]) .ret) .skip)) (.seq (.reg [rg 34 (.p true (.mv (.t 6))), rg 4 (.p true (.mv (.t 34))), rg 5 (.p true (.mv (.c (.int .i64 0))))]) .ret))))))
theorem c42_is : compFn Try.prog 42 = some (c42, [(.tmp 4), (.tmp 5)]) := by kernel_rfl
theorem c42_ok : okFn Try.prog 42 = true := by kernel_rfl

noncomputable def F_spec_MergeBlocks_l0 (v1 : List TBlock) (k1 : Int × (List TBlock) → Option ((List TBlock) × Int)) : Int × (List TBlock) → Option ((List TBlock) × Int)
 | (v1009, v1010) => (bif (decide (v1009 < (v1.length : Int))) then ((ix v1 v1009).bind fun v1011 => ((F_spec_l29Put v1010 v1011).bind fun v1012 => k1 (w64 (v1009 + 1), v1012)))
 else (bif (decide ((32 : Int) < (v1010.length : Int))) then some ([], 5)
 else some (v1010, 0)))
noncomputable def F_spec_MergeBlocks (v0 : List TBlock) (v1 : List TBlock) : Option ((List TBlock) × Int) :=
 ((F_spec_l29Ok v0).bind fun v1000 => (bif (!v1000) then some ([], 1)
 else ((F_spec_l29Ok v1).bind fun v1001 => (bif (!v1001) then some ([], 1)
 else (need (room (v0.length) 48) (loop (F_spec_MergeBlocks_l0 v1) (0, v0)))))))
@[simp] def res_spec_MergeBlocks (r : (List TBlock) × Int) : RV := .tup [.one (.row true 3 (r.1.map eBlock)), .one (.val (.int .i64 r.2))]
theorem con_spec_MergeBlocks {v0 : List TBlock} {v1 : List TBlock} {r : (List TBlock) × Int} (hF : F_spec_MergeBlocks v0 v1 = some r) : Con Try.prog 42 [.sl 3 (v0.map eBlock), .sl 3 (v1.map eBlock)] (res_spec_MergeBlocks r) := by
 unfold F_spec_MergeBlocks at hF
 refine con_of c42_is fun N => ?_
 refine ws 0 128 ?_
 refine qf (.sl 0 0 0) [(0, .row true 3 (([] : List Int).map (V.int .i64)))] (by simp) ?_
 refine qp (AI 0) rfl ?_
 refine r_nil ?_
 refine w_seq ?_
 refine ws 128 640 ?_
 refine qp (AL 3 (v0.map eBlock)) rfl ?_
 obtain ⟨v1000, e1000, hF⟩ := bind_get hF
 refine qc (AB v1000) [(0, .row true 3 (([] : List Int).map (V.int .i64)))] false (con_spec_l29Ok e1000) c69_ok (by first | rfl | simp) rfl ?_
 refine qp (AB (!v1000)) rfl (qp (AB (!v1000)) rfl ?_)
 refine q_case 11 hF rfl (fun hF => ?_) (fun hF => ?_)
 ·
  refine qn rfl (qn rfl (qn rfl (qp (AB true) rfl ?_)))
  refine r_nil ?_
  refine w_true rfl ?_
  refine ws 640 768 ?_
  refine qf (.sl 640 0 0) [(640, .row true 3 (([] : List TBlock).map eBlock)), (0, .row true 3 (([] : List Int).map (V.int .i64)))] (by simp) ?_
  refine qp (AI 1) rfl ?_
  refine r_nil ?_
  refine w_ret ?_
  refine thenQ_r ?_
  cases hF
  exact eR
 ·
  refine qg (AL 3 (v1.map eBlock)) rfl rfl ?_
  obtain ⟨v1001, e1001, hF⟩ := bind_get hF
  refine qcg (AB v1001) [(0, .row true 3 (([] : List Int).map (V.int .i64)))] false rfl (con_spec_l29Ok e1001) c69_ok (by first | rfl | simp) rfl ?_
  refine qg (AB (!v1001)) rfl rfl (qp (AB (!v1001)) rfl ?_)
  refine r_nil ?_
  refine cF hF (fun hF => ?_) fun hF => ?_
  ·
   refine ws 640 768 ?_
   refine qf (.sl 640 0 0) [(640, .row true 3 (([] : List TBlock).map eBlock)), (0, .row true 3 (([] : List Int).map (V.int .i64)))] (by simp) ?_
   refine qp (AI 1) rfl ?_
   refine r_nil ?_
   refine w_ret ?_
   refine thenQ_r ?_
   cases hF
   exact eR
  ·
   refine w_skip ?_
   refine thenQ_n ?_
   refine ws 640 896 ?_
   refine qf (.sl 640 0 0) [(640, .row true 3 (([] : List TBlock).map eBlock)), (0, .row true 3 (([] : List Int).map (V.int .i64)))] (by simp [List.take_of_length_le]) ?_
   refine qp (AL 3 (v0.map eBlock)) rfl ?_
   obtain ⟨g1002, hF⟩ := need_some hF
   refine qf (.sl 768 0 v0.length) [(768, .row true 3 (v0.map eBlock)), (640, .dead), (640, .row true 3 (([] : List TBlock).map eBlock)), (0, .row true 3 (([] : List Int).map (V.int .i64)))] (effT_app_v0 rfl (by simp) rfl rfl (fun _ => rfl) g1002) ?_
   refine qp (.sl 768 0 v0.length) rfl ?_
   refine r_nil ?_
   refine w_seq ?_
   refine ws 896 960 ?_
   refine qp (AI 0) rfl ?_
   refine r_nil ?_
   refine w_block ?_
   refine wr (l' := [(1, AL 3 (v1.map eBlock)), (6, .sl 0 0 v0.length), (7, AI 0)]) (L := [(0, .row true 3 (v0.map eBlock))]) [1, 6, 7] [(768, 0)] 1 ?_
   refine w_loopF (F_spec_MergeBlocks_l0 v1) (fun s : Int × (List TBlock) => mkS [(1, AL 3 (v1.map eBlock)), (6, .sl 0 0 s.2.length), (7, AI s.1)] (fo [(0, .row true 3 (s.2.map eBlock))]) 1) hF ?_
   rintro k1 ⟨v1009, v1010⟩ hF
   rw [F_spec_MergeBlocks_l0] at hF
   try dsimp only
   refine w_seq ?_
   refine ws 1 257 ?_
   refine qp (AI v1009) rfl (qp (AL 3 (v1.map eBlock)) rfl (qp (AI (v1.length : Int)) (ev_len_n rfl) (qp (AB (decide (v1009 < (v1.length : Int)))) rfl ?_)))
   refine r_nil ?_
   refine cF hF (fun hF => ?_) fun hF => ?_
   ·
    refine w_skip ?_
    refine thenQ_n ?_
    refine w_seq ?_
    refine w_block ?_
    refine w_reg 257 705 rfl rfl ?_
    refine qp (.sl 0 0 v1010.length) rfl (qp (AL 3 (v1.map eBlock)) rfl (qp (AI v1009) rfl ?_))
    obtain ⟨v1011, e1011, hF⟩ := bind_get hF
    refine qp (.val none (.ptr [.str v1011.1, .str v1011.2.1, .str v1011.2.2])) (ev_iad_n rfl rfl e1011 rfl) (qp (.val none (eBlock v1011)) rfl ?_)
    obtain ⟨v1012, e1012, hF⟩ := bind_get hF
    refine qc (.sl 577 0 v1012.length) [(577, .row true 3 (v1012.map eBlock)), (0, .row true 3 (v1010.map eBlock))] true (con_spec_l29Put e1012) c91_ok (by simp [List.take_of_length_le]) (by simp [res_spec_l29Put]) ?_
    refine qp (.sl 577 0 v1012.length) rfl ?_
    refine r_nil ?_
    refine blockQ_n ?_
    refine thenQ_n ?_
    refine w_reg 705 897 rfl rfl ?_
    refine qp (AI v1009) rfl (qp (AI (w64 (v1009 + 1))) rfl (qp (AI (w64 (v1009 + 1))) rfl ?_))
    refine r_nil ?_
    refine thenQ_n ?_
    refine ar (l' := [(1, AL 3 (v1.map eBlock)), (6, .sl 0 0 v1012.length), (7, AI (w64 (v1009 + 1)))]) (L := [(0, .row true 3 (v1012.map eBlock))]) [1, 6, 7] [(577, 0)] 1 ⟨_, by rfl, hF⟩
   ·
    refine w_exit ?_
    refine thenQ_e ?_
    refine thenQ_e ?_
    refine blockQ_e ?_
    refine thenQ_n ?_
    refine w_seq ?_
    refine ws 257 449 ?_
    refine qp (.sl 0 0 v1010.length) rfl (qp (AI (v1010.length : Int)) rfl (qp (AB (decide ((32 : Int) < (v1010.length : Int)))) rfl ?_))
    refine r_nil ?_
    refine cF hF (fun hF => ?_) fun hF => ?_
    ·
     refine ws 449 577 ?_
     refine qf (.sl 449 0 0) [(449, .row true 3 (([] : List TBlock).map eBlock)), (0, .row true 3 (v1010.map eBlock))] (by simp) ?_
     refine qp (AI 5) rfl ?_
     refine r_nil ?_
     refine w_ret ?_
     refine thenQ_r ?_
     cases hF
     exact eR
    ·
     refine w_skip ?_
     refine thenQ_n ?_
     refine ws 449 641 ?_
     refine qp (.sl 0 0 v1010.length) rfl (qp (.sl 0 0 v1010.length) rfl (qp (AI 0) rfl ?_))
     refine r_nil ?_
     refine w_ret ?_
     cases hF
     exact eR

def c141 : MC := (.seq (.reg [rg 2 (.p true (.mv (.c (.bool false))))]) (.seq (.seq (.reg [rg 5 (.p true (.mv (.t 0))), rg 6 (.p true (.lens (.t 5))), rg 7 (.p true (.mv (.c (.int .i64 0))))]) (.block 0 (.loop (.seq (.reg [rg 8 (.p true (.bin .lss (.t 7) (.t 6)))]) (.seq (.cond (.t 8) .skip (.exit 0)) (.seq (.block 1 (.seq (.reg [rg 9 (.p true (.mv (.t 7))), rg 3 (.p true (.mv (.t 9)))]) (.seq (.reg [rg 10 (.p true (.mv (.t 0))), rg 11 (.p true (.mv (.t 3))), rg 12 (.p true (.ixs (.t 10) (.t 11))), rg 4 (.p true (.mv (.t 12)))]) (.seq (.reg [rg 13 (.p true (.mv (.t 4))), rg 14 (.p true (.bin .lss (.t 13) (.c (.int .u8 97)))), rg 15 (.p true (.mv (.t 14))), ⟨(some 16), (some (15, false)), (.p true (.mv (.t 4)))⟩, ⟨(some 17), (some (15, false)), (.p true (.bin .gtr (.t 16) (.c (.int .u8 122))))⟩, rg 18 (.p true (.pick (.t 15) (.c (.bool true)) (.t 17))), rg 19 (.p true (.mv (.t 18))), ⟨(some 20), (some (19, true)), (.p true (.mv (.t 4)))⟩, ⟨(some 21), (some (19, true)), (.p true (.bin .lss (.t 20) (.c (.int .u8 48))))⟩, ⟨(some 22), (some (19, true)), (.p true (.mv (.t 21)))⟩, ⟨(some 23), (some (22, false)), (.p true (.mv (.t 4)))⟩, ⟨(some 24), (some (22, false)), (.p true (.bin .gtr (.t 23) (.c (.int .u8 57))))⟩, ⟨(some 25), (some (19, true)), (.p true (.pick (.t 22) (.c (.bool true)) (.t 24)))⟩, rg 26 (.p true (.pick (.t 19) (.t 25) (.c (.bool false))))]) (.cond (.t 26) (.seq (.reg [rg 2 (.p true (.mv (.c (.bool false))))]) .ret) .skip))))) (.reg [rg 27 (.p true (.bin .add (.t 7) (.c (.int .i64 1)))), rg 7 (.p true (.mv (.t 27)))]))))))) (.seq (.reg [rg 2 (.p true (.mv (.c (.bool true))))]) .ret)))
theorem c141_is : compFn Try.prog 141 = some (c141, [(.tmp 2)]) := by kernel_rfl
theorem c141_ok : okFn Try.prog 141 = true := by kernel_rfl

noncomputable def F_impl_onlyNameBytes_l0 (v0 : List UInt8) (k0 : Int → Option (Bool)) : Int → Option (Bool)
 | v4 => (bif (decide (v4 < (v0.length : Int))) then ((ix v0 v4).bind fun v1000 => (bif (decide ((v1000.toNat : Int) < (97 : Int))) then (bif (decide ((v1000.toNat : Int) < (48 : Int))) then some false
 else (bif (decide ((57 : Int) < (v1000.toNat : Int))) then some false
 else k0 (w64 (v4 + 1))))
 else (bif (decide ((122 : Int) < (v1000.toNat : Int))) then (bif (decide ((v1000.toNat : Int) < (48 : Int))) then some false
 else (bif (decide ((57 : Int) < (v1000.toNat : Int))) then some false
 else k0 (w64 (v4 + 1))))
 else k0 (w64 (v4 + 1)))))
 else some true)
noncomputable def F_impl_onlyNameBytes (v0 : List UInt8) : Option (Bool) :=
 loop (F_impl_onlyNameBytes_l0 v0) 0
@[simp] def res_impl_onlyNameBytes (r : Bool) : RV := .one (.one (.val (.bool r)))
theorem con_impl_onlyNameBytes {v0 : List UInt8} {r : Bool} (hF : F_impl_onlyNameBytes v0 = some r) : Con Try.prog 141 [.str v0] (res_impl_onlyNameBytes r) := by
 unfold F_impl_onlyNameBytes at hF
 refine con_of c141_is fun N => ?_
 refine ws 0 64 ?_
 refine qp (AB false) rfl ?_
 refine r_nil ?_
 refine w_seq ?_
 refine ws 64 256 ?_
 refine qp (AS v0) rfl (qp (AI (v0.length : Int)) rfl (qp (AI 0) rfl ?_))
 refine r_nil ?_
 refine w_block ?_
 refine wr (l' := [(0, AS v0), (6, AI (v0.length : Int)), (7, AI 0)]) (L := []) [0, 6, 7] [] 1 ?_
 refine w_loopF (F_impl_onlyNameBytes_l0 v0) (fun s : Int => mkS [(0, AS v0), (6, AI (v0.length : Int)), (7, AI s)] (fo []) 1) hF ?_
 rintro k0 v4 hF
 rw [F_impl_onlyNameBytes_l0] at hF
 try dsimp only
 refine ws 1 65 ?_
 refine qp (AB (decide (v4 < (v0.length : Int)))) rfl ?_
 refine r_nil ?_
 refine w_seq ?_
 refine cF hF (fun hF => ?_) fun hF => ?_
 ·
  refine w_skip ?_
  refine thenQ_n ?_
  refine w_seq ?_
  refine w_block ?_
  refine ws 65 193 ?_
  refine qp (AI v4) rfl (qp (AI v4) rfl ?_)
  refine r_nil ?_
  refine ws 193 449 ?_
  refine qp (AS v0) rfl (qp (AI v4) rfl ?_)
  obtain ⟨v1000, e1000, hF⟩ := bind_get hF
  refine qp (.val none (.int .u8 (v1000.toNat : Int))) (ev_ixs rfl rfl e1000) (qp (.val none (.int .u8 (v1000.toNat : Int))) rfl ?_)
  refine r_nil ?_
  refine ws 449 1345 ?_
  refine qp (.val none (.int .u8 (v1000.toNat : Int))) rfl (qp (AB (decide ((v1000.toNat : Int) < (97 : Int)))) rfl (qp (AB (decide ((v1000.toNat : Int) < (97 : Int)))) rfl ?_))
  refine q_case 15 hF rfl (fun hF => ?_) (fun hF => ?_)
  ·
   refine qn rfl (qn rfl (qp (AB true) rfl (qp (AB true) rfl (qg (.val none (.int .u8 (v1000.toNat : Int))) rfl rfl (qg (AB (decide ((v1000.toNat : Int) < (48 : Int)))) rfl rfl (qg (AB (decide ((v1000.toNat : Int) < (48 : Int)))) rfl rfl ?_))))))
   refine q_case 22 hF rfl (fun hF => ?_) (fun hF => ?_)
   ·
    refine qn rfl (qn rfl (qg (AB true) rfl rfl (qp (AB true) rfl ?_)))
    refine r_nil ?_
    refine w_true rfl ?_
    refine ws 1345 1409 ?_
    refine qp (AB false) rfl ?_
    refine r_nil ?_
    refine w_ret ?_
    refine blockQ_r ?_
    refine thenQ_r ?_
    refine thenQ_r ?_
    refine blockQ_r ?_
    refine thenQ_r ?_
    cases hF
    exact eR
   ·
    refine qg (.val none (.int .u8 (v1000.toNat : Int))) rfl rfl (qg (AB (decide ((57 : Int) < (v1000.toNat : Int)))) rfl rfl (qg (AB (decide ((57 : Int) < (v1000.toNat : Int)))) rfl rfl (qp (AB (decide ((57 : Int) < (v1000.toNat : Int)))) rfl ?_)))
    refine r_nil ?_
    refine cF hF (fun hF => ?_) fun hF => ?_
    ·
     refine ws 1345 1409 ?_
     refine qp (AB false) rfl ?_
     refine r_nil ?_
     refine w_ret ?_
     refine blockQ_r ?_
     refine thenQ_r ?_
     refine thenQ_r ?_
     refine blockQ_r ?_
     refine thenQ_r ?_
     cases hF
     exact eR
    ·
     refine w_skip ?_
     refine blockQ_n ?_
     refine thenQ_n ?_
     refine w_reg 1345 1473 rfl rfl ?_
     refine qp (AI (w64 (v4 + 1))) rfl (qp (AI (w64 (v4 + 1))) rfl ?_)
     refine r_nil ?_
     refine thenQ_n ?_
     refine ar (l' := [(0, AS v0), (6, AI (v0.length : Int)), (7, AI (w64 (v4 + 1)))]) (L := []) [0, 6, 7] [] 1 ⟨_, by rfl, hF⟩
  ·
   refine qg (.val none (.int .u8 (v1000.toNat : Int))) rfl rfl (qg (AB (decide ((122 : Int) < (v1000.toNat : Int)))) rfl rfl (qp (AB (decide ((122 : Int) < (v1000.toNat : Int)))) rfl (qp (AB (decide ((122 : Int) < (v1000.toNat : Int)))) rfl ?_)))
   refine q_case 19 hF rfl (fun hF => ?_) (fun hF => ?_)
   ·
    refine qg (.val none (.int .u8 (v1000.toNat : Int))) rfl rfl (qg (AB (decide ((v1000.toNat : Int) < (48 : Int)))) rfl rfl (qg (AB (decide ((v1000.toNat : Int) < (48 : Int)))) rfl rfl ?_))
    refine q_case 22 hF rfl (fun hF => ?_) (fun hF => ?_)
    ·
     refine qn rfl (qn rfl (qg (AB true) rfl rfl (qp (AB true) rfl ?_)))
     refine r_nil ?_
     refine w_true rfl ?_
     refine ws 1345 1409 ?_
     refine qp (AB false) rfl ?_
     refine r_nil ?_
     refine w_ret ?_
     refine blockQ_r ?_
     refine thenQ_r ?_
     refine thenQ_r ?_
     refine blockQ_r ?_
     refine thenQ_r ?_
     cases hF
     exact eR
    ·
     refine qg (.val none (.int .u8 (v1000.toNat : Int))) rfl rfl (qg (AB (decide ((57 : Int) < (v1000.toNat : Int)))) rfl rfl (qg (AB (decide ((57 : Int) < (v1000.toNat : Int)))) rfl rfl (qp (AB (decide ((57 : Int) < (v1000.toNat : Int)))) rfl ?_)))
     refine r_nil ?_
     refine cF hF (fun hF => ?_) fun hF => ?_
     ·
      refine ws 1345 1409 ?_
      refine qp (AB false) rfl ?_
      refine r_nil ?_
      refine w_ret ?_
      refine blockQ_r ?_
      refine thenQ_r ?_
      refine thenQ_r ?_
      refine blockQ_r ?_
      refine thenQ_r ?_
      cases hF
      exact eR
     ·
      refine w_skip ?_
      refine blockQ_n ?_
      refine thenQ_n ?_
      refine w_reg 1345 1473 rfl rfl ?_
      refine qp (AI (w64 (v4 + 1))) rfl (qp (AI (w64 (v4 + 1))) rfl ?_)
      refine r_nil ?_
      refine thenQ_n ?_
      refine ar (l' := [(0, AS v0), (6, AI (v0.length : Int)), (7, AI (w64 (v4 + 1)))]) (L := []) [0, 6, 7] [] 1 ⟨_, by rfl, hF⟩
   ·
    refine qn rfl (qn rfl (qn rfl (qu rfl (qu rfl (qn rfl (qp (AB false) rfl ?_))))))
    refine r_nil ?_
    refine w_false rfl ?_
    refine w_skip ?_
    refine blockQ_n ?_
    refine thenQ_n ?_
    refine w_reg 1345 1473 rfl rfl ?_
    refine qp (AI (w64 (v4 + 1))) rfl (qp (AI (w64 (v4 + 1))) rfl ?_)
    refine r_nil ?_
    refine thenQ_n ?_
    refine ar (l' := [(0, AS v0), (6, AI (v0.length : Int)), (7, AI (w64 (v4 + 1)))]) (L := []) [0, 6, 7] [] 1 ⟨_, by rfl, hF⟩
 ·
  refine w_exit ?_
  refine thenQ_e ?_
  refine thenQ_e ?_
  refine blockQ_e ?_
  refine thenQ_n ?_
  refine ws 65 129 ?_
  refine qp (AB true) rfl ?_
  refine r_nil ?_
  refine w_ret ?_
  cases hF
  exact eR

def c123 : MC := (.seq (.reg [rg 2 (.p true (.mv (.c (.bool false))))]) (.seq (.seq (.reg [rg 3 (.p true (.mv (.t 0))), rg 4 (.p true (.lens (.t 3))), rg 5 (.p true (.bin .lss (.t 4) (.c (.int .i64 1)))), rg 6 (.p true (.mv (.t 5))), ⟨(some 7), (some (6, false)), (.p true (.mv (.t 0)))⟩, ⟨(some 8), (some (6, false)), (.p true (.lens (.t 7)))⟩, ⟨(some 9), (some (6, false)), (.p true (.bin .gtr (.t 8) (.c (.int .i64 10))))⟩, rg 10 (.p true (.pick (.t 6) (.c (.bool true)) (.t 9))), rg 11 (.p true (.mv (.t 10))), ⟨(some 12), (some (11, false)), (.p true (.mv (.t 0)))⟩, ⟨(some 13), (some (11, false)), (.p true (.ixs (.t 12) (.c (.int .i64 0))))⟩, ⟨(some 14), (some (11, false)), (.p true (.bin .lss (.t 13) (.c (.int .u8 97))))⟩, rg 15 (.p true (.pick (.t 11) (.c (.bool true)) (.t 14))), rg 16 (.p true (.mv (.t 15))), ⟨(some 17), (some (16, false)), (.p true (.mv (.t 0)))⟩, ⟨(some 18), (some (16, false)), (.p true (.ixs (.t 17) (.c (.int .i64 0))))⟩, ⟨(some 19), (some (16, false)), (.p true (.bin .gtr (.t 18) (.c (.int .u8 122))))⟩, rg 20 (.p true (.pick (.t 16) (.c (.bool true)) (.t 19)))]) (.cond (.t 20) (.seq (.reg [rg 2 (.p true (.mv (.c (.bool false))))]) .ret) .skip)) (.seq (.reg [rg 21 (.p true (.mv (.t 0))), rg 22 (.call true 141 [(.t 21)]), rg 2 (.p true (.mv (.t 22)))]) .ret)))
theorem c123_is : compFn Try.prog 123 = some (c123, [(.tmp 2)]) := by kernel_rfl
theorem c123_ok : okFn Try.prog 123 = true := by kernel_rfl

noncomputable def F_impl_IsName (v0 : List UInt8) : Option (Bool) :=
 (bif (decide ((v0.length : Int) < (1 : Int))) then some false
 else (bif (decide ((10 : Int) < (v0.length : Int))) then some false
 else ((ix v0 0).bind fun v1000 => (bif (decide ((v1000.toNat : Int) < (97 : Int))) then some false
 else ((ix v0 0).bind fun v1001 => (bif (decide ((122 : Int) < (v1001.toNat : Int))) then some false
 else ((F_impl_onlyNameBytes v0).bind fun v1002 => some v1002)))))))
@[simp] def res_impl_IsName (r : Bool) : RV := .one (.one (.val (.bool r)))
theorem con_impl_IsName {v0 : List UInt8} {r : Bool} (hF : F_impl_IsName v0 = some r) : Con Try.prog 123 [.str v0] (res_impl_IsName r) := by
 unfold F_impl_IsName at hF
 refine con_of c123_is fun N => ?_
 refine ws 0 64 ?_
 refine qp (AB false) rfl ?_
 refine r_nil ?_
 refine w_seq ?_
 refine ws 64 1216 ?_
 refine qp (AS v0) rfl (qp (AI (v0.length : Int)) rfl (qp (AB (decide ((v0.length : Int) < (1 : Int)))) rfl (qp (AB (decide ((v0.length : Int) < (1 : Int)))) rfl ?_)))
 refine q_case 6 hF rfl (fun hF => ?_) (fun hF => ?_)
 ·
  refine qn rfl (qn rfl (qn rfl (qp (AB true) rfl (qp (AB true) rfl (qn rfl (qn rfl (qn rfl ?_)))))))
  refine qp (AB true) rfl (qp (AB true) rfl (qn rfl (qn rfl (qn rfl (qp (AB true) rfl ?_)))))
  refine r_nil ?_
  refine w_true rfl ?_
  refine ws 1216 1280 ?_
  refine qp (AB false) rfl ?_
  refine r_nil ?_
  refine w_ret ?_
  refine thenQ_r ?_
  cases hF
  exact eR
 ·
  refine qg (AS v0) rfl rfl (qg (AI (v0.length : Int)) rfl rfl (qg (AB (decide ((10 : Int) < (v0.length : Int)))) rfl rfl (qp (AB (decide ((10 : Int) < (v0.length : Int)))) rfl (qp (AB (decide ((10 : Int) < (v0.length : Int)))) rfl ?_))))
  refine q_case 11 hF rfl (fun hF => ?_) (fun hF => ?_)
  ·
   refine qn rfl (qn rfl (qn rfl (qp (AB true) rfl (qp (AB true) rfl (qn rfl (qn rfl (qn rfl ?_)))))))
   refine qp (AB true) rfl ?_
   refine r_nil ?_
   refine w_true rfl ?_
   refine ws 1216 1280 ?_
   refine qp (AB false) rfl ?_
   refine r_nil ?_
   refine w_ret ?_
   refine thenQ_r ?_
   cases hF
   exact eR
  ·
   refine qg (AS v0) rfl rfl ?_
   obtain ⟨v1000, e1000, hF⟩ := bind_get hF
   refine qg (.val none (.int .u8 (v1000.toNat : Int))) rfl (ev_ixs rfl rfl e1000) (qg (AB (decide ((v1000.toNat : Int) < (97 : Int)))) rfl rfl (qp (AB (decide ((v1000.toNat : Int) < (97 : Int)))) rfl (qp (AB (decide ((v1000.toNat : Int) < (97 : Int)))) rfl ?_)))
   refine q_case 16 hF rfl (fun hF => ?_) (fun hF => ?_)
   ·
    refine qn rfl (qn rfl (qn rfl (qp (AB true) rfl ?_)))
    refine r_nil ?_
    refine w_true rfl ?_
    refine ws 1216 1280 ?_
    refine qp (AB false) rfl ?_
    refine r_nil ?_
    refine w_ret ?_
    refine thenQ_r ?_
    cases hF
    exact eR
   ·
    refine qg (AS v0) rfl rfl ?_
    obtain ⟨v1001, e1001, hF⟩ := bind_get hF
    refine qg (.val none (.int .u8 (v1001.toNat : Int))) rfl (ev_ixs rfl rfl e1001) (qg (AB (decide ((122 : Int) < (v1001.toNat : Int)))) rfl rfl (qp (AB (decide ((122 : Int) < (v1001.toNat : Int)))) rfl ?_))
    refine r_nil ?_
    refine cF hF (fun hF => ?_) fun hF => ?_
    ·
     refine ws 1216 1280 ?_
     refine qp (AB false) rfl ?_
     refine r_nil ?_
     refine w_ret ?_
     refine thenQ_r ?_
     cases hF
     exact eR
    ·
     refine w_skip ?_
     refine thenQ_n ?_
     refine ws 1216 1408 ?_
     refine qp (AS v0) rfl ?_
     obtain ⟨v1002, e1002, hF⟩ := bind_get hF
     refine qc (AB v1002) [] false (con_impl_onlyNameBytes e1002) c141_ok (by first | rfl | simp) rfl ?_
     refine qp (AB v1002) rfl ?_
     refine r_nil ?_
     refine w_ret ?_
     cases hF
     exact eR

theorem c179_x : IsIdx Try.prog 179 := ⟨by kernel_rfl, by kernel_rfl, by kernel_rfl, by kernel_rfl⟩




def c168 : MC := (.seq (.reg [rg 4 (.p true (.mv (.c (.int .i64 0))))]) (.seq (.reg [rg 5 (.p true (.mv (.t 0))), rg 6 (.p true (.mv (.t 1))), rg 7 (.call true 179 [(.t 5), (.t 6)]), rg 4 (.p true (.mv (.t 7)))]) .ret))
theorem c168_is : compFn Try.prog 168 = some (c168, [(.tmp 4)]) := by kernel_rfl
theorem c168_ok : okFn Try.prog 168 = true := by kernel_rfl

noncomputable def F_stringslite_IndexByte (v0 : List UInt8) (v1 : Int) : Option (Int) :=
 some (byteIdx v0 (v1).toNat.toUInt8)
@[simp] def res_stringslite_IndexByte (r : Int) : RV := .one (.one (.val (.int .i64 r)))
theorem con_stringslite_IndexByte {v0 : List UInt8} {v1 : Int} {r : Int} (hF : F_stringslite_IndexByte v0 v1 = some r) : Con Try.prog 168 [.str v0, .int .u8 v1] (res_stringslite_IndexByte r) := by
 unfold F_stringslite_IndexByte at hF
 refine con_of c168_is fun N => ?_
 refine ws 0 64 ?_
 refine qp (AI 0) rfl ?_
 refine r_nil ?_
 refine ws 64 320 ?_
 refine qp (AS v0) rfl (qp (.val none (.int .u8 v1)) rfl ?_)
 refine qx (s := v0) (c := v1) c179_x (by first | rfl | simp) ?_
 refine qp (AI (byteIdx v0 (v1).toNat.toUInt8)) rfl ?_
 refine r_nil ?_
 refine w_ret ?_
 cases hF
 exact eR

def c153 : MC := (.seq (.reg [rg 4 (.p true (.mv (.c (.int .i64 0))))]) (.seq (.reg [rg 14 (.p true (.mv (.t 1))), rg 15 (.p true (.lens (.t 14))), rg 5 (.p true (.mv (.t 15)))]) (.seq (.block 0 (.seq (.reg [rg 17 (.p true (.mv (.t 5))), rg 18 (.p true (.bin .eql (.t 17) (.c (.int .i64 0)))), rg 19 (.p true (.mv (.t 18))), ⟨(some 20), (some (19, false)), (.p true (.mv (.t 1)))⟩, ⟨(some 21), (some (19, false)), (.p true (.mv (.t 0)))⟩, ⟨(some 22), (some (19, false)), (.p true (.bin .eql (.t 20) (.t 21)))⟩, rg 23 (.p true (.pick (.t 19) (.c (.bool true)) (.t 22))), rg 16 (.p true (.mv (.t 23)))]) (.cond (.t 16) (.seq (.reg [rg 4 (.p true (.mv (.c (.int .i64 0))))]) .ret) (.seq (.reg [rg 25 (.p true (.mv (.t 5))), rg 26 (.p true (.bin .eql (.t 25) (.c (.int .i64 1)))), rg 24 (.p true (.mv (.t 26)))]) (.cond (.t 24) (.seq (.reg [rg 27 (.p true (.mv (.t 0))), rg 28 (.p true (.mv (.t 1))), rg 29 (.p true (.ixs (.t 28) (.c (.int .i64 0)))), rg 30 (.call true 168 [(.t 27), (.t 29)]), rg 4 (.p true (.mv (.t 30)))]) .ret) (.seq (.reg [rg 32 (.p true (.mv (.t 5))), rg 33 (.p true (.mv (.t 0))), rg 34 (.p true (.lens (.t 33))), rg 35 (.p true (.bin .geq (.t 32) (.t 34))), rg 31 (.p true (.mv (.t 35)))]) (.cond (.t 31) (.seq (.reg [rg 4 (.p true (.mv (.c (.int .i64 (-1)))))]) .ret) (.seq .bad (.cond (.t 36) (.seq (.reg [rg 45 (.p true (.mv (.t 0))), rg 46 (.p true (.mv (.t 1))), rg 47 (.call true 169 [(.t 45), (.t 46)]), rg 4 (.p true (.mv (.t 47)))]) .ret) .skip))))))))) (.seq (.reg [rg 48 (.p true (.mv (.t 1))), rg 49 (.p true (.ixs (.t 48) (.c (.int .i64 0)))), rg 6 (.p true (.mv (.t 49)))]) (.seq (.reg [rg 50 (.p true (.mv (.t 1))), rg 51 (.p true (.ixs (.t 50) (.c (.int .i64 1)))), rg 7 (.p true (.mv (.t 51)))]) (.seq (.reg [rg 8 (.p true (.mv (.c (.int .i64 0))))]) (.seq (.reg [rg 52 (.p true (.mv (.t 0))), rg 53 (.p true (.lens (.t 52))), rg 54 (.p true (.mv (.t 5))), rg 55 (.p true (.bin .sub (.t 53) (.t 54))), rg 56 (.p true (.bin .add (.t 55) (.c (.int .i64 1)))), rg 9 (.p true (.mv (.t 56)))]) (.seq (.reg [rg 10 (.p true (.mv (.c (.int .i64 0))))]) (.seq (.block 1 (.loop (.seq (.seq (.reg [rg 57 (.p true (.mv (.t 8))), rg 58 (.p true (.mv (.t 9))), rg 59 (.p true (.bin .lss (.t 57) (.t 58)))]) (.cond (.t 59) .skip (.exit 1))) (.block 2 (.seq (.seq (.reg [rg 60 (.p true (.mv (.t 0))), rg 61 (.p true (.mv (.t 8))), rg 62 (.p true (.ixs (.t 60) (.t 61))), rg 63 (.p true (.mv (.t 6))), rg 64 (.p true (.bin .neq (.t 62) (.t 63)))]) (.cond (.t 64) (.seq (.reg [rg 65 (.p true (.mv (.t 0))), rg 66 (.p true (.mv (.t 8))), rg 67 (.p true (.bin .add (.t 66) (.c (.int .i64 1)))), rg 68 (.p true (.mv (.t 9))), rg 69 (.p true (.slcs (.t 65) (some (.t 67)) (some (.t 68)))), rg 70 (.p true (.mv (.t 6))), rg 71 (.call true 168 [(.t 69), (.t 70)]), rg 11 (.p true (.mv (.t 71)))]) (.seq (.seq (.reg [rg 72 (.p true (.mv (.t 11))), rg 73 (.p true (.bin .lss (.t 72) (.c (.int .i64 0))))]) (.cond (.t 73) (.seq (.reg [rg 4 (.p true (.mv (.c (.int .i64 (-1)))))]) .ret) .skip)) (.reg [rg 74 (.p true (.mv (.t 8))), rg 75 (.p true (.mv (.t 11))), rg 76 (.p true (.bin .add (.t 75) (.c (.int .i64 1)))), rg 77 (.p true (.bin .add (.t 74) (.t 76))), rg 8 (.p true (.mv (.t 77)))]))) .skip)) (.seq (.seq (.reg [rg 78 (.p true (.mv (.t 0))), rg 79 (.p true (.mv (.t 8))), rg 80 (.p true (.bin .add (.t 79) (.c (.int .i64 1)))), rg 81 (.p true (.ixs (.t 78) (.t 80))), rg 82 (.p true (.mv (.t 7))), rg 83 (.p true (.bin .eql (.t 81) (.t 82))), rg 84 (.p true (.mv (.t 83))), ⟨(some 85), (some (84, true)), (.p true (.mv (.t 0)))⟩, ⟨(some 86), (some (84, true)), (.p true (.mv (.t 8)))⟩, ⟨(some 87), (some (84, true)), (.p true (.mv (.t 8)))⟩, ⟨(some 88), (some (84, true)), (.p true (.mv (.t 5)))⟩, ⟨(some 89), (some (84, true)), (.p true (.bin .add (.t 87) (.t 88)))⟩, ⟨(some 90), (some (84, true)), (.p true (.slcs (.t 85) (some (.t 86)) (some (.t 89))))⟩, ⟨(some 91), (some (84, true)), (.p true (.mv (.t 1)))⟩, ⟨(some 92), (some (84, true)), (.p true (.bin .eql (.t 90) (.t 91)))⟩, rg 93 (.p true (.pick (.t 84) (.t 92) (.c (.bool false))))]) (.cond (.t 93) (.seq (.reg [rg 94 (.p true (.mv (.t 8))), rg 4 (.p true (.mv (.t 94)))]) .ret) .skip)) (.seq (.reg [rg 95 (.p true (.mv (.t 8))), rg 96 (.p true (.bin .add (.t 95) (.c (.int .i64 1)))), rg 8 (.p true (.mv (.t 96)))]) (.seq (.reg [rg 97 (.p true (.mv (.t 10))), rg 98 (.p true (.bin .add (.t 97) (.c (.int .i64 1)))), rg 10 (.p true (.mv (.t 98)))]) (.seq .bad (.cond (.t 107) (.seq (.reg [rg 108 (.p true (.mv (.t 0))), rg 109 (.p true (.mv (.t 8))), rg 110 (.p true (.slcs (.t 108) (some (.t 109)) none)), rg 111 (.p true (.mv (.t 1))), rg 112 (.call true 169 [(.t 110), (.t 111)]), rg 12 (.p true (.mv (.t 112)))]) (.seq (.seq (.reg [rg 113 (.p true (.mv (.t 12))), rg 114 (.p true (.bin .geq (.t 113) (.c (.int .i64 0))))]) (.cond (.t 114) (.seq (.reg [rg 115 (.p true (.mv (.t 12))), rg 116 (.p true (.mv (.t 8))), rg 117 (.p true (.bin .add (.t 115) (.t 116))), rg 4 (.p true (.mv (.t 117)))]) .ret) .skip)) (.seq (.reg [rg 4 (.p true (.mv (.c (.int .i64 (-1)))))]) .ret))) (.seq .bad (.cond (.t 132) (.seq (.reg [rg 133 (.p true (.mv (.t 0))), rg 134 (.p true (.mv (.t 8))), rg 135 (.p true (.slcs (.t 133) (some (.t 134)) none)), rg 136 (.p true (.mv (.t 1))), rg 137 (.call true 171 [(.t 135), (.t 136)]), rg 13 (.p true (.mv (.t 137)))]) (.seq (.seq (.reg [rg 138 (.p true (.mv (.t 13))), rg 139 (.p true (.bin .lss (.t 138) (.c (.int .i64 0))))]) (.cond (.t 139) (.seq (.reg [rg 4 (.p true (.mv (.c (.int .i64 (-1)))))]) .ret) .skip)) (.seq (.reg [rg 140 (.p true (.mv (.t 8))), rg 141 (.p true (.mv (.t 13))), rg 142 (.p true (.bin .add (.t 140) (.t 141))), rg 4 (.p true (.mv (.t 142)))]) .ret))) .skip)))))))))))) (.seq (.reg [rg 4 (.p true (.mv (.c (.int .i64 (-1)))))]) .ret))))))))))
theorem c153_is : compFn Try.prog 153 = some (c153, [(.tmp 4)]) := by kernel_rfl
theorem c153_ok : okFn Try.prog 153 = true := by kernel_rfl

noncomputable def F_stringslite_Index_j0 (v0 : List UInt8) (v1 : List UInt8) (v2 : Bool) : Option (Int) :=
 (bif v2 then some 0
 else (bif (decide ((v1.length : Int) = (1 : Int))) then ((ix v1 0).bind fun v1000 => ((F_stringslite_IndexByte v0 (v1000.toNat : Int)).bind fun v1001 => some v1001))
 else (bif (decide ((v0.length : Int) ≤ (v1.length : Int))) then some (-1)
 else none)))
noncomputable def F_stringslite_Index (v0 : List UInt8) (v1 : List UInt8) : Option (Int) :=
 (bif (decide ((v1.length : Int) = (0 : Int))) then F_stringslite_Index_j0 v0 v1 true
 else F_stringslite_Index_j0 v0 v1 (decide (v1 = v0)))
@[simp] def res_stringslite_Index (r : Int) : RV := .one (.one (.val (.int .i64 r)))
theorem con_stringslite_Index {v0 : List UInt8} {v1 : List UInt8} {r : Int} (hF : F_stringslite_Index v0 v1 = some r) : Con Try.prog 153 [.str v0, .str v1] (res_stringslite_Index r) := by
 unfold F_stringslite_Index at hF
 refine con_of c153_is fun N => ?_
 refine ws 0 64 ?_
 refine qp (AI 0) rfl ?_
 refine r_nil ?_
 refine ws 64 256 ?_
 refine qp (AS v1) rfl (qp (AI (v1.length : Int)) rfl (qp (AI (v1.length : Int)) rfl ?_))
 refine r_nil ?_
 refine w_seq ?_
 refine w_block ?_
 refine w_meet (fun s' => ∃ (v2 : Bool), s' = mkS [(0, AS v0), (1, AS v1), (5, AI (v1.length : Int)), (16, AB v2)] (fo []) 1 ∧ F_stringslite_Index_j0 v0 v1 v2 = some r) ?_ ?_
 ·
  refine w_reg 256 768 rfl rfl ?_
  refine qp (AI (v1.length : Int)) rfl (qp (AB (decide ((v1.length : Int) = (0 : Int)))) rfl (qp (AB (decide ((v1.length : Int) = (0 : Int)))) rfl ?_))
  refine q_case 19 hF rfl (fun hF => ?_) (fun hF => ?_)
  ·
   refine qn rfl (qn rfl (qn rfl (qp (AB true) rfl (qp (AB true) rfl ?_))))
   refine r_nil ?_
   refine thenQ_n ?_
   refine aw_ren (l' := [(0, AS v0), (1, AS v1), (5, AI (v1.length : Int)), (16, AB true)]) (L := []) [0, 1, 5, 16] [] 1 (by first | rfl | simp) (by first | rfl | simp) (by decide) (by decide) (by decide) ⟨_, rfl, hF⟩
  ·
   refine qg (AS v1) rfl rfl (qg (AS v0) rfl rfl (qg (AB (decide (v1 = v0))) rfl rfl (qp (AB (decide (v1 = v0))) rfl (qp (AB (decide (v1 = v0))) rfl ?_))))
   refine r_nil ?_
   refine thenQ_n ?_
   refine aw_ren (l' := [(0, AS v0), (1, AS v1), (5, AI (v1.length : Int)), (16, AB (decide (v1 = v0)))]) (L := []) [0, 1, 5, 16] [] 1 (by first | rfl | simp) (by first | rfl | simp) (by decide) (by decide) (by decide) ⟨_, rfl, hF⟩
 ·
  rintro s' ⟨v2, rfl, hF⟩
  unfold F_stringslite_Index_j0 at hF
  refine cF hF (fun hF => ?_) fun hF => ?_
  ·
   refine ws 1 65 ?_
   refine qp (AI 0) rfl ?_
   refine r_nil ?_
   refine w_ret ?_
   refine blockQ_r ?_
   refine thenQ_r ?_
   cases hF
   exact eR
  ·
   refine ws 1 193 ?_
   refine qp (AI (v1.length : Int)) rfl (qp (AB (decide ((v1.length : Int) = (1 : Int)))) rfl (qp (AB (decide ((v1.length : Int) = (1 : Int)))) rfl ?_))
   refine r_nil ?_
   refine cF hF (fun hF => ?_) fun hF => ?_
   ·
    refine ws 193 513 ?_
    refine qp (AS v0) rfl (qp (AS v1) rfl ?_)
    obtain ⟨v1000, e1000, hF⟩ := bind_get hF
    refine qp (.val none (.int .u8 (v1000.toNat : Int))) (ev_ixs rfl rfl e1000) ?_
    obtain ⟨v1001, e1001, hF⟩ := bind_get hF
    refine qc (AI v1001) [] false (con_stringslite_IndexByte e1001) c168_ok (by first | rfl | simp) rfl ?_
    refine qp (AI v1001) rfl ?_
    refine r_nil ?_
    refine w_ret ?_
    refine blockQ_r ?_
    refine thenQ_r ?_
    cases hF
    exact eR
   ·
    refine ws 193 513 ?_
    refine qp (AI (v1.length : Int)) rfl (qp (AS v0) rfl (qp (AI (v0.length : Int)) rfl (qp (AB (decide ((v0.length : Int) ≤ (v1.length : Int)))) rfl (qp (AB (decide ((v0.length : Int) ≤ (v1.length : Int)))) rfl ?_))))
    refine r_nil ?_
    refine cF hF (fun hF => ?_) fun hF => ?_
    ·
     refine ws 513 577 ?_
     refine qp (AI (-1)) rfl ?_
     refine r_nil ?_
     refine w_ret ?_
     refine blockQ_r ?_
     refine thenQ_r ?_
     cases hF
     exact eR
    ·
     refine w_seq ?_
     cases hF

def c143 : MC := (.seq (.reg [rg 4 (.p true (.mv (.c (.int .i64 0))))]) (.seq (.reg [rg 5 (.p true (.mv (.t 0))), rg 6 (.p true (.mv (.t 1))), rg 7 (.call true 153 [(.t 5), (.t 6)]), rg 4 (.p true (.mv (.t 7)))]) .ret))
theorem c143_is : compFn Try.prog 143 = some (c143, [(.tmp 4)]) := by kernel_rfl
theorem c143_ok : okFn Try.prog 143 = true := by kernel_rfl

noncomputable def F_strings_Index (v0 : List UInt8) (v1 : List UInt8) : Option (Int) :=
 ((F_stringslite_Index v0 v1).bind fun v1000 => some v1000)
@[simp] def res_strings_Index (r : Int) : RV := .one (.one (.val (.int .i64 r)))
theorem con_strings_Index {v0 : List UInt8} {v1 : List UInt8} {r : Int} (hF : F_strings_Index v0 v1 = some r) : Con Try.prog 143 [.str v0, .str v1] (res_strings_Index r) := by
 unfold F_strings_Index at hF
 refine con_of c143_is fun N => ?_
 refine ws 0 64 ?_
 refine qp (AI 0) rfl ?_
 refine r_nil ?_
 refine ws 64 320 ?_
 refine qp (AS v0) rfl (qp (AS v1) rfl ?_)
 obtain ⟨v1000, e1000, hF⟩ := bind_get hF
 refine qc (AI v1000) [] false (con_stringslite_Index e1000) c153_ok (by first | rfl | simp) rfl ?_
 refine qp (AI v1000) rfl ?_
 refine r_nil ?_
 refine w_ret ?_
 cases hF
 exact eR

def c129 : MC := (.seq (.reg [rg 4 (.p true (.mv (.c (.bool false))))]) (.seq (.reg [rg 5 (.p true (.mv (.t 0))), rg 6 (.p true (.mv (.t 1))), rg 7 (.call true 143 [(.t 5), (.t 6)]), rg 8 (.p true (.bin .geq (.t 7) (.c (.int .i64 0)))), rg 4 (.p true (.mv (.t 8)))]) .ret))
theorem c129_is : compFn Try.prog 129 = some (c129, [(.tmp 4)]) := by kernel_rfl
theorem c129_ok : okFn Try.prog 129 = true := by kernel_rfl

noncomputable def F_strings_Contains (v0 : List UInt8) (v1 : List UInt8) : Option (Bool) :=
 ((F_strings_Index v0 v1).bind fun v1000 => some (decide ((0 : Int) ≤ v1000)))
@[simp] def res_strings_Contains (r : Bool) : RV := .one (.one (.val (.bool r)))
theorem con_strings_Contains {v0 : List UInt8} {v1 : List UInt8} {r : Bool} (hF : F_strings_Contains v0 v1 = some r) : Con Try.prog 129 [.str v0, .str v1] (res_strings_Contains r) := by
 unfold F_strings_Contains at hF
 refine con_of c129_is fun N => ?_
 refine ws 0 64 ?_
 refine qp (AB false) rfl ?_
 refine r_nil ?_
 refine ws 64 384 ?_
 refine qp (AS v0) rfl (qp (AS v1) rfl ?_)
 obtain ⟨v1000, e1000, hF⟩ := bind_get hF
 refine qc (AI v1000) [] false (con_strings_Index e1000) c143_ok (by first | rfl | simp) rfl ?_
 refine qp (AB (decide ((0 : Int) ≤ v1000))) rfl (qp (AB (decide ((0 : Int) ≤ v1000))) rfl ?_)
 refine r_nil ?_
 refine w_ret ?_
 cases hF
 exact eR

def c92 : MC := (.seq (.reg [rg 1 (.f (.box (.t 0))), rg 2 (.p true (.mv (.c (.bool false))))]) (.seq (.reg [rg 3 (.p true (.fad (.t 1) 0)), rg 4 (.p true (.ld (.t 3) 1 false)), rg 5 (.call true 123 [(.t 4)]), rg 6 (.p true (.mv (.t 5))), ⟨(some 7), (some (6, true)), (.p true (.fad (.t 1) 1))⟩, ⟨(some 8), (some (6, true)), (.p true (.ld (.t 7) 1 false))⟩, ⟨(some 9), (some (6, true)), (.call true 123 [(.t 8)])⟩, rg 10 (.p true (.pick (.t 6) (.t 9) (.c (.bool false)))), rg 11 (.p true (.mv (.t 10))), ⟨(some 12), (some (11, true)), (.p true (.fad (.t 1) 2))⟩, ⟨(some 13), (some (11, true)), (.p true (.ld (.t 12) 1 false))⟩, ⟨(some 14), (some (11, true)), (.p true (.lens (.t 13)))⟩, ⟨(some 15), (some (11, true)), (.p true (.bin .leq (.t 14) (.c (.int .i64 400))))⟩, rg 16 (.p true (.pick (.t 11) (.t 15) (.c (.bool false)))), rg 17 (.p true (.mv (.t 16))), ⟨(some 18), (some (17, true)), (.p true (.fad (.t 1) 2))⟩, ⟨(some 19), (some (17, true)), (.p true (.ld (.t 18) 1 false))⟩, ⟨(some 20), (some (17, true)), (.call true 129 [(.t 19), (.c (.str [10]))])⟩, ⟨(some 21), (some (17, true)), (.p true (.not (.t 20)))⟩, rg 22 (.p true (.pick (.t 17) (.t 21) (.c (.bool false)))), rg 2 (.p true (.mv (.t 22)))]) .ret))
theorem c92_is : compFn Try.prog 92 = some (c92, [(.tmp 2)]) := by kernel_rfl
theorem c92_ok : okFn Try.prog 92 = true := by kernel_rfl

noncomputable def F_impl_ValidBlock (v0 : TBlock) : Option (Bool) :=
 ((F_impl_IsName v0.1).bind fun v1000 => (bif v1000 then ((F_impl_IsName v0.2.1).bind fun v1001 => (bif v1001 then (bif (decide ((v0.2.2.length : Int) ≤ (400 : Int))) then ((F_strings_Contains v0.2.2 [10]).bind fun v1002 => some (!v1002))
 else some false)
 else some false))
 else some false))
@[simp] def res_impl_ValidBlock (r : Bool) : RV := .one (.one (.val (.bool r)))
theorem con_impl_ValidBlock {v0 : TBlock} {r : Bool} (hF : F_impl_ValidBlock v0 = some r) : Con Try.prog 92 [eBlock v0] (res_impl_ValidBlock r) := by
 unfold F_impl_ValidBlock at hF
 refine con_of c92_is fun N => ?_
 refine ws 0 128 ?_
 refine qf (.ptr 0 0 0) [(0, .box [AS v0.1, AS v0.2.1, AS v0.2.2])] (by simp) ?_
 refine qp (AB false) rfl ?_
 refine r_nil ?_
 refine ws 128 1472 ?_
 refine qp (.ptr 0 0 0) rfl (qp (AS v0.1) rfl ?_)
 obtain ⟨v1000, e1000, hF⟩ := bind_get hF
 refine qc (AB v1000) [(0, .box [AS v0.1, AS v0.2.1, AS v0.2.2])] false (con_impl_IsName e1000) c123_ok (by first | rfl | simp) rfl ?_
 refine qp (AB v1000) rfl ?_
 refine q_case 6 hF rfl (fun hF => ?_) (fun hF => ?_)
 ·
  refine qg (.ptr 0 0 1) rfl rfl (qg (AS v0.2.1) rfl rfl ?_)
  obtain ⟨v1001, e1001, hF⟩ := bind_get hF
  refine qcg (AB v1001) [(0, .box [AS v0.1, AS v0.2.1, AS v0.2.2])] false rfl (con_impl_IsName e1001) c123_ok (by first | rfl | simp) rfl ?_
  refine qp (AB v1001) rfl (qp (AB v1001) rfl ?_)
  refine q_case 11 hF rfl (fun hF => ?_) (fun hF => ?_)
  ·
   refine qg (.ptr 0 0 2) rfl rfl (qg (AS v0.2.2) rfl rfl (qg (AI (v0.2.2.length : Int)) rfl rfl (qg (AB (decide ((v0.2.2.length : Int) ≤ (400 : Int)))) rfl rfl (qp (AB (decide ((v0.2.2.length : Int) ≤ (400 : Int)))) rfl (qp (AB (decide ((v0.2.2.length : Int) ≤ (400 : Int)))) rfl ?_)))))
   refine q_case 17 hF rfl (fun hF => ?_) (fun hF => ?_)
   ·
    refine qg (.ptr 0 0 2) rfl rfl (qg (AS v0.2.2) rfl rfl ?_)
    obtain ⟨v1002, e1002, hF⟩ := bind_get hF
    refine qcg (AB v1002) [(0, .box [AS v0.1, AS v0.2.1, AS v0.2.2])] false rfl (con_strings_Contains e1002) c129_ok (by first | rfl | simp) rfl ?_
    refine qg (AB (!v1002)) rfl rfl (qp (AB (!v1002)) rfl (qp (AB (!v1002)) rfl ?_))
    refine r_nil ?_
    refine w_ret ?_
    cases hF
    exact eR
   ·
    refine qn rfl (qn rfl (qn rfl (qn rfl (qp (AB false) rfl (qp (AB false) rfl ?_)))))
    refine r_nil ?_
    refine w_ret ?_
    cases hF
    exact eR
  ·
   refine qn rfl (qn rfl (qn rfl (qn rfl (qp (AB false) rfl (qp (AB false) rfl (qn rfl (qn rfl ?_)))))))
   refine qn rfl (qn rfl (qp (AB false) rfl (qp (AB false) rfl ?_)))
   refine r_nil ?_
   refine w_ret ?_
   cases hF
   exact eR
 ·
  refine qn rfl (qn rfl (qn rfl (qp (AB false) rfl (qp (AB false) rfl (qn rfl (qn rfl (qn rfl ?_)))))))
  refine qn rfl (qp (AB false) rfl (qp (AB false) rfl (qn rfl (qn rfl (qn rfl (qn rfl (qp (AB false) rfl ?_)))))))
  refine qp (AB false) rfl ?_
  refine r_nil ?_
  refine w_ret ?_
  cases hF
  exact eR

def c125 : MC := (.seq (.reg [rg 2 (.p true (.mv (.c (.bool false))))]) (.seq (.reg [rg 3 (.p true (.mv (.t 0))), rg 4 (.p true (.mv (.t 0))), rg 5 (.p true (.bin .neq (.t 3) (.t 4))), rg 2 (.p true (.mv (.t 5)))]) .ret))
theorem c125_is : compFn Try.prog 125 = some (c125, [(.tmp 2)]) := by kernel_rfl
theorem c125_ok : okFn Try.prog 125 = true := by kernel_rfl

noncomputable def F_cmp_isNaN_string (v0 : List UInt8) : Option (Bool) :=
 some (decide (v0 ≠ v0))
@[simp] def res_cmp_isNaN_string (r : Bool) : RV := .one (.one (.val (.bool r)))
theorem con_cmp_isNaN_string {v0 : List UInt8} {r : Bool} (hF : F_cmp_isNaN_string v0 = some r) : Con Try.prog 125 [.str v0] (res_cmp_isNaN_string r) := by
 unfold F_cmp_isNaN_string at hF
 refine con_of c125_is fun N => ?_
 refine ws 0 64 ?_
 refine qp (AB false) rfl ?_
 refine r_nil ?_
 refine ws 64 320 ?_
 refine qp (AS v0) rfl (qp (AS v0) rfl (qp (AB (decide (v0 ≠ v0))) rfl (qp (AB (decide (v0 ≠ v0))) rfl ?_)))
 refine r_nil ?_
 refine w_ret ?_
 cases hF
 exact eR

def c86 : MC := (.seq (.reg [rg 4 (.p true (.mv (.c (.int .i64 0))))]) (.seq (.reg [rg 7 (.p true (.mv (.t 0))), rg 8 (.call true 125 [(.t 7)]), rg 5 (.p true (.mv (.t 8)))]) (.seq (.reg [rg 9 (.p true (.mv (.t 1))), rg 10 (.call true 125 [(.t 9)]), rg 6 (.p true (.mv (.t 10)))]) (.seq (.seq (.reg [rg 11 (.p true (.mv (.t 5)))]) (.cond (.t 11) (.seq (.seq (.reg [rg 12 (.p true (.mv (.t 6)))]) (.cond (.t 12) (.seq (.reg [rg 4 (.p true (.mv (.c (.int .i64 0))))]) .ret) .skip)) (.seq (.reg [rg 4 (.p true (.mv (.c (.int .i64 (-1)))))]) .ret)) .skip)) (.seq (.seq (.reg [rg 13 (.p true (.mv (.t 6)))]) (.cond (.t 13) (.seq (.reg [rg 4 (.p true (.mv (.c (.int .i64 1))))]) .ret) .skip)) (.seq (.seq (.reg [rg 14 (.p true (.mv (.t 0))), rg 15 (.p true (.mv (.t 1))), rg 16 (.p true (.bin .lss (.t 14) (.t 15)))]) (.cond (.t 16) (.seq (.reg [rg 4 (.p true (.mv (.c (.int .i64 (-1)))))]) .ret) .skip)) (.seq (.seq (.reg [rg 17 (.p true (.mv (.t 0))), rg 18 (.p true (.mv (.t 1))), rg 19 (.p true (.bin .gtr (.t 17) (.t 18)))]) (.cond (.t 19) (.seq (.reg [rg 4 (.p true (.mv (.c (.int .i64 1))))]) .ret) .skip)) (.seq (.reg [rg 4 (.p true (.mv (.c (.int .i64 0))))]) .ret))))))))
theorem c86_is : compFn Try.prog 86 = some (c86, [(.tmp 4)]) := by kernel_rfl
theorem c86_ok : okFn Try.prog 86 = true := by kernel_rfl

noncomputable def F_cmp_Compare_string (v0 : List UInt8) (v1 : List UInt8) : Option (Int) :=
 ((F_cmp_isNaN_string v0).bind fun v1000 => ((F_cmp_isNaN_string v1).bind fun v1001 => (bif v1000 then (bif v1001 then some 0
 else some (-1))
 else (bif v1001 then some 1
 else (bif (Op.bytesLess v0 v1) then some (-1)
 else (bif (!(Op.bytesLess v0 v1 || decide (v0 = v1))) then some 1
 else some 0))))))
@[simp] def res_cmp_Compare_string (r : Int) : RV := .one (.one (.val (.int .i64 r)))
theorem con_cmp_Compare_string {v0 : List UInt8} {v1 : List UInt8} {r : Int} (hF : F_cmp_Compare_string v0 v1 = some r) : Con Try.prog 86 [.str v0, .str v1] (res_cmp_Compare_string r) := by
 unfold F_cmp_Compare_string at hF
 refine con_of c86_is fun N => ?_
 refine ws 0 64 ?_
 refine qp (AI 0) rfl ?_
 refine r_nil ?_
 refine ws 64 256 ?_
 refine qp (AS v0) rfl ?_
 obtain ⟨v1000, e1000, hF⟩ := bind_get hF
 refine qc (AB v1000) [] false (con_cmp_isNaN_string e1000) c125_ok (by first | rfl | simp) rfl ?_
 refine qp (AB v1000) rfl ?_
 refine r_nil ?_
 refine ws 256 448 ?_
 refine qp (AS v1) rfl ?_
 obtain ⟨v1001, e1001, hF⟩ := bind_get hF
 refine qc (AB v1001) [] false (con_cmp_isNaN_string e1001) c125_ok (by first | rfl | simp) rfl ?_
 refine qp (AB v1001) rfl ?_
 refine r_nil ?_
 refine w_seq ?_
 refine ws 448 512 ?_
 refine qp (AB v1000) rfl ?_
 refine r_nil ?_
 refine cF hF (fun hF => ?_) fun hF => ?_
 ·
  refine w_seq ?_
  refine ws 512 576 ?_
  refine qp (AB v1001) rfl ?_
  refine r_nil ?_
  refine cF hF (fun hF => ?_) fun hF => ?_
  ·
   refine ws 576 640 ?_
   refine qp (AI 0) rfl ?_
   refine r_nil ?_
   refine w_ret ?_
   refine thenQ_r ?_
   refine thenQ_r ?_
   cases hF
   exact eR
  ·
   refine w_skip ?_
   refine thenQ_n ?_
   refine ws 576 640 ?_
   refine qp (AI (-1)) rfl ?_
   refine r_nil ?_
   refine w_ret ?_
   refine thenQ_r ?_
   cases hF
   exact eR
 ·
  refine w_skip ?_
  refine thenQ_n ?_
  refine w_seq ?_
  refine ws 512 576 ?_
  refine qp (AB v1001) rfl ?_
  refine r_nil ?_
  refine cF hF (fun hF => ?_) fun hF => ?_
  ·
   refine ws 576 640 ?_
   refine qp (AI 1) rfl ?_
   refine r_nil ?_
   refine w_ret ?_
   refine thenQ_r ?_
   cases hF
   exact eR
  ·
   refine w_skip ?_
   refine thenQ_n ?_
   refine w_seq ?_
   refine ws 576 768 ?_
   refine qp (AS v0) rfl (qp (AS v1) rfl (qp (AB (Op.bytesLess v0 v1)) rfl ?_))
   refine r_nil ?_
   refine cF hF (fun hF => ?_) fun hF => ?_
   ·
    refine ws 768 832 ?_
    refine qp (AI (-1)) rfl ?_
    refine r_nil ?_
    refine w_ret ?_
    refine thenQ_r ?_
    cases hF
    exact eR
   ·
    refine w_skip ?_
    refine thenQ_n ?_
    refine w_seq ?_
    refine ws 768 960 ?_
    refine qp (AS v0) rfl (qp (AS v1) rfl (qp (AB (!(Op.bytesLess v0 v1 || decide (v0 = v1)))) rfl ?_))
    refine r_nil ?_
    refine cF hF (fun hF => ?_) fun hF => ?_
    ·
     refine ws 960 1024 ?_
     refine qp (AI 1) rfl ?_
     refine r_nil ?_
     refine w_ret ?_
     refine thenQ_r ?_
     cases hF
     exact eR
    ·
     refine w_skip ?_
     refine thenQ_n ?_
     refine ws 960 1024 ?_
     refine qp (AI 0) rfl ?_
     refine r_nil ?_
     refine w_ret ?_
     cases hF
     exact eR

def c117 : MC := (.seq (.reg [rg 2 (.p true (.mv (.c (.int .i64 0))))]) (.seq (.reg [rg 3 (.p true (.mv (.c (.int .i64 0))))]) (.seq (.seq (.reg [rg 6 (.p true (.mv (.t 0))), rg 7 (.p true (.len (.t 6))), rg 8 (.p true (.mv (.c (.int .i64 0))))]) (.block 0 (.loop (.seq (.reg [rg 9 (.p true (.bin .lss (.t 8) (.t 7)))]) (.seq (.cond (.t 9) .skip (.exit 0)) (.seq (.block 1 (.seq (.reg [rg 10 (.p true (.iad (.t 6) (.t 8) 1)), rg 11 (.p true (.ld (.t 10) 1 false)), rg 5 (.p true (.mv (.t 11)))]) (.seq (.reg [rg 12 (.p true (.mv (.t 5))), rg 13 (.p true (.mv (.t 3))), rg 14 (.p true (.bin .neq (.t 12) (.t 13)))]) (.cond (.t 14) (.seq (.reg [rg 15 (.p true (.mv (.t 5))), rg 2 (.p true (.mv (.t 15)))]) .ret) .skip)))) (.reg [rg 16 (.p true (.bin .add (.t 8) (.c (.int .i64 1)))), rg 8 (.p true (.mv (.t 16)))]))))))) (.seq (.reg [rg 17 (.p true (.mv (.t 3))), rg 2 (.p true (.mv (.t 17)))]) .ret))))
theorem c117_is : compFn Try.prog 117 = some (c117, [(.tmp 2)]) := by kernel_rfl
theorem c117_ok : okFn Try.prog 117 = true := by kernel_rfl

noncomputable def F_cmp_Or_int_l0 (v0 : List Int) (k0 : Int → Option (Int)) : Int → Option (Int)
 | v4 => (bif (decide (v4 < (v0.length : Int))) then ((ix v0 v4).bind fun v1000 => (bif (decide (v1000 ≠ (0 : Int))) then some v1000
 else k0 (w64 (v4 + 1))))
 else some 0)
noncomputable def F_cmp_Or_int (v0 : List Int) : Option (Int) :=
 loop (F_cmp_Or_int_l0 v0) 0
@[simp] def res_cmp_Or_int (r : Int) : RV := .one (.one (.val (.int .i64 r)))
theorem con_cmp_Or_int {v0 : List Int} {r : Int} (hF : F_cmp_Or_int v0 = some r) : Con Try.prog 117 [.sl 1 (v0.map (V.int .i64))] (res_cmp_Or_int r) := by
 unfold F_cmp_Or_int at hF
 refine con_of c117_is fun N => ?_
 refine ws 0 64 ?_
 refine qp (AI 0) rfl ?_
 refine r_nil ?_
 refine ws 64 128 ?_
 refine qp (AI 0) rfl ?_
 refine r_nil ?_
 refine w_seq ?_
 refine ws 128 320 ?_
 refine qp (AL 1 (v0.map (V.int .i64))) rfl (qp (AI (v0.length : Int)) (ev_len_n rfl) (qp (AI 0) rfl ?_))
 refine r_nil ?_
 refine w_block ?_
 refine wr (l' := [(3, AI 0), (6, AL 1 (v0.map (V.int .i64))), (7, AI (v0.length : Int)), (8, AI 0)]) (L := []) [3, 6, 7, 8] [] 1 ?_
 refine w_loopF (F_cmp_Or_int_l0 v0) (fun s : Int => mkS [(3, AI 0), (6, AL 1 (v0.map (V.int .i64))), (7, AI (v0.length : Int)), (8, AI s)] (fo []) 1) hF ?_
 rintro k0 v4 hF
 rw [F_cmp_Or_int_l0] at hF
 try dsimp only
 refine ws 1 65 ?_
 refine qp (AB (decide (v4 < (v0.length : Int)))) rfl ?_
 refine r_nil ?_
 refine w_seq ?_
 refine cF hF (fun hF => ?_) fun hF => ?_
 ·
  refine w_skip ?_
  refine thenQ_n ?_
  refine w_seq ?_
  refine w_block ?_
  refine ws 65 257 ?_
  obtain ⟨v1000, e1000, hF⟩ := bind_get hF
  refine qp (.val none (.ptr [.int .i64 v1000])) (ev_iad_n rfl rfl e1000 rfl) (qp (AI v1000) rfl (qp (AI v1000) rfl ?_))
  refine r_nil ?_
  refine ws 257 449 ?_
  refine qp (AI v1000) rfl (qp (AI 0) rfl (qp (AB (decide (v1000 ≠ (0 : Int)))) rfl ?_))
  refine r_nil ?_
  refine cF hF (fun hF => ?_) fun hF => ?_
  ·
   refine ws 449 577 ?_
   refine qp (AI v1000) rfl (qp (AI v1000) rfl ?_)
   refine r_nil ?_
   refine w_ret ?_
   refine blockQ_r ?_
   refine thenQ_r ?_
   refine thenQ_r ?_
   refine blockQ_r ?_
   refine thenQ_r ?_
   cases hF
   exact eR
  ·
   refine w_skip ?_
   refine blockQ_n ?_
   refine thenQ_n ?_
   refine w_reg 449 577 rfl rfl ?_
   refine qp (AI (w64 (v4 + 1))) rfl (qp (AI (w64 (v4 + 1))) rfl ?_)
   refine r_nil ?_
   refine thenQ_n ?_
   refine ar (l' := [(3, AI 0), (6, AL 1 (v0.map (V.int .i64))), (7, AI (v0.length : Int)), (8, AI (w64 (v4 + 1)))]) (L := []) [3, 6, 7, 8] [] 1 ⟨_, by rfl, hF⟩
 ·
  refine w_exit ?_
  refine thenQ_e ?_
  refine thenQ_e ?_
  refine blockQ_e ?_
  refine thenQ_n ?_
  refine ws 65 193 ?_
  refine qp (AI 0) rfl (qp (AI 0) rfl ?_)
  refine r_nil ?_
  refine w_ret ?_
  cases hF
  exact eR

def c73 : MC := (.seq (.reg [rg 2 (.f (.box (.t 0))), rg 3 (.f (.box (.t 1))), rg 4 (.p true (.mv (.c (.int .i64 0))))]) (.seq (.reg [rg 5 (.p false (.fad (.t 2) 0)), rg 6 (.p false (.ld (.t 5) 1 false)), rg 7 (.p false (.fad (.t 3) 0)), rg 8 (.p false (.ld (.t 7) 1 false)), rg 9 (.call false 86 [(.t 6), (.t 8)]), rg 10 (.p false (.fad (.t 2) 1)), rg 11 (.p false (.ld (.t 10) 1 false)), rg 12 (.p false (.fad (.t 3) 1)), rg 13 (.p false (.ld (.t 12) 1 false)), rg 14 (.call false 86 [(.t 11), (.t 13)]), rg 15 (.f (.bsl 1 [(.t 9), (.t 14)])), rg 16 (.call false 117 [(.t 15)]), rg 4 (.p false (.mv (.t 16)))]) .ret))
theorem c73_is : compFn Try.prog 73 = some (c73, [(.tmp 4)]) := by kernel_rfl
theorem c73_ok : okFn Try.prog 73 = true := by kernel_rfl

noncomputable def F_impl_compareBlocks (v0 : TBlock) (v1 : TBlock) : Option (Int) :=
 ((F_cmp_Compare_string v0.1 v1.1).bind fun v1000 => ((F_cmp_Compare_string v0.2.1 v1.2.1).bind fun v1001 => ((F_cmp_Or_int [v1000, v1001]).bind fun v1002 => some v1002)))
@[simp] def res_impl_compareBlocks (r : Int) : RV := .one (.one (.val (.int .i64 r)))
theorem con_impl_compareBlocks {v0 : TBlock} {v1 : TBlock} {r : Int} (hF : F_impl_compareBlocks v0 v1 = some r) : Con Try.prog 73 [eBlock v0, eBlock v1] (res_impl_compareBlocks r) := by
 unfold F_impl_compareBlocks at hF
 refine con_of c73_is fun N => ?_
 refine ws 0 192 ?_
 refine qf (.ptr 0 0 0) [(0, .box [AS v0.1, AS v0.2.1, AS v0.2.2])] (by simp) ?_
 refine qf (.ptr 64 0 0) [(64, .box [AS v1.1, AS v1.2.1, AS v1.2.2]), (0, .box [AS v0.1, AS v0.2.1, AS v0.2.2])] (by simp) ?_
 refine qp (AI 0) rfl ?_
 refine r_nil ?_
 refine ws 192 1024 ?_
 refine qp (.ptr 0 0 0) rfl (qp (AS v0.1) rfl (qp (.ptr 64 0 0) rfl (qp (AS v1.1) rfl ?_)))
 obtain ⟨v1000, e1000, hF⟩ := bind_get hF
 refine qc (AI v1000) [(64, .box [AS v1.1, AS v1.2.1, AS v1.2.2]), (0, .box [AS v0.1, AS v0.2.1, AS v0.2.2])] false (con_cmp_Compare_string e1000) c86_ok (by first | rfl | simp) rfl ?_
 refine qp (.ptr 0 0 1) rfl (qp (AS v0.2.1) rfl (qp (.ptr 64 0 1) rfl (qp (AS v1.2.1) rfl ?_)))
 obtain ⟨v1001, e1001, hF⟩ := bind_get hF
 refine qc (AI v1001) [(64, .box [AS v1.1, AS v1.2.1, AS v1.2.2]), (0, .box [AS v0.1, AS v0.2.1, AS v0.2.2])] false (con_cmp_Compare_string e1001) c86_ok (by first | rfl | simp) rfl ?_
 refine qf (.sl 832 0 ([v1000, v1001].length)) [(832, .row true 1 ([v1000, v1001].map (V.int .i64))), (64, .box [AS v1.1, AS v1.2.1, AS v1.2.2]), (0, .box [AS v0.1, AS v0.2.1, AS v0.2.2])] (by simp [List.take_of_length_le]) ?_
 obtain ⟨v1002, e1002, hF⟩ := bind_get hF
 refine qc (AI v1002) [(832, .row true 1 ([v1000, v1001].map (V.int .i64))), (64, .box [AS v1.1, AS v1.2.1, AS v1.2.2]), (0, .box [AS v0.1, AS v0.2.1, AS v0.2.2])] true (con_cmp_Or_int e1002) c117_ok (by simp [List.take_of_length_le]) rfl ?_
 refine qp (AI v1002) rfl ?_
 refine r_nil ?_
 refine w_ret ?_
 cases hF
 exact eR

def c71 : MC := (.seq (.reg [rg 2 (.p true (.mv (.c (.bool false))))]) (.seq (.seq (.reg [rg 5 (.p true (.mv (.t 0))), rg 6 (.p true (.len (.t 5))), rg 7 (.p true (.bin .gtr (.t 6) (.c (.int .i64 32))))]) (.cond (.t 7) (.seq (.reg [rg 2 (.p true (.mv (.c (.bool false))))]) .ret) .skip)) (.seq (.seq (.reg [rg 8 (.p true (.mv (.t 0))), rg 9 (.p true (.len (.t 8))), rg 10 (.p true (.mv (.c (.int .i64 0))))]) (.block 0 (.loop (.seq (.reg [rg 11 (.p true (.bin .lss (.t 10) (.t 9)))]) (.seq (.cond (.t 11) .skip (.exit 0)) (.seq (.block 1 (.seq (.reg [rg 12 (.p true (.mv (.t 10))), rg 13 (.p true (.iad (.t 8) (.t 10) 3)), rg 14 (.p true (.ld (.t 13) 3 true)), rg 4 (.f (.alloc [((.str []), (0, false)), ((.str []), (0, false)), ((.str []), (0, false))])), rg 3 (.p true (.mv (.t 12))), ⟨none, none, (.f (.st (.t 4) (.t 14) 3))⟩]) (.seq (.reg [rg 15 (.p false (.ld (.t 4) 3 true)), rg 16 (.call false 92 [(.t 15)]), rg 17 (.p false (.not (.t 16))), rg 18 (.p false (.mv (.t 17))), ⟨(some 19), (some (18, false)), (.p false (.mv (.t 3)))⟩, ⟨(some 20), (some (18, false)), (.p false (.bin .gtr (.t 19) (.c (.int .i64 0))))⟩, ⟨(some 21), (some (18, false)), (.p false (.mv (.t 20)))⟩, ⟨(some 22), (some (21, true)), (.p false (.mv (.t 0)))⟩, ⟨(some 23), (some (21, true)), (.p false (.mv (.t 3)))⟩, ⟨(some 24), (some (21, true)), (.p false (.bin .sub (.t 23) (.c (.int .i64 1))))⟩, ⟨(some 25), (some (21, true)), (.p false (.iad (.t 22) (.t 24) 3))⟩, ⟨(some 26), (some (21, true)), (.p false (.ld (.t 25) 3 true))⟩, ⟨(some 27), (some (21, true)), (.p false (.ld (.t 4) 3 true))⟩, ⟨(some 28), (some (21, true)), (.call false 73 [(.t 26), (.t 27)])⟩, ⟨(some 29), (some (21, true)), (.p false (.bin .geq (.t 28) (.c (.int .i64 0))))⟩, ⟨(some 30), (some (18, false)), (.p false (.pick (.t 21) (.t 29) (.c (.bool false))))⟩, rg 31 (.p false (.pick (.t 18) (.c (.bool true)) (.t 30)))]) (.cond (.t 31) (.seq (.reg [rg 2 (.p true (.mv (.c (.bool false))))]) .ret) .skip)))) (.reg [rg 32 (.p true (.bin .add (.t 10) (.c (.int .i64 1)))), rg 10 (.p true (.mv (.t 32)))]))))))) (.seq (.reg [rg 2 (.p true (.mv (.c (.bool true))))]) .ret))))
theorem c71_is : compFn Try.prog 71 = some (c71, [(.tmp 2)]) := by kernel_rfl
theorem c71_ok : okFn Try.prog 71 = true := by kernel_rfl

noncomputable def F_impl_ValidBlocks_l0 (v0 : List TBlock) (k0 : Int → Option (Bool)) : Int → Option (Bool)
 | v10 => (bif (decide (v10 < (v0.length : Int))) then ((ix v0 v10).bind fun v1000 => ((F_impl_ValidBlock v1000).bind fun v1001 => (bif (!v1001) then some false
 else (bif (decide ((0 : Int) < v10)) then ((ix v0 (w64 (v10 - 1))).bind fun v1002 => ((F_impl_compareBlocks v1002 v1000).bind fun v1003 => (bif (decide ((0 : Int) ≤ v1003)) then some false
 else k0 (w64 (v10 + 1)))))
 else k0 (w64 (v10 + 1))))))
 else some true)
noncomputable def F_impl_ValidBlocks (v0 : List TBlock) : Option (Bool) :=
 (bif (decide ((32 : Int) < (v0.length : Int))) then some false
 else loop (F_impl_ValidBlocks_l0 v0) 0)
@[simp] def res_impl_ValidBlocks (r : Bool) : RV := .one (.one (.val (.bool r)))
theorem con_impl_ValidBlocks {v0 : List TBlock} {r : Bool} (hF : F_impl_ValidBlocks v0 = some r) : Con Try.prog 71 [.sl 3 (v0.map eBlock)] (res_impl_ValidBlocks r) := by
 unfold F_impl_ValidBlocks at hF
 refine con_of c71_is fun N => ?_
 refine ws 0 64 ?_
 refine qp (AB false) rfl ?_
 refine r_nil ?_
 refine w_seq ?_
 refine ws 64 256 ?_
 refine qp (AL 3 (v0.map eBlock)) rfl (qp (AI (v0.length : Int)) (ev_len_n rfl) (qp (AB (decide ((32 : Int) < (v0.length : Int)))) rfl ?_))
 refine r_nil ?_
 refine cF hF (fun hF => ?_) fun hF => ?_
 ·
  refine ws 256 320 ?_
  refine qp (AB false) rfl ?_
  refine r_nil ?_
  refine w_ret ?_
  refine thenQ_r ?_
  cases hF
  exact eR
 ·
  refine w_skip ?_
  refine thenQ_n ?_
  refine w_seq ?_
  refine ws 256 448 ?_
  refine qp (AL 3 (v0.map eBlock)) rfl (qp (AI (v0.length : Int)) (ev_len_n rfl) (qp (AI 0) rfl ?_))
  refine r_nil ?_
  refine w_block ?_
  refine wr (l' := [(0, AL 3 (v0.map eBlock)), (8, AL 3 (v0.map eBlock)), (9, AI (v0.length : Int)), (10, AI 0)]) (L := []) [0, 8, 9, 10] [] 1 ?_
  refine w_loopF (F_impl_ValidBlocks_l0 v0) (fun s : Int => mkS [(0, AL 3 (v0.map eBlock)), (8, AL 3 (v0.map eBlock)), (9, AI (v0.length : Int)), (10, AI s)] (fo []) 1) hF ?_
  rintro k0 v10 hF
  rw [F_impl_ValidBlocks_l0] at hF
  try dsimp only
  refine ws 1 65 ?_
  refine qp (AB (decide (v10 < (v0.length : Int)))) rfl ?_
  refine r_nil ?_
  refine w_seq ?_
  refine cF hF (fun hF => ?_) fun hF => ?_
  ·
   refine w_skip ?_
   refine thenQ_n ?_
   refine w_seq ?_
   refine w_block ?_
   refine ws 65 449 ?_
   refine qp (AI v10) rfl ?_
   obtain ⟨v1000, e1000, hF⟩ := bind_get hF
   refine qp (.val none (.ptr [.str v1000.1, .str v1000.2.1, .str v1000.2.2])) (ev_iad_n rfl rfl e1000 rfl) (qp (.val none (eBlock v1000)) rfl ?_)
   refine qf (.ptr 257 0 0) [(257, .box [AS [], AS [], AS []])] (by simp) ?_
   refine qp (AI v10) rfl ?_
   refine qf0 (.undef) [(257, .box [AS v1000.1, AS v1000.2.1, AS v1000.2.2]), (257, .box [AS [], AS [], AS []])] (by simp) ?_
   refine r_nil ?_
   refine ws 449 1537 ?_
   refine qp (.agg [AS v1000.1, AS v1000.2.1, AS v1000.2.2]) rfl ?_
   obtain ⟨v1001, e1001, hF⟩ := bind_get hF
   refine qc (AB v1001) [(257, .box [AS v1000.1, AS v1000.2.1, AS v1000.2.2]), (257, .box [AS [], AS [], AS []])] false (con_impl_ValidBlock e1001) c92_ok (by first | rfl | simp) rfl ?_
   refine qp (AB (!v1001)) rfl (qp (AB (!v1001)) rfl ?_)
   refine q_case 18 hF rfl (fun hF => ?_) (fun hF => ?_)
   ·
    refine qn rfl (qn rfl (qn rfl (qu rfl (qu rfl (qu rfl (qu rfl (qu rfl ?_)))))))
    refine qu rfl (qu rfl (qu rfl (qn rfl (qp (AB true) rfl ?_))))
    refine r_nil ?_
    refine w_true rfl ?_
    refine ws 1537 1601 ?_
    refine qp (AB false) rfl ?_
    refine r_nil ?_
    refine w_ret ?_
    refine blockQ_r ?_
    refine thenQ_r ?_
    refine thenQ_r ?_
    refine blockQ_r ?_
    refine thenQ_r ?_
    cases hF
    exact eR
   ·
    refine qg (AI v10) rfl rfl (qg (AB (decide ((0 : Int) < v10))) rfl rfl (qg (AB (decide ((0 : Int) < v10))) rfl rfl ?_))
    refine q_case 21 hF rfl (fun hF => ?_) (fun hF => ?_)
    ·
     refine qg (AL 3 (v0.map eBlock)) rfl rfl (qg (AI v10) rfl rfl (qg (AI (w64 (v10 - 1))) rfl rfl ?_))
     obtain ⟨v1002, e1002, hF⟩ := bind_get hF
     refine qg (.val none (.ptr [.str v1002.1, .str v1002.2.1, .str v1002.2.2])) rfl (ev_iad_n rfl rfl e1002 rfl) (qg (.val none (eBlock v1002)) rfl rfl (qg (.agg [AS v1000.1, AS v1000.2.1, AS v1000.2.2]) rfl rfl ?_))
     obtain ⟨v1003, e1003, hF⟩ := bind_get hF
     refine qcg (AI v1003) [(257, .box [AS v1000.1, AS v1000.2.1, AS v1000.2.2]), (257, .box [AS [], AS [], AS []])] false rfl (con_impl_compareBlocks e1003) c73_ok (by first | rfl | simp) rfl ?_
     refine qg (AB (decide ((0 : Int) ≤ v1003))) rfl rfl (qg (AB (decide ((0 : Int) ≤ v1003))) rfl rfl (qp (AB (decide ((0 : Int) ≤ v1003))) rfl ?_))
     refine r_nil ?_
     refine cF hF (fun hF => ?_) fun hF => ?_
     ·
      refine ws 1537 1601 ?_
      refine qp (AB false) rfl ?_
      refine r_nil ?_
      refine w_ret ?_
      refine blockQ_r ?_
      refine thenQ_r ?_
      refine thenQ_r ?_
      refine blockQ_r ?_
      refine thenQ_r ?_
      cases hF
      exact eR
     ·
      refine w_skip ?_
      refine blockQ_n ?_
      refine thenQ_n ?_
      refine w_reg 1537 1665 rfl rfl ?_
      refine qp (AI (w64 (v10 + 1))) rfl (qp (AI (w64 (v10 + 1))) rfl ?_)
      refine r_nil ?_
      refine thenQ_n ?_
      refine ar (l' := [(0, AL 3 (v0.map eBlock)), (8, AL 3 (v0.map eBlock)), (9, AI (v0.length : Int)), (10, AI (w64 (v10 + 1)))]) (L := []) [0, 8, 9, 10] [] 1 ⟨_, by rfl, hF⟩
    ·
     refine qn rfl (qn rfl (qn rfl (qn rfl (qn rfl (qn rfl (qn rfl (qn rfl ?_)))))))
     refine qg (AB false) rfl rfl (qp (AB false) rfl ?_)
     refine r_nil ?_
     refine w_false rfl ?_
     refine w_skip ?_
     refine blockQ_n ?_
     refine thenQ_n ?_
     refine w_reg 1537 1665 rfl rfl ?_
     refine qp (AI (w64 (v10 + 1))) rfl (qp (AI (w64 (v10 + 1))) rfl ?_)
     refine r_nil ?_
     refine thenQ_n ?_
     refine ar (l' := [(0, AL 3 (v0.map eBlock)), (8, AL 3 (v0.map eBlock)), (9, AI (v0.length : Int)), (10, AI (w64 (v10 + 1)))]) (L := []) [0, 8, 9, 10] [] 1 ⟨_, by rfl, hF⟩
  ·
   refine w_exit ?_
   refine thenQ_e ?_
   refine thenQ_e ?_
   refine blockQ_e ?_
   refine thenQ_n ?_
   refine ws 65 129 ?_
   refine qp (AB true) rfl ?_
   refine r_nil ?_
   refine w_ret ?_
   cases hF
   exact eR

def c75 : MC := (.seq (.reg [rg 2 (.f (.nilrow 3))]) (.seq (.seq (.reg [rg 3 (.p true (.mv (.t 0))), rg 4 (.p true (.isn false (.t 3)))]) (.cond (.t 4) (.seq (.reg [rg 2 (.f (.nilrow 3))]) .ret) .skip)) (.seq (.reg [rg 5 (.f (.bsl 3 [])), rg 6 (.p true (.mv (.t 0))), rg 7 (.f (.app (.t 5) (.t 6) 3 48 false)), rg 2 (.p true (.mv (.t 7)))]) .ret)))
theorem c75_is : compFn Try.prog 75 = some (c75, [(.tmp 2)]) := by kernel_rfl
theorem c75_ok : okFn Try.prog 75 = true := by kernel_rfl

noncomputable def F_slices_Clone_SBlock_Block_j0 (v0 : List TBlock) : Option (List TBlock) :=
 (need (room (v0.length) 48) (some v0))
noncomputable def F_slices_Clone_SBlock_Block (v0 : List TBlock) : Option (List TBlock) :=
 (bif (decide (v0.length = 0)) then (both (some []) (F_slices_Clone_SBlock_Block_j0 v0))
 else F_slices_Clone_SBlock_Block_j0 v0)
@[simp] def res_slices_Clone_SBlock_Block (r : List TBlock) : RV := .one (.one (.row true 3 (r.map eBlock)))
theorem con_slices_Clone_SBlock_Block {v0 : List TBlock} {r : List TBlock} (hF : F_slices_Clone_SBlock_Block v0 = some r) : Con Try.prog 75 [.sl 3 (v0.map eBlock)] (res_slices_Clone_SBlock_Block r) := by
 unfold F_slices_Clone_SBlock_Block at hF
 refine con_of c75_is fun N => ?_
 refine ws 0 64 ?_
 refine qf (.sl 0 0 0) [(0, .row true 3 (([] : List Int).map (V.int .i64)))] (by simp) ?_
 refine r_nil ?_
 refine w_meet (fun s' => s' = mkS [(0, AL 3 (v0.map eBlock))] (fo []) 1 ∧ F_slices_Clone_SBlock_Block_j0 v0 = some r) ?_ ?_
 ·
  refine ws 64 192 ?_
  refine qp (AL 3 (v0.map eBlock)) rfl ?_
  refine b_case hF (fun z1000 hF => ?_) (fun z1000 hF => ?_)
  ·
   refine qp .ub (isn_e (by simpa using z1000)) ?_
   refine r_nil ?_
   refine w_condUF hF rfl (fun hF => ?_) (fun hF => ?_)
   ·
    refine ws 192 256 ?_
    refine qf (.sl 192 0 0) [(192, .row true 3 (([] : List TBlock).map eBlock)), (0, .row true 3 (([] : List Int).map (V.int .i64)))] (by simp) ?_
    refine r_nil ?_
    refine w_ret ?_
    refine thenQ_r ?_
    cases hF
    exact eR
   ·
    refine w_skip ?_
    refine thenQ_n ?_
    refine aw_ren (l' := [(0, AL 3 (v0.map eBlock))]) (L := []) [0] [] 1 (by first | rfl | simp) (by first | rfl | simp) (by decide) (by decide) (by decide) ⟨rfl, hF⟩
  ·
   refine qp (AB false) (isn_n (by simpa using z1000)) ?_
   refine r_nil ?_
   refine w_false rfl ?_
   refine w_skip ?_
   refine thenQ_n ?_
   refine aw_ren (l' := [(0, AL 3 (v0.map eBlock))]) (L := []) [0] [] 1 (by first | rfl | simp) (by first | rfl | simp) (by decide) (by decide) (by decide) ⟨rfl, hF⟩
 ·
  rintro s' ⟨rfl, hF⟩
  unfold F_slices_Clone_SBlock_Block_j0 at hF
  refine ws 1 257 ?_
  refine qf (.sl 1 0 0) [(1, .row true 3 (([] : List TBlock).map eBlock))] (by simp [List.take_of_length_le]) ?_
  refine qp (AL 3 (v0.map eBlock)) rfl ?_
  obtain ⟨g1001, hF⟩ := need_some hF
  refine qf (.sl 129 0 v0.length) [(129, .row true 3 (v0.map eBlock)), (1, .dead), (1, .row true 3 (([] : List TBlock).map eBlock))] (effT_app_v0 rfl (by simp) rfl rfl (fun _ => rfl) g1001) ?_
  refine qp (.sl 129 0 v0.length) rfl ?_
  refine r_nil ?_
  refine w_ret ?_
  cases hF
  exact eR

def c72 : MC := (.seq (.reg [rg 4 (.f (.box (.t 1))), rg 6 (.p true (.mv (.c (.int .i64 0)))), rg 7 (.p true (.mv (.c (.bool false))))]) (.seq (.reg [rg 12 (.p true (.mv (.t 0))), rg 13 (.p true (.len (.t 12))), rg 8 (.p true (.mv (.t 13)))]) (.seq (.reg [rg 14 (.p true (.mv (.t 8))), rg 9 (.p true (.mv (.c (.int .i64 0)))), rg 10 (.p true (.mv (.t 14)))]) (.seq (.block 0 (.loop (.seq (.seq (.reg [rg 15 (.p true (.mv (.t 9))), rg 16 (.p true (.mv (.t 10))), rg 17 (.p true (.bin .lss (.t 15) (.t 16)))]) (.cond (.t 17) .skip (.exit 0))) (.block 1 (.seq (.reg [rg 18 (.p true (.mv (.t 9))), rg 19 (.p true (.mv (.t 10))), rg 20 (.p true (.bin .add (.t 18) (.t 19))), rg 21 (.p true (.conv .u64 (.t 20))), rg 22 (.p true (.bin .shr (.t 21) (.c (.int .u64 1)))), rg 23 (.p true (.conv .i64 (.t 22))), rg 11 (.p true (.mv (.t 23)))]) (.seq (.reg [rg 24 (.p false (.mv (.t 2))), rg 25 (.p false (.mv (.t 0))), rg 26 (.p false (.mv (.t 11))), rg 27 (.p false (.iad (.t 25) (.t 26) 3)), rg 28 (.p false (.ld (.t 27) 3 true)), rg 29 (.p false (.ld (.t 4) 3 true)), rg 30 (.callv (.t 24) [(.t 28), (.t 29)]), rg 31 (.p false (.bin .lss (.t 30) (.c (.int .i64 0))))]) (.cond (.t 31) (.reg [rg 32 (.p true (.mv (.t 11))), rg 33 (.p true (.bin .add (.t 32) (.c (.int .i64 1)))), rg 9 (.p true (.mv (.t 33)))]) (.reg [rg 34 (.p true (.mv (.t 11))), rg 10 (.p true (.mv (.t 34)))])))))))) (.seq (.reg [rg 35 (.p false (.mv (.t 9))), rg 36 (.p false (.mv (.t 9))), rg 37 (.p false (.mv (.t 8))), rg 38 (.p false (.bin .lss (.t 36) (.t 37))), rg 39 (.p false (.mv (.t 38))), ⟨(some 40), (some (39, true)), (.p false (.mv (.t 2)))⟩, ⟨(some 41), (some (39, true)), (.p false (.mv (.t 0)))⟩, ⟨(some 42), (some (39, true)), (.p false (.mv (.t 9)))⟩, ⟨(some 43), (some (39, true)), (.p false (.iad (.t 41) (.t 42) 3))⟩, ⟨(some 44), (some (39, true)), (.p false (.ld (.t 43) 3 true))⟩, ⟨(some 45), (some (39, true)), (.p false (.ld (.t 4) 3 true))⟩, ⟨(some 46), (some (39, true)), (.callv (.t 40) [(.t 44), (.t 45)])⟩, ⟨(some 47), (some (39, true)), (.p false (.bin .eql (.t 46) (.c (.int .i64 0))))⟩, rg 48 (.p false (.pick (.t 39) (.t 47) (.c (.bool false)))), rg 6 (.p false (.mv (.t 35))), rg 7 (.p false (.mv (.t 48)))]) .ret)))))
theorem c72_is : compFn Try.prog 72 = some (c72, [(.tmp 6), (.tmp 7)]) := by kernel_rfl
theorem c72_ok : okFn Try.prog 72 = true := by kernel_rfl

noncomputable def F_slices_BinarySearchFunc_SBlock_Block_l0 (v0 : List TBlock) (v1 : TBlock) (k0 : Int × Int → Option (Int × Bool)) : Int × Int → Option (Int × Bool)
 | (v10, v11) => (bif (decide (v10 < v11)) then (need (0 ≤ (1 : Int)) (((ix v0 (w64 (Int.fdiv (IntKind.wrap .u64 (w64 (v10 + v11))) (2 ^ (min ((1 : Int)).toNat (IntKind.bits .u64)))))).bind fun v1001 => ((F_impl_compareBlocks v1001 v1).bind fun v1002 => (bif (decide (v1002 < (0 : Int))) then k0 (w64 ((w64 (Int.fdiv (IntKind.wrap .u64 (w64 (v10 + v11))) (2 ^ (min ((1 : Int)).toNat (IntKind.bits .u64))))) + 1), v11)
 else k0 (v10, w64 (Int.fdiv (IntKind.wrap .u64 (w64 (v10 + v11))) (2 ^ (min ((1 : Int)).toNat (IntKind.bits .u64))))))))))
 else (bif (decide (v10 < (v0.length : Int))) then ((ix v0 v10).bind fun v1003 => ((F_impl_compareBlocks v1003 v1).bind fun v1004 => some (v10, (decide (v1004 = (0 : Int))))))
 else some (v10, false)))
noncomputable def F_slices_BinarySearchFunc_SBlock_Block (v0 : List TBlock) (v1 : TBlock) : Option (Int × Bool) :=
 loop (F_slices_BinarySearchFunc_SBlock_Block_l0 v0 v1) (0, (v0.length : Int))
@[simp] def res_slices_BinarySearchFunc_SBlock_Block (r : Int × Bool) : RV := .tup [.one (.val (.int .i64 r.1)), .one (.val (.bool r.2))]
theorem con_slices_BinarySearchFunc_SBlock_Block {v0 : List TBlock} {v1 : TBlock} {r : Int × Bool} (hF : F_slices_BinarySearchFunc_SBlock_Block v0 v1 = some r) : Con Try.prog 72 [.sl 3 (v0.map eBlock), eBlock v1, .fn 73 []] (res_slices_BinarySearchFunc_SBlock_Block r) := by
 unfold F_slices_BinarySearchFunc_SBlock_Block at hF
 refine con_of c72_is fun N => ?_
 refine ws 0 192 ?_
 refine qf (.ptr 0 0 0) [(0, .box [AS v1.1, AS v1.2.1, AS v1.2.2])] (by simp) ?_
 refine qp (AI 0) rfl (qp (AB false) rfl ?_)
 refine r_nil ?_
 refine ws 192 384 ?_
 refine qp (AL 3 (v0.map eBlock)) rfl (qp (AI (v0.length : Int)) (ev_len_n rfl) (qp (AI (v0.length : Int)) rfl ?_))
 refine r_nil ?_
 refine ws 384 576 ?_
 refine qp (AI (v0.length : Int)) rfl (qp (AI 0) rfl (qp (AI (v0.length : Int)) rfl ?_))
 refine r_nil ?_
 refine w_seq ?_
 refine w_block ?_
 refine wr (l' := [(0, AL 3 (v0.map eBlock)), (2, .val none (.fn 73 [])), (4, .ptr 0 0 0), (8, AI (v0.length : Int)), (9, AI 0), (10, AI (v0.length : Int))]) (L := [(0, .box [AS v1.1, AS v1.2.1, AS v1.2.2])]) [0, 2, 4, 8, 9, 10] [(0, 0)] 1 ?_
 refine w_loopF (F_slices_BinarySearchFunc_SBlock_Block_l0 v0 v1) (fun s : Int × Int => mkS [(0, AL 3 (v0.map eBlock)), (2, .val none (.fn 73 [])), (4, .ptr 0 0 0), (8, AI (v0.length : Int)), (9, AI s.1), (10, AI s.2)] (fo [(0, .box [AS v1.1, AS v1.2.1, AS v1.2.2])]) 1) hF ?_
 rintro k0 ⟨v10, v11⟩ hF
 rw [F_slices_BinarySearchFunc_SBlock_Block_l0] at hF
 try dsimp only
 refine w_seq ?_
 refine ws 1 193 ?_
 refine qp (AI v10) rfl (qp (AI v11) rfl (qp (AB (decide (v10 < v11))) rfl ?_))
 refine r_nil ?_
 refine cF hF (fun hF => ?_) fun hF => ?_
 ·
  refine w_skip ?_
  refine thenQ_n ?_
  refine w_block ?_
  refine ws 193 641 ?_
  refine qp (AI v10) rfl (qp (AI v11) rfl (qp (AI (w64 (v10 + v11))) rfl (qp (.val none (.int .u64 (IntKind.wrap .u64 (w64 (v10 + v11))))) rfl ?_)))
  obtain ⟨g1000, hF⟩ := need_some hF
  refine qp (.val none (.int .u64 (Int.fdiv (IntKind.wrap .u64 (w64 (v10 + v11))) (2 ^ (min ((1 : Int)).toNat (IntKind.bits .u64)))))) (ev_shr rfl rfl g1000) (qp (AI (w64 (Int.fdiv (IntKind.wrap .u64 (w64 (v10 + v11))) (2 ^ (min ((1 : Int)).toNat (IntKind.bits .u64)))))) rfl (qp (AI (w64 (Int.fdiv (IntKind.wrap .u64 (w64 (v10 + v11))) (2 ^ (min ((1 : Int)).toNat (IntKind.bits .u64)))))) rfl ?_))
  refine r_nil ?_
  refine ws 641 1153 ?_
  refine qp (.val none (.fn 73 [])) rfl (qp (AL 3 (v0.map eBlock)) rfl (qp (AI (w64 (Int.fdiv (IntKind.wrap .u64 (w64 (v10 + v11))) (2 ^ (min ((1 : Int)).toNat (IntKind.bits .u64)))))) rfl ?_))
  obtain ⟨v1001, e1001, hF⟩ := bind_get hF
  refine qp (.val none (.ptr [.str v1001.1, .str v1001.2.1, .str v1001.2.2])) (ev_iad_n rfl rfl e1001 rfl) (qp (.val none (eBlock v1001)) rfl (qp (.agg [AS v1.1, AS v1.2.1, AS v1.2.2]) rfl ?_))
  obtain ⟨v1002, e1002, hF⟩ := bind_get hF
  refine qcv (AI v1002) [(0, .box [AS v1.1, AS v1.2.1, AS v1.2.2])] false rfl (con_impl_compareBlocks e1002) c73_ok (by first | rfl | simp) rfl ?_
  refine qp (AB (decide (v1002 < (0 : Int)))) rfl ?_
  refine r_nil ?_
  refine cF hF (fun hF => ?_) fun hF => ?_
  ·
   refine w_reg 1153 1345 rfl rfl ?_
   refine qp (AI (w64 (Int.fdiv (IntKind.wrap .u64 (w64 (v10 + v11))) (2 ^ (min ((1 : Int)).toNat (IntKind.bits .u64)))))) rfl (qp (AI (w64 ((w64 (Int.fdiv (IntKind.wrap .u64 (w64 (v10 + v11))) (2 ^ (min ((1 : Int)).toNat (IntKind.bits .u64))))) + 1))) rfl (qp (AI (w64 ((w64 (Int.fdiv (IntKind.wrap .u64 (w64 (v10 + v11))) (2 ^ (min ((1 : Int)).toNat (IntKind.bits .u64))))) + 1))) rfl ?_))
   refine r_nil ?_
   refine blockQ_n ?_
   refine thenQ_n ?_
   refine ar (l' := [(0, AL 3 (v0.map eBlock)), (2, .val none (.fn 73 [])), (4, .ptr 0 0 0), (8, AI (v0.length : Int)), (9, AI (w64 ((w64 (Int.fdiv (IntKind.wrap .u64 (w64 (v10 + v11))) (2 ^ (min ((1 : Int)).toNat (IntKind.bits .u64))))) + 1))), (10, AI v11)]) (L := [(0, .box [AS v1.1, AS v1.2.1, AS v1.2.2])]) [0, 2, 4, 8, 9, 10] [(0, 0)] 1 ⟨_, by rfl, hF⟩
  ·
   refine w_reg 1153 1281 rfl rfl ?_
   refine qp (AI (w64 (Int.fdiv (IntKind.wrap .u64 (w64 (v10 + v11))) (2 ^ (min ((1 : Int)).toNat (IntKind.bits .u64)))))) rfl (qp (AI (w64 (Int.fdiv (IntKind.wrap .u64 (w64 (v10 + v11))) (2 ^ (min ((1 : Int)).toNat (IntKind.bits .u64)))))) rfl ?_)
   refine r_nil ?_
   refine blockQ_n ?_
   refine thenQ_n ?_
   refine ar (l' := [(0, AL 3 (v0.map eBlock)), (2, .val none (.fn 73 [])), (4, .ptr 0 0 0), (8, AI (v0.length : Int)), (9, AI v10), (10, AI (w64 (Int.fdiv (IntKind.wrap .u64 (w64 (v10 + v11))) (2 ^ (min ((1 : Int)).toNat (IntKind.bits .u64))))))]) (L := [(0, .box [AS v1.1, AS v1.2.1, AS v1.2.2])]) [0, 2, 4, 8, 9, 10] [(0, 0)] 1 ⟨_, by rfl, hF⟩
 ·
  refine w_exit ?_
  refine thenQ_e ?_
  refine thenQ_e ?_
  refine blockQ_e ?_
  refine thenQ_n ?_
  refine ws 193 1217 ?_
  refine qp (AI v10) rfl (qp (AI v10) rfl (qp (AI (v0.length : Int)) rfl (qp (AB (decide (v10 < (v0.length : Int)))) rfl (qp (AB (decide (v10 < (v0.length : Int)))) rfl ?_))))
  refine q_case 39 hF rfl (fun hF => ?_) (fun hF => ?_)
  ·
   refine qg (.val none (.fn 73 [])) rfl rfl (qg (AL 3 (v0.map eBlock)) rfl rfl (qg (AI v10) rfl rfl ?_))
   obtain ⟨v1003, e1003, hF⟩ := bind_get hF
   refine qg (.val none (.ptr [.str v1003.1, .str v1003.2.1, .str v1003.2.2])) rfl (ev_iad_n rfl rfl e1003 rfl) (qg (.val none (eBlock v1003)) rfl rfl (qg (.agg [AS v1.1, AS v1.2.1, AS v1.2.2]) rfl rfl ?_))
   obtain ⟨v1004, e1004, hF⟩ := bind_get hF
   refine qcvg (AI v1004) [(0, .box [AS v1.1, AS v1.2.1, AS v1.2.2])] false rfl rfl (con_impl_compareBlocks e1004) c73_ok (by first | rfl | simp) rfl ?_
   refine qg (AB (decide (v1004 = (0 : Int)))) rfl rfl (qp (AB (decide (v1004 = (0 : Int)))) rfl (qp (AI v10) rfl (qp (AB (decide (v1004 = (0 : Int)))) rfl ?_)))
   refine r_nil ?_
   refine w_ret ?_
   cases hF
   exact eR
  ·
   refine qn rfl (qn rfl (qn rfl (qn rfl (qn rfl (qn rfl (qn rfl (qn rfl ?_)))))))
   refine qp (AB false) rfl (qp (AI v10) rfl (qp (AB false) rfl ?_))
   refine r_nil ?_
   refine w_ret ?_
   cases hF
   exact eR

theorem c130_ok : okFn Try.prog 130 = true := by kernel_rfl




def c93 : MC := (.seq (.reg [rg 3 (.f (.box (.t 1))), rg 4 (.f (.nilrow 3))]) (.seq (.reg [rg 9 (.p true (.mv (.t 0))), rg 10 (.p true (.ld (.t 3) 3 true)), rg 11 (.call true 72 [(.t 9), (.t 10), (.f 73)]), rg 8 (.p true (.mv (.t 11))), rg 12 (.p true (.ext (.t 8) 0)), rg 13 (.p true (.ext (.t 8) 1)), rg 5 (.p true (.mv (.t 12))), rg 6 (.p true (.mv (.t 13)))]) (.seq (.reg [rg 14 (.p true (.mv (.t 0))), rg 15 (.call true 75 [(.t 14)]), rg 7 (.p true (.mv (.t 15)))]) (.seq (.seq (.reg [rg 16 (.p true (.mv (.t 6)))]) (.cond (.t 16) (.seq (.reg [rg 17 (.p true (.mv (.t 7))), rg 18 (.p true (.mv (.t 5))), rg 19 (.p true (.ld (.t 3) 3 true)), rg 20 (.p true (.iad (.t 17) (.t 18) 3)), ⟨none, none, (.f (.st (.t 20) (.t 19) 3))⟩]) (.seq (.reg [rg 21 (.p true (.mv (.t 7))), rg 4 (.p true (.mv (.t 21)))]) .ret)) .skip)) (.seq (.reg [rg 22 (.p true (.mv (.t 7))), rg 23 (.p true (.mv (.t 5))), rg 24 (.p true (.ld (.t 3) 3 true)), rg 25 (.f (.bsl 3 [(.t 24)])), rg 26 (.call true 130 [(.t 22), (.t 23), (.t 25)]), rg 4 (.p true (.mv (.t 26)))]) .ret)))))
theorem c93_is : compFn Try.prog 93 = some (c93, [(.tmp 4)]) := by kernel_rfl
theorem c93_ok : okFn Try.prog 93 = true := by kernel_rfl

noncomputable def F_impl_withBlock (v0 : List TBlock) (v1 : TBlock) : Option (List TBlock) :=
 ((F_slices_BinarySearchFunc_SBlock_Block v0 v1).bind fun v1000 => ((F_slices_Clone_SBlock_Block v0).bind fun v1001 => (bif v1000.2 then ((ix v1001 v1000.1).bind fun v1002 => some (List.set v1001 v1000.1.toNat v1))
 else ((F_ins 48 v1001 v1000.1 [v1]).bind fun v1003 => some v1003))))
@[simp] def res_impl_withBlock (r : List TBlock) : RV := .one (.one (.row true 3 (r.map eBlock)))
theorem con_impl_withBlock {v0 : List TBlock} {v1 : TBlock} {r : List TBlock} (hF : F_impl_withBlock v0 v1 = some r) : Con Try.prog 93 [.sl 3 (v0.map eBlock), eBlock v1] (res_impl_withBlock r) := by
 unfold F_impl_withBlock at hF
 refine con_of c93_is fun N => ?_
 refine ws 0 128 ?_
 refine qf (.ptr 0 0 0) [(0, .box [AS v1.1, AS v1.2.1, AS v1.2.2])] (by simp) ?_
 refine qf (.sl 64 0 0) [(64, .row true 3 (([] : List Int).map (V.int .i64))), (0, .box [AS v1.1, AS v1.2.1, AS v1.2.2])] (by simp) ?_
 refine r_nil ?_
 refine ws 128 640 ?_
 refine qp (AL 3 (v0.map eBlock)) rfl (qp (.agg [AS v1.1, AS v1.2.1, AS v1.2.2]) rfl ?_)
 obtain ⟨v1000, e1000, hF⟩ := bind_get hF
 refine qc (.tup [AI v1000.1, AB v1000.2]) [(64, .row true 3 (([] : List Int).map (V.int .i64))), (0, .box [AS v1.1, AS v1.2.1, AS v1.2.2])] false (con_slices_BinarySearchFunc_SBlock_Block e1000) c72_ok (by first | rfl | simp) rfl ?_
 refine qp (.tup [AI v1000.1, AB v1000.2]) rfl (qp (AI v1000.1) rfl (qp (AB v1000.2) rfl (qp (AI v1000.1) rfl (qp (AB v1000.2) rfl ?_))))
 refine r_nil ?_
 refine ws 640 832 ?_
 refine qp (AL 3 (v0.map eBlock)) rfl ?_
 obtain ⟨v1001, e1001, hF⟩ := bind_get hF
 refine qc (.sl 704 0 v1001.length) [(704, .row true 3 (v1001.map eBlock)), (64, .row true 3 (([] : List Int).map (V.int .i64))), (0, .box [AS v1.1, AS v1.2.1, AS v1.2.2])] false (con_slices_Clone_SBlock_Block e1001) c75_ok (by first | rfl | simp) (by simp [res_slices_Clone_SBlock_Block]) ?_
 refine qp (.sl 704 0 v1001.length) rfl ?_
 refine r_nil ?_
 refine w_seq ?_
 refine ws 832 896 ?_
 refine qp (AB v1000.2) rfl ?_
 refine r_nil ?_
 refine cF hF (fun hF => ?_) fun hF => ?_
 ·
  refine ws 896 1216 ?_
  refine qp (.sl 704 0 v1001.length) rfl (qp (AI v1000.1) rfl (qp (.agg [AS v1.1, AS v1.2.1, AS v1.2.2]) rfl ?_))
  obtain ⟨v1002, e1002, hF⟩ := bind_get hF
  refine qp (.ptr 704 v1000.1.toNat 0) (ev_iad_r rfl (by simp) rfl rfl e1002) ?_
  refine qf0 (.undef) [(704, .row true 3 ((List.set v1001 v1000.1.toNat v1).map eBlock)), (704, .row true 3 (v1001.map eBlock)), (64, .row true 3 (([] : List Int).map (V.int .i64))), (0, .box [AS v1.1, AS v1.2.1, AS v1.2.2])] (effT_st rfl rfl (ix_some e1002).2 rfl rfl (by rfl) (by first | rfl | simp [patch, reb, List.take_of_length_le]) (by rfl) rfl) ?_
  refine r_nil ?_
  refine ws 1216 1344 ?_
  refine qp (.sl 704 0 v1001.length) rfl (qp (.sl 704 0 v1001.length) rfl ?_)
  refine r_nil ?_
  refine w_ret ?_
  refine thenQ_r ?_
  cases hF
  exact eR
 ·
  refine w_skip ?_
  refine thenQ_n ?_
  refine ws 896 1280 ?_
  refine qp (.sl 704 0 v1001.length) rfl (qp (AI v1000.1) rfl (qp (.agg [AS v1.1, AS v1.2.1, AS v1.2.2]) rfl ?_))
  refine qf (.sl 1088 0 ([v1].length)) [(1088, .row true 3 ([v1].map eBlock)), (704, .row true 3 (v1001.map eBlock)), (64, .row true 3 (([] : List Int).map (V.int .i64))), (0, .box [AS v1.1, AS v1.2.1, AS v1.2.2])] (by simp [List.take_of_length_le]) ?_
  obtain ⟨v1003, e1003, hF⟩ := bind_get hF
  refine qX (.sl 1152 0 v1003.length) [(1152, .row true 3 (v1003.map eBlock)), (704, .dead), (1088, .row true 3 ([v1].map eBlock)), (704, .row true 3 (v1001.map eBlock)), (64, .row true 3 (([] : List Int).map (V.int .i64))), (0, .box [AS v1.1, AS v1.2.1, AS v1.2.2])] true rfl rfl (whole_row (by simp)) (con_ins_130 (e := eBlock) e1003) c130_ok (by simp [List.take_of_length_le]) (by simp [RV.r]) ?_
  refine qp (.sl 1152 0 v1003.length) rfl ?_
  refine r_nil ?_
  refine w_ret ?_
  cases hF
  exact eR

def c43 : MC := (.seq (.reg [rg 4 (.f (.nilrow 3)), rg 5 (.p true (.mv (.c (.int .i64 0))))]) (.seq (.seq (.reg [rg 9 (.p true (.mv (.t 0))), rg 10 (.call true 71 [(.t 9)]), rg 11 (.p true (.not (.t 10))), rg 12 (.p true (.mv (.t 11))), ⟨(some 13), (some (12, false)), (.p true (.mv (.t 1)))⟩, ⟨(some 14), (some (12, false)), (.call true 71 [(.t 13)])⟩, ⟨(some 15), (some (12, false)), (.p true (.not (.t 14)))⟩, rg 16 (.p true (.pick (.t 12) (.c (.bool true)) (.t 15)))]) (.cond (.t 16) (.seq (.reg [rg 4 (.f (.nilrow 3)), rg 5 (.p true (.mv (.c (.int .i64 1))))]) .ret) .skip)) (.seq (.reg [rg 17 (.p true (.mv (.t 0))), rg 18 (.call true 75 [(.t 17)]), rg 6 (.p true (.mv (.t 18)))]) (.seq (.seq (.reg [rg 19 (.p true (.mv (.t 1))), rg 20 (.p true (.len (.t 19))), rg 21 (.p true (.mv (.c (.int .i64 0))))]) (.block 0 (.loop (.seq (.reg [rg 22 (.p true (.bin .lss (.t 21) (.t 20)))]) (.seq (.cond (.t 22) .skip (.exit 0)) (.seq (.block 1 (.seq (.reg [rg 23 (.p true (.iad (.t 19) (.t 21) 3)), rg 24 (.p true (.ld (.t 23) 3 true)), rg 8 (.f (.alloc [((.str []), (0, false)), ((.str []), (0, false)), ((.str []), (0, false))])), ⟨none, none, (.f (.st (.t 8) (.t 24) 3))⟩]) (.reg [rg 25 (.p true (.mv (.t 6))), rg 26 (.p true (.ld (.t 8) 3 true)), rg 27 (.call true 93 [(.t 25), (.t 26)]), rg 6 (.p true (.mv (.t 27)))]))) (.reg [rg 28 (.p true (.bin .add (.t 21) (.c (.int .i64 1)))), rg 21 (.p true (.mv (.t 28)))]))))))) (.seq (.seq (.reg [rg 29 (.p true (.mv (.t 6))), rg 30 (.p true (.len (.t 29))), rg 31 (.p true (.bin .gtr (.t 30) (.c (.int .i64 32))))]) (.cond (.t 31) (.seq (.reg [rg 4 (.f (.nilrow 3)), rg 5 (.p true (.mv (.c (.int .i64 5))))]) .ret) .skip)) (.seq (.reg [rg 32 (.p true (.mv (.t 6))), rg 4 (.p true (.mv (.t 32))), rg 5 (.p true (.mv (.c (.int .i64 0))))]) .ret))))))
theorem c43_is : compFn Try.prog 43 = some (c43, [(.tmp 4), (.tmp 5)]) := by kernel_rfl
theorem c43_ok : okFn Try.prog 43 = true := by kernel_rfl

noncomputable def F_impl_MergeBlocks_l0 (v1 : List TBlock) (k1 : Int × (List TBlock) → Option ((List TBlock) × Int)) : Int × (List TBlock) → Option ((List TBlock) × Int)
 | (v1009, v1010) => (bif (decide (v1009 < (v1.length : Int))) then ((ix v1 v1009).bind fun v1011 => ((F_impl_withBlock v1010 v1011).bind fun v1012 => k1 (w64 (v1009 + 1), v1012)))
 else (bif (decide ((32 : Int) < (v1010.length : Int))) then some ([], 5)
 else some (v1010, 0)))
noncomputable def F_impl_MergeBlocks (v0 : List TBlock) (v1 : List TBlock) : Option ((List TBlock) × Int) :=
 ((F_impl_ValidBlocks v0).bind fun v1000 => (bif (!v1000) then some ([], 1)
 else ((F_impl_ValidBlocks v1).bind fun v1001 => (bif (!v1001) then some ([], 1)
 else ((F_slices_Clone_SBlock_Block v0).bind fun v1002 => loop (F_impl_MergeBlocks_l0 v1) (0, v1002))))))
@[simp] def res_impl_MergeBlocks (r : (List TBlock) × Int) : RV := .tup [.one (.row true 3 (r.1.map eBlock)), .one (.val (.int .i64 r.2))]
theorem con_impl_MergeBlocks {v0 : List TBlock} {v1 : List TBlock} {r : (List TBlock) × Int} (hF : F_impl_MergeBlocks v0 v1 = some r) : Con Try.prog 43 [.sl 3 (v0.map eBlock), .sl 3 (v1.map eBlock)] (res_impl_MergeBlocks r) := by
 unfold F_impl_MergeBlocks at hF
 refine con_of c43_is fun N => ?_
 refine ws 0 128 ?_
 refine qf (.sl 0 0 0) [(0, .row true 3 (([] : List Int).map (V.int .i64)))] (by simp) ?_
 refine qp (AI 0) rfl ?_
 refine r_nil ?_
 refine w_seq ?_
 refine ws 128 640 ?_
 refine qp (AL 3 (v0.map eBlock)) rfl ?_
 obtain ⟨v1000, e1000, hF⟩ := bind_get hF
 refine qc (AB v1000) [(0, .row true 3 (([] : List Int).map (V.int .i64)))] false (con_impl_ValidBlocks e1000) c71_ok (by first | rfl | simp) rfl ?_
 refine qp (AB (!v1000)) rfl (qp (AB (!v1000)) rfl ?_)
 refine q_case 12 hF rfl (fun hF => ?_) (fun hF => ?_)
 ·
  refine qn rfl (qn rfl (qn rfl (qp (AB true) rfl ?_)))
  refine r_nil ?_
  refine w_true rfl ?_
  refine ws 640 768 ?_
  refine qf (.sl 640 0 0) [(640, .row true 3 (([] : List TBlock).map eBlock)), (0, .row true 3 (([] : List Int).map (V.int .i64)))] (by simp) ?_
  refine qp (AI 1) rfl ?_
  refine r_nil ?_
  refine w_ret ?_
  refine thenQ_r ?_
  cases hF
  exact eR
 ·
  refine qg (AL 3 (v1.map eBlock)) rfl rfl ?_
  obtain ⟨v1001, e1001, hF⟩ := bind_get hF
  refine qcg (AB v1001) [(0, .row true 3 (([] : List Int).map (V.int .i64)))] false rfl (con_impl_ValidBlocks e1001) c71_ok (by first | rfl | simp) rfl ?_
  refine qg (AB (!v1001)) rfl rfl (qp (AB (!v1001)) rfl ?_)
  refine r_nil ?_
  refine cF hF (fun hF => ?_) fun hF => ?_
  ·
   refine ws 640 768 ?_
   refine qf (.sl 640 0 0) [(640, .row true 3 (([] : List TBlock).map eBlock)), (0, .row true 3 (([] : List Int).map (V.int .i64)))] (by simp) ?_
   refine qp (AI 1) rfl ?_
   refine r_nil ?_
   refine w_ret ?_
   refine thenQ_r ?_
   cases hF
   exact eR
  ·
   refine w_skip ?_
   refine thenQ_n ?_
   refine ws 640 832 ?_
   refine qp (AL 3 (v0.map eBlock)) rfl ?_
   obtain ⟨v1002, e1002, hF⟩ := bind_get hF
   refine qc (.sl 704 0 v1002.length) [(704, .row true 3 (v1002.map eBlock)), (0, .row true 3 (([] : List Int).map (V.int .i64)))] false (con_slices_Clone_SBlock_Block e1002) c75_ok (by first | rfl | simp) (by simp [res_slices_Clone_SBlock_Block]) ?_
   refine qp (.sl 704 0 v1002.length) rfl ?_
   refine r_nil ?_
   refine w_seq ?_
   refine ws 832 1024 ?_
   refine qp (AL 3 (v1.map eBlock)) rfl (qp (AI (v1.length : Int)) (ev_len_n rfl) (qp (AI 0) rfl ?_))
   refine r_nil ?_
   refine w_block ?_
   refine wr (l' := [(6, .sl 0 0 v1002.length), (19, AL 3 (v1.map eBlock)), (20, AI (v1.length : Int)), (21, AI 0)]) (L := [(0, .row true 3 (v1002.map eBlock))]) [6, 19, 20, 21] [(704, 0)] 1 ?_
   refine w_loopF (F_impl_MergeBlocks_l0 v1) (fun s : Int × (List TBlock) => mkS [(6, .sl 0 0 s.2.length), (19, AL 3 (v1.map eBlock)), (20, AI (v1.length : Int)), (21, AI s.1)] (fo [(0, .row true 3 (s.2.map eBlock))]) 1) hF ?_
   rintro k1 ⟨v1009, v1010⟩ hF
   rw [F_impl_MergeBlocks_l0] at hF
   try dsimp only
   refine ws 1 65 ?_
   refine qp (AB (decide (v1009 < (v1.length : Int)))) rfl ?_
   refine r_nil ?_
   refine w_seq ?_
   refine cF hF (fun hF => ?_) fun hF => ?_
   ·
    refine w_skip ?_
    refine thenQ_n ?_
    refine w_seq ?_
    refine w_block ?_
    refine ws 65 321 ?_
    obtain ⟨v1011, e1011, hF⟩ := bind_get hF
    refine qp (.val none (.ptr [.str v1011.1, .str v1011.2.1, .str v1011.2.2])) (ev_iad_n rfl rfl e1011 rfl) (qp (.val none (eBlock v1011)) rfl ?_)
    refine qf (.ptr 193 0 0) [(193, .box [AS [], AS [], AS []]), (0, .row true 3 (v1010.map eBlock))] (by simp) ?_
    refine qf0 (.undef) [(193, .box [AS v1011.1, AS v1011.2.1, AS v1011.2.2]), (193, .box [AS [], AS [], AS []]), (0, .row true 3 (v1010.map eBlock))] (by simp) ?_
    refine r_nil ?_
    refine w_reg 321 577 rfl rfl ?_
    refine qp (.sl 0 0 v1010.length) rfl (qp (.agg [AS v1011.1, AS v1011.2.1, AS v1011.2.2]) rfl ?_)
    obtain ⟨v1012, e1012, hF⟩ := bind_get hF
    refine qc (.sl 449 0 v1012.length) [(449, .row true 3 (v1012.map eBlock)), (193, .box [AS v1011.1, AS v1011.2.1, AS v1011.2.2]), (193, .box [AS [], AS [], AS []]), (0, .row true 3 (v1010.map eBlock))] true (con_impl_withBlock e1012) c93_ok (by simp [List.take_of_length_le]) (by simp [res_impl_withBlock]) ?_
    refine qp (.sl 449 0 v1012.length) rfl ?_
    refine r_nil ?_
    refine blockQ_n ?_
    refine thenQ_n ?_
    refine w_reg 577 705 rfl rfl ?_
    refine qp (AI (w64 (v1009 + 1))) rfl (qp (AI (w64 (v1009 + 1))) rfl ?_)
    refine r_nil ?_
    refine thenQ_n ?_
    refine ar (l' := [(6, .sl 0 0 v1012.length), (19, AL 3 (v1.map eBlock)), (20, AI (v1.length : Int)), (21, AI (w64 (v1009 + 1)))]) (L := [(0, .row true 3 (v1012.map eBlock))]) [6, 19, 20, 21] [(449, 0)] 1 ⟨_, by rfl, hF⟩
   ·
    refine w_exit ?_
    refine thenQ_e ?_
    refine thenQ_e ?_
    refine blockQ_e ?_
    refine thenQ_n ?_
    refine w_seq ?_
    refine ws 65 257 ?_
    refine qp (.sl 0 0 v1010.length) rfl (qp (AI (v1010.length : Int)) rfl (qp (AB (decide ((32 : Int) < (v1010.length : Int)))) rfl ?_))
    refine r_nil ?_
    refine cF hF (fun hF => ?_) fun hF => ?_
    ·
     refine ws 257 385 ?_
     refine qf (.sl 257 0 0) [(257, .row true 3 (([] : List TBlock).map eBlock)), (0, .row true 3 (v1010.map eBlock))] (by simp) ?_
     refine qp (AI 5) rfl ?_
     refine r_nil ?_
     refine w_ret ?_
     refine thenQ_r ?_
     cases hF
     exact eR
    ·
     refine w_skip ?_
     refine thenQ_n ?_
     refine ws 257 449 ?_
     refine qp (.sl 0 0 v1010.length) rfl (qp (.sl 0 0 v1010.length) rfl (qp (AI 0) rfl ?_))
     refine r_nil ?_
     refine w_ret ?_
     cases hF
     exact eR

def c76 : MC := (.seq (.reg [rg 2 (.f (.box (.t 0))), rg 3 (.f (.box (.t 1))), rg 4 (.p true (.mv (.c (.bool false))))]) (.seq (.seq (.reg [rg 5 (.p true (.fad (.t 2) 0)), rg 6 (.p true (.ld (.t 5) 1 false)), rg 7 (.p true (.fad (.t 3) 0)), rg 8 (.p true (.ld (.t 7) 1 false)), rg 9 (.p true (.bin .neq (.t 6) (.t 8)))]) (.cond (.t 9) (.seq (.reg [rg 4 (.p true (.mv (.c (.bool false))))]) .ret) .skip)) (.seq (.seq (.reg [rg 10 (.p true (.fad (.t 2) 1)), rg 11 (.p true (.ld (.t 10) 1 false)), rg 12 (.p true (.fad (.t 3) 1)), rg 13 (.p true (.ld (.t 12) 1 false)), rg 14 (.p true (.bin .neq (.t 11) (.t 13)))]) (.cond (.t 14) (.seq (.reg [rg 4 (.p true (.mv (.c (.bool false))))]) .ret) .skip)) (.seq (.seq (.reg [rg 15 (.p true (.fad (.t 2) 2)), rg 16 (.p true (.ld (.t 15) 1 false)), rg 17 (.p true (.fad (.t 3) 2)), rg 18 (.p true (.ld (.t 17) 1 false)), rg 19 (.p true (.bin .neq (.t 16) (.t 18)))]) (.cond (.t 19) (.seq (.reg [rg 4 (.p true (.mv (.c (.bool false))))]) .ret) .skip)) (.seq (.reg [rg 4 (.p true (.mv (.c (.bool true))))]) .ret)))))
theorem c76_is : compFn Try.prog 76 = some (c76, [(.tmp 4)]) := by kernel_rfl
theorem c76_ok : okFn Try.prog 76 = true := by kernel_rfl

noncomputable def F_laws_eqBlock (v0 : TBlock) (v1 : TBlock) : Option (Bool) :=
 (bif (decide (v0.1 ≠ v1.1)) then some false
 else (bif (decide (v0.2.1 ≠ v1.2.1)) then some false
 else (bif (decide (v0.2.2 ≠ v1.2.2)) then some false
 else some true)))
@[simp] def res_laws_eqBlock (r : Bool) : RV := .one (.one (.val (.bool r)))
theorem con_laws_eqBlock {v0 : TBlock} {v1 : TBlock} {r : Bool} (hF : F_laws_eqBlock v0 v1 = some r) : Con Try.prog 76 [eBlock v0, eBlock v1] (res_laws_eqBlock r) := by
 unfold F_laws_eqBlock at hF
 refine con_of c76_is fun N => ?_
 refine ws 0 192 ?_
 refine qf (.ptr 0 0 0) [(0, .box [AS v0.1, AS v0.2.1, AS v0.2.2])] (by simp) ?_
 refine qf (.ptr 64 0 0) [(64, .box [AS v1.1, AS v1.2.1, AS v1.2.2]), (0, .box [AS v0.1, AS v0.2.1, AS v0.2.2])] (by simp) ?_
 refine qp (AB false) rfl ?_
 refine r_nil ?_
 refine w_seq ?_
 refine ws 192 512 ?_
 refine qp (.ptr 0 0 0) rfl (qp (AS v0.1) rfl (qp (.ptr 64 0 0) rfl (qp (AS v1.1) rfl (qp (AB (decide (v0.1 ≠ v1.1))) rfl ?_))))
 refine r_nil ?_
 refine cF hF (fun hF => ?_) fun hF => ?_
 ·
  refine ws 512 576 ?_
  refine qp (AB false) rfl ?_
  refine r_nil ?_
  refine w_ret ?_
  refine thenQ_r ?_
  cases hF
  exact eR
 ·
  refine w_skip ?_
  refine thenQ_n ?_
  refine w_seq ?_
  refine ws 512 832 ?_
  refine qp (.ptr 0 0 1) rfl (qp (AS v0.2.1) rfl (qp (.ptr 64 0 1) rfl (qp (AS v1.2.1) rfl (qp (AB (decide (v0.2.1 ≠ v1.2.1))) rfl ?_))))
  refine r_nil ?_
  refine cF hF (fun hF => ?_) fun hF => ?_
  ·
   refine ws 832 896 ?_
   refine qp (AB false) rfl ?_
   refine r_nil ?_
   refine w_ret ?_
   refine thenQ_r ?_
   cases hF
   exact eR
  ·
   refine w_skip ?_
   refine thenQ_n ?_
   refine w_seq ?_
   refine ws 832 1152 ?_
   refine qp (.ptr 0 0 2) rfl (qp (AS v0.2.2) rfl (qp (.ptr 64 0 2) rfl (qp (AS v1.2.2) rfl (qp (AB (decide (v0.2.2 ≠ v1.2.2))) rfl ?_))))
   refine r_nil ?_
   refine cF hF (fun hF => ?_) fun hF => ?_
   ·
    refine ws 1152 1216 ?_
    refine qp (AB false) rfl ?_
    refine r_nil ?_
    refine w_ret ?_
    refine thenQ_r ?_
    cases hF
    exact eR
   ·
    refine w_skip ?_
    refine thenQ_n ?_
    refine ws 1152 1216 ?_
    refine qp (AB true) rfl ?_
    refine r_nil ?_
    refine w_ret ?_
    cases hF
    exact eR

def c25 : MC := (.seq (.reg [rg 4 (.p true (.mv (.c (.bool false))))]) (.seq (.seq (.reg [rg 6 (.p true (.mv (.t 0))), rg 7 (.p true (.len (.t 6))), rg 8 (.p true (.mv (.t 1))), rg 9 (.p true (.len (.t 8))), rg 10 (.p true (.bin .neq (.t 7) (.t 9)))]) (.cond (.t 10) (.seq (.reg [rg 4 (.p true (.mv (.c (.bool false))))]) .ret) .skip)) (.seq (.seq (.reg [rg 5 (.p true (.mv (.c (.int .i64 0))))]) (.block 0 (.loop (.seq (.seq (.reg [rg 11 (.p true (.mv (.t 5))), rg 12 (.p true (.mv (.t 0))), rg 13 (.p true (.len (.t 12))), rg 14 (.p true (.bin .lss (.t 11) (.t 13)))]) (.cond (.t 14) .skip (.exit 0))) (.seq (.block 1 (.seq (.reg [rg 17 (.p false (.mv (.t 0))), rg 18 (.p false (.mv (.t 5))), rg 19 (.p false (.iad (.t 17) (.t 18) 3)), rg 20 (.p false (.ld (.t 19) 3 true)), rg 21 (.p false (.mv (.t 1))), rg 22 (.p false (.mv (.t 5))), rg 23 (.p false (.iad (.t 21) (.t 22) 3)), rg 24 (.p false (.ld (.t 23) 3 true)), rg 25 (.call false 76 [(.t 20), (.t 24)]), rg 26 (.p false (.not (.t 25)))]) (.cond (.t 26) (.seq (.reg [rg 4 (.p true (.mv (.c (.bool false))))]) .ret) .skip))) (.reg [rg 15 (.p true (.mv (.t 5))), rg 16 (.p true (.bin .add (.t 15) (.c (.int .i64 1)))), rg 5 (.p true (.mv (.t 16)))])))))) (.seq (.reg [rg 4 (.p true (.mv (.c (.bool true))))]) .ret))))
theorem c25_is : compFn Try.prog 25 = some (c25, [(.tmp 4)]) := by kernel_rfl
theorem c25_ok : okFn Try.prog 25 = true := by kernel_rfl

noncomputable def F_laws_eqBlockS_l0 (v0 : List TBlock) (v1 : List TBlock) (k0 : Int → Option (Bool)) : Int → Option (Bool)
 | v9 => (bif (decide (v9 < (v0.length : Int))) then ((ix v0 v9).bind fun v1000 => ((ix v1 v9).bind fun v1001 => ((F_laws_eqBlock v1000 v1001).bind fun v1002 => (bif (!v1002) then some false
 else k0 (w64 (v9 + 1))))))
 else some true)
noncomputable def F_laws_eqBlockS (v0 : List TBlock) (v1 : List TBlock) : Option (Bool) :=
 (bif (decide ((v0.length : Int) ≠ (v1.length : Int))) then some false
 else loop (F_laws_eqBlockS_l0 v0 v1) 0)
@[simp] def res_laws_eqBlockS (r : Bool) : RV := .one (.one (.val (.bool r)))
theorem con_laws_eqBlockS {v0 : List TBlock} {v1 : List TBlock} {r : Bool} (hF : F_laws_eqBlockS v0 v1 = some r) : Con Try.prog 25 [.sl 3 (v0.map eBlock), .sl 3 (v1.map eBlock)] (res_laws_eqBlockS r) := by
 unfold F_laws_eqBlockS at hF
 refine con_of c25_is fun N => ?_
 refine ws 0 64 ?_
 refine qp (AB false) rfl ?_
 refine r_nil ?_
 refine w_seq ?_
 refine ws 64 384 ?_
 refine qp (AL 3 (v0.map eBlock)) rfl (qp (AI (v0.length : Int)) (ev_len_n rfl) (qp (AL 3 (v1.map eBlock)) rfl (qp (AI (v1.length : Int)) (ev_len_n rfl) (qp (AB (decide ((v0.length : Int) ≠ (v1.length : Int)))) rfl ?_))))
 refine r_nil ?_
 refine cF hF (fun hF => ?_) fun hF => ?_
 ·
  refine ws 384 448 ?_
  refine qp (AB false) rfl ?_
  refine r_nil ?_
  refine w_ret ?_
  refine thenQ_r ?_
  cases hF
  exact eR
 ·
  refine w_skip ?_
  refine thenQ_n ?_
  refine w_seq ?_
  refine ws 384 448 ?_
  refine qp (AI 0) rfl ?_
  refine r_nil ?_
  refine w_block ?_
  refine wr (l' := [(0, AL 3 (v0.map eBlock)), (1, AL 3 (v1.map eBlock)), (5, AI 0)]) (L := []) [0, 1, 5] [] 1 ?_
  refine w_loopF (F_laws_eqBlockS_l0 v0 v1) (fun s : Int => mkS [(0, AL 3 (v0.map eBlock)), (1, AL 3 (v1.map eBlock)), (5, AI s)] (fo []) 1) hF ?_
  rintro k0 v9 hF
  rw [F_laws_eqBlockS_l0] at hF
  try dsimp only
  refine w_seq ?_
  refine ws 1 257 ?_
  refine qp (AI v9) rfl (qp (AL 3 (v0.map eBlock)) rfl (qp (AI (v0.length : Int)) (ev_len_n rfl) (qp (AB (decide (v9 < (v0.length : Int)))) rfl ?_)))
  refine r_nil ?_
  refine cF hF (fun hF => ?_) fun hF => ?_
  ·
   refine w_skip ?_
   refine thenQ_n ?_
   refine w_seq ?_
   refine w_block ?_
   refine ws 257 897 ?_
   refine qp (AL 3 (v0.map eBlock)) rfl (qp (AI v9) rfl ?_)
   obtain ⟨v1000, e1000, hF⟩ := bind_get hF
   refine qp (.val none (.ptr [.str v1000.1, .str v1000.2.1, .str v1000.2.2])) (ev_iad_n rfl rfl e1000 rfl) (qp (.val none (eBlock v1000)) rfl (qp (AL 3 (v1.map eBlock)) rfl (qp (AI v9) rfl ?_)))
   obtain ⟨v1001, e1001, hF⟩ := bind_get hF
   refine qp (.val none (.ptr [.str v1001.1, .str v1001.2.1, .str v1001.2.2])) (ev_iad_n rfl rfl e1001 rfl) (qp (.val none (eBlock v1001)) rfl ?_)
   obtain ⟨v1002, e1002, hF⟩ := bind_get hF
   refine qc (AB v1002) [] false (con_laws_eqBlock e1002) c76_ok (by first | rfl | simp) rfl ?_
   refine qp (AB (!v1002)) rfl ?_
   refine r_nil ?_
   refine cF hF (fun hF => ?_) fun hF => ?_
   ·
    refine ws 897 961 ?_
    refine qp (AB false) rfl ?_
    refine r_nil ?_
    refine w_ret ?_
    refine blockQ_r ?_
    refine thenQ_r ?_
    refine thenQ_r ?_
    refine blockQ_r ?_
    refine thenQ_r ?_
    cases hF
    exact eR
   ·
    refine w_skip ?_
    refine blockQ_n ?_
    refine thenQ_n ?_
    refine w_reg 897 1089 rfl rfl ?_
    refine qp (AI v9) rfl (qp (AI (w64 (v9 + 1))) rfl (qp (AI (w64 (v9 + 1))) rfl ?_))
    refine r_nil ?_
    refine thenQ_n ?_
    refine ar (l' := [(0, AL 3 (v0.map eBlock)), (1, AL 3 (v1.map eBlock)), (5, AI (w64 (v9 + 1)))]) (L := []) [0, 1, 5] [] 1 ⟨_, by rfl, hF⟩
  ·
   refine w_exit ?_
   refine thenQ_e ?_
   refine thenQ_e ?_
   refine blockQ_e ?_
   refine thenQ_n ?_
   refine ws 257 321 ?_
   refine qp (AB true) rfl ?_
   refine r_nil ?_
   refine w_ret ?_
   cases hF
   exact eR

def c77 : MC := (.seq (.reg [rg 2 (.p true (.mv (.c (.str []))))]) (.seq (.seq (.reg [rg 4 (.p true (.mv (.t 0))), rg 5 (.p true (.bin .leq (.t 4) (.c (.int .i64 0))))]) (.cond (.t 5) (.seq (.reg [rg 2 (.p true (.mv (.c (.str [109, 48]))))]) .ret) .skip)) (.seq (.reg [rg 3 (.p true (.mv (.c (.str []))))]) (.seq (.block 0 (.loop (.seq (.seq (.reg [rg 6 (.p true (.mv (.t 0))), rg 7 (.p true (.bin .gtr (.t 6) (.c (.int .i64 0))))]) (.cond (.t 7) .skip (.exit 0))) (.block 1 (.seq (.reg [rg 8 (.p true (.mv (.t 0))), rg 9 (.p true (.bin .rem (.t 8) (.c (.int .i64 10)))), rg 10 (.p true (.bin .add (.c (.int .i64 48)) (.t 9))), rg 11 (.p true (.conv .u8 (.t 10))), rg 12 (.f (.bsl 1 [(.t 11)])), rg 13 (.p true (.bts (.t 12))), rg 14 (.p true (.mv (.t 3))), rg 15 (.p true (.bin .add (.t 13) (.t 14))), rg 3 (.p true (.mv (.t 15)))]) (.reg [rg 16 (.p true (.mv (.t 0))), rg 17 (.p true (.bin .quo (.t 16) (.c (.int .i64 10)))), rg 0 (.p true (.mv (.t 17)))])))))) (.seq (.reg [rg 18 (.p true (.mv (.t 3))), rg 19 (.p true (.bin .add (.c (.str [109])) (.t 18))), rg 2 (.p true (.mv (.t 19)))]) .ret)))))
theorem c77_is : compFn Try.prog 77 = some (c77, [(.tmp 2)]) := by kernel_rfl
theorem c77_ok : okFn Try.prog 77 = true := by kernel_rfl

noncomputable def F_laws_markText_l0 (k0 : Int × (List UInt8) → Option (List UInt8)) : Int × (List UInt8) → Option (List UInt8)
 | (v5, v6) => (bif (decide ((0 : Int) < v5)) then (need ((bytesI [IntKind.wrap .u8 (w64 (48 + (Int.tmod v5 10)))]).length + v6.length < 9223372036854775808) (k0 (w64 (Int.tdiv v5 10), (bytesI [IntKind.wrap .u8 (w64 (48 + (Int.tmod v5 10)))]) ++ v6)))
 else (need ([109].length + v6.length < 9223372036854775808) (some ([109] ++ v6))))
noncomputable def F_laws_markText (v0 : Int) : Option (List UInt8) :=
 (bif (decide (v0 ≤ (0 : Int))) then some [109, 48]
 else loop (F_laws_markText_l0) (v0, []))
@[simp] def res_laws_markText (r : List UInt8) : RV := .one (.one (.val (.str r)))
theorem con_laws_markText {v0 : Int} {r : List UInt8} (hF : F_laws_markText v0 = some r) : Con Try.prog 77 [.int .i64 v0] (res_laws_markText r) := by
 unfold F_laws_markText at hF
 refine con_of c77_is fun N => ?_
 refine ws 0 64 ?_
 refine qp (AS []) rfl ?_
 refine r_nil ?_
 refine w_seq ?_
 refine ws 64 192 ?_
 refine qp (AI v0) rfl (qp (AB (decide (v0 ≤ (0 : Int)))) rfl ?_)
 refine r_nil ?_
 refine cF hF (fun hF => ?_) fun hF => ?_
 ·
  refine ws 192 256 ?_
  refine qp (AS [109, 48]) rfl ?_
  refine r_nil ?_
  refine w_ret ?_
  refine thenQ_r ?_
  cases hF
  exact eR
 ·
  refine w_skip ?_
  refine thenQ_n ?_
  refine ws 192 256 ?_
  refine qp (AS []) rfl ?_
  refine r_nil ?_
  refine w_seq ?_
  refine w_block ?_
  refine wr (l' := [(0, AI v0), (3, AS ([] : List UInt8))]) (L := []) [0, 3] [] 1 ?_
  refine w_loopF (F_laws_markText_l0) (fun s : Int × (List UInt8) => mkS [(0, AI s.1), (3, AS s.2)] (fo []) 1) hF ?_
  rintro k0 ⟨v5, v6⟩ hF
  rw [F_laws_markText_l0] at hF
  try dsimp only
  refine w_seq ?_
  refine ws 1 129 ?_
  refine qp (AI v5) rfl (qp (AB (decide ((0 : Int) < v5))) rfl ?_)
  refine r_nil ?_
  refine cF hF (fun hF => ?_) fun hF => ?_
  ·
   refine w_skip ?_
   refine thenQ_n ?_
   refine w_block ?_
   refine ws 129 705 ?_
   refine qp (AI v5) rfl (qp (AI (Int.tmod v5 10)) (ev_rem rfl rfl (by decide)) (qp (AI (w64 (48 + (Int.tmod v5 10)))) rfl (qp (.val none (.int .u8 (IntKind.wrap .u8 (w64 (48 + (Int.tmod v5 10)))))) rfl ?_)))
   refine qf (.sl 385 0 ([IntKind.wrap .u8 (w64 (48 + (Int.tmod v5 10)))].length)) [(385, .row true 1 ([IntKind.wrap .u8 (w64 (48 + (Int.tmod v5 10)))].map (V.int .u8)))] (by simp [List.take_of_length_le]) ?_
   refine qp (AS (bytesI [IntKind.wrap .u8 (w64 (48 + (Int.tmod v5 10)))])) (ev_bts_r rfl (by simp) rfl) (qp (AS v6) rfl ?_)
   obtain ⟨g1000, hF⟩ := need_some hF
   refine qp (AS ((bytesI [IntKind.wrap .u8 (w64 (48 + (Int.tmod v5 10)))]) ++ v6)) (ev_add_s rfl rfl g1000) (qp (AS ((bytesI [IntKind.wrap .u8 (w64 (48 + (Int.tmod v5 10)))]) ++ v6)) rfl ?_)
   refine r_nil ?_
   refine w_reg 705 897 rfl rfl ?_
   refine qp (AI v5) rfl (qp (AI (w64 (Int.tdiv v5 10))) (ev_quo rfl rfl (by decide)) (qp (AI (w64 (Int.tdiv v5 10))) rfl ?_))
   refine r_nil ?_
   refine blockQ_n ?_
   refine thenQ_n ?_
   refine ar (l' := [(0, AI (w64 (Int.tdiv v5 10))), (3, AS ((bytesI [IntKind.wrap .u8 (w64 (48 + (Int.tmod v5 10)))]) ++ v6))]) (L := []) [0, 3] [] 1 ⟨_, by rfl, hF⟩
  ·
   refine w_exit ?_
   refine thenQ_e ?_
   refine thenQ_e ?_
   refine blockQ_e ?_
   refine thenQ_n ?_
   refine ws 129 321 ?_
   refine qp (AS v6) rfl ?_
   obtain ⟨g1001, hF⟩ := need_some hF
   refine qp (AS ([109] ++ v6)) (ev_add_s rfl rfl g1001) (qp (AS ([109] ++ v6)) rfl ?_)
   refine r_nil ?_
   refine w_ret ?_
   cases hF
   exact eR

def c26 : MC := (.seq (.reg [rg 4 (.p true (.mv (.c (.int .i64 0))))]) (.seq (.seq (.reg [rg 5 (.p true (.mv (.c (.int .i64 0))))]) (.block 0 (.loop (.seq (.seq (.reg [rg 6 (.p true (.mv (.t 5))), rg 7 (.p true (.mv (.t 0))), rg 8 (.p true (.len (.t 7))), rg 9 (.p true (.bin .lss (.t 6) (.t 8)))]) (.cond (.t 9) .skip (.exit 0))) (.seq (.block 1 (.seq (.reg [rg 12 (.p true (.mv (.t 0))), rg 13 (.p true (.mv (.t 5))), rg 14 (.p true (.mv (.t 1))), rg 15 (.call true 77 [(.t 14)]), rg 16 (.p true (.iad (.t 12) (.t 13) 3)), rg 17 (.p true (.fad (.t 16) 0)), ⟨none, none, (.f (.st (.t 17) (.t 15) 1))⟩]) (.seq (.reg [rg 18 (.p true (.mv (.t 1))), rg 19 (.p true (.bin .add (.t 18) (.c (.int .i64 1)))), rg 1 (.p true (.mv (.t 19)))]) (.seq (.reg [rg 20 (.p true (.mv (.t 0))), rg 21 (.p true (.mv (.t 5))), rg 22 (.p true (.mv (.t 1))), rg 23 (.call true 77 [(.t 22)]), rg 24 (.p true (.iad (.t 20) (.t 21) 3)), rg 25 (.p true (.fad (.t 24) 1)), ⟨none, none, (.f (.st (.t 25) (.t 23) 1))⟩]) (.seq (.reg [rg 26 (.p true (.mv (.t 1))), rg 27 (.p true (.bin .add (.t 26) (.c (.int .i64 1)))), rg 1 (.p true (.mv (.t 27)))]) (.seq (.reg [rg 28 (.p true (.mv (.t 0))), rg 29 (.p true (.mv (.t 5))), rg 30 (.p true (.mv (.t 1))), rg 31 (.call true 77 [(.t 30)]), rg 32 (.p true (.iad (.t 28) (.t 29) 3)), rg 33 (.p true (.fad (.t 32) 2)), ⟨none, none, (.f (.st (.t 33) (.t 31) 1))⟩]) (.reg [rg 34 (.p true (.mv (.t 1))), rg 35 (.p true (.bin .add (.t 34) (.c (.int .i64 1)))), rg 1 (.p true (.mv (.t 35)))]))))))) (.reg [rg 10 (.p true (.mv (.t 5))), rg 11 (.p true (.bin .add (.t 10) (.c (.int .i64 1)))), rg 5 (.p true (.mv (.t 11)))])))))) (.seq (.reg [rg 36 (.p true (.mv (.t 1))), rg 4 (.p true (.mv (.t 36)))]) .ret)))
theorem c26_is : compFnM Try.prog 26 = some (c26, [(.tmp 4)]) := by kernel_rfl
theorem c26_ok : okFn Try.prog 26 = true := by kernel_rfl

noncomputable def F_laws_markBlockS_l0 (k0 : Int × Int × (List TBlock) → Option ((List TBlock) × Int)) : Int × Int × (List TBlock) → Option ((List TBlock) × Int)
 | (v17, v18, v19) => (bif (decide (v18 < (v19.length : Int))) then ((F_laws_markText v17).bind fun v1000 => ((ix v19 v18).bind fun v1001 => ((F_laws_markText (w64 (v17 + 1))).bind fun v1002 => ((ix (List.set v19 v18.toNat (v1000, v1001.2.1, v1001.2.2)) v18).bind fun v1003 => ((F_laws_markText (w64 ((w64 (v17 + 1)) + 1))).bind fun v1004 => ((ix (List.set (List.set v19 v18.toNat (v1000, v1001.2.1, v1001.2.2)) v18.toNat (v1003.1, v1002, v1003.2.2)) v18).bind fun v1005 => k0 (w64 ((w64 ((w64 (v17 + 1)) + 1)) + 1), w64 (v18 + 1), List.set (List.set (List.set v19 v18.toNat (v1000, v1001.2.1, v1001.2.2)) v18.toNat (v1003.1, v1002, v1003.2.2)) v18.toNat (v1005.1, v1005.2.1, v1004))))))))
 else some (v19, v17))
noncomputable def F_laws_markBlockS (v0 : List TBlock) (v1 : Int) : Option ((List TBlock) × Int) :=
 loop (F_laws_markBlockS_l0) (v1, 0, v0)
theorem con_laws_markBlockS {v0 : List TBlock} {v1 : Int} {r : (List TBlock) × Int} (hF : F_laws_markBlockS v0 v1 = some r) : ConM Try.prog 26 (.one (.row true 3 (v0.map eBlock))) (.one (.row true 3 (r.1.map eBlock))) [.int .i64 v1] (.int .i64 r.2) := by
 unfold F_laws_markBlockS at hF
 refine conM_of (av := .sl 0 0 v0.length) (L := [(0, .row true 3 (v0.map eBlock))]) c26_is rfl rfl rfl (by simp) fun N => ?_
 refine ws 64 128 ?_
 refine qp (AI 0) rfl ?_
 refine r_nil ?_
 refine w_seq ?_
 refine ws 128 192 ?_
 refine qp (AI 0) rfl ?_
 refine r_nil ?_
 refine w_block ?_
 refine wr (l' := [(0, .sl 0 0 v0.length), (1, AI v1), (5, AI 0)]) (L := [(0, .row true 3 (v0.map eBlock))]) [0, 1, 5] [(0, 0)] 1 ?_
 refine w_loopF (F_laws_markBlockS_l0) (fun s : Int × Int × (List TBlock) => mkS [(0, .sl 0 0 s.2.2.length), (1, AI s.1), (5, AI s.2.1)] (fo [(0, .row true 3 (s.2.2.map eBlock))]) 1) hF ?_
 rintro k0 ⟨v17, v18, v19⟩ hF
 rw [F_laws_markBlockS_l0] at hF
 try dsimp only
 refine w_seq ?_
 refine ws 1 257 ?_
 refine qp (AI v18) rfl (qp (.sl 0 0 v19.length) rfl (qp (AI (v19.length : Int)) rfl (qp (AB (decide (v18 < (v19.length : Int)))) rfl ?_)))
 refine r_nil ?_
 refine cF hF (fun hF => ?_) fun hF => ?_
 ·
  refine w_skip ?_
  refine thenQ_n ?_
  refine w_seq ?_
  refine w_block ?_
  refine ws 257 705 ?_
  refine qp (.sl 0 0 v19.length) rfl (qp (AI v18) rfl (qp (AI v17) rfl ?_))
  obtain ⟨v1000, e1000, hF⟩ := bind_get hF
  refine qc (AS v1000) [(0, .row true 3 (v19.map eBlock))] false (con_laws_markText e1000) c77_ok (by first | rfl | simp) rfl ?_
  obtain ⟨v1001, e1001, hF⟩ := bind_get hF
  refine qp (.ptr 0 v18.toNat 0) (ev_iad_r rfl (by simp) rfl rfl e1001) (qp (.ptr 0 v18.toNat 0) rfl ?_)
  refine qf0 (.undef) [(0, .row true 3 ((List.set v19 v18.toNat (v1000, v1001.2.1, v1001.2.2)).map eBlock)), (0, .row true 3 (v19.map eBlock))] (effT_st rfl rfl (ix_some e1001).2 rfl rfl (by rfl) (by first | rfl | simp [patch, reb, List.take_of_length_le]) (by rfl) rfl) ?_
  refine r_nil ?_
  refine ws 705 897 ?_
  refine qp (AI v17) rfl (qp (AI (w64 (v17 + 1))) rfl (qp (AI (w64 (v17 + 1))) rfl ?_))
  refine r_nil ?_
  refine ws 897 1345 ?_
  refine qp (.sl 0 0 v19.length) rfl (qp (AI v18) rfl (qp (AI (w64 (v17 + 1))) rfl ?_))
  obtain ⟨v1002, e1002, hF⟩ := bind_get hF
  refine qc (AS v1002) [(0, .row true 3 ((List.set v19 v18.toNat (v1000, v1001.2.1, v1001.2.2)).map eBlock)), (0, .row true 3 (v19.map eBlock))] false (con_laws_markText e1002) c77_ok (by first | rfl | simp) rfl ?_
  obtain ⟨v1003, e1003, hF⟩ := bind_get hF
  refine qp (.ptr 0 v18.toNat 0) (ev_iad_r rfl (by simp) rfl rfl e1003) (qp (.ptr 0 v18.toNat 1) rfl ?_)
  refine qf0 (.undef) [(0, .row true 3 ((List.set (List.set v19 v18.toNat (v1000, v1001.2.1, v1001.2.2)) v18.toNat (v1003.1, v1002, v1003.2.2)).map eBlock)), (0, .row true 3 ((List.set v19 v18.toNat (v1000, v1001.2.1, v1001.2.2)).map eBlock)), (0, .row true 3 (v19.map eBlock))] (effT_st rfl rfl (ix_some e1003).2 rfl rfl (by rfl) (by first | rfl | simp [patch, reb, List.take_of_length_le]) (by rfl) rfl) ?_
  refine r_nil ?_
  refine ws 1345 1537 ?_
  refine qp (AI (w64 (v17 + 1))) rfl (qp (AI (w64 ((w64 (v17 + 1)) + 1))) rfl (qp (AI (w64 ((w64 (v17 + 1)) + 1))) rfl ?_))
  refine r_nil ?_
  refine ws 1537 1985 ?_
  refine qp (.sl 0 0 v19.length) rfl (qp (AI v18) rfl (qp (AI (w64 ((w64 (v17 + 1)) + 1))) rfl ?_))
  obtain ⟨v1004, e1004, hF⟩ := bind_get hF
  refine qc (AS v1004) [(0, .row true 3 ((List.set (List.set v19 v18.toNat (v1000, v1001.2.1, v1001.2.2)) v18.toNat (v1003.1, v1002, v1003.2.2)).map eBlock)), (0, .row true 3 ((List.set v19 v18.toNat (v1000, v1001.2.1, v1001.2.2)).map eBlock)), (0, .row true 3 (v19.map eBlock))] false (con_laws_markText e1004) c77_ok (by first | rfl | simp) rfl ?_
  obtain ⟨v1005, e1005, hF⟩ := bind_get hF
  refine qp (.ptr 0 v18.toNat 0) (ev_iad_r rfl (by simp) rfl rfl e1005) (qp (.ptr 0 v18.toNat 2) rfl ?_)
  refine qf0 (.undef) [(0, .row true 3 ((List.set (List.set (List.set v19 v18.toNat (v1000, v1001.2.1, v1001.2.2)) v18.toNat (v1003.1, v1002, v1003.2.2)) v18.toNat (v1005.1, v1005.2.1, v1004)).map eBlock)), (0, .row true 3 ((List.set (List.set v19 v18.toNat (v1000, v1001.2.1, v1001.2.2)) v18.toNat (v1003.1, v1002, v1003.2.2)).map eBlock)), (0, .row true 3 ((List.set v19 v18.toNat (v1000, v1001.2.1, v1001.2.2)).map eBlock)), (0, .row true 3 (v19.map eBlock))] (effT_st rfl rfl (ix_some e1005).2 rfl rfl (by rfl) (by first | rfl | simp [patch, reb, List.take_of_length_le]) (by rfl) rfl) ?_
  refine r_nil ?_
  refine w_reg 1985 2177 rfl rfl ?_
  refine qp (AI (w64 ((w64 (v17 + 1)) + 1))) rfl (qp (AI (w64 ((w64 ((w64 (v17 + 1)) + 1)) + 1))) rfl (qp (AI (w64 ((w64 ((w64 (v17 + 1)) + 1)) + 1))) rfl ?_))
  refine r_nil ?_
  refine blockQ_n ?_
  refine thenQ_n ?_
  refine w_reg 2177 2369 rfl rfl ?_
  refine qp (AI v18) rfl (qp (AI (w64 (v18 + 1))) rfl (qp (AI (w64 (v18 + 1))) rfl ?_))
  refine r_nil ?_
  refine thenQ_n ?_
  refine ar (l' := [(0, .sl 0 0 (List.set (List.set (List.set v19 v18.toNat (v1000, v1001.2.1, v1001.2.2)) v18.toNat (v1003.1, v1002, v1003.2.2)) v18.toNat (v1005.1, v1005.2.1, v1004)).length), (1, AI (w64 ((w64 ((w64 (v17 + 1)) + 1)) + 1))), (5, AI (w64 (v18 + 1)))]) (L := [(0, .row true 3 ((List.set (List.set (List.set v19 v18.toNat (v1000, v1001.2.1, v1001.2.2)) v18.toNat (v1003.1, v1002, v1003.2.2)) v18.toNat (v1005.1, v1005.2.1, v1004)).map eBlock))]) [0, 1, 5] [(0, 0)] 1 ⟨_, by rfl, hF⟩
 ·
  refine w_exit ?_
  refine thenQ_e ?_
  refine thenQ_e ?_
  refine blockQ_e ?_
  refine thenQ_n ?_
  refine ws 257 385 ?_
  refine qp (AI v17) rfl (qp (AI v17) rfl ?_)
  refine r_nil ?_
  refine w_ret ?_
  cases hF
  exact endM_r rfl rfl (by first | rfl | (simp [List.take_of_length_le]; first | exact ⟨rfl, rfl⟩ | rfl)) (by simp)

end Go.Ab
