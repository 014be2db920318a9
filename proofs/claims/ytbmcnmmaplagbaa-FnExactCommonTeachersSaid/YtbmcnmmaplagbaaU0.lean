/- Walks (printed by auto.py, a program of this session's own). -/
import Derived.Test.YtbmcnmmaplagbaaS0
import Derived.Test.YtbmcnmmaplagbaaProg
import Derived.KernelRfl
set_option linter.unusedVariables false
set_option linter.unusedSimpArgs false
set_option maxRecDepth 8000
set_option maxHeartbeats 8000000
namespace Go.Ab
open Go.RowKit Go.Proofs

abbrev TPerson := (List UInt8) × Int × (List (List UInt8))
@[simp] def ePerson (p : TPerson) : V := .agg [.str p.1, .int .i64 p.2.1, .sl 1 (p.2.2.map V.str)]
def c79 : MC := (.seq (.reg [⟨(some 4), none, (.p true (.mv (.c (.int .i64 0))))⟩]) (.seq (.reg [⟨(some 6), none, (.p true (.mv (.t 1)))⟩, ⟨(some 7), none, (.p true (.mv (.t 0)))⟩, ⟨(some 8), none, (.p true (.len (.t 7)))⟩, ⟨(some 9), none, (.p true (.bin .sub (.t 6) (.t 8)))⟩, ⟨(some 1), none, (.p true (.mv (.t 9)))⟩]) (.seq (.seq (.reg [⟨(some 10), none, (.p true (.mv (.t 1)))⟩, ⟨(some 11), none, (.p true (.bin .lss (.t 10) (.c (.int .i64 0))))⟩]) (.cond (.t 11) (.seq (.reg [⟨(some 4), none, (.p true (.mv (.c (.int .i64 (-1)))))⟩]) .ret) .skip)) (.seq (.seq (.reg [⟨(some 5), none, (.p true (.mv (.c (.int .i64 0))))⟩]) (.block 0 (.loop (.seq (.seq (.reg [⟨(some 12), none, (.p true (.mv (.t 5)))⟩, ⟨(some 13), none, (.p true (.mv (.t 0)))⟩, ⟨(some 14), none, (.p true (.len (.t 13)))⟩, ⟨(some 15), none, (.p true (.bin .lss (.t 12) (.t 14)))⟩]) (.cond (.t 15) .skip (.exit 0))) (.seq (.block 1 (.seq (.reg [⟨(some 18), none, (.p true (.mv (.t 1)))⟩, ⟨(some 19), none, (.p true (.mv (.t 0)))⟩, ⟨(some 20), none, (.p true (.mv (.t 5)))⟩, ⟨(some 21), none, (.p true (.iad (.t 19) (.t 20) 1))⟩, ⟨(some 22), none, (.p true (.ld (.t 21) 1 false))⟩, ⟨(some 23), none, (.p true (.lens (.t 22)))⟩, ⟨(some 24), none, (.p true (.bin .sub (.t 18) (.t 23)))⟩, ⟨(some 1), none, (.p true (.mv (.t 24)))⟩]) (.seq (.reg [⟨(some 25), none, (.p true (.mv (.t 1)))⟩, ⟨(some 26), none, (.p true (.bin .lss (.t 25) (.c (.int .i64 0))))⟩]) (.cond (.t 26) (.seq (.reg [⟨(some 4), none, (.p true (.mv (.c (.int .i64 (-1)))))⟩]) .ret) .skip)))) (.reg [⟨(some 16), none, (.p true (.mv (.t 5)))⟩, ⟨(some 17), none, (.p true (.bin .add (.t 16) (.c (.int .i64 1))))⟩, ⟨(some 5), none, (.p true (.mv (.t 17)))⟩])))))) (.seq (.reg [⟨(some 27), none, (.p true (.mv (.t 1)))⟩, ⟨(some 4), none, (.p true (.mv (.t 27)))⟩]) .ret)))))
theorem c79_is : compFn Try.prog 79 = some (c79, [(.tmp 4)]) := by kernel_rfl
theorem c79_ok : okFn Try.prog 79 = true := by kernel_rfl

noncomputable def F_laws_szStringS_l0 (v0 : List (List UInt8)) (k0 : Int × Int → Option (Int)) : Int × Int → Option (Int)
  | (v6, v7) => (bif (decide (v7 < (v0.length : Int))) then ((ix v0 v7).bind fun v1000 => (bif (decide (w64 (v6 - (v1000.length : Int)) < (0 : Int))) then some (-1)
  else k0 (w64 (v6 - (v1000.length : Int)), w64 (v7 + 1))))
  else some v6)
noncomputable def F_laws_szStringS (v0 : List (List UInt8)) (v1 : Int) : Option (Int) :=
  (bif (decide (w64 (v1 - (v0.length : Int)) < (0 : Int))) then some (-1)
  else loop (F_laws_szStringS_l0 v0) (w64 (v1 - (v0.length : Int)), 0))
@[simp] def res_laws_szStringS (r : Int) : RV := .one (.one (.val (.int .i64 r)))
theorem con_laws_szStringS {v0 : List (List UInt8)} {v1 : Int} {r : Int} (hF : F_laws_szStringS v0 v1 = some r) : Con Try.prog 79 [.sl 1 (v0.map V.str), .int .i64 v1] (res_laws_szStringS r) := by
  unfold F_laws_szStringS at hF
  refine con_of c79_is fun N => ?_
  refine w_reg_seq 0 64 rfl rfl ?_
  refine qp (AI 0) rfl ?_
  refine r_nil ?_
  refine w_reg_seq 64 384 rfl rfl ?_
  refine qp (AI v1) rfl (qp (.val none (.sl 1 (v0.map V.str))) rfl (qp (AI (v0.length : Int)) (ev_len_n rfl) (qp (AI (w64 (v1 - (v0.length : Int)))) rfl (qp (AI (w64 (v1 - (v0.length : Int)))) rfl ?_))))
  refine r_nil ?_
  refine w_seq ?_
  refine w_reg_seq 384 512 rfl rfl ?_
  refine qp (AI (w64 (v1 - (v0.length : Int)))) rfl (qp (AB (decide (w64 (v1 - (v0.length : Int)) < (0 : Int)))) rfl ?_)
  refine r_nil ?_
  refine w_condF hF rfl (fun hF => ?_) (fun hF => ?_)
  ·
    refine w_reg_seq 512 576 rfl rfl ?_
    refine qp (AI (-1)) rfl ?_
    refine r_nil ?_
    refine w_ret ?_
    refine thenQ_r ?_
    cases hF
    exact endQ_r rfl (.inl ⟨_, _, by first | rfl | (simp [List.take_of_length_le]; first | exact ⟨rfl, rfl⟩ | rfl), by simp, by first | rfl | simp [res_laws_szStringS, List.take_of_length_le]⟩)
  ·
    refine w_skip ?_
    refine thenQ_n ?_
    refine w_seq ?_
    refine w_reg_seq 512 576 rfl rfl ?_
    refine qp (AI 0) rfl ?_
    refine r_nil ?_
    refine w_block ?_
    refine w_ren (l' := [(0, .val none (.sl 1 (v0.map V.str))), (1, AI (w64 (v1 - (v0.length : Int)))), (5, AI 0)]) (L := []) [0, 1, 5] [] 1 (by first | rfl | simp) (by first | rfl | simp) (by decide) (by decide) (by decide) ?_
    refine w_loopF (F_laws_szStringS_l0 v0) (fun s : Int × Int => mkS [(0, .val none (.sl 1 (v0.map V.str))), (1, AI s.1), (5, AI s.2)] (fo []) 1) hF ?_
    rintro k0 ⟨v6, v7⟩ hF
    rw [F_laws_szStringS_l0] at hF
    try dsimp only
    refine w_seq ?_
    refine w_reg_seq 1 257 rfl rfl ?_
    refine qp (AI v7) rfl (qp (.val none (.sl 1 (v0.map V.str))) rfl (qp (AI (v0.length : Int)) (ev_len_n rfl) (qp (AB (decide (v7 < (v0.length : Int)))) rfl ?_)))
    refine r_nil ?_
    refine w_condF hF rfl (fun hF => ?_) (fun hF => ?_)
    ·
      refine w_skip ?_
      refine thenQ_n ?_
      refine w_seq ?_
      refine w_block ?_
      refine w_reg_seq 257 769 rfl rfl ?_
      refine qp (AI v6) rfl (qp (.val none (.sl 1 (v0.map V.str))) rfl (qp (AI v7) rfl ?_))
      obtain ⟨v1000, e1000, hF⟩ := bind_get hF
      refine qp (.val none (.ptr [.str v1000])) (ev_iad_n rfl rfl e1000 rfl) (qp (AS v1000) rfl (qp (AI (v1000.length : Int)) rfl (qp (AI (w64 (v6 - (v1000.length : Int)))) rfl (qp (AI (w64 (v6 - (v1000.length : Int)))) rfl ?_))))
      refine r_nil ?_
      refine w_reg_seq 769 897 rfl rfl ?_
      refine qp (AI (w64 (v6 - (v1000.length : Int)))) rfl (qp (AB (decide (w64 (v6 - (v1000.length : Int)) < (0 : Int)))) rfl ?_)
      refine r_nil ?_
      refine w_condF hF rfl (fun hF => ?_) (fun hF => ?_)
      ·
        refine w_reg_seq 897 961 rfl rfl ?_
        refine qp (AI (-1)) rfl ?_
        refine r_nil ?_
        refine w_ret ?_
        refine blockQ_r ?_
        refine thenQ_r ?_
        refine thenQ_r ?_
        refine blockQ_r ?_
        refine thenQ_r ?_
        cases hF
        exact endQ_r rfl (.inl ⟨_, _, by first | rfl | (simp [List.take_of_length_le]; first | exact ⟨rfl, rfl⟩ | rfl), by simp, by first | rfl | simp [res_laws_szStringS, List.take_of_length_le]⟩)
      ·
        refine w_skip ?_
        refine blockQ_n ?_
        refine thenQ_n ?_
        refine w_reg 897 1089 rfl rfl ?_
        refine qp (AI v7) rfl (qp (AI (w64 (v7 + 1))) rfl (qp (AI (w64 (v7 + 1))) rfl ?_))
        refine r_nil ?_
        refine thenQ_n ?_
        refine aw_ren (l' := [(0, .val none (.sl 1 (v0.map V.str))), (1, AI (w64 (v6 - (v1000.length : Int)))), (5, AI (w64 (v7 + 1)))]) (L := []) [0, 1, 5] [] 1 (by first | rfl | simp) (by first | rfl | simp) (by decide) (by decide) (by decide) ⟨_, by rfl, hF⟩
    ·
      refine w_exit ?_
      refine thenQ_e ?_
      refine thenQ_e ?_
      refine blockQ_e ?_
      refine thenQ_n ?_
      refine w_reg_seq 257 385 rfl rfl ?_
      refine qp (AI v6) rfl (qp (AI v6) rfl ?_)
      refine r_nil ?_
      refine w_ret ?_
      cases hF
      exact endQ_r rfl (.inl ⟨_, _, by first | rfl | (simp [List.take_of_length_le]; first | exact ⟨rfl, rfl⟩ | rfl), by simp, by first | rfl | simp [res_laws_szStringS, List.take_of_length_le]⟩)

def c30 : MC := (.seq (.reg [⟨(some 2), none, (.f (.box (.t 0)))⟩, ⟨(some 4), none, (.p true (.mv (.c (.int .i64 0))))⟩]) (.seq (.reg [⟨(some 5), none, (.p true (.mv (.t 1)))⟩, ⟨(some 6), none, (.p true (.fad (.t 2) 0))⟩, ⟨(some 7), none, (.p true (.ld (.t 6) 1 false))⟩, ⟨(some 8), none, (.p true (.lens (.t 7)))⟩, ⟨(some 9), none, (.p true (.bin .sub (.t 5) (.t 8)))⟩, ⟨(some 1), none, (.p true (.mv (.t 9)))⟩]) (.seq (.seq (.reg [⟨(some 10), none, (.p true (.mv (.t 1)))⟩, ⟨(some 11), none, (.p true (.bin .lss (.t 10) (.c (.int .i64 0))))⟩]) (.cond (.t 11) (.seq (.reg [⟨(some 4), none, (.p true (.mv (.c (.int .i64 (-1)))))⟩]) .ret) .skip)) (.seq (.reg [⟨(some 12), none, (.p true (.fad (.t 2) 2))⟩, ⟨(some 13), none, (.p true (.ld (.t 12) 1 false))⟩, ⟨(some 14), none, (.p true (.mv (.t 1)))⟩, ⟨(some 15), none, (.call true 79 [(.t 13), (.t 14)])⟩, ⟨(some 1), none, (.p true (.mv (.t 15)))⟩]) (.seq (.seq (.reg [⟨(some 16), none, (.p true (.mv (.t 1)))⟩, ⟨(some 17), none, (.p true (.bin .lss (.t 16) (.c (.int .i64 0))))⟩]) (.cond (.t 17) (.seq (.reg [⟨(some 4), none, (.p true (.mv (.c (.int .i64 (-1)))))⟩]) .ret) .skip)) (.seq (.reg [⟨(some 18), none, (.p true (.mv (.t 1)))⟩, ⟨(some 4), none, (.p true (.mv (.t 18)))⟩]) .ret))))))
theorem c30_is : compFn Try.prog 30 = some (c30, [(.tmp 4)]) := by kernel_rfl
theorem c30_ok : okFn Try.prog 30 = true := by kernel_rfl

noncomputable def F_laws_szPerson (v0 : TPerson) (v1 : Int) : Option (Int) :=
  (bif (decide (w64 (v1 - (v0.1.length : Int)) < (0 : Int))) then some (-1)
  else ((F_laws_szStringS v0.2.2 (w64 (v1 - (v0.1.length : Int)))).bind fun v1000 => (bif (decide (v1000 < (0 : Int))) then some (-1)
  else some v1000)))
@[simp] def res_laws_szPerson (r : Int) : RV := .one (.one (.val (.int .i64 r)))
theorem con_laws_szPerson {v0 : TPerson} {v1 : Int} {r : Int} (hF : F_laws_szPerson v0 v1 = some r) : Con Try.prog 30 [ePerson v0, .int .i64 v1] (res_laws_szPerson r) := by
  unfold F_laws_szPerson at hF
  refine con_of c30_is fun N => ?_
  refine w_reg_seq 0 128 rfl rfl ?_
  refine qf (.ptr 0 0 0) [(0, .box [AS v0.1, AI v0.2.1, .val none (.sl 1 (v0.2.2.map V.str))])] (by simp) ?_
  refine qp (AI 0) rfl ?_
  refine r_nil ?_
  refine w_reg_seq 128 512 rfl rfl ?_
  refine qp (AI v1) rfl (qp (.ptr 0 0 0) rfl (qp (AS v0.1) rfl (qp (AI (v0.1.length : Int)) rfl (qp (AI (w64 (v1 - (v0.1.length : Int)))) rfl (qp (AI (w64 (v1 - (v0.1.length : Int)))) rfl ?_)))))
  refine r_nil ?_
  refine w_seq ?_
  refine w_reg_seq 512 640 rfl rfl ?_
  refine qp (AI (w64 (v1 - (v0.1.length : Int)))) rfl (qp (AB (decide (w64 (v1 - (v0.1.length : Int)) < (0 : Int)))) rfl ?_)
  refine r_nil ?_
  refine w_condF hF rfl (fun hF => ?_) (fun hF => ?_)
  ·
    refine w_reg_seq 640 704 rfl rfl ?_
    refine qp (AI (-1)) rfl ?_
    refine r_nil ?_
    refine w_ret ?_
    refine thenQ_r ?_
    cases hF
    exact endQ_r rfl (.inl ⟨_, _, by first | rfl | (simp [List.take_of_length_le]; first | exact ⟨rfl, rfl⟩ | rfl), by simp, by first | rfl | simp [res_laws_szPerson, List.take_of_length_le]⟩)
  ·
    refine w_skip ?_
    refine thenQ_n ?_
    refine w_reg_seq 640 960 rfl rfl ?_
    refine qp (.ptr 0 0 2) rfl (qp (.val none (.sl 1 (v0.2.2.map V.str))) rfl (qp (AI (w64 (v1 - (v0.1.length : Int)))) rfl ?_))
    obtain ⟨v1000, e1000, hF⟩ := bind_get hF
    refine qc (AI v1000) [(0, .box [AS v0.1, AI v0.2.1, .val none (.sl 1 (v0.2.2.map V.str))])] false (con_laws_szStringS e1000) c79_ok (by first | rfl | simp) rfl ?_
    refine qp (AI v1000) rfl ?_
    refine r_nil ?_
    refine w_seq ?_
    refine w_reg_seq 960 1088 rfl rfl ?_
    refine qp (AI v1000) rfl (qp (AB (decide (v1000 < (0 : Int)))) rfl ?_)
    refine r_nil ?_
    refine w_condF hF rfl (fun hF => ?_) (fun hF => ?_)
    ·
      refine w_reg_seq 1088 1152 rfl rfl ?_
      refine qp (AI (-1)) rfl ?_
      refine r_nil ?_
      refine w_ret ?_
      refine thenQ_r ?_
      cases hF
      exact endQ_r rfl (.inl ⟨_, _, by first | rfl | (simp [List.take_of_length_le]; first | exact ⟨rfl, rfl⟩ | rfl), by simp, by first | rfl | simp [res_laws_szPerson, List.take_of_length_le]⟩)
    ·
      refine w_skip ?_
      refine thenQ_n ?_
      refine w_reg_seq 1088 1216 rfl rfl ?_
      refine qp (AI v1000) rfl (qp (AI v1000) rfl ?_)
      refine r_nil ?_
      refine w_ret ?_
      cases hF
      exact endQ_r rfl (.inl ⟨_, _, by first | rfl | (simp [List.take_of_length_le]; first | exact ⟨rfl, rfl⟩ | rfl), by simp, by first | rfl | simp [res_laws_szPerson, List.take_of_length_le]⟩)

def c14 : MC := (.seq (.reg [⟨(some 4), none, (.p true (.mv (.c (.int .i64 0))))⟩]) (.seq (.reg [⟨(some 6), none, (.p true (.mv (.t 1)))⟩, ⟨(some 7), none, (.p true (.mv (.t 0)))⟩, ⟨(some 8), none, (.p true (.len (.t 7)))⟩, ⟨(some 9), none, (.p true (.bin .sub (.t 6) (.t 8)))⟩, ⟨(some 1), none, (.p true (.mv (.t 9)))⟩]) (.seq (.seq (.reg [⟨(some 10), none, (.p true (.mv (.t 1)))⟩, ⟨(some 11), none, (.p true (.bin .lss (.t 10) (.c (.int .i64 0))))⟩]) (.cond (.t 11) (.seq (.reg [⟨(some 4), none, (.p true (.mv (.c (.int .i64 (-1)))))⟩]) .ret) .skip)) (.seq (.seq (.reg [⟨(some 5), none, (.p true (.mv (.c (.int .i64 0))))⟩]) (.block 0 (.loop (.seq (.seq (.reg [⟨(some 12), none, (.p true (.mv (.t 5)))⟩, ⟨(some 13), none, (.p true (.mv (.t 0)))⟩, ⟨(some 14), none, (.p true (.len (.t 13)))⟩, ⟨(some 15), none, (.p true (.bin .lss (.t 12) (.t 14)))⟩]) (.cond (.t 15) .skip (.exit 0))) (.seq (.block 1 (.seq (.reg [⟨(some 18), none, (.p true (.mv (.t 0)))⟩, ⟨(some 19), none, (.p true (.mv (.t 5)))⟩, ⟨(some 20), none, (.p true (.iad (.t 18) (.t 19) 3))⟩, ⟨(some 21), none, (.p true (.ld (.t 20) 3 true))⟩, ⟨(some 22), none, (.p true (.mv (.t 1)))⟩, ⟨(some 23), none, (.call true 30 [(.t 21), (.t 22)])⟩, ⟨(some 1), none, (.p true (.mv (.t 23)))⟩]) (.seq (.reg [⟨(some 24), none, (.p true (.mv (.t 1)))⟩, ⟨(some 25), none, (.p true (.bin .lss (.t 24) (.c (.int .i64 0))))⟩]) (.cond (.t 25) (.seq (.reg [⟨(some 4), none, (.p true (.mv (.c (.int .i64 (-1)))))⟩]) .ret) .skip)))) (.reg [⟨(some 16), none, (.p true (.mv (.t 5)))⟩, ⟨(some 17), none, (.p true (.bin .add (.t 16) (.c (.int .i64 1))))⟩, ⟨(some 5), none, (.p true (.mv (.t 17)))⟩])))))) (.seq (.reg [⟨(some 26), none, (.p true (.mv (.t 1)))⟩, ⟨(some 4), none, (.p true (.mv (.t 26)))⟩]) .ret)))))
theorem c14_is : compFn Try.prog 14 = some (c14, [(.tmp 4)]) := by kernel_rfl
theorem c14_ok : okFn Try.prog 14 = true := by kernel_rfl

noncomputable def F_laws_szPersonS_l0 (v0 : List TPerson) (k0 : Int × Int → Option (Int)) : Int × Int → Option (Int)
  | (v8, v9) => (bif (decide (v9 < (v0.length : Int))) then ((ix v0 v9).bind fun v1000 => ((F_laws_szPerson v1000 v8).bind fun v1001 => (bif (decide (v1001 < (0 : Int))) then some (-1)
  else k0 (v1001, w64 (v9 + 1)))))
  else some v8)
noncomputable def F_laws_szPersonS (v0 : List TPerson) (v1 : Int) : Option (Int) :=
  (bif (decide (w64 (v1 - (v0.length : Int)) < (0 : Int))) then some (-1)
  else loop (F_laws_szPersonS_l0 v0) (w64 (v1 - (v0.length : Int)), 0))
@[simp] def res_laws_szPersonS (r : Int) : RV := .one (.one (.val (.int .i64 r)))
theorem con_laws_szPersonS {v0 : List TPerson} {v1 : Int} {r : Int} (hF : F_laws_szPersonS v0 v1 = some r) : Con Try.prog 14 [.sl 3 (v0.map ePerson), .int .i64 v1] (res_laws_szPersonS r) := by
  unfold F_laws_szPersonS at hF
  refine con_of c14_is fun N => ?_
  refine w_reg_seq 0 64 rfl rfl ?_
  refine qp (AI 0) rfl ?_
  refine r_nil ?_
  refine w_reg_seq 64 384 rfl rfl ?_
  refine qp (AI v1) rfl (qp (.val none (.sl 3 (v0.map ePerson))) rfl (qp (AI (v0.length : Int)) (ev_len_n rfl) (qp (AI (w64 (v1 - (v0.length : Int)))) rfl (qp (AI (w64 (v1 - (v0.length : Int)))) rfl ?_))))
  refine r_nil ?_
  refine w_seq ?_
  refine w_reg_seq 384 512 rfl rfl ?_
  refine qp (AI (w64 (v1 - (v0.length : Int)))) rfl (qp (AB (decide (w64 (v1 - (v0.length : Int)) < (0 : Int)))) rfl ?_)
  refine r_nil ?_
  refine w_condF hF rfl (fun hF => ?_) (fun hF => ?_)
  ·
    refine w_reg_seq 512 576 rfl rfl ?_
    refine qp (AI (-1)) rfl ?_
    refine r_nil ?_
    refine w_ret ?_
    refine thenQ_r ?_
    cases hF
    exact endQ_r rfl (.inl ⟨_, _, by first | rfl | (simp [List.take_of_length_le]; first | exact ⟨rfl, rfl⟩ | rfl), by simp, by first | rfl | simp [res_laws_szPersonS, List.take_of_length_le]⟩)
  ·
    refine w_skip ?_
    refine thenQ_n ?_
    refine w_seq ?_
    refine w_reg_seq 512 576 rfl rfl ?_
    refine qp (AI 0) rfl ?_
    refine r_nil ?_
    refine w_block ?_
    refine w_ren (l' := [(0, .val none (.sl 3 (v0.map ePerson))), (1, AI (w64 (v1 - (v0.length : Int)))), (5, AI 0)]) (L := []) [0, 1, 5] [] 1 (by first | rfl | simp) (by first | rfl | simp) (by decide) (by decide) (by decide) ?_
    refine w_loopF (F_laws_szPersonS_l0 v0) (fun s : Int × Int => mkS [(0, .val none (.sl 3 (v0.map ePerson))), (1, AI s.1), (5, AI s.2)] (fo []) 1) hF ?_
    rintro k0 ⟨v8, v9⟩ hF
    rw [F_laws_szPersonS_l0] at hF
    try dsimp only
    refine w_seq ?_
    refine w_reg_seq 1 257 rfl rfl ?_
    refine qp (AI v9) rfl (qp (.val none (.sl 3 (v0.map ePerson))) rfl (qp (AI (v0.length : Int)) (ev_len_n rfl) (qp (AB (decide (v9 < (v0.length : Int)))) rfl ?_)))
    refine r_nil ?_
    refine w_condF hF rfl (fun hF => ?_) (fun hF => ?_)
    ·
      refine w_skip ?_
      refine thenQ_n ?_
      refine w_seq ?_
      refine w_block ?_
      refine w_reg_seq 257 705 rfl rfl ?_
      refine qp (.val none (.sl 3 (v0.map ePerson))) rfl (qp (AI v9) rfl ?_)
      obtain ⟨v1000, e1000, hF⟩ := bind_get hF
      refine qp (.val none (.ptr [.str v1000.1, .int .i64 v1000.2.1, .sl 1 (v1000.2.2.map V.str)])) (ev_iad_n rfl rfl e1000 rfl) (qp (.val none (ePerson v1000)) rfl (qp (AI v8) rfl ?_))
      obtain ⟨v1001, e1001, hF⟩ := bind_get hF
      refine qc (AI v1001) [] false (con_laws_szPerson e1001) c30_ok (by first | rfl | simp) rfl ?_
      refine qp (AI v1001) rfl ?_
      refine r_nil ?_
      refine w_reg_seq 705 833 rfl rfl ?_
      refine qp (AI v1001) rfl (qp (AB (decide (v1001 < (0 : Int)))) rfl ?_)
      refine r_nil ?_
      refine w_condF hF rfl (fun hF => ?_) (fun hF => ?_)
      ·
        refine w_reg_seq 833 897 rfl rfl ?_
        refine qp (AI (-1)) rfl ?_
        refine r_nil ?_
        refine w_ret ?_
        refine blockQ_r ?_
        refine thenQ_r ?_
        refine thenQ_r ?_
        refine blockQ_r ?_
        refine thenQ_r ?_
        cases hF
        exact endQ_r rfl (.inl ⟨_, _, by first | rfl | (simp [List.take_of_length_le]; first | exact ⟨rfl, rfl⟩ | rfl), by simp, by first | rfl | simp [res_laws_szPersonS, List.take_of_length_le]⟩)
      ·
        refine w_skip ?_
        refine blockQ_n ?_
        refine thenQ_n ?_
        refine w_reg 833 1025 rfl rfl ?_
        refine qp (AI v9) rfl (qp (AI (w64 (v9 + 1))) rfl (qp (AI (w64 (v9 + 1))) rfl ?_))
        refine r_nil ?_
        refine thenQ_n ?_
        refine aw_ren (l' := [(0, .val none (.sl 3 (v0.map ePerson))), (1, AI v1001), (5, AI (w64 (v9 + 1)))]) (L := []) [0, 1, 5] [] 1 (by first | rfl | simp) (by first | rfl | simp) (by decide) (by decide) (by decide) ⟨_, by rfl, hF⟩
    ·
      refine w_exit ?_
      refine thenQ_e ?_
      refine thenQ_e ?_
      refine blockQ_e ?_
      refine thenQ_n ?_
      refine w_reg_seq 257 385 rfl rfl ?_
      refine qp (AI v8) rfl (qp (AI v8) rfl ?_)
      refine r_nil ?_
      refine w_ret ?_
      cases hF
      exact endQ_r rfl (.inl ⟨_, _, by first | rfl | (simp [List.take_of_length_le]; first | exact ⟨rfl, rfl⟩ | rfl), by simp, by first | rfl | simp [res_laws_szPersonS, List.take_of_length_le]⟩)

def c82 : MC := (.seq (.reg [⟨(some 2), none, (.f (.nilrow 1))⟩]) (.seq (.reg [⟨(some 5), none, (.p true (.mv (.t 0)))⟩, ⟨(some 6), none, (.p true (.len (.t 5)))⟩, ⟨(some 7), none, (.f (.mks 1 16 (.str []) (.t 6) (.t 6)))⟩, ⟨(some 3), none, (.p true (.mv (.t 7)))⟩]) (.seq (.seq (.reg [⟨(some 4), none, (.p true (.mv (.c (.int .i64 0))))⟩]) (.block 0 (.loop (.seq (.seq (.reg [⟨(some 8), none, (.p true (.mv (.t 4)))⟩, ⟨(some 9), none, (.p true (.mv (.t 0)))⟩, ⟨(some 10), none, (.p true (.len (.t 9)))⟩, ⟨(some 11), none, (.p true (.bin .lss (.t 8) (.t 10)))⟩]) (.cond (.t 11) .skip (.exit 0))) (.seq (.block 1 (.reg [⟨(some 14), none, (.p true (.mv (.t 3)))⟩, ⟨(some 15), none, (.p true (.mv (.t 4)))⟩, ⟨(some 16), none, (.p true (.mv (.t 0)))⟩, ⟨(some 17), none, (.p true (.mv (.t 4)))⟩, ⟨(some 18), none, (.p true (.iad (.t 16) (.t 17) 1))⟩, ⟨(some 19), none, (.p true (.ld (.t 18) 1 false))⟩, ⟨(some 20), none, (.p true (.iad (.t 14) (.t 15) 1))⟩, ⟨none, none, (.f (.st (.t 20) (.t 19) 1))⟩])) (.reg [⟨(some 12), none, (.p true (.mv (.t 4)))⟩, ⟨(some 13), none, (.p true (.bin .add (.t 12) (.c (.int .i64 1))))⟩, ⟨(some 4), none, (.p true (.mv (.t 13)))⟩])))))) (.seq (.reg [⟨(some 21), none, (.p true (.mv (.t 3)))⟩, ⟨(some 2), none, (.p true (.mv (.t 21)))⟩]) .ret))))
theorem c82_is : compFn Try.prog 82 = some (c82, [(.tmp 2)]) := by kernel_rfl
theorem c82_ok : okFn Try.prog 82 = true := by kernel_rfl

noncomputable def F_laws_toStringS_l0 (v0 : List (List UInt8)) (k1 : Int × (List (List UInt8)) → Option (List (List UInt8))) : Int × (List (List UInt8)) → Option (List (List UInt8))
  | (v1007, v1008) => (bif (decide (v1007 < (v0.length : Int))) then ((ix v0 v1007).bind fun v1009 => ((ix v1008 v1007).bind fun v1010 => k1 (w64 (v1007 + 1), List.set v1008 v1007.toNat v1009)))
  else some v1008)
noncomputable def F_laws_toStringS (v0 : List (List UInt8)) : Option (List (List UInt8)) :=
  (need (0 ≤ (v0.length : Int) ∧ (v0.length : Int) ≤ (v0.length : Int) ∧ (v0.length : Int) ≤ 9223372036854775807 ∧ 16 * (v0.length : Int) ≤ 281474976710656) (loop (F_laws_toStringS_l0 v0) (0, List.replicate ((v0.length : Int)).toNat ([] : List UInt8))))
@[simp] def res_laws_toStringS (r : List (List UInt8)) : RV := .one (.one (.row true 1 (r.map V.str)))
theorem con_laws_toStringS {v0 : List (List UInt8)} {r : List (List UInt8)} (hF : F_laws_toStringS v0 = some r) : Con Try.prog 82 [.sl 1 (v0.map V.str)] (res_laws_toStringS r) := by
  unfold F_laws_toStringS at hF
  refine con_of c82_is fun N => ?_
  refine w_reg_seq 0 64 rfl rfl ?_
  refine qf (.sl 0 0 0) [(0, .row true 1 (([] : List Int).map (V.int .i64)))] (by simp) ?_
  refine r_nil ?_
  refine w_reg_seq 64 320 rfl rfl ?_
  refine qp (.val none (.sl 1 (v0.map V.str))) rfl (qp (AI (v0.length : Int)) (ev_len_n rfl) ?_)
  obtain ⟨g1000, hF⟩ := need_some hF
  refine qf (.sl 192 0 ((List.replicate ((v0.length : Int)).toNat ([] : List UInt8)).length)) [(192, .row true 1 ((List.replicate ((v0.length : Int)).toNat ([] : List UInt8)).map V.str)), (0, .row true 1 (([] : List Int).map (V.int .i64)))] (effT_mks rfl rfl g1000 rfl) ?_
  refine qp (.sl 192 0 ((List.replicate ((v0.length : Int)).toNat ([] : List UInt8)).length)) rfl ?_
  refine r_nil ?_
  refine w_seq ?_
  refine w_reg_seq 320 384 rfl rfl ?_
  refine qp (AI 0) rfl ?_
  refine r_nil ?_
  refine w_block ?_
  refine w_ren (l' := [(0, .val none (.sl 1 (v0.map V.str))), (3, .sl 0 0 (List.replicate ((v0.length : Int)).toNat ([] : List UInt8)).length), (4, AI 0)]) (L := [(0, .row true 1 ((List.replicate ((v0.length : Int)).toNat ([] : List UInt8)).map V.str))]) [0, 3, 4] [(192, 0)] 1 (by first | rfl | simp) (by first | rfl | simp) (by decide) (by decide) (by decide) ?_
  refine w_loopF (F_laws_toStringS_l0 v0) (fun s : Int × (List (List UInt8)) => mkS [(0, .val none (.sl 1 (v0.map V.str))), (3, .sl 0 0 s.2.length), (4, AI s.1)] (fo [(0, .row true 1 (s.2.map V.str))]) 1) hF ?_
  rintro k1 ⟨v1007, v1008⟩ hF
  rw [F_laws_toStringS_l0] at hF
  try dsimp only
  refine w_seq ?_
  refine w_reg_seq 1 257 rfl rfl ?_
  refine qp (AI v1007) rfl (qp (.val none (.sl 1 (v0.map V.str))) rfl (qp (AI (v0.length : Int)) (ev_len_n rfl) (qp (AB (decide (v1007 < (v0.length : Int)))) rfl ?_)))
  refine r_nil ?_
  refine w_condF hF rfl (fun hF => ?_) (fun hF => ?_)
  ·
    refine w_skip ?_
    refine thenQ_n ?_
    refine w_seq ?_
    refine w_block ?_
    refine w_reg 257 769 rfl rfl ?_
    refine qp (.sl 0 0 v1008.length) rfl (qp (AI v1007) rfl (qp (.val none (.sl 1 (v0.map V.str))) rfl (qp (AI v1007) rfl ?_)))
    obtain ⟨v1009, e1009, hF⟩ := bind_get hF
    refine qp (.val none (.ptr [.str v1009])) (ev_iad_n rfl rfl e1009 rfl) (qp (AS v1009) rfl ?_)
    obtain ⟨v1010, e1010, hF⟩ := bind_get hF
    refine qp (.ptr 0 v1007.toNat 0) (ev_iad_r rfl (by simp) rfl rfl e1010) ?_
    refine qf0 (.undef) [(0, .row true 1 ((List.set v1008 v1007.toNat v1009).map V.str)), (0, .row true 1 (v1008.map V.str))] (effT_st rfl rfl (ix_some e1010).2 rfl rfl (by rfl) (by first | rfl | simp [patch, reb, List.take_of_length_le]) (by rfl) rfl) ?_
    refine r_nil ?_
    refine blockQ_n ?_
    refine thenQ_n ?_
    refine w_reg 769 961 rfl rfl ?_
    refine qp (AI v1007) rfl (qp (AI (w64 (v1007 + 1))) rfl (qp (AI (w64 (v1007 + 1))) rfl ?_))
    refine r_nil ?_
    refine thenQ_n ?_
    refine aw_ren (l' := [(0, .val none (.sl 1 (v0.map V.str))), (3, .sl 0 0 (List.set v1008 v1007.toNat v1009).length), (4, AI (w64 (v1007 + 1)))]) (L := [(0, .row true 1 ((List.set v1008 v1007.toNat v1009).map V.str))]) [0, 3, 4] [(0, 0)] 1 (by first | rfl | simp) (by first | rfl | simp) (by decide) (by decide) (by decide) ⟨_, by rfl, hF⟩
  ·
    refine w_exit ?_
    refine thenQ_e ?_
    refine thenQ_e ?_
    refine blockQ_e ?_
    refine thenQ_n ?_
    refine w_reg_seq 257 385 rfl rfl ?_
    refine qp (.sl 0 0 v1008.length) rfl (qp (.sl 0 0 v1008.length) rfl ?_)
    refine r_nil ?_
    refine w_ret ?_
    cases hF
    exact endQ_r rfl (.inl ⟨_, _, by first | rfl | (simp [List.take_of_length_le]; first | exact ⟨rfl, rfl⟩ | rfl), by simp, by first | rfl | simp [res_laws_toStringS, List.take_of_length_le]⟩)

def c32 : MC := (.seq (.reg [⟨(some 1), none, (.f (.box (.t 0)))⟩, ⟨(some 2), none, (.f (.alloc [((.str []), (0, false)), ((.int .i64 0), (0, false)), ((.sl 0 []), (1, false))]))⟩]) (.seq (.reg [⟨(some 3), none, (.f (.alloc [((.str []), (0, false)), ((.int .i64 0), (0, false)), ((.sl 0 []), (1, false))]))⟩]) (.seq (.reg [⟨(some 4), none, (.p true (.fad (.t 1) 0))⟩, ⟨(some 5), none, (.p true (.ld (.t 4) 1 false))⟩, ⟨(some 6), none, (.p true (.fad (.t 3) 0))⟩, ⟨none, none, (.f (.st (.t 6) (.t 5) 1))⟩]) (.seq (.reg [⟨(some 7), none, (.p true (.fad (.t 1) 1))⟩, ⟨(some 8), none, (.p true (.ld (.t 7) 1 false))⟩, ⟨(some 9), none, (.p true (.fad (.t 3) 1))⟩, ⟨none, none, (.f (.st (.t 9) (.t 8) 1))⟩]) (.seq (.reg [⟨(some 10), none, (.p true (.fad (.t 1) 2))⟩, ⟨(some 11), none, (.p true (.ld (.t 10) 1 false))⟩, ⟨(some 12), none, (.call true 82 [(.t 11)])⟩, ⟨(some 13), none, (.p true (.fad (.t 3) 2))⟩, ⟨none, none, (.f (.st (.t 13) (.t 12) 1))⟩]) (.seq (.reg [⟨(some 14), none, (.p true (.ld (.t 3) 3 true))⟩, ⟨none, none, (.f (.st (.t 2) (.t 14) 3))⟩]) .ret))))))
theorem c32_is : compFn Try.prog 32 = some (c32, [(.cell (.ld (.t 2) 3 true))]) := by kernel_rfl
theorem c32_ok : okFn Try.prog 32 = true := by kernel_rfl

noncomputable def F_laws_toPerson (v0 : TPerson) : Option (TPerson) :=
  ((F_laws_toStringS v0.2.2).bind fun v1000 => some (v0.1, v0.2.1, v1000))
@[simp] def res_laws_toPerson (r : TPerson) : RV := .one (.agg [.val (.str r.1), .val (.int .i64 r.2.1), .row true 1 (r.2.2.map V.str)])
theorem con_laws_toPerson {v0 : TPerson} {r : TPerson} (hF : F_laws_toPerson v0 = some r) : Con Try.prog 32 [ePerson v0] (res_laws_toPerson r) := by
  unfold F_laws_toPerson at hF
  refine con_of c32_is fun N => ?_
  refine w_reg_seq 0 128 rfl rfl ?_
  refine qf (.ptr 0 0 0) [(0, .box [AS v0.1, AI v0.2.1, .val none (.sl 1 (v0.2.2.map V.str))])] (by simp) ?_
  refine qf (.ptr 64 0 0) [(64, .box [AS [], AI 0, .sl 65 0 0]), (65, .row true 1 (([] : List Int).map (V.int .i64))), (0, .box [AS v0.1, AI v0.2.1, .val none (.sl 1 (v0.2.2.map V.str))])] (by simp) ?_
  refine r_nil ?_
  refine w_reg_seq 128 192 rfl rfl ?_
  refine qf (.ptr 128 0 0) [(128, .box [AS [], AI 0, .sl 129 0 0]), (129, .row true 1 (([] : List Int).map (V.int .i64))), (64, .box [AS [], AI 0, .sl 65 0 0]), (65, .row true 1 (([] : List Int).map (V.int .i64))), (0, .box [AS v0.1, AI v0.2.1, .val none (.sl 1 (v0.2.2.map V.str))])] (by simp) ?_
  refine r_nil ?_
  refine w_reg_seq 192 448 rfl rfl ?_
  refine qp (.ptr 0 0 0) rfl (qp (AS v0.1) rfl (qp (.ptr 128 0 0) rfl ?_))
  refine qf0 (.undef) [(128, .box [AS v0.1, AI 0, .sl 129 0 0]), (128, .box [AS [], AI 0, .sl 129 0 0]), (129, .row true 1 (([] : List Int).map (V.int .i64))), (64, .box [AS [], AI 0, .sl 65 0 0]), (65, .row true 1 (([] : List Int).map (V.int .i64))), (0, .box [AS v0.1, AI v0.2.1, .val none (.sl 1 (v0.2.2.map V.str))])] (by simp) ?_
  refine r_nil ?_
  refine w_reg_seq 448 704 rfl rfl ?_
  refine qp (.ptr 0 0 1) rfl (qp (AI v0.2.1) rfl (qp (.ptr 128 0 1) rfl ?_))
  refine qf0 (.undef) [(128, .box [AS v0.1, AI v0.2.1, .sl 129 0 0]), (128, .box [AS v0.1, AI 0, .sl 129 0 0]), (128, .box [AS [], AI 0, .sl 129 0 0]), (129, .row true 1 (([] : List Int).map (V.int .i64))), (64, .box [AS [], AI 0, .sl 65 0 0]), (65, .row true 1 (([] : List Int).map (V.int .i64))), (0, .box [AS v0.1, AI v0.2.1, .val none (.sl 1 (v0.2.2.map V.str))])] (by simp) ?_
  refine r_nil ?_
  refine w_reg_seq 704 1024 rfl rfl ?_
  refine qp (.ptr 0 0 2) rfl (qp (.val none (.sl 1 (v0.2.2.map V.str))) rfl ?_)
  obtain ⟨v1000, e1000, hF⟩ := bind_get hF
  refine qc (.sl 832 0 v1000.length) [(832, .row true 1 (v1000.map V.str)), (128, .box [AS v0.1, AI v0.2.1, .sl 129 0 0]), (128, .box [AS v0.1, AI 0, .sl 129 0 0]), (128, .box [AS [], AI 0, .sl 129 0 0]), (129, .row true 1 (([] : List Int).map (V.int .i64))), (64, .box [AS [], AI 0, .sl 65 0 0]), (65, .row true 1 (([] : List Int).map (V.int .i64))), (0, .box [AS v0.1, AI v0.2.1, .val none (.sl 1 (v0.2.2.map V.str))])] false (con_laws_toStringS e1000) c82_ok (by first | rfl | simp) (by simp [res_laws_toStringS]) ?_
  refine qp (.ptr 128 0 2) rfl ?_
  refine qf0 (.undef) [(128, .box [AS v0.1, AI v0.2.1, .sl 832 0 v1000.length]), (832, .row true 1 (v1000.map V.str)), (128, .box [AS v0.1, AI v0.2.1, .sl 129 0 0]), (128, .box [AS v0.1, AI 0, .sl 129 0 0]), (128, .box [AS [], AI 0, .sl 129 0 0]), (129, .row true 1 (([] : List Int).map (V.int .i64))), (64, .box [AS [], AI 0, .sl 65 0 0]), (65, .row true 1 (([] : List Int).map (V.int .i64))), (0, .box [AS v0.1, AI v0.2.1, .val none (.sl 1 (v0.2.2.map V.str))])] (by simp) ?_
  refine r_nil ?_
  refine w_reg_seq 1024 1152 rfl rfl ?_
  refine qp (.agg [AS v0.1, AI v0.2.1, .sl 832 0 v1000.length]) rfl ?_
  refine qf0 (.undef) [(64, .box [AS v0.1, AI v0.2.1, .sl 832 0 v1000.length]), (128, .box [AS v0.1, AI v0.2.1, .sl 832 0 v1000.length]), (832, .row true 1 (v1000.map V.str)), (128, .box [AS v0.1, AI v0.2.1, .sl 129 0 0]), (128, .box [AS v0.1, AI 0, .sl 129 0 0]), (128, .box [AS [], AI 0, .sl 129 0 0]), (129, .row true 1 (([] : List Int).map (V.int .i64))), (64, .box [AS [], AI 0, .sl 65 0 0]), (65, .row true 1 (([] : List Int).map (V.int .i64))), (0, .box [AS v0.1, AI v0.2.1, .val none (.sl 1 (v0.2.2.map V.str))])] (by simp) ?_
  refine r_nil ?_
  refine w_ret ?_
  cases hF
  exact endQ_r rfl (.inl ⟨_, _, by first | rfl | (simp [List.take_of_length_le]; first | exact ⟨rfl, rfl⟩ | rfl), by simp, by first | rfl | simp [res_laws_toPerson, List.take_of_length_le]⟩)

def c16 : MC := (.seq (.reg [⟨(some 2), none, (.f (.nilrow 3))⟩]) (.seq (.reg [⟨(some 5), none, (.p true (.mv (.t 0)))⟩, ⟨(some 6), none, (.p true (.len (.t 5)))⟩, ⟨(some 7), none, (.f (.mks 3 48 (.agg [(.str []), (.int .i64 0), (.sl 1 [])]) (.t 6) (.t 6)))⟩, ⟨(some 3), none, (.p true (.mv (.t 7)))⟩]) (.seq (.seq (.reg [⟨(some 4), none, (.p true (.mv (.c (.int .i64 0))))⟩]) (.block 0 (.loop (.seq (.seq (.reg [⟨(some 8), none, (.p true (.mv (.t 4)))⟩, ⟨(some 9), none, (.p true (.mv (.t 0)))⟩, ⟨(some 10), none, (.p true (.len (.t 9)))⟩, ⟨(some 11), none, (.p true (.bin .lss (.t 8) (.t 10)))⟩]) (.cond (.t 11) .skip (.exit 0))) (.seq (.block 1 (.reg [⟨(some 14), none, (.p true (.mv (.t 3)))⟩, ⟨(some 15), none, (.p true (.mv (.t 4)))⟩, ⟨(some 16), none, (.p true (.mv (.t 0)))⟩, ⟨(some 17), none, (.p true (.mv (.t 4)))⟩, ⟨(some 18), none, (.p true (.iad (.t 16) (.t 17) 3))⟩, ⟨(some 19), none, (.p true (.ld (.t 18) 3 true))⟩, ⟨(some 20), none, (.call true 32 [(.t 19)])⟩, ⟨(some 21), none, (.p true (.iad (.t 14) (.t 15) 3))⟩, ⟨none, none, (.f (.st (.t 21) (.t 20) 3))⟩])) (.reg [⟨(some 12), none, (.p true (.mv (.t 4)))⟩, ⟨(some 13), none, (.p true (.bin .add (.t 12) (.c (.int .i64 1))))⟩, ⟨(some 4), none, (.p true (.mv (.t 13)))⟩])))))) (.seq (.reg [⟨(some 22), none, (.p true (.mv (.t 3)))⟩, ⟨(some 2), none, (.p true (.mv (.t 22)))⟩]) .ret))))
theorem c16_is : compFn Try.prog 16 = some (c16, [(.tmp 2)]) := by kernel_rfl
theorem c16_ok : okFn Try.prog 16 = true := by kernel_rfl

noncomputable def F_laws_toPersonS_l0 (v0 : List TPerson) (k1 : Int × (List TPerson) → Option (List TPerson)) : Int × (List TPerson) → Option (List TPerson)
  | (v1009, v1010) => (bif (decide (v1009 < (v0.length : Int))) then ((ix v0 v1009).bind fun v1011 => ((F_laws_toPerson v1011).bind fun v1012 => ((ix v1010 v1009).bind fun v1013 => k1 (w64 (v1009 + 1), List.set v1010 v1009.toNat v1012))))
  else some v1010)
noncomputable def F_laws_toPersonS (v0 : List TPerson) : Option (List TPerson) :=
  (need (0 ≤ (v0.length : Int) ∧ (v0.length : Int) ≤ (v0.length : Int) ∧ (v0.length : Int) ≤ 9223372036854775807 ∧ 48 * (v0.length : Int) ≤ 281474976710656) (loop (F_laws_toPersonS_l0 v0) (0, List.replicate ((v0.length : Int)).toNat (([], 0, []) : TPerson))))
@[simp] def res_laws_toPersonS (r : List TPerson) : RV := .one (.one (.row true 3 (r.map ePerson)))
theorem con_laws_toPersonS {v0 : List TPerson} {r : List TPerson} (hF : F_laws_toPersonS v0 = some r) : Con Try.prog 16 [.sl 3 (v0.map ePerson)] (res_laws_toPersonS r) := by
  unfold F_laws_toPersonS at hF
  refine con_of c16_is fun N => ?_
  refine w_reg_seq 0 64 rfl rfl ?_
  refine qf (.sl 0 0 0) [(0, .row true 3 (([] : List Int).map (V.int .i64)))] (by simp) ?_
  refine r_nil ?_
  refine w_reg_seq 64 320 rfl rfl ?_
  refine qp (.val none (.sl 3 (v0.map ePerson))) rfl (qp (AI (v0.length : Int)) (ev_len_n rfl) ?_)
  obtain ⟨g1000, hF⟩ := need_some hF
  refine qf (.sl 192 0 ((List.replicate ((v0.length : Int)).toNat (([], 0, []) : TPerson)).length)) [(192, .row true 3 ((List.replicate ((v0.length : Int)).toNat (([], 0, []) : TPerson)).map ePerson)), (0, .row true 3 (([] : List Int).map (V.int .i64)))] (effT_mks rfl rfl g1000 rfl) ?_
  refine qp (.sl 192 0 ((List.replicate ((v0.length : Int)).toNat (([], 0, []) : TPerson)).length)) rfl ?_
  refine r_nil ?_
  refine w_seq ?_
  refine w_reg_seq 320 384 rfl rfl ?_
  refine qp (AI 0) rfl ?_
  refine r_nil ?_
  refine w_block ?_
  refine w_ren (l' := [(0, .val none (.sl 3 (v0.map ePerson))), (3, .sl 0 0 (List.replicate ((v0.length : Int)).toNat (([], 0, []) : TPerson)).length), (4, AI 0)]) (L := [(0, .row true 3 ((List.replicate ((v0.length : Int)).toNat (([], 0, []) : TPerson)).map ePerson))]) [0, 3, 4] [(192, 0)] 1 (by first | rfl | simp) (by first | rfl | simp) (by decide) (by decide) (by decide) ?_
  refine w_loopF (F_laws_toPersonS_l0 v0) (fun s : Int × (List TPerson) => mkS [(0, .val none (.sl 3 (v0.map ePerson))), (3, .sl 0 0 s.2.length), (4, AI s.1)] (fo [(0, .row true 3 (s.2.map ePerson))]) 1) hF ?_
  rintro k1 ⟨v1009, v1010⟩ hF
  rw [F_laws_toPersonS_l0] at hF
  try dsimp only
  refine w_seq ?_
  refine w_reg_seq 1 257 rfl rfl ?_
  refine qp (AI v1009) rfl (qp (.val none (.sl 3 (v0.map ePerson))) rfl (qp (AI (v0.length : Int)) (ev_len_n rfl) (qp (AB (decide (v1009 < (v0.length : Int)))) rfl ?_)))
  refine r_nil ?_
  refine w_condF hF rfl (fun hF => ?_) (fun hF => ?_)
  ·
    refine w_skip ?_
    refine thenQ_n ?_
    refine w_seq ?_
    refine w_block ?_
    refine w_reg 257 833 rfl rfl ?_
    refine qp (.sl 0 0 v1010.length) rfl (qp (AI v1009) rfl (qp (.val none (.sl 3 (v0.map ePerson))) rfl (qp (AI v1009) rfl ?_)))
    obtain ⟨v1011, e1011, hF⟩ := bind_get hF
    refine qp (.val none (.ptr [.str v1011.1, .int .i64 v1011.2.1, .sl 1 (v1011.2.2.map V.str)])) (ev_iad_n rfl rfl e1011 rfl) (qp (.val none (ePerson v1011)) rfl ?_)
    obtain ⟨v1012, e1012, hF⟩ := bind_get hF
    refine qc (.agg [AS v1012.1, AI v1012.2.1, .sl 643 0 v1012.2.2.length]) [(643, .row true 1 (v1012.2.2.map V.str)), (0, .row true 3 (v1010.map ePerson))] false (con_laws_toPerson e1012) c32_ok (by first | rfl | simp) (by simp [res_laws_toPerson]) ?_
    obtain ⟨v1013, e1013, hF⟩ := bind_get hF
    refine qp (.ptr 0 v1009.toNat 0) (ev_iad_r rfl (by simp) rfl rfl e1013) ?_
    refine qf0 (.undef) [(0, .row true 3 ((List.set v1010 v1009.toNat v1012).map ePerson)), (643, .dead), (643, .row true 1 (v1012.2.2.map V.str)), (0, .row true 3 (v1010.map ePerson))] (effT_st rfl rfl (ix_some e1013).2 rfl rfl (by rfl) (by first | rfl | simp [patch, reb, List.take_of_length_le]) (by rfl) rfl) ?_
    refine r_nil ?_
    refine blockQ_n ?_
    refine thenQ_n ?_
    refine w_reg 833 1025 rfl rfl ?_
    refine qp (AI v1009) rfl (qp (AI (w64 (v1009 + 1))) rfl (qp (AI (w64 (v1009 + 1))) rfl ?_))
    refine r_nil ?_
    refine thenQ_n ?_
    refine aw_ren (l' := [(0, .val none (.sl 3 (v0.map ePerson))), (3, .sl 0 0 (List.set v1010 v1009.toNat v1012).length), (4, AI (w64 (v1009 + 1)))]) (L := [(0, .row true 3 ((List.set v1010 v1009.toNat v1012).map ePerson))]) [0, 3, 4] [(0, 0)] 1 (by first | rfl | simp) (by first | rfl | simp) (by decide) (by decide) (by decide) ⟨_, by rfl, hF⟩
  ·
    refine w_exit ?_
    refine thenQ_e ?_
    refine thenQ_e ?_
    refine blockQ_e ?_
    refine thenQ_n ?_
    refine w_reg_seq 257 385 rfl rfl ?_
    refine qp (.sl 0 0 v1010.length) rfl (qp (.sl 0 0 v1010.length) rfl ?_)
    refine r_nil ?_
    refine w_ret ?_
    cases hF
    exact endQ_r rfl (.inl ⟨_, _, by first | rfl | (simp [List.take_of_length_le]; first | exact ⟨rfl, rfl⟩ | rfl), by simp, by first | rfl | simp [res_laws_toPersonS, List.take_of_length_le]⟩)

def c139 : MC := (.seq (.reg [⟨(some 2), none, (.p true (.mv (.c (.bool false))))⟩]) (.seq (.reg [⟨(some 3), none, (.p true (.mv (.t 0)))⟩, ⟨(some 4), none, (.p true (.bin .geq (.t 3) (.c (.int .u8 97))))⟩, ⟨(some 5), none, (.p true (.mv (.t 4)))⟩, ⟨(some 6), (some (5, true)), (.p true (.mv (.t 0)))⟩, ⟨(some 7), (some (5, true)), (.p true (.bin .leq (.t 6) (.c (.int .u8 122))))⟩, ⟨(some 8), none, (.p true (.pick (.t 5) (.t 7) (.c (.bool false))))⟩, ⟨(some 2), none, (.p true (.mv (.t 8)))⟩]) .ret))
theorem c139_is : compFn Try.prog 139 = some (c139, [(.tmp 2)]) := by kernel_rfl
theorem c139_ok : okFn Try.prog 139 = true := by kernel_rfl

noncomputable def F_spec_l01Small (v0 : Int) : Option (Bool) :=
  (bif (decide ((97 : Int) ≤ v0)) then some (decide (v0 ≤ (122 : Int)))
  else some false)
@[simp] def res_spec_l01Small (r : Bool) : RV := .one (.one (.val (.bool r)))
theorem con_spec_l01Small {v0 : Int} {r : Bool} (hF : F_spec_l01Small v0 = some r) : Con Try.prog 139 [.int .u8 v0] (res_spec_l01Small r) := by
  unfold F_spec_l01Small at hF
  refine con_of c139_is fun N => ?_
  refine w_reg_seq 0 64 rfl rfl ?_
  refine qp (AB false) rfl ?_
  refine r_nil ?_
  refine w_reg_seq 64 512 rfl rfl ?_
  refine qp (.val none (.int .u8 v0)) rfl (qp (AB (decide ((97 : Int) ≤ v0))) rfl (qp (AB (decide ((97 : Int) ≤ v0))) rfl ?_))
  refine q_case 5 hF rfl (fun hF => ?_) (fun hF => ?_)
  ·
    refine qg (.val none (.int .u8 v0)) rfl rfl (qg (AB (decide (v0 ≤ (122 : Int)))) rfl rfl (qp (AB (decide (v0 ≤ (122 : Int)))) rfl (qp (AB (decide (v0 ≤ (122 : Int)))) rfl ?_)))
    refine r_nil ?_
    refine w_ret ?_
    cases hF
    exact endQ_r rfl (.inl ⟨_, _, by first | rfl | (simp [List.take_of_length_le]; first | exact ⟨rfl, rfl⟩ | rfl), by simp, by first | rfl | simp [res_spec_l01Small, List.take_of_length_le]⟩)
  ·
    refine qn rfl (qn rfl (qp (AB false) rfl (qp (AB false) rfl ?_)))
    refine r_nil ?_
    refine w_ret ?_
    cases hF
    exact endQ_r rfl (.inl ⟨_, _, by first | rfl | (simp [List.take_of_length_le]; first | exact ⟨rfl, rfl⟩ | rfl), by simp, by first | rfl | simp [res_spec_l01Small, List.take_of_length_le]⟩)

def c140 : MC := (.seq (.reg [⟨(some 2), none, (.p true (.mv (.c (.bool false))))⟩]) (.seq (.reg [⟨(some 3), none, (.p true (.mv (.t 0)))⟩, ⟨(some 4), none, (.p true (.bin .geq (.t 3) (.c (.int .u8 48))))⟩, ⟨(some 5), none, (.p true (.mv (.t 4)))⟩, ⟨(some 6), (some (5, true)), (.p true (.mv (.t 0)))⟩, ⟨(some 7), (some (5, true)), (.p true (.bin .leq (.t 6) (.c (.int .u8 57))))⟩, ⟨(some 8), none, (.p true (.pick (.t 5) (.t 7) (.c (.bool false))))⟩, ⟨(some 2), none, (.p true (.mv (.t 8)))⟩]) .ret))
theorem c140_is : compFn Try.prog 140 = some (c140, [(.tmp 2)]) := by kernel_rfl
theorem c140_ok : okFn Try.prog 140 = true := by kernel_rfl

noncomputable def F_spec_l01Digit (v0 : Int) : Option (Bool) :=
  (bif (decide ((48 : Int) ≤ v0)) then some (decide (v0 ≤ (57 : Int)))
  else some false)
@[simp] def res_spec_l01Digit (r : Bool) : RV := .one (.one (.val (.bool r)))
theorem con_spec_l01Digit {v0 : Int} {r : Bool} (hF : F_spec_l01Digit v0 = some r) : Con Try.prog 140 [.int .u8 v0] (res_spec_l01Digit r) := by
  unfold F_spec_l01Digit at hF
  refine con_of c140_is fun N => ?_
  refine w_reg_seq 0 64 rfl rfl ?_
  refine qp (AB false) rfl ?_
  refine r_nil ?_
  refine w_reg_seq 64 512 rfl rfl ?_
  refine qp (.val none (.int .u8 v0)) rfl (qp (AB (decide ((48 : Int) ≤ v0))) rfl (qp (AB (decide ((48 : Int) ≤ v0))) rfl ?_))
  refine q_case 5 hF rfl (fun hF => ?_) (fun hF => ?_)
  ·
    refine qg (.val none (.int .u8 v0)) rfl rfl (qg (AB (decide (v0 ≤ (57 : Int)))) rfl rfl (qp (AB (decide (v0 ≤ (57 : Int)))) rfl (qp (AB (decide (v0 ≤ (57 : Int)))) rfl ?_)))
    refine r_nil ?_
    refine w_ret ?_
    cases hF
    exact endQ_r rfl (.inl ⟨_, _, by first | rfl | (simp [List.take_of_length_le]; first | exact ⟨rfl, rfl⟩ | rfl), by simp, by first | rfl | simp [res_spec_l01Digit, List.take_of_length_le]⟩)
  ·
    refine qn rfl (qn rfl (qp (AB false) rfl (qp (AB false) rfl ?_)))
    refine r_nil ?_
    refine w_ret ?_
    cases hF
    exact endQ_r rfl (.inl ⟨_, _, by first | rfl | (simp [List.take_of_length_le]; first | exact ⟨rfl, rfl⟩ | rfl), by simp, by first | rfl | simp [res_spec_l01Digit, List.take_of_length_le]⟩)

def c121 : MC := (.seq (.reg [⟨(some 2), none, (.p true (.mv (.c (.bool false))))⟩]) (.seq (.seq (.reg [⟨(some 4), none, (.p true (.mv (.t 0)))⟩, ⟨(some 5), none, (.p true (.bin .eql (.t 4) (.c (.str []))))⟩, ⟨(some 6), none, (.p true (.mv (.t 5)))⟩, ⟨(some 7), (some (6, false)), (.p true (.mv (.t 0)))⟩, ⟨(some 8), (some (6, false)), (.p true (.lens (.t 7)))⟩, ⟨(some 9), (some (6, false)), (.p true (.bin .gtr (.t 8) (.c (.int .i64 10))))⟩, ⟨(some 10), none, (.p true (.pick (.t 6) (.c (.bool true)) (.t 9)))⟩, ⟨(some 11), none, (.p true (.mv (.t 10)))⟩, ⟨(some 12), (some (11, false)), (.p true (.mv (.t 0)))⟩, ⟨(some 13), (some (11, false)), (.p true (.ixs (.t 12) (.c (.int .i64 0))))⟩, ⟨(some 14), (some (11, false)), (.call true 139 [(.t 13)])⟩, ⟨(some 15), (some (11, false)), (.p true (.not (.t 14)))⟩, ⟨(some 16), none, (.p true (.pick (.t 11) (.c (.bool true)) (.t 15)))⟩]) (.cond (.t 16) (.seq (.reg [⟨(some 2), none, (.p true (.mv (.c (.bool false))))⟩]) .ret) .skip)) (.seq (.seq (.reg [⟨(some 3), none, (.p true (.mv (.c (.int .i64 0))))⟩]) (.block 0 (.loop (.seq (.seq (.reg [⟨(some 17), none, (.p true (.mv (.t 3)))⟩, ⟨(some 18), none, (.p true (.mv (.t 0)))⟩, ⟨(some 19), none, (.p true (.lens (.t 18)))⟩, ⟨(some 20), none, (.p true (.bin .lss (.t 17) (.t 19)))⟩]) (.cond (.t 20) .skip (.exit 0))) (.seq (.block 1 (.seq (.reg [⟨(some 23), none, (.p true (.mv (.t 0)))⟩, ⟨(some 24), none, (.p true (.mv (.t 3)))⟩, ⟨(some 25), none, (.p true (.ixs (.t 23) (.t 24)))⟩, ⟨(some 26), none, (.call true 139 [(.t 25)])⟩, ⟨(some 27), none, (.p true (.not (.t 26)))⟩, ⟨(some 28), none, (.p true (.mv (.t 27)))⟩, ⟨(some 29), (some (28, true)), (.p true (.mv (.t 0)))⟩, ⟨(some 30), (some (28, true)), (.p true (.mv (.t 3)))⟩, ⟨(some 31), (some (28, true)), (.p true (.ixs (.t 29) (.t 30)))⟩, ⟨(some 32), (some (28, true)), (.call true 140 [(.t 31)])⟩, ⟨(some 33), (some (28, true)), (.p true (.not (.t 32)))⟩, ⟨(some 34), none, (.p true (.pick (.t 28) (.t 33) (.c (.bool false))))⟩]) (.cond (.t 34) (.seq (.reg [⟨(some 2), none, (.p true (.mv (.c (.bool false))))⟩]) .ret) .skip))) (.reg [⟨(some 21), none, (.p true (.mv (.t 3)))⟩, ⟨(some 22), none, (.p true (.bin .add (.t 21) (.c (.int .i64 1))))⟩, ⟨(some 3), none, (.p true (.mv (.t 22)))⟩])))))) (.seq (.reg [⟨(some 2), none, (.p true (.mv (.c (.bool true))))⟩]) .ret))))
theorem c121_is : compFn Try.prog 121 = some (c121, [(.tmp 2)]) := by kernel_rfl
theorem c121_ok : okFn Try.prog 121 = true := by kernel_rfl

noncomputable def F_spec_l01Name_l0 (v0 : List UInt8) (k1 : Int → Option (Bool)) : Int → Option (Bool)
  | v1011 => (bif (decide (v1011 < (v0.length : Int))) then ((ix v0 v1011).bind fun v1012 => ((F_spec_l01Small (v1012.toNat : Int)).bind fun v1013 => (bif (!v1013) then ((ix v0 v1011).bind fun v1014 => ((F_spec_l01Digit (v1014.toNat : Int)).bind fun v1015 => (bif (!v1015) then some false
  else k1 (w64 (v1011 + 1)))))
  else k1 (w64 (v1011 + 1)))))
  else some true)
noncomputable def F_spec_l01Name (v0 : List UInt8) : Option (Bool) :=
  (bif (decide (v0 = [])) then some false
  else (bif (decide ((10 : Int) < (v0.length : Int))) then some false
  else ((ix v0 0).bind fun v1000 => ((F_spec_l01Small (v1000.toNat : Int)).bind fun v1001 => (bif (!v1001) then some false
  else loop (F_spec_l01Name_l0 v0) 0)))))
@[simp] def res_spec_l01Name (r : Bool) : RV := .one (.one (.val (.bool r)))
theorem con_spec_l01Name {v0 : List UInt8} {r : Bool} (hF : F_spec_l01Name v0 = some r) : Con Try.prog 121 [.str v0] (res_spec_l01Name r) := by
  unfold F_spec_l01Name at hF
  refine con_of c121_is fun N => ?_
  refine w_reg_seq 0 64 rfl rfl ?_
  refine qp (AB false) rfl ?_
  refine r_nil ?_
  refine w_seq ?_
  refine w_reg_seq 64 896 rfl rfl ?_
  refine qp (AS v0) rfl (qp (AB (decide (v0 = []))) rfl (qp (AB (decide (v0 = []))) rfl ?_))
  refine q_case 6 hF rfl (fun hF => ?_) (fun hF => ?_)
  ·
    refine qn rfl (qn rfl (qn rfl (qp (AB true) rfl (qp (AB true) rfl (qn rfl (qn rfl (qn rfl ?_)))))))
    refine qn rfl (qp (AB true) rfl ?_)
    refine r_nil ?_
    refine w_true rfl ?_
    refine w_reg_seq 896 960 rfl rfl ?_
    refine qp (AB false) rfl ?_
    refine r_nil ?_
    refine w_ret ?_
    refine thenQ_r ?_
    cases hF
    exact endQ_r rfl (.inl ⟨_, _, by first | rfl | (simp [List.take_of_length_le]; first | exact ⟨rfl, rfl⟩ | rfl), by simp, by first | rfl | simp [res_spec_l01Name, List.take_of_length_le]⟩)
  ·
    refine qg (AS v0) rfl rfl (qg (AI (v0.length : Int)) rfl rfl (qg (AB (decide ((10 : Int) < (v0.length : Int)))) rfl rfl (qp (AB (decide ((10 : Int) < (v0.length : Int)))) rfl (qp (AB (decide ((10 : Int) < (v0.length : Int)))) rfl ?_))))
    refine q_case 11 hF rfl (fun hF => ?_) (fun hF => ?_)
    ·
      refine qn rfl (qn rfl (qn rfl (qn rfl (qp (AB true) rfl ?_))))
      refine r_nil ?_
      refine w_true rfl ?_
      refine w_reg_seq 896 960 rfl rfl ?_
      refine qp (AB false) rfl ?_
      refine r_nil ?_
      refine w_ret ?_
      refine thenQ_r ?_
      cases hF
      exact endQ_r rfl (.inl ⟨_, _, by first | rfl | (simp [List.take_of_length_le]; first | exact ⟨rfl, rfl⟩ | rfl), by simp, by first | rfl | simp [res_spec_l01Name, List.take_of_length_le]⟩)
    ·
      refine qg (AS v0) rfl rfl ?_
      obtain ⟨v1000, e1000, hF⟩ := bind_get hF
      refine qg (.val none (.int .u8 (v1000.toNat : Int))) rfl (ev_ixs rfl rfl e1000) ?_
      obtain ⟨v1001, e1001, hF⟩ := bind_get hF
      refine qcg (AB v1001) [] false rfl (con_spec_l01Small e1001) c139_ok (by first | rfl | simp) rfl ?_
      refine qg (AB (!v1001)) rfl rfl (qp (AB (!v1001)) rfl ?_)
      refine r_nil ?_
      refine w_condF hF rfl (fun hF => ?_) (fun hF => ?_)
      ·
        refine w_reg_seq 896 960 rfl rfl ?_
        refine qp (AB false) rfl ?_
        refine r_nil ?_
        refine w_ret ?_
        refine thenQ_r ?_
        cases hF
        exact endQ_r rfl (.inl ⟨_, _, by first | rfl | (simp [List.take_of_length_le]; first | exact ⟨rfl, rfl⟩ | rfl), by simp, by first | rfl | simp [res_spec_l01Name, List.take_of_length_le]⟩)
      ·
        refine w_skip ?_
        refine thenQ_n ?_
        refine w_seq ?_
        refine w_reg_seq 896 960 rfl rfl ?_
        refine qp (AI 0) rfl ?_
        refine r_nil ?_
        refine w_block ?_
        refine w_ren (l' := [(0, AS v0), (3, AI 0)]) (L := []) [0, 3] [] 1 (by first | rfl | simp) (by first | rfl | simp) (by decide) (by decide) (by decide) ?_
        refine w_loopF (F_spec_l01Name_l0 v0) (fun s : Int => mkS [(0, AS v0), (3, AI s)] (fo []) 1) hF ?_
        rintro k1 v1011 hF
        rw [F_spec_l01Name_l0] at hF
        try dsimp only
        refine w_seq ?_
        refine w_reg_seq 1 257 rfl rfl ?_
        refine qp (AI v1011) rfl (qp (AS v0) rfl (qp (AI (v0.length : Int)) rfl (qp (AB (decide (v1011 < (v0.length : Int)))) rfl ?_)))
        refine r_nil ?_
        refine w_condF hF rfl (fun hF => ?_) (fun hF => ?_)
        ·
          refine w_skip ?_
          refine thenQ_n ?_
          refine w_seq ?_
          refine w_block ?_
          refine w_reg_seq 257 1025 rfl rfl ?_
          refine qp (AS v0) rfl (qp (AI v1011) rfl ?_)
          obtain ⟨v1012, e1012, hF⟩ := bind_get hF
          refine qp (.val none (.int .u8 (v1012.toNat : Int))) (ev_ixs rfl rfl e1012) ?_
          obtain ⟨v1013, e1013, hF⟩ := bind_get hF
          refine qc (AB v1013) [] false (con_spec_l01Small e1013) c139_ok (by first | rfl | simp) rfl ?_
          refine qp (AB (!v1013)) rfl (qp (AB (!v1013)) rfl ?_)
          refine q_case 28 hF rfl (fun hF => ?_) (fun hF => ?_)
          ·
            refine qg (AS v0) rfl rfl (qg (AI v1011) rfl rfl ?_)
            obtain ⟨v1014, e1014, hF⟩ := bind_get hF
            refine qg (.val none (.int .u8 (v1014.toNat : Int))) rfl (ev_ixs rfl rfl e1014) ?_
            obtain ⟨v1015, e1015, hF⟩ := bind_get hF
            refine qcg (AB v1015) [] false rfl (con_spec_l01Digit e1015) c140_ok (by first | rfl | simp) rfl ?_
            refine qg (AB (!v1015)) rfl rfl (qp (AB (!v1015)) rfl ?_)
            refine r_nil ?_
            refine w_condF hF rfl (fun hF => ?_) (fun hF => ?_)
            ·
              refine w_reg_seq 1025 1089 rfl rfl ?_
              refine qp (AB false) rfl ?_
              refine r_nil ?_
              refine w_ret ?_
              refine blockQ_r ?_
              refine thenQ_r ?_
              refine thenQ_r ?_
              refine blockQ_r ?_
              refine thenQ_r ?_
              cases hF
              exact endQ_r rfl (.inl ⟨_, _, by first | rfl | (simp [List.take_of_length_le]; first | exact ⟨rfl, rfl⟩ | rfl), by simp, by first | rfl | simp [res_spec_l01Name, List.take_of_length_le]⟩)
            ·
              refine w_skip ?_
              refine blockQ_n ?_
              refine thenQ_n ?_
              refine w_reg 1025 1217 rfl rfl ?_
              refine qp (AI v1011) rfl (qp (AI (w64 (v1011 + 1))) rfl (qp (AI (w64 (v1011 + 1))) rfl ?_))
              refine r_nil ?_
              refine thenQ_n ?_
              refine aw_ren (l' := [(0, AS v0), (3, AI (w64 (v1011 + 1)))]) (L := []) [0, 3] [] 1 (by first | rfl | simp) (by first | rfl | simp) (by decide) (by decide) (by decide) ⟨_, by rfl, hF⟩
          ·
            refine qn rfl (qn rfl (qn rfl (qn rfl (qn rfl (qp (AB false) rfl ?_)))))
            refine r_nil ?_
            refine w_false rfl ?_
            refine w_skip ?_
            refine blockQ_n ?_
            refine thenQ_n ?_
            refine w_reg 1025 1217 rfl rfl ?_
            refine qp (AI v1011) rfl (qp (AI (w64 (v1011 + 1))) rfl (qp (AI (w64 (v1011 + 1))) rfl ?_))
            refine r_nil ?_
            refine thenQ_n ?_
            refine aw_ren (l' := [(0, AS v0), (3, AI (w64 (v1011 + 1)))]) (L := []) [0, 3] [] 1 (by first | rfl | simp) (by first | rfl | simp) (by decide) (by decide) (by decide) ⟨_, by rfl, hF⟩
        ·
          refine w_exit ?_
          refine thenQ_e ?_
          refine thenQ_e ?_
          refine blockQ_e ?_
          refine thenQ_n ?_
          refine w_reg_seq 257 321 rfl rfl ?_
          refine qp (AB true) rfl ?_
          refine r_nil ?_
          refine w_ret ?_
          cases hF
          exact endQ_r rfl (.inl ⟨_, _, by first | rfl | (simp [List.take_of_length_le]; first | exact ⟨rfl, rfl⟩ | rfl), by simp, by first | rfl | simp [res_spec_l01Name, List.take_of_length_le]⟩)

def c122 : MC := (.seq (.reg [⟨(some 6), none, (.p true (.mv (.c (.bool false))))⟩]) (.seq (.reg [⟨(some 7), none, (.p true (.mv (.t 0)))⟩, ⟨(some 8), none, (.p true (.mv (.t 1)))⟩, ⟨(some 9), none, (.p true (.bin .geq (.t 7) (.t 8)))⟩, ⟨(some 10), none, (.p true (.mv (.t 9)))⟩, ⟨(some 11), (some (10, true)), (.p true (.mv (.t 0)))⟩, ⟨(some 12), (some (10, true)), (.p true (.mv (.t 2)))⟩, ⟨(some 13), (some (10, true)), (.p true (.bin .leq (.t 11) (.t 12)))⟩, ⟨(some 14), none, (.p true (.pick (.t 10) (.t 13) (.c (.bool false))))⟩, ⟨(some 6), none, (.p true (.mv (.t 14)))⟩]) .ret))
theorem c122_is : compFn Try.prog 122 = some (c122, [(.tmp 6)]) := by kernel_rfl
theorem c122_ok : okFn Try.prog 122 = true := by kernel_rfl

noncomputable def F_spec_l00In (v0 : Int) (v1 : Int) (v2 : Int) : Option (Bool) :=
  (bif (decide (v1 ≤ v0)) then some (decide (v0 ≤ v2))
  else some false)
@[simp] def res_spec_l00In (r : Bool) : RV := .one (.one (.val (.bool r)))
theorem con_spec_l00In {v0 : Int} {v1 : Int} {v2 : Int} {r : Bool} (hF : F_spec_l00In v0 v1 v2 = some r) : Con Try.prog 122 [.int .i64 v0, .int .i64 v1, .int .i64 v2] (res_spec_l00In r) := by
  unfold F_spec_l00In at hF
  refine con_of c122_is fun N => ?_
  refine w_reg_seq 0 64 rfl rfl ?_
  refine qp (AB false) rfl ?_
  refine r_nil ?_
  refine w_reg_seq 64 640 rfl rfl ?_
  refine qp (AI v0) rfl (qp (AI v1) rfl (qp (AB (decide (v1 ≤ v0))) rfl (qp (AB (decide (v1 ≤ v0))) rfl ?_)))
  refine q_case 10 hF rfl (fun hF => ?_) (fun hF => ?_)
  ·
    refine qg (AI v0) rfl rfl (qg (AI v2) rfl rfl (qg (AB (decide (v0 ≤ v2))) rfl rfl (qp (AB (decide (v0 ≤ v2))) rfl (qp (AB (decide (v0 ≤ v2))) rfl ?_))))
    refine r_nil ?_
    refine w_ret ?_
    cases hF
    exact endQ_r rfl (.inl ⟨_, _, by first | rfl | (simp [List.take_of_length_le]; first | exact ⟨rfl, rfl⟩ | rfl), by simp, by first | rfl | simp [res_spec_l00In, List.take_of_length_le]⟩)
  ·
    refine qn rfl (qn rfl (qn rfl (qp (AB false) rfl (qp (AB false) rfl ?_))))
    refine r_nil ?_
    refine w_ret ?_
    cases hF
    exact endQ_r rfl (.inl ⟨_, _, by first | rfl | (simp [List.take_of_length_le]; first | exact ⟨rfl, rfl⟩ | rfl), by simp, by first | rfl | simp [res_spec_l00In, List.take_of_length_le]⟩)

def c64 : MC := (.seq (.reg [⟨(some 4), none, (.p true (.mv (.c (.int .i64 0))))⟩]) (.seq (.seq (.reg [⟨(some 5), none, (.p true (.mv (.c (.int .i64 0))))⟩]) (.block 0 (.loop (.seq (.seq (.reg [⟨(some 6), none, (.p true (.mv (.t 5)))⟩, ⟨(some 7), none, (.p true (.mv (.t 0)))⟩, ⟨(some 8), none, (.p true (.len (.t 7)))⟩, ⟨(some 9), none, (.p true (.bin .lss (.t 6) (.t 8)))⟩]) (.cond (.t 9) .skip (.exit 0))) (.seq (.block 1 (.seq (.reg [⟨(some 12), none, (.p true (.mv (.t 0)))⟩, ⟨(some 13), none, (.p true (.mv (.t 5)))⟩, ⟨(some 14), none, (.p true (.iad (.t 12) (.t 13) 3))⟩, ⟨(some 15), none, (.p true (.fad (.t 14) 0))⟩, ⟨(some 16), none, (.p true (.ld (.t 15) 1 false))⟩, ⟨(some 17), none, (.p true (.mv (.t 1)))⟩, ⟨(some 18), none, (.p true (.bin .eql (.t 16) (.t 17)))⟩]) (.cond (.t 18) (.seq (.reg [⟨(some 19), none, (.p true (.mv (.t 5)))⟩, ⟨(some 4), none, (.p true (.mv (.t 19)))⟩]) .ret) .skip))) (.reg [⟨(some 10), none, (.p true (.mv (.t 5)))⟩, ⟨(some 11), none, (.p true (.bin .add (.t 10) (.c (.int .i64 1))))⟩, ⟨(some 5), none, (.p true (.mv (.t 11)))⟩])))))) (.seq (.reg [⟨(some 4), none, (.p true (.mv (.c (.int .i64 (-1)))))⟩]) .ret)))
theorem c64_is : compFn Try.prog 64 = some (c64, [(.tmp 4)]) := by kernel_rfl
theorem c64_ok : okFn Try.prog 64 = true := by kernel_rfl

noncomputable def F_spec_l30Find_l0 (v0 : List TPerson) (v1 : List UInt8) (k0 : Int → Option (Int)) : Int → Option (Int)
  | v5 => (bif (decide (v5 < (v0.length : Int))) then ((ix v0 v5).bind fun v1000 => (bif (decide (v1000.1 = v1)) then some v5
  else k0 (w64 (v5 + 1))))
  else some (-1))
noncomputable def F_spec_l30Find (v0 : List TPerson) (v1 : List UInt8) : Option (Int) :=
  loop (F_spec_l30Find_l0 v0 v1) 0
@[simp] def res_spec_l30Find (r : Int) : RV := .one (.one (.val (.int .i64 r)))
theorem con_spec_l30Find {v0 : List TPerson} {v1 : List UInt8} {r : Int} (hF : F_spec_l30Find v0 v1 = some r) : Con Try.prog 64 [.sl 3 (v0.map ePerson), .str v1] (res_spec_l30Find r) := by
  unfold F_spec_l30Find at hF
  refine con_of c64_is fun N => ?_
  refine w_reg_seq 0 64 rfl rfl ?_
  refine qp (AI 0) rfl ?_
  refine r_nil ?_
  refine w_seq ?_
  refine w_reg_seq 64 128 rfl rfl ?_
  refine qp (AI 0) rfl ?_
  refine r_nil ?_
  refine w_block ?_
  refine w_ren (l' := [(0, .val none (.sl 3 (v0.map ePerson))), (1, AS v1), (5, AI 0)]) (L := []) [0, 1, 5] [] 1 (by first | rfl | simp) (by first | rfl | simp) (by decide) (by decide) (by decide) ?_
  refine w_loopF (F_spec_l30Find_l0 v0 v1) (fun s : Int => mkS [(0, .val none (.sl 3 (v0.map ePerson))), (1, AS v1), (5, AI s)] (fo []) 1) hF ?_
  rintro k0 v5 hF
  rw [F_spec_l30Find_l0] at hF
  try dsimp only
  refine w_seq ?_
  refine w_reg_seq 1 257 rfl rfl ?_
  refine qp (AI v5) rfl (qp (.val none (.sl 3 (v0.map ePerson))) rfl (qp (AI (v0.length : Int)) (ev_len_n rfl) (qp (AB (decide (v5 < (v0.length : Int)))) rfl ?_)))
  refine r_nil ?_
  refine w_condF hF rfl (fun hF => ?_) (fun hF => ?_)
  ·
    refine w_skip ?_
    refine thenQ_n ?_
    refine w_seq ?_
    refine w_block ?_
    refine w_reg_seq 257 705 rfl rfl ?_
    refine qp (.val none (.sl 3 (v0.map ePerson))) rfl (qp (AI v5) rfl ?_)
    obtain ⟨v1000, e1000, hF⟩ := bind_get hF
    refine qp (.val none (.ptr [.str v1000.1, .int .i64 v1000.2.1, .sl 1 (v1000.2.2.map V.str)])) (ev_iad_n rfl rfl e1000 rfl) (qp (.val none (.ptr [.str v1000.1, .int .i64 v1000.2.1, .sl 1 (v1000.2.2.map V.str)])) rfl (qp (AS v1000.1) rfl (qp (AS v1) rfl (qp (AB (decide (v1000.1 = v1))) rfl ?_))))
    refine r_nil ?_
    refine w_condF hF rfl (fun hF => ?_) (fun hF => ?_)
    ·
      refine w_reg_seq 705 833 rfl rfl ?_
      refine qp (AI v5) rfl (qp (AI v5) rfl ?_)
      refine r_nil ?_
      refine w_ret ?_
      refine blockQ_r ?_
      refine thenQ_r ?_
      refine thenQ_r ?_
      refine blockQ_r ?_
      refine thenQ_r ?_
      cases hF
      exact endQ_r rfl (.inl ⟨_, _, by first | rfl | (simp [List.take_of_length_le]; first | exact ⟨rfl, rfl⟩ | rfl), by simp, by first | rfl | simp [res_spec_l30Find, List.take_of_length_le]⟩)
    ·
      refine w_skip ?_
      refine blockQ_n ?_
      refine thenQ_n ?_
      refine w_reg 705 897 rfl rfl ?_
      refine qp (AI v5) rfl (qp (AI (w64 (v5 + 1))) rfl (qp (AI (w64 (v5 + 1))) rfl ?_))
      refine r_nil ?_
      refine thenQ_n ?_
      refine aw_ren (l' := [(0, .val none (.sl 3 (v0.map ePerson))), (1, AS v1), (5, AI (w64 (v5 + 1)))]) (L := []) [0, 1, 5] [] 1 (by first | rfl | simp) (by first | rfl | simp) (by decide) (by decide) (by decide) ⟨_, by rfl, hF⟩
  ·
    refine w_exit ?_
    refine thenQ_e ?_
    refine thenQ_e ?_
    refine blockQ_e ?_
    refine thenQ_n ?_
    refine w_reg_seq 257 321 rfl rfl ?_
    refine qp (AI (-1)) rfl ?_
    refine r_nil ?_
    refine w_ret ?_
    cases hF
    exact endQ_r rfl (.inl ⟨_, _, by first | rfl | (simp [List.take_of_length_le]; first | exact ⟨rfl, rfl⟩ | rfl), by simp, by first | rfl | simp [res_spec_l30Find, List.take_of_length_le]⟩)

def c80 : MC := (.seq (.reg [⟨(some 2), none, (.p true (.mv (.c (.bool false))))⟩]) (.seq (.seq (.reg [⟨(some 3), none, (.p true (.mv (.c (.int .i64 0))))⟩]) (.block 0 (.loop (.seq (.seq (.reg [⟨(some 7), none, (.p true (.mv (.t 3)))⟩, ⟨(some 8), none, (.p true (.mv (.t 0)))⟩, ⟨(some 9), none, (.p true (.len (.t 8)))⟩, ⟨(some 10), none, (.p true (.bin .lss (.t 7) (.t 9)))⟩]) (.cond (.t 10) .skip (.exit 0))) (.seq (.block 1 (.seq (.reg [⟨(some 13), none, (.p true (.mv (.t 0)))⟩, ⟨(some 14), none, (.p true (.mv (.t 3)))⟩, ⟨(some 15), none, (.p true (.iad (.t 13) (.t 14) 3))⟩, ⟨(some 4), none, (.p true (.mv (.t 15)))⟩]) (.seq (.seq (.reg [⟨(some 16), none, (.p false (.mv (.t 4)))⟩, ⟨(some 17), none, (.p false (.nck (.t 16)))⟩, ⟨(some 18), none, (.p false (.fad (.t 17) 0))⟩, ⟨(some 19), none, (.p false (.ld (.t 18) 1 false))⟩, ⟨(some 20), none, (.call false 121 [(.t 19)])⟩, ⟨(some 21), none, (.p false (.not (.t 20)))⟩, ⟨(some 22), none, (.p false (.mv (.t 21)))⟩, ⟨(some 23), (some (22, false)), (.p false (.mv (.t 4)))⟩, ⟨(some 24), (some (22, false)), (.p false (.nck (.t 23)))⟩, ⟨(some 25), (some (22, false)), (.p false (.fad (.t 24) 1))⟩, ⟨(some 26), (some (22, false)), (.p false (.ld (.t 25) 1 false))⟩, ⟨(some 27), (some (22, false)), (.call false 122 [(.t 26), (.c (.int .i64 0)), (.c (.int .i64 3000))])⟩, ⟨(some 28), (some (22, false)), (.p false (.not (.t 27)))⟩, ⟨(some 29), none, (.p false (.pick (.t 22) (.c (.bool true)) (.t 28)))⟩, ⟨(some 30), none, (.p false (.mv (.t 29)))⟩, ⟨(some 31), (some (30, false)), (.p false (.mv (.t 4)))⟩, ⟨(some 32), (some (30, false)), (.p false (.nck (.t 31)))⟩, ⟨(some 33), (some (30, false)), (.p false (.fad (.t 32) 2))⟩, ⟨(some 34), (some (30, false)), (.p false (.ld (.t 33) 1 false))⟩, ⟨(some 35), (some (30, false)), (.p false (.len (.t 34)))⟩, ⟨(some 36), (some (30, false)), (.p false (.bin .gtr (.t 35) (.c (.int .i64 4))))⟩, ⟨(some 37), none, (.p false (.pick (.t 30) (.c (.bool true)) (.t 36)))⟩, ⟨(some 38), none, (.p false (.mv (.t 37)))⟩, ⟨(some 39), (some (38, false)), (.p false (.mv (.t 3)))⟩, ⟨(some 40), (some (38, false)), (.p false (.bin .gtr (.t 39) (.c (.int .i64 0))))⟩, ⟨(some 41), (some (38, false)), (.p false (.mv (.t 40)))⟩, ⟨(some 42), (some (41, true)), (.p false (.mv (.t 0)))⟩, ⟨(some 43), (some (41, true)), (.p false (.mv (.t 3)))⟩, ⟨(some 44), (some (41, true)), (.p false (.bin .sub (.t 43) (.c (.int .i64 1))))⟩, ⟨(some 45), (some (41, true)), (.p false (.iad (.t 42) (.t 44) 3))⟩, ⟨(some 46), (some (41, true)), (.p false (.fad (.t 45) 0))⟩, ⟨(some 47), (some (41, true)), (.p false (.ld (.t 46) 1 false))⟩, ⟨(some 48), (some (41, true)), (.p false (.mv (.t 4)))⟩, ⟨(some 49), (some (41, true)), (.p false (.nck (.t 48)))⟩, ⟨(some 50), (some (41, true)), (.p false (.fad (.t 49) 0))⟩, ⟨(some 51), (some (41, true)), (.p false (.ld (.t 50) 1 false))⟩, ⟨(some 52), (some (41, true)), (.p false (.bin .geq (.t 47) (.t 51)))⟩, ⟨(some 53), (some (38, false)), (.p false (.pick (.t 41) (.t 52) (.c (.bool false))))⟩, ⟨(some 54), none, (.p false (.pick (.t 38) (.c (.bool true)) (.t 53)))⟩]) (.cond (.t 54) (.seq (.reg [⟨(some 2), none, (.p true (.mv (.c (.bool false))))⟩]) .ret) .skip)) (.seq (.reg [⟨(some 5), none, (.p true (.mv (.c (.int .i64 0))))⟩]) (.block 2 (.loop (.seq (.seq (.reg [⟨(some 55), none, (.p true (.mv (.t 5)))⟩, ⟨(some 56), none, (.p true (.mv (.t 4)))⟩, ⟨(some 57), none, (.p true (.nck (.t 56)))⟩, ⟨(some 58), none, (.p true (.fad (.t 57) 2))⟩, ⟨(some 59), none, (.p true (.ld (.t 58) 1 false))⟩, ⟨(some 60), none, (.p true (.len (.t 59)))⟩, ⟨(some 61), none, (.p true (.bin .lss (.t 55) (.t 60)))⟩]) (.cond (.t 61) .skip (.exit 2))) (.seq (.block 3 (.seq (.reg [⟨(some 64), none, (.p true (.mv (.t 0)))⟩, ⟨(some 65), none, (.p true (.mv (.t 4)))⟩, ⟨(some 66), none, (.p true (.nck (.t 65)))⟩, ⟨(some 67), none, (.p true (.fad (.t 66) 2))⟩, ⟨(some 68), none, (.p true (.ld (.t 67) 1 false))⟩, ⟨(some 69), none, (.p true (.mv (.t 5)))⟩, ⟨(some 70), none, (.p true (.iad (.t 68) (.t 69) 1))⟩, ⟨(some 71), none, (.p true (.ld (.t 70) 1 false))⟩, ⟨(some 72), none, (.call true 64 [(.t 64), (.t 71)])⟩, ⟨(some 6), none, (.p true (.mv (.t 72)))⟩]) (.seq (.reg [⟨(some 73), none, (.p false (.mv (.t 6)))⟩, ⟨(some 74), none, (.p false (.bin .lss (.t 73) (.c (.int .i64 0))))⟩, ⟨(some 75), none, (.p false (.mv (.t 74)))⟩, ⟨(some 76), (some (75, false)), (.p false (.mv (.t 0)))⟩, ⟨(some 77), (some (75, false)), (.p false (.mv (.t 6)))⟩, ⟨(some 78), (some (75, false)), (.p false (.iad (.t 76) (.t 77) 3))⟩, ⟨(some 79), (some (75, false)), (.p false (.fad (.t 78) 1))⟩, ⟨(some 80), (some (75, false)), (.p false (.ld (.t 79) 1 false))⟩, ⟨(some 81), (some (75, false)), (.p false (.mv (.t 4)))⟩, ⟨(some 82), (some (75, false)), (.p false (.nck (.t 81)))⟩, ⟨(some 83), (some (75, false)), (.p false (.fad (.t 82) 1))⟩, ⟨(some 84), (some (75, false)), (.p false (.ld (.t 83) 1 false))⟩, ⟨(some 85), (some (75, false)), (.p false (.bin .geq (.t 80) (.t 84)))⟩, ⟨(some 86), none, (.p false (.pick (.t 75) (.c (.bool true)) (.t 85)))⟩, ⟨(some 87), none, (.p false (.mv (.t 86)))⟩, ⟨(some 88), (some (87, false)), (.p false (.mv (.t 5)))⟩, ⟨(some 89), (some (87, false)), (.p false (.bin .gtr (.t 88) (.c (.int .i64 0))))⟩, ⟨(some 90), (some (87, false)), (.p false (.mv (.t 89)))⟩, ⟨(some 91), (some (90, true)), (.p false (.mv (.t 4)))⟩, ⟨(some 92), (some (90, true)), (.p false (.nck (.t 91)))⟩, ⟨(some 93), (some (90, true)), (.p false (.fad (.t 92) 2))⟩, ⟨(some 94), (some (90, true)), (.p false (.ld (.t 93) 1 false))⟩, ⟨(some 95), (some (90, true)), (.p false (.mv (.t 5)))⟩, ⟨(some 96), (some (90, true)), (.p false (.bin .sub (.t 95) (.c (.int .i64 1))))⟩, ⟨(some 97), (some (90, true)), (.p false (.iad (.t 94) (.t 96) 1))⟩, ⟨(some 98), (some (90, true)), (.p false (.ld (.t 97) 1 false))⟩, ⟨(some 99), (some (90, true)), (.p false (.mv (.t 4)))⟩, ⟨(some 100), (some (90, true)), (.p false (.nck (.t 99)))⟩, ⟨(some 101), (some (90, true)), (.p false (.fad (.t 100) 2))⟩, ⟨(some 102), (some (90, true)), (.p false (.ld (.t 101) 1 false))⟩, ⟨(some 103), (some (90, true)), (.p false (.mv (.t 5)))⟩, ⟨(some 104), (some (90, true)), (.p false (.iad (.t 102) (.t 103) 1))⟩, ⟨(some 105), (some (90, true)), (.p false (.ld (.t 104) 1 false))⟩, ⟨(some 106), (some (90, true)), (.p false (.bin .geq (.t 98) (.t 105)))⟩, ⟨(some 107), (some (87, false)), (.p false (.pick (.t 90) (.t 106) (.c (.bool false))))⟩, ⟨(some 108), none, (.p false (.pick (.t 87) (.c (.bool true)) (.t 107)))⟩]) (.cond (.t 108) (.seq (.reg [⟨(some 2), none, (.p true (.mv (.c (.bool false))))⟩]) .ret) .skip)))) (.reg [⟨(some 62), none, (.p true (.mv (.t 5)))⟩, ⟨(some 63), none, (.p true (.bin .add (.t 62) (.c (.int .i64 1))))⟩, ⟨(some 5), none, (.p true (.mv (.t 63)))⟩]))))))))) (.reg [⟨(some 11), none, (.p true (.mv (.t 3)))⟩, ⟨(some 12), none, (.p true (.bin .add (.t 11) (.c (.int .i64 1))))⟩, ⟨(some 3), none, (.p true (.mv (.t 12)))⟩])))))) (.seq (.reg [⟨(some 109), none, (.p true (.mv (.t 0)))⟩, ⟨(some 110), none, (.p true (.len (.t 109)))⟩, ⟨(some 111), none, (.p true (.bin .leq (.t 110) (.c (.int .i64 24))))⟩, ⟨(some 2), none, (.p true (.mv (.t 111)))⟩]) .ret)))
theorem c80_is : compFn Try.prog 80 = some (c80, [(.tmp 2)]) := by kernel_rfl
theorem c80_ok : okFn Try.prog 80 = true := by kernel_rfl

noncomputable def F_spec_l30Ok_l2 (v0 : List TPerson) (v26 : Int) (v1000 : TPerson) (k2 : Int → Option (Bool)) (k4 : Int → Option (Bool)) : Int → Option (Bool)
  | v1015 => (bif (decide (v1015 < (v1000.2.2.length : Int))) then ((ix v1000.2.2 v1015).bind fun v1007 => ((F_spec_l30Find v0 v1007).bind fun v1008 => (bif (decide (v1008 < (0 : Int))) then some false
  else ((ix v0 v1008).bind fun v1009 => (bif (decide (v1000.2.1 ≤ v1009.2.1)) then some false
  else (bif (decide ((0 : Int) < v1015)) then ((ix v1000.2.2 (w64 (v1015 - 1))).bind fun v1010 => ((ix v1000.2.2 v1015).bind fun v1011 => (bif (!Op.bytesLess v1010 v1011) then some false
  else k4 (w64 (v1015 + 1)))))
  else k4 (w64 (v1015 + 1))))))))
  else k2 (w64 (v26 + 1)))
noncomputable def F_spec_l30Ok_j1 (v0 : List TPerson) (v26 : Int) (v1000 : TPerson) (k2 : Int → Option (Bool)) : Option (Bool) :=
  loop (F_spec_l30Ok_l2 v0 v26 v1000 k2) 0
noncomputable def F_spec_l30Ok_l0 (v0 : List TPerson) (k2 : Int → Option (Bool)) : Int → Option (Bool)
  | v26 => (bif (decide (v26 < (v0.length : Int))) then ((ix v0 v26).bind fun v1000 => ((F_spec_l01Name v1000.1).bind fun v1004 => (bif (!v1004) then some false
  else ((F_spec_l00In v1000.2.1 0 3000).bind fun v1005 => (bif (!v1005) then some false
  else (bif (decide ((4 : Int) < (v1000.2.2.length : Int))) then some false
  else (bif (decide ((0 : Int) < v26)) then ((ix v0 (w64 (v26 - 1))).bind fun v1006 => (bif (!Op.bytesLess v1006.1 v1000.1) then some false
  else F_spec_l30Ok_j1 v0 v26 v1000 k2))
  else F_spec_l30Ok_j1 v0 v26 v1000 k2)))))))
  else some (decide ((v0.length : Int) ≤ (24 : Int))))
noncomputable def F_spec_l30Ok (v0 : List TPerson) : Option (Bool) :=
  loop (F_spec_l30Ok_l0 v0) 0
@[simp] def res_spec_l30Ok (r : Bool) : RV := .one (.one (.val (.bool r)))
theorem con_spec_l30Ok {v0 : List TPerson} {r : Bool} (hF : F_spec_l30Ok v0 = some r) : Con Try.prog 80 [.sl 3 (v0.map ePerson)] (res_spec_l30Ok r) := by
  unfold F_spec_l30Ok at hF
  refine con_of c80_is fun N => ?_
  refine w_reg_seq 0 64 rfl rfl ?_
  refine qp (AB false) rfl ?_
  refine r_nil ?_
  refine w_seq ?_
  refine w_reg_seq 64 128 rfl rfl ?_
  refine qp (AI 0) rfl ?_
  refine r_nil ?_
  refine w_block ?_
  refine w_ren (l' := [(0, .val none (.sl 3 (v0.map ePerson))), (3, AI 0)]) (L := []) [0, 3] [] 1 (by first | rfl | simp) (by first | rfl | simp) (by decide) (by decide) (by decide) ?_
  refine w_loopF (F_spec_l30Ok_l0 v0) (fun s : Int => mkS [(0, .val none (.sl 3 (v0.map ePerson))), (3, AI s)] (fo []) 1) hF ?_
  rintro k2 v26 hF
  rw [F_spec_l30Ok_l0] at hF
  try dsimp only
  refine w_seq ?_
  refine w_reg_seq 1 257 rfl rfl ?_
  refine qp (AI v26) rfl (qp (.val none (.sl 3 (v0.map ePerson))) rfl (qp (AI (v0.length : Int)) (ev_len_n rfl) (qp (AB (decide (v26 < (v0.length : Int)))) rfl ?_)))
  refine r_nil ?_
  refine w_condF hF rfl (fun hF => ?_) (fun hF => ?_)
  ·
    refine w_skip ?_
    refine thenQ_n ?_
    refine w_seq ?_
    refine w_block ?_
    refine w_reg_seq 257 513 rfl rfl ?_
    refine qp (.val none (.sl 3 (v0.map ePerson))) rfl (qp (AI v26) rfl ?_)
    obtain ⟨v1000, e1000, hF⟩ := bind_get hF
    refine qp (.val none (.ptr [.str v1000.1, .int .i64 v1000.2.1, .sl 1 (v1000.2.2.map V.str)])) (ev_iad_n rfl rfl e1000 rfl) (qp (.val none (.ptr [.str v1000.1, .int .i64 v1000.2.1, .sl 1 (v1000.2.2.map V.str)])) rfl ?_)
    refine r_nil ?_
    refine w_meet (fun s' => s' = mkS [(0, .val none (.sl 3 (v0.map ePerson))), (3, AI v26), (4, .val none (.ptr [.str v1000.1, .int .i64 v1000.2.1, .sl 1 (v1000.2.2.map V.str)]))] (fo []) 1 ∧ F_spec_l30Ok_j1 v0 v26 v1000 k2 = some r) ?_ ?_
    ·
      refine w_reg_seq 513 3009 rfl rfl ?_
      refine qp (.val none (.ptr [.str v1000.1, .int .i64 v1000.2.1, .sl 1 (v1000.2.2.map V.str)])) rfl (qp (.val none (.ptr [.str v1000.1, .int .i64 v1000.2.1, .sl 1 (v1000.2.2.map V.str)])) rfl (qp (.val none (.ptr [.str v1000.1, .int .i64 v1000.2.1, .sl 1 (v1000.2.2.map V.str)])) rfl (qp (AS v1000.1) rfl ?_)))
      obtain ⟨v1004, e1004, hF⟩ := bind_get hF
      refine qc (AB v1004) [] false (con_spec_l01Name e1004) c121_ok (by first | rfl | simp) rfl ?_
      refine qp (AB (!v1004)) rfl (qp (AB (!v1004)) rfl ?_)
      refine q_case 22 hF rfl (fun hF => ?_) (fun hF => ?_)
      ·
        refine qn rfl (qn rfl (qn rfl (qn rfl (qn rfl (qn rfl (qp (AB true) rfl (qp (AB true) rfl ?_)))))))
        refine qn rfl (qn rfl (qn rfl (qn rfl (qn rfl (qn rfl (qp (AB true) rfl (qp (AB true) rfl ?_)))))))
        refine qn rfl (qn rfl (qn rfl (qu rfl (qu rfl (qu rfl (qu rfl (qu rfl ?_)))))))
        refine qu rfl (qu rfl (qu rfl (qu rfl (qu rfl (qu rfl (qn rfl (qp (AB true) rfl ?_)))))))
        refine r_nil ?_
        refine w_true rfl ?_
        refine w_reg_seq 3009 3073 rfl rfl ?_
        refine qp (AB false) rfl ?_
        refine r_nil ?_
        refine w_ret ?_
        refine thenQ_r ?_
        refine blockQ_r ?_
        refine thenQ_r ?_
        refine thenQ_r ?_
        refine blockQ_r ?_
        refine thenQ_r ?_
        cases hF
        exact endQ_r rfl (.inl ⟨_, _, by first | rfl | (simp [List.take_of_length_le]; first | exact ⟨rfl, rfl⟩ | rfl), by simp, by first | rfl | simp [res_spec_l30Ok, List.take_of_length_le]⟩)
      ·
        refine qg (.val none (.ptr [.str v1000.1, .int .i64 v1000.2.1, .sl 1 (v1000.2.2.map V.str)])) rfl rfl (qg (.val none (.ptr [.str v1000.1, .int .i64 v1000.2.1, .sl 1 (v1000.2.2.map V.str)])) rfl rfl (qg (.val none (.ptr [.int .i64 v1000.2.1, .sl 1 (v1000.2.2.map V.str)])) rfl rfl (qg (AI v1000.2.1) rfl rfl ?_)))
        obtain ⟨v1005, e1005, hF⟩ := bind_get hF
        refine qcg (AB v1005) [] false rfl (con_spec_l00In e1005) c122_ok (by first | rfl | simp) rfl ?_
        refine qg (AB (!v1005)) rfl rfl (qp (AB (!v1005)) rfl (qp (AB (!v1005)) rfl ?_))
        refine q_case 30 hF rfl (fun hF => ?_) (fun hF => ?_)
        ·
          refine qn rfl (qn rfl (qn rfl (qn rfl (qn rfl (qn rfl (qp (AB true) rfl (qp (AB true) rfl ?_)))))))
          refine qn rfl (qn rfl (qn rfl (qu rfl (qu rfl (qu rfl (qu rfl (qu rfl ?_)))))))
          refine qu rfl (qu rfl (qu rfl (qu rfl (qu rfl (qu rfl (qn rfl (qp (AB true) rfl ?_)))))))
          refine r_nil ?_
          refine w_true rfl ?_
          refine w_reg_seq 3009 3073 rfl rfl ?_
          refine qp (AB false) rfl ?_
          refine r_nil ?_
          refine w_ret ?_
          refine thenQ_r ?_
          refine blockQ_r ?_
          refine thenQ_r ?_
          refine thenQ_r ?_
          refine blockQ_r ?_
          refine thenQ_r ?_
          cases hF
          exact endQ_r rfl (.inl ⟨_, _, by first | rfl | (simp [List.take_of_length_le]; first | exact ⟨rfl, rfl⟩ | rfl), by simp, by first | rfl | simp [res_spec_l30Ok, List.take_of_length_le]⟩)
        ·
          refine qg (.val none (.ptr [.str v1000.1, .int .i64 v1000.2.1, .sl 1 (v1000.2.2.map V.str)])) rfl rfl (qg (.val none (.ptr [.str v1000.1, .int .i64 v1000.2.1, .sl 1 (v1000.2.2.map V.str)])) rfl rfl (qg (.val none (.ptr [.sl 1 (v1000.2.2.map V.str)])) rfl rfl (qg (.val none (.sl 1 (v1000.2.2.map V.str))) rfl rfl (qg (AI (v1000.2.2.length : Int)) rfl (ev_len_n rfl) (qg (AB (decide ((4 : Int) < (v1000.2.2.length : Int)))) rfl rfl (qp (AB (decide ((4 : Int) < (v1000.2.2.length : Int)))) rfl (qp (AB (decide ((4 : Int) < (v1000.2.2.length : Int)))) rfl ?_)))))))
          refine q_case 38 hF rfl (fun hF => ?_) (fun hF => ?_)
          ·
            refine qn rfl (qn rfl (qn rfl (qu rfl (qu rfl (qu rfl (qu rfl (qu rfl ?_)))))))
            refine qu rfl (qu rfl (qu rfl (qu rfl (qu rfl (qu rfl (qn rfl (qp (AB true) rfl ?_)))))))
            refine r_nil ?_
            refine w_true rfl ?_
            refine w_reg_seq 3009 3073 rfl rfl ?_
            refine qp (AB false) rfl ?_
            refine r_nil ?_
            refine w_ret ?_
            refine thenQ_r ?_
            refine blockQ_r ?_
            refine thenQ_r ?_
            refine thenQ_r ?_
            refine blockQ_r ?_
            refine thenQ_r ?_
            cases hF
            exact endQ_r rfl (.inl ⟨_, _, by first | rfl | (simp [List.take_of_length_le]; first | exact ⟨rfl, rfl⟩ | rfl), by simp, by first | rfl | simp [res_spec_l30Ok, List.take_of_length_le]⟩)
          ·
            refine qg (AI v26) rfl rfl (qg (AB (decide ((0 : Int) < v26))) rfl rfl (qg (AB (decide ((0 : Int) < v26))) rfl rfl ?_))
            refine q_case 41 hF rfl (fun hF => ?_) (fun hF => ?_)
            ·
              refine qg (.val none (.sl 3 (v0.map ePerson))) rfl rfl (qg (AI v26) rfl rfl (qg (AI (w64 (v26 - 1))) rfl rfl ?_))
              obtain ⟨v1006, e1006, hF⟩ := bind_get hF
              refine qg (.val none (.ptr [.str v1006.1, .int .i64 v1006.2.1, .sl 1 (v1006.2.2.map V.str)])) rfl (ev_iad_n rfl rfl e1006 rfl) (qg (.val none (.ptr [.str v1006.1, .int .i64 v1006.2.1, .sl 1 (v1006.2.2.map V.str)])) rfl rfl (qg (AS v1006.1) rfl rfl (qg (.val none (.ptr [.str v1000.1, .int .i64 v1000.2.1, .sl 1 (v1000.2.2.map V.str)])) rfl rfl (qg (.val none (.ptr [.str v1000.1, .int .i64 v1000.2.1, .sl 1 (v1000.2.2.map V.str)])) rfl rfl (qg (.val none (.ptr [.str v1000.1, .int .i64 v1000.2.1, .sl 1 (v1000.2.2.map V.str)])) rfl rfl (qg (AS v1000.1) rfl rfl (qg (AB (!Op.bytesLess v1006.1 v1000.1)) rfl rfl ?_)))))))
              refine qg (AB (!Op.bytesLess v1006.1 v1000.1)) rfl rfl (qp (AB (!Op.bytesLess v1006.1 v1000.1)) rfl ?_)
              refine r_nil ?_
              refine w_condF hF rfl (fun hF => ?_) (fun hF => ?_)
              ·
                refine w_reg_seq 3009 3073 rfl rfl ?_
                refine qp (AB false) rfl ?_
                refine r_nil ?_
                refine w_ret ?_
                refine thenQ_r ?_
                refine blockQ_r ?_
                refine thenQ_r ?_
                refine thenQ_r ?_
                refine blockQ_r ?_
                refine thenQ_r ?_
                cases hF
                exact endQ_r rfl (.inl ⟨_, _, by first | rfl | (simp [List.take_of_length_le]; first | exact ⟨rfl, rfl⟩ | rfl), by simp, by first | rfl | simp [res_spec_l30Ok, List.take_of_length_le]⟩)
              ·
                refine w_skip ?_
                refine thenQ_n ?_
                refine aw_ren (l' := [(0, .val none (.sl 3 (v0.map ePerson))), (3, AI v26), (4, .val none (.ptr [.str v1000.1, .int .i64 v1000.2.1, .sl 1 (v1000.2.2.map V.str)]))]) (L := []) [0, 3, 4] [] 1 (by first | rfl | simp) (by first | rfl | simp) (by decide) (by decide) (by decide) ⟨rfl, hF⟩
            ·
              refine qn rfl (qn rfl (qn rfl (qn rfl (qn rfl (qn rfl (qn rfl (qn rfl ?_)))))))
              refine qn rfl (qn rfl (qn rfl (qg (AB false) rfl rfl (qp (AB false) rfl ?_))))
              refine r_nil ?_
              refine w_false rfl ?_
              refine w_skip ?_
              refine thenQ_n ?_
              refine aw_ren (l' := [(0, .val none (.sl 3 (v0.map ePerson))), (3, AI v26), (4, .val none (.ptr [.str v1000.1, .int .i64 v1000.2.1, .sl 1 (v1000.2.2.map V.str)]))]) (L := []) [0, 3, 4] [] 1 (by first | rfl | simp) (by first | rfl | simp) (by decide) (by decide) (by decide) ⟨rfl, hF⟩
    ·
      rintro s' ⟨rfl, hF⟩
      unfold F_spec_l30Ok_j1 at hF
      refine w_reg_seq 1 65 rfl rfl ?_
      refine qp (AI 0) rfl ?_
      refine r_nil ?_
      refine w_block ?_
      refine w_ren (l' := [(0, .val none (.sl 3 (v0.map ePerson))), (3, AI v26), (4, .val none (.ptr [.str v1000.1, .int .i64 v1000.2.1, .sl 1 (v1000.2.2.map V.str)])), (5, AI 0)]) (L := []) [0, 3, 4, 5] [] 1 (by first | rfl | simp) (by first | rfl | simp) (by decide) (by decide) (by decide) ?_
      refine w_loopF (F_spec_l30Ok_l2 v0 v26 v1000 k2) (fun s : Int => mkS [(0, .val none (.sl 3 (v0.map ePerson))), (3, AI v26), (4, .val none (.ptr [.str v1000.1, .int .i64 v1000.2.1, .sl 1 (v1000.2.2.map V.str)])), (5, AI s)] (fo []) 1) hF ?_
      rintro k4 v1015 hF
      rw [F_spec_l30Ok_l2] at hF
      try dsimp only
      refine w_seq ?_
      refine w_reg_seq 1 449 rfl rfl ?_
      refine qp (AI v1015) rfl (qp (.val none (.ptr [.str v1000.1, .int .i64 v1000.2.1, .sl 1 (v1000.2.2.map V.str)])) rfl (qp (.val none (.ptr [.str v1000.1, .int .i64 v1000.2.1, .sl 1 (v1000.2.2.map V.str)])) rfl (qp (.val none (.ptr [.sl 1 (v1000.2.2.map V.str)])) rfl (qp (.val none (.sl 1 (v1000.2.2.map V.str))) rfl (qp (AI (v1000.2.2.length : Int)) (ev_len_n rfl) (qp (AB (decide (v1015 < (v1000.2.2.length : Int)))) rfl ?_))))))
      refine r_nil ?_
      refine w_condF hF rfl (fun hF => ?_) (fun hF => ?_)
      ·
        refine w_skip ?_
        refine thenQ_n ?_
        refine w_seq ?_
        refine w_block ?_
        refine w_reg_seq 449 1089 rfl rfl ?_
        refine qp (.val none (.sl 3 (v0.map ePerson))) rfl (qp (.val none (.ptr [.str v1000.1, .int .i64 v1000.2.1, .sl 1 (v1000.2.2.map V.str)])) rfl (qp (.val none (.ptr [.str v1000.1, .int .i64 v1000.2.1, .sl 1 (v1000.2.2.map V.str)])) rfl (qp (.val none (.ptr [.sl 1 (v1000.2.2.map V.str)])) rfl (qp (.val none (.sl 1 (v1000.2.2.map V.str))) rfl (qp (AI v1015) rfl ?_)))))
        obtain ⟨v1007, e1007, hF⟩ := bind_get hF
        refine qp (.val none (.ptr [.str v1007])) (ev_iad_n rfl rfl e1007 rfl) (qp (AS v1007) rfl ?_)
        obtain ⟨v1008, e1008, hF⟩ := bind_get hF
        refine qc (AI v1008) [] false (con_spec_l30Find e1008) c64_ok (by first | rfl | simp) rfl ?_
        refine qp (AI v1008) rfl ?_
        refine r_nil ?_
        refine w_reg_seq 1089 3393 rfl rfl ?_
        refine qp (AI v1008) rfl (qp (AB (decide (v1008 < (0 : Int)))) rfl (qp (AB (decide (v1008 < (0 : Int)))) rfl ?_))
        refine q_case 75 hF rfl (fun hF => ?_) (fun hF => ?_)
        ·
          refine qn rfl (qn rfl (qn rfl (qn rfl (qn rfl (qn rfl (qn rfl (qn rfl ?_)))))))
          refine qn rfl (qn rfl (qp (AB true) rfl (qp (AB true) rfl (qn rfl (qn rfl (qn rfl (qu rfl ?_)))))))
          refine qu rfl (qu rfl (qu rfl (qu rfl (qu rfl (qu rfl (qu rfl (qu rfl ?_)))))))
          refine qu rfl (qu rfl (qu rfl (qu rfl (qu rfl (qu rfl (qu rfl (qn rfl ?_)))))))
          refine qp (AB true) rfl ?_
          refine r_nil ?_
          refine w_true rfl ?_
          refine w_reg_seq 3393 3457 rfl rfl ?_
          refine qp (AB false) rfl ?_
          refine r_nil ?_
          refine w_ret ?_
          refine blockQ_r ?_
          refine thenQ_r ?_
          refine thenQ_r ?_
          refine blockQ_r ?_
          refine blockQ_r ?_
          refine thenQ_r ?_
          refine thenQ_r ?_
          refine blockQ_r ?_
          refine thenQ_r ?_
          cases hF
          exact endQ_r rfl (.inl ⟨_, _, by first | rfl | (simp [List.take_of_length_le]; first | exact ⟨rfl, rfl⟩ | rfl), by simp, by first | rfl | simp [res_spec_l30Ok, List.take_of_length_le]⟩)
        ·
          refine qg (.val none (.sl 3 (v0.map ePerson))) rfl rfl (qg (AI v1008) rfl rfl ?_)
          obtain ⟨v1009, e1009, hF⟩ := bind_get hF
          refine qg (.val none (.ptr [.str v1009.1, .int .i64 v1009.2.1, .sl 1 (v1009.2.2.map V.str)])) rfl (ev_iad_n rfl rfl e1009 rfl) (qg (.val none (.ptr [.int .i64 v1009.2.1, .sl 1 (v1009.2.2.map V.str)])) rfl rfl (qg (AI v1009.2.1) rfl rfl (qg (.val none (.ptr [.str v1000.1, .int .i64 v1000.2.1, .sl 1 (v1000.2.2.map V.str)])) rfl rfl (qg (.val none (.ptr [.str v1000.1, .int .i64 v1000.2.1, .sl 1 (v1000.2.2.map V.str)])) rfl rfl (qg (.val none (.ptr [.int .i64 v1000.2.1, .sl 1 (v1000.2.2.map V.str)])) rfl rfl (qg (AI v1000.2.1) rfl rfl (qg (AB (decide (v1000.2.1 ≤ v1009.2.1))) rfl rfl ?_)))))))
          refine qp (AB (decide (v1000.2.1 ≤ v1009.2.1))) rfl (qp (AB (decide (v1000.2.1 ≤ v1009.2.1))) rfl ?_)
          refine q_case 87 hF rfl (fun hF => ?_) (fun hF => ?_)
          ·
            refine qn rfl (qn rfl (qn rfl (qu rfl (qu rfl (qu rfl (qu rfl (qu rfl ?_)))))))
            refine qu rfl (qu rfl (qu rfl (qu rfl (qu rfl (qu rfl (qu rfl (qu rfl ?_)))))))
            refine qu rfl (qu rfl (qu rfl (qn rfl (qp (AB true) rfl ?_))))
            refine r_nil ?_
            refine w_true rfl ?_
            refine w_reg_seq 3393 3457 rfl rfl ?_
            refine qp (AB false) rfl ?_
            refine r_nil ?_
            refine w_ret ?_
            refine blockQ_r ?_
            refine thenQ_r ?_
            refine thenQ_r ?_
            refine blockQ_r ?_
            refine blockQ_r ?_
            refine thenQ_r ?_
            refine thenQ_r ?_
            refine blockQ_r ?_
            refine thenQ_r ?_
            cases hF
            exact endQ_r rfl (.inl ⟨_, _, by first | rfl | (simp [List.take_of_length_le]; first | exact ⟨rfl, rfl⟩ | rfl), by simp, by first | rfl | simp [res_spec_l30Ok, List.take_of_length_le]⟩)
          ·
            refine qg (AI v1015) rfl rfl (qg (AB (decide ((0 : Int) < v1015))) rfl rfl (qg (AB (decide ((0 : Int) < v1015))) rfl rfl ?_))
            refine q_case 90 hF rfl (fun hF => ?_) (fun hF => ?_)
            ·
              refine qg (.val none (.ptr [.str v1000.1, .int .i64 v1000.2.1, .sl 1 (v1000.2.2.map V.str)])) rfl rfl (qg (.val none (.ptr [.str v1000.1, .int .i64 v1000.2.1, .sl 1 (v1000.2.2.map V.str)])) rfl rfl (qg (.val none (.ptr [.sl 1 (v1000.2.2.map V.str)])) rfl rfl (qg (.val none (.sl 1 (v1000.2.2.map V.str))) rfl rfl (qg (AI v1015) rfl rfl (qg (AI (w64 (v1015 - 1))) rfl rfl ?_)))))
              obtain ⟨v1010, e1010, hF⟩ := bind_get hF
              refine qg (.val none (.ptr [.str v1010])) rfl (ev_iad_n rfl rfl e1010 rfl) (qg (AS v1010) rfl rfl (qg (.val none (.ptr [.str v1000.1, .int .i64 v1000.2.1, .sl 1 (v1000.2.2.map V.str)])) rfl rfl (qg (.val none (.ptr [.str v1000.1, .int .i64 v1000.2.1, .sl 1 (v1000.2.2.map V.str)])) rfl rfl (qg (.val none (.ptr [.sl 1 (v1000.2.2.map V.str)])) rfl rfl (qg (.val none (.sl 1 (v1000.2.2.map V.str))) rfl rfl (qg (AI v1015) rfl rfl ?_))))))
              obtain ⟨v1011, e1011, hF⟩ := bind_get hF
              refine qg (.val none (.ptr [.str v1011])) rfl (ev_iad_n rfl rfl e1011 rfl) (qg (AS v1011) rfl rfl (qg (AB (!Op.bytesLess v1010 v1011)) rfl rfl (qg (AB (!Op.bytesLess v1010 v1011)) rfl rfl (qp (AB (!Op.bytesLess v1010 v1011)) rfl ?_))))
              refine r_nil ?_
              refine w_condF hF rfl (fun hF => ?_) (fun hF => ?_)
              ·
                refine w_reg_seq 3393 3457 rfl rfl ?_
                refine qp (AB false) rfl ?_
                refine r_nil ?_
                refine w_ret ?_
                refine blockQ_r ?_
                refine thenQ_r ?_
                refine thenQ_r ?_
                refine blockQ_r ?_
                refine blockQ_r ?_
                refine thenQ_r ?_
                refine thenQ_r ?_
                refine blockQ_r ?_
                refine thenQ_r ?_
                cases hF
                exact endQ_r rfl (.inl ⟨_, _, by first | rfl | (simp [List.take_of_length_le]; first | exact ⟨rfl, rfl⟩ | rfl), by simp, by first | rfl | simp [res_spec_l30Ok, List.take_of_length_le]⟩)
              ·
                refine w_skip ?_
                refine blockQ_n ?_
                refine thenQ_n ?_
                refine w_reg 3393 3585 rfl rfl ?_
                refine qp (AI v1015) rfl (qp (AI (w64 (v1015 + 1))) rfl (qp (AI (w64 (v1015 + 1))) rfl ?_))
                refine r_nil ?_
                refine thenQ_n ?_
                refine aw_ren (l' := [(0, .val none (.sl 3 (v0.map ePerson))), (3, AI v26), (4, .val none (.ptr [.str v1000.1, .int .i64 v1000.2.1, .sl 1 (v1000.2.2.map V.str)])), (5, AI (w64 (v1015 + 1)))]) (L := []) [0, 3, 4, 5] [] 1 (by first | rfl | simp) (by first | rfl | simp) (by decide) (by decide) (by decide) ⟨_, by rfl, hF⟩
            ·
              refine qn rfl (qn rfl (qn rfl (qn rfl (qn rfl (qn rfl (qn rfl (qn rfl ?_)))))))
              refine qn rfl (qn rfl (qn rfl (qn rfl (qn rfl (qn rfl (qn rfl (qn rfl ?_)))))))
              refine qg (AB false) rfl rfl (qp (AB false) rfl ?_)
              refine r_nil ?_
              refine w_false rfl ?_
              refine w_skip ?_
              refine blockQ_n ?_
              refine thenQ_n ?_
              refine w_reg 3393 3585 rfl rfl ?_
              refine qp (AI v1015) rfl (qp (AI (w64 (v1015 + 1))) rfl (qp (AI (w64 (v1015 + 1))) rfl ?_))
              refine r_nil ?_
              refine thenQ_n ?_
              refine aw_ren (l' := [(0, .val none (.sl 3 (v0.map ePerson))), (3, AI v26), (4, .val none (.ptr [.str v1000.1, .int .i64 v1000.2.1, .sl 1 (v1000.2.2.map V.str)])), (5, AI (w64 (v1015 + 1)))]) (L := []) [0, 3, 4, 5] [] 1 (by first | rfl | simp) (by first | rfl | simp) (by decide) (by decide) (by decide) ⟨_, by rfl, hF⟩
      ·
        refine w_exit ?_
        refine thenQ_e ?_
        refine thenQ_e ?_
        refine blockQ_e ?_
        refine blockQ_n ?_
        refine thenQ_n ?_
        refine w_reg 449 641 rfl rfl ?_
        refine qp (AI v26) rfl (qp (AI (w64 (v26 + 1))) rfl (qp (AI (w64 (v26 + 1))) rfl ?_))
        refine r_nil ?_
        refine thenQ_n ?_
        refine aw_ren (l' := [(0, .val none (.sl 3 (v0.map ePerson))), (3, AI (w64 (v26 + 1)))]) (L := []) [0, 3] [] 1 (by first | rfl | simp) (by first | rfl | simp) (by decide) (by decide) (by decide) ⟨_, by rfl, hF⟩
  ·
    refine w_exit ?_
    refine thenQ_e ?_
    refine thenQ_e ?_
    refine blockQ_e ?_
    refine thenQ_n ?_
    refine w_reg_seq 257 513 rfl rfl ?_
    refine qp (.val none (.sl 3 (v0.map ePerson))) rfl (qp (AI (v0.length : Int)) (ev_len_n rfl) (qp (AB (decide ((v0.length : Int) ≤ (24 : Int)))) rfl (qp (AB (decide ((v0.length : Int) ≤ (24 : Int)))) rfl ?_)))
    refine r_nil ?_
    refine w_ret ?_
    cases hF
    exact endQ_r rfl (.inl ⟨_, _, by first | rfl | (simp [List.take_of_length_le]; first | exact ⟨rfl, rfl⟩ | rfl), by simp, by first | rfl | simp [res_spec_l30Ok, List.take_of_length_le]⟩)

def c62 : MC := (.seq (.reg [⟨(some 4), none, (.p true (.mv (.c (.int .i64 0))))⟩]) (.seq (.seq (.reg [⟨(some 5), none, (.p true (.mv (.t 0)))⟩, ⟨(some 6), none, (.call true 80 [(.t 5)])⟩, ⟨(some 7), none, (.p true (.not (.t 6)))⟩]) (.cond (.t 7) (.seq (.reg [⟨(some 4), none, (.p true (.mv (.c (.int .i64 1))))⟩]) .ret) .skip)) (.seq (.seq (.reg [⟨(some 8), none, (.p true (.mv (.t 0)))⟩, ⟨(some 9), none, (.p true (.mv (.t 1)))⟩, ⟨(some 10), none, (.call true 64 [(.t 8), (.t 9)])⟩, ⟨(some 11), none, (.p true (.bin .lss (.t 10) (.c (.int .i64 0))))⟩]) (.cond (.t 11) (.seq (.reg [⟨(some 4), none, (.p true (.mv (.c (.int .i64 3))))⟩]) .ret) .skip)) (.seq (.reg [⟨(some 4), none, (.p true (.mv (.c (.int .i64 0))))⟩]) .ret))))
theorem c62_is : compFn Try.prog 62 = some (c62, [(.tmp 4)]) := by kernel_rfl
theorem c62_ok : okFn Try.prog 62 = true := by kernel_rfl

noncomputable def F_spec_l30Ask (v0 : List TPerson) (v1 : List UInt8) : Option (Int) :=
  ((F_spec_l30Ok v0).bind fun v1000 => (bif (!v1000) then some 1
  else ((F_spec_l30Find v0 v1).bind fun v1001 => (bif (decide (v1001 < (0 : Int))) then some 3
  else some 0))))
@[simp] def res_spec_l30Ask (r : Int) : RV := .one (.one (.val (.int .i64 r)))
theorem con_spec_l30Ask {v0 : List TPerson} {v1 : List UInt8} {r : Int} (hF : F_spec_l30Ask v0 v1 = some r) : Con Try.prog 62 [.sl 3 (v0.map ePerson), .str v1] (res_spec_l30Ask r) := by
  unfold F_spec_l30Ask at hF
  refine con_of c62_is fun N => ?_
  refine w_reg_seq 0 64 rfl rfl ?_
  refine qp (AI 0) rfl ?_
  refine r_nil ?_
  refine w_seq ?_
  refine w_reg_seq 64 256 rfl rfl ?_
  refine qp (.val none (.sl 3 (v0.map ePerson))) rfl ?_
  obtain ⟨v1000, e1000, hF⟩ := bind_get hF
  refine qc (AB v1000) [] false (con_spec_l30Ok e1000) c80_ok (by first | rfl | simp) rfl ?_
  refine qp (AB (!v1000)) rfl ?_
  refine r_nil ?_
  refine w_condF hF rfl (fun hF => ?_) (fun hF => ?_)
  ·
    refine w_reg_seq 256 320 rfl rfl ?_
    refine qp (AI 1) rfl ?_
    refine r_nil ?_
    refine w_ret ?_
    refine thenQ_r ?_
    cases hF
    exact endQ_r rfl (.inl ⟨_, _, by first | rfl | (simp [List.take_of_length_le]; first | exact ⟨rfl, rfl⟩ | rfl), by simp, by first | rfl | simp [res_spec_l30Ask, List.take_of_length_le]⟩)
  ·
    refine w_skip ?_
    refine thenQ_n ?_
    refine w_seq ?_
    refine w_reg_seq 256 512 rfl rfl ?_
    refine qp (.val none (.sl 3 (v0.map ePerson))) rfl (qp (AS v1) rfl ?_)
    obtain ⟨v1001, e1001, hF⟩ := bind_get hF
    refine qc (AI v1001) [] false (con_spec_l30Find e1001) c64_ok (by first | rfl | simp) rfl ?_
    refine qp (AB (decide (v1001 < (0 : Int)))) rfl ?_
    refine r_nil ?_
    refine w_condF hF rfl (fun hF => ?_) (fun hF => ?_)
    ·
      refine w_reg_seq 512 576 rfl rfl ?_
      refine qp (AI 3) rfl ?_
      refine r_nil ?_
      refine w_ret ?_
      refine thenQ_r ?_
      cases hF
      exact endQ_r rfl (.inl ⟨_, _, by first | rfl | (simp [List.take_of_length_le]; first | exact ⟨rfl, rfl⟩ | rfl), by simp, by first | rfl | simp [res_spec_l30Ask, List.take_of_length_le]⟩)
    ·
      refine w_skip ?_
      refine thenQ_n ?_
      refine w_reg_seq 512 576 rfl rfl ?_
      refine qp (AI 0) rfl ?_
      refine r_nil ?_
      refine w_ret ?_
      cases hF
      exact endQ_r rfl (.inl ⟨_, _, by first | rfl | (simp [List.take_of_length_le]; first | exact ⟨rfl, rfl⟩ | rfl), by simp, by first | rfl | simp [res_spec_l30Ask, List.take_of_length_le]⟩)

def c95 : MC := (.seq (.reg [⟨(some 4), none, (.f (.nilrow 1))⟩]) (.seq (.reg [⟨(some 9), none, (.p true (.mv (.t 0)))⟩, ⟨(some 10), none, (.p true (.len (.t 9)))⟩, ⟨(some 11), none, (.f (.mks 1 1 (.bool false) (.t 10) (.t 10)))⟩, ⟨(some 5), none, (.p true (.mv (.t 11)))⟩]) (.seq (.seq (.reg [⟨(some 6), none, (.p true (.mv (.c (.int .i64 0))))⟩]) (.block 0 (.loop (.seq (.seq (.reg [⟨(some 12), none, (.p true (.mv (.t 6)))⟩, ⟨(some 13), none, (.p true (.mv (.t 0)))⟩, ⟨(some 14), none, (.p true (.len (.t 13)))⟩, ⟨(some 15), none, (.p true (.bin .lss (.t 12) (.t 14)))⟩]) (.cond (.t 15) .skip (.exit 0))) (.seq (.block 1 (.seq (.reg [⟨(some 7), none, (.p true (.mv (.c (.int .i64 0))))⟩]) (.block 2 (.loop (.seq (.seq (.reg [⟨(some 18), none, (.p true (.mv (.t 7)))⟩, ⟨(some 19), none, (.p true (.mv (.t 0)))⟩, ⟨(some 20), none, (.p true (.len (.t 19)))⟩, ⟨(some 21), none, (.p true (.bin .lss (.t 18) (.t 20)))⟩]) (.cond (.t 21) .skip (.exit 2))) (.seq (.block 3 (.seq (.reg [⟨(some 8), none, (.p true (.mv (.c (.int .i64 0))))⟩]) (.block 4 (.loop (.seq (.seq (.reg [⟨(some 24), none, (.p true (.mv (.t 8)))⟩, ⟨(some 25), none, (.p true (.mv (.t 0)))⟩, ⟨(some 26), none, (.p true (.mv (.t 7)))⟩, ⟨(some 27), none, (.p true (.iad (.t 25) (.t 26) 3))⟩, ⟨(some 28), none, (.p true (.fad (.t 27) 2))⟩, ⟨(some 29), none, (.p true (.ld (.t 28) 1 false))⟩, ⟨(some 30), none, (.p true (.len (.t 29)))⟩, ⟨(some 31), none, (.p true (.bin .lss (.t 24) (.t 30)))⟩, ⟨(some 32), none, (.p true (.mv (.t 31)))⟩, ⟨(some 33), (some (32, true)), (.p true (.mv (.t 7)))⟩, ⟨(some 34), (some (32, true)), (.p true (.mv (.t 1)))⟩, ⟨(some 35), (some (32, true)), (.p true (.bin .eql (.t 33) (.t 34)))⟩, ⟨(some 36), (some (32, true)), (.p true (.mv (.t 35)))⟩, ⟨(some 37), (some (36, false)), (.p true (.mv (.t 5)))⟩, ⟨(some 38), (some (36, false)), (.p true (.mv (.t 7)))⟩, ⟨(some 39), (some (36, false)), (.p true (.iad (.t 37) (.t 38) 1))⟩, ⟨(some 40), (some (36, false)), (.p true (.ld (.t 39) 1 false))⟩, ⟨(some 41), (some (32, true)), (.p true (.pick (.t 36) (.c (.bool true)) (.t 40)))⟩, ⟨(some 42), none, (.p true (.pick (.t 32) (.t 41) (.c (.bool false))))⟩]) (.cond (.t 42) .skip (.exit 4))) (.seq (.block 5 (.reg [⟨(some 45), none, (.p true (.mv (.t 5)))⟩, ⟨(some 46), none, (.p true (.mv (.t 0)))⟩, ⟨(some 47), none, (.p true (.mv (.t 0)))⟩, ⟨(some 48), none, (.p true (.mv (.t 7)))⟩, ⟨(some 49), none, (.p true (.iad (.t 47) (.t 48) 3))⟩, ⟨(some 50), none, (.p true (.fad (.t 49) 2))⟩, ⟨(some 51), none, (.p true (.ld (.t 50) 1 false))⟩, ⟨(some 52), none, (.p true (.mv (.t 8)))⟩, ⟨(some 53), none, (.p true (.iad (.t 51) (.t 52) 1))⟩, ⟨(some 54), none, (.p true (.ld (.t 53) 1 false))⟩, ⟨(some 55), none, (.call true 64 [(.t 46), (.t 54)])⟩, ⟨(some 56), none, (.p true (.iad (.t 45) (.t 55) 1))⟩, ⟨none, none, (.f (.st (.t 56) (.c (.bool true)) 1))⟩])) (.reg [⟨(some 43), none, (.p true (.mv (.t 8)))⟩, ⟨(some 44), none, (.p true (.bin .add (.t 43) (.c (.int .i64 1))))⟩, ⟨(some 8), none, (.p true (.mv (.t 44)))⟩]))))))) (.reg [⟨(some 22), none, (.p true (.mv (.t 7)))⟩, ⟨(some 23), none, (.p true (.bin .add (.t 22) (.c (.int .i64 1))))⟩, ⟨(some 7), none, (.p true (.mv (.t 23)))⟩]))))))) (.reg [⟨(some 16), none, (.p true (.mv (.t 6)))⟩, ⟨(some 17), none, (.p true (.bin .add (.t 16) (.c (.int .i64 1))))⟩, ⟨(some 6), none, (.p true (.mv (.t 17)))⟩])))))) (.seq (.reg [⟨(some 57), none, (.p true (.mv (.t 5)))⟩, ⟨(some 4), none, (.p true (.mv (.t 57)))⟩]) .ret))))
theorem c95_is : compFn Try.prog 95 = some (c95, [(.tmp 4)]) := by kernel_rfl
theorem c95_ok : okFn Try.prog 95 = true := by kernel_rfl

noncomputable def F_spec_l30Above_j39 (v0 : List TPerson) (v1239 : Int) (v1259 : Int) (v1260 : List Bool) (k25 : Int × (List Bool) → Option (List Bool)) : Option (List Bool) :=
  ((ix v0 v1239).bind fun v1265 => ((ix v1265.2.2 v1259).bind fun v1266 => ((F_spec_l30Find v0 v1266).bind fun v1267 => ((ix v1260 v1267).bind fun v1268 => k25 (w64 (v1259 + 1), List.set v1260 v1267.toNat true)))))
noncomputable def F_spec_l30Above_l38 (v0 : List TPerson) (v1 : Int) (v1239 : Int) (k24 : Int × (List Bool) → Option (List Bool)) (k25 : Int × (List Bool) → Option (List Bool)) : Int × (List Bool) → Option (List Bool)
  | (v1259, v1260) => ((ix v0 v1239).bind fun v1263 => (bif (decide (v1259 < (v1263.2.2.length : Int))) then (bif (decide (v1239 = v1)) then F_spec_l30Above_j39 v0 v1239 v1259 v1260 k25
  else ((ix v1260 v1239).bind fun v1264 => (bif v1264 then F_spec_l30Above_j39 v0 v1239 v1259 v1260 k25
  else k24 (w64 (v1239 + 1), v1260))))
  else k24 (w64 (v1239 + 1), v1260)))
noncomputable def F_spec_l30Above_l35 (v0 : List TPerson) (v1 : Int) (v1179 : Int) (k21 : Int × (List Bool) → Option (List Bool)) (k24 : Int × (List Bool) → Option (List Bool)) : Int × (List Bool) → Option (List Bool)
  | (v1239, v1240) => (bif (decide (v1239 < (v0.length : Int))) then loop (F_spec_l30Above_l38 v0 v1 v1239 k24) (0, v1240)
  else k21 (w64 (v1179 + 1), v1240))
noncomputable def F_spec_l30Above_l26 (v0 : List TPerson) (v1 : Int) (k21 : Int × (List Bool) → Option (List Bool)) : Int × (List Bool) → Option (List Bool)
  | (v1179, v1180) => (bif (decide (v1179 < (v0.length : Int))) then loop (F_spec_l30Above_l35 v0 v1 v1179 k21) (0, v1180)
  else some v1180)
noncomputable def F_spec_l30Above (v0 : List TPerson) (v1 : Int) : Option (List Bool) :=
  (need (0 ≤ (v0.length : Int) ∧ (v0.length : Int) ≤ (v0.length : Int) ∧ (v0.length : Int) ≤ 9223372036854775807 ∧ 1 * (v0.length : Int) ≤ 281474976710656) (loop (F_spec_l30Above_l26 v0 v1) (0, List.replicate ((v0.length : Int)).toNat (false : Bool))))
@[simp] def res_spec_l30Above (r : List Bool) : RV := .one (.one (.row true 1 (r.map V.bool)))
theorem con_spec_l30Above {v0 : List TPerson} {v1 : Int} {r : List Bool} (hF : F_spec_l30Above v0 v1 = some r) : Con Try.prog 95 [.sl 3 (v0.map ePerson), .int .i64 v1] (res_spec_l30Above r) := by
  unfold F_spec_l30Above at hF
  refine con_of c95_is fun N => ?_
  refine w_reg_seq 0 64 rfl rfl ?_
  refine qf (.sl 0 0 0) [(0, .row true 1 (([] : List Int).map (V.int .i64)))] (by simp) ?_
  refine r_nil ?_
  refine w_reg_seq 64 320 rfl rfl ?_
  refine qp (.val none (.sl 3 (v0.map ePerson))) rfl (qp (AI (v0.length : Int)) (ev_len_n rfl) ?_)
  obtain ⟨g1000, hF⟩ := need_some hF
  refine qf (.sl 192 0 ((List.replicate ((v0.length : Int)).toNat (false : Bool)).length)) [(192, .row true 1 ((List.replicate ((v0.length : Int)).toNat (false : Bool)).map V.bool)), (0, .row true 1 (([] : List Int).map (V.int .i64)))] (effT_mks rfl rfl g1000 rfl) ?_
  refine qp (.sl 192 0 ((List.replicate ((v0.length : Int)).toNat (false : Bool)).length)) rfl ?_
  refine r_nil ?_
  refine w_seq ?_
  refine w_reg_seq 320 384 rfl rfl ?_
  refine qp (AI 0) rfl ?_
  refine r_nil ?_
  refine w_block ?_
  refine w_ren (l' := [(0, .val none (.sl 3 (v0.map ePerson))), (1, AI v1), (5, .sl 0 0 (List.replicate ((v0.length : Int)).toNat (false : Bool)).length), (6, AI 0)]) (L := [(0, .row true 1 ((List.replicate ((v0.length : Int)).toNat (false : Bool)).map V.bool))]) [0, 1, 5, 6] [(192, 0)] 1 (by first | rfl | simp) (by first | rfl | simp) (by decide) (by decide) (by decide) ?_
  refine w_loopF (F_spec_l30Above_l26 v0 v1) (fun s : Int × (List Bool) => mkS [(0, .val none (.sl 3 (v0.map ePerson))), (1, AI v1), (5, .sl 0 0 s.2.length), (6, AI s.1)] (fo [(0, .row true 1 (s.2.map V.bool))]) 1) hF ?_
  rintro k21 ⟨v1179, v1180⟩ hF
  rw [F_spec_l30Above_l26] at hF
  try dsimp only
  refine w_seq ?_
  refine w_reg_seq 1 257 rfl rfl ?_
  refine qp (AI v1179) rfl (qp (.val none (.sl 3 (v0.map ePerson))) rfl (qp (AI (v0.length : Int)) (ev_len_n rfl) (qp (AB (decide (v1179 < (v0.length : Int)))) rfl ?_)))
  refine r_nil ?_
  refine w_condF hF rfl (fun hF => ?_) (fun hF => ?_)
  ·
    refine w_skip ?_
    refine thenQ_n ?_
    refine w_seq ?_
    refine w_block ?_
    refine w_reg_seq 257 321 rfl rfl ?_
    refine qp (AI 0) rfl ?_
    refine r_nil ?_
    refine w_block ?_
    refine w_ren (l' := [(0, .val none (.sl 3 (v0.map ePerson))), (1, AI v1), (5, .sl 0 0 v1180.length), (6, AI v1179), (7, AI 0)]) (L := [(0, .row true 1 (v1180.map V.bool))]) [0, 1, 5, 6, 7] [(0, 0)] 1 (by first | rfl | simp) (by first | rfl | simp) (by decide) (by decide) (by decide) ?_
    refine w_loopF (F_spec_l30Above_l35 v0 v1 v1179 k21) (fun s : Int × (List Bool) => mkS [(0, .val none (.sl 3 (v0.map ePerson))), (1, AI v1), (5, .sl 0 0 s.2.length), (6, AI v1179), (7, AI s.1)] (fo [(0, .row true 1 (s.2.map V.bool))]) 1) hF ?_
    rintro k24 ⟨v1239, v1240⟩ hF
    rw [F_spec_l30Above_l35] at hF
    try dsimp only
    refine w_seq ?_
    refine w_reg_seq 1 257 rfl rfl ?_
    refine qp (AI v1239) rfl (qp (.val none (.sl 3 (v0.map ePerson))) rfl (qp (AI (v0.length : Int)) (ev_len_n rfl) (qp (AB (decide (v1239 < (v0.length : Int)))) rfl ?_)))
    refine r_nil ?_
    refine w_condF hF rfl (fun hF => ?_) (fun hF => ?_)
    ·
      refine w_skip ?_
      refine thenQ_n ?_
      refine w_seq ?_
      refine w_block ?_
      refine w_reg_seq 257 321 rfl rfl ?_
      refine qp (AI 0) rfl ?_
      refine r_nil ?_
      refine w_block ?_
      refine w_ren (l' := [(0, .val none (.sl 3 (v0.map ePerson))), (1, AI v1), (5, .sl 0 0 v1240.length), (6, AI v1179), (7, AI v1239), (8, AI 0)]) (L := [(0, .row true 1 (v1240.map V.bool))]) [0, 1, 5, 6, 7, 8] [(0, 0)] 1 (by first | rfl | simp) (by first | rfl | simp) (by decide) (by decide) (by decide) ?_
      refine w_loopF (F_spec_l30Above_l38 v0 v1 v1239 k24) (fun s : Int × (List Bool) => mkS [(0, .val none (.sl 3 (v0.map ePerson))), (1, AI v1), (5, .sl 0 0 s.2.length), (6, AI v1179), (7, AI v1239), (8, AI s.1)] (fo [(0, .row true 1 (s.2.map V.bool))]) 1) hF ?_
      rintro k25 ⟨v1259, v1260⟩ hF
      rw [F_spec_l30Above_l38] at hF
      try dsimp only
      refine w_meet (fun s' => s' = mkS [(0, .val none (.sl 3 (v0.map ePerson))), (1, AI v1), (5, .sl 0 0 v1260.length), (6, AI v1179), (7, AI v1239), (8, AI v1259)] (fo [(0, .row true 1 (v1260.map V.bool))]) 1 ∧ F_spec_l30Above_j39 v0 v1239 v1259 v1260 k25 = some r) ?_ ?_
      ·
        refine w_reg_seq 1 1217 rfl rfl ?_
        refine qp (AI v1259) rfl (qp (.val none (.sl 3 (v0.map ePerson))) rfl (qp (AI v1239) rfl ?_))
        obtain ⟨v1263, e1263, hF⟩ := bind_get hF
        refine qp (.val none (.ptr [.str v1263.1, .int .i64 v1263.2.1, .sl 1 (v1263.2.2.map V.str)])) (ev_iad_n rfl rfl e1263 rfl) (qp (.val none (.ptr [.sl 1 (v1263.2.2.map V.str)])) rfl (qp (.val none (.sl 1 (v1263.2.2.map V.str))) rfl (qp (AI (v1263.2.2.length : Int)) (ev_len_n rfl) (qp (AB (decide (v1259 < (v1263.2.2.length : Int)))) rfl (qp (AB (decide (v1259 < (v1263.2.2.length : Int)))) rfl ?_)))))
        refine q_case 32 hF rfl (fun hF => ?_) (fun hF => ?_)
        ·
          refine qg (AI v1239) rfl rfl (qg (AI v1) rfl rfl (qg (AB (decide (v1239 = v1))) rfl rfl (qg (AB (decide (v1239 = v1))) rfl rfl ?_)))
          refine q_case 36 hF rfl (fun hF => ?_) (fun hF => ?_)
          ·
            refine qn rfl (qn rfl (qn rfl (qn rfl (qg (AB true) rfl rfl (qp (AB true) rfl ?_)))))
            refine r_nil ?_
            refine w_true rfl ?_
            refine w_skip ?_
            refine thenQ_n ?_
            refine aw_ren (l' := [(0, .val none (.sl 3 (v0.map ePerson))), (1, AI v1), (5, .sl 0 0 v1260.length), (6, AI v1179), (7, AI v1239), (8, AI v1259)]) (L := [(0, .row true 1 (v1260.map V.bool))]) [0, 1, 5, 6, 7, 8] [(0, 0)] 1 (by first | rfl | simp) (by first | rfl | simp) (by decide) (by decide) (by decide) ⟨rfl, hF⟩
          ·
            refine qg (.sl 0 0 v1260.length) rfl rfl (qg (AI v1239) rfl rfl ?_)
            obtain ⟨v1264, e1264, hF⟩ := bind_get hF
            refine qg (.ptr 0 v1239.toNat 0) rfl (ev_iad_r rfl (by simp) rfl rfl e1264) (qg (AB v1264) rfl (ev_ld_r rfl rfl (ix_some e1264).2 rfl rfl) (qg (AB v1264) rfl rfl (qp (AB v1264) rfl ?_)))
            refine r_nil ?_
            refine w_condF hF rfl (fun hF => ?_) (fun hF => ?_)
            ·
              refine w_skip ?_
              refine thenQ_n ?_
              refine aw_ren (l' := [(0, .val none (.sl 3 (v0.map ePerson))), (1, AI v1), (5, .sl 0 0 v1260.length), (6, AI v1179), (7, AI v1239), (8, AI v1259)]) (L := [(0, .row true 1 (v1260.map V.bool))]) [0, 1, 5, 6, 7, 8] [(0, 0)] 1 (by first | rfl | simp) (by first | rfl | simp) (by decide) (by decide) (by decide) ⟨rfl, hF⟩
            ·
              refine w_exit ?_
              refine thenQ_e ?_
              refine thenQ_e ?_
              refine blockQ_e ?_
              refine blockQ_n ?_
              refine thenQ_n ?_
              refine w_reg 1217 1409 rfl rfl ?_
              refine qp (AI v1239) rfl (qp (AI (w64 (v1239 + 1))) rfl (qp (AI (w64 (v1239 + 1))) rfl ?_))
              refine r_nil ?_
              refine thenQ_n ?_
              refine aw_ren (l' := [(0, .val none (.sl 3 (v0.map ePerson))), (1, AI v1), (5, .sl 0 0 v1260.length), (6, AI v1179), (7, AI (w64 (v1239 + 1)))]) (L := [(0, .row true 1 (v1260.map V.bool))]) [0, 1, 5, 6, 7] [(0, 0)] 1 (by first | rfl | simp) (by first | rfl | simp) (by decide) (by decide) (by decide) ⟨_, by rfl, hF⟩
        ·
          refine qn rfl (qn rfl (qn rfl (qn rfl (qu rfl (qu rfl (qu rfl (qu rfl ?_)))))))
          refine qn rfl (qp (AB false) rfl ?_)
          refine r_nil ?_
          refine w_false rfl ?_
          refine w_exit ?_
          refine thenQ_e ?_
          refine thenQ_e ?_
          refine blockQ_e ?_
          refine blockQ_n ?_
          refine thenQ_n ?_
          refine w_reg 1217 1409 rfl rfl ?_
          refine qp (AI v1239) rfl (qp (AI (w64 (v1239 + 1))) rfl (qp (AI (w64 (v1239 + 1))) rfl ?_))
          refine r_nil ?_
          refine thenQ_n ?_
          refine aw_ren (l' := [(0, .val none (.sl 3 (v0.map ePerson))), (1, AI v1), (5, .sl 0 0 v1260.length), (6, AI v1179), (7, AI (w64 (v1239 + 1)))]) (L := [(0, .row true 1 (v1260.map V.bool))]) [0, 1, 5, 6, 7] [(0, 0)] 1 (by first | rfl | simp) (by first | rfl | simp) (by decide) (by decide) (by decide) ⟨_, by rfl, hF⟩
      ·
        rintro s' ⟨rfl, hF⟩
        unfold F_spec_l30Above_j39 at hF
        refine w_seq ?_
        refine w_block ?_
        refine w_reg 1 833 rfl rfl ?_
        refine qp (.sl 0 0 v1260.length) rfl (qp (.val none (.sl 3 (v0.map ePerson))) rfl (qp (.val none (.sl 3 (v0.map ePerson))) rfl (qp (AI v1239) rfl ?_)))
        obtain ⟨v1265, e1265, hF⟩ := bind_get hF
        refine qp (.val none (.ptr [.str v1265.1, .int .i64 v1265.2.1, .sl 1 (v1265.2.2.map V.str)])) (ev_iad_n rfl rfl e1265 rfl) (qp (.val none (.ptr [.sl 1 (v1265.2.2.map V.str)])) rfl (qp (.val none (.sl 1 (v1265.2.2.map V.str))) rfl (qp (AI v1259) rfl ?_)))
        obtain ⟨v1266, e1266, hF⟩ := bind_get hF
        refine qp (.val none (.ptr [.str v1266])) (ev_iad_n rfl rfl e1266 rfl) (qp (AS v1266) rfl ?_)
        obtain ⟨v1267, e1267, hF⟩ := bind_get hF
        refine qc (AI v1267) [(0, .row true 1 (v1260.map V.bool))] false (con_spec_l30Find e1267) c64_ok (by first | rfl | simp) rfl ?_
        obtain ⟨v1268, e1268, hF⟩ := bind_get hF
        refine qp (.ptr 0 v1267.toNat 0) (ev_iad_r rfl (by simp) rfl rfl e1268) ?_
        refine qf0 (.undef) [(0, .row true 1 ((List.set v1260 v1267.toNat true).map V.bool)), (0, .row true 1 (v1260.map V.bool))] (effT_st rfl rfl (ix_some e1268).2 rfl rfl (by rfl) (by first | rfl | simp [patch, reb, List.take_of_length_le]) (by rfl) rfl) ?_
        refine r_nil ?_
        refine blockQ_n ?_
        refine thenQ_n ?_
        refine w_reg 833 1025 rfl rfl ?_
        refine qp (AI v1259) rfl (qp (AI (w64 (v1259 + 1))) rfl (qp (AI (w64 (v1259 + 1))) rfl ?_))
        refine r_nil ?_
        refine thenQ_n ?_
        refine aw_ren (l' := [(0, .val none (.sl 3 (v0.map ePerson))), (1, AI v1), (5, .sl 0 0 (List.set v1260 v1267.toNat true).length), (6, AI v1179), (7, AI v1239), (8, AI (w64 (v1259 + 1)))]) (L := [(0, .row true 1 ((List.set v1260 v1267.toNat true).map V.bool))]) [0, 1, 5, 6, 7, 8] [(0, 0)] 1 (by first | rfl | simp) (by first | rfl | simp) (by decide) (by decide) (by decide) ⟨_, by rfl, hF⟩
    ·
      refine w_exit ?_
      refine thenQ_e ?_
      refine thenQ_e ?_
      refine blockQ_e ?_
      refine blockQ_n ?_
      refine thenQ_n ?_
      refine w_reg 257 449 rfl rfl ?_
      refine qp (AI v1179) rfl (qp (AI (w64 (v1179 + 1))) rfl (qp (AI (w64 (v1179 + 1))) rfl ?_))
      refine r_nil ?_
      refine thenQ_n ?_
      refine aw_ren (l' := [(0, .val none (.sl 3 (v0.map ePerson))), (1, AI v1), (5, .sl 0 0 v1240.length), (6, AI (w64 (v1179 + 1)))]) (L := [(0, .row true 1 (v1240.map V.bool))]) [0, 1, 5, 6] [(0, 0)] 1 (by first | rfl | simp) (by first | rfl | simp) (by decide) (by decide) (by decide) ⟨_, by rfl, hF⟩
  ·
    refine w_exit ?_
    refine thenQ_e ?_
    refine thenQ_e ?_
    refine blockQ_e ?_
    refine thenQ_n ?_
    refine w_reg_seq 257 385 rfl rfl ?_
    refine qp (.sl 0 0 v1180.length) rfl (qp (.sl 0 0 v1180.length) rfl ?_)
    refine r_nil ?_
    refine w_ret ?_
    cases hF
    exact endQ_r rfl (.inl ⟨_, _, by first | rfl | (simp [List.take_of_length_le]; first | exact ⟨rfl, rfl⟩ | rfl), by simp, by first | rfl | simp [res_spec_l30Above, List.take_of_length_le]⟩)

def c94 : MC := (.seq (.reg [⟨(some 4), none, (.f (.nilrow 1))⟩]) (.seq (.reg [⟨(some 7), none, (.f (.bsl 1 []))⟩, ⟨(some 5), none, (.p true (.mv (.t 7)))⟩]) (.seq (.seq (.reg [⟨(some 6), none, (.p true (.mv (.c (.int .i64 0))))⟩]) (.block 0 (.loop (.seq (.seq (.reg [⟨(some 8), none, (.p true (.mv (.t 6)))⟩, ⟨(some 9), none, (.p true (.mv (.t 0)))⟩, ⟨(some 10), none, (.p true (.len (.t 9)))⟩, ⟨(some 11), none, (.p true (.bin .lss (.t 8) (.t 10)))⟩]) (.cond (.t 11) .skip (.exit 0))) (.seq (.block 1 (.seq (.reg [⟨(some 14), none, (.p true (.mv (.t 1)))⟩, ⟨(some 15), none, (.p true (.mv (.t 6)))⟩, ⟨(some 16), none, (.p true (.iad (.t 14) (.t 15) 1))⟩, ⟨(some 17), none, (.p true (.ld (.t 16) 1 false))⟩]) (.cond (.t 17) (.reg [⟨(some 18), none, (.p true (.mv (.t 5)))⟩, ⟨(some 19), none, (.p true (.mv (.t 0)))⟩, ⟨(some 20), none, (.p true (.mv (.t 6)))⟩, ⟨(some 21), none, (.p true (.iad (.t 19) (.t 20) 3))⟩, ⟨(some 22), none, (.p true (.fad (.t 21) 0))⟩, ⟨(some 23), none, (.p true (.ld (.t 22) 1 false))⟩, ⟨(some 24), none, (.f (.bsl 1 [(.t 23)]))⟩, ⟨(some 25), none, (.f (.app (.t 18) (.t 24) 1 16 true))⟩, ⟨(some 5), none, (.p true (.mv (.t 25)))⟩]) .skip))) (.reg [⟨(some 12), none, (.p true (.mv (.t 6)))⟩, ⟨(some 13), none, (.p true (.bin .add (.t 12) (.c (.int .i64 1))))⟩, ⟨(some 6), none, (.p true (.mv (.t 13)))⟩])))))) (.seq (.reg [⟨(some 26), none, (.p true (.mv (.t 5)))⟩, ⟨(some 4), none, (.p true (.mv (.t 26)))⟩]) .ret))))
theorem c94_is : compFn Try.prog 94 = some (c94, [(.tmp 4)]) := by kernel_rfl
theorem c94_ok : okFn Try.prog 94 = true := by kernel_rfl

noncomputable def F_spec_l30Names_l0 (v0 : List TPerson) (v1 : List Bool) (k0 : Int × (List (List UInt8)) → Option (List (List UInt8))) : Int × (List (List UInt8)) → Option (List (List UInt8))
  | (v10, v11) => (bif (decide (v10 < (v0.length : Int))) then ((ix v1 v10).bind fun v1000 => (bif v1000 then ((ix v0 v10).bind fun v1001 => (need (room (v11.length + [v1001.1].length) 16) (k0 (w64 (v10 + 1), v11 ++ [v1001.1]))))
  else k0 (w64 (v10 + 1), v11)))
  else some v11)
noncomputable def F_spec_l30Names (v0 : List TPerson) (v1 : List Bool) : Option (List (List UInt8)) :=
  loop (F_spec_l30Names_l0 v0 v1) (0, [])
@[simp] def res_spec_l30Names (r : List (List UInt8)) : RV := .one (.one (.row true 1 (r.map V.str)))
theorem con_spec_l30Names {v0 : List TPerson} {v1 : List Bool} {r : List (List UInt8)} (hF : F_spec_l30Names v0 v1 = some r) : Con Try.prog 94 [.sl 3 (v0.map ePerson), .sl 1 (v1.map V.bool)] (res_spec_l30Names r) := by
  unfold F_spec_l30Names at hF
  refine con_of c94_is fun N => ?_
  refine w_reg_seq 0 64 rfl rfl ?_
  refine qf (.sl 0 0 0) [(0, .row true 1 (([] : List Int).map (V.int .i64)))] (by simp) ?_
  refine r_nil ?_
  refine w_reg_seq 64 192 rfl rfl ?_
  refine qf (.sl 64 0 0) [(64, .row true 1 (([] : List (List UInt8)).map V.str)), (0, .row true 1 (([] : List Int).map (V.int .i64)))] (by simp [List.take_of_length_le]) ?_
  refine qp (.sl 64 0 0) rfl ?_
  refine r_nil ?_
  refine w_seq ?_
  refine w_reg_seq 192 256 rfl rfl ?_
  refine qp (AI 0) rfl ?_
  refine r_nil ?_
  refine w_block ?_
  refine w_ren (l' := [(0, .val none (.sl 3 (v0.map ePerson))), (1, .val none (.sl 1 (v1.map V.bool))), (5, .sl 0 0 0), (6, AI 0)]) (L := [(0, .row true 1 (([] : List (List UInt8)).map V.str))]) [0, 1, 5, 6] [(64, 0)] 1 (by first | rfl | simp) (by first | rfl | simp) (by decide) (by decide) (by decide) ?_
  refine w_loopF (F_spec_l30Names_l0 v0 v1) (fun s : Int × (List (List UInt8)) => mkS [(0, .val none (.sl 3 (v0.map ePerson))), (1, .val none (.sl 1 (v1.map V.bool))), (5, .sl 0 0 s.2.length), (6, AI s.1)] (fo [(0, .row true 1 (s.2.map V.str))]) 1) hF ?_
  rintro k0 ⟨v10, v11⟩ hF
  rw [F_spec_l30Names_l0] at hF
  try dsimp only
  refine w_seq ?_
  refine w_reg_seq 1 257 rfl rfl ?_
  refine qp (AI v10) rfl (qp (.val none (.sl 3 (v0.map ePerson))) rfl (qp (AI (v0.length : Int)) (ev_len_n rfl) (qp (AB (decide (v10 < (v0.length : Int)))) rfl ?_)))
  refine r_nil ?_
  refine w_condF hF rfl (fun hF => ?_) (fun hF => ?_)
  ·
    refine w_skip ?_
    refine thenQ_n ?_
    refine w_seq ?_
    refine w_block ?_
    refine w_reg_seq 257 513 rfl rfl ?_
    refine qp (.val none (.sl 1 (v1.map V.bool))) rfl (qp (AI v10) rfl ?_)
    obtain ⟨v1000, e1000, hF⟩ := bind_get hF
    refine qp (.val none (.ptr [.bool v1000])) (ev_iad_n rfl rfl e1000 rfl) (qp (AB v1000) rfl ?_)
    refine r_nil ?_
    refine w_condF hF rfl (fun hF => ?_) (fun hF => ?_)
    ·
      refine w_reg 513 1089 rfl rfl ?_
      refine qp (.sl 0 0 v11.length) rfl (qp (.val none (.sl 3 (v0.map ePerson))) rfl (qp (AI v10) rfl ?_))
      obtain ⟨v1001, e1001, hF⟩ := bind_get hF
      refine qp (.val none (.ptr [.str v1001.1, .int .i64 v1001.2.1, .sl 1 (v1001.2.2.map V.str)])) (ev_iad_n rfl rfl e1001 rfl) (qp (.val none (.ptr [.str v1001.1, .int .i64 v1001.2.1, .sl 1 (v1001.2.2.map V.str)])) rfl (qp (AS v1001.1) rfl ?_))
      refine qf (.sl 897 0 ([v1001.1].length)) [(897, .row true 1 ([v1001.1].map V.str)), (0, .row true 1 (v11.map V.str))] (by simp [List.take_of_length_le]) ?_
      obtain ⟨g1002, hF⟩ := need_some hF
      refine qf (.sl 961 0 ((v11 ++ [v1001.1]).length)) [(961, .row true 1 ((v11 ++ [v1001.1]).map V.str)), (0, .dead), (897, .dead), (897, .row true 1 ([v1001.1].map V.str)), (0, .row true 1 (v11.map V.str))] (effT_app_l rfl (by simp) rfl rfl (by simp) rfl (by decide) g1002 rfl) ?_
      refine qp (.sl 961 0 ((v11 ++ [v1001.1]).length)) rfl ?_
      refine r_nil ?_
      refine blockQ_n ?_
      refine thenQ_n ?_
      refine w_reg 1089 1281 rfl rfl ?_
      refine qp (AI v10) rfl (qp (AI (w64 (v10 + 1))) rfl (qp (AI (w64 (v10 + 1))) rfl ?_))
      refine r_nil ?_
      refine thenQ_n ?_
      refine aw_ren (l' := [(0, .val none (.sl 3 (v0.map ePerson))), (1, .val none (.sl 1 (v1.map V.bool))), (5, .sl 0 0 (v11 ++ [v1001.1]).length), (6, AI (w64 (v10 + 1)))]) (L := [(0, .row true 1 ((v11 ++ [v1001.1]).map V.str))]) [0, 1, 5, 6] [(961, 0)] 1 (by first | rfl | simp) (by first | rfl | simp) (by decide) (by decide) (by decide) ⟨_, by rfl, hF⟩
    ·
      refine w_skip ?_
      refine blockQ_n ?_
      refine thenQ_n ?_
      refine w_reg 513 705 rfl rfl ?_
      refine qp (AI v10) rfl (qp (AI (w64 (v10 + 1))) rfl (qp (AI (w64 (v10 + 1))) rfl ?_))
      refine r_nil ?_
      refine thenQ_n ?_
      refine aw_ren (l' := [(0, .val none (.sl 3 (v0.map ePerson))), (1, .val none (.sl 1 (v1.map V.bool))), (5, .sl 0 0 v11.length), (6, AI (w64 (v10 + 1)))]) (L := [(0, .row true 1 (v11.map V.str))]) [0, 1, 5, 6] [(0, 0)] 1 (by first | rfl | simp) (by first | rfl | simp) (by decide) (by decide) (by decide) ⟨_, by rfl, hF⟩
  ·
    refine w_exit ?_
    refine thenQ_e ?_
    refine thenQ_e ?_
    refine blockQ_e ?_
    refine thenQ_n ?_
    refine w_reg_seq 257 385 rfl rfl ?_
    refine qp (.sl 0 0 v11.length) rfl (qp (.sl 0 0 v11.length) rfl ?_)
    refine r_nil ?_
    refine w_ret ?_
    cases hF
    exact endQ_r rfl (.inl ⟨_, _, by first | rfl | (simp [List.take_of_length_le]; first | exact ⟨rfl, rfl⟩ | rfl), by simp, by first | rfl | simp [res_spec_l30Names, List.take_of_length_le]⟩)

def c51 : MC := (.seq (.reg [⟨(some 6), none, (.f (.nilrow 1))⟩, ⟨(some 7), none, (.p true (.mv (.c (.int .i64 0))))⟩]) (.seq (.reg [⟨(some 12), none, (.p true (.mv (.t 0)))⟩, ⟨(some 13), none, (.p true (.mv (.t 1)))⟩, ⟨(some 14), none, (.call true 62 [(.t 12), (.t 13)])⟩, ⟨(some 8), none, (.p true (.mv (.t 14)))⟩]) (.seq (.seq (.reg [⟨(some 15), none, (.p true (.mv (.t 8)))⟩, ⟨(some 16), none, (.p true (.bin .eql (.t 15) (.c (.int .i64 0))))⟩, ⟨(some 17), none, (.p true (.mv (.t 16)))⟩, ⟨(some 18), (some (17, true)), (.p true (.mv (.t 0)))⟩, ⟨(some 19), (some (17, true)), (.p true (.mv (.t 2)))⟩, ⟨(some 20), (some (17, true)), (.call true 64 [(.t 18), (.t 19)])⟩, ⟨(some 21), (some (17, true)), (.p true (.bin .lss (.t 20) (.c (.int .i64 0))))⟩, ⟨(some 22), none, (.p true (.pick (.t 17) (.t 21) (.c (.bool false))))⟩]) (.cond (.t 22) (.reg [⟨(some 8), none, (.p true (.mv (.c (.int .i64 3))))⟩]) .skip)) (.seq (.seq (.reg [⟨(some 23), none, (.p true (.mv (.t 8)))⟩, ⟨(some 24), none, (.p true (.bin .neq (.t 23) (.c (.int .i64 0))))⟩]) (.cond (.t 24) (.seq (.reg [⟨(some 25), none, (.p true (.mv (.t 8)))⟩, ⟨(some 6), none, (.f (.nilrow 1))⟩, ⟨(some 7), none, (.p true (.mv (.t 25)))⟩]) .ret) .skip)) (.seq (.reg [⟨(some 26), none, (.p true (.mv (.t 0)))⟩, ⟨(some 27), none, (.p true (.mv (.t 0)))⟩, ⟨(some 28), none, (.p true (.mv (.t 1)))⟩, ⟨(some 29), none, (.call true 64 [(.t 27), (.t 28)])⟩, ⟨(some 30), none, (.call true 95 [(.t 26), (.t 29)])⟩, ⟨(some 9), none, (.p true (.mv (.t 30)))⟩]) (.seq (.reg [⟨(some 31), none, (.p true (.mv (.t 0)))⟩, ⟨(some 32), none, (.p true (.mv (.t 0)))⟩, ⟨(some 33), none, (.p true (.mv (.t 2)))⟩, ⟨(some 34), none, (.call true 64 [(.t 32), (.t 33)])⟩, ⟨(some 35), none, (.call true 95 [(.t 31), (.t 34)])⟩, ⟨(some 10), none, (.p true (.mv (.t 35)))⟩]) (.seq (.seq (.reg [⟨(some 11), none, (.p true (.mv (.c (.int .i64 0))))⟩]) (.block 0 (.loop (.seq (.seq (.reg [⟨(some 36), none, (.p true (.mv (.t 11)))⟩, ⟨(some 37), none, (.p true (.mv (.t 9)))⟩, ⟨(some 38), none, (.p true (.len (.t 37)))⟩, ⟨(some 39), none, (.p true (.bin .lss (.t 36) (.t 38)))⟩]) (.cond (.t 39) .skip (.exit 0))) (.seq (.block 1 (.reg [⟨(some 42), none, (.p true (.mv (.t 9)))⟩, ⟨(some 43), none, (.p true (.mv (.t 11)))⟩, ⟨(some 44), none, (.p true (.mv (.t 9)))⟩, ⟨(some 45), none, (.p true (.mv (.t 11)))⟩, ⟨(some 46), none, (.p true (.iad (.t 44) (.t 45) 1))⟩, ⟨(some 47), none, (.p true (.ld (.t 46) 1 false))⟩, ⟨(some 48), none, (.p true (.mv (.t 47)))⟩, ⟨(some 49), (some (48, true)), (.p true (.mv (.t 10)))⟩, ⟨(some 50), (some (48, true)), (.p true (.mv (.t 11)))⟩, ⟨(some 51), (some (48, true)), (.p true (.iad (.t 49) (.t 50) 1))⟩, ⟨(some 52), (some (48, true)), (.p true (.ld (.t 51) 1 false))⟩, ⟨(some 53), none, (.p true (.pick (.t 48) (.t 52) (.c (.bool false))))⟩, ⟨(some 54), none, (.p true (.iad (.t 42) (.t 43) 1))⟩, ⟨none, none, (.f (.st (.t 54) (.t 53) 1))⟩])) (.reg [⟨(some 40), none, (.p true (.mv (.t 11)))⟩, ⟨(some 41), none, (.p true (.bin .add (.t 40) (.c (.int .i64 1))))⟩, ⟨(some 11), none, (.p true (.mv (.t 41)))⟩])))))) (.seq (.reg [⟨(some 55), none, (.p true (.mv (.t 0)))⟩, ⟨(some 56), none, (.p true (.mv (.t 9)))⟩, ⟨(some 57), none, (.call true 94 [(.t 55), (.t 56)])⟩, ⟨(some 6), none, (.p true (.mv (.t 57)))⟩, ⟨(some 7), none, (.p true (.mv (.c (.int .i64 0))))⟩]) .ret))))))))
theorem c51_is : compFn Try.prog 51 = some (c51, [(.tmp 6), (.tmp 7)]) := by kernel_rfl
theorem c51_ok : okFn Try.prog 51 = true := by kernel_rfl

noncomputable def F_spec_CommonTeachers_l1 (v0 : List TPerson) (v1007 : List Bool) (k3 : Int × (List Bool) → Option ((List (List UInt8)) × Int)) : Int × (List Bool) → Option ((List (List UInt8)) × Int)
  | (v1018, v1019) => (bif (decide (v1018 < (v1019.length : Int))) then ((ix v1019 v1018).bind fun v1020 => (bif v1020 then ((ix v1007 v1018).bind fun v1021 => ((ix v1019 v1018).bind fun v1022 => k3 (w64 (v1018 + 1), List.set v1019 v1018.toNat v1021)))
  else ((ix v1019 v1018).bind fun v1023 => k3 (w64 (v1018 + 1), List.set v1019 v1018.toNat false))))
  else ((F_spec_l30Names v0 v1019).bind fun v1024 => some (v1024, 0)))
noncomputable def F_spec_CommonTeachers_j0 (v0 : List TPerson) (v1 : List UInt8) (v2 : List UInt8) (v1002 : Int) : Option ((List (List UInt8)) × Int) :=
  (bif (decide (v1002 ≠ (0 : Int))) then some ([], v1002)
  else ((F_spec_l30Find v0 v1).bind fun v1004 => ((F_spec_l30Above v0 v1004).bind fun v1005 => ((F_spec_l30Find v0 v2).bind fun v1006 => ((F_spec_l30Above v0 v1006).bind fun v1007 => loop (F_spec_CommonTeachers_l1 v0 v1007) (0, v1005))))))
noncomputable def F_spec_CommonTeachers (v0 : List TPerson) (v1 : List UInt8) (v2 : List UInt8) : Option ((List (List UInt8)) × Int) :=
  ((F_spec_l30Ask v0 v1).bind fun v1000 => (bif (decide (v1000 = (0 : Int))) then ((F_spec_l30Find v0 v2).bind fun v1003 => (bif (decide (v1003 < (0 : Int))) then F_spec_CommonTeachers_j0 v0 v1 v2 3
  else F_spec_CommonTeachers_j0 v0 v1 v2 v1000))
  else F_spec_CommonTeachers_j0 v0 v1 v2 v1000))
@[simp] def res_spec_CommonTeachers (r : (List (List UInt8)) × Int) : RV := .tup [.one (.row true 1 (r.1.map V.str)), .one (.val (.int .i64 r.2))]
theorem con_spec_CommonTeachers {v0 : List TPerson} {v1 : List UInt8} {v2 : List UInt8} {r : (List (List UInt8)) × Int} (hF : F_spec_CommonTeachers v0 v1 v2 = some r) : Con Try.prog 51 [.sl 3 (v0.map ePerson), .str v1, .str v2] (res_spec_CommonTeachers r) := by
  unfold F_spec_CommonTeachers at hF
  refine con_of c51_is fun N => ?_
  refine w_reg_seq 0 128 rfl rfl ?_
  refine qf (.sl 0 0 0) [(0, .row true 1 (([] : List Int).map (V.int .i64)))] (by simp) ?_
  refine qp (AI 0) rfl ?_
  refine r_nil ?_
  refine w_reg_seq 128 384 rfl rfl ?_
  refine qp (.val none (.sl 3 (v0.map ePerson))) rfl (qp (AS v1) rfl ?_)
  obtain ⟨v1000, e1000, hF⟩ := bind_get hF
  refine qc (AI v1000) [(0, .row true 1 (([] : List Int).map (V.int .i64)))] false (con_spec_l30Ask e1000) c62_ok (by first | rfl | simp) rfl ?_
  refine qp (AI v1000) rfl ?_
  refine r_nil ?_
  refine w_meet (fun s' => ∃ (v1002 : Int), s' = mkS [(0, .val none (.sl 3 (v0.map ePerson))), (1, AS v1), (2, AS v2), (8, AI v1002)] (fo []) 1 ∧ F_spec_CommonTeachers_j0 v0 v1 v2 v1002 = some r) ?_ ?_
  ·
    refine w_reg_seq 384 896 rfl rfl ?_
    refine qp (AI v1000) rfl (qp (AB (decide (v1000 = (0 : Int)))) rfl (qp (AB (decide (v1000 = (0 : Int)))) rfl ?_))
    refine q_case 17 hF rfl (fun hF => ?_) (fun hF => ?_)
    ·
      refine qg (.val none (.sl 3 (v0.map ePerson))) rfl rfl (qg (AS v2) rfl rfl ?_)
      obtain ⟨v1003, e1003, hF⟩ := bind_get hF
      refine qcg (AI v1003) [(0, .row true 1 (([] : List Int).map (V.int .i64)))] false rfl (con_spec_l30Find e1003) c64_ok (by first | rfl | simp) rfl ?_
      refine qg (AB (decide (v1003 < (0 : Int)))) rfl rfl (qp (AB (decide (v1003 < (0 : Int)))) rfl ?_)
      refine r_nil ?_
      refine w_condF hF rfl (fun hF => ?_) (fun hF => ?_)
      ·
        refine w_reg 896 960 rfl rfl ?_
        refine qp (AI 3) rfl ?_
        refine r_nil ?_
        refine thenQ_n ?_
        refine aw_ren (l' := [(0, .val none (.sl 3 (v0.map ePerson))), (1, AS v1), (2, AS v2), (8, AI 3)]) (L := []) [0, 1, 2, 8] [] 1 (by first | rfl | simp) (by first | rfl | simp) (by decide) (by decide) (by decide) ⟨_, rfl, hF⟩
      ·
        refine w_skip ?_
        refine thenQ_n ?_
        refine aw_ren (l' := [(0, .val none (.sl 3 (v0.map ePerson))), (1, AS v1), (2, AS v2), (8, AI v1000)]) (L := []) [0, 1, 2, 8] [] 1 (by first | rfl | simp) (by first | rfl | simp) (by decide) (by decide) (by decide) ⟨_, rfl, hF⟩
    ·
      refine qn rfl (qn rfl (qn rfl (qn rfl (qp (AB false) rfl ?_))))
      refine r_nil ?_
      refine w_false rfl ?_
      refine w_skip ?_
      refine thenQ_n ?_
      refine aw_ren (l' := [(0, .val none (.sl 3 (v0.map ePerson))), (1, AS v1), (2, AS v2), (8, AI v1000)]) (L := []) [0, 1, 2, 8] [] 1 (by first | rfl | simp) (by first | rfl | simp) (by decide) (by decide) (by decide) ⟨_, rfl, hF⟩
  ·
    rintro s' ⟨v1002, rfl, hF⟩
    unfold F_spec_CommonTeachers_j0 at hF
    refine w_seq ?_
    refine w_reg_seq 1 129 rfl rfl ?_
    refine qp (AI v1002) rfl (qp (AB (decide (v1002 ≠ (0 : Int)))) rfl ?_)
    refine r_nil ?_
    refine w_condF hF rfl (fun hF => ?_) (fun hF => ?_)
    ·
      refine w_reg_seq 129 321 rfl rfl ?_
      refine qp (AI v1002) rfl ?_
      refine qf (.sl 193 0 0) [(193, .row true 1 (([] : List (List UInt8)).map V.str))] (by simp) ?_
      refine qp (AI v1002) rfl ?_
      refine r_nil ?_
      refine w_ret ?_
      refine thenQ_r ?_
      cases hF
      exact endQ_r rfl (.inl ⟨_, _, by first | rfl | (simp [List.take_of_length_le]; first | exact ⟨rfl, rfl⟩ | rfl), by simp, by first | rfl | simp [res_spec_CommonTeachers, List.take_of_length_le]⟩)
    ·
      refine w_skip ?_
      refine thenQ_n ?_
      refine w_reg_seq 129 513 rfl rfl ?_
      refine qp (.val none (.sl 3 (v0.map ePerson))) rfl (qp (.val none (.sl 3 (v0.map ePerson))) rfl (qp (AS v1) rfl ?_))
      obtain ⟨v1004, e1004, hF⟩ := bind_get hF
      refine qc (AI v1004) [] false (con_spec_l30Find e1004) c64_ok (by first | rfl | simp) rfl ?_
      obtain ⟨v1005, e1005, hF⟩ := bind_get hF
      refine qc (.sl 385 0 v1005.length) [(385, .row true 1 (v1005.map V.bool))] false (con_spec_l30Above e1005) c95_ok (by first | rfl | simp) (by simp [res_spec_l30Above]) ?_
      refine qp (.sl 385 0 v1005.length) rfl ?_
      refine r_nil ?_
      refine w_reg_seq 513 897 rfl rfl ?_
      refine qp (.val none (.sl 3 (v0.map ePerson))) rfl (qp (.val none (.sl 3 (v0.map ePerson))) rfl (qp (AS v2) rfl ?_))
      obtain ⟨v1006, e1006, hF⟩ := bind_get hF
      refine qc (AI v1006) [(385, .row true 1 (v1005.map V.bool))] false (con_spec_l30Find e1006) c64_ok (by first | rfl | simp) rfl ?_
      obtain ⟨v1007, e1007, hF⟩ := bind_get hF
      refine qc (.sl 769 0 v1007.length) [(769, .row true 1 (v1007.map V.bool)), (385, .row true 1 (v1005.map V.bool))] false (con_spec_l30Above e1007) c95_ok (by first | rfl | simp) (by simp [res_spec_l30Above]) ?_
      refine qp (.sl 769 0 v1007.length) rfl ?_
      refine r_nil ?_
      refine w_seq ?_
      refine w_reg_seq 897 961 rfl rfl ?_
      refine qp (AI 0) rfl ?_
      refine r_nil ?_
      refine w_block ?_
      refine w_ren (l' := [(0, .val none (.sl 3 (v0.map ePerson))), (9, .sl 0 0 v1005.length), (10, .sl 1 0 v1007.length), (11, AI 0)]) (L := [(1, .row true 1 (v1007.map V.bool)), (0, .row true 1 (v1005.map V.bool))]) [0, 9, 10, 11] [(769, 1), (385, 0)] 2 (by first | rfl | simp) (by first | rfl | simp) (by decide) (by decide) (by decide) ?_
      refine w_loopF (F_spec_CommonTeachers_l1 v0 v1007) (fun s : Int × (List Bool) => mkS [(0, .val none (.sl 3 (v0.map ePerson))), (9, .sl 0 0 s.2.length), (10, .sl 1 0 v1007.length), (11, AI s.1)] (fo [(1, .row true 1 (v1007.map V.bool)), (0, .row true 1 (s.2.map V.bool))]) 2) hF ?_
      rintro k3 ⟨v1018, v1019⟩ hF
      rw [F_spec_CommonTeachers_l1] at hF
      try dsimp only
      refine w_seq ?_
      refine w_reg_seq 2 258 rfl rfl ?_
      refine qp (AI v1018) rfl (qp (.sl 0 0 v1019.length) rfl (qp (AI (v1019.length : Int)) rfl (qp (AB (decide (v1018 < (v1019.length : Int)))) rfl ?_)))
      refine r_nil ?_
      refine w_condF hF rfl (fun hF => ?_) (fun hF => ?_)
      ·
        refine w_skip ?_
        refine thenQ_n ?_
        refine w_seq ?_
        refine w_block ?_
        refine w_reg 258 1154 rfl rfl ?_
        refine qp (.sl 0 0 v1019.length) rfl (qp (AI v1018) rfl (qp (.sl 0 0 v1019.length) rfl (qp (AI v1018) rfl ?_)))
        obtain ⟨v1020, e1020, hF⟩ := bind_get hF
        refine qp (.ptr 0 v1018.toNat 0) (ev_iad_r rfl (by simp) rfl rfl e1020) (qp (AB v1020) (ev_ld_r rfl rfl (ix_some e1020).2 rfl rfl) (qp (AB v1020) rfl ?_))
        refine q_case 48 hF rfl (fun hF => ?_) (fun hF => ?_)
        ·
          refine qg (.sl 1 0 v1007.length) rfl rfl (qg (AI v1018) rfl rfl ?_)
          obtain ⟨v1021, e1021, hF⟩ := bind_get hF
          refine qg (.ptr 1 v1018.toNat 0) rfl (ev_iad_r rfl (by simp) rfl rfl e1021) (qg (AB v1021) rfl (ev_ld_r rfl rfl (ix_some e1021).2 rfl rfl) (qp (AB v1021) rfl ?_))
          obtain ⟨v1022, e1022, hF⟩ := bind_get hF
          refine qp (.ptr 0 v1018.toNat 0) (ev_iad_r rfl (by simp) rfl rfl e1022) ?_
          refine qf0 (.undef) [(0, .row true 1 ((List.set v1019 v1018.toNat v1021).map V.bool)), (1, .row true 1 (v1007.map V.bool)), (0, .row true 1 (v1019.map V.bool))] (effT_st rfl rfl (ix_some e1022).2 rfl rfl (by rfl) (by first | rfl | simp [patch, reb, List.take_of_length_le]) (by rfl) rfl) ?_
          refine r_nil ?_
          refine blockQ_n ?_
          refine thenQ_n ?_
          refine w_reg 1154 1346 rfl rfl ?_
          refine qp (AI v1018) rfl (qp (AI (w64 (v1018 + 1))) rfl (qp (AI (w64 (v1018 + 1))) rfl ?_))
          refine r_nil ?_
          refine thenQ_n ?_
          refine aw_ren (l' := [(0, .val none (.sl 3 (v0.map ePerson))), (9, .sl 0 0 (List.set v1019 v1018.toNat v1021).length), (10, .sl 1 0 v1007.length), (11, AI (w64 (v1018 + 1)))]) (L := [(1, .row true 1 (v1007.map V.bool)), (0, .row true 1 ((List.set v1019 v1018.toNat v1021).map V.bool))]) [0, 9, 10, 11] [(1, 1), (0, 0)] 2 (by first | rfl | simp) (by first | rfl | simp) (by decide) (by decide) (by decide) ⟨_, by rfl, hF⟩
        ·
          refine qn rfl (qn rfl (qn rfl (qn rfl (qp (AB false) rfl ?_))))
          obtain ⟨v1023, e1023, hF⟩ := bind_get hF
          refine qp (.ptr 0 v1018.toNat 0) (ev_iad_r rfl (by simp) rfl rfl e1023) ?_
          refine qf0 (.undef) [(0, .row true 1 ((List.set v1019 v1018.toNat false).map V.bool)), (1, .row true 1 (v1007.map V.bool)), (0, .row true 1 (v1019.map V.bool))] (effT_st rfl rfl (ix_some e1023).2 rfl rfl (by rfl) (by first | rfl | simp [patch, reb, List.take_of_length_le]) (by rfl) rfl) ?_
          refine r_nil ?_
          refine blockQ_n ?_
          refine thenQ_n ?_
          refine w_reg 1154 1346 rfl rfl ?_
          refine qp (AI v1018) rfl (qp (AI (w64 (v1018 + 1))) rfl (qp (AI (w64 (v1018 + 1))) rfl ?_))
          refine r_nil ?_
          refine thenQ_n ?_
          refine aw_ren (l' := [(0, .val none (.sl 3 (v0.map ePerson))), (9, .sl 0 0 (List.set v1019 v1018.toNat false).length), (10, .sl 1 0 v1007.length), (11, AI (w64 (v1018 + 1)))]) (L := [(1, .row true 1 (v1007.map V.bool)), (0, .row true 1 ((List.set v1019 v1018.toNat false).map V.bool))]) [0, 9, 10, 11] [(1, 1), (0, 0)] 2 (by first | rfl | simp) (by first | rfl | simp) (by decide) (by decide) (by decide) ⟨_, by rfl, hF⟩
      ·
        refine w_exit ?_
        refine thenQ_e ?_
        refine thenQ_e ?_
        refine blockQ_e ?_
        refine thenQ_n ?_
        refine w_reg_seq 258 578 rfl rfl ?_
        refine qp (.val none (.sl 3 (v0.map ePerson))) rfl (qp (.sl 0 0 v1019.length) rfl ?_)
        obtain ⟨v1024, e1024, hF⟩ := bind_get hF
        refine qc (.sl 386 0 v1024.length) [(386, .row true 1 (v1024.map V.str)), (1, .row true 1 (v1007.map V.bool)), (0, .row true 1 (v1019.map V.bool))] true (con_spec_l30Names e1024) c94_ok (by simp [List.take_of_length_le]) (by simp [res_spec_l30Names]) ?_
        refine qp (.sl 386 0 v1024.length) rfl (qp (AI 0) rfl ?_)
        refine r_nil ?_
        refine w_ret ?_
        cases hF
        exact endQ_r rfl (.inl ⟨_, _, by first | rfl | (simp [List.take_of_length_le]; first | exact ⟨rfl, rfl⟩ | rfl), by simp, by first | rfl | simp [res_spec_CommonTeachers, List.take_of_length_le]⟩)

def c141 : MC := (.seq (.reg [⟨(some 2), none, (.p true (.mv (.c (.bool false))))⟩]) (.seq (.seq (.reg [⟨(some 5), none, (.p true (.mv (.t 0)))⟩, ⟨(some 6), none, (.p true (.lens (.t 5)))⟩, ⟨(some 7), none, (.p true (.mv (.c (.int .i64 0))))⟩]) (.block 0 (.loop (.seq (.reg [⟨(some 8), none, (.p true (.bin .lss (.t 7) (.t 6)))⟩]) (.seq (.cond (.t 8) .skip (.exit 0)) (.seq (.block 1 (.seq (.reg [⟨(some 9), none, (.p true (.mv (.t 7)))⟩, ⟨(some 3), none, (.p true (.mv (.t 9)))⟩]) (.seq (.reg [⟨(some 10), none, (.p true (.mv (.t 0)))⟩, ⟨(some 11), none, (.p true (.mv (.t 3)))⟩, ⟨(some 12), none, (.p true (.ixs (.t 10) (.t 11)))⟩, ⟨(some 4), none, (.p true (.mv (.t 12)))⟩]) (.seq (.reg [⟨(some 13), none, (.p true (.mv (.t 4)))⟩, ⟨(some 14), none, (.p true (.bin .lss (.t 13) (.c (.int .u8 97))))⟩, ⟨(some 15), none, (.p true (.mv (.t 14)))⟩, ⟨(some 16), (some (15, false)), (.p true (.mv (.t 4)))⟩, ⟨(some 17), (some (15, false)), (.p true (.bin .gtr (.t 16) (.c (.int .u8 122))))⟩, ⟨(some 18), none, (.p true (.pick (.t 15) (.c (.bool true)) (.t 17)))⟩, ⟨(some 19), none, (.p true (.mv (.t 18)))⟩, ⟨(some 20), (some (19, true)), (.p true (.mv (.t 4)))⟩, ⟨(some 21), (some (19, true)), (.p true (.bin .lss (.t 20) (.c (.int .u8 48))))⟩, ⟨(some 22), (some (19, true)), (.p true (.mv (.t 21)))⟩, ⟨(some 23), (some (22, false)), (.p true (.mv (.t 4)))⟩, ⟨(some 24), (some (22, false)), (.p true (.bin .gtr (.t 23) (.c (.int .u8 57))))⟩, ⟨(some 25), (some (19, true)), (.p true (.pick (.t 22) (.c (.bool true)) (.t 24)))⟩, ⟨(some 26), none, (.p true (.pick (.t 19) (.t 25) (.c (.bool false))))⟩]) (.cond (.t 26) (.seq (.reg [⟨(some 2), none, (.p true (.mv (.c (.bool false))))⟩]) .ret) .skip))))) (.reg [⟨(some 27), none, (.p true (.bin .add (.t 7) (.c (.int .i64 1))))⟩, ⟨(some 7), none, (.p true (.mv (.t 27)))⟩]))))))) (.seq (.reg [⟨(some 2), none, (.p true (.mv (.c (.bool true))))⟩]) .ret)))
theorem c141_is : compFn Try.prog 141 = some (c141, [(.tmp 2)]) := by kernel_rfl
theorem c141_ok : okFn Try.prog 141 = true := by kernel_rfl

noncomputable def F_impl_onlyNameBytes_l0 (v0 : List UInt8) (k0 : Int → Option (Bool)) : Int → Option (Bool)
  | v4 => (bif (decide (v4 < (v0.length : Int))) then ((ix v0 v4).bind fun v1000 => (bif (decide ((v1000.toNat : Int) < (97 : Int))) then (bif (decide ((v1000.toNat : Int) < (48 : Int))) then some false
  else (bif (decide ((57 : Int) < (v1000.toNat : Int))) then some false
  else k0 (w64 (v4 + 1))))
  else (bif (decide ((122 : Int) < (v1000.toNat : Int))) then (bif (decide ((v1000.toNat : Int) < (48 : Int))) then some false
  else (bif (decide ((57 : Int) < (v1000.toNat : Int))) then some false
  else k0 (w64 (v4 + 1))))
  else k0 (w64 (v4 + 1)))))
  else some true)
noncomputable def F_impl_onlyNameBytes (v0 : List UInt8) : Option (Bool) :=
  loop (F_impl_onlyNameBytes_l0 v0) 0
@[simp] def res_impl_onlyNameBytes (r : Bool) : RV := .one (.one (.val (.bool r)))
theorem con_impl_onlyNameBytes {v0 : List UInt8} {r : Bool} (hF : F_impl_onlyNameBytes v0 = some r) : Con Try.prog 141 [.str v0] (res_impl_onlyNameBytes r) := by
  unfold F_impl_onlyNameBytes at hF
  refine con_of c141_is fun N => ?_
  refine w_reg_seq 0 64 rfl rfl ?_
  refine qp (AB false) rfl ?_
  refine r_nil ?_
  refine w_seq ?_
  refine w_reg_seq 64 256 rfl rfl ?_
  refine qp (AS v0) rfl (qp (AI (v0.length : Int)) rfl (qp (AI 0) rfl ?_))
  refine r_nil ?_
  refine w_block ?_
  refine w_ren (l' := [(0, AS v0), (6, AI (v0.length : Int)), (7, AI 0)]) (L := []) [0, 6, 7] [] 1 (by first | rfl | simp) (by first | rfl | simp) (by decide) (by decide) (by decide) ?_
  refine w_loopF (F_impl_onlyNameBytes_l0 v0) (fun s : Int => mkS [(0, AS v0), (6, AI (v0.length : Int)), (7, AI s)] (fo []) 1) hF ?_
  rintro k0 v4 hF
  rw [F_impl_onlyNameBytes_l0] at hF
  try dsimp only
  refine w_reg_seq 1 65 rfl rfl ?_
  refine qp (AB (decide (v4 < (v0.length : Int)))) rfl ?_
  refine r_nil ?_
  refine w_seq ?_
  refine w_condF hF rfl (fun hF => ?_) (fun hF => ?_)
  ·
    refine w_skip ?_
    refine thenQ_n ?_
    refine w_seq ?_
    refine w_block ?_
    refine w_reg_seq 65 193 rfl rfl ?_
    refine qp (AI v4) rfl (qp (AI v4) rfl ?_)
    refine r_nil ?_
    refine w_reg_seq 193 449 rfl rfl ?_
    refine qp (AS v0) rfl (qp (AI v4) rfl ?_)
    obtain ⟨v1000, e1000, hF⟩ := bind_get hF
    refine qp (.val none (.int .u8 (v1000.toNat : Int))) (ev_ixs rfl rfl e1000) (qp (.val none (.int .u8 (v1000.toNat : Int))) rfl ?_)
    refine r_nil ?_
    refine w_reg_seq 449 1345 rfl rfl ?_
    refine qp (.val none (.int .u8 (v1000.toNat : Int))) rfl (qp (AB (decide ((v1000.toNat : Int) < (97 : Int)))) rfl (qp (AB (decide ((v1000.toNat : Int) < (97 : Int)))) rfl ?_))
    refine q_case 15 hF rfl (fun hF => ?_) (fun hF => ?_)
    ·
      refine qn rfl (qn rfl (qp (AB true) rfl (qp (AB true) rfl (qg (.val none (.int .u8 (v1000.toNat : Int))) rfl rfl (qg (AB (decide ((v1000.toNat : Int) < (48 : Int)))) rfl rfl (qg (AB (decide ((v1000.toNat : Int) < (48 : Int)))) rfl rfl ?_))))))
      refine q_case 22 hF rfl (fun hF => ?_) (fun hF => ?_)
      ·
        refine qn rfl (qn rfl (qg (AB true) rfl rfl (qp (AB true) rfl ?_)))
        refine r_nil ?_
        refine w_true rfl ?_
        refine w_reg_seq 1345 1409 rfl rfl ?_
        refine qp (AB false) rfl ?_
        refine r_nil ?_
        refine w_ret ?_
        refine blockQ_r ?_
        refine thenQ_r ?_
        refine thenQ_r ?_
        refine blockQ_r ?_
        refine thenQ_r ?_
        cases hF
        exact endQ_r rfl (.inl ⟨_, _, by first | rfl | (simp [List.take_of_length_le]; first | exact ⟨rfl, rfl⟩ | rfl), by simp, by first | rfl | simp [res_impl_onlyNameBytes, List.take_of_length_le]⟩)
      ·
        refine qg (.val none (.int .u8 (v1000.toNat : Int))) rfl rfl (qg (AB (decide ((57 : Int) < (v1000.toNat : Int)))) rfl rfl (qg (AB (decide ((57 : Int) < (v1000.toNat : Int)))) rfl rfl (qp (AB (decide ((57 : Int) < (v1000.toNat : Int)))) rfl ?_)))
        refine r_nil ?_
        refine w_condF hF rfl (fun hF => ?_) (fun hF => ?_)
        ·
          refine w_reg_seq 1345 1409 rfl rfl ?_
          refine qp (AB false) rfl ?_
          refine r_nil ?_
          refine w_ret ?_
          refine blockQ_r ?_
          refine thenQ_r ?_
          refine thenQ_r ?_
          refine blockQ_r ?_
          refine thenQ_r ?_
          cases hF
          exact endQ_r rfl (.inl ⟨_, _, by first | rfl | (simp [List.take_of_length_le]; first | exact ⟨rfl, rfl⟩ | rfl), by simp, by first | rfl | simp [res_impl_onlyNameBytes, List.take_of_length_le]⟩)
        ·
          refine w_skip ?_
          refine blockQ_n ?_
          refine thenQ_n ?_
          refine w_reg 1345 1473 rfl rfl ?_
          refine qp (AI (w64 (v4 + 1))) rfl (qp (AI (w64 (v4 + 1))) rfl ?_)
          refine r_nil ?_
          refine thenQ_n ?_
          refine aw_ren (l' := [(0, AS v0), (6, AI (v0.length : Int)), (7, AI (w64 (v4 + 1)))]) (L := []) [0, 6, 7] [] 1 (by first | rfl | simp) (by first | rfl | simp) (by decide) (by decide) (by decide) ⟨_, by rfl, hF⟩
    ·
      refine qg (.val none (.int .u8 (v1000.toNat : Int))) rfl rfl (qg (AB (decide ((122 : Int) < (v1000.toNat : Int)))) rfl rfl (qp (AB (decide ((122 : Int) < (v1000.toNat : Int)))) rfl (qp (AB (decide ((122 : Int) < (v1000.toNat : Int)))) rfl ?_)))
      refine q_case 19 hF rfl (fun hF => ?_) (fun hF => ?_)
      ·
        refine qg (.val none (.int .u8 (v1000.toNat : Int))) rfl rfl (qg (AB (decide ((v1000.toNat : Int) < (48 : Int)))) rfl rfl (qg (AB (decide ((v1000.toNat : Int) < (48 : Int)))) rfl rfl ?_))
        refine q_case 22 hF rfl (fun hF => ?_) (fun hF => ?_)
        ·
          refine qn rfl (qn rfl (qg (AB true) rfl rfl (qp (AB true) rfl ?_)))
          refine r_nil ?_
          refine w_true rfl ?_
          refine w_reg_seq 1345 1409 rfl rfl ?_
          refine qp (AB false) rfl ?_
          refine r_nil ?_
          refine w_ret ?_
          refine blockQ_r ?_
          refine thenQ_r ?_
          refine thenQ_r ?_
          refine blockQ_r ?_
          refine thenQ_r ?_
          cases hF
          exact endQ_r rfl (.inl ⟨_, _, by first | rfl | (simp [List.take_of_length_le]; first | exact ⟨rfl, rfl⟩ | rfl), by simp, by first | rfl | simp [res_impl_onlyNameBytes, List.take_of_length_le]⟩)
        ·
          refine qg (.val none (.int .u8 (v1000.toNat : Int))) rfl rfl (qg (AB (decide ((57 : Int) < (v1000.toNat : Int)))) rfl rfl (qg (AB (decide ((57 : Int) < (v1000.toNat : Int)))) rfl rfl (qp (AB (decide ((57 : Int) < (v1000.toNat : Int)))) rfl ?_)))
          refine r_nil ?_
          refine w_condF hF rfl (fun hF => ?_) (fun hF => ?_)
          ·
            refine w_reg_seq 1345 1409 rfl rfl ?_
            refine qp (AB false) rfl ?_
            refine r_nil ?_
            refine w_ret ?_
            refine blockQ_r ?_
            refine thenQ_r ?_
            refine thenQ_r ?_
            refine blockQ_r ?_
            refine thenQ_r ?_
            cases hF
            exact endQ_r rfl (.inl ⟨_, _, by first | rfl | (simp [List.take_of_length_le]; first | exact ⟨rfl, rfl⟩ | rfl), by simp, by first | rfl | simp [res_impl_onlyNameBytes, List.take_of_length_le]⟩)
          ·
            refine w_skip ?_
            refine blockQ_n ?_
            refine thenQ_n ?_
            refine w_reg 1345 1473 rfl rfl ?_
            refine qp (AI (w64 (v4 + 1))) rfl (qp (AI (w64 (v4 + 1))) rfl ?_)
            refine r_nil ?_
            refine thenQ_n ?_
            refine aw_ren (l' := [(0, AS v0), (6, AI (v0.length : Int)), (7, AI (w64 (v4 + 1)))]) (L := []) [0, 6, 7] [] 1 (by first | rfl | simp) (by first | rfl | simp) (by decide) (by decide) (by decide) ⟨_, by rfl, hF⟩
      ·
        refine qn rfl (qn rfl (qn rfl (qu rfl (qu rfl (qn rfl (qp (AB false) rfl ?_))))))
        refine r_nil ?_
        refine w_false rfl ?_
        refine w_skip ?_
        refine blockQ_n ?_
        refine thenQ_n ?_
        refine w_reg 1345 1473 rfl rfl ?_
        refine qp (AI (w64 (v4 + 1))) rfl (qp (AI (w64 (v4 + 1))) rfl ?_)
        refine r_nil ?_
        refine thenQ_n ?_
        refine aw_ren (l' := [(0, AS v0), (6, AI (v0.length : Int)), (7, AI (w64 (v4 + 1)))]) (L := []) [0, 6, 7] [] 1 (by first | rfl | simp) (by first | rfl | simp) (by decide) (by decide) (by decide) ⟨_, by rfl, hF⟩
  ·
    refine w_exit ?_
    refine thenQ_e ?_
    refine thenQ_e ?_
    refine blockQ_e ?_
    refine thenQ_n ?_
    refine w_reg_seq 65 129 rfl rfl ?_
    refine qp (AB true) rfl ?_
    refine r_nil ?_
    refine w_ret ?_
    cases hF
    exact endQ_r rfl (.inl ⟨_, _, by first | rfl | (simp [List.take_of_length_le]; first | exact ⟨rfl, rfl⟩ | rfl), by simp, by first | rfl | simp [res_impl_onlyNameBytes, List.take_of_length_le]⟩)

def c123 : MC := (.seq (.reg [⟨(some 2), none, (.p true (.mv (.c (.bool false))))⟩]) (.seq (.seq (.reg [⟨(some 3), none, (.p true (.mv (.t 0)))⟩, ⟨(some 4), none, (.p true (.lens (.t 3)))⟩, ⟨(some 5), none, (.p true (.bin .lss (.t 4) (.c (.int .i64 1))))⟩, ⟨(some 6), none, (.p true (.mv (.t 5)))⟩, ⟨(some 7), (some (6, false)), (.p true (.mv (.t 0)))⟩, ⟨(some 8), (some (6, false)), (.p true (.lens (.t 7)))⟩, ⟨(some 9), (some (6, false)), (.p true (.bin .gtr (.t 8) (.c (.int .i64 10))))⟩, ⟨(some 10), none, (.p true (.pick (.t 6) (.c (.bool true)) (.t 9)))⟩, ⟨(some 11), none, (.p true (.mv (.t 10)))⟩, ⟨(some 12), (some (11, false)), (.p true (.mv (.t 0)))⟩, ⟨(some 13), (some (11, false)), (.p true (.ixs (.t 12) (.c (.int .i64 0))))⟩, ⟨(some 14), (some (11, false)), (.p true (.bin .lss (.t 13) (.c (.int .u8 97))))⟩, ⟨(some 15), none, (.p true (.pick (.t 11) (.c (.bool true)) (.t 14)))⟩, ⟨(some 16), none, (.p true (.mv (.t 15)))⟩, ⟨(some 17), (some (16, false)), (.p true (.mv (.t 0)))⟩, ⟨(some 18), (some (16, false)), (.p true (.ixs (.t 17) (.c (.int .i64 0))))⟩, ⟨(some 19), (some (16, false)), (.p true (.bin .gtr (.t 18) (.c (.int .u8 122))))⟩, ⟨(some 20), none, (.p true (.pick (.t 16) (.c (.bool true)) (.t 19)))⟩]) (.cond (.t 20) (.seq (.reg [⟨(some 2), none, (.p true (.mv (.c (.bool false))))⟩]) .ret) .skip)) (.seq (.reg [⟨(some 21), none, (.p true (.mv (.t 0)))⟩, ⟨(some 22), none, (.call true 141 [(.t 21)])⟩, ⟨(some 2), none, (.p true (.mv (.t 22)))⟩]) .ret)))
theorem c123_is : compFn Try.prog 123 = some (c123, [(.tmp 2)]) := by kernel_rfl
theorem c123_ok : okFn Try.prog 123 = true := by kernel_rfl

noncomputable def F_impl_IsName (v0 : List UInt8) : Option (Bool) :=
  (bif (decide ((v0.length : Int) < (1 : Int))) then some false
  else (bif (decide ((10 : Int) < (v0.length : Int))) then some false
  else ((ix v0 0).bind fun v1000 => (bif (decide ((v1000.toNat : Int) < (97 : Int))) then some false
  else ((ix v0 0).bind fun v1001 => (bif (decide ((122 : Int) < (v1001.toNat : Int))) then some false
  else ((F_impl_onlyNameBytes v0).bind fun v1002 => some v1002)))))))
@[simp] def res_impl_IsName (r : Bool) : RV := .one (.one (.val (.bool r)))
theorem con_impl_IsName {v0 : List UInt8} {r : Bool} (hF : F_impl_IsName v0 = some r) : Con Try.prog 123 [.str v0] (res_impl_IsName r) := by
  unfold F_impl_IsName at hF
  refine con_of c123_is fun N => ?_
  refine w_reg_seq 0 64 rfl rfl ?_
  refine qp (AB false) rfl ?_
  refine r_nil ?_
  refine w_seq ?_
  refine w_reg_seq 64 1216 rfl rfl ?_
  refine qp (AS v0) rfl (qp (AI (v0.length : Int)) rfl (qp (AB (decide ((v0.length : Int) < (1 : Int)))) rfl (qp (AB (decide ((v0.length : Int) < (1 : Int)))) rfl ?_)))
  refine q_case 6 hF rfl (fun hF => ?_) (fun hF => ?_)
  ·
    refine qn rfl (qn rfl (qn rfl (qp (AB true) rfl (qp (AB true) rfl (qn rfl (qn rfl (qn rfl ?_)))))))
    refine qp (AB true) rfl (qp (AB true) rfl (qn rfl (qn rfl (qn rfl (qp (AB true) rfl ?_)))))
    refine r_nil ?_
    refine w_true rfl ?_
    refine w_reg_seq 1216 1280 rfl rfl ?_
    refine qp (AB false) rfl ?_
    refine r_nil ?_
    refine w_ret ?_
    refine thenQ_r ?_
    cases hF
    exact endQ_r rfl (.inl ⟨_, _, by first | rfl | (simp [List.take_of_length_le]; first | exact ⟨rfl, rfl⟩ | rfl), by simp, by first | rfl | simp [res_impl_IsName, List.take_of_length_le]⟩)
  ·
    refine qg (AS v0) rfl rfl (qg (AI (v0.length : Int)) rfl rfl (qg (AB (decide ((10 : Int) < (v0.length : Int)))) rfl rfl (qp (AB (decide ((10 : Int) < (v0.length : Int)))) rfl (qp (AB (decide ((10 : Int) < (v0.length : Int)))) rfl ?_))))
    refine q_case 11 hF rfl (fun hF => ?_) (fun hF => ?_)
    ·
      refine qn rfl (qn rfl (qn rfl (qp (AB true) rfl (qp (AB true) rfl (qn rfl (qn rfl (qn rfl ?_)))))))
      refine qp (AB true) rfl ?_
      refine r_nil ?_
      refine w_true rfl ?_
      refine w_reg_seq 1216 1280 rfl rfl ?_
      refine qp (AB false) rfl ?_
      refine r_nil ?_
      refine w_ret ?_
      refine thenQ_r ?_
      cases hF
      exact endQ_r rfl (.inl ⟨_, _, by first | rfl | (simp [List.take_of_length_le]; first | exact ⟨rfl, rfl⟩ | rfl), by simp, by first | rfl | simp [res_impl_IsName, List.take_of_length_le]⟩)
    ·
      refine qg (AS v0) rfl rfl ?_
      obtain ⟨v1000, e1000, hF⟩ := bind_get hF
      refine qg (.val none (.int .u8 (v1000.toNat : Int))) rfl (ev_ixs rfl rfl e1000) (qg (AB (decide ((v1000.toNat : Int) < (97 : Int)))) rfl rfl (qp (AB (decide ((v1000.toNat : Int) < (97 : Int)))) rfl (qp (AB (decide ((v1000.toNat : Int) < (97 : Int)))) rfl ?_)))
      refine q_case 16 hF rfl (fun hF => ?_) (fun hF => ?_)
      ·
        refine qn rfl (qn rfl (qn rfl (qp (AB true) rfl ?_)))
        refine r_nil ?_
        refine w_true rfl ?_
        refine w_reg_seq 1216 1280 rfl rfl ?_
        refine qp (AB false) rfl ?_
        refine r_nil ?_
        refine w_ret ?_
        refine thenQ_r ?_
        cases hF
        exact endQ_r rfl (.inl ⟨_, _, by first | rfl | (simp [List.take_of_length_le]; first | exact ⟨rfl, rfl⟩ | rfl), by simp, by first | rfl | simp [res_impl_IsName, List.take_of_length_le]⟩)
      ·
        refine qg (AS v0) rfl rfl ?_
        obtain ⟨v1001, e1001, hF⟩ := bind_get hF
        refine qg (.val none (.int .u8 (v1001.toNat : Int))) rfl (ev_ixs rfl rfl e1001) (qg (AB (decide ((122 : Int) < (v1001.toNat : Int)))) rfl rfl (qp (AB (decide ((122 : Int) < (v1001.toNat : Int)))) rfl ?_))
        refine r_nil ?_
        refine w_condF hF rfl (fun hF => ?_) (fun hF => ?_)
        ·
          refine w_reg_seq 1216 1280 rfl rfl ?_
          refine qp (AB false) rfl ?_
          refine r_nil ?_
          refine w_ret ?_
          refine thenQ_r ?_
          cases hF
          exact endQ_r rfl (.inl ⟨_, _, by first | rfl | (simp [List.take_of_length_le]; first | exact ⟨rfl, rfl⟩ | rfl), by simp, by first | rfl | simp [res_impl_IsName, List.take_of_length_le]⟩)
        ·
          refine w_skip ?_
          refine thenQ_n ?_
          refine w_reg_seq 1216 1408 rfl rfl ?_
          refine qp (AS v0) rfl ?_
          obtain ⟨v1002, e1002, hF⟩ := bind_get hF
          refine qc (AB v1002) [] false (con_impl_onlyNameBytes e1002) c141_ok (by first | rfl | simp) rfl ?_
          refine qp (AB v1002) rfl ?_
          refine r_nil ?_
          refine w_ret ?_
          cases hF
          exact endQ_r rfl (.inl ⟨_, _, by first | rfl | (simp [List.take_of_length_le]; first | exact ⟨rfl, rfl⟩ | rfl), by simp, by first | rfl | simp [res_impl_IsName, List.take_of_length_le]⟩)

def c124 : MC := (.seq (.reg [⟨(some 6), none, (.p true (.mv (.c (.bool false))))⟩]) (.seq (.reg [⟨(some 7), none, (.p true (.mv (.t 0)))⟩, ⟨(some 8), none, (.p true (.mv (.t 1)))⟩, ⟨(some 9), none, (.p true (.bin .geq (.t 7) (.t 8)))⟩, ⟨(some 10), none, (.p true (.mv (.t 9)))⟩, ⟨(some 11), (some (10, true)), (.p true (.mv (.t 0)))⟩, ⟨(some 12), (some (10, true)), (.p true (.mv (.t 2)))⟩, ⟨(some 13), (some (10, true)), (.p true (.bin .leq (.t 11) (.t 12)))⟩, ⟨(some 14), none, (.p true (.pick (.t 10) (.t 13) (.c (.bool false))))⟩, ⟨(some 6), none, (.p true (.mv (.t 14)))⟩]) .ret))
theorem c124_is : compFn Try.prog 124 = some (c124, [(.tmp 6)]) := by kernel_rfl
theorem c124_ok : okFn Try.prog 124 = true := by kernel_rfl

noncomputable def F_impl_within (v0 : Int) (v1 : Int) (v2 : Int) : Option (Bool) :=
  (bif (decide (v1 ≤ v0)) then some (decide (v0 ≤ v2))
  else some false)
@[simp] def res_impl_within (r : Bool) : RV := .one (.one (.val (.bool r)))
theorem con_impl_within {v0 : Int} {v1 : Int} {v2 : Int} {r : Bool} (hF : F_impl_within v0 v1 v2 = some r) : Con Try.prog 124 [.int .i64 v0, .int .i64 v1, .int .i64 v2] (res_impl_within r) := by
  unfold F_impl_within at hF
  refine con_of c124_is fun N => ?_
  refine w_reg_seq 0 64 rfl rfl ?_
  refine qp (AB false) rfl ?_
  refine r_nil ?_
  refine w_reg_seq 64 640 rfl rfl ?_
  refine qp (AI v0) rfl (qp (AI v1) rfl (qp (AB (decide (v1 ≤ v0))) rfl (qp (AB (decide (v1 ≤ v0))) rfl ?_)))
  refine q_case 10 hF rfl (fun hF => ?_) (fun hF => ?_)
  ·
    refine qg (AI v0) rfl rfl (qg (AI v2) rfl rfl (qg (AB (decide (v0 ≤ v2))) rfl rfl (qp (AB (decide (v0 ≤ v2))) rfl (qp (AB (decide (v0 ≤ v2))) rfl ?_))))
    refine r_nil ?_
    refine w_ret ?_
    cases hF
    exact endQ_r rfl (.inl ⟨_, _, by first | rfl | (simp [List.take_of_length_le]; first | exact ⟨rfl, rfl⟩ | rfl), by simp, by first | rfl | simp [res_impl_within, List.take_of_length_le]⟩)
  ·
    refine qn rfl (qn rfl (qn rfl (qp (AB false) rfl (qp (AB false) rfl ?_))))
    refine r_nil ?_
    refine w_ret ?_
    cases hF
    exact endQ_r rfl (.inl ⟨_, _, by first | rfl | (simp [List.take_of_length_le]; first | exact ⟨rfl, rfl⟩ | rfl), by simp, by first | rfl | simp [res_impl_within, List.take_of_length_le]⟩)

def c115 : MC := (.seq (.reg [⟨(some 2), none, (.f (.box (.t 0)))⟩, ⟨(some 3), none, (.p true (.mv (.c (.bool false))))⟩]) (.seq (.reg [⟨(some 4), none, (.p true (.fad (.t 2) 0))⟩, ⟨(some 5), none, (.p true (.ld (.t 4) 1 false))⟩, ⟨(some 6), none, (.p true (.ld (.t 1) 1 false))⟩, ⟨(some 7), none, (.p true (.bin .eql (.t 5) (.t 6)))⟩, ⟨(some 3), none, (.p true (.mv (.t 7)))⟩]) .ret))
theorem c115_is : compFn Try.prog 115 = some (c115, [(.tmp 3)]) := by kernel_rfl
theorem c115_ok : okFn Try.prog 115 = true := by kernel_rfl

noncomputable def F_impl_personAt_1 (v0 : TPerson) (v1 : List UInt8) : Option (Bool) :=
  some (decide (v0.1 = v1))
@[simp] def res_impl_personAt_1 (r : Bool) : RV := .one (.one (.val (.bool r)))
theorem con_impl_personAt_1 {v0 : TPerson} {v1 : List UInt8} {r : Bool} (hF : F_impl_personAt_1 v0 v1 = some r) : Con Try.prog 115 [ePerson v0, .ptr [.str v1]] (res_impl_personAt_1 r) := by
  unfold F_impl_personAt_1 at hF
  refine con_of c115_is fun N => ?_
  refine w_reg_seq 0 128 rfl rfl ?_
  refine qf (.ptr 0 0 0) [(0, .box [AS v0.1, AI v0.2.1, .val none (.sl 1 (v0.2.2.map V.str))])] (by simp) ?_
  refine qp (AB false) rfl ?_
  refine r_nil ?_
  refine w_reg_seq 128 448 rfl rfl ?_
  refine qp (.ptr 0 0 0) rfl (qp (AS v0.1) rfl (qp (AS v1) rfl (qp (AB (decide (v0.1 = v1))) rfl (qp (AB (decide (v0.1 = v1))) rfl ?_))))
  refine r_nil ?_
  refine w_ret ?_
  cases hF
  exact endQ_r rfl (.inl ⟨_, _, by first | rfl | (simp [List.take_of_length_le]; first | exact ⟨rfl, rfl⟩ | rfl), by simp, by first | rfl | simp [res_impl_personAt_1, List.take_of_length_le]⟩)

def c114 : MC := (.seq (.reg [⟨(some 4), none, (.p true (.mv (.c (.int .i64 0))))⟩]) (.seq (.seq (.reg [⟨(some 6), none, (.p true (.mv (.t 0)))⟩, ⟨(some 7), none, (.p true (.len (.t 6)))⟩, ⟨(some 8), none, (.p true (.mv (.c (.int .i64 0))))⟩]) (.block 0 (.loop (.seq (.reg [⟨(some 9), none, (.p true (.bin .lss (.t 8) (.t 7)))⟩]) (.seq (.cond (.t 9) .skip (.exit 0)) (.seq (.block 1 (.seq (.reg [⟨(some 10), none, (.p true (.mv (.t 8)))⟩, ⟨(some 5), none, (.p true (.mv (.t 10)))⟩]) (.seq (.reg [⟨(some 11), none, (.p true (.mv (.t 1)))⟩, ⟨(some 12), none, (.p true (.mv (.t 0)))⟩, ⟨(some 13), none, (.p true (.mv (.t 5)))⟩, ⟨(some 14), none, (.p true (.iad (.t 12) (.t 13) 3))⟩, ⟨(some 15), none, (.p true (.ld (.t 14) 3 true))⟩, ⟨(some 16), none, (.callv (.t 11) [(.t 15)])⟩]) (.cond (.t 16) (.seq (.reg [⟨(some 17), none, (.p true (.mv (.t 5)))⟩, ⟨(some 4), none, (.p true (.mv (.t 17)))⟩]) .ret) .skip)))) (.reg [⟨(some 18), none, (.p true (.bin .add (.t 8) (.c (.int .i64 1))))⟩, ⟨(some 8), none, (.p true (.mv (.t 18)))⟩]))))))) (.seq (.reg [⟨(some 4), none, (.p true (.mv (.c (.int .i64 (-1)))))⟩]) .ret)))
theorem c114_is : compFn Try.prog 114 = some (c114, [(.tmp 4)]) := by kernel_rfl
theorem c114_ok : okFn Try.prog 114 = true := by kernel_rfl

noncomputable def F_slices_IndexFunc_SPerson_Person_l0 (v0 : List TPerson) (v1 : List UInt8) (k0 : Int → Option (Int)) : Int → Option (Int)
  | v7 => (bif (decide (v7 < (v0.length : Int))) then ((ix v0 v7).bind fun v1000 => ((F_impl_personAt_1 v1000 v1).bind fun v1001 => (bif v1001 then some v7
  else k0 (w64 (v7 + 1)))))
  else some (-1))
noncomputable def F_slices_IndexFunc_SPerson_Person (v0 : List TPerson) (v1 : List UInt8) : Option (Int) :=
  loop (F_slices_IndexFunc_SPerson_Person_l0 v0 v1) 0
@[simp] def res_slices_IndexFunc_SPerson_Person (r : Int) : RV := .one (.one (.val (.int .i64 r)))
theorem con_slices_IndexFunc_SPerson_Person {v0 : List TPerson} {v1 : List UInt8} {r : Int} (hF : F_slices_IndexFunc_SPerson_Person v0 v1 = some r) : Con Try.prog 114 [.sl 3 (v0.map ePerson), .fn 115 [.ptr [.str v1]]] (res_slices_IndexFunc_SPerson_Person r) := by
  unfold F_slices_IndexFunc_SPerson_Person at hF
  refine con_of c114_is fun N => ?_
  refine w_reg_seq 0 64 rfl rfl ?_
  refine qp (AI 0) rfl ?_
  refine r_nil ?_
  refine w_seq ?_
  refine w_reg_seq 64 256 rfl rfl ?_
  refine qp (.val none (.sl 3 (v0.map ePerson))) rfl (qp (AI (v0.length : Int)) (ev_len_n rfl) (qp (AI 0) rfl ?_))
  refine r_nil ?_
  refine w_block ?_
  refine w_ren (l' := [(0, .val none (.sl 3 (v0.map ePerson))), (1, .val none (.fn 115 [.ptr [.str v1]])), (7, AI (v0.length : Int)), (8, AI 0)]) (L := []) [0, 1, 7, 8] [] 1 (by first | rfl | simp) (by first | rfl | simp) (by decide) (by decide) (by decide) ?_
  refine w_loopF (F_slices_IndexFunc_SPerson_Person_l0 v0 v1) (fun s : Int => mkS [(0, .val none (.sl 3 (v0.map ePerson))), (1, .val none (.fn 115 [.ptr [.str v1]])), (7, AI (v0.length : Int)), (8, AI s)] (fo []) 1) hF ?_
  rintro k0 v7 hF
  rw [F_slices_IndexFunc_SPerson_Person_l0] at hF
  try dsimp only
  refine w_reg_seq 1 65 rfl rfl ?_
  refine qp (AB (decide (v7 < (v0.length : Int)))) rfl ?_
  refine r_nil ?_
  refine w_seq ?_
  refine w_condF hF rfl (fun hF => ?_) (fun hF => ?_)
  ·
    refine w_skip ?_
    refine thenQ_n ?_
    refine w_seq ?_
    refine w_block ?_
    refine w_reg_seq 65 193 rfl rfl ?_
    refine qp (AI v7) rfl (qp (AI v7) rfl ?_)
    refine r_nil ?_
    refine w_reg_seq 193 577 rfl rfl ?_
    refine qp (.val none (.fn 115 [.ptr [.str v1]])) rfl (qp (.val none (.sl 3 (v0.map ePerson))) rfl (qp (AI v7) rfl ?_))
    obtain ⟨v1000, e1000, hF⟩ := bind_get hF
    refine qp (.val none (.ptr [.str v1000.1, .int .i64 v1000.2.1, .sl 1 (v1000.2.2.map V.str)])) (ev_iad_n rfl rfl e1000 rfl) (qp (.val none (ePerson v1000)) rfl ?_)
    obtain ⟨v1001, e1001, hF⟩ := bind_get hF
    refine qcv (AB v1001) [] false rfl (con_impl_personAt_1 e1001) c115_ok (by first | rfl | simp) rfl ?_
    refine r_nil ?_
    refine w_condF hF rfl (fun hF => ?_) (fun hF => ?_)
    ·
      refine w_reg_seq 577 705 rfl rfl ?_
      refine qp (AI v7) rfl (qp (AI v7) rfl ?_)
      refine r_nil ?_
      refine w_ret ?_
      refine blockQ_r ?_
      refine thenQ_r ?_
      refine thenQ_r ?_
      refine blockQ_r ?_
      refine thenQ_r ?_
      cases hF
      exact endQ_r rfl (.inl ⟨_, _, by first | rfl | (simp [List.take_of_length_le]; first | exact ⟨rfl, rfl⟩ | rfl), by simp, by first | rfl | simp [res_slices_IndexFunc_SPerson_Person, List.take_of_length_le]⟩)
    ·
      refine w_skip ?_
      refine blockQ_n ?_
      refine thenQ_n ?_
      refine w_reg 577 705 rfl rfl ?_
      refine qp (AI (w64 (v7 + 1))) rfl (qp (AI (w64 (v7 + 1))) rfl ?_)
      refine r_nil ?_
      refine thenQ_n ?_
      refine aw_ren (l' := [(0, .val none (.sl 3 (v0.map ePerson))), (1, .val none (.fn 115 [.ptr [.str v1]])), (7, AI (v0.length : Int)), (8, AI (w64 (v7 + 1)))]) (L := []) [0, 1, 7, 8] [] 1 (by first | rfl | simp) (by first | rfl | simp) (by decide) (by decide) (by decide) ⟨_, by rfl, hF⟩
  ·
    refine w_exit ?_
    refine thenQ_e ?_
    refine thenQ_e ?_
    refine blockQ_e ?_
    refine thenQ_n ?_
    refine w_reg_seq 65 129 rfl rfl ?_
    refine qp (AI (-1)) rfl ?_
    refine r_nil ?_
    refine w_ret ?_
    cases hF
    exact endQ_r rfl (.inl ⟨_, _, by first | rfl | (simp [List.take_of_length_le]; first | exact ⟨rfl, rfl⟩ | rfl), by simp, by first | rfl | simp [res_slices_IndexFunc_SPerson_Person, List.take_of_length_le]⟩)

def c68 : MC := (.seq (.reg [⟨(some 3), none, (.f (.box (.t 1)))⟩, ⟨(some 4), none, (.p true (.mv (.c (.int .i64 0))))⟩]) (.seq (.reg [⟨(some 5), none, (.p true (.mv (.t 0)))⟩, ⟨(some 6), none, (.p true (.mkf 115 [(.t 3)]))⟩, ⟨(some 7), none, (.call true 114 [(.t 5), (.t 6)])⟩, ⟨(some 4), none, (.p true (.mv (.t 7)))⟩]) .ret))
theorem c68_is : compFn Try.prog 68 = some (c68, [(.tmp 4)]) := by kernel_rfl
theorem c68_ok : okFn Try.prog 68 = true := by kernel_rfl

noncomputable def F_impl_personAt (v0 : List TPerson) (v1 : List UInt8) : Option (Int) :=
  ((F_slices_IndexFunc_SPerson_Person v0 v1).bind fun v1000 => some v1000)
@[simp] def res_impl_personAt (r : Int) : RV := .one (.one (.val (.int .i64 r)))
theorem con_impl_personAt {v0 : List TPerson} {v1 : List UInt8} {r : Int} (hF : F_impl_personAt v0 v1 = some r) : Con Try.prog 68 [.sl 3 (v0.map ePerson), .str v1] (res_impl_personAt r) := by
  unfold F_impl_personAt at hF
  refine con_of c68_is fun N => ?_
  refine w_reg_seq 0 128 rfl rfl ?_
  refine qf (.ptr 0 0 0) [(0, .box [AS v1])] (by simp) ?_
  refine qp (AI 0) rfl ?_
  refine r_nil ?_
  refine w_reg_seq 128 384 rfl rfl ?_
  refine qp (.val none (.sl 3 (v0.map ePerson))) rfl (qp (.fn 115 [.ptr 0 0 0]) rfl ?_)
  obtain ⟨v1000, e1000, hF⟩ := bind_get hF
  refine qc (AI v1000) [(0, .box [AS v1])] true (con_slices_IndexFunc_SPerson_Person e1000) c114_ok (by simp [List.take_of_length_le]) rfl ?_
  refine qp (AI v1000) rfl ?_
  refine r_nil ?_
  refine w_ret ?_
  cases hF
  exact endQ_r rfl (.inl ⟨_, _, by first | rfl | (simp [List.take_of_length_le]; first | exact ⟨rfl, rfl⟩ | rfl), by simp, by first | rfl | simp [res_impl_personAt, List.take_of_length_le]⟩)

def c83 : MC := (.seq (.reg [⟨(some 2), none, (.p true (.mv (.c (.bool false))))⟩]) (.seq (.seq (.reg [⟨(some 8), none, (.p true (.mv (.t 0)))⟩, ⟨(some 9), none, (.p true (.len (.t 8)))⟩, ⟨(some 10), none, (.p true (.bin .gtr (.t 9) (.c (.int .i64 24))))⟩]) (.cond (.t 10) (.seq (.reg [⟨(some 2), none, (.p true (.mv (.c (.bool false))))⟩]) .ret) .skip)) (.seq (.seq (.reg [⟨(some 11), none, (.p true (.mv (.t 0)))⟩, ⟨(some 12), none, (.p true (.len (.t 11)))⟩, ⟨(some 13), none, (.p true (.mv (.c (.int .i64 0))))⟩]) (.block 0 (.loop (.seq (.reg [⟨(some 14), none, (.p true (.bin .lss (.t 13) (.t 12)))⟩]) (.seq (.cond (.t 14) .skip (.exit 0)) (.seq (.block 1 (.seq (.reg [⟨(some 15), none, (.p true (.mv (.t 13)))⟩, ⟨(some 16), none, (.p true (.iad (.t 11) (.t 13) 3))⟩, ⟨(some 17), none, (.p true (.ld (.t 16) 3 true))⟩, ⟨(some 4), none, (.f (.alloc [((.str []), (0, false)), ((.int .i64 0), (0, false)), ((.sl 0 []), (1, false))]))⟩, ⟨(some 3), none, (.p true (.mv (.t 15)))⟩, ⟨none, none, (.f (.st (.t 4) (.t 17) 3))⟩]) (.seq (.seq (.reg [⟨(some 18), none, (.p false (.fad (.t 4) 0))⟩, ⟨(some 19), none, (.p false (.ld (.t 18) 1 false))⟩, ⟨(some 20), none, (.call false 123 [(.t 19)])⟩, ⟨(some 21), none, (.p false (.not (.t 20)))⟩, ⟨(some 22), none, (.p false (.mv (.t 21)))⟩, ⟨(some 23), (some (22, false)), (.p false (.fad (.t 4) 1))⟩, ⟨(some 24), (some (22, false)), (.p false (.ld (.t 23) 1 false))⟩, ⟨(some 25), (some (22, false)), (.call false 124 [(.t 24), (.c (.int .i64 0)), (.c (.int .i64 3000))])⟩, ⟨(some 26), (some (22, false)), (.p false (.not (.t 25)))⟩, ⟨(some 27), none, (.p false (.pick (.t 22) (.c (.bool true)) (.t 26)))⟩, ⟨(some 28), none, (.p false (.mv (.t 27)))⟩, ⟨(some 29), (some (28, false)), (.p false (.fad (.t 4) 2))⟩, ⟨(some 30), (some (28, false)), (.p false (.ld (.t 29) 1 false))⟩, ⟨(some 31), (some (28, false)), (.p false (.len (.t 30)))⟩, ⟨(some 32), (some (28, false)), (.p false (.bin .gtr (.t 31) (.c (.int .i64 4))))⟩, ⟨(some 33), none, (.p false (.pick (.t 28) (.c (.bool true)) (.t 32)))⟩, ⟨(some 34), none, (.p false (.mv (.t 33)))⟩, ⟨(some 35), (some (34, false)), (.p false (.mv (.t 3)))⟩, ⟨(some 36), (some (34, false)), (.p false (.bin .gtr (.t 35) (.c (.int .i64 0))))⟩, ⟨(some 37), (some (34, false)), (.p false (.mv (.t 36)))⟩, ⟨(some 38), (some (37, true)), (.p false (.fad (.t 4) 0))⟩, ⟨(some 39), (some (37, true)), (.p false (.ld (.t 38) 1 false))⟩, ⟨(some 40), (some (37, true)), (.p false (.mv (.t 0)))⟩, ⟨(some 41), (some (37, true)), (.p false (.mv (.t 3)))⟩, ⟨(some 42), (some (37, true)), (.p false (.bin .sub (.t 41) (.c (.int .i64 1))))⟩, ⟨(some 43), (some (37, true)), (.p false (.iad (.t 40) (.t 42) 3))⟩, ⟨(some 44), (some (37, true)), (.p false (.fad (.t 43) 0))⟩, ⟨(some 45), (some (37, true)), (.p false (.ld (.t 44) 1 false))⟩, ⟨(some 46), (some (37, true)), (.p false (.bin .leq (.t 39) (.t 45)))⟩, ⟨(some 47), (some (34, false)), (.p false (.pick (.t 37) (.t 46) (.c (.bool false))))⟩, ⟨(some 48), none, (.p false (.pick (.t 34) (.c (.bool true)) (.t 47)))⟩]) (.cond (.t 48) (.seq (.reg [⟨(some 2), none, (.p true (.mv (.c (.bool false))))⟩]) .ret) .skip)) (.seq (.reg [⟨(some 49), none, (.p true (.fad (.t 4) 2))⟩, ⟨(some 50), none, (.p true (.ld (.t 49) 1 false))⟩, ⟨(some 51), none, (.p true (.len (.t 50)))⟩, ⟨(some 52), none, (.p true (.mv (.c (.int .i64 0))))⟩]) (.block 2 (.loop (.seq (.reg [⟨(some 53), none, (.p true (.bin .lss (.t 52) (.t 51)))⟩]) (.seq (.cond (.t 53) .skip (.exit 2)) (.seq (.block 3 (.seq (.reg [⟨(some 54), none, (.p true (.mv (.t 52)))⟩, ⟨(some 55), none, (.p true (.iad (.t 50) (.t 52) 1))⟩, ⟨(some 56), none, (.p true (.ld (.t 55) 1 false))⟩, ⟨(some 5), none, (.p true (.mv (.t 54)))⟩, ⟨(some 6), none, (.p true (.mv (.t 56)))⟩]) (.seq (.reg [⟨(some 57), none, (.p true (.mv (.t 0)))⟩, ⟨(some 58), none, (.p true (.mv (.t 6)))⟩, ⟨(some 59), none, (.call true 68 [(.t 57), (.t 58)])⟩, ⟨(some 7), none, (.p true (.mv (.t 59)))⟩]) (.seq (.reg [⟨(some 60), none, (.p false (.mv (.t 7)))⟩, ⟨(some 61), none, (.p false (.bin .lss (.t 60) (.c (.int .i64 0))))⟩, ⟨(some 62), none, (.p false (.mv (.t 61)))⟩, ⟨(some 63), (some (62, false)), (.p false (.mv (.t 0)))⟩, ⟨(some 64), (some (62, false)), (.p false (.mv (.t 7)))⟩, ⟨(some 65), (some (62, false)), (.p false (.iad (.t 63) (.t 64) 3))⟩, ⟨(some 66), (some (62, false)), (.p false (.fad (.t 65) 1))⟩, ⟨(some 67), (some (62, false)), (.p false (.ld (.t 66) 1 false))⟩, ⟨(some 68), (some (62, false)), (.p false (.fad (.t 4) 1))⟩, ⟨(some 69), (some (62, false)), (.p false (.ld (.t 68) 1 false))⟩, ⟨(some 70), (some (62, false)), (.p false (.bin .geq (.t 67) (.t 69)))⟩, ⟨(some 71), none, (.p false (.pick (.t 62) (.c (.bool true)) (.t 70)))⟩, ⟨(some 72), none, (.p false (.mv (.t 71)))⟩, ⟨(some 73), (some (72, false)), (.p false (.mv (.t 5)))⟩, ⟨(some 74), (some (72, false)), (.p false (.bin .gtr (.t 73) (.c (.int .i64 0))))⟩, ⟨(some 75), (some (72, false)), (.p false (.mv (.t 74)))⟩, ⟨(some 76), (some (75, true)), (.p false (.mv (.t 6)))⟩, ⟨(some 77), (some (75, true)), (.p false (.fad (.t 4) 2))⟩, ⟨(some 78), (some (75, true)), (.p false (.ld (.t 77) 1 false))⟩, ⟨(some 79), (some (75, true)), (.p false (.mv (.t 5)))⟩, ⟨(some 80), (some (75, true)), (.p false (.bin .sub (.t 79) (.c (.int .i64 1))))⟩, ⟨(some 81), (some (75, true)), (.p false (.iad (.t 78) (.t 80) 1))⟩, ⟨(some 82), (some (75, true)), (.p false (.ld (.t 81) 1 false))⟩, ⟨(some 83), (some (75, true)), (.p false (.bin .leq (.t 76) (.t 82)))⟩, ⟨(some 84), (some (72, false)), (.p false (.pick (.t 75) (.t 83) (.c (.bool false))))⟩, ⟨(some 85), none, (.p false (.pick (.t 72) (.c (.bool true)) (.t 84)))⟩]) (.cond (.t 85) (.seq (.reg [⟨(some 2), none, (.p true (.mv (.c (.bool false))))⟩]) .ret) .skip))))) (.reg [⟨(some 86), none, (.p true (.bin .add (.t 52) (.c (.int .i64 1))))⟩, ⟨(some 52), none, (.p true (.mv (.t 86)))⟩])))))))))) (.reg [⟨(some 87), none, (.p true (.bin .add (.t 13) (.c (.int .i64 1))))⟩, ⟨(some 13), none, (.p true (.mv (.t 87)))⟩]))))))) (.seq (.reg [⟨(some 2), none, (.p true (.mv (.c (.bool true))))⟩]) .ret))))
theorem c83_is : compFn Try.prog 83 = some (c83, [(.tmp 2)]) := by kernel_rfl
theorem c83_ok : okFn Try.prog 83 = true := by kernel_rfl

noncomputable def F_impl_ValidPersons_l2 (v0 : List TPerson) (v24 : Int) (v1000 : TPerson) (k2 : Int → Option (Bool)) (k4 : Int → Option (Bool)) : Int → Option (Bool)
  | v1013 => (bif (decide (v1013 < (v1000.2.2.length : Int))) then ((ix v1000.2.2 v1013).bind fun v1007 => ((F_impl_personAt v0 v1007).bind fun v1008 => (bif (decide (v1008 < (0 : Int))) then some false
  else ((ix v0 v1008).bind fun v1009 => (bif (decide (v1000.2.1 ≤ v1009.2.1)) then some false
  else (bif (decide ((0 : Int) < v1013)) then ((ix v1000.2.2 (w64 (v1013 - 1))).bind fun v1010 => (bif (Op.bytesLess v1007 v1010 || decide (v1007 = v1010)) then some false
  else k4 (w64 (v1013 + 1))))
  else k4 (w64 (v1013 + 1))))))))
  else k2 (w64 (v24 + 1)))
noncomputable def F_impl_ValidPersons_j1 (v0 : List TPerson) (v24 : Int) (v1000 : TPerson) (k2 : Int → Option (Bool)) : Option (Bool) :=
  loop (F_impl_ValidPersons_l2 v0 v24 v1000 k2) 0
noncomputable def F_impl_ValidPersons_l0 (v0 : List TPerson) (k2 : Int → Option (Bool)) : Int → Option (Bool)
  | v24 => (bif (decide (v24 < (v0.length : Int))) then ((ix v0 v24).bind fun v1000 => ((F_impl_IsName v1000.1).bind fun v1004 => (bif (!v1004) then some false
  else ((F_impl_within v1000.2.1 0 3000).bind fun v1005 => (bif (!v1005) then some false
  else (bif (decide ((4 : Int) < (v1000.2.2.length : Int))) then some false
  else (bif (decide ((0 : Int) < v24)) then ((ix v0 (w64 (v24 - 1))).bind fun v1006 => (bif (Op.bytesLess v1000.1 v1006.1 || decide (v1000.1 = v1006.1)) then some false
  else F_impl_ValidPersons_j1 v0 v24 v1000 k2))
  else F_impl_ValidPersons_j1 v0 v24 v1000 k2)))))))
  else some true)
noncomputable def F_impl_ValidPersons (v0 : List TPerson) : Option (Bool) :=
  (bif (decide ((24 : Int) < (v0.length : Int))) then some false
  else loop (F_impl_ValidPersons_l0 v0) 0)
@[simp] def res_impl_ValidPersons (r : Bool) : RV := .one (.one (.val (.bool r)))
theorem con_impl_ValidPersons {v0 : List TPerson} {r : Bool} (hF : F_impl_ValidPersons v0 = some r) : Con Try.prog 83 [.sl 3 (v0.map ePerson)] (res_impl_ValidPersons r) := by
  unfold F_impl_ValidPersons at hF
  refine con_of c83_is fun N => ?_
  refine w_reg_seq 0 64 rfl rfl ?_
  refine qp (AB false) rfl ?_
  refine r_nil ?_
  refine w_seq ?_
  refine w_reg_seq 64 256 rfl rfl ?_
  refine qp (.val none (.sl 3 (v0.map ePerson))) rfl (qp (AI (v0.length : Int)) (ev_len_n rfl) (qp (AB (decide ((24 : Int) < (v0.length : Int)))) rfl ?_))
  refine r_nil ?_
  refine w_condF hF rfl (fun hF => ?_) (fun hF => ?_)
  ·
    refine w_reg_seq 256 320 rfl rfl ?_
    refine qp (AB false) rfl ?_
    refine r_nil ?_
    refine w_ret ?_
    refine thenQ_r ?_
    cases hF
    exact endQ_r rfl (.inl ⟨_, _, by first | rfl | (simp [List.take_of_length_le]; first | exact ⟨rfl, rfl⟩ | rfl), by simp, by first | rfl | simp [res_impl_ValidPersons, List.take_of_length_le]⟩)
  ·
    refine w_skip ?_
    refine thenQ_n ?_
    refine w_seq ?_
    refine w_reg_seq 256 448 rfl rfl ?_
    refine qp (.val none (.sl 3 (v0.map ePerson))) rfl (qp (AI (v0.length : Int)) (ev_len_n rfl) (qp (AI 0) rfl ?_))
    refine r_nil ?_
    refine w_block ?_
    refine w_ren (l' := [(0, .val none (.sl 3 (v0.map ePerson))), (11, .val none (.sl 3 (v0.map ePerson))), (12, AI (v0.length : Int)), (13, AI 0)]) (L := []) [0, 11, 12, 13] [] 1 (by first | rfl | simp) (by first | rfl | simp) (by decide) (by decide) (by decide) ?_
    refine w_loopF (F_impl_ValidPersons_l0 v0) (fun s : Int => mkS [(0, .val none (.sl 3 (v0.map ePerson))), (11, .val none (.sl 3 (v0.map ePerson))), (12, AI (v0.length : Int)), (13, AI s)] (fo []) 1) hF ?_
    rintro k2 v24 hF
    rw [F_impl_ValidPersons_l0] at hF
    try dsimp only
    refine w_reg_seq 1 65 rfl rfl ?_
    refine qp (AB (decide (v24 < (v0.length : Int)))) rfl ?_
    refine r_nil ?_
    refine w_seq ?_
    refine w_condF hF rfl (fun hF => ?_) (fun hF => ?_)
    ·
      refine w_skip ?_
      refine thenQ_n ?_
      refine w_seq ?_
      refine w_block ?_
      refine w_reg_seq 65 449 rfl rfl ?_
      refine qp (AI v24) rfl ?_
      obtain ⟨v1000, e1000, hF⟩ := bind_get hF
      refine qp (.val none (.ptr [.str v1000.1, .int .i64 v1000.2.1, .sl 1 (v1000.2.2.map V.str)])) (ev_iad_n rfl rfl e1000 rfl) (qp (.val none (ePerson v1000)) rfl ?_)
      refine qf (.ptr 257 0 0) [(257, .box [AS [], AI 0, .sl 258 0 0]), (258, .row true 1 (([] : List Int).map (V.int .i64)))] (by simp) ?_
      refine qp (AI v24) rfl ?_
      refine qf0 (.undef) [(257, .box [AS v1000.1, AI v1000.2.1, .val none (.sl 1 (v1000.2.2.map V.str))]), (257, .box [AS [], AI 0, .sl 258 0 0]), (258, .row true 1 (([] : List Int).map (V.int .i64)))] (by simp) ?_
      refine r_nil ?_
      refine w_meet (fun s' => s' = mkS [(0, .val none (.sl 3 (v0.map ePerson))), (4, .ptr 0 0 0), (11, .val none (.sl 3 (v0.map ePerson))), (12, AI (v0.length : Int)), (13, AI v24)] (fo [(0, .box [AS v1000.1, AI v1000.2.1, .val none (.sl 1 (v1000.2.2.map V.str))])]) 1 ∧ F_impl_ValidPersons_j1 v0 v24 v1000 k2 = some r) ?_ ?_
      ·
        refine w_reg_seq 449 2433 rfl rfl ?_
        refine qp (.ptr 257 0 0) rfl (qp (AS v1000.1) rfl ?_)
        obtain ⟨v1004, e1004, hF⟩ := bind_get hF
        refine qc (AB v1004) [(257, .box [AS v1000.1, AI v1000.2.1, .val none (.sl 1 (v1000.2.2.map V.str))]), (257, .box [AS [], AI 0, .sl 258 0 0]), (258, .row true 1 (([] : List Int).map (V.int .i64)))] false (con_impl_IsName e1004) c123_ok (by first | rfl | simp) rfl ?_
        refine qp (AB (!v1004)) rfl (qp (AB (!v1004)) rfl ?_)
        refine q_case 22 hF rfl (fun hF => ?_) (fun hF => ?_)
        ·
          refine qn rfl (qn rfl (qn rfl (qn rfl (qp (AB true) rfl (qp (AB true) rfl (qn rfl (qn rfl ?_)))))))
          refine qn rfl (qn rfl (qp (AB true) rfl (qp (AB true) rfl (qn rfl (qn rfl (qn rfl (qu rfl ?_)))))))
          refine qu rfl (qu rfl (qu rfl (qu rfl (qu rfl (qu rfl (qu rfl (qu rfl ?_)))))))
          refine qn rfl (qp (AB true) rfl ?_)
          refine r_nil ?_
          refine w_true rfl ?_
          refine w_reg_seq 2433 2497 rfl rfl ?_
          refine qp (AB false) rfl ?_
          refine r_nil ?_
          refine w_ret ?_
          refine thenQ_r ?_
          refine blockQ_r ?_
          refine thenQ_r ?_
          refine thenQ_r ?_
          refine blockQ_r ?_
          refine thenQ_r ?_
          cases hF
          exact endQ_r rfl (.inl ⟨_, _, by first | rfl | (simp [List.take_of_length_le]; first | exact ⟨rfl, rfl⟩ | rfl), by simp, by first | rfl | simp [res_impl_ValidPersons, List.take_of_length_le]⟩)
        ·
          refine qg (.ptr 257 0 1) rfl rfl (qg (AI v1000.2.1) rfl rfl ?_)
          obtain ⟨v1005, e1005, hF⟩ := bind_get hF
          refine qcg (AB v1005) [(257, .box [AS v1000.1, AI v1000.2.1, .val none (.sl 1 (v1000.2.2.map V.str))]), (257, .box [AS [], AI 0, .sl 258 0 0]), (258, .row true 1 (([] : List Int).map (V.int .i64)))] false rfl (con_impl_within e1005) c124_ok (by first | rfl | simp) rfl ?_
          refine qg (AB (!v1005)) rfl rfl (qp (AB (!v1005)) rfl (qp (AB (!v1005)) rfl ?_))
          refine q_case 28 hF rfl (fun hF => ?_) (fun hF => ?_)
          ·
            refine qn rfl (qn rfl (qn rfl (qn rfl (qp (AB true) rfl (qp (AB true) rfl (qn rfl (qn rfl ?_)))))))
            refine qn rfl (qu rfl (qu rfl (qu rfl (qu rfl (qu rfl (qu rfl (qu rfl ?_)))))))
            refine qu rfl (qu rfl (qn rfl (qp (AB true) rfl ?_)))
            refine r_nil ?_
            refine w_true rfl ?_
            refine w_reg_seq 2433 2497 rfl rfl ?_
            refine qp (AB false) rfl ?_
            refine r_nil ?_
            refine w_ret ?_
            refine thenQ_r ?_
            refine blockQ_r ?_
            refine thenQ_r ?_
            refine thenQ_r ?_
            refine blockQ_r ?_
            refine thenQ_r ?_
            cases hF
            exact endQ_r rfl (.inl ⟨_, _, by first | rfl | (simp [List.take_of_length_le]; first | exact ⟨rfl, rfl⟩ | rfl), by simp, by first | rfl | simp [res_impl_ValidPersons, List.take_of_length_le]⟩)
          ·
            refine qg (.ptr 257 0 2) rfl rfl (qg (.val none (.sl 1 (v1000.2.2.map V.str))) rfl rfl (qg (AI (v1000.2.2.length : Int)) rfl (ev_len_n rfl) (qg (AB (decide ((4 : Int) < (v1000.2.2.length : Int)))) rfl rfl (qp (AB (decide ((4 : Int) < (v1000.2.2.length : Int)))) rfl (qp (AB (decide ((4 : Int) < (v1000.2.2.length : Int)))) rfl ?_)))))
            refine q_case 34 hF rfl (fun hF => ?_) (fun hF => ?_)
            ·
              refine qn rfl (qn rfl (qn rfl (qu rfl (qu rfl (qu rfl (qu rfl (qu rfl ?_)))))))
              refine qu rfl (qu rfl (qu rfl (qu rfl (qn rfl (qp (AB true) rfl ?_)))))
              refine r_nil ?_
              refine w_true rfl ?_
              refine w_reg_seq 2433 2497 rfl rfl ?_
              refine qp (AB false) rfl ?_
              refine r_nil ?_
              refine w_ret ?_
              refine thenQ_r ?_
              refine blockQ_r ?_
              refine thenQ_r ?_
              refine thenQ_r ?_
              refine blockQ_r ?_
              refine thenQ_r ?_
              cases hF
              exact endQ_r rfl (.inl ⟨_, _, by first | rfl | (simp [List.take_of_length_le]; first | exact ⟨rfl, rfl⟩ | rfl), by simp, by first | rfl | simp [res_impl_ValidPersons, List.take_of_length_le]⟩)
            ·
              refine qg (AI v24) rfl rfl (qg (AB (decide ((0 : Int) < v24))) rfl rfl (qg (AB (decide ((0 : Int) < v24))) rfl rfl ?_))
              refine q_case 37 hF rfl (fun hF => ?_) (fun hF => ?_)
              ·
                refine qg (.ptr 257 0 0) rfl rfl (qg (AS v1000.1) rfl rfl (qg (.val none (.sl 3 (v0.map ePerson))) rfl rfl (qg (AI v24) rfl rfl (qg (AI (w64 (v24 - 1))) rfl rfl ?_))))
                obtain ⟨v1006, e1006, hF⟩ := bind_get hF
                refine qg (.val none (.ptr [.str v1006.1, .int .i64 v1006.2.1, .sl 1 (v1006.2.2.map V.str)])) rfl (ev_iad_n rfl rfl e1006 rfl) (qg (.val none (.ptr [.str v1006.1, .int .i64 v1006.2.1, .sl 1 (v1006.2.2.map V.str)])) rfl rfl (qg (AS v1006.1) rfl rfl (qg (AB (Op.bytesLess v1000.1 v1006.1 || decide (v1000.1 = v1006.1))) rfl rfl (qg (AB (Op.bytesLess v1000.1 v1006.1 || decide (v1000.1 = v1006.1))) rfl rfl (qp (AB (Op.bytesLess v1000.1 v1006.1 || decide (v1000.1 = v1006.1))) rfl ?_)))))
                refine r_nil ?_
                refine w_condF hF rfl (fun hF => ?_) (fun hF => ?_)
                ·
                  refine w_reg_seq 2433 2497 rfl rfl ?_
                  refine qp (AB false) rfl ?_
                  refine r_nil ?_
                  refine w_ret ?_
                  refine thenQ_r ?_
                  refine blockQ_r ?_
                  refine thenQ_r ?_
                  refine thenQ_r ?_
                  refine blockQ_r ?_
                  refine thenQ_r ?_
                  cases hF
                  exact endQ_r rfl (.inl ⟨_, _, by first | rfl | (simp [List.take_of_length_le]; first | exact ⟨rfl, rfl⟩ | rfl), by simp, by first | rfl | simp [res_impl_ValidPersons, List.take_of_length_le]⟩)
                ·
                  refine w_skip ?_
                  refine thenQ_n ?_
                  refine aw_ren (l' := [(0, .val none (.sl 3 (v0.map ePerson))), (4, .ptr 0 0 0), (11, .val none (.sl 3 (v0.map ePerson))), (12, AI (v0.length : Int)), (13, AI v24)]) (L := [(0, .box [AS v1000.1, AI v1000.2.1, .val none (.sl 1 (v1000.2.2.map V.str))])]) [0, 4, 11, 12, 13] [(257, 0)] 1 (by first | rfl | simp) (by first | rfl | simp) (by decide) (by decide) (by decide) ⟨rfl, hF⟩
              ·
                refine qn rfl (qn rfl (qn rfl (qn rfl (qn rfl (qn rfl (qn rfl (qn rfl ?_)))))))
                refine qn rfl (qg (AB false) rfl rfl (qp (AB false) rfl ?_))
                refine r_nil ?_
                refine w_false rfl ?_
                refine w_skip ?_
                refine thenQ_n ?_
                refine aw_ren (l' := [(0, .val none (.sl 3 (v0.map ePerson))), (4, .ptr 0 0 0), (11, .val none (.sl 3 (v0.map ePerson))), (12, AI (v0.length : Int)), (13, AI v24)]) (L := [(0, .box [AS v1000.1, AI v1000.2.1, .val none (.sl 1 (v1000.2.2.map V.str))])]) [0, 4, 11, 12, 13] [(257, 0)] 1 (by first | rfl | simp) (by first | rfl | simp) (by decide) (by decide) (by decide) ⟨rfl, hF⟩
      ·
        rintro s' ⟨rfl, hF⟩
        unfold F_impl_ValidPersons_j1 at hF
        refine w_reg_seq 1 257 rfl rfl ?_
        refine qp (.ptr 0 0 2) rfl (qp (.val none (.sl 1 (v1000.2.2.map V.str))) rfl (qp (AI (v1000.2.2.length : Int)) (ev_len_n rfl) (qp (AI 0) rfl ?_)))
        refine r_nil ?_
        refine w_block ?_
        refine w_ren (l' := [(0, .val none (.sl 3 (v0.map ePerson))), (4, .ptr 0 0 0), (11, .val none (.sl 3 (v0.map ePerson))), (12, AI (v0.length : Int)), (13, AI v24), (50, .val none (.sl 1 (v1000.2.2.map V.str))), (51, AI (v1000.2.2.length : Int)), (52, AI 0)]) (L := [(0, .box [AS v1000.1, AI v1000.2.1, .val none (.sl 1 (v1000.2.2.map V.str))])]) [0, 4, 11, 12, 13, 50, 51, 52] [(0, 0)] 1 (by first | rfl | simp) (by first | rfl | simp) (by decide) (by decide) (by decide) ?_
        refine w_loopF (F_impl_ValidPersons_l2 v0 v24 v1000 k2) (fun s : Int => mkS [(0, .val none (.sl 3 (v0.map ePerson))), (4, .ptr 0 0 0), (11, .val none (.sl 3 (v0.map ePerson))), (12, AI (v0.length : Int)), (13, AI v24), (50, .val none (.sl 1 (v1000.2.2.map V.str))), (51, AI (v1000.2.2.length : Int)), (52, AI s)] (fo [(0, .box [AS v1000.1, AI v1000.2.1, .val none (.sl 1 (v1000.2.2.map V.str))])]) 1) hF ?_
        rintro k4 v1013 hF
        rw [F_impl_ValidPersons_l2] at hF
        try dsimp only
        refine w_reg_seq 1 65 rfl rfl ?_
        refine qp (AB (decide (v1013 < (v1000.2.2.length : Int)))) rfl ?_
        refine r_nil ?_
        refine w_seq ?_
        refine w_condF hF rfl (fun hF => ?_) (fun hF => ?_)
        ·
          refine w_skip ?_
          refine thenQ_n ?_
          refine w_seq ?_
          refine w_block ?_
          refine w_reg_seq 65 385 rfl rfl ?_
          refine qp (AI v1013) rfl ?_
          obtain ⟨v1007, e1007, hF⟩ := bind_get hF
          refine qp (.val none (.ptr [.str v1007])) (ev_iad_n rfl rfl e1007 rfl) (qp (AS v1007) rfl (qp (AI v1013) rfl (qp (AS v1007) rfl ?_)))
          refine r_nil ?_
          refine w_reg_seq 385 641 rfl rfl ?_
          refine qp (.val none (.sl 3 (v0.map ePerson))) rfl (qp (AS v1007) rfl ?_)
          obtain ⟨v1008, e1008, hF⟩ := bind_get hF
          refine qc (AI v1008) [(0, .box [AS v1000.1, AI v1000.2.1, .val none (.sl 1 (v1000.2.2.map V.str))])] false (con_impl_personAt e1008) c68_ok (by first | rfl | simp) rfl ?_
          refine qp (AI v1008) rfl ?_
          refine r_nil ?_
          refine w_reg_seq 641 2305 rfl rfl ?_
          refine qp (AI v1008) rfl (qp (AB (decide (v1008 < (0 : Int)))) rfl (qp (AB (decide (v1008 < (0 : Int)))) rfl ?_))
          refine q_case 62 hF rfl (fun hF => ?_) (fun hF => ?_)
          ·
            refine qn rfl (qn rfl (qn rfl (qn rfl (qn rfl (qn rfl (qn rfl (qn rfl ?_)))))))
            refine qp (AB true) rfl (qp (AB true) rfl (qn rfl (qn rfl (qn rfl (qu rfl (qu rfl (qu rfl ?_)))))))
            refine qu rfl (qu rfl (qu rfl (qu rfl (qu rfl (qn rfl (qp (AB true) rfl ?_))))))
            refine r_nil ?_
            refine w_true rfl ?_
            refine w_reg_seq 2305 2369 rfl rfl ?_
            refine qp (AB false) rfl ?_
            refine r_nil ?_
            refine w_ret ?_
            refine blockQ_r ?_
            refine thenQ_r ?_
            refine thenQ_r ?_
            refine blockQ_r ?_
            refine blockQ_r ?_
            refine thenQ_r ?_
            refine thenQ_r ?_
            refine blockQ_r ?_
            refine thenQ_r ?_
            cases hF
            exact endQ_r rfl (.inl ⟨_, _, by first | rfl | (simp [List.take_of_length_le]; first | exact ⟨rfl, rfl⟩ | rfl), by simp, by first | rfl | simp [res_impl_ValidPersons, List.take_of_length_le]⟩)
          ·
            refine qg (.val none (.sl 3 (v0.map ePerson))) rfl rfl (qg (AI v1008) rfl rfl ?_)
            obtain ⟨v1009, e1009, hF⟩ := bind_get hF
            refine qg (.val none (.ptr [.str v1009.1, .int .i64 v1009.2.1, .sl 1 (v1009.2.2.map V.str)])) rfl (ev_iad_n rfl rfl e1009 rfl) (qg (.val none (.ptr [.int .i64 v1009.2.1, .sl 1 (v1009.2.2.map V.str)])) rfl rfl (qg (AI v1009.2.1) rfl rfl (qg (.ptr 0 0 1) rfl rfl (qg (AI v1000.2.1) rfl rfl (qg (AB (decide (v1000.2.1 ≤ v1009.2.1))) rfl rfl (qp (AB (decide (v1000.2.1 ≤ v1009.2.1))) rfl (qp (AB (decide (v1000.2.1 ≤ v1009.2.1))) rfl ?_)))))))
            refine q_case 72 hF rfl (fun hF => ?_) (fun hF => ?_)
            ·
              refine qn rfl (qn rfl (qn rfl (qu rfl (qu rfl (qu rfl (qu rfl (qu rfl ?_)))))))
              refine qu rfl (qu rfl (qu rfl (qn rfl (qp (AB true) rfl ?_))))
              refine r_nil ?_
              refine w_true rfl ?_
              refine w_reg_seq 2305 2369 rfl rfl ?_
              refine qp (AB false) rfl ?_
              refine r_nil ?_
              refine w_ret ?_
              refine blockQ_r ?_
              refine thenQ_r ?_
              refine thenQ_r ?_
              refine blockQ_r ?_
              refine blockQ_r ?_
              refine thenQ_r ?_
              refine thenQ_r ?_
              refine blockQ_r ?_
              refine thenQ_r ?_
              cases hF
              exact endQ_r rfl (.inl ⟨_, _, by first | rfl | (simp [List.take_of_length_le]; first | exact ⟨rfl, rfl⟩ | rfl), by simp, by first | rfl | simp [res_impl_ValidPersons, List.take_of_length_le]⟩)
            ·
              refine qg (AI v1013) rfl rfl (qg (AB (decide ((0 : Int) < v1013))) rfl rfl (qg (AB (decide ((0 : Int) < v1013))) rfl rfl ?_))
              refine q_case 75 hF rfl (fun hF => ?_) (fun hF => ?_)
              ·
                refine qg (AS v1007) rfl rfl (qg (.ptr 0 0 2) rfl rfl (qg (.val none (.sl 1 (v1000.2.2.map V.str))) rfl rfl (qg (AI v1013) rfl rfl (qg (AI (w64 (v1013 - 1))) rfl rfl ?_))))
                obtain ⟨v1010, e1010, hF⟩ := bind_get hF
                refine qg (.val none (.ptr [.str v1010])) rfl (ev_iad_n rfl rfl e1010 rfl) (qg (AS v1010) rfl rfl (qg (AB (Op.bytesLess v1007 v1010 || decide (v1007 = v1010))) rfl rfl (qg (AB (Op.bytesLess v1007 v1010 || decide (v1007 = v1010))) rfl rfl (qp (AB (Op.bytesLess v1007 v1010 || decide (v1007 = v1010))) rfl ?_))))
                refine r_nil ?_
                refine w_condF hF rfl (fun hF => ?_) (fun hF => ?_)
                ·
                  refine w_reg_seq 2305 2369 rfl rfl ?_
                  refine qp (AB false) rfl ?_
                  refine r_nil ?_
                  refine w_ret ?_
                  refine blockQ_r ?_
                  refine thenQ_r ?_
                  refine thenQ_r ?_
                  refine blockQ_r ?_
                  refine blockQ_r ?_
                  refine thenQ_r ?_
                  refine thenQ_r ?_
                  refine blockQ_r ?_
                  refine thenQ_r ?_
                  cases hF
                  exact endQ_r rfl (.inl ⟨_, _, by first | rfl | (simp [List.take_of_length_le]; first | exact ⟨rfl, rfl⟩ | rfl), by simp, by first | rfl | simp [res_impl_ValidPersons, List.take_of_length_le]⟩)
                ·
                  refine w_skip ?_
                  refine blockQ_n ?_
                  refine thenQ_n ?_
                  refine w_reg 2305 2433 rfl rfl ?_
                  refine qp (AI (w64 (v1013 + 1))) rfl (qp (AI (w64 (v1013 + 1))) rfl ?_)
                  refine r_nil ?_
                  refine thenQ_n ?_
                  refine aw_ren (l' := [(0, .val none (.sl 3 (v0.map ePerson))), (4, .ptr 0 0 0), (11, .val none (.sl 3 (v0.map ePerson))), (12, AI (v0.length : Int)), (13, AI v24), (50, .val none (.sl 1 (v1000.2.2.map V.str))), (51, AI (v1000.2.2.length : Int)), (52, AI (w64 (v1013 + 1)))]) (L := [(0, .box [AS v1000.1, AI v1000.2.1, .val none (.sl 1 (v1000.2.2.map V.str))])]) [0, 4, 11, 12, 13, 50, 51, 52] [(0, 0)] 1 (by first | rfl | simp) (by first | rfl | simp) (by decide) (by decide) (by decide) ⟨_, by rfl, hF⟩
              ·
                refine qn rfl (qn rfl (qn rfl (qn rfl (qn rfl (qn rfl (qn rfl (qn rfl ?_)))))))
                refine qg (AB false) rfl rfl (qp (AB false) rfl ?_)
                refine r_nil ?_
                refine w_false rfl ?_
                refine w_skip ?_
                refine blockQ_n ?_
                refine thenQ_n ?_
                refine w_reg 2305 2433 rfl rfl ?_
                refine qp (AI (w64 (v1013 + 1))) rfl (qp (AI (w64 (v1013 + 1))) rfl ?_)
                refine r_nil ?_
                refine thenQ_n ?_
                refine aw_ren (l' := [(0, .val none (.sl 3 (v0.map ePerson))), (4, .ptr 0 0 0), (11, .val none (.sl 3 (v0.map ePerson))), (12, AI (v0.length : Int)), (13, AI v24), (50, .val none (.sl 1 (v1000.2.2.map V.str))), (51, AI (v1000.2.2.length : Int)), (52, AI (w64 (v1013 + 1)))]) (L := [(0, .box [AS v1000.1, AI v1000.2.1, .val none (.sl 1 (v1000.2.2.map V.str))])]) [0, 4, 11, 12, 13, 50, 51, 52] [(0, 0)] 1 (by first | rfl | simp) (by first | rfl | simp) (by decide) (by decide) (by decide) ⟨_, by rfl, hF⟩
        ·
          refine w_exit ?_
          refine thenQ_e ?_
          refine thenQ_e ?_
          refine blockQ_e ?_
          refine blockQ_n ?_
          refine thenQ_n ?_
          refine w_reg 65 193 rfl rfl ?_
          refine qp (AI (w64 (v24 + 1))) rfl (qp (AI (w64 (v24 + 1))) rfl ?_)
          refine r_nil ?_
          refine thenQ_n ?_
          refine aw_ren (l' := [(0, .val none (.sl 3 (v0.map ePerson))), (11, .val none (.sl 3 (v0.map ePerson))), (12, AI (v0.length : Int)), (13, AI (w64 (v24 + 1)))]) (L := []) [0, 11, 12, 13] [] 1 (by first | rfl | simp) (by first | rfl | simp) (by decide) (by decide) (by decide) ⟨_, by rfl, hF⟩
    ·
      refine w_exit ?_
      refine thenQ_e ?_
      refine thenQ_e ?_
      refine blockQ_e ?_
      refine thenQ_n ?_
      refine w_reg_seq 65 129 rfl rfl ?_
      refine qp (AB true) rfl ?_
      refine r_nil ?_
      refine w_ret ?_
      cases hF
      exact endQ_r rfl (.inl ⟨_, _, by first | rfl | (simp [List.take_of_length_le]; first | exact ⟨rfl, rfl⟩ | rfl), by simp, by first | rfl | simp [res_impl_ValidPersons, List.take_of_length_le]⟩)

def c112 : MC := (.seq (.reg [⟨(some 3), none, (.p true (.mv (.c (.bool false))))⟩]) (.seq (.reg [⟨(some 4), none, (.p true (.ld (.t 1) 1 false))⟩, ⟨(some 5), none, (.p true (.mv (.t 0)))⟩, ⟨(some 6), none, (.call true 68 [(.t 4), (.t 5)])⟩, ⟨(some 7), none, (.p true (.bin .lss (.t 6) (.c (.int .i64 0))))⟩, ⟨(some 3), none, (.p true (.mv (.t 7)))⟩]) .ret))
theorem c112_is : compFn Try.prog 112 = some (c112, [(.tmp 3)]) := by kernel_rfl
theorem c112_ok : okFn Try.prog 112 = true := by kernel_rfl

noncomputable def F_impl_personsCode_1 (v0 : List UInt8) (v1 : List TPerson) : Option (Bool) :=
  ((F_impl_personAt v1 v0).bind fun v1000 => some (decide (v1000 < (0 : Int))))
@[simp] def res_impl_personsCode_1 (r : Bool) : RV := .one (.one (.val (.bool r)))
theorem con_impl_personsCode_1 {v0 : List UInt8} {v1 : List TPerson} {r : Bool} (hF : F_impl_personsCode_1 v0 v1 = some r) : Con Try.prog 112 [.str v0, .ptr [.sl 3 (v1.map ePerson)]] (res_impl_personsCode_1 r) := by
  unfold F_impl_personsCode_1 at hF
  refine con_of c112_is fun N => ?_
  refine w_reg_seq 0 64 rfl rfl ?_
  refine qp (AB false) rfl ?_
  refine r_nil ?_
  refine w_reg_seq 64 384 rfl rfl ?_
  refine qp (.val none (.sl 3 (v1.map ePerson))) rfl (qp (AS v0) rfl ?_)
  obtain ⟨v1000, e1000, hF⟩ := bind_get hF
  refine qc (AI v1000) [] false (con_impl_personAt e1000) c68_ok (by first | rfl | simp) rfl ?_
  refine qp (AB (decide (v1000 < (0 : Int)))) rfl (qp (AB (decide (v1000 < (0 : Int)))) rfl ?_)
  refine r_nil ?_
  refine w_ret ?_
  cases hF
  exact endQ_r rfl (.inl ⟨_, _, by first | rfl | (simp [List.take_of_length_le]; first | exact ⟨rfl, rfl⟩ | rfl), by simp, by first | rfl | simp [res_impl_personsCode_1, List.take_of_length_le]⟩)

def c132 : MC := (.seq (.reg [⟨(some 4), none, (.p true (.mv (.c (.int .i64 0))))⟩]) (.seq (.seq (.reg [⟨(some 6), none, (.p true (.mv (.t 0)))⟩, ⟨(some 7), none, (.p true (.len (.t 6)))⟩, ⟨(some 8), none, (.p true (.mv (.c (.int .i64 0))))⟩]) (.block 0 (.loop (.seq (.reg [⟨(some 9), none, (.p true (.bin .lss (.t 8) (.t 7)))⟩]) (.seq (.cond (.t 9) .skip (.exit 0)) (.seq (.block 1 (.seq (.reg [⟨(some 10), none, (.p true (.mv (.t 8)))⟩, ⟨(some 5), none, (.p true (.mv (.t 10)))⟩]) (.seq (.reg [⟨(some 11), none, (.p true (.mv (.t 1)))⟩, ⟨(some 12), none, (.p true (.mv (.t 0)))⟩, ⟨(some 13), none, (.p true (.mv (.t 5)))⟩, ⟨(some 14), none, (.p true (.iad (.t 12) (.t 13) 1))⟩, ⟨(some 15), none, (.p true (.ld (.t 14) 1 false))⟩, ⟨(some 16), none, (.callv (.t 11) [(.t 15)])⟩]) (.cond (.t 16) (.seq (.reg [⟨(some 17), none, (.p true (.mv (.t 5)))⟩, ⟨(some 4), none, (.p true (.mv (.t 17)))⟩]) .ret) .skip)))) (.reg [⟨(some 18), none, (.p true (.bin .add (.t 8) (.c (.int .i64 1))))⟩, ⟨(some 8), none, (.p true (.mv (.t 18)))⟩]))))))) (.seq (.reg [⟨(some 4), none, (.p true (.mv (.c (.int .i64 (-1)))))⟩]) .ret)))
theorem c132_is : compFn Try.prog 132 = some (c132, [(.tmp 4)]) := by kernel_rfl
theorem c132_ok : okFn Try.prog 132 = true := by kernel_rfl

noncomputable def F_slices_IndexFunc_Sstring_string_l0 (v0 : List (List UInt8)) (v1 : List TPerson) (k0 : Int → Option (Int)) : Int → Option (Int)
  | v7 => (bif (decide (v7 < (v0.length : Int))) then ((ix v0 v7).bind fun v1000 => ((F_impl_personsCode_1 v1000 v1).bind fun v1001 => (bif v1001 then some v7
  else k0 (w64 (v7 + 1)))))
  else some (-1))
noncomputable def F_slices_IndexFunc_Sstring_string (v0 : List (List UInt8)) (v1 : List TPerson) : Option (Int) :=
  loop (F_slices_IndexFunc_Sstring_string_l0 v0 v1) 0
@[simp] def res_slices_IndexFunc_Sstring_string (r : Int) : RV := .one (.one (.val (.int .i64 r)))
theorem con_slices_IndexFunc_Sstring_string {v0 : List (List UInt8)} {v1 : List TPerson} {r : Int} (hF : F_slices_IndexFunc_Sstring_string v0 v1 = some r) : Con Try.prog 132 [.sl 1 (v0.map V.str), .fn 112 [.ptr [.sl 3 (v1.map ePerson)]]] (res_slices_IndexFunc_Sstring_string r) := by
  unfold F_slices_IndexFunc_Sstring_string at hF
  refine con_of c132_is fun N => ?_
  refine w_reg_seq 0 64 rfl rfl ?_
  refine qp (AI 0) rfl ?_
  refine r_nil ?_
  refine w_seq ?_
  refine w_reg_seq 64 256 rfl rfl ?_
  refine qp (.val none (.sl 1 (v0.map V.str))) rfl (qp (AI (v0.length : Int)) (ev_len_n rfl) (qp (AI 0) rfl ?_))
  refine r_nil ?_
  refine w_block ?_
  refine w_ren (l' := [(0, .val none (.sl 1 (v0.map V.str))), (1, .val none (.fn 112 [.ptr [.sl 3 (v1.map ePerson)]])), (7, AI (v0.length : Int)), (8, AI 0)]) (L := []) [0, 1, 7, 8] [] 1 (by first | rfl | simp) (by first | rfl | simp) (by decide) (by decide) (by decide) ?_
  refine w_loopF (F_slices_IndexFunc_Sstring_string_l0 v0 v1) (fun s : Int => mkS [(0, .val none (.sl 1 (v0.map V.str))), (1, .val none (.fn 112 [.ptr [.sl 3 (v1.map ePerson)]])), (7, AI (v0.length : Int)), (8, AI s)] (fo []) 1) hF ?_
  rintro k0 v7 hF
  rw [F_slices_IndexFunc_Sstring_string_l0] at hF
  try dsimp only
  refine w_reg_seq 1 65 rfl rfl ?_
  refine qp (AB (decide (v7 < (v0.length : Int)))) rfl ?_
  refine r_nil ?_
  refine w_seq ?_
  refine w_condF hF rfl (fun hF => ?_) (fun hF => ?_)
  ·
    refine w_skip ?_
    refine thenQ_n ?_
    refine w_seq ?_
    refine w_block ?_
    refine w_reg_seq 65 193 rfl rfl ?_
    refine qp (AI v7) rfl (qp (AI v7) rfl ?_)
    refine r_nil ?_
    refine w_reg_seq 193 577 rfl rfl ?_
    refine qp (.val none (.fn 112 [.ptr [.sl 3 (v1.map ePerson)]])) rfl (qp (.val none (.sl 1 (v0.map V.str))) rfl (qp (AI v7) rfl ?_))
    obtain ⟨v1000, e1000, hF⟩ := bind_get hF
    refine qp (.val none (.ptr [.str v1000])) (ev_iad_n rfl rfl e1000 rfl) (qp (AS v1000) rfl ?_)
    obtain ⟨v1001, e1001, hF⟩ := bind_get hF
    refine qcv (AB v1001) [] false rfl (con_impl_personsCode_1 e1001) c112_ok (by first | rfl | simp) rfl ?_
    refine r_nil ?_
    refine w_condF hF rfl (fun hF => ?_) (fun hF => ?_)
    ·
      refine w_reg_seq 577 705 rfl rfl ?_
      refine qp (AI v7) rfl (qp (AI v7) rfl ?_)
      refine r_nil ?_
      refine w_ret ?_
      refine blockQ_r ?_
      refine thenQ_r ?_
      refine thenQ_r ?_
      refine blockQ_r ?_
      refine thenQ_r ?_
      cases hF
      exact endQ_r rfl (.inl ⟨_, _, by first | rfl | (simp [List.take_of_length_le]; first | exact ⟨rfl, rfl⟩ | rfl), by simp, by first | rfl | simp [res_slices_IndexFunc_Sstring_string, List.take_of_length_le]⟩)
    ·
      refine w_skip ?_
      refine blockQ_n ?_
      refine thenQ_n ?_
      refine w_reg 577 705 rfl rfl ?_
      refine qp (AI (w64 (v7 + 1))) rfl (qp (AI (w64 (v7 + 1))) rfl ?_)
      refine r_nil ?_
      refine thenQ_n ?_
      refine aw_ren (l' := [(0, .val none (.sl 1 (v0.map V.str))), (1, .val none (.fn 112 [.ptr [.sl 3 (v1.map ePerson)]])), (7, AI (v0.length : Int)), (8, AI (w64 (v7 + 1)))]) (L := []) [0, 1, 7, 8] [] 1 (by first | rfl | simp) (by first | rfl | simp) (by decide) (by decide) (by decide) ⟨_, by rfl, hF⟩
  ·
    refine w_exit ?_
    refine thenQ_e ?_
    refine thenQ_e ?_
    refine blockQ_e ?_
    refine thenQ_n ?_
    refine w_reg_seq 65 129 rfl rfl ?_
    refine qp (AI (-1)) rfl ?_
    refine r_nil ?_
    refine w_ret ?_
    cases hF
    exact endQ_r rfl (.inl ⟨_, _, by first | rfl | (simp [List.take_of_length_le]; first | exact ⟨rfl, rfl⟩ | rfl), by simp, by first | rfl | simp [res_slices_IndexFunc_Sstring_string, List.take_of_length_le]⟩)

def c111 : MC := (.seq (.reg [⟨(some 4), none, (.p true (.mv (.c (.bool false))))⟩]) (.seq (.reg [⟨(some 5), none, (.p true (.mv (.t 0)))⟩, ⟨(some 6), none, (.p true (.mv (.t 1)))⟩, ⟨(some 7), none, (.call true 132 [(.t 5), (.t 6)])⟩, ⟨(some 8), none, (.p true (.bin .geq (.t 7) (.c (.int .i64 0))))⟩, ⟨(some 4), none, (.p true (.mv (.t 8)))⟩]) .ret))
theorem c111_is : compFn Try.prog 111 = some (c111, [(.tmp 4)]) := by kernel_rfl
theorem c111_ok : okFn Try.prog 111 = true := by kernel_rfl

noncomputable def F_slices_ContainsFunc_Sstring_string (v0 : List (List UInt8)) (v1 : List TPerson) : Option (Bool) :=
  ((F_slices_IndexFunc_Sstring_string v0 v1).bind fun v1000 => some (decide ((0 : Int) ≤ v1000)))
@[simp] def res_slices_ContainsFunc_Sstring_string (r : Bool) : RV := .one (.one (.val (.bool r)))
theorem con_slices_ContainsFunc_Sstring_string {v0 : List (List UInt8)} {v1 : List TPerson} {r : Bool} (hF : F_slices_ContainsFunc_Sstring_string v0 v1 = some r) : Con Try.prog 111 [.sl 1 (v0.map V.str), .fn 112 [.ptr [.sl 3 (v1.map ePerson)]]] (res_slices_ContainsFunc_Sstring_string r) := by
  unfold F_slices_ContainsFunc_Sstring_string at hF
  refine con_of c111_is fun N => ?_
  refine w_reg_seq 0 64 rfl rfl ?_
  refine qp (AB false) rfl ?_
  refine r_nil ?_
  refine w_reg_seq 64 384 rfl rfl ?_
  refine qp (.val none (.sl 1 (v0.map V.str))) rfl (qp (.val none (.fn 112 [.ptr [.sl 3 (v1.map ePerson)]])) rfl ?_)
  obtain ⟨v1000, e1000, hF⟩ := bind_get hF
  refine qc (AI v1000) [] false (con_slices_IndexFunc_Sstring_string e1000) c132_ok (by first | rfl | simp) rfl ?_
  refine qp (AB (decide ((0 : Int) ≤ v1000))) rfl (qp (AB (decide ((0 : Int) ≤ v1000))) rfl ?_)
  refine r_nil ?_
  refine w_ret ?_
  cases hF
  exact endQ_r rfl (.inl ⟨_, _, by first | rfl | (simp [List.take_of_length_le]; first | exact ⟨rfl, rfl⟩ | rfl), by simp, by first | rfl | simp [res_slices_ContainsFunc_Sstring_string, List.take_of_length_le]⟩)

def c65 : MC := (.seq (.reg [⟨(some 2), none, (.f (.box (.t 0)))⟩, ⟨(some 4), none, (.p true (.mv (.c (.int .i64 0))))⟩]) (.seq (.block 0 (.seq (.reg [⟨(some 6), none, (.p true (.ld (.t 2) 1 false))⟩, ⟨(some 7), none, (.call true 83 [(.t 6)])⟩, ⟨(some 8), none, (.p true (.not (.t 7)))⟩, ⟨(some 5), none, (.p true (.mv (.t 8)))⟩]) (.cond (.t 5) (.seq (.reg [⟨(some 4), none, (.p true (.mv (.c (.int .i64 1))))⟩]) .ret) (.seq (.reg [⟨(some 10), none, (.p true (.mv (.t 1)))⟩, ⟨(some 11), none, (.p true (.mkf 112 [(.t 2)]))⟩, ⟨(some 12), none, (.call true 111 [(.t 10), (.t 11)])⟩, ⟨(some 9), none, (.p true (.mv (.t 12)))⟩]) (.cond (.t 9) (.seq (.reg [⟨(some 4), none, (.p true (.mv (.c (.int .i64 3))))⟩]) .ret) .skip))))) (.seq (.reg [⟨(some 4), none, (.p true (.mv (.c (.int .i64 0))))⟩]) .ret)))
theorem c65_is : compFn Try.prog 65 = some (c65, [(.tmp 4)]) := by kernel_rfl
theorem c65_ok : okFn Try.prog 65 = true := by kernel_rfl

noncomputable def F_impl_personsCode (v0 : List TPerson) (v1 : List (List UInt8)) : Option (Int) :=
  ((F_impl_ValidPersons v0).bind fun v1000 => (bif (!v1000) then some 1
  else ((F_slices_ContainsFunc_Sstring_string v1 v0).bind fun v1001 => (bif v1001 then some 3
  else some 0))))
@[simp] def res_impl_personsCode (r : Int) : RV := .one (.one (.val (.int .i64 r)))
theorem con_impl_personsCode {v0 : List TPerson} {v1 : List (List UInt8)} {r : Int} (hF : F_impl_personsCode v0 v1 = some r) : Con Try.prog 65 [.sl 3 (v0.map ePerson), .sl 1 (v1.map V.str)] (res_impl_personsCode r) := by
  unfold F_impl_personsCode at hF
  refine con_of c65_is fun N => ?_
  refine w_reg_seq 0 128 rfl rfl ?_
  refine qf (.ptr 0 0 0) [(0, .box [.val none (.sl 3 (v0.map ePerson))])] (by simp) ?_
  refine qp (AI 0) rfl ?_
  refine r_nil ?_
  refine w_seq ?_
  refine w_block ?_
  refine w_reg_seq 128 384 rfl rfl ?_
  refine qp (.val none (.sl 3 (v0.map ePerson))) rfl ?_
  obtain ⟨v1000, e1000, hF⟩ := bind_get hF
  refine qc (AB v1000) [(0, .box [.val none (.sl 3 (v0.map ePerson))])] false (con_impl_ValidPersons e1000) c83_ok (by first | rfl | simp) rfl ?_
  refine qp (AB (!v1000)) rfl (qp (AB (!v1000)) rfl ?_)
  refine r_nil ?_
  refine w_condF hF rfl (fun hF => ?_) (fun hF => ?_)
  ·
    refine w_reg_seq 384 448 rfl rfl ?_
    refine qp (AI 1) rfl ?_
    refine r_nil ?_
    refine w_ret ?_
    refine blockQ_r ?_
    refine thenQ_r ?_
    cases hF
    exact endQ_r rfl (.inl ⟨_, _, by first | rfl | (simp [List.take_of_length_le]; first | exact ⟨rfl, rfl⟩ | rfl), by simp, by first | rfl | simp [res_impl_personsCode, List.take_of_length_le]⟩)
  ·
    refine w_reg_seq 384 640 rfl rfl ?_
    refine qp (.val none (.sl 1 (v1.map V.str))) rfl (qp (.fn 112 [.ptr 0 0 0]) rfl ?_)
    obtain ⟨v1001, e1001, hF⟩ := bind_get hF
    refine qc (AB v1001) [(0, .box [.val none (.sl 3 (v0.map ePerson))])] true (con_slices_ContainsFunc_Sstring_string e1001) c111_ok (by simp [List.take_of_length_le]) rfl ?_
    refine qp (AB v1001) rfl ?_
    refine r_nil ?_
    refine w_condF hF rfl (fun hF => ?_) (fun hF => ?_)
    ·
      refine w_reg_seq 640 704 rfl rfl ?_
      refine qp (AI 3) rfl ?_
      refine r_nil ?_
      refine w_ret ?_
      refine blockQ_r ?_
      refine thenQ_r ?_
      cases hF
      exact endQ_r rfl (.inl ⟨_, _, by first | rfl | (simp [List.take_of_length_le]; first | exact ⟨rfl, rfl⟩ | rfl), by simp, by first | rfl | simp [res_impl_personsCode, List.take_of_length_le]⟩)
    ·
      refine w_skip ?_
      refine blockQ_n ?_
      refine thenQ_n ?_
      refine w_reg_seq 640 704 rfl rfl ?_
      refine qp (AI 0) rfl ?_
      refine r_nil ?_
      refine w_ret ?_
      cases hF
      exact endQ_r rfl (.inl ⟨_, _, by first | rfl | (simp [List.take_of_length_le]; first | exact ⟨rfl, rfl⟩ | rfl), by simp, by first | rfl | simp [res_impl_personsCode, List.take_of_length_le]⟩)

def c113 : MC := (.seq (.reg [⟨(some 4), none, (.p true (.mv (.c (.int .i64 0))))⟩]) (.seq (.seq (.reg [⟨(some 6), none, (.p true (.mv (.t 0)))⟩, ⟨(some 7), none, (.p true (.len (.t 6)))⟩, ⟨(some 8), none, (.p true (.mv (.c (.int .i64 0))))⟩]) (.block 0 (.loop (.seq (.reg [⟨(some 9), none, (.p true (.bin .lss (.t 8) (.t 7)))⟩]) (.seq (.cond (.t 9) .skip (.exit 0)) (.seq (.block 1 (.seq (.reg [⟨(some 10), none, (.p true (.mv (.t 8)))⟩, ⟨(some 5), none, (.p true (.mv (.t 10)))⟩]) (.seq (.reg [⟨(some 11), none, (.p true (.mv (.t 1)))⟩, ⟨(some 12), none, (.p true (.mv (.t 0)))⟩, ⟨(some 13), none, (.p true (.mv (.t 5)))⟩, ⟨(some 14), none, (.p true (.iad (.t 12) (.t 13) 1))⟩, ⟨(some 15), none, (.p true (.ld (.t 14) 1 false))⟩, ⟨(some 16), none, (.p true (.bin .eql (.t 11) (.t 15)))⟩]) (.cond (.t 16) (.seq (.reg [⟨(some 17), none, (.p true (.mv (.t 5)))⟩, ⟨(some 4), none, (.p true (.mv (.t 17)))⟩]) .ret) .skip)))) (.reg [⟨(some 18), none, (.p true (.bin .add (.t 8) (.c (.int .i64 1))))⟩, ⟨(some 8), none, (.p true (.mv (.t 18)))⟩]))))))) (.seq (.reg [⟨(some 4), none, (.p true (.mv (.c (.int .i64 (-1)))))⟩]) .ret)))
theorem c113_is : compFn Try.prog 113 = some (c113, [(.tmp 4)]) := by kernel_rfl
theorem c113_ok : okFn Try.prog 113 = true := by kernel_rfl

noncomputable def F_slices_Index_Sstring_string_l0 (v0 : List (List UInt8)) (v1 : List UInt8) (k0 : Int → Option (Int)) : Int → Option (Int)
  | v5 => (bif (decide (v5 < (v0.length : Int))) then ((ix v0 v5).bind fun v1000 => (bif (decide (v1 = v1000)) then some v5
  else k0 (w64 (v5 + 1))))
  else some (-1))
noncomputable def F_slices_Index_Sstring_string (v0 : List (List UInt8)) (v1 : List UInt8) : Option (Int) :=
  loop (F_slices_Index_Sstring_string_l0 v0 v1) 0
@[simp] def res_slices_Index_Sstring_string (r : Int) : RV := .one (.one (.val (.int .i64 r)))
theorem con_slices_Index_Sstring_string {v0 : List (List UInt8)} {v1 : List UInt8} {r : Int} (hF : F_slices_Index_Sstring_string v0 v1 = some r) : Con Try.prog 113 [.sl 1 (v0.map V.str), .str v1] (res_slices_Index_Sstring_string r) := by
  unfold F_slices_Index_Sstring_string at hF
  refine con_of c113_is fun N => ?_
  refine w_reg_seq 0 64 rfl rfl ?_
  refine qp (AI 0) rfl ?_
  refine r_nil ?_
  refine w_seq ?_
  refine w_reg_seq 64 256 rfl rfl ?_
  refine qp (.val none (.sl 1 (v0.map V.str))) rfl (qp (AI (v0.length : Int)) (ev_len_n rfl) (qp (AI 0) rfl ?_))
  refine r_nil ?_
  refine w_block ?_
  refine w_ren (l' := [(0, .val none (.sl 1 (v0.map V.str))), (1, AS v1), (7, AI (v0.length : Int)), (8, AI 0)]) (L := []) [0, 1, 7, 8] [] 1 (by first | rfl | simp) (by first | rfl | simp) (by decide) (by decide) (by decide) ?_
  refine w_loopF (F_slices_Index_Sstring_string_l0 v0 v1) (fun s : Int => mkS [(0, .val none (.sl 1 (v0.map V.str))), (1, AS v1), (7, AI (v0.length : Int)), (8, AI s)] (fo []) 1) hF ?_
  rintro k0 v5 hF
  rw [F_slices_Index_Sstring_string_l0] at hF
  try dsimp only
  refine w_reg_seq 1 65 rfl rfl ?_
  refine qp (AB (decide (v5 < (v0.length : Int)))) rfl ?_
  refine r_nil ?_
  refine w_seq ?_
  refine w_condF hF rfl (fun hF => ?_) (fun hF => ?_)
  ·
    refine w_skip ?_
    refine thenQ_n ?_
    refine w_seq ?_
    refine w_block ?_
    refine w_reg_seq 65 193 rfl rfl ?_
    refine qp (AI v5) rfl (qp (AI v5) rfl ?_)
    refine r_nil ?_
    refine w_reg_seq 193 577 rfl rfl ?_
    refine qp (AS v1) rfl (qp (.val none (.sl 1 (v0.map V.str))) rfl (qp (AI v5) rfl ?_))
    obtain ⟨v1000, e1000, hF⟩ := bind_get hF
    refine qp (.val none (.ptr [.str v1000])) (ev_iad_n rfl rfl e1000 rfl) (qp (AS v1000) rfl (qp (AB (decide (v1 = v1000))) rfl ?_))
    refine r_nil ?_
    refine w_condF hF rfl (fun hF => ?_) (fun hF => ?_)
    ·
      refine w_reg_seq 577 705 rfl rfl ?_
      refine qp (AI v5) rfl (qp (AI v5) rfl ?_)
      refine r_nil ?_
      refine w_ret ?_
      refine blockQ_r ?_
      refine thenQ_r ?_
      refine thenQ_r ?_
      refine blockQ_r ?_
      refine thenQ_r ?_
      cases hF
      exact endQ_r rfl (.inl ⟨_, _, by first | rfl | (simp [List.take_of_length_le]; first | exact ⟨rfl, rfl⟩ | rfl), by simp, by first | rfl | simp [res_slices_Index_Sstring_string, List.take_of_length_le]⟩)
    ·
      refine w_skip ?_
      refine blockQ_n ?_
      refine thenQ_n ?_
      refine w_reg 577 705 rfl rfl ?_
      refine qp (AI (w64 (v5 + 1))) rfl (qp (AI (w64 (v5 + 1))) rfl ?_)
      refine r_nil ?_
      refine thenQ_n ?_
      refine aw_ren (l' := [(0, .val none (.sl 1 (v0.map V.str))), (1, AS v1), (7, AI (v0.length : Int)), (8, AI (w64 (v5 + 1)))]) (L := []) [0, 1, 7, 8] [] 1 (by first | rfl | simp) (by first | rfl | simp) (by decide) (by decide) (by decide) ⟨_, by rfl, hF⟩
  ·
    refine w_exit ?_
    refine thenQ_e ?_
    refine thenQ_e ?_
    refine blockQ_e ?_
    refine thenQ_n ?_
    refine w_reg_seq 65 129 rfl rfl ?_
    refine qp (AI (-1)) rfl ?_
    refine r_nil ?_
    refine w_ret ?_
    cases hF
    exact endQ_r rfl (.inl ⟨_, _, by first | rfl | (simp [List.take_of_length_le]; first | exact ⟨rfl, rfl⟩ | rfl), by simp, by first | rfl | simp [res_slices_Index_Sstring_string, List.take_of_length_le]⟩)

def c67 : MC := (.seq (.reg [⟨(some 4), none, (.p true (.mv (.c (.bool false))))⟩]) (.seq (.reg [⟨(some 5), none, (.p true (.mv (.t 0)))⟩, ⟨(some 6), none, (.p true (.mv (.t 1)))⟩, ⟨(some 7), none, (.call true 113 [(.t 5), (.t 6)])⟩, ⟨(some 8), none, (.p true (.bin .geq (.t 7) (.c (.int .i64 0))))⟩, ⟨(some 4), none, (.p true (.mv (.t 8)))⟩]) .ret))
theorem c67_is : compFn Try.prog 67 = some (c67, [(.tmp 4)]) := by kernel_rfl
theorem c67_ok : okFn Try.prog 67 = true := by kernel_rfl

noncomputable def F_slices_Contains_Sstring_string (v0 : List (List UInt8)) (v1 : List UInt8) : Option (Bool) :=
  ((F_slices_Index_Sstring_string v0 v1).bind fun v1000 => some (decide ((0 : Int) ≤ v1000)))
@[simp] def res_slices_Contains_Sstring_string (r : Bool) : RV := .one (.one (.val (.bool r)))
theorem con_slices_Contains_Sstring_string {v0 : List (List UInt8)} {v1 : List UInt8} {r : Bool} (hF : F_slices_Contains_Sstring_string v0 v1 = some r) : Con Try.prog 67 [.sl 1 (v0.map V.str), .str v1] (res_slices_Contains_Sstring_string r) := by
  unfold F_slices_Contains_Sstring_string at hF
  refine con_of c67_is fun N => ?_
  refine w_reg_seq 0 64 rfl rfl ?_
  refine qp (AB false) rfl ?_
  refine r_nil ?_
  refine w_reg_seq 64 384 rfl rfl ?_
  refine qp (.val none (.sl 1 (v0.map V.str))) rfl (qp (AS v1) rfl ?_)
  obtain ⟨v1000, e1000, hF⟩ := bind_get hF
  refine qc (AI v1000) [] false (con_slices_Index_Sstring_string e1000) c113_ok (by first | rfl | simp) rfl ?_
  refine qp (AB (decide ((0 : Int) ≤ v1000))) rfl (qp (AB (decide ((0 : Int) ≤ v1000))) rfl ?_)
  refine r_nil ?_
  refine w_ret ?_
  cases hF
  exact endQ_r rfl (.inl ⟨_, _, by first | rfl | (simp [List.take_of_length_le]; first | exact ⟨rfl, rfl⟩ | rfl), by simp, by first | rfl | simp [res_slices_Contains_Sstring_string, List.take_of_length_le]⟩)

theorem c131_ok : okFn Try.prog 131 = true := by kernel_rfl




def c96 : MC := (.seq (.reg [⟨(some 4), none, (.f (.nilrow 1))⟩]) (.seq (.reg [⟨(some 5), none, (.f (.nilrow 1))⟩]) (.seq (.seq (.reg [⟨(some 9), none, (.p true (.mv (.t 1)))⟩, ⟨(some 10), none, (.f (.bsl 1 [(.t 9)]))⟩, ⟨(some 6), none, (.p true (.mv (.t 10)))⟩]) (.block 0 (.loop (.seq (.seq (.reg [⟨(some 11), none, (.p true (.mv (.t 6)))⟩, ⟨(some 12), none, (.p true (.len (.t 11)))⟩, ⟨(some 13), none, (.p true (.bin .gtr (.t 12) (.c (.int .i64 0))))⟩]) (.cond (.t 13) .skip (.exit 0))) (.seq (.block 1 (.seq (.reg [⟨(some 16), none, (.p true (.mv (.t 0)))⟩, ⟨(some 17), none, (.p true (.mv (.t 0)))⟩, ⟨(some 18), none, (.p true (.mv (.t 6)))⟩, ⟨(some 19), none, (.p true (.iad (.t 18) (.c (.int .i64 0)) 1))⟩, ⟨(some 20), none, (.p true (.ld (.t 19) 1 false))⟩, ⟨(some 21), none, (.call true 68 [(.t 17), (.t 20)])⟩, ⟨(some 22), none, (.p true (.iad (.t 16) (.t 21) 3))⟩, ⟨(some 23), none, (.p true (.fad (.t 22) 2))⟩, ⟨(some 24), none, (.p true (.ld (.t 23) 1 false))⟩, ⟨(some 25), none, (.p true (.len (.t 24)))⟩, ⟨(some 26), none, (.p true (.mv (.c (.int .i64 0))))⟩]) (.block 2 (.loop (.seq (.reg [⟨(some 27), none, (.p true (.bin .lss (.t 26) (.t 25)))⟩]) (.seq (.cond (.t 27) .skip (.exit 2)) (.seq (.block 3 (.seq (.reg [⟨(some 28), none, (.p true (.iad (.t 24) (.t 26) 1))⟩, ⟨(some 29), none, (.p true (.ld (.t 28) 1 false))⟩, ⟨(some 8), none, (.p true (.mv (.t 29)))⟩]) (.seq (.reg [⟨(some 30), none, (.p true (.mv (.t 5)))⟩, ⟨(some 31), none, (.p true (.mv (.t 8)))⟩, ⟨(some 32), none, (.call true 67 [(.t 30), (.t 31)])⟩, ⟨(some 33), none, (.p true (.not (.t 32)))⟩]) (.cond (.t 33) (.seq (.reg [⟨(some 34), none, (.p true (.mv (.t 5)))⟩, ⟨(some 35), none, (.p true (.mv (.t 8)))⟩, ⟨(some 36), none, (.f (.bsl 1 [(.t 35)]))⟩, ⟨(some 37), none, (.f (.app (.t 34) (.t 36) 1 16 true))⟩, ⟨(some 5), none, (.p true (.mv (.t 37)))⟩]) (.reg [⟨(some 38), none, (.p true (.mv (.t 6)))⟩, ⟨(some 39), none, (.p true (.mv (.t 8)))⟩, ⟨(some 40), none, (.f (.bsl 1 [(.t 39)]))⟩, ⟨(some 41), none, (.f (.app (.t 38) (.t 40) 1 16 true))⟩, ⟨(some 6), none, (.p true (.mv (.t 41)))⟩])) .skip)))) (.reg [⟨(some 42), none, (.p true (.bin .add (.t 26) (.c (.int .i64 1))))⟩, ⟨(some 26), none, (.p true (.mv (.t 42)))⟩])))))))) (.reg [⟨(some 14), none, (.p true (.mv (.t 6)))⟩, ⟨(some 15), none, (.p true (.slc (.t 14) (some (.c (.int .i64 1))) none 1))⟩, ⟨(some 6), none, (.p true (.mv (.t 15)))⟩])))))) (.seq (.reg [⟨(some 43), none, (.p true (.mv (.t 5)))⟩, ⟨(some 44), none, (.call true 131 [(.t 43)])⟩]) (.seq (.reg [⟨(some 45), none, (.p true (.mv (.t 5)))⟩, ⟨(some 4), none, (.p true (.mv (.t 45)))⟩]) .ret)))))
theorem c96_is : compFn Try.prog 96 = some (c96, [(.tmp 4)]) := by kernel_rfl
theorem c96_ok : okFn Try.prog 96 = true := by kernel_rfl

noncomputable def F_impl_teachersOf_l1 (v1002 : TPerson) (k2 : (List (List UInt8)) × (List (List UInt8)) → Option (List (List UInt8))) (k4 : Int × (List (List UInt8)) × (List (List UInt8)) → Option (List (List UInt8))) : Int × (List (List UInt8)) × (List (List UInt8)) → Option (List (List UInt8))
  | (v1014, v1015, v1016) => (bif (decide (v1014 < (v1002.2.2.length : Int))) then ((ix v1002.2.2 v1014).bind fun v1017 => ((F_slices_Contains_Sstring_string v1015 v1017).bind fun v1018 => (bif (!v1018) then (need (room (v1015.length + [v1017].length) 16) ((need (room (v1016.length + [v1017].length) 16) (k4 (w64 (v1014 + 1), v1015 ++ [v1017], v1016 ++ [v1017])))))
  else k4 (w64 (v1014 + 1), v1015, v1016))))
  else (need (0 ≤ (1 : Int) ∧ (1 : Int) ≤ (v1016.length : Int) ∧ (v1016.length : Int) ≤ (v1016.length : Int)) (k2 (v1015, sub v1016 (1 : Int) (v1016.length : Int)))))
noncomputable def F_impl_teachersOf_l0 (v0 : List TPerson) (k2 : (List (List UInt8)) × (List (List UInt8)) → Option (List (List UInt8))) : (List (List UInt8)) × (List (List UInt8)) → Option (List (List UInt8))
  | (v50, v51) => (bif (decide ((0 : Int) < (v51.length : Int))) then ((ix v51 0).bind fun v1000 => ((F_impl_personAt v0 v1000).bind fun v1001 => ((ix v0 v1001).bind fun v1002 => loop (F_impl_teachersOf_l1 v1002 k2) (0, v50, v51))))
  else ((F_sortS v50).bind fun v1023 => need (v1023.length = v50.length) (some v1023)))
noncomputable def F_impl_teachersOf (v0 : List TPerson) (v1 : List UInt8) : Option (List (List UInt8)) :=
  loop (F_impl_teachersOf_l0 v0) ([], [v1])
@[simp] def res_impl_teachersOf (r : List (List UInt8)) : RV := .one (.one (.row true 1 (r.map V.str)))
theorem con_impl_teachersOf {v0 : List TPerson} {v1 : List UInt8} {r : List (List UInt8)} (hF : F_impl_teachersOf v0 v1 = some r) : Con Try.prog 96 [.sl 3 (v0.map ePerson), .str v1] (res_impl_teachersOf r) := by
  unfold F_impl_teachersOf at hF
  refine con_of c96_is fun N => ?_
  refine w_reg_seq 0 64 rfl rfl ?_
  refine qf (.sl 0 0 0) [(0, .row true 1 (([] : List Int).map (V.int .i64)))] (by simp) ?_
  refine r_nil ?_
  refine w_reg_seq 64 128 rfl rfl ?_
  refine qf (.sl 64 0 0) [(64, .row true 1 (([] : List (List UInt8)).map V.str)), (0, .row true 1 (([] : List Int).map (V.int .i64)))] (by simp) ?_
  refine r_nil ?_
  refine w_seq ?_
  refine w_reg_seq 128 320 rfl rfl ?_
  refine qp (AS v1) rfl ?_
  refine qf (.sl 192 0 ([v1].length)) [(192, .row true 1 ([v1].map V.str)), (64, .row true 1 (([] : List (List UInt8)).map V.str)), (0, .row true 1 (([] : List Int).map (V.int .i64)))] (by simp [List.take_of_length_le]) ?_
  refine qp (.sl 192 0 ([v1].length)) rfl ?_
  refine r_nil ?_
  refine w_block ?_
  refine w_ren (l' := [(0, .val none (.sl 3 (v0.map ePerson))), (5, .sl 0 0 0), (6, .sl 1 0 [v1].length)]) (L := [(1, .row true 1 ([v1].map V.str)), (0, .row true 1 (([] : List (List UInt8)).map V.str))]) [0, 5, 6] [(192, 1), (64, 0)] 2 (by first | rfl | simp) (by first | rfl | simp) (by decide) (by decide) (by decide) ?_
  refine w_loopF (F_impl_teachersOf_l0 v0) (fun s : (List (List UInt8)) × (List (List UInt8)) => mkS [(0, .val none (.sl 3 (v0.map ePerson))), (5, .sl 0 0 s.1.length), (6, .sl 1 0 s.2.length)] (fo [(1, .row true 1 (s.2.map V.str)), (0, .row true 1 (s.1.map V.str))]) 2) hF ?_
  rintro k2 ⟨v50, v51⟩ hF
  rw [F_impl_teachersOf_l0] at hF
  try dsimp only
  refine w_seq ?_
  refine w_reg_seq 2 194 rfl rfl ?_
  refine qp (.sl 1 0 v51.length) rfl (qp (AI (v51.length : Int)) rfl (qp (AB (decide ((0 : Int) < (v51.length : Int)))) rfl ?_))
  refine r_nil ?_
  refine w_condF hF rfl (fun hF => ?_) (fun hF => ?_)
  ·
    refine w_skip ?_
    refine thenQ_n ?_
    refine w_seq ?_
    refine w_block ?_
    refine w_reg_seq 194 898 rfl rfl ?_
    refine qp (.val none (.sl 3 (v0.map ePerson))) rfl (qp (.val none (.sl 3 (v0.map ePerson))) rfl (qp (.sl 1 0 v51.length) rfl ?_))
    obtain ⟨v1000, e1000, hF⟩ := bind_get hF
    refine qp (.ptr 1 ((0 : Int).toNat) 0) (ev_iad_r rfl (by simp) rfl rfl e1000) (qp (AS v1000) (ev_ld_r rfl rfl (ix_some e1000).2 rfl rfl) ?_)
    obtain ⟨v1001, e1001, hF⟩ := bind_get hF
    refine qc (AI v1001) [(1, .row true 1 (v51.map V.str)), (0, .row true 1 (v50.map V.str))] false (con_impl_personAt e1001) c68_ok (by first | rfl | simp) rfl ?_
    obtain ⟨v1002, e1002, hF⟩ := bind_get hF
    refine qp (.val none (.ptr [.str v1002.1, .int .i64 v1002.2.1, .sl 1 (v1002.2.2.map V.str)])) (ev_iad_n rfl rfl e1002 rfl) (qp (.val none (.ptr [.sl 1 (v1002.2.2.map V.str)])) rfl (qp (.val none (.sl 1 (v1002.2.2.map V.str))) rfl (qp (AI (v1002.2.2.length : Int)) (ev_len_n rfl) (qp (AI 0) rfl ?_))))
    refine r_nil ?_
    refine w_block ?_
    refine w_ren (l' := [(0, .val none (.sl 3 (v0.map ePerson))), (5, .sl 0 0 v50.length), (6, .sl 1 0 v51.length), (24, .val none (.sl 1 (v1002.2.2.map V.str))), (25, AI (v1002.2.2.length : Int)), (26, AI 0)]) (L := [(1, .row true 1 (v51.map V.str)), (0, .row true 1 (v50.map V.str))]) [0, 5, 6, 24, 25, 26] [(1, 1), (0, 0)] 2 (by first | rfl | simp) (by first | rfl | simp) (by decide) (by decide) (by decide) ?_
    refine w_loopF (F_impl_teachersOf_l1 v1002 k2) (fun s : Int × (List (List UInt8)) × (List (List UInt8)) => mkS [(0, .val none (.sl 3 (v0.map ePerson))), (5, .sl 0 0 s.2.1.length), (6, .sl 1 0 s.2.2.length), (24, .val none (.sl 1 (v1002.2.2.map V.str))), (25, AI (v1002.2.2.length : Int)), (26, AI s.1)] (fo [(1, .row true 1 (s.2.2.map V.str)), (0, .row true 1 (s.2.1.map V.str))]) 2) hF ?_
    rintro k4 ⟨v1014, v1015, v1016⟩ hF
    rw [F_impl_teachersOf_l1] at hF
    try dsimp only
    refine w_reg_seq 2 66 rfl rfl ?_
    refine qp (AB (decide (v1014 < (v1002.2.2.length : Int)))) rfl ?_
    refine r_nil ?_
    refine w_seq ?_
    refine w_condF hF rfl (fun hF => ?_) (fun hF => ?_)
    ·
      refine w_skip ?_
      refine thenQ_n ?_
      refine w_seq ?_
      refine w_block ?_
      refine w_reg_seq 66 258 rfl rfl ?_
      obtain ⟨v1017, e1017, hF⟩ := bind_get hF
      refine qp (.val none (.ptr [.str v1017])) (ev_iad_n rfl rfl e1017 rfl) (qp (AS v1017) rfl (qp (AS v1017) rfl ?_))
      refine r_nil ?_
      refine w_reg_seq 258 514 rfl rfl ?_
      refine qp (.sl 0 0 v1015.length) rfl (qp (AS v1017) rfl ?_)
      obtain ⟨v1018, e1018, hF⟩ := bind_get hF
      refine qc (AB v1018) [(1, .row true 1 (v1016.map V.str)), (0, .row true 1 (v1015.map V.str))] true (con_slices_Contains_Sstring_string e1018) c67_ok (by simp [List.take_of_length_le]) rfl ?_
      refine qp (AB (!v1018)) rfl ?_
      refine r_nil ?_
      refine w_condF hF rfl (fun hF => ?_) (fun hF => ?_)
      ·
        refine w_reg_seq 514 834 rfl rfl ?_
        refine qp (.sl 0 0 v1015.length) rfl (qp (AS v1017) rfl ?_)
        refine qf (.sl 642 0 ([v1017].length)) [(642, .row true 1 ([v1017].map V.str)), (1, .row true 1 (v1016.map V.str)), (0, .row true 1 (v1015.map V.str))] (by simp [List.take_of_length_le]) ?_
        obtain ⟨g1019, hF⟩ := need_some hF
        refine qf (.sl 706 0 ((v1015 ++ [v1017]).length)) [(706, .row true 1 ((v1015 ++ [v1017]).map V.str)), (0, .dead), (642, .dead), (642, .row true 1 ([v1017].map V.str)), (1, .row true 1 (v1016.map V.str)), (0, .row true 1 (v1015.map V.str))] (effT_app_l rfl (by simp) rfl rfl (by simp) rfl (by decide) g1019 rfl) ?_
        refine qp (.sl 706 0 ((v1015 ++ [v1017]).length)) rfl ?_
        refine r_nil ?_
        refine w_reg 834 1154 rfl rfl ?_
        refine qp (.sl 1 0 v1016.length) rfl (qp (AS v1017) rfl ?_)
        refine qf (.sl 962 0 ([v1017].length)) [(962, .row true 1 ([v1017].map V.str)), (706, .row true 1 ((v1015 ++ [v1017]).map V.str)), (0, .dead), (642, .dead), (642, .row true 1 ([v1017].map V.str)), (1, .row true 1 (v1016.map V.str)), (0, .row true 1 (v1015.map V.str))] (by simp [List.take_of_length_le]) ?_
        obtain ⟨g1020, hF⟩ := need_some hF
        refine qf (.sl 1026 0 ((v1016 ++ [v1017]).length)) [(1026, .row true 1 ((v1016 ++ [v1017]).map V.str)), (1, .dead), (962, .dead), (962, .row true 1 ([v1017].map V.str)), (706, .row true 1 ((v1015 ++ [v1017]).map V.str)), (0, .dead), (642, .dead), (642, .row true 1 ([v1017].map V.str)), (1, .row true 1 (v1016.map V.str)), (0, .row true 1 (v1015.map V.str))] (effT_app_l rfl (by simp) rfl rfl (by simp) rfl (by decide) g1020 rfl) ?_
        refine qp (.sl 1026 0 ((v1016 ++ [v1017]).length)) rfl ?_
        refine r_nil ?_
        refine blockQ_n ?_
        refine thenQ_n ?_
        refine w_reg 1154 1282 rfl rfl ?_
        refine qp (AI (w64 (v1014 + 1))) rfl (qp (AI (w64 (v1014 + 1))) rfl ?_)
        refine r_nil ?_
        refine thenQ_n ?_
        refine aw_ren (l' := [(0, .val none (.sl 3 (v0.map ePerson))), (5, .sl 0 0 (v1015 ++ [v1017]).length), (6, .sl 1 0 (v1016 ++ [v1017]).length), (24, .val none (.sl 1 (v1002.2.2.map V.str))), (25, AI (v1002.2.2.length : Int)), (26, AI (w64 (v1014 + 1)))]) (L := [(1, .row true 1 ((v1016 ++ [v1017]).map V.str)), (0, .row true 1 ((v1015 ++ [v1017]).map V.str))]) [0, 5, 6, 24, 25, 26] [(1026, 1), (706, 0)] 2 (by first | rfl | simp) (by first | rfl | simp) (by decide) (by decide) (by decide) ⟨_, by rfl, hF⟩
      ·
        refine w_skip ?_
        refine blockQ_n ?_
        refine thenQ_n ?_
        refine w_reg 514 642 rfl rfl ?_
        refine qp (AI (w64 (v1014 + 1))) rfl (qp (AI (w64 (v1014 + 1))) rfl ?_)
        refine r_nil ?_
        refine thenQ_n ?_
        refine aw_ren (l' := [(0, .val none (.sl 3 (v0.map ePerson))), (5, .sl 0 0 v1015.length), (6, .sl 1 0 v1016.length), (24, .val none (.sl 1 (v1002.2.2.map V.str))), (25, AI (v1002.2.2.length : Int)), (26, AI (w64 (v1014 + 1)))]) (L := [(1, .row true 1 (v1016.map V.str)), (0, .row true 1 (v1015.map V.str))]) [0, 5, 6, 24, 25, 26] [(1, 1), (0, 0)] 2 (by first | rfl | simp) (by first | rfl | simp) (by decide) (by decide) (by decide) ⟨_, by rfl, hF⟩
    ·
      refine w_exit ?_
      refine thenQ_e ?_
      refine thenQ_e ?_
      refine blockQ_e ?_
      refine blockQ_n ?_
      refine thenQ_n ?_
      refine w_regA 66 258 rfl rfl ?_
      refine qp (.sl 1 0 v1016.length) rfl ?_
      obtain ⟨g1021, hF⟩ := need_some hF
      refine qp (.sl 1 (1 : Int).toNat ((v1016.length : Int).toNat - (1 : Int).toNat)) (ev_slc_r rfl (by simp) rfl rfl rfl g1021) (qp (.sl 1 (1 : Int).toNat ((v1016.length : Int).toNat - (1 : Int).toNat)) rfl ?_)
      refine r_nil ?_
      have g1022 : 0 ≤ (1 : Int) ∧ (1 : Int) ≤ (v1016.length : Int) ∧ (v1016.length : Int) ≤ (v1016.length : Int) := by first | exact g1021 | (have h := g1021; simp only [] at h ⊢; exact h)
      refine aw_drop (l' := [(0, .val none (.sl 3 (v0.map ePerson))), (5, .sl 0 0 v1015.length), (6, .sl 1 (1 : Int).toNat ((v1016.length : Int).toNat - (1 : Int).toNat)), (14, .sl 1 0 v1016.length), (15, .sl 1 (1 : Int).toNat ((v1016.length : Int).toNat - (1 : Int).toNat)), (24, .val none (.sl 1 (v1002.2.2.map V.str))), (25, AI (v1002.2.2.length : Int)), (26, AI v1014), (27, AB (decide (v1014 < (v1002.2.2.length : Int))))]) [0, 5, 6, 14, 15, 24, 25, 26, 27] (by first | rfl | simp) ?_
      refine aw_rebF (l' := [(0, .val none (.sl 3 (v0.map ePerson))), (5, .sl 0 0 v1015.length), (6, .sl 1 0 ((sub v1016 (1 : Int) (v1016.length : Int)).length)), (14, .bad), (15, .sl 1 0 ((sub v1016 (1 : Int) (v1016.length : Int)).length)), (24, .val none (.sl 1 (v1002.2.2.map V.str))), (25, AI (v1002.2.2.length : Int)), (26, AI v1014), (27, AB (decide (v1014 < (v1002.2.2.length : Int))))]) (r := 1) (lo := (1 : Int)) (hi := (v1016.length : Int)) rfl g1022 (RebL.keep rfl (RebL.keep rfl (RebL.part (sub_len g1022) (RebL.bad (RebL.part (sub_len g1022) (RebL.keep rfl (RebL.keep rfl (RebL.keep rfl (RebL.keep rfl RebL.nil))))))))) rfl ?_
      refine thenQ_n ?_
      refine aw_ren (l' := [(0, .val none (.sl 3 (v0.map ePerson))), (5, .sl 0 0 v1015.length), (6, .sl 1 0 (sub v1016 (1 : Int) (v1016.length : Int)).length)]) (L := [(1, .row true 1 ((sub v1016 (1 : Int) (v1016.length : Int)).map V.str)), (0, .row true 1 (v1015.map V.str))]) [0, 5, 6] [(1, 1), (0, 0)] 2 (by first | rfl | simp) (by first | rfl | simp) (by decide) (by decide) (by decide) ⟨_, by rfl, hF⟩
  ·
    refine w_exit ?_
    refine thenQ_e ?_
    refine thenQ_e ?_
    refine blockQ_e ?_
    refine thenQ_n ?_
    refine w_reg_seq 194 322 rfl rfl ?_
    refine qp (.sl 0 0 v50.length) rfl ?_
    obtain ⟨v1023, e1023, hF⟩ := bind_get hF
    obtain ⟨g1023, hF⟩ := need_some hF
    refine qm1 (ls := [0]) [(0, .row true 1 (v1023.map V.str)), (1, .row true 1 (v51.map V.str)), (0, .row true 1 (v50.map V.str))] (con_sortS_131 e1023) c131_ok (by first | rfl | simp [takeM, takeML, takeM1, g1023]) (by decide) (by simp [like2, likeL, like1, g1023]) rfl rfl (by simp [scrO_fo, newO2, newO, scrR, scrA, scrAs]) ?_
    refine r_nil ?_
    refine w_reg_seq 322 450 rfl rfl ?_
    refine qp (.sl 0 0 v50.length) rfl (qp (.sl 0 0 v50.length) rfl ?_)
    refine r_nil ?_
    refine w_ret ?_
    cases hF
    exact endQ_r rfl (.inl ⟨_, _, by first | rfl | (simp [List.take_of_length_le]; first | exact ⟨rfl, rfl⟩ | rfl), by simp, by first | rfl | simp [res_impl_teachersOf, List.take_of_length_le, g1023]⟩)

def c98 : MC := (.seq (.reg [⟨(some 3), none, (.p true (.mv (.c (.bool false))))⟩]) (.seq (.reg [⟨(some 4), none, (.p true (.ld (.t 1) 1 false))⟩, ⟨(some 5), none, (.p true (.mv (.t 0)))⟩, ⟨(some 6), none, (.call true 67 [(.t 4), (.t 5)])⟩, ⟨(some 7), none, (.p true (.not (.t 6)))⟩, ⟨(some 3), none, (.p true (.mv (.t 7)))⟩]) .ret))
theorem c98_is : compFn Try.prog 98 = some (c98, [(.tmp 3)]) := by kernel_rfl
theorem c98_ok : okFn Try.prog 98 = true := by kernel_rfl

noncomputable def F_impl_CommonTeachers_1 (v0 : List UInt8) (v1 : List (List UInt8)) : Option (Bool) :=
  ((F_slices_Contains_Sstring_string v1 v0).bind fun v1000 => some (!v1000))
@[simp] def res_impl_CommonTeachers_1 (r : Bool) : RV := .one (.one (.val (.bool r)))
theorem con_impl_CommonTeachers_1 {v0 : List UInt8} {v1 : List (List UInt8)} {r : Bool} (hF : F_impl_CommonTeachers_1 v0 v1 = some r) : Con Try.prog 98 [.str v0, .ptr [.sl 1 (v1.map V.str)]] (res_impl_CommonTeachers_1 r) := by
  unfold F_impl_CommonTeachers_1 at hF
  refine con_of c98_is fun N => ?_
  refine w_reg_seq 0 64 rfl rfl ?_
  refine qp (AB false) rfl ?_
  refine r_nil ?_
  refine w_reg_seq 64 384 rfl rfl ?_
  refine qp (.val none (.sl 1 (v1.map V.str))) rfl (qp (AS v0) rfl ?_)
  obtain ⟨v1000, e1000, hF⟩ := bind_get hF
  refine qc (AB v1000) [] false (con_slices_Contains_Sstring_string e1000) c67_ok (by first | rfl | simp) rfl ?_
  refine qp (AB (!v1000)) rfl (qp (AB (!v1000)) rfl ?_)
  refine r_nil ?_
  refine w_ret ?_
  cases hF
  exact endQ_r rfl (.inl ⟨_, _, by first | rfl | (simp [List.take_of_length_le]; first | exact ⟨rfl, rfl⟩ | rfl), by simp, by first | rfl | simp [res_impl_CommonTeachers_1, List.take_of_length_le]⟩)

end Go.Ab
