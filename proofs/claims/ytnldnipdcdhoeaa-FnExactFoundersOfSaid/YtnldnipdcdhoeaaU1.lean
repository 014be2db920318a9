/- Walks (printed by auto.py, a program of this session's own). -/
import Derived.Test.YtnldnipdcdhoeaaU0
import Derived.Test.YtnldnipdcdhoeaaProg
import Derived.KernelRfl
set_option linter.unusedVariables false
set_option linter.unusedSimpArgs false
namespace Go.Ab
open Go.RowKit Go.Proofs

def c21 : MC := (.seq (.reg [⟨(some 4), none, (.p true (.mv (.c (.int .i64 0))))⟩]) (.seq (.seq (.reg [⟨(some 5), none, (.p true (.mv (.c (.int .i64 0))))⟩]) (.block 0 (.loop (.seq (.seq (.reg [⟨(some 6), none, (.p true (.mv (.t 5)))⟩, ⟨(some 7), none, (.p true (.mv (.t 0)))⟩, ⟨(some 8), none, (.p true (.len (.t 7)))⟩, ⟨(some 9), none, (.p true (.bin .lss (.t 6) (.t 8)))⟩]) (.cond (.t 9) .skip (.exit 0))) (.seq (.block 1 (.seq (.reg [⟨(some 12), none, (.p true (.mv (.t 0)))⟩, ⟨(some 13), none, (.p true (.mv (.t 5)))⟩, ⟨(some 14), none, (.p true (.mv (.t 1)))⟩, ⟨(some 15), none, (.call true 62 [(.t 14)])⟩, ⟨(some 16), none, (.p true (.iad (.t 12) (.t 13) 1))⟩, ⟨none, none, (.f (.st (.t 16) (.t 15) 1))⟩]) (.reg [⟨(some 17), none, (.p true (.mv (.t 1)))⟩, ⟨(some 18), none, (.p true (.bin .add (.t 17) (.c (.int .i64 1))))⟩, ⟨(some 1), none, (.p true (.mv (.t 18)))⟩]))) (.reg [⟨(some 10), none, (.p true (.mv (.t 5)))⟩, ⟨(some 11), none, (.p true (.bin .add (.t 10) (.c (.int .i64 1))))⟩, ⟨(some 5), none, (.p true (.mv (.t 11)))⟩])))))) (.seq (.reg [⟨(some 19), none, (.p true (.mv (.t 1)))⟩, ⟨(some 4), none, (.p true (.mv (.t 19)))⟩]) .ret)))
theorem c21_is : compFnM Try.prog 21 = some (c21, [(.tmp 4)]) := by kernel_rfl
theorem c21_ok : okFn Try.prog 21 = true := by kernel_rfl

def F_laws_markStringS_l0 (k0 : Int × Int × (List (List UInt8)) → Option ((List (List UInt8)) × Int)) : Int × Int × (List (List UInt8)) → Option ((List (List UInt8)) × Int)
  | (v9, v10, v11) => (bif (decide (v10 < (v11.length : Int))) then ((F_laws_markText v9).bind fun v1000 => ((ix v11 v10).bind fun v1001 => k0 (w64 (v9 + 1), w64 (v10 + 1), List.set v11 v10.toNat v1000)))
  else some (v11, v9))
def F_laws_markStringS (v0 : List (List UInt8)) (v1 : Int) : Option ((List (List UInt8)) × Int) :=
  loop (F_laws_markStringS_l0) (v1, 0, v0)
theorem con_laws_markStringS {v0 : List (List UInt8)} {v1 : Int} {r : (List (List UInt8)) × Int} (hF : F_laws_markStringS v0 v1 = some r) : ConM Try.prog 21 (.one (.row true 1 (v0.map V.str))) (.one (.row true 1 (r.1.map V.str))) [.int .i64 v1] (.int .i64 r.2) := by
  unfold F_laws_markStringS at hF
  refine conM_of (av := .sl 0 0 v0.length) (L := [(0, .row true 1 (v0.map V.str))]) c21_is rfl rfl rfl (by simp) fun N => ?_
  refine w_reg_seq 64 128 rfl rfl ?_
  refine qp (AI 0) rfl ?_
  refine r_nil ?_
  refine w_seq ?_
  refine w_reg_seq 128 192 rfl rfl ?_
  refine qp (AI 0) rfl ?_
  refine r_nil ?_
  refine w_block ?_
  refine w_ren (l' := [(0, .sl 0 0 v0.length), (1, AI v1), (5, AI 0)]) (L := [(0, .row true 1 (v0.map V.str))]) [0, 1, 5] [(0, 0)] 1 (by first | rfl | simp) (by first | rfl | simp) (by decide) (by decide) (by decide) ?_
  refine w_loopF (F_laws_markStringS_l0) (fun s : Int × Int × (List (List UInt8)) => mkS [(0, .sl 0 0 s.2.2.length), (1, AI s.1), (5, AI s.2.1)] (fo [(0, .row true 1 (s.2.2.map V.str))]) 1) hF ?_
  rintro k0 ⟨v9, v10, v11⟩ hF
  rw [F_laws_markStringS_l0] at hF
  try dsimp only
  refine w_seq ?_
  refine w_reg_seq 1 257 rfl rfl ?_
  refine qp (AI v10) rfl (qp (.sl 0 0 v11.length) rfl (qp (AI (v11.length : Int)) rfl (qp (AB (decide (v10 < (v11.length : Int)))) rfl ?_)))
  refine r_nil ?_
  refine w_condF hF rfl (fun hF => ?_) (fun hF => ?_)
  ·
    refine w_skip ?_
    refine thenQ_n ?_
    refine w_seq ?_
    refine w_block ?_
    refine w_reg_seq 257 641 rfl rfl ?_
    refine qp (.sl 0 0 v11.length) rfl (qp (AI v10) rfl (qp (AI v9) rfl ?_))
    obtain ⟨v1000, e1000, hF⟩ := bind_get hF
    refine qc (AS v1000) [(0, .row true 1 (v11.map V.str))] false (con_laws_markText e1000) c62_ok (by first | rfl | simp) rfl ?_
    obtain ⟨v1001, e1001, hF⟩ := bind_get hF
    refine qp (.ptr 0 v10.toNat 0) (ev_iad_r rfl (by simp) rfl rfl e1001) ?_
    refine qf0 (.undef) [(0, .row true 1 ((List.set v11 v10.toNat v1000).map V.str)), (0, .row true 1 (v11.map V.str))] (effT_st rfl rfl (ix_some e1001).2 rfl rfl (by rfl) (by first | rfl | simp [patch, reb, List.take_of_length_le]) (by rfl) rfl) ?_
    refine r_nil ?_
    refine w_reg 641 833 rfl rfl ?_
    refine qp (AI v9) rfl (qp (AI (w64 (v9 + 1))) rfl (qp (AI (w64 (v9 + 1))) rfl ?_))
    refine r_nil ?_
    refine blockQ_n ?_
    refine thenQ_n ?_
    refine w_reg 833 1025 rfl rfl ?_
    refine qp (AI v10) rfl (qp (AI (w64 (v10 + 1))) rfl (qp (AI (w64 (v10 + 1))) rfl ?_))
    refine r_nil ?_
    refine thenQ_n ?_
    refine aw_ren (l' := [(0, .sl 0 0 (List.set v11 v10.toNat v1000).length), (1, AI (w64 (v9 + 1))), (5, AI (w64 (v10 + 1)))]) (L := [(0, .row true 1 ((List.set v11 v10.toNat v1000).map V.str))]) [0, 1, 5] [(0, 0)] 1 (by first | rfl | simp) (by first | rfl | simp) (by decide) (by decide) (by decide) ⟨_, by rfl, hF⟩
  ·
    refine w_exit ?_
    refine thenQ_e ?_
    refine thenQ_e ?_
    refine blockQ_e ?_
    refine thenQ_n ?_
    refine w_reg_seq 257 385 rfl rfl ?_
    refine qp (AI v9) rfl (qp (AI v9) rfl ?_)
    refine r_nil ?_
    refine w_ret ?_
    cases hF
    exact endM_r rfl rfl (by first | rfl | (simp [List.take_of_length_le]; first | exact ⟨rfl, rfl⟩ | rfl)) (by simp)

def c20 : MC := (.seq (.reg [⟨(some 4), none, (.p true (.mv (.c (.int .i64 0))))⟩]) (.seq (.seq (.reg [⟨(some 5), none, (.p true (.mv (.c (.int .i64 0))))⟩]) (.block 0 (.loop (.seq (.seq (.reg [⟨(some 6), none, (.p true (.mv (.t 5)))⟩, ⟨(some 7), none, (.p true (.mv (.t 0)))⟩, ⟨(some 8), none, (.p true (.len (.t 7)))⟩, ⟨(some 9), none, (.p true (.bin .lss (.t 6) (.t 8)))⟩]) (.cond (.t 9) .skip (.exit 0))) (.seq (.block 1 (.seq (.reg [⟨(some 12), none, (.p true (.mv (.t 0)))⟩, ⟨(some 13), none, (.p true (.mv (.t 5)))⟩, ⟨(some 14), none, (.p true (.mv (.t 1)))⟩, ⟨(some 15), none, (.call true 62 [(.t 14)])⟩, ⟨(some 16), none, (.p true (.iad (.t 12) (.t 13) 3))⟩, ⟨(some 17), none, (.p true (.fad (.t 16) 0))⟩, ⟨none, none, (.f (.st (.t 17) (.t 15) 1))⟩]) (.seq (.reg [⟨(some 18), none, (.p true (.mv (.t 1)))⟩, ⟨(some 19), none, (.p true (.bin .add (.t 18) (.c (.int .i64 1))))⟩, ⟨(some 1), none, (.p true (.mv (.t 19)))⟩]) (.seq (.reg [⟨(some 20), none, (.p true (.mv (.t 0)))⟩, ⟨(some 21), none, (.p true (.mv (.t 5)))⟩, ⟨(some 22), none, (.p true (.mv (.t 1)))⟩, ⟨(some 23), none, (.p true (.iad (.t 20) (.t 21) 3))⟩, ⟨(some 24), none, (.p true (.fad (.t 23) 1))⟩, ⟨none, none, (.f (.st (.t 24) (.t 22) 1))⟩]) (.seq (.reg [⟨(some 25), none, (.p true (.mv (.t 1)))⟩, ⟨(some 26), none, (.p true (.bin .add (.t 25) (.c (.int .i64 1))))⟩, ⟨(some 1), none, (.p true (.mv (.t 26)))⟩]) (.reg [⟨(some 27), none, (.p true (.mv (.t 0)))⟩, ⟨(some 28), none, (.p true (.mv (.t 5)))⟩, ⟨(some 29), none, (.p true (.iad (.t 27) (.t 28) 3))⟩, ⟨(some 30), none, (.p true (.fad (.t 29) 2))⟩, ⟨(some 31), none, (.p true (.ld (.t 30) 1 false))⟩, ⟨(some 32), none, (.p true (.mv (.t 1)))⟩, ⟨(some 33), none, (.call true 21 [(.t 31), (.t 32)])⟩, ⟨(some 1), none, (.p true (.mv (.t 33)))⟩])))))) (.reg [⟨(some 10), none, (.p true (.mv (.t 5)))⟩, ⟨(some 11), none, (.p true (.bin .add (.t 10) (.c (.int .i64 1))))⟩, ⟨(some 5), none, (.p true (.mv (.t 11)))⟩])))))) (.seq (.reg [⟨(some 34), none, (.p true (.mv (.t 1)))⟩, ⟨(some 4), none, (.p true (.mv (.t 34)))⟩]) .ret)))
theorem c20_is : compFnM Try.prog 20 = some (c20, [(.tmp 4)]) := by kernel_rfl
theorem c20_ok : okFn Try.prog 20 = true := by kernel_rfl

def F_laws_markPersonS_l0 (k0 : Int × Int × (List TPerson) → Option ((List TPerson) × Int)) : Int × Int × (List TPerson) → Option ((List TPerson) × Int)
  | (v17, v18, v19) => (bif (decide (v18 < (v19.length : Int))) then ((F_laws_markText v17).bind fun v1000 => ((ix v19 v18).bind fun v1001 => ((ix (List.set v19 v18.toNat (v1000, v1001.2.1, v1001.2.2)) v18).bind fun v1002 => ((ix (List.set (List.set v19 v18.toNat (v1000, v1001.2.1, v1001.2.2)) v18.toNat (v1002.1, w64 (v17 + 1), v1002.2.2)) v18).bind fun v1003 => ((F_laws_markStringS v1003.2.2 (w64 ((w64 (v17 + 1)) + 1))).bind fun v1004 => need (v1004.1.length = v1003.2.2.length) (k0 (v1004.2, w64 (v18 + 1), List.set (List.set (List.set v19 v18.toNat (v1000, v1001.2.1, v1001.2.2)) v18.toNat (v1002.1, w64 (v17 + 1), v1002.2.2)) v18.toNat (v1003.1, v1003.2.1, v1004.1))))))))
  else some (v19, v17))
def F_laws_markPersonS (v0 : List TPerson) (v1 : Int) : Option ((List TPerson) × Int) :=
  loop (F_laws_markPersonS_l0) (v1, 0, v0)
theorem con_laws_markPersonS {v0 : List TPerson} {v1 : Int} {r : (List TPerson) × Int} (hF : F_laws_markPersonS v0 v1 = some r) : ConM Try.prog 20 (.one (.row true 3 (v0.map ePerson))) (.one (.row true 3 (r.1.map ePerson))) [.int .i64 v1] (.int .i64 r.2) := by
  unfold F_laws_markPersonS at hF
  refine conM_of (av := .sl 0 0 v0.length) (L := [(0, .row true 3 (v0.map ePerson))]) c20_is rfl rfl rfl (by simp) fun N => ?_
  refine w_reg_seq 64 128 rfl rfl ?_
  refine qp (AI 0) rfl ?_
  refine r_nil ?_
  refine w_seq ?_
  refine w_reg_seq 128 192 rfl rfl ?_
  refine qp (AI 0) rfl ?_
  refine r_nil ?_
  refine w_block ?_
  refine w_ren (l' := [(0, .sl 0 0 v0.length), (1, AI v1), (5, AI 0)]) (L := [(0, .row true 3 (v0.map ePerson))]) [0, 1, 5] [(0, 0)] 1 (by first | rfl | simp) (by first | rfl | simp) (by decide) (by decide) (by decide) ?_
  refine w_loopF (F_laws_markPersonS_l0) (fun s : Int × Int × (List TPerson) => mkS [(0, .sl 0 0 s.2.2.length), (1, AI s.1), (5, AI s.2.1)] (fo [(0, .row true 3 (s.2.2.map ePerson))]) 1) hF ?_
  rintro k0 ⟨v17, v18, v19⟩ hF
  rw [F_laws_markPersonS_l0] at hF
  try dsimp only
  refine w_seq ?_
  refine w_reg_seq 1 257 rfl rfl ?_
  refine qp (AI v18) rfl (qp (.sl 0 0 v19.length) rfl (qp (AI (v19.length : Int)) rfl (qp (AB (decide (v18 < (v19.length : Int)))) rfl ?_)))
  refine r_nil ?_
  refine w_condF hF rfl (fun hF => ?_) (fun hF => ?_)
  ·
    refine w_skip ?_
    refine thenQ_n ?_
    refine w_seq ?_
    refine w_block ?_
    refine w_reg_seq 257 705 rfl rfl ?_
    refine qp (.sl 0 0 v19.length) rfl (qp (AI v18) rfl (qp (AI v17) rfl ?_))
    obtain ⟨v1000, e1000, hF⟩ := bind_get hF
    refine qc (AS v1000) [(0, .row true 3 (v19.map ePerson))] false (con_laws_markText e1000) c62_ok (by first | rfl | simp) rfl ?_
    obtain ⟨v1001, e1001, hF⟩ := bind_get hF
    refine qp (.ptr 0 v18.toNat 0) (ev_iad_r rfl (by simp) rfl rfl e1001) (qp (.ptr 0 v18.toNat 0) rfl ?_)
    refine qf0 (.undef) [(0, .row true 3 ((List.set v19 v18.toNat (v1000, v1001.2.1, v1001.2.2)).map ePerson)), (0, .row true 3 (v19.map ePerson))] (effT_st rfl rfl (ix_some e1001).2 rfl rfl (by rfl) (by first | rfl | simp [patch, reb, List.take_of_length_le]) (by rfl) rfl) ?_
    refine r_nil ?_
    refine w_reg_seq 705 897 rfl rfl ?_
    refine qp (AI v17) rfl (qp (AI (w64 (v17 + 1))) rfl (qp (AI (w64 (v17 + 1))) rfl ?_))
    refine r_nil ?_
    refine w_reg_seq 897 1281 rfl rfl ?_
    refine qp (.sl 0 0 v19.length) rfl (qp (AI v18) rfl (qp (AI (w64 (v17 + 1))) rfl ?_))
    obtain ⟨v1002, e1002, hF⟩ := bind_get hF
    refine qp (.ptr 0 v18.toNat 0) (ev_iad_r rfl (by simp) rfl rfl e1002) (qp (.ptr 0 v18.toNat 1) rfl ?_)
    refine qf0 (.undef) [(0, .row true 3 ((List.set (List.set v19 v18.toNat (v1000, v1001.2.1, v1001.2.2)) v18.toNat (v1002.1, w64 (v17 + 1), v1002.2.2)).map ePerson)), (0, .row true 3 ((List.set v19 v18.toNat (v1000, v1001.2.1, v1001.2.2)).map ePerson)), (0, .row true 3 (v19.map ePerson))] (effT_st rfl rfl (ix_some e1002).2 rfl rfl (by rfl) (by first | rfl | simp [patch, reb, List.take_of_length_le]) (by rfl) rfl) ?_
    refine r_nil ?_
    refine w_reg_seq 1281 1473 rfl rfl ?_
    refine qp (AI (w64 (v17 + 1))) rfl (qp (AI (w64 ((w64 (v17 + 1)) + 1))) rfl (qp (AI (w64 ((w64 (v17 + 1)) + 1))) rfl ?_))
    refine r_nil ?_
    refine w_reg 1473 1985 rfl rfl ?_
    refine qp (.sl 0 0 v19.length) rfl (qp (AI v18) rfl ?_)
    obtain ⟨v1003, e1003, hF⟩ := bind_get hF
    refine qp (.ptr 0 v18.toNat 0) (ev_iad_r rfl (by simp) rfl rfl e1003) (qp (.ptr 0 v18.toNat 2) rfl ?_)
    obtain ⟨v1004, e1004, hF⟩ := bind_get hF
    obtain ⟨g1005, hF⟩ := need_some hF
    refine qm_l [(0, .row true 3 ((List.set (List.set (List.set v19 v18.toNat (v1000, v1001.2.1, v1001.2.2)) v18.toNat (v1002.1, w64 (v17 + 1), v1002.2.2)) v18.toNat (v1003.1, v1003.2.1, v1004.1)).map ePerson)), (0, .row true 3 ((List.set (List.set v19 v18.toNat (v1000, v1001.2.1, v1001.2.2)) v18.toNat (v1002.1, w64 (v17 + 1), v1002.2.2)).map ePerson)), (0, .row true 3 ((List.set v19 v18.toNat (v1000, v1001.2.1, v1001.2.2)).map ePerson)), (0, .row true 3 (v19.map ePerson))] rfl rfl (map_get (ix_some e1003).2) rfl rfl rfl (con_laws_markStringS e1004) c21_ok (by simp [g1005]) rfl rfl rfl (by simp [scrO_fo, scrR, scrA, scrAs, patch, reb, List.map_set]) ?_
    refine qp (AI v1004.2) rfl ?_
    refine r_nil ?_
    refine blockQ_n ?_
    refine thenQ_n ?_
    refine w_reg 1985 2177 rfl rfl ?_
    refine qp (AI v18) rfl (qp (AI (w64 (v18 + 1))) rfl (qp (AI (w64 (v18 + 1))) rfl ?_))
    refine r_nil ?_
    refine thenQ_n ?_
    refine aw_ren (l' := [(0, .sl 0 0 (List.set (List.set (List.set v19 v18.toNat (v1000, v1001.2.1, v1001.2.2)) v18.toNat (v1002.1, w64 (v17 + 1), v1002.2.2)) v18.toNat (v1003.1, v1003.2.1, v1004.1)).length), (1, AI v1004.2), (5, AI (w64 (v18 + 1)))]) (L := [(0, .row true 3 ((List.set (List.set (List.set v19 v18.toNat (v1000, v1001.2.1, v1001.2.2)) v18.toNat (v1002.1, w64 (v17 + 1), v1002.2.2)) v18.toNat (v1003.1, v1003.2.1, v1004.1)).map ePerson))]) [0, 1, 5] [(0, 0)] 1 (by first | rfl | simp) (by first | rfl | simp) (by decide) (by decide) (by decide) ⟨_, by rfl, hF⟩
  ·
    refine w_exit ?_
    refine thenQ_e ?_
    refine thenQ_e ?_
    refine blockQ_e ?_
    refine thenQ_n ?_
    refine w_reg_seq 257 385 rfl rfl ?_
    refine qp (AI v17) rfl (qp (AI v17) rfl ?_)
    refine r_nil ?_
    refine w_ret ?_
    cases hF
    exact endM_r rfl rfl (by first | rfl | (simp [List.take_of_length_le]; first | exact ⟨rfl, rfl⟩ | rfl)) (by simp)

def c22 : MC := (.seq (.reg [⟨(some 4), none, (.p true (.mv (.c (.int .i64 0))))⟩]) (.seq (.seq (.reg [⟨(some 5), none, (.p true (.mv (.c (.int .i64 0))))⟩]) (.block 0 (.loop (.seq (.seq (.reg [⟨(some 6), none, (.p true (.mv (.t 5)))⟩, ⟨(some 7), none, (.p true (.mv (.t 0)))⟩, ⟨(some 8), none, (.p true (.len (.t 7)))⟩, ⟨(some 9), none, (.p true (.bin .lss (.t 6) (.t 8)))⟩]) (.cond (.t 9) .skip (.exit 0))) (.seq (.block 1 (.seq (.seq (.reg [⟨(some 12), none, (.p false (.mv (.t 0)))⟩, ⟨(some 13), none, (.p false (.mv (.t 5)))⟩, ⟨(some 14), none, (.p false (.iad (.t 12) (.t 13) 1))⟩, ⟨(some 15), none, (.p false (.ld (.t 14) 1 false))⟩, ⟨(some 16), none, (.p false (.mv (.t 1)))⟩, ⟨(some 17), none, (.call false 62 [(.t 16)])⟩, ⟨(some 18), none, (.p false (.bin .neq (.t 15) (.t 17)))⟩]) (.cond (.t 18) (.seq (.reg [⟨(some 4), none, (.p true (.mv (.c (.int .i64 (-1)))))⟩]) .ret) .skip)) (.reg [⟨(some 19), none, (.p true (.mv (.t 1)))⟩, ⟨(some 20), none, (.p true (.bin .add (.t 19) (.c (.int .i64 1))))⟩, ⟨(some 1), none, (.p true (.mv (.t 20)))⟩]))) (.reg [⟨(some 10), none, (.p true (.mv (.t 5)))⟩, ⟨(some 11), none, (.p true (.bin .add (.t 10) (.c (.int .i64 1))))⟩, ⟨(some 5), none, (.p true (.mv (.t 11)))⟩])))))) (.seq (.reg [⟨(some 21), none, (.p true (.mv (.t 1)))⟩, ⟨(some 4), none, (.p true (.mv (.t 21)))⟩]) .ret)))
theorem c22_is : compFn Try.prog 22 = some (c22, [(.tmp 4)]) := by kernel_rfl
theorem c22_ok : okFn Try.prog 22 = true := by kernel_rfl

def F_laws_heldStringS_l0 (v0 : List (List UInt8)) (k0 : Int × Int → Option (Int)) : Int × Int → Option (Int)
  | (v8, v9) => (bif (decide (v9 < (v0.length : Int))) then ((ix v0 v9).bind fun v1000 => ((F_laws_markText v8).bind fun v1001 => (bif (decide (v1000 ≠ v1001)) then some (-1)
  else k0 (w64 (v8 + 1), w64 (v9 + 1)))))
  else some v8)
def F_laws_heldStringS (v0 : List (List UInt8)) (v1 : Int) : Option (Int) :=
  loop (F_laws_heldStringS_l0 v0) (v1, 0)
@[simp] def res_laws_heldStringS (r : Int) : RV := .one (.one (.val (.int .i64 r)))
theorem con_laws_heldStringS {v0 : List (List UInt8)} {v1 : Int} {r : Int} (hF : F_laws_heldStringS v0 v1 = some r) : Con Try.prog 22 [.sl 1 (v0.map V.str), .int .i64 v1] (res_laws_heldStringS r) := by
  unfold F_laws_heldStringS at hF
  refine con_of c22_is fun N => ?_
  refine w_reg_seq 0 64 rfl rfl ?_
  refine qp (AI 0) rfl ?_
  refine r_nil ?_
  refine w_seq ?_
  refine w_reg_seq 64 128 rfl rfl ?_
  refine qp (AI 0) rfl ?_
  refine r_nil ?_
  refine w_block ?_
  refine w_ren (l' := [(0, .val none (.sl 1 (v0.map V.str))), (1, AI v1), (5, AI 0)]) (L := []) [0, 1, 5] [] 1 (by first | rfl | simp) (by first | rfl | simp) (by decide) (by decide) (by decide) ?_
  refine w_loopF (F_laws_heldStringS_l0 v0) (fun s : Int × Int => mkS [(0, .val none (.sl 1 (v0.map V.str))), (1, AI s.1), (5, AI s.2)] (fo []) 1) hF ?_
  rintro k0 ⟨v8, v9⟩ hF
  rw [F_laws_heldStringS_l0] at hF
  try dsimp only
  refine w_seq ?_
  refine w_reg_seq 1 257 rfl rfl ?_
  refine qp (AI v9) rfl (qp (.val none (.sl 1 (v0.map V.str))) rfl (qp (AI (v0.length : Int)) (ev_len_n rfl) (qp (AB (decide (v9 < (v0.length : Int)))) rfl ?_)))
  refine r_nil ?_
  refine w_condF hF rfl (fun hF => ?_) (fun hF => ?_)
  ·
    refine w_skip ?_
    refine thenQ_n ?_
    refine w_seq ?_
    refine w_block ?_
    refine w_seq ?_
    refine w_reg_seq 257 705 rfl rfl ?_
    refine qp (.val none (.sl 1 (v0.map V.str))) rfl (qp (AI v9) rfl ?_)
    obtain ⟨v1000, e1000, hF⟩ := bind_get hF
    refine qp (.val none (.ptr [.str v1000])) (ev_iad_n rfl rfl e1000 rfl) (qp (AS v1000) rfl (qp (AI v8) rfl ?_))
    obtain ⟨v1001, e1001, hF⟩ := bind_get hF
    refine qc (AS v1001) [] false (con_laws_markText e1001) c62_ok (by first | rfl | simp) rfl ?_
    refine qp (AB (decide (v1000 ≠ v1001))) rfl ?_
    refine r_nil ?_
    refine w_condF hF rfl (fun hF => ?_) (fun hF => ?_)
    ·
      refine w_reg_seq 705 769 rfl rfl ?_
      refine qp (AI (-1)) rfl ?_
      refine r_nil ?_
      refine w_ret ?_
      refine thenQ_r ?_
      refine blockQ_r ?_
      refine thenQ_r ?_
      refine thenQ_r ?_
      refine blockQ_r ?_
      refine thenQ_r ?_
      cases hF
      exact endQ_r rfl (.inl ⟨_, _, by first | rfl | (simp [List.take_of_length_le]; first | exact ⟨rfl, rfl⟩ | rfl), by simp, by first | rfl | simp [res_laws_heldStringS, List.take_of_length_le]⟩)
    ·
      refine w_skip ?_
      refine thenQ_n ?_
      refine w_reg 705 897 rfl rfl ?_
      refine qp (AI v8) rfl (qp (AI (w64 (v8 + 1))) rfl (qp (AI (w64 (v8 + 1))) rfl ?_))
      refine r_nil ?_
      refine blockQ_n ?_
      refine thenQ_n ?_
      refine w_reg 897 1089 rfl rfl ?_
      refine qp (AI v9) rfl (qp (AI (w64 (v9 + 1))) rfl (qp (AI (w64 (v9 + 1))) rfl ?_))
      refine r_nil ?_
      refine thenQ_n ?_
      refine aw_ren (l' := [(0, .val none (.sl 1 (v0.map V.str))), (1, AI (w64 (v8 + 1))), (5, AI (w64 (v9 + 1)))]) (L := []) [0, 1, 5] [] 1 (by first | rfl | simp) (by first | rfl | simp) (by decide) (by decide) (by decide) ⟨_, by rfl, hF⟩
  ·
    refine w_exit ?_
    refine thenQ_e ?_
    refine thenQ_e ?_
    refine blockQ_e ?_
    refine thenQ_n ?_
    refine w_reg_seq 257 385 rfl rfl ?_
    refine qp (AI v8) rfl (qp (AI v8) rfl ?_)
    refine r_nil ?_
    refine w_ret ?_
    cases hF
    exact endQ_r rfl (.inl ⟨_, _, by first | rfl | (simp [List.take_of_length_le]; first | exact ⟨rfl, rfl⟩ | rfl), by simp, by first | rfl | simp [res_laws_heldStringS, List.take_of_length_le]⟩)

def c3 : MC := (.seq (.reg [⟨(some 2), none, (.p true (.mv (.c (.bool false))))⟩]) (.seq (.reg [⟨(some 3), none, (.p true (.mv (.c (.int .i64 1048576))))⟩]) (.seq (.reg [⟨(some 14), none, (.p true (.mv (.t 0)))⟩, ⟨(some 15), none, (.p true (.mv (.t 3)))⟩, ⟨(some 16), none, (.call true 14 [(.t 14), (.t 15)])⟩, ⟨(some 3), none, (.p true (.mv (.t 16)))⟩]) (.seq (.seq (.reg [⟨(some 17), none, (.p true (.mv (.t 3)))⟩, ⟨(some 18), none, (.p true (.bin .lss (.t 17) (.c (.int .i64 0))))⟩]) (.cond (.t 18) (.seq (.reg [⟨(some 2), none, (.p true (.mv (.c (.bool true))))⟩]) .ret) .skip)) (.seq (.reg [⟨(some 20), none, (.p true (.mv (.t 0)))⟩, ⟨(some 21), none, (.call true 16 [(.t 20)])⟩, ⟨(some 22), none, (.call true 15 [(.t 21)])⟩, ⟨(some 19), none, (.p true (.mv (.t 22)))⟩, ⟨(some 23), none, (.p true (.ext (.t 19) 0))⟩, ⟨(some 24), none, (.p true (.ext (.t 19) 1))⟩, ⟨(some 4), none, (.p true (.mv (.t 23)))⟩, ⟨(some 5), none, (.p true (.mv (.t 24)))⟩]) (.seq (.reg [⟨(some 25), none, (.p true (.mv (.t 0)))⟩, ⟨(some 26), none, (.call true 16 [(.t 25)])⟩, ⟨(some 6), none, (.p true (.mv (.t 26)))⟩]) (.seq (.reg [⟨(some 28), none, (.p true (.mv (.t 6)))⟩, ⟨(some 29), none, (.call true 17 [(.t 28)])⟩, ⟨(some 27), none, (.p true (.mv (.t 29)))⟩, ⟨(some 30), none, (.p true (.ext (.t 27) 0))⟩, ⟨(some 31), none, (.p true (.ext (.t 27) 1))⟩, ⟨(some 7), none, (.p true (.mv (.t 30)))⟩, ⟨(some 8), none, (.p true (.mv (.t 31)))⟩]) (.seq (.seq (.reg [⟨(some 32), none, (.p true (.mv (.t 7)))⟩, ⟨(some 33), none, (.p true (.mv (.t 4)))⟩, ⟨(some 34), none, (.call true 18 [(.t 32), (.t 33)])⟩, ⟨(some 35), none, (.p true (.not (.t 34)))⟩, ⟨(some 36), none, (.p true (.mv (.t 35)))⟩, ⟨(some 37), (some (36, false)), (.p true (.mv (.t 8)))⟩, ⟨(some 38), (some (36, false)), (.p true (.mv (.t 5)))⟩, ⟨(some 39), (some (36, false)), (.p true (.bin .neq (.t 37) (.t 38)))⟩, ⟨(some 40), none, (.p true (.pick (.t 36) (.c (.bool true)) (.t 39)))⟩]) (.cond (.t 40) (.seq (.reg [⟨(some 2), none, (.p true (.mv (.c (.bool false))))⟩]) .ret) .skip)) (.seq (.seq (.reg [⟨(some 41), none, (.p true (.mv (.t 6)))⟩, ⟨(some 42), none, (.p true (.mv (.t 0)))⟩, ⟨(some 43), none, (.call true 16 [(.t 42)])⟩, ⟨(some 44), none, (.call true 19 [(.t 41), (.t 43)])⟩, ⟨(some 45), none, (.p true (.not (.t 44)))⟩]) (.cond (.t 45) (.seq (.reg [⟨(some 2), none, (.p true (.mv (.c (.bool false))))⟩]) .ret) .skip)) (.seq (.reg [⟨(some 9), none, (.p true (.mv (.c (.int .i64 1))))⟩]) (.seq (.reg [⟨(some 46), none, (.p true (.mv (.t 6)))⟩, ⟨(some 47), none, (.p true (.mv (.t 9)))⟩, ⟨(some 48), none, (.call true 20 [(.t 46), (.t 47)])⟩, ⟨(some 9), none, (.p true (.mv (.t 48)))⟩]) (.seq (.seq (.reg [⟨(some 49), none, (.p true (.mv (.t 9)))⟩, ⟨(some 50), none, (.p true (.bin .lss (.t 49) (.c (.int .i64 0))))⟩, ⟨(some 51), none, (.p true (.mv (.t 50)))⟩, ⟨(some 52), (some (51, false)), (.p true (.mv (.t 7)))⟩, ⟨(some 53), (some (51, false)), (.p true (.mv (.t 4)))⟩, ⟨(some 54), (some (51, false)), (.call true 18 [(.t 52), (.t 53)])⟩, ⟨(some 55), (some (51, false)), (.p true (.not (.t 54)))⟩, ⟨(some 56), none, (.p true (.pick (.t 51) (.c (.bool true)) (.t 55)))⟩, ⟨(some 57), none, (.p true (.mv (.t 56)))⟩, ⟨(some 58), (some (57, false)), (.p true (.mv (.t 8)))⟩, ⟨(some 59), (some (57, false)), (.p true (.mv (.t 5)))⟩, ⟨(some 60), (some (57, false)), (.p true (.bin .neq (.t 58) (.t 59)))⟩, ⟨(some 61), none, (.p true (.pick (.t 57) (.c (.bool true)) (.t 60)))⟩]) (.cond (.t 61) (.seq (.reg [⟨(some 2), none, (.p true (.mv (.c (.bool false))))⟩]) .ret) .skip)) (.seq (.reg [⟨(some 10), none, (.p true (.mv (.c (.int .i64 1))))⟩]) (.seq (.reg [⟨(some 62), none, (.p true (.mv (.t 7)))⟩, ⟨(some 63), none, (.p true (.mv (.t 10)))⟩, ⟨(some 64), none, (.call true 21 [(.t 62), (.t 63)])⟩, ⟨(some 10), none, (.p true (.mv (.t 64)))⟩]) (.seq (.reg [⟨(some 11), none, (.p true (.mv (.c (.int .i64 1))))⟩]) (.seq (.reg [⟨(some 65), none, (.p true (.mv (.t 7)))⟩, ⟨(some 66), none, (.p true (.mv (.t 11)))⟩, ⟨(some 67), none, (.call true 22 [(.t 65), (.t 66)])⟩, ⟨(some 11), none, (.p true (.mv (.t 67)))⟩]) (.seq (.seq (.reg [⟨(some 68), none, (.p true (.mv (.t 11)))⟩, ⟨(some 69), none, (.p true (.bin .lss (.t 68) (.c (.int .i64 0))))⟩]) (.cond (.t 69) (.seq (.reg [⟨(some 2), none, (.p true (.mv (.c (.bool false))))⟩]) .ret) .skip)) (.seq (.seq (.reg [⟨(some 70), none, (.p true (.mv (.t 11)))⟩, ⟨(some 71), none, (.p true (.mv (.t 10)))⟩, ⟨(some 72), none, (.p true (.bin .neq (.t 70) (.t 71)))⟩]) (.cond (.t 72) (.seq (.reg [⟨(some 2), none, (.p true (.mv (.c (.bool false))))⟩]) .ret) .skip)) (.seq (.reg [⟨(some 74), none, (.p true (.mv (.t 0)))⟩, ⟨(some 75), none, (.call true 16 [(.t 74)])⟩, ⟨(some 76), none, (.call true 17 [(.t 75)])⟩, ⟨(some 73), none, (.p true (.mv (.t 76)))⟩, ⟨(some 77), none, (.p true (.ext (.t 73) 0))⟩, ⟨(some 78), none, (.p true (.ext (.t 73) 1))⟩, ⟨(some 12), none, (.p true (.mv (.t 77)))⟩, ⟨(some 13), none, (.p true (.mv (.t 78)))⟩]) (.seq (.seq (.reg [⟨(some 79), none, (.p true (.mv (.t 12)))⟩, ⟨(some 80), none, (.p true (.mv (.t 4)))⟩, ⟨(some 81), none, (.call true 18 [(.t 79), (.t 80)])⟩, ⟨(some 82), none, (.p true (.not (.t 81)))⟩, ⟨(some 83), none, (.p true (.mv (.t 82)))⟩, ⟨(some 84), (some (83, false)), (.p true (.mv (.t 13)))⟩, ⟨(some 85), (some (83, false)), (.p true (.mv (.t 5)))⟩, ⟨(some 86), (some (83, false)), (.p true (.bin .neq (.t 84) (.t 85)))⟩, ⟨(some 87), none, (.p true (.pick (.t 83) (.c (.bool true)) (.t 86)))⟩]) (.cond (.t 87) (.seq (.reg [⟨(some 2), none, (.p true (.mv (.c (.bool false))))⟩]) .ret) .skip)) (.seq (.reg [⟨(some 11), none, (.p true (.mv (.c (.int .i64 1))))⟩]) (.seq (.reg [⟨(some 88), none, (.p true (.mv (.t 7)))⟩, ⟨(some 89), none, (.p true (.mv (.t 11)))⟩, ⟨(some 90), none, (.call true 22 [(.t 88), (.t 89)])⟩, ⟨(some 11), none, (.p true (.mv (.t 90)))⟩]) (.seq (.seq (.reg [⟨(some 91), none, (.p true (.mv (.t 11)))⟩, ⟨(some 92), none, (.p true (.bin .lss (.t 91) (.c (.int .i64 0))))⟩]) (.cond (.t 92) (.seq (.reg [⟨(some 2), none, (.p true (.mv (.c (.bool false))))⟩]) .ret) .skip)) (.seq (.seq (.reg [⟨(some 93), none, (.p true (.mv (.t 11)))⟩, ⟨(some 94), none, (.p true (.mv (.t 10)))⟩, ⟨(some 95), none, (.p true (.bin .neq (.t 93) (.t 94)))⟩]) (.cond (.t 95) (.seq (.reg [⟨(some 2), none, (.p true (.mv (.c (.bool false))))⟩]) .ret) .skip)) (.seq (.reg [⟨(some 2), none, (.p true (.mv (.c (.bool true))))⟩]) .ret)))))))))))))))))))))))))
theorem c3_is : compFn Try.prog 3 = some (c3, [(.tmp 2)]) := by kernel_rfl
theorem c3_ok : okFn Try.prog 3 = true := by kernel_rfl

def F_laws_FnExactFoundersOf (v0 : List TPerson) : Option (Bool) :=
  ((F_laws_szPersonS v0 1048576).bind fun v1000 => (bif (decide (v1000 < (0 : Int))) then some true
  else ((F_laws_toPersonS v0).bind fun v1001 => ((F_spec_FoundersOf v1001).bind fun v1002 => ((F_laws_toPersonS v0).bind fun v1003 => ((F_impl_FoundersOf v1003).bind fun v1004 => ((F_laws_eqStringS v1004.1 v1002.1).bind fun v1006 => (bif (!v1006) then some false
  else (bif (decide (v1004.2 ≠ v1002.2)) then some false
  else ((F_laws_toPersonS v0).bind fun v1007 => ((F_laws_eqPersonS v1003 v1007).bind fun v1008 => (bif (!v1008) then some false
  else ((F_laws_markPersonS v1003 1).bind fun v1009 => need (v1009.1.length = v1003.length) ((bif (decide (v1009.2 < (0 : Int))) then some false
  else ((F_laws_eqStringS v1004.1 v1002.1).bind fun v1012 => (bif (!v1012) then some false
  else (bif (decide (v1004.2 ≠ v1002.2)) then some false
  else ((F_laws_markStringS v1004.1 1).bind fun v1013 => need (v1013.1.length = v1004.1.length) (((F_laws_heldStringS v1013.1 1).bind fun v1015 => (bif (decide (v1015 < (0 : Int))) then some false
  else (bif (decide (v1015 ≠ v1013.2)) then some false
  else ((F_laws_toPersonS v0).bind fun v1016 => ((F_impl_FoundersOf v1016).bind fun v1017 => ((F_laws_eqStringS v1017.1 v1002.1).bind fun v1019 => (bif (!v1019) then some false
  else (bif (decide (v1017.2 ≠ v1002.2)) then some false
  else ((F_laws_heldStringS v1013.1 1).bind fun v1020 => (bif (decide (v1020 < (0 : Int))) then some false
  else (bif (decide (v1020 ≠ v1013.2)) then some false
  else some true)))))))))))))))))))))))))))))))
@[simp] def res_laws_FnExactFoundersOf (r : Bool) : RV := .one (.one (.val (.bool r)))
theorem con_laws_FnExactFoundersOf {v0 : List TPerson} {r : Bool} (hF : F_laws_FnExactFoundersOf v0 = some r) : Con Try.prog 3 [.sl 3 (v0.map ePerson)] (res_laws_FnExactFoundersOf r) := by
  unfold F_laws_FnExactFoundersOf at hF
  refine con_of c3_is fun N => ?_
  refine w_reg_seq 0 64 rfl rfl ?_
  refine qp (AB false) rfl ?_
  refine r_nil ?_
  refine w_reg_seq 64 128 rfl rfl ?_
  refine qp (AI 1048576) rfl ?_
  refine r_nil ?_
  refine w_reg_seq 128 384 rfl rfl ?_
  refine qp (.val none (.sl 3 (v0.map ePerson))) rfl (qp (AI 1048576) rfl ?_)
  obtain ⟨v1000, e1000, hF⟩ := bind_get hF
  refine qc (AI v1000) [] false (con_laws_szPersonS e1000) c14_ok (by first | rfl | simp) rfl ?_
  refine qp (AI v1000) rfl ?_
  refine r_nil ?_
  refine w_seq ?_
  refine w_reg_seq 384 512 rfl rfl ?_
  refine qp (AI v1000) rfl (qp (AB (decide (v1000 < (0 : Int)))) rfl ?_)
  refine r_nil ?_
  refine w_condF hF rfl (fun hF => ?_) (fun hF => ?_)
  ·
    refine w_reg_seq 512 576 rfl rfl ?_
    refine qp (AB true) rfl ?_
    refine r_nil ?_
    refine w_ret ?_
    refine thenQ_r ?_
    cases hF
    exact endQ_r rfl (.inl ⟨_, _, by first | rfl | (simp [List.take_of_length_le]; first | exact ⟨rfl, rfl⟩ | rfl), by simp, by first | rfl | simp [res_laws_FnExactFoundersOf, List.take_of_length_le]⟩)
  ·
    refine w_skip ?_
    refine thenQ_n ?_
    refine w_reg_seq 512 1024 rfl rfl ?_
    refine qp (.val none (.sl 3 (v0.map ePerson))) rfl ?_
    obtain ⟨v1001, e1001, hF⟩ := bind_get hF
    refine qc (.sl 576 0 v1001.length) [(576, .row true 3 (v1001.map ePerson))] false (con_laws_toPersonS e1001) c16_ok (by first | rfl | simp) (by simp [res_laws_toPersonS]) ?_
    obtain ⟨v1002, e1002, hF⟩ := bind_get hF
    refine qc (.tup [.sl 640 0 v1002.1.length, AI v1002.2]) [(640, .row true 1 (v1002.1.map V.str)), (576, .row true 3 (v1001.map ePerson))] true (con_spec_FoundersOf e1002) c15_ok (by simp [List.take_of_length_le]) (by simp [res_spec_FoundersOf]) ?_
    refine qp (.tup [.sl 640 0 v1002.1.length, AI v1002.2]) rfl (qp (.sl 640 0 v1002.1.length) rfl (qp (AI v1002.2) rfl (qp (.sl 640 0 v1002.1.length) rfl (qp (AI v1002.2) rfl ?_))))
    refine r_nil ?_
    refine w_reg_seq 1024 1216 rfl rfl ?_
    refine qp (.val none (.sl 3 (v0.map ePerson))) rfl ?_
    obtain ⟨v1003, e1003, hF⟩ := bind_get hF
    refine qc (.sl 1088 0 v1003.length) [(1088, .row true 3 (v1003.map ePerson)), (640, .row true 1 (v1002.1.map V.str)), (576, .row true 3 (v1001.map ePerson))] false (con_laws_toPersonS e1003) c16_ok (by first | rfl | simp) (by simp [res_laws_toPersonS]) ?_
    refine qp (.sl 1088 0 v1003.length) rfl ?_
    refine r_nil ?_
    refine w_reg_seq 1216 1664 rfl rfl ?_
    refine qp (.sl 1088 0 v1003.length) rfl ?_
    obtain ⟨v1004, e1004, hF⟩ := bind_get hF
    refine qc (.tup [.sl 1280 0 v1004.1.length, AI v1004.2]) [(1280, .row true 1 (v1004.1.map V.str)), (1088, .row true 3 (v1003.map ePerson)), (640, .row true 1 (v1002.1.map V.str)), (576, .row true 3 (v1001.map ePerson))] true (con_impl_FoundersOf e1004) c17_ok (by simp [List.take_of_length_le]) (by simp [res_impl_FoundersOf]) ?_
    refine qp (.tup [.sl 1280 0 v1004.1.length, AI v1004.2]) rfl (qp (.sl 1280 0 v1004.1.length) rfl (qp (AI v1004.2) rfl (qp (.sl 1280 0 v1004.1.length) rfl (qp (AI v1004.2) rfl ?_))))
    refine r_nil ?_
    refine w_seq ?_
    refine w_reg_seq 1664 2240 rfl rfl ?_
    refine qp (.sl 1280 0 v1004.1.length) rfl (qp (.sl 640 0 v1002.1.length) rfl ?_)
    obtain ⟨v1006, e1006, hF⟩ := bind_get hF
    refine qc (AB v1006) [(1280, .row true 1 (v1004.1.map V.str)), (1088, .row true 3 (v1003.map ePerson)), (640, .row true 1 (v1002.1.map V.str)), (576, .row true 3 (v1001.map ePerson))] true (con_laws_eqStringS e1006) c18_ok (by simp [List.take_of_length_le]) rfl ?_
    refine qp (AB (!v1006)) rfl (qp (AB (!v1006)) rfl ?_)
    refine q_case 36 hF rfl (fun hF => ?_) (fun hF => ?_)
    ·
      refine qn rfl (qn rfl (qn rfl (qp (AB true) rfl ?_)))
      refine r_nil ?_
      refine w_true rfl ?_
      refine w_reg_seq 2240 2304 rfl rfl ?_
      refine qp (AB false) rfl ?_
      refine r_nil ?_
      refine w_ret ?_
      refine thenQ_r ?_
      cases hF
      exact endQ_r rfl (.inl ⟨_, _, by first | rfl | (simp [List.take_of_length_le]; first | exact ⟨rfl, rfl⟩ | rfl), by simp, by first | rfl | simp [res_laws_FnExactFoundersOf, List.take_of_length_le]⟩)
    ·
      refine qg (AI v1004.2) rfl rfl (qg (AI v1002.2) rfl rfl (qg (AB (decide (v1004.2 ≠ v1002.2))) rfl rfl (qp (AB (decide (v1004.2 ≠ v1002.2))) rfl ?_)))
      refine r_nil ?_
      refine w_condF hF rfl (fun hF => ?_) (fun hF => ?_)
      ·
        refine w_reg_seq 2240 2304 rfl rfl ?_
        refine qp (AB false) rfl ?_
        refine r_nil ?_
        refine w_ret ?_
        refine thenQ_r ?_
        cases hF
        exact endQ_r rfl (.inl ⟨_, _, by first | rfl | (simp [List.take_of_length_le]; first | exact ⟨rfl, rfl⟩ | rfl), by simp, by first | rfl | simp [res_laws_FnExactFoundersOf, List.take_of_length_le]⟩)
      ·
        refine w_skip ?_
        refine thenQ_n ?_
        refine w_seq ?_
        refine w_reg_seq 2240 2560 rfl rfl ?_
        refine qp (.sl 1088 0 v1003.length) rfl (qp (.val none (.sl 3 (v0.map ePerson))) rfl ?_)
        obtain ⟨v1007, e1007, hF⟩ := bind_get hF
        refine qc (.sl 2368 0 v1007.length) [(2368, .row true 3 (v1007.map ePerson)), (1280, .row true 1 (v1004.1.map V.str)), (1088, .row true 3 (v1003.map ePerson)), (640, .row true 1 (v1002.1.map V.str)), (576, .row true 3 (v1001.map ePerson))] false (con_laws_toPersonS e1007) c16_ok (by first | rfl | simp) (by simp [res_laws_toPersonS]) ?_
        obtain ⟨v1008, e1008, hF⟩ := bind_get hF
        refine qc (AB v1008) [(2368, .row true 3 (v1007.map ePerson)), (1280, .row true 1 (v1004.1.map V.str)), (1088, .row true 3 (v1003.map ePerson)), (640, .row true 1 (v1002.1.map V.str)), (576, .row true 3 (v1001.map ePerson))] true (con_laws_eqPersonS e1008) c19_ok (by simp [List.take_of_length_le]) rfl ?_
        refine qp (AB (!v1008)) rfl ?_
        refine r_nil ?_
        refine w_condF hF rfl (fun hF => ?_) (fun hF => ?_)
        ·
          refine w_reg_seq 2560 2624 rfl rfl ?_
          refine qp (AB false) rfl ?_
          refine r_nil ?_
          refine w_ret ?_
          refine thenQ_r ?_
          cases hF
          exact endQ_r rfl (.inl ⟨_, _, by first | rfl | (simp [List.take_of_length_le]; first | exact ⟨rfl, rfl⟩ | rfl), by simp, by first | rfl | simp [res_laws_FnExactFoundersOf, List.take_of_length_le]⟩)
        ·
          refine w_skip ?_
          refine thenQ_n ?_
          refine w_reg_seq 2560 2624 rfl rfl ?_
          refine qp (AI 1) rfl ?_
          refine r_nil ?_
          refine w_reg_seq 2624 2880 rfl rfl ?_
          refine qp (.sl 1088 0 v1003.length) rfl (qp (AI 1) rfl ?_)
          obtain ⟨v1009, e1009, hF⟩ := bind_get hF
          obtain ⟨g1010, hF⟩ := need_some hF
          refine qm (ls := [1088]) [(1088, .row true 3 (v1009.1.map ePerson)), (2368, .row true 3 (v1007.map ePerson)), (1280, .row true 1 (v1004.1.map V.str)), (1088, .row true 3 (v1003.map ePerson)), (640, .row true 1 (v1002.1.map V.str)), (576, .row true 3 (v1001.map ePerson))] (con_laws_markPersonS e1009) c20_ok (by first | rfl | simp [takeM, takeML, takeM1, g1010]) (by decide) (by simp [like2, likeL, like1, g1010]) rfl rfl rfl (by simp [scrO_fo, newO2, newO, scrR, scrA, scrAs]) ?_
          refine qp (AI v1009.2) rfl ?_
          refine r_nil ?_
          refine w_seq ?_
          refine w_reg_seq 2880 3712 rfl rfl ?_
          refine qp (AI v1009.2) rfl (qp (AB (decide (v1009.2 < (0 : Int)))) rfl (qp (AB (decide (v1009.2 < (0 : Int)))) rfl ?_))
          refine q_case 51 hF rfl (fun hF => ?_) (fun hF => ?_)
          ·
            refine qn rfl (qn rfl (qn rfl (qn rfl (qp (AB true) rfl (qp (AB true) rfl (qn rfl (qn rfl ?_)))))))
            refine qn rfl (qp (AB true) rfl ?_)
            refine r_nil ?_
            refine w_true rfl ?_
            refine w_reg_seq 3712 3776 rfl rfl ?_
            refine qp (AB false) rfl ?_
            refine r_nil ?_
            refine w_ret ?_
            refine thenQ_r ?_
            cases hF
            exact endQ_r rfl (.inl ⟨_, _, by first | rfl | (simp [List.take_of_length_le]; first | exact ⟨rfl, rfl⟩ | rfl), by simp, by first | rfl | simp [res_laws_FnExactFoundersOf, List.take_of_length_le, g1010]⟩)
          ·
            refine qg (.sl 1280 0 v1004.1.length) rfl rfl (qg (.sl 640 0 v1002.1.length) rfl rfl ?_)
            obtain ⟨v1012, e1012, hF⟩ := bind_get hF
            refine qcg (AB v1012) [(1088, .row true 3 (v1009.1.map ePerson)), (2368, .row true 3 (v1007.map ePerson)), (1280, .row true 1 (v1004.1.map V.str)), (1088, .row true 3 (v1003.map ePerson)), (640, .row true 1 (v1002.1.map V.str)), (576, .row true 3 (v1001.map ePerson))] true rfl (con_laws_eqStringS e1012) c18_ok (by simp [g1010, List.take_of_length_le]) rfl ?_
            refine qg (AB (!v1012)) rfl rfl (qp (AB (!v1012)) rfl (qp (AB (!v1012)) rfl ?_))
            refine q_case 57 hF rfl (fun hF => ?_) (fun hF => ?_)
            ·
              refine qn rfl (qn rfl (qn rfl (qp (AB true) rfl ?_)))
              refine r_nil ?_
              refine w_true rfl ?_
              refine w_reg_seq 3712 3776 rfl rfl ?_
              refine qp (AB false) rfl ?_
              refine r_nil ?_
              refine w_ret ?_
              refine thenQ_r ?_
              cases hF
              exact endQ_r rfl (.inl ⟨_, _, by first | rfl | (simp [List.take_of_length_le]; first | exact ⟨rfl, rfl⟩ | rfl), by simp, by first | rfl | simp [res_laws_FnExactFoundersOf, List.take_of_length_le, g1010]⟩)
            ·
              refine qg (AI v1004.2) rfl rfl (qg (AI v1002.2) rfl rfl (qg (AB (decide (v1004.2 ≠ v1002.2))) rfl rfl (qp (AB (decide (v1004.2 ≠ v1002.2))) rfl ?_)))
              refine r_nil ?_
              refine w_condF hF rfl (fun hF => ?_) (fun hF => ?_)
              ·
                refine w_reg_seq 3712 3776 rfl rfl ?_
                refine qp (AB false) rfl ?_
                refine r_nil ?_
                refine w_ret ?_
                refine thenQ_r ?_
                cases hF
                exact endQ_r rfl (.inl ⟨_, _, by first | rfl | (simp [List.take_of_length_le]; first | exact ⟨rfl, rfl⟩ | rfl), by simp, by first | rfl | simp [res_laws_FnExactFoundersOf, List.take_of_length_le, g1010]⟩)
              ·
                refine w_skip ?_
                refine thenQ_n ?_
                refine w_reg_seq 3712 3776 rfl rfl ?_
                refine qp (AI 1) rfl ?_
                refine r_nil ?_
                refine w_reg_seq 3776 4032 rfl rfl ?_
                refine qp (.sl 1280 0 v1004.1.length) rfl (qp (AI 1) rfl ?_)
                obtain ⟨v1013, e1013, hF⟩ := bind_get hF
                obtain ⟨g1014, hF⟩ := need_some hF
                refine qm (ls := [1280]) [(1280, .row true 1 (v1013.1.map V.str)), (1088, .row true 3 (v1009.1.map ePerson)), (2368, .row true 3 (v1007.map ePerson)), (1280, .row true 1 (v1004.1.map V.str)), (1088, .row true 3 (v1003.map ePerson)), (640, .row true 1 (v1002.1.map V.str)), (576, .row true 3 (v1001.map ePerson))] (con_laws_markStringS e1013) c21_ok (by first | rfl | simp [takeM, takeML, takeM1, g1010, g1014]) (by decide) (by simp [like2, likeL, like1, g1014]) rfl rfl rfl (by simp [scrO_fo, newO2, newO, scrR, scrA, scrAs]) ?_
                refine qp (AI v1013.2) rfl ?_
                refine r_nil ?_
                refine w_reg_seq 4032 4096 rfl rfl ?_
                refine qp (AI 1) rfl ?_
                refine r_nil ?_
                refine w_reg_seq 4096 4352 rfl rfl ?_
                refine qp (.sl 1280 0 v1004.1.length) rfl (qp (AI 1) rfl ?_)
                obtain ⟨v1015, e1015, hF⟩ := bind_get hF
                refine qc (AI v1015) [(1280, .row true 1 (v1013.1.map V.str)), (1088, .row true 3 (v1009.1.map ePerson)), (2368, .row true 3 (v1007.map ePerson)), (1280, .row true 1 (v1004.1.map V.str)), (1088, .row true 3 (v1003.map ePerson)), (640, .row true 1 (v1002.1.map V.str)), (576, .row true 3 (v1001.map ePerson))] true (con_laws_heldStringS e1015) c22_ok (by simp [g1010, g1014, List.take_of_length_le]) rfl ?_
                refine qp (AI v1015) rfl ?_
                refine r_nil ?_
                refine w_seq ?_
                refine w_reg_seq 4352 4480 rfl rfl ?_
                refine qp (AI v1015) rfl (qp (AB (decide (v1015 < (0 : Int)))) rfl ?_)
                refine r_nil ?_
                refine w_condF hF rfl (fun hF => ?_) (fun hF => ?_)
                ·
                  refine w_reg_seq 4480 4544 rfl rfl ?_
                  refine qp (AB false) rfl ?_
                  refine r_nil ?_
                  refine w_ret ?_
                  refine thenQ_r ?_
                  cases hF
                  exact endQ_r rfl (.inl ⟨_, _, by first | rfl | (simp [List.take_of_length_le]; first | exact ⟨rfl, rfl⟩ | rfl), by simp, by first | rfl | simp [res_laws_FnExactFoundersOf, List.take_of_length_le, g1010, g1014]⟩)
                ·
                  refine w_skip ?_
                  refine thenQ_n ?_
                  refine w_seq ?_
                  refine w_reg_seq 4480 4672 rfl rfl ?_
                  refine qp (AI v1015) rfl (qp (AI v1013.2) rfl (qp (AB (decide (v1015 ≠ v1013.2))) rfl ?_))
                  refine r_nil ?_
                  refine w_condF hF rfl (fun hF => ?_) (fun hF => ?_)
                  ·
                    refine w_reg_seq 4672 4736 rfl rfl ?_
                    refine qp (AB false) rfl ?_
                    refine r_nil ?_
                    refine w_ret ?_
                    refine thenQ_r ?_
                    cases hF
                    exact endQ_r rfl (.inl ⟨_, _, by first | rfl | (simp [List.take_of_length_le]; first | exact ⟨rfl, rfl⟩ | rfl), by simp, by first | rfl | simp [res_laws_FnExactFoundersOf, List.take_of_length_le, g1010, g1014]⟩)
                  ·
                    refine w_skip ?_
                    refine thenQ_n ?_
                    refine w_reg_seq 4672 5184 rfl rfl ?_
                    refine qp (.val none (.sl 3 (v0.map ePerson))) rfl ?_
                    obtain ⟨v1016, e1016, hF⟩ := bind_get hF
                    refine qc (.sl 4736 0 v1016.length) [(4736, .row true 3 (v1016.map ePerson)), (1280, .row true 1 (v1013.1.map V.str)), (1088, .row true 3 (v1009.1.map ePerson)), (2368, .row true 3 (v1007.map ePerson)), (1280, .row true 1 (v1004.1.map V.str)), (1088, .row true 3 (v1003.map ePerson)), (640, .row true 1 (v1002.1.map V.str)), (576, .row true 3 (v1001.map ePerson))] false (con_laws_toPersonS e1016) c16_ok (by first | rfl | simp) (by simp [res_laws_toPersonS]) ?_
                    obtain ⟨v1017, e1017, hF⟩ := bind_get hF
                    refine qc (.tup [.sl 4800 0 v1017.1.length, AI v1017.2]) [(4800, .row true 1 (v1017.1.map V.str)), (4736, .row true 3 (v1016.map ePerson)), (1280, .row true 1 (v1013.1.map V.str)), (1088, .row true 3 (v1009.1.map ePerson)), (2368, .row true 3 (v1007.map ePerson)), (1280, .row true 1 (v1004.1.map V.str)), (1088, .row true 3 (v1003.map ePerson)), (640, .row true 1 (v1002.1.map V.str)), (576, .row true 3 (v1001.map ePerson))] true (con_impl_FoundersOf e1017) c17_ok (by simp [g1010, g1014, List.take_of_length_le]) (by simp [res_impl_FoundersOf]) ?_
                    refine qp (.tup [.sl 4800 0 v1017.1.length, AI v1017.2]) rfl (qp (.sl 4800 0 v1017.1.length) rfl (qp (AI v1017.2) rfl (qp (.sl 4800 0 v1017.1.length) rfl (qp (AI v1017.2) rfl ?_))))
                    refine r_nil ?_
                    refine w_seq ?_
                    refine w_reg_seq 5184 5760 rfl rfl ?_
                    refine qp (.sl 4800 0 v1017.1.length) rfl (qp (.sl 640 0 v1002.1.length) rfl ?_)
                    obtain ⟨v1019, e1019, hF⟩ := bind_get hF
                    refine qc (AB v1019) [(4800, .row true 1 (v1017.1.map V.str)), (4736, .row true 3 (v1016.map ePerson)), (1280, .row true 1 (v1013.1.map V.str)), (1088, .row true 3 (v1009.1.map ePerson)), (2368, .row true 3 (v1007.map ePerson)), (1280, .row true 1 (v1004.1.map V.str)), (1088, .row true 3 (v1003.map ePerson)), (640, .row true 1 (v1002.1.map V.str)), (576, .row true 3 (v1001.map ePerson))] true (con_laws_eqStringS e1019) c18_ok (by simp [g1010, g1014, List.take_of_length_le]) rfl ?_
                    refine qp (AB (!v1019)) rfl (qp (AB (!v1019)) rfl ?_)
                    refine q_case 83 hF rfl (fun hF => ?_) (fun hF => ?_)
                    ·
                      refine qn rfl (qn rfl (qn rfl (qp (AB true) rfl ?_)))
                      refine r_nil ?_
                      refine w_true rfl ?_
                      refine w_reg_seq 5760 5824 rfl rfl ?_
                      refine qp (AB false) rfl ?_
                      refine r_nil ?_
                      refine w_ret ?_
                      refine thenQ_r ?_
                      cases hF
                      exact endQ_r rfl (.inl ⟨_, _, by first | rfl | (simp [List.take_of_length_le]; first | exact ⟨rfl, rfl⟩ | rfl), by simp, by first | rfl | simp [res_laws_FnExactFoundersOf, List.take_of_length_le, g1010, g1014]⟩)
                    ·
                      refine qg (AI v1017.2) rfl rfl (qg (AI v1002.2) rfl rfl (qg (AB (decide (v1017.2 ≠ v1002.2))) rfl rfl (qp (AB (decide (v1017.2 ≠ v1002.2))) rfl ?_)))
                      refine r_nil ?_
                      refine w_condF hF rfl (fun hF => ?_) (fun hF => ?_)
                      ·
                        refine w_reg_seq 5760 5824 rfl rfl ?_
                        refine qp (AB false) rfl ?_
                        refine r_nil ?_
                        refine w_ret ?_
                        refine thenQ_r ?_
                        cases hF
                        exact endQ_r rfl (.inl ⟨_, _, by first | rfl | (simp [List.take_of_length_le]; first | exact ⟨rfl, rfl⟩ | rfl), by simp, by first | rfl | simp [res_laws_FnExactFoundersOf, List.take_of_length_le, g1010, g1014]⟩)
                      ·
                        refine w_skip ?_
                        refine thenQ_n ?_
                        refine w_reg_seq 5760 5824 rfl rfl ?_
                        refine qp (AI 1) rfl ?_
                        refine r_nil ?_
                        refine w_reg_seq 5824 6080 rfl rfl ?_
                        refine qp (.sl 1280 0 v1004.1.length) rfl (qp (AI 1) rfl ?_)
                        obtain ⟨v1020, e1020, hF⟩ := bind_get hF
                        refine qc (AI v1020) [(4800, .row true 1 (v1017.1.map V.str)), (4736, .row true 3 (v1016.map ePerson)), (1280, .row true 1 (v1013.1.map V.str)), (1088, .row true 3 (v1009.1.map ePerson)), (2368, .row true 3 (v1007.map ePerson)), (1280, .row true 1 (v1004.1.map V.str)), (1088, .row true 3 (v1003.map ePerson)), (640, .row true 1 (v1002.1.map V.str)), (576, .row true 3 (v1001.map ePerson))] true (con_laws_heldStringS e1020) c22_ok (by simp [g1010, g1014, List.take_of_length_le]) rfl ?_
                        refine qp (AI v1020) rfl ?_
                        refine r_nil ?_
                        refine w_seq ?_
                        refine w_reg_seq 6080 6208 rfl rfl ?_
                        refine qp (AI v1020) rfl (qp (AB (decide (v1020 < (0 : Int)))) rfl ?_)
                        refine r_nil ?_
                        refine w_condF hF rfl (fun hF => ?_) (fun hF => ?_)
                        ·
                          refine w_reg_seq 6208 6272 rfl rfl ?_
                          refine qp (AB false) rfl ?_
                          refine r_nil ?_
                          refine w_ret ?_
                          refine thenQ_r ?_
                          cases hF
                          exact endQ_r rfl (.inl ⟨_, _, by first | rfl | (simp [List.take_of_length_le]; first | exact ⟨rfl, rfl⟩ | rfl), by simp, by first | rfl | simp [res_laws_FnExactFoundersOf, List.take_of_length_le, g1010, g1014]⟩)
                        ·
                          refine w_skip ?_
                          refine thenQ_n ?_
                          refine w_seq ?_
                          refine w_reg_seq 6208 6400 rfl rfl ?_
                          refine qp (AI v1020) rfl (qp (AI v1013.2) rfl (qp (AB (decide (v1020 ≠ v1013.2))) rfl ?_))
                          refine r_nil ?_
                          refine w_condF hF rfl (fun hF => ?_) (fun hF => ?_)
                          ·
                            refine w_reg_seq 6400 6464 rfl rfl ?_
                            refine qp (AB false) rfl ?_
                            refine r_nil ?_
                            refine w_ret ?_
                            refine thenQ_r ?_
                            cases hF
                            exact endQ_r rfl (.inl ⟨_, _, by first | rfl | (simp [List.take_of_length_le]; first | exact ⟨rfl, rfl⟩ | rfl), by simp, by first | rfl | simp [res_laws_FnExactFoundersOf, List.take_of_length_le, g1010, g1014]⟩)
                          ·
                            refine w_skip ?_
                            refine thenQ_n ?_
                            refine w_reg_seq 6400 6464 rfl rfl ?_
                            refine qp (AB true) rfl ?_
                            refine r_nil ?_
                            refine w_ret ?_
                            cases hF
                            exact endQ_r rfl (.inl ⟨_, _, by first | rfl | (simp [List.take_of_length_le]; first | exact ⟨rfl, rfl⟩ | rfl), by simp, by first | rfl | simp [res_laws_FnExactFoundersOf, List.take_of_length_le, g1010, g1014]⟩)

end Go.Ab
