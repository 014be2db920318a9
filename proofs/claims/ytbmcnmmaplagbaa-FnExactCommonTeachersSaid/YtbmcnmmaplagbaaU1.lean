/- Walks (printed by auto.py, a program of this session's own). -/
import Derived.Test.YtbmcnmmaplagbaaU0
import Derived.Test.YtbmcnmmaplagbaaProg
import Derived.KernelRfl
set_option linter.unusedVariables false
set_option linter.unusedSimpArgs false
set_option maxRecDepth 8000
set_option maxHeartbeats 8000000
namespace Go.Ab
open Go.RowKit Go.Proofs

noncomputable def F_slices_IndexFunc_Sstring_string_1_l0 (v0 : List (List UInt8)) (v1 : List (List UInt8)) (k0 : Int → Option (Int)) : Int → Option (Int)
  | v7 => (bif (decide (v7 < (v0.length : Int))) then ((ix v0 v7).bind fun v1000 => ((F_impl_CommonTeachers_1 v1000 v1).bind fun v1001 => (bif v1001 then some v7
  else k0 (w64 (v7 + 1)))))
  else some (-1))
noncomputable def F_slices_IndexFunc_Sstring_string_1 (v0 : List (List UInt8)) (v1 : List (List UInt8)) : Option (Int) :=
  loop (F_slices_IndexFunc_Sstring_string_1_l0 v0 v1) 0
@[simp] def res_slices_IndexFunc_Sstring_string_1 (r : Int) : RV := .one (.one (.val (.int .i64 r)))
theorem con_slices_IndexFunc_Sstring_string_1 {v0 : List (List UInt8)} {v1 : List (List UInt8)} {r : Int} (hF : F_slices_IndexFunc_Sstring_string_1 v0 v1 = some r) : Con Try.prog 132 [.sl 1 (v0.map V.str), .fn 98 [.ptr [.sl 1 (v1.map V.str)]]] (res_slices_IndexFunc_Sstring_string_1 r) := by
  unfold F_slices_IndexFunc_Sstring_string_1 at hF
  refine con_of c132_is fun N => ?_
  refine w_reg_seq 0 64 rfl rfl ?_
  refine qp (AI 0) rfl ?_
  refine r_nil ?_
  refine w_seq ?_
  refine w_reg_seq 64 256 rfl rfl ?_
  refine qp (.val none (.sl 1 (v0.map V.str))) rfl (qp (AI (v0.length : Int)) (ev_len_n rfl) (qp (AI 0) rfl ?_))
  refine r_nil ?_
  refine w_block ?_
  refine w_ren (l' := [(0, .val none (.sl 1 (v0.map V.str))), (1, .val none (.fn 98 [.ptr [.sl 1 (v1.map V.str)]])), (7, AI (v0.length : Int)), (8, AI 0)]) (L := []) [0, 1, 7, 8] [] 1 (by first | rfl | simp) (by first | rfl | simp) (by decide) (by decide) (by decide) ?_
  refine w_loopF (F_slices_IndexFunc_Sstring_string_1_l0 v0 v1) (fun s : Int => mkS [(0, .val none (.sl 1 (v0.map V.str))), (1, .val none (.fn 98 [.ptr [.sl 1 (v1.map V.str)]])), (7, AI (v0.length : Int)), (8, AI s)] (fo []) 1) hF ?_
  rintro k0 v7 hF
  rw [F_slices_IndexFunc_Sstring_string_1_l0] at hF
  try dsimp only
  refine w_reg_seq 1 65 rfl rfl ?_
  refine qp (AB (decide (v7 < (v0.length : Int)))) rfl ?_
  refine r_nil ?_
  refine w_seq ?_
  refine w_condF hF rfl (fun hF => ?_) (fun hF => ?_)
  ·
    refine w_skip ?_
    refine thenQ_n ?_
    refine w_seq ?_
    refine w_block ?_
    refine w_reg_seq 65 193 rfl rfl ?_
    refine qp (AI v7) rfl (qp (AI v7) rfl ?_)
    refine r_nil ?_
    refine w_reg_seq 193 577 rfl rfl ?_
    refine qp (.val none (.fn 98 [.ptr [.sl 1 (v1.map V.str)]])) rfl (qp (.val none (.sl 1 (v0.map V.str))) rfl (qp (AI v7) rfl ?_))
    obtain ⟨v1000, e1000, hF⟩ := bind_get hF
    refine qp (.val none (.ptr [.str v1000])) (ev_iad_n rfl rfl e1000 rfl) (qp (AS v1000) rfl ?_)
    obtain ⟨v1001, e1001, hF⟩ := bind_get hF
    refine qcv (AB v1001) [] false rfl (con_impl_CommonTeachers_1 e1001) c98_ok (by first | rfl | simp) rfl ?_
    refine r_nil ?_
    refine w_condF hF rfl (fun hF => ?_) (fun hF => ?_)
    ·
      refine w_reg_seq 577 705 rfl rfl ?_
      refine qp (AI v7) rfl (qp (AI v7) rfl ?_)
      refine r_nil ?_
      refine w_ret ?_
      refine blockQ_r ?_
      refine thenQ_r ?_
      refine thenQ_r ?_
      refine blockQ_r ?_
      refine thenQ_r ?_
      cases hF
      exact endQ_r rfl (.inl ⟨_, _, by first | rfl | (simp [List.take_of_length_le]; first | exact ⟨rfl, rfl⟩ | rfl), by simp, by first | rfl | simp [res_slices_IndexFunc_Sstring_string_1, List.take_of_length_le]⟩)
    ·
      refine w_skip ?_
      refine blockQ_n ?_
      refine thenQ_n ?_
      refine w_reg 577 705 rfl rfl ?_
      refine qp (AI (w64 (v7 + 1))) rfl (qp (AI (w64 (v7 + 1))) rfl ?_)
      refine r_nil ?_
      refine thenQ_n ?_
      refine aw_ren (l' := [(0, .val none (.sl 1 (v0.map V.str))), (1, .val none (.fn 98 [.ptr [.sl 1 (v1.map V.str)]])), (7, AI (v0.length : Int)), (8, AI (w64 (v7 + 1)))]) (L := []) [0, 1, 7, 8] [] 1 (by first | rfl | simp) (by first | rfl | simp) (by decide) (by decide) (by decide) ⟨_, by rfl, hF⟩
  ·
    refine w_exit ?_
    refine thenQ_e ?_
    refine thenQ_e ?_
    refine blockQ_e ?_
    refine thenQ_n ?_
    refine w_reg_seq 65 129 rfl rfl ?_
    refine qp (AI (-1)) rfl ?_
    refine r_nil ?_
    refine w_ret ?_
    cases hF
    exact endQ_r rfl (.inl ⟨_, _, by first | rfl | (simp [List.take_of_length_le]; first | exact ⟨rfl, rfl⟩ | rfl), by simp, by first | rfl | simp [res_slices_IndexFunc_Sstring_string_1, List.take_of_length_le]⟩)

def c97 : MC := (.seq (.reg [⟨(some 4), none, (.f (.nilrow 1))⟩]) (.seq (.reg [⟨(some 8), none, (.p true (.mv (.t 0)))⟩, ⟨(some 9), none, (.p true (.mv (.t 1)))⟩, ⟨(some 10), none, (.call true 132 [(.t 8), (.t 9)])⟩, ⟨(some 5), none, (.p true (.mv (.t 10)))⟩]) (.seq (.seq (.reg [⟨(some 11), none, (.p true (.mv (.t 5)))⟩, ⟨(some 12), none, (.p true (.bin .eql (.t 11) (.c (.int .i64 (-1)))))⟩]) (.cond (.t 12) (.seq (.reg [⟨(some 13), none, (.p true (.mv (.t 0)))⟩, ⟨(some 4), none, (.p true (.mv (.t 13)))⟩]) .ret) .skip)) (.seq (.seq (.reg [⟨(some 14), none, (.p true (.mv (.t 5)))⟩, ⟨(some 15), none, (.p true (.bin .add (.t 14) (.c (.int .i64 1))))⟩, ⟨(some 6), none, (.p true (.mv (.t 15)))⟩]) (.block 0 (.loop (.seq (.seq (.reg [⟨(some 16), none, (.p true (.mv (.t 6)))⟩, ⟨(some 17), none, (.p true (.mv (.t 0)))⟩, ⟨(some 18), none, (.p true (.len (.t 17)))⟩, ⟨(some 19), none, (.p true (.bin .lss (.t 16) (.t 18)))⟩]) (.cond (.t 19) .skip (.exit 0))) (.seq (.block 1 (.seq (.reg [⟨(some 22), none, (.p true (.mv (.t 0)))⟩, ⟨(some 23), none, (.p true (.mv (.t 6)))⟩, ⟨(some 24), none, (.p true (.iad (.t 22) (.t 23) 1))⟩, ⟨(some 25), none, (.p true (.ld (.t 24) 1 false))⟩, ⟨(some 7), none, (.p true (.mv (.t 25)))⟩]) (.seq (.reg [⟨(some 26), none, (.p true (.mv (.t 1)))⟩, ⟨(some 27), none, (.p true (.mv (.t 7)))⟩, ⟨(some 28), none, (.callv (.t 26) [(.t 27)])⟩, ⟨(some 29), none, (.p true (.not (.t 28)))⟩]) (.cond (.t 29) (.seq (.reg [⟨(some 30), none, (.p true (.mv (.t 0)))⟩, ⟨(some 31), none, (.p true (.mv (.t 5)))⟩, ⟨(some 32), none, (.p true (.mv (.t 7)))⟩, ⟨(some 33), none, (.p true (.iad (.t 30) (.t 31) 1))⟩, ⟨none, none, (.f (.st (.t 33) (.t 32) 1))⟩]) (.reg [⟨(some 34), none, (.p true (.mv (.t 5)))⟩, ⟨(some 35), none, (.p true (.bin .add (.t 34) (.c (.int .i64 1))))⟩, ⟨(some 5), none, (.p true (.mv (.t 35)))⟩])) .skip)))) (.reg [⟨(some 20), none, (.p true (.mv (.t 6)))⟩, ⟨(some 21), none, (.p true (.bin .add (.t 20) (.c (.int .i64 1))))⟩, ⟨(some 6), none, (.p true (.mv (.t 21)))⟩])))))) (.seq (.reg [⟨(some 36), none, (.p true (.mv (.t 0)))⟩, ⟨(some 37), none, (.p true (.mv (.t 5)))⟩, ⟨(some 38), none, (.p true (.slc (.t 36) (some (.t 37)) none 1))⟩, ⟨none, none, (.f (.clr (.t 38) (.str []) 1))⟩]) (.seq (.reg [⟨(some 39), none, (.p true (.mv (.t 0)))⟩, ⟨(some 40), none, (.p true (.mv (.t 5)))⟩, ⟨(some 41), none, (.p true (.slc (.t 39) none (some (.t 40)) 1))⟩, ⟨(some 4), none, (.p true (.mv (.t 41)))⟩]) .ret))))))
theorem c97_is : compFn Try.prog 97 = some (c97, [(.tmp 4)]) := by kernel_rfl
theorem c97_ok : okFn Try.prog 97 = true := by kernel_rfl

noncomputable def F_slices_DeleteFunc_Sstring_string_l0 (v1 : List (List UInt8)) (k1 : Int × Int × (List (List UInt8)) → Option (List (List UInt8))) : Int × Int × (List (List UInt8)) → Option (List (List UInt8))
  | (v1010, v1011, v1012) => (bif (decide (v1011 < (v1012.length : Int))) then ((ix v1012 v1011).bind fun v1013 => ((F_impl_CommonTeachers_1 v1013 v1).bind fun v1014 => (bif (!v1014) then ((ix v1012 v1010).bind fun v1015 => k1 (w64 (v1010 + 1), w64 (v1011 + 1), List.set v1012 v1010.toNat v1013))
  else k1 (v1010, w64 (v1011 + 1), v1012))))
  else (need (0 ≤ v1010 ∧ v1010 ≤ (v1012.length : Int) ∧ (v1012.length : Int) ≤ (v1012.length : Int)) ((need (0 ≤ (0 : Int) ∧ (0 : Int) ≤ v1010 ∧ v1010 ≤ ((clrL v1012 v1010 (v1012.length : Int) ([] : List UInt8)).length : Int)) (some (sub (clrL v1012 v1010 (v1012.length : Int) ([] : List UInt8)) (0 : Int) v1010))))))
noncomputable def F_slices_DeleteFunc_Sstring_string (v0 : List (List UInt8)) (v1 : List (List UInt8)) : Option (List (List UInt8)) :=
  ((F_slices_IndexFunc_Sstring_string_1 v0 v1).bind fun v1000 => (bif (decide (v1000 = ((-1) : Int))) then some v0
  else loop (F_slices_DeleteFunc_Sstring_string_l0 v1) (v1000, w64 (v1000 + 1), v0)))
@[simp] def res_slices_DeleteFunc_Sstring_string (r : List (List UInt8)) : RV := .one (.one (.row true 1 (r.map V.str)))
theorem con_slices_DeleteFunc_Sstring_string {v0 : List (List UInt8)} {v1 : List (List UInt8)} {r : List (List UInt8)} (hF : F_slices_DeleteFunc_Sstring_string v0 v1 = some r) : ConX Try.prog 97 true 1 (v0.map V.str) [.fn 98 [.ptr [.sl 1 (v1.map V.str)]]] (res_slices_DeleteFunc_Sstring_string r) := by
  unfold F_slices_DeleteFunc_Sstring_string at hF
  refine conX_of (k := v0.length) c97_is (by simp) fun N => ?_
  refine w_reg_seq 64 128 rfl rfl ?_
  refine qf (.sl 64 0 0) [(64, .row true 1 (([] : List Int).map (V.int .i64))), (0, .row true 1 (v0.map V.str))] (by simp) ?_
  refine r_nil ?_
  refine w_reg_seq 128 384 rfl rfl ?_
  refine qp (.sl 0 0 v0.length) rfl (qp (.val none (.fn 98 [.ptr [.sl 1 (v1.map V.str)]])) rfl ?_)
  obtain ⟨v1000, e1000, hF⟩ := bind_get hF
  refine qc (AI v1000) [(64, .row true 1 (([] : List Int).map (V.int .i64))), (0, .row true 1 (v0.map V.str))] true (con_slices_IndexFunc_Sstring_string_1 e1000) c132_ok (by simp [List.take_of_length_le]) rfl ?_
  refine qp (AI v1000) rfl ?_
  refine r_nil ?_
  refine w_seq ?_
  refine w_reg_seq 384 512 rfl rfl ?_
  refine qp (AI v1000) rfl (qp (AB (decide (v1000 = ((-1) : Int)))) rfl ?_)
  refine r_nil ?_
  refine w_condF hF rfl (fun hF => ?_) (fun hF => ?_)
  ·
    refine w_reg_seq 512 640 rfl rfl ?_
    refine qp (.sl 0 0 v0.length) rfl (qp (.sl 0 0 v0.length) rfl ?_)
    refine r_nil ?_
    refine w_ret ?_
    refine thenQ_r ?_
    cases hF
    exact endQ_r rfl (.inl ⟨_, _, by first | rfl | (simp [List.take_of_length_le]; first | exact ⟨rfl, rfl⟩ | rfl), by simp, by first | rfl | simp [res_slices_DeleteFunc_Sstring_string, List.take_of_length_le]⟩)
  ·
    refine w_skip ?_
    refine thenQ_n ?_
    refine w_seq ?_
    refine w_reg_seq 512 704 rfl rfl ?_
    refine qp (AI v1000) rfl (qp (AI (w64 (v1000 + 1))) rfl (qp (AI (w64 (v1000 + 1))) rfl ?_))
    refine r_nil ?_
    refine w_block ?_
    refine w_ren (l' := [(0, .sl 0 0 v0.length), (1, .val none (.fn 98 [.ptr [.sl 1 (v1.map V.str)]])), (5, AI v1000), (6, AI (w64 (v1000 + 1)))]) (L := [(0, .row true 1 (v0.map V.str))]) [0, 1, 5, 6] [(0, 0)] 1 (by first | rfl | simp) (by first | rfl | simp) (by decide) (by decide) (by decide) ?_
    refine w_loopF (F_slices_DeleteFunc_Sstring_string_l0 v1) (fun s : Int × Int × (List (List UInt8)) => mkS [(0, .sl 0 0 s.2.2.length), (1, .val none (.fn 98 [.ptr [.sl 1 (v1.map V.str)]])), (5, AI s.1), (6, AI s.2.1)] (fo [(0, .row true 1 (s.2.2.map V.str))]) 1) hF ?_
    rintro k1 ⟨v1010, v1011, v1012⟩ hF
    rw [F_slices_DeleteFunc_Sstring_string_l0] at hF
    try dsimp only
    refine w_seq ?_
    refine w_reg_seq 1 257 rfl rfl ?_
    refine qp (AI v1011) rfl (qp (.sl 0 0 v1012.length) rfl (qp (AI (v1012.length : Int)) rfl (qp (AB (decide (v1011 < (v1012.length : Int)))) rfl ?_)))
    refine r_nil ?_
    refine w_condF hF rfl (fun hF => ?_) (fun hF => ?_)
    ·
      refine w_skip ?_
      refine thenQ_n ?_
      refine w_seq ?_
      refine w_block ?_
      refine w_reg_seq 257 577 rfl rfl ?_
      refine qp (.sl 0 0 v1012.length) rfl (qp (AI v1011) rfl ?_)
      obtain ⟨v1013, e1013, hF⟩ := bind_get hF
      refine qp (.ptr 0 v1011.toNat 0) (ev_iad_r rfl (by simp) rfl rfl e1013) (qp (AS v1013) (ev_ld_r rfl rfl (ix_some e1013).2 rfl rfl) (qp (AS v1013) rfl ?_))
      refine r_nil ?_
      refine w_reg_seq 577 833 rfl rfl ?_
      refine qp (.val none (.fn 98 [.ptr [.sl 1 (v1.map V.str)]])) rfl (qp (AS v1013) rfl ?_)
      obtain ⟨v1014, e1014, hF⟩ := bind_get hF
      refine qcv (AB v1014) [(0, .row true 1 (v1012.map V.str))] false rfl (con_impl_CommonTeachers_1 e1014) c98_ok (by first | rfl | simp) rfl ?_
      refine qp (AB (!v1014)) rfl ?_
      refine r_nil ?_
      refine w_condF hF rfl (fun hF => ?_) (fun hF => ?_)
      ·
        refine w_reg_seq 833 1153 rfl rfl ?_
        refine qp (.sl 0 0 v1012.length) rfl (qp (AI v1010) rfl (qp (AS v1013) rfl ?_))
        obtain ⟨v1015, e1015, hF⟩ := bind_get hF
        refine qp (.ptr 0 v1010.toNat 0) (ev_iad_r rfl (by simp) rfl rfl e1015) ?_
        refine qf0 (.undef) [(0, .row true 1 ((List.set v1012 v1010.toNat v1013).map V.str)), (0, .row true 1 (v1012.map V.str))] (effT_st rfl rfl (ix_some e1015).2 rfl rfl (by rfl) (by first | rfl | simp [patch, reb, List.take_of_length_le]) (by rfl) rfl) ?_
        refine r_nil ?_
        refine w_reg 1153 1345 rfl rfl ?_
        refine qp (AI v1010) rfl (qp (AI (w64 (v1010 + 1))) rfl (qp (AI (w64 (v1010 + 1))) rfl ?_))
        refine r_nil ?_
        refine blockQ_n ?_
        refine thenQ_n ?_
        refine w_reg 1345 1537 rfl rfl ?_
        refine qp (AI v1011) rfl (qp (AI (w64 (v1011 + 1))) rfl (qp (AI (w64 (v1011 + 1))) rfl ?_))
        refine r_nil ?_
        refine thenQ_n ?_
        refine aw_ren (l' := [(0, .sl 0 0 (List.set v1012 v1010.toNat v1013).length), (1, .val none (.fn 98 [.ptr [.sl 1 (v1.map V.str)]])), (5, AI (w64 (v1010 + 1))), (6, AI (w64 (v1011 + 1)))]) (L := [(0, .row true 1 ((List.set v1012 v1010.toNat v1013).map V.str))]) [0, 1, 5, 6] [(0, 0)] 1 (by first | rfl | simp) (by first | rfl | simp) (by decide) (by decide) (by decide) ⟨_, by rfl, hF⟩
      ·
        refine w_skip ?_
        refine blockQ_n ?_
        refine thenQ_n ?_
        refine w_reg 833 1025 rfl rfl ?_
        refine qp (AI v1011) rfl (qp (AI (w64 (v1011 + 1))) rfl (qp (AI (w64 (v1011 + 1))) rfl ?_))
        refine r_nil ?_
        refine thenQ_n ?_
        refine aw_ren (l' := [(0, .sl 0 0 v1012.length), (1, .val none (.fn 98 [.ptr [.sl 1 (v1.map V.str)]])), (5, AI v1010), (6, AI (w64 (v1011 + 1)))]) (L := [(0, .row true 1 (v1012.map V.str))]) [0, 1, 5, 6] [(0, 0)] 1 (by first | rfl | simp) (by first | rfl | simp) (by decide) (by decide) (by decide) ⟨_, by rfl, hF⟩
    ·
      refine w_exit ?_
      refine thenQ_e ?_
      refine thenQ_e ?_
      refine blockQ_e ?_
      refine thenQ_n ?_
      refine w_reg_seq 257 513 rfl rfl ?_
      refine qp (.sl 0 0 v1012.length) rfl (qp (AI v1010) rfl ?_)
      obtain ⟨g1016, hF⟩ := need_some hF
      refine qp (.sl 0 v1010.toNat ((v1012.length : Int).toNat - v1010.toNat)) (ev_slc_r rfl (by simp) rfl (bnd_some rfl g1016.1) rfl g1016) ?_
      refine qf0 (.undef) [(0, .row true 1 ((clrL v1012 v1010 (v1012.length : Int) ([] : List UInt8)).map V.str)), (0, .row true 1 (v1012.map V.str))] (effT_clr rfl rfl g1016 rfl (by decide)) ?_
      refine r_nil ?_
      refine w_reg_seq 513 769 rfl rfl ?_
      refine qp (.sl 0 0 v1012.length) rfl (qp (AI v1010) rfl ?_)
      obtain ⟨g1017, hF⟩ := need_some hF
      refine qp (.sl 0 (0 : Int).toNat (v1010.toNat - (0 : Int).toNat)) (ev_slc_r rfl (by simp [clrL_len g1016]) rfl rfl (bnd_some rfl (Int.le_trans g1017.1 g1017.2.1)) g1017) (qp (.sl 0 (0 : Int).toNat (v1010.toNat - (0 : Int).toNat)) rfl ?_)
      refine r_nil ?_
      have g1018 : 0 ≤ (0 : Int) ∧ (0 : Int) ≤ v1010 ∧ v1010 ≤ ((clrL v1012 v1010 (v1012.length : Int) ([] : List UInt8)).length : Int) := by first | exact g1017 | (have h := g1017; simp only [clrL_len g1016] at h ⊢; exact h)
      refine w_drop (l' := [(4, .sl 0 (0 : Int).toNat (v1010.toNat - (0 : Int).toNat))]) [4] (by first | rfl | simp [clrL_len g1016]) ?_
      refine w_rebF (l' := [(4, .sl 0 0 ((sub (clrL v1012 v1010 (v1012.length : Int) ([] : List UInt8)) (0 : Int) v1010).length))]) (r := 0) (lo := (0 : Int)) (hi := v1010) rfl g1018 (RebL.part (sub_len g1018) RebL.nil) rfl ?_
      refine w_ret ?_
      cases hF
      exact endQ_r rfl (.inl ⟨_, _, by first | rfl | (simp [List.take_of_length_le]; first | exact ⟨rfl, rfl⟩ | rfl), by simp, by first | rfl | simp [res_slices_DeleteFunc_Sstring_string, List.take_of_length_le, clrL_len g1016]⟩)

def c52 : MC := (.seq (.reg [⟨(some 6), none, (.f (.nilrow 1))⟩, ⟨(some 7), none, (.p true (.mv (.c (.int .i64 0))))⟩]) (.seq (.seq (.reg [⟨(some 10), none, (.p true (.mv (.t 0)))⟩, ⟨(some 11), none, (.p true (.mv (.t 1)))⟩, ⟨(some 12), none, (.p true (.mv (.t 2)))⟩, ⟨(some 13), none, (.f (.bsl 1 [(.t 11), (.t 12)]))⟩, ⟨(some 14), none, (.call true 65 [(.t 10), (.t 13)])⟩, ⟨(some 8), none, (.p true (.mv (.t 14)))⟩]) (.seq (.reg [⟨(some 15), none, (.p true (.mv (.t 8)))⟩, ⟨(some 16), none, (.p true (.bin .neq (.t 15) (.c (.int .i64 0))))⟩]) (.cond (.t 16) (.seq (.reg [⟨(some 17), none, (.p true (.mv (.t 8)))⟩, ⟨(some 6), none, (.f (.nilrow 1))⟩, ⟨(some 7), none, (.p true (.mv (.t 17)))⟩]) .ret) .skip))) (.seq (.reg [⟨(some 18), none, (.p true (.mv (.t 0)))⟩, ⟨(some 19), none, (.p true (.mv (.t 2)))⟩, ⟨(some 20), none, (.call true 96 [(.t 18), (.t 19)])⟩, ⟨(some 9), none, (.f (.alloc [((.sl 0 []), (1, false))]))⟩, ⟨none, none, (.f (.st (.t 9) (.t 20) 1))⟩]) (.seq (.reg [⟨(some 21), none, (.p true (.mv (.t 0)))⟩, ⟨(some 22), none, (.p true (.mv (.t 1)))⟩, ⟨(some 23), none, (.call true 96 [(.t 21), (.t 22)])⟩, ⟨(some 24), none, (.p true (.mkf 98 [(.t 9)]))⟩, ⟨(some 25), none, (.call true 97 [(.t 23), (.t 24)])⟩, ⟨(some 6), none, (.p true (.mv (.t 25)))⟩, ⟨(some 7), none, (.p true (.mv (.c (.int .i64 0))))⟩]) .ret))))
theorem c52_is : compFn Try.prog 52 = some (c52, [(.tmp 6), (.tmp 7)]) := by kernel_rfl
theorem c52_ok : okFn Try.prog 52 = true := by kernel_rfl

noncomputable def F_impl_CommonTeachers (v0 : List TPerson) (v1 : List UInt8) (v2 : List UInt8) : Option ((List (List UInt8)) × Int) :=
  ((F_impl_personsCode v0 [v1, v2]).bind fun v1000 => (bif (decide (v1000 ≠ (0 : Int))) then some ([], v1000)
  else ((F_impl_teachersOf v0 v2).bind fun v1001 => ((F_impl_teachersOf v0 v1).bind fun v1002 => ((F_slices_DeleteFunc_Sstring_string v1002 v1001).bind fun v1003 => some (v1003, 0))))))
@[simp] def res_impl_CommonTeachers (r : (List (List UInt8)) × Int) : RV := .tup [.one (.row true 1 (r.1.map V.str)), .one (.val (.int .i64 r.2))]
theorem con_impl_CommonTeachers {v0 : List TPerson} {v1 : List UInt8} {v2 : List UInt8} {r : (List (List UInt8)) × Int} (hF : F_impl_CommonTeachers v0 v1 v2 = some r) : Con Try.prog 52 [.sl 3 (v0.map ePerson), .str v1, .str v2] (res_impl_CommonTeachers r) := by
  unfold F_impl_CommonTeachers at hF
  refine con_of c52_is fun N => ?_
  refine w_reg_seq 0 128 rfl rfl ?_
  refine qf (.sl 0 0 0) [(0, .row true 1 (([] : List Int).map (V.int .i64)))] (by simp) ?_
  refine qp (AI 0) rfl ?_
  refine r_nil ?_
  refine w_seq ?_
  refine w_reg_seq 128 512 rfl rfl ?_
  refine qp (.val none (.sl 3 (v0.map ePerson))) rfl (qp (AS v1) rfl (qp (AS v2) rfl ?_))
  refine qf (.sl 320 0 ([v1, v2].length)) [(320, .row true 1 ([v1, v2].map V.str)), (0, .row true 1 (([] : List Int).map (V.int .i64)))] (by simp [List.take_of_length_le]) ?_
  obtain ⟨v1000, e1000, hF⟩ := bind_get hF
  refine qc (AI v1000) [(320, .row true 1 ([v1, v2].map V.str)), (0, .row true 1 (([] : List Int).map (V.int .i64)))] true (con_impl_personsCode e1000) c65_ok (by simp [List.take_of_length_le]) rfl ?_
  refine qp (AI v1000) rfl ?_
  refine r_nil ?_
  refine w_reg_seq 512 640 rfl rfl ?_
  refine qp (AI v1000) rfl (qp (AB (decide (v1000 ≠ (0 : Int)))) rfl ?_)
  refine r_nil ?_
  refine w_condF hF rfl (fun hF => ?_) (fun hF => ?_)
  ·
    refine w_reg_seq 640 832 rfl rfl ?_
    refine qp (AI v1000) rfl ?_
    refine qf (.sl 704 0 0) [(704, .row true 1 (([] : List (List UInt8)).map V.str)), (320, .row true 1 ([v1, v2].map V.str)), (0, .row true 1 (([] : List Int).map (V.int .i64)))] (by simp) ?_
    refine qp (AI v1000) rfl ?_
    refine r_nil ?_
    refine w_ret ?_
    refine thenQ_r ?_
    cases hF
    exact endQ_r rfl (.inl ⟨_, _, by first | rfl | (simp [List.take_of_length_le]; first | exact ⟨rfl, rfl⟩ | rfl), by simp, by first | rfl | simp [res_impl_CommonTeachers, List.take_of_length_le]⟩)
  ·
    refine w_skip ?_
    refine thenQ_n ?_
    refine w_reg_seq 640 960 rfl rfl ?_
    refine qp (.val none (.sl 3 (v0.map ePerson))) rfl (qp (AS v2) rfl ?_)
    obtain ⟨v1001, e1001, hF⟩ := bind_get hF
    refine qc (.sl 768 0 v1001.length) [(768, .row true 1 (v1001.map V.str)), (320, .row true 1 ([v1, v2].map V.str)), (0, .row true 1 (([] : List Int).map (V.int .i64)))] false (con_impl_teachersOf e1001) c96_ok (by first | rfl | simp) (by simp [res_impl_teachersOf]) ?_
    refine qf (.ptr 832 0 0) [(832, .box [.sl 833 0 0]), (833, .row true 1 (([] : List Int).map (V.int .i64))), (768, .row true 1 (v1001.map V.str)), (320, .row true 1 ([v1, v2].map V.str)), (0, .row true 1 (([] : List Int).map (V.int .i64)))] (by simp) ?_
    refine qf0 (.undef) [(832, .box [.sl 768 0 v1001.length]), (832, .box [.sl 833 0 0]), (833, .row true 1 (([] : List Int).map (V.int .i64))), (768, .row true 1 (v1001.map V.str)), (320, .row true 1 ([v1, v2].map V.str)), (0, .row true 1 (([] : List Int).map (V.int .i64)))] (by simp) ?_
    refine r_nil ?_
    refine w_reg_seq 960 1408 rfl rfl ?_
    refine qp (.val none (.sl 3 (v0.map ePerson))) rfl (qp (AS v1) rfl ?_)
    obtain ⟨v1002, e1002, hF⟩ := bind_get hF
    refine qc (.sl 1088 0 v1002.length) [(1088, .row true 1 (v1002.map V.str)), (832, .box [.sl 768 0 v1001.length]), (832, .box [.sl 833 0 0]), (833, .row true 1 (([] : List Int).map (V.int .i64))), (768, .row true 1 (v1001.map V.str)), (320, .row true 1 ([v1, v2].map V.str)), (0, .row true 1 (([] : List Int).map (V.int .i64)))] false (con_impl_teachersOf e1002) c96_ok (by first | rfl | simp) (by simp [res_impl_teachersOf]) ?_
    refine qp (.fn 98 [.ptr 832 0 0]) rfl ?_
    obtain ⟨v1003, e1003, hF⟩ := bind_get hF
    refine qX (.sl 1216 0 v1003.length) [(1216, .row true 1 (v1003.map V.str)), (1088, .dead), (1088, .row true 1 (v1002.map V.str)), (832, .box [.sl 768 0 v1001.length]), (832, .box [.sl 833 0 0]), (833, .row true 1 (([] : List Int).map (V.int .i64))), (768, .row true 1 (v1001.map V.str)), (320, .row true 1 ([v1, v2].map V.str)), (0, .row true 1 (([] : List Int).map (V.int .i64)))] true rfl rfl (whole_row (by simp)) (con_slices_DeleteFunc_Sstring_string e1003) c97_ok (by simp [List.take_of_length_le]) (by simp [res_slices_DeleteFunc_Sstring_string]) ?_
    refine qp (.sl 1216 0 v1003.length) rfl (qp (AI 0) rfl ?_)
    refine r_nil ?_
    refine w_ret ?_
    cases hF
    exact endQ_r rfl (.inl ⟨_, _, by first | rfl | (simp [List.take_of_length_le]; first | exact ⟨rfl, rfl⟩ | rfl), by simp, by first | rfl | simp [res_impl_CommonTeachers, List.take_of_length_le]⟩)

def c46 : MC := (.seq (.reg [⟨(some 4), none, (.p true (.mv (.c (.bool false))))⟩]) (.seq (.seq (.reg [⟨(some 6), none, (.p true (.mv (.t 0)))⟩, ⟨(some 7), none, (.p true (.len (.t 6)))⟩, ⟨(some 8), none, (.p true (.mv (.t 1)))⟩, ⟨(some 9), none, (.p true (.len (.t 8)))⟩, ⟨(some 10), none, (.p true (.bin .neq (.t 7) (.t 9)))⟩]) (.cond (.t 10) (.seq (.reg [⟨(some 4), none, (.p true (.mv (.c (.bool false))))⟩]) .ret) .skip)) (.seq (.seq (.reg [⟨(some 5), none, (.p true (.mv (.c (.int .i64 0))))⟩]) (.block 0 (.loop (.seq (.seq (.reg [⟨(some 11), none, (.p true (.mv (.t 5)))⟩, ⟨(some 12), none, (.p true (.mv (.t 0)))⟩, ⟨(some 13), none, (.p true (.len (.t 12)))⟩, ⟨(some 14), none, (.p true (.bin .lss (.t 11) (.t 13)))⟩]) (.cond (.t 14) .skip (.exit 0))) (.seq (.block 1 (.seq (.reg [⟨(some 17), none, (.p false (.mv (.t 0)))⟩, ⟨(some 18), none, (.p false (.mv (.t 5)))⟩, ⟨(some 19), none, (.p false (.iad (.t 17) (.t 18) 1))⟩, ⟨(some 20), none, (.p false (.ld (.t 19) 1 false))⟩, ⟨(some 21), none, (.p false (.mv (.t 1)))⟩, ⟨(some 22), none, (.p false (.mv (.t 5)))⟩, ⟨(some 23), none, (.p false (.iad (.t 21) (.t 22) 1))⟩, ⟨(some 24), none, (.p false (.ld (.t 23) 1 false))⟩, ⟨(some 25), none, (.p false (.bin .neq (.t 20) (.t 24)))⟩]) (.cond (.t 25) (.seq (.reg [⟨(some 4), none, (.p true (.mv (.c (.bool false))))⟩]) .ret) .skip))) (.reg [⟨(some 15), none, (.p true (.mv (.t 5)))⟩, ⟨(some 16), none, (.p true (.bin .add (.t 15) (.c (.int .i64 1))))⟩, ⟨(some 5), none, (.p true (.mv (.t 16)))⟩])))))) (.seq (.reg [⟨(some 4), none, (.p true (.mv (.c (.bool true))))⟩]) .ret))))
theorem c46_is : compFn Try.prog 46 = some (c46, [(.tmp 4)]) := by kernel_rfl
theorem c46_ok : okFn Try.prog 46 = true := by kernel_rfl

noncomputable def F_laws_eqStringS_l0 (v0 : List (List UInt8)) (v1 : List (List UInt8)) (k0 : Int → Option (Bool)) : Int → Option (Bool)
  | v7 => (bif (decide (v7 < (v0.length : Int))) then ((ix v0 v7).bind fun v1000 => ((ix v1 v7).bind fun v1001 => (bif (decide (v1000 ≠ v1001)) then some false
  else k0 (w64 (v7 + 1)))))
  else some true)
noncomputable def F_laws_eqStringS (v0 : List (List UInt8)) (v1 : List (List UInt8)) : Option (Bool) :=
  (bif (decide ((v0.length : Int) ≠ (v1.length : Int))) then some false
  else loop (F_laws_eqStringS_l0 v0 v1) 0)
@[simp] def res_laws_eqStringS (r : Bool) : RV := .one (.one (.val (.bool r)))
theorem con_laws_eqStringS {v0 : List (List UInt8)} {v1 : List (List UInt8)} {r : Bool} (hF : F_laws_eqStringS v0 v1 = some r) : Con Try.prog 46 [.sl 1 (v0.map V.str), .sl 1 (v1.map V.str)] (res_laws_eqStringS r) := by
  unfold F_laws_eqStringS at hF
  refine con_of c46_is fun N => ?_
  refine w_reg_seq 0 64 rfl rfl ?_
  refine qp (AB false) rfl ?_
  refine r_nil ?_
  refine w_seq ?_
  refine w_reg_seq 64 384 rfl rfl ?_
  refine qp (.val none (.sl 1 (v0.map V.str))) rfl (qp (AI (v0.length : Int)) (ev_len_n rfl) (qp (.val none (.sl 1 (v1.map V.str))) rfl (qp (AI (v1.length : Int)) (ev_len_n rfl) (qp (AB (decide ((v0.length : Int) ≠ (v1.length : Int)))) rfl ?_))))
  refine r_nil ?_
  refine w_condF hF rfl (fun hF => ?_) (fun hF => ?_)
  ·
    refine w_reg_seq 384 448 rfl rfl ?_
    refine qp (AB false) rfl ?_
    refine r_nil ?_
    refine w_ret ?_
    refine thenQ_r ?_
    cases hF
    exact endQ_r rfl (.inl ⟨_, _, by first | rfl | (simp [List.take_of_length_le]; first | exact ⟨rfl, rfl⟩ | rfl), by simp, by first | rfl | simp [res_laws_eqStringS, List.take_of_length_le]⟩)
  ·
    refine w_skip ?_
    refine thenQ_n ?_
    refine w_seq ?_
    refine w_reg_seq 384 448 rfl rfl ?_
    refine qp (AI 0) rfl ?_
    refine r_nil ?_
    refine w_block ?_
    refine w_ren (l' := [(0, .val none (.sl 1 (v0.map V.str))), (1, .val none (.sl 1 (v1.map V.str))), (5, AI 0)]) (L := []) [0, 1, 5] [] 1 (by first | rfl | simp) (by first | rfl | simp) (by decide) (by decide) (by decide) ?_
    refine w_loopF (F_laws_eqStringS_l0 v0 v1) (fun s : Int => mkS [(0, .val none (.sl 1 (v0.map V.str))), (1, .val none (.sl 1 (v1.map V.str))), (5, AI s)] (fo []) 1) hF ?_
    rintro k0 v7 hF
    rw [F_laws_eqStringS_l0] at hF
    try dsimp only
    refine w_seq ?_
    refine w_reg_seq 1 257 rfl rfl ?_
    refine qp (AI v7) rfl (qp (.val none (.sl 1 (v0.map V.str))) rfl (qp (AI (v0.length : Int)) (ev_len_n rfl) (qp (AB (decide (v7 < (v0.length : Int)))) rfl ?_)))
    refine r_nil ?_
    refine w_condF hF rfl (fun hF => ?_) (fun hF => ?_)
    ·
      refine w_skip ?_
      refine thenQ_n ?_
      refine w_seq ?_
      refine w_block ?_
      refine w_reg_seq 257 833 rfl rfl ?_
      refine qp (.val none (.sl 1 (v0.map V.str))) rfl (qp (AI v7) rfl ?_)
      obtain ⟨v1000, e1000, hF⟩ := bind_get hF
      refine qp (.val none (.ptr [.str v1000])) (ev_iad_n rfl rfl e1000 rfl) (qp (AS v1000) rfl (qp (.val none (.sl 1 (v1.map V.str))) rfl (qp (AI v7) rfl ?_)))
      obtain ⟨v1001, e1001, hF⟩ := bind_get hF
      refine qp (.val none (.ptr [.str v1001])) (ev_iad_n rfl rfl e1001 rfl) (qp (AS v1001) rfl (qp (AB (decide (v1000 ≠ v1001))) rfl ?_))
      refine r_nil ?_
      refine w_condF hF rfl (fun hF => ?_) (fun hF => ?_)
      ·
        refine w_reg_seq 833 897 rfl rfl ?_
        refine qp (AB false) rfl ?_
        refine r_nil ?_
        refine w_ret ?_
        refine blockQ_r ?_
        refine thenQ_r ?_
        refine thenQ_r ?_
        refine blockQ_r ?_
        refine thenQ_r ?_
        cases hF
        exact endQ_r rfl (.inl ⟨_, _, by first | rfl | (simp [List.take_of_length_le]; first | exact ⟨rfl, rfl⟩ | rfl), by simp, by first | rfl | simp [res_laws_eqStringS, List.take_of_length_le]⟩)
      ·
        refine w_skip ?_
        refine blockQ_n ?_
        refine thenQ_n ?_
        refine w_reg 833 1025 rfl rfl ?_
        refine qp (AI v7) rfl (qp (AI (w64 (v7 + 1))) rfl (qp (AI (w64 (v7 + 1))) rfl ?_))
        refine r_nil ?_
        refine thenQ_n ?_
        refine aw_ren (l' := [(0, .val none (.sl 1 (v0.map V.str))), (1, .val none (.sl 1 (v1.map V.str))), (5, AI (w64 (v7 + 1)))]) (L := []) [0, 1, 5] [] 1 (by first | rfl | simp) (by first | rfl | simp) (by decide) (by decide) (by decide) ⟨_, by rfl, hF⟩
    ·
      refine w_exit ?_
      refine thenQ_e ?_
      refine thenQ_e ?_
      refine blockQ_e ?_
      refine thenQ_n ?_
      refine w_reg_seq 257 321 rfl rfl ?_
      refine qp (AB true) rfl ?_
      refine r_nil ?_
      refine w_ret ?_
      cases hF
      exact endQ_r rfl (.inl ⟨_, _, by first | rfl | (simp [List.take_of_length_le]; first | exact ⟨rfl, rfl⟩ | rfl), by simp, by first | rfl | simp [res_laws_eqStringS, List.take_of_length_le]⟩)

def c34 : MC := (.seq (.reg [⟨(some 2), none, (.f (.box (.t 0)))⟩, ⟨(some 3), none, (.f (.box (.t 1)))⟩, ⟨(some 4), none, (.p true (.mv (.c (.bool false))))⟩]) (.seq (.seq (.reg [⟨(some 5), none, (.p true (.fad (.t 2) 0))⟩, ⟨(some 6), none, (.p true (.ld (.t 5) 1 false))⟩, ⟨(some 7), none, (.p true (.fad (.t 3) 0))⟩, ⟨(some 8), none, (.p true (.ld (.t 7) 1 false))⟩, ⟨(some 9), none, (.p true (.bin .neq (.t 6) (.t 8)))⟩]) (.cond (.t 9) (.seq (.reg [⟨(some 4), none, (.p true (.mv (.c (.bool false))))⟩]) .ret) .skip)) (.seq (.seq (.reg [⟨(some 10), none, (.p true (.fad (.t 2) 1))⟩, ⟨(some 11), none, (.p true (.ld (.t 10) 1 false))⟩, ⟨(some 12), none, (.p true (.fad (.t 3) 1))⟩, ⟨(some 13), none, (.p true (.ld (.t 12) 1 false))⟩, ⟨(some 14), none, (.p true (.bin .neq (.t 11) (.t 13)))⟩]) (.cond (.t 14) (.seq (.reg [⟨(some 4), none, (.p true (.mv (.c (.bool false))))⟩]) .ret) .skip)) (.seq (.seq (.reg [⟨(some 15), none, (.p true (.fad (.t 2) 2))⟩, ⟨(some 16), none, (.p true (.ld (.t 15) 1 false))⟩, ⟨(some 17), none, (.p true (.fad (.t 3) 2))⟩, ⟨(some 18), none, (.p true (.ld (.t 17) 1 false))⟩, ⟨(some 19), none, (.call true 46 [(.t 16), (.t 18)])⟩, ⟨(some 20), none, (.p true (.not (.t 19)))⟩]) (.cond (.t 20) (.seq (.reg [⟨(some 4), none, (.p true (.mv (.c (.bool false))))⟩]) .ret) .skip)) (.seq (.reg [⟨(some 4), none, (.p true (.mv (.c (.bool true))))⟩]) .ret)))))
theorem c34_is : compFn Try.prog 34 = some (c34, [(.tmp 4)]) := by kernel_rfl
theorem c34_ok : okFn Try.prog 34 = true := by kernel_rfl

noncomputable def F_laws_eqPerson (v0 : TPerson) (v1 : TPerson) : Option (Bool) :=
  (bif (decide (v0.1 ≠ v1.1)) then some false
  else (bif (decide (v0.2.1 ≠ v1.2.1)) then some false
  else ((F_laws_eqStringS v0.2.2 v1.2.2).bind fun v1000 => (bif (!v1000) then some false
  else some true))))
@[simp] def res_laws_eqPerson (r : Bool) : RV := .one (.one (.val (.bool r)))
theorem con_laws_eqPerson {v0 : TPerson} {v1 : TPerson} {r : Bool} (hF : F_laws_eqPerson v0 v1 = some r) : Con Try.prog 34 [ePerson v0, ePerson v1] (res_laws_eqPerson r) := by
  unfold F_laws_eqPerson at hF
  refine con_of c34_is fun N => ?_
  refine w_reg_seq 0 192 rfl rfl ?_
  refine qf (.ptr 0 0 0) [(0, .box [AS v0.1, AI v0.2.1, .val none (.sl 1 (v0.2.2.map V.str))])] (by simp) ?_
  refine qf (.ptr 64 0 0) [(64, .box [AS v1.1, AI v1.2.1, .val none (.sl 1 (v1.2.2.map V.str))]), (0, .box [AS v0.1, AI v0.2.1, .val none (.sl 1 (v0.2.2.map V.str))])] (by simp) ?_
  refine qp (AB false) rfl ?_
  refine r_nil ?_
  refine w_seq ?_
  refine w_reg_seq 192 512 rfl rfl ?_
  refine qp (.ptr 0 0 0) rfl (qp (AS v0.1) rfl (qp (.ptr 64 0 0) rfl (qp (AS v1.1) rfl (qp (AB (decide (v0.1 ≠ v1.1))) rfl ?_))))
  refine r_nil ?_
  refine w_condF hF rfl (fun hF => ?_) (fun hF => ?_)
  ·
    refine w_reg_seq 512 576 rfl rfl ?_
    refine qp (AB false) rfl ?_
    refine r_nil ?_
    refine w_ret ?_
    refine thenQ_r ?_
    cases hF
    exact endQ_r rfl (.inl ⟨_, _, by first | rfl | (simp [List.take_of_length_le]; first | exact ⟨rfl, rfl⟩ | rfl), by simp, by first | rfl | simp [res_laws_eqPerson, List.take_of_length_le]⟩)
  ·
    refine w_skip ?_
    refine thenQ_n ?_
    refine w_seq ?_
    refine w_reg_seq 512 832 rfl rfl ?_
    refine qp (.ptr 0 0 1) rfl (qp (AI v0.2.1) rfl (qp (.ptr 64 0 1) rfl (qp (AI v1.2.1) rfl (qp (AB (decide (v0.2.1 ≠ v1.2.1))) rfl ?_))))
    refine r_nil ?_
    refine w_condF hF rfl (fun hF => ?_) (fun hF => ?_)
    ·
      refine w_reg_seq 832 896 rfl rfl ?_
      refine qp (AB false) rfl ?_
      refine r_nil ?_
      refine w_ret ?_
      refine thenQ_r ?_
      cases hF
      exact endQ_r rfl (.inl ⟨_, _, by first | rfl | (simp [List.take_of_length_le]; first | exact ⟨rfl, rfl⟩ | rfl), by simp, by first | rfl | simp [res_laws_eqPerson, List.take_of_length_le]⟩)
    ·
      refine w_skip ?_
      refine thenQ_n ?_
      refine w_seq ?_
      refine w_reg_seq 832 1216 rfl rfl ?_
      refine qp (.ptr 0 0 2) rfl (qp (.val none (.sl 1 (v0.2.2.map V.str))) rfl (qp (.ptr 64 0 2) rfl (qp (.val none (.sl 1 (v1.2.2.map V.str))) rfl ?_)))
      obtain ⟨v1000, e1000, hF⟩ := bind_get hF
      refine qc (AB v1000) [(64, .box [AS v1.1, AI v1.2.1, .val none (.sl 1 (v1.2.2.map V.str))]), (0, .box [AS v0.1, AI v0.2.1, .val none (.sl 1 (v0.2.2.map V.str))])] false (con_laws_eqStringS e1000) c46_ok (by first | rfl | simp) rfl ?_
      refine qp (AB (!v1000)) rfl ?_
      refine r_nil ?_
      refine w_condF hF rfl (fun hF => ?_) (fun hF => ?_)
      ·
        refine w_reg_seq 1216 1280 rfl rfl ?_
        refine qp (AB false) rfl ?_
        refine r_nil ?_
        refine w_ret ?_
        refine thenQ_r ?_
        cases hF
        exact endQ_r rfl (.inl ⟨_, _, by first | rfl | (simp [List.take_of_length_le]; first | exact ⟨rfl, rfl⟩ | rfl), by simp, by first | rfl | simp [res_laws_eqPerson, List.take_of_length_le]⟩)
      ·
        refine w_skip ?_
        refine thenQ_n ?_
        refine w_reg_seq 1216 1280 rfl rfl ?_
        refine qp (AB true) rfl ?_
        refine r_nil ?_
        refine w_ret ?_
        cases hF
        exact endQ_r rfl (.inl ⟨_, _, by first | rfl | (simp [List.take_of_length_le]; first | exact ⟨rfl, rfl⟩ | rfl), by simp, by first | rfl | simp [res_laws_eqPerson, List.take_of_length_le]⟩)

def c18 : MC := (.seq (.reg [⟨(some 4), none, (.p true (.mv (.c (.bool false))))⟩]) (.seq (.seq (.reg [⟨(some 6), none, (.p true (.mv (.t 0)))⟩, ⟨(some 7), none, (.p true (.len (.t 6)))⟩, ⟨(some 8), none, (.p true (.mv (.t 1)))⟩, ⟨(some 9), none, (.p true (.len (.t 8)))⟩, ⟨(some 10), none, (.p true (.bin .neq (.t 7) (.t 9)))⟩]) (.cond (.t 10) (.seq (.reg [⟨(some 4), none, (.p true (.mv (.c (.bool false))))⟩]) .ret) .skip)) (.seq (.seq (.reg [⟨(some 5), none, (.p true (.mv (.c (.int .i64 0))))⟩]) (.block 0 (.loop (.seq (.seq (.reg [⟨(some 11), none, (.p true (.mv (.t 5)))⟩, ⟨(some 12), none, (.p true (.mv (.t 0)))⟩, ⟨(some 13), none, (.p true (.len (.t 12)))⟩, ⟨(some 14), none, (.p true (.bin .lss (.t 11) (.t 13)))⟩]) (.cond (.t 14) .skip (.exit 0))) (.seq (.block 1 (.seq (.reg [⟨(some 17), none, (.p false (.mv (.t 0)))⟩, ⟨(some 18), none, (.p false (.mv (.t 5)))⟩, ⟨(some 19), none, (.p false (.iad (.t 17) (.t 18) 3))⟩, ⟨(some 20), none, (.p false (.ld (.t 19) 3 true))⟩, ⟨(some 21), none, (.p false (.mv (.t 1)))⟩, ⟨(some 22), none, (.p false (.mv (.t 5)))⟩, ⟨(some 23), none, (.p false (.iad (.t 21) (.t 22) 3))⟩, ⟨(some 24), none, (.p false (.ld (.t 23) 3 true))⟩, ⟨(some 25), none, (.call false 34 [(.t 20), (.t 24)])⟩, ⟨(some 26), none, (.p false (.not (.t 25)))⟩]) (.cond (.t 26) (.seq (.reg [⟨(some 4), none, (.p true (.mv (.c (.bool false))))⟩]) .ret) .skip))) (.reg [⟨(some 15), none, (.p true (.mv (.t 5)))⟩, ⟨(some 16), none, (.p true (.bin .add (.t 15) (.c (.int .i64 1))))⟩, ⟨(some 5), none, (.p true (.mv (.t 16)))⟩])))))) (.seq (.reg [⟨(some 4), none, (.p true (.mv (.c (.bool true))))⟩]) .ret))))
theorem c18_is : compFn Try.prog 18 = some (c18, [(.tmp 4)]) := by kernel_rfl
theorem c18_ok : okFn Try.prog 18 = true := by kernel_rfl

noncomputable def F_laws_eqPersonS_l0 (v0 : List TPerson) (v1 : List TPerson) (k0 : Int → Option (Bool)) : Int → Option (Bool)
  | v9 => (bif (decide (v9 < (v0.length : Int))) then ((ix v0 v9).bind fun v1000 => ((ix v1 v9).bind fun v1001 => ((F_laws_eqPerson v1000 v1001).bind fun v1002 => (bif (!v1002) then some false
  else k0 (w64 (v9 + 1))))))
  else some true)
noncomputable def F_laws_eqPersonS (v0 : List TPerson) (v1 : List TPerson) : Option (Bool) :=
  (bif (decide ((v0.length : Int) ≠ (v1.length : Int))) then some false
  else loop (F_laws_eqPersonS_l0 v0 v1) 0)
@[simp] def res_laws_eqPersonS (r : Bool) : RV := .one (.one (.val (.bool r)))
theorem con_laws_eqPersonS {v0 : List TPerson} {v1 : List TPerson} {r : Bool} (hF : F_laws_eqPersonS v0 v1 = some r) : Con Try.prog 18 [.sl 3 (v0.map ePerson), .sl 3 (v1.map ePerson)] (res_laws_eqPersonS r) := by
  unfold F_laws_eqPersonS at hF
  refine con_of c18_is fun N => ?_
  refine w_reg_seq 0 64 rfl rfl ?_
  refine qp (AB false) rfl ?_
  refine r_nil ?_
  refine w_seq ?_
  refine w_reg_seq 64 384 rfl rfl ?_
  refine qp (.val none (.sl 3 (v0.map ePerson))) rfl (qp (AI (v0.length : Int)) (ev_len_n rfl) (qp (.val none (.sl 3 (v1.map ePerson))) rfl (qp (AI (v1.length : Int)) (ev_len_n rfl) (qp (AB (decide ((v0.length : Int) ≠ (v1.length : Int)))) rfl ?_))))
  refine r_nil ?_
  refine w_condF hF rfl (fun hF => ?_) (fun hF => ?_)
  ·
    refine w_reg_seq 384 448 rfl rfl ?_
    refine qp (AB false) rfl ?_
    refine r_nil ?_
    refine w_ret ?_
    refine thenQ_r ?_
    cases hF
    exact endQ_r rfl (.inl ⟨_, _, by first | rfl | (simp [List.take_of_length_le]; first | exact ⟨rfl, rfl⟩ | rfl), by simp, by first | rfl | simp [res_laws_eqPersonS, List.take_of_length_le]⟩)
  ·
    refine w_skip ?_
    refine thenQ_n ?_
    refine w_seq ?_
    refine w_reg_seq 384 448 rfl rfl ?_
    refine qp (AI 0) rfl ?_
    refine r_nil ?_
    refine w_block ?_
    refine w_ren (l' := [(0, .val none (.sl 3 (v0.map ePerson))), (1, .val none (.sl 3 (v1.map ePerson))), (5, AI 0)]) (L := []) [0, 1, 5] [] 1 (by first | rfl | simp) (by first | rfl | simp) (by decide) (by decide) (by decide) ?_
    refine w_loopF (F_laws_eqPersonS_l0 v0 v1) (fun s : Int => mkS [(0, .val none (.sl 3 (v0.map ePerson))), (1, .val none (.sl 3 (v1.map ePerson))), (5, AI s)] (fo []) 1) hF ?_
    rintro k0 v9 hF
    rw [F_laws_eqPersonS_l0] at hF
    try dsimp only
    refine w_seq ?_
    refine w_reg_seq 1 257 rfl rfl ?_
    refine qp (AI v9) rfl (qp (.val none (.sl 3 (v0.map ePerson))) rfl (qp (AI (v0.length : Int)) (ev_len_n rfl) (qp (AB (decide (v9 < (v0.length : Int)))) rfl ?_)))
    refine r_nil ?_
    refine w_condF hF rfl (fun hF => ?_) (fun hF => ?_)
    ·
      refine w_skip ?_
      refine thenQ_n ?_
      refine w_seq ?_
      refine w_block ?_
      refine w_reg_seq 257 897 rfl rfl ?_
      refine qp (.val none (.sl 3 (v0.map ePerson))) rfl (qp (AI v9) rfl ?_)
      obtain ⟨v1000, e1000, hF⟩ := bind_get hF
      refine qp (.val none (.ptr [.str v1000.1, .int .i64 v1000.2.1, .sl 1 (v1000.2.2.map V.str)])) (ev_iad_n rfl rfl e1000 rfl) (qp (.val none (ePerson v1000)) rfl (qp (.val none (.sl 3 (v1.map ePerson))) rfl (qp (AI v9) rfl ?_)))
      obtain ⟨v1001, e1001, hF⟩ := bind_get hF
      refine qp (.val none (.ptr [.str v1001.1, .int .i64 v1001.2.1, .sl 1 (v1001.2.2.map V.str)])) (ev_iad_n rfl rfl e1001 rfl) (qp (.val none (ePerson v1001)) rfl ?_)
      obtain ⟨v1002, e1002, hF⟩ := bind_get hF
      refine qc (AB v1002) [] false (con_laws_eqPerson e1002) c34_ok (by first | rfl | simp) rfl ?_
      refine qp (AB (!v1002)) rfl ?_
      refine r_nil ?_
      refine w_condF hF rfl (fun hF => ?_) (fun hF => ?_)
      ·
        refine w_reg_seq 897 961 rfl rfl ?_
        refine qp (AB false) rfl ?_
        refine r_nil ?_
        refine w_ret ?_
        refine blockQ_r ?_
        refine thenQ_r ?_
        refine thenQ_r ?_
        refine blockQ_r ?_
        refine thenQ_r ?_
        cases hF
        exact endQ_r rfl (.inl ⟨_, _, by first | rfl | (simp [List.take_of_length_le]; first | exact ⟨rfl, rfl⟩ | rfl), by simp, by first | rfl | simp [res_laws_eqPersonS, List.take_of_length_le]⟩)
      ·
        refine w_skip ?_
        refine blockQ_n ?_
        refine thenQ_n ?_
        refine w_reg 897 1089 rfl rfl ?_
        refine qp (AI v9) rfl (qp (AI (w64 (v9 + 1))) rfl (qp (AI (w64 (v9 + 1))) rfl ?_))
        refine r_nil ?_
        refine thenQ_n ?_
        refine aw_ren (l' := [(0, .val none (.sl 3 (v0.map ePerson))), (1, .val none (.sl 3 (v1.map ePerson))), (5, AI (w64 (v9 + 1)))]) (L := []) [0, 1, 5] [] 1 (by first | rfl | simp) (by first | rfl | simp) (by decide) (by decide) (by decide) ⟨_, by rfl, hF⟩
    ·
      refine w_exit ?_
      refine thenQ_e ?_
      refine thenQ_e ?_
      refine blockQ_e ?_
      refine thenQ_n ?_
      refine w_reg_seq 257 321 rfl rfl ?_
      refine qp (AB true) rfl ?_
      refine r_nil ?_
      refine w_ret ?_
      cases hF
      exact endQ_r rfl (.inl ⟨_, _, by first | rfl | (simp [List.take_of_length_le]; first | exact ⟨rfl, rfl⟩ | rfl), by simp, by first | rfl | simp [res_laws_eqPersonS, List.take_of_length_le]⟩)

def c77 : MC := (.seq (.reg [⟨(some 2), none, (.p true (.mv (.c (.str []))))⟩]) (.seq (.seq (.reg [⟨(some 4), none, (.p true (.mv (.t 0)))⟩, ⟨(some 5), none, (.p true (.bin .leq (.t 4) (.c (.int .i64 0))))⟩]) (.cond (.t 5) (.seq (.reg [⟨(some 2), none, (.p true (.mv (.c (.str [109, 48]))))⟩]) .ret) .skip)) (.seq (.reg [⟨(some 3), none, (.p true (.mv (.c (.str []))))⟩]) (.seq (.block 0 (.loop (.seq (.seq (.reg [⟨(some 6), none, (.p true (.mv (.t 0)))⟩, ⟨(some 7), none, (.p true (.bin .gtr (.t 6) (.c (.int .i64 0))))⟩]) (.cond (.t 7) .skip (.exit 0))) (.block 1 (.seq (.reg [⟨(some 8), none, (.p true (.mv (.t 0)))⟩, ⟨(some 9), none, (.p true (.bin .rem (.t 8) (.c (.int .i64 10))))⟩, ⟨(some 10), none, (.p true (.bin .add (.c (.int .i64 48)) (.t 9)))⟩, ⟨(some 11), none, (.p true (.conv .u8 (.t 10)))⟩, ⟨(some 12), none, (.f (.bsl 1 [(.t 11)]))⟩, ⟨(some 13), none, (.p true (.bts (.t 12)))⟩, ⟨(some 14), none, (.p true (.mv (.t 3)))⟩, ⟨(some 15), none, (.p true (.bin .add (.t 13) (.t 14)))⟩, ⟨(some 3), none, (.p true (.mv (.t 15)))⟩]) (.reg [⟨(some 16), none, (.p true (.mv (.t 0)))⟩, ⟨(some 17), none, (.p true (.bin .quo (.t 16) (.c (.int .i64 10))))⟩, ⟨(some 0), none, (.p true (.mv (.t 17)))⟩])))))) (.seq (.reg [⟨(some 18), none, (.p true (.mv (.t 3)))⟩, ⟨(some 19), none, (.p true (.bin .add (.c (.str [109])) (.t 18)))⟩, ⟨(some 2), none, (.p true (.mv (.t 19)))⟩]) .ret)))))
theorem c77_is : compFn Try.prog 77 = some (c77, [(.tmp 2)]) := by kernel_rfl
theorem c77_ok : okFn Try.prog 77 = true := by kernel_rfl

noncomputable def F_laws_markText_l0 (k0 : Int × (List UInt8) → Option (List UInt8)) : Int × (List UInt8) → Option (List UInt8)
  | (v5, v6) => (bif (decide ((0 : Int) < v5)) then (need ((bytesI [IntKind.wrap .u8 (w64 (48 + (Int.tmod v5 10)))]).length + v6.length < 9223372036854775808) (k0 (w64 (Int.tdiv v5 10), (bytesI [IntKind.wrap .u8 (w64 (48 + (Int.tmod v5 10)))]) ++ v6)))
  else (need ([109].length + v6.length < 9223372036854775808) (some ([109] ++ v6))))
noncomputable def F_laws_markText (v0 : Int) : Option (List UInt8) :=
  (bif (decide (v0 ≤ (0 : Int))) then some [109, 48]
  else loop (F_laws_markText_l0) (v0, []))
@[simp] def res_laws_markText (r : List UInt8) : RV := .one (.one (.val (.str r)))
theorem con_laws_markText {v0 : Int} {r : List UInt8} (hF : F_laws_markText v0 = some r) : Con Try.prog 77 [.int .i64 v0] (res_laws_markText r) := by
  unfold F_laws_markText at hF
  refine con_of c77_is fun N => ?_
  refine w_reg_seq 0 64 rfl rfl ?_
  refine qp (AS []) rfl ?_
  refine r_nil ?_
  refine w_seq ?_
  refine w_reg_seq 64 192 rfl rfl ?_
  refine qp (AI v0) rfl (qp (AB (decide (v0 ≤ (0 : Int)))) rfl ?_)
  refine r_nil ?_
  refine w_condF hF rfl (fun hF => ?_) (fun hF => ?_)
  ·
    refine w_reg_seq 192 256 rfl rfl ?_
    refine qp (AS [109, 48]) rfl ?_
    refine r_nil ?_
    refine w_ret ?_
    refine thenQ_r ?_
    cases hF
    exact endQ_r rfl (.inl ⟨_, _, by first | rfl | (simp [List.take_of_length_le]; first | exact ⟨rfl, rfl⟩ | rfl), by simp, by first | rfl | simp [res_laws_markText, List.take_of_length_le]⟩)
  ·
    refine w_skip ?_
    refine thenQ_n ?_
    refine w_reg_seq 192 256 rfl rfl ?_
    refine qp (AS []) rfl ?_
    refine r_nil ?_
    refine w_seq ?_
    refine w_block ?_
    refine w_ren (l' := [(0, AI v0), (3, AS ([] : List UInt8))]) (L := []) [0, 3] [] 1 (by first | rfl | simp) (by first | rfl | simp) (by decide) (by decide) (by decide) ?_
    refine w_loopF (F_laws_markText_l0) (fun s : Int × (List UInt8) => mkS [(0, AI s.1), (3, AS s.2)] (fo []) 1) hF ?_
    rintro k0 ⟨v5, v6⟩ hF
    rw [F_laws_markText_l0] at hF
    try dsimp only
    refine w_seq ?_
    refine w_reg_seq 1 129 rfl rfl ?_
    refine qp (AI v5) rfl (qp (AB (decide ((0 : Int) < v5))) rfl ?_)
    refine r_nil ?_
    refine w_condF hF rfl (fun hF => ?_) (fun hF => ?_)
    ·
      refine w_skip ?_
      refine thenQ_n ?_
      refine w_block ?_
      refine w_reg_seq 129 705 rfl rfl ?_
      refine qp (AI v5) rfl (qp (AI (Int.tmod v5 10)) (ev_rem rfl rfl (by decide)) (qp (AI (w64 (48 + (Int.tmod v5 10)))) rfl (qp (.val none (.int .u8 (IntKind.wrap .u8 (w64 (48 + (Int.tmod v5 10)))))) rfl ?_)))
      refine qf (.sl 385 0 ([IntKind.wrap .u8 (w64 (48 + (Int.tmod v5 10)))].length)) [(385, .row true 1 ([IntKind.wrap .u8 (w64 (48 + (Int.tmod v5 10)))].map (V.int .u8)))] (by simp [List.take_of_length_le]) ?_
      refine qp (AS (bytesI [IntKind.wrap .u8 (w64 (48 + (Int.tmod v5 10)))])) (ev_bts_r rfl (by simp) rfl) (qp (AS v6) rfl ?_)
      obtain ⟨g1000, hF⟩ := need_some hF
      refine qp (AS ((bytesI [IntKind.wrap .u8 (w64 (48 + (Int.tmod v5 10)))]) ++ v6)) (ev_add_s rfl rfl g1000) (qp (AS ((bytesI [IntKind.wrap .u8 (w64 (48 + (Int.tmod v5 10)))]) ++ v6)) rfl ?_)
      refine r_nil ?_
      refine w_reg 705 897 rfl rfl ?_
      refine qp (AI v5) rfl (qp (AI (w64 (Int.tdiv v5 10))) (ev_quo rfl rfl (by decide)) (qp (AI (w64 (Int.tdiv v5 10))) rfl ?_))
      refine r_nil ?_
      refine blockQ_n ?_
      refine thenQ_n ?_
      refine aw_ren (l' := [(0, AI (w64 (Int.tdiv v5 10))), (3, AS ((bytesI [IntKind.wrap .u8 (w64 (48 + (Int.tmod v5 10)))]) ++ v6))]) (L := []) [0, 3] [] 1 (by first | rfl | simp) (by first | rfl | simp) (by decide) (by decide) (by decide) ⟨_, by rfl, hF⟩
    ·
      refine w_exit ?_
      refine thenQ_e ?_
      refine thenQ_e ?_
      refine blockQ_e ?_
      refine thenQ_n ?_
      refine w_reg_seq 129 321 rfl rfl ?_
      refine qp (AS v6) rfl ?_
      obtain ⟨g1001, hF⟩ := need_some hF
      refine qp (AS ([109] ++ v6)) (ev_add_s rfl rfl g1001) (qp (AS ([109] ++ v6)) rfl ?_)
      refine r_nil ?_
      refine w_ret ?_
      cases hF
      exact endQ_r rfl (.inl ⟨_, _, by first | rfl | (simp [List.take_of_length_le]; first | exact ⟨rfl, rfl⟩ | rfl), by simp, by first | rfl | simp [res_laws_markText, List.take_of_length_le]⟩)

def c47 : MC := (.seq (.reg [⟨(some 4), none, (.p true (.mv (.c (.int .i64 0))))⟩]) (.seq (.seq (.reg [⟨(some 5), none, (.p true (.mv (.c (.int .i64 0))))⟩]) (.block 0 (.loop (.seq (.seq (.reg [⟨(some 6), none, (.p true (.mv (.t 5)))⟩, ⟨(some 7), none, (.p true (.mv (.t 0)))⟩, ⟨(some 8), none, (.p true (.len (.t 7)))⟩, ⟨(some 9), none, (.p true (.bin .lss (.t 6) (.t 8)))⟩]) (.cond (.t 9) .skip (.exit 0))) (.seq (.block 1 (.seq (.reg [⟨(some 12), none, (.p true (.mv (.t 0)))⟩, ⟨(some 13), none, (.p true (.mv (.t 5)))⟩, ⟨(some 14), none, (.p true (.mv (.t 1)))⟩, ⟨(some 15), none, (.call true 77 [(.t 14)])⟩, ⟨(some 16), none, (.p true (.iad (.t 12) (.t 13) 1))⟩, ⟨none, none, (.f (.st (.t 16) (.t 15) 1))⟩]) (.reg [⟨(some 17), none, (.p true (.mv (.t 1)))⟩, ⟨(some 18), none, (.p true (.bin .add (.t 17) (.c (.int .i64 1))))⟩, ⟨(some 1), none, (.p true (.mv (.t 18)))⟩]))) (.reg [⟨(some 10), none, (.p true (.mv (.t 5)))⟩, ⟨(some 11), none, (.p true (.bin .add (.t 10) (.c (.int .i64 1))))⟩, ⟨(some 5), none, (.p true (.mv (.t 11)))⟩])))))) (.seq (.reg [⟨(some 19), none, (.p true (.mv (.t 1)))⟩, ⟨(some 4), none, (.p true (.mv (.t 19)))⟩]) .ret)))
theorem c47_is : compFnM Try.prog 47 = some (c47, [(.tmp 4)]) := by kernel_rfl
theorem c47_ok : okFn Try.prog 47 = true := by kernel_rfl

noncomputable def F_laws_markStringS_l0 (k0 : Int × Int × (List (List UInt8)) → Option ((List (List UInt8)) × Int)) : Int × Int × (List (List UInt8)) → Option ((List (List UInt8)) × Int)
  | (v9, v10, v11) => (bif (decide (v10 < (v11.length : Int))) then ((F_laws_markText v9).bind fun v1000 => ((ix v11 v10).bind fun v1001 => k0 (w64 (v9 + 1), w64 (v10 + 1), List.set v11 v10.toNat v1000)))
  else some (v11, v9))
noncomputable def F_laws_markStringS (v0 : List (List UInt8)) (v1 : Int) : Option ((List (List UInt8)) × Int) :=
  loop (F_laws_markStringS_l0) (v1, 0, v0)
theorem con_laws_markStringS {v0 : List (List UInt8)} {v1 : Int} {r : (List (List UInt8)) × Int} (hF : F_laws_markStringS v0 v1 = some r) : ConM Try.prog 47 (.one (.row true 1 (v0.map V.str))) (.one (.row true 1 (r.1.map V.str))) [.int .i64 v1] (.int .i64 r.2) := by
  unfold F_laws_markStringS at hF
  refine conM_of (av := .sl 0 0 v0.length) (L := [(0, .row true 1 (v0.map V.str))]) c47_is rfl rfl rfl (by simp) fun N => ?_
  refine w_reg_seq 64 128 rfl rfl ?_
  refine qp (AI 0) rfl ?_
  refine r_nil ?_
  refine w_seq ?_
  refine w_reg_seq 128 192 rfl rfl ?_
  refine qp (AI 0) rfl ?_
  refine r_nil ?_
  refine w_block ?_
  refine w_ren (l' := [(0, .sl 0 0 v0.length), (1, AI v1), (5, AI 0)]) (L := [(0, .row true 1 (v0.map V.str))]) [0, 1, 5] [(0, 0)] 1 (by first | rfl | simp) (by first | rfl | simp) (by decide) (by decide) (by decide) ?_
  refine w_loopF (F_laws_markStringS_l0) (fun s : Int × Int × (List (List UInt8)) => mkS [(0, .sl 0 0 s.2.2.length), (1, AI s.1), (5, AI s.2.1)] (fo [(0, .row true 1 (s.2.2.map V.str))]) 1) hF ?_
  rintro k0 ⟨v9, v10, v11⟩ hF
  rw [F_laws_markStringS_l0] at hF
  try dsimp only
  refine w_seq ?_
  refine w_reg_seq 1 257 rfl rfl ?_
  refine qp (AI v10) rfl (qp (.sl 0 0 v11.length) rfl (qp (AI (v11.length : Int)) rfl (qp (AB (decide (v10 < (v11.length : Int)))) rfl ?_)))
  refine r_nil ?_
  refine w_condF hF rfl (fun hF => ?_) (fun hF => ?_)
  ·
    refine w_skip ?_
    refine thenQ_n ?_
    refine w_seq ?_
    refine w_block ?_
    refine w_reg_seq 257 641 rfl rfl ?_
    refine qp (.sl 0 0 v11.length) rfl (qp (AI v10) rfl (qp (AI v9) rfl ?_))
    obtain ⟨v1000, e1000, hF⟩ := bind_get hF
    refine qc (AS v1000) [(0, .row true 1 (v11.map V.str))] false (con_laws_markText e1000) c77_ok (by first | rfl | simp) rfl ?_
    obtain ⟨v1001, e1001, hF⟩ := bind_get hF
    refine qp (.ptr 0 v10.toNat 0) (ev_iad_r rfl (by simp) rfl rfl e1001) ?_
    refine qf0 (.undef) [(0, .row true 1 ((List.set v11 v10.toNat v1000).map V.str)), (0, .row true 1 (v11.map V.str))] (effT_st rfl rfl (ix_some e1001).2 rfl rfl (by rfl) (by first | rfl | simp [patch, reb, List.take_of_length_le]) (by rfl) rfl) ?_
    refine r_nil ?_
    refine w_reg 641 833 rfl rfl ?_
    refine qp (AI v9) rfl (qp (AI (w64 (v9 + 1))) rfl (qp (AI (w64 (v9 + 1))) rfl ?_))
    refine r_nil ?_
    refine blockQ_n ?_
    refine thenQ_n ?_
    refine w_reg 833 1025 rfl rfl ?_
    refine qp (AI v10) rfl (qp (AI (w64 (v10 + 1))) rfl (qp (AI (w64 (v10 + 1))) rfl ?_))
    refine r_nil ?_
    refine thenQ_n ?_
    refine aw_ren (l' := [(0, .sl 0 0 (List.set v11 v10.toNat v1000).length), (1, AI (w64 (v9 + 1))), (5, AI (w64 (v10 + 1)))]) (L := [(0, .row true 1 ((List.set v11 v10.toNat v1000).map V.str))]) [0, 1, 5] [(0, 0)] 1 (by first | rfl | simp) (by first | rfl | simp) (by decide) (by decide) (by decide) ⟨_, by rfl, hF⟩
  ·
    refine w_exit ?_
    refine thenQ_e ?_
    refine thenQ_e ?_
    refine blockQ_e ?_
    refine thenQ_n ?_
    refine w_reg_seq 257 385 rfl rfl ?_
    refine qp (AI v9) rfl (qp (AI v9) rfl ?_)
    refine r_nil ?_
    refine w_ret ?_
    cases hF
    exact endM_r rfl rfl (by first | rfl | (simp [List.take_of_length_le]; first | exact ⟨rfl, rfl⟩ | rfl)) (by simp)

def c35 : MC := (.seq (.reg [⟨(some 4), none, (.p true (.mv (.c (.int .i64 0))))⟩]) (.seq (.seq (.reg [⟨(some 5), none, (.p true (.mv (.c (.int .i64 0))))⟩]) (.block 0 (.loop (.seq (.seq (.reg [⟨(some 6), none, (.p true (.mv (.t 5)))⟩, ⟨(some 7), none, (.p true (.mv (.t 0)))⟩, ⟨(some 8), none, (.p true (.len (.t 7)))⟩, ⟨(some 9), none, (.p true (.bin .lss (.t 6) (.t 8)))⟩]) (.cond (.t 9) .skip (.exit 0))) (.seq (.block 1 (.seq (.reg [⟨(some 12), none, (.p true (.mv (.t 0)))⟩, ⟨(some 13), none, (.p true (.mv (.t 5)))⟩, ⟨(some 14), none, (.p true (.mv (.t 1)))⟩, ⟨(some 15), none, (.call true 77 [(.t 14)])⟩, ⟨(some 16), none, (.p true (.iad (.t 12) (.t 13) 3))⟩, ⟨(some 17), none, (.p true (.fad (.t 16) 0))⟩, ⟨none, none, (.f (.st (.t 17) (.t 15) 1))⟩]) (.seq (.reg [⟨(some 18), none, (.p true (.mv (.t 1)))⟩, ⟨(some 19), none, (.p true (.bin .add (.t 18) (.c (.int .i64 1))))⟩, ⟨(some 1), none, (.p true (.mv (.t 19)))⟩]) (.seq (.reg [⟨(some 20), none, (.p true (.mv (.t 0)))⟩, ⟨(some 21), none, (.p true (.mv (.t 5)))⟩, ⟨(some 22), none, (.p true (.mv (.t 1)))⟩, ⟨(some 23), none, (.p true (.iad (.t 20) (.t 21) 3))⟩, ⟨(some 24), none, (.p true (.fad (.t 23) 1))⟩, ⟨none, none, (.f (.st (.t 24) (.t 22) 1))⟩]) (.seq (.reg [⟨(some 25), none, (.p true (.mv (.t 1)))⟩, ⟨(some 26), none, (.p true (.bin .add (.t 25) (.c (.int .i64 1))))⟩, ⟨(some 1), none, (.p true (.mv (.t 26)))⟩]) (.reg [⟨(some 27), none, (.p true (.mv (.t 0)))⟩, ⟨(some 28), none, (.p true (.mv (.t 5)))⟩, ⟨(some 29), none, (.p true (.iad (.t 27) (.t 28) 3))⟩, ⟨(some 30), none, (.p true (.fad (.t 29) 2))⟩, ⟨(some 31), none, (.p true (.ld (.t 30) 1 false))⟩, ⟨(some 32), none, (.p true (.mv (.t 1)))⟩, ⟨(some 33), none, (.call true 47 [(.t 31), (.t 32)])⟩, ⟨(some 1), none, (.p true (.mv (.t 33)))⟩])))))) (.reg [⟨(some 10), none, (.p true (.mv (.t 5)))⟩, ⟨(some 11), none, (.p true (.bin .add (.t 10) (.c (.int .i64 1))))⟩, ⟨(some 5), none, (.p true (.mv (.t 11)))⟩])))))) (.seq (.reg [⟨(some 34), none, (.p true (.mv (.t 1)))⟩, ⟨(some 4), none, (.p true (.mv (.t 34)))⟩]) .ret)))
theorem c35_is : compFnM Try.prog 35 = some (c35, [(.tmp 4)]) := by kernel_rfl
theorem c35_ok : okFn Try.prog 35 = true := by kernel_rfl

noncomputable def F_laws_markPersonS_l0 (k0 : Int × Int × (List TPerson) → Option ((List TPerson) × Int)) : Int × Int × (List TPerson) → Option ((List TPerson) × Int)
  | (v17, v18, v19) => (bif (decide (v18 < (v19.length : Int))) then ((F_laws_markText v17).bind fun v1000 => ((ix v19 v18).bind fun v1001 => ((ix (List.set v19 v18.toNat (v1000, v1001.2.1, v1001.2.2)) v18).bind fun v1002 => ((ix (List.set (List.set v19 v18.toNat (v1000, v1001.2.1, v1001.2.2)) v18.toNat (v1002.1, w64 (v17 + 1), v1002.2.2)) v18).bind fun v1003 => ((F_laws_markStringS v1003.2.2 (w64 ((w64 (v17 + 1)) + 1))).bind fun v1004 => need (v1004.1.length = v1003.2.2.length) (k0 (v1004.2, w64 (v18 + 1), List.set (List.set (List.set v19 v18.toNat (v1000, v1001.2.1, v1001.2.2)) v18.toNat (v1002.1, w64 (v17 + 1), v1002.2.2)) v18.toNat (v1003.1, v1003.2.1, v1004.1))))))))
  else some (v19, v17))
noncomputable def F_laws_markPersonS (v0 : List TPerson) (v1 : Int) : Option ((List TPerson) × Int) :=
  loop (F_laws_markPersonS_l0) (v1, 0, v0)
theorem con_laws_markPersonS {v0 : List TPerson} {v1 : Int} {r : (List TPerson) × Int} (hF : F_laws_markPersonS v0 v1 = some r) : ConM Try.prog 35 (.one (.row true 3 (v0.map ePerson))) (.one (.row true 3 (r.1.map ePerson))) [.int .i64 v1] (.int .i64 r.2) := by
  unfold F_laws_markPersonS at hF
  refine conM_of (av := .sl 0 0 v0.length) (L := [(0, .row true 3 (v0.map ePerson))]) c35_is rfl rfl rfl (by simp) fun N => ?_
  refine w_reg_seq 64 128 rfl rfl ?_
  refine qp (AI 0) rfl ?_
  refine r_nil ?_
  refine w_seq ?_
  refine w_reg_seq 128 192 rfl rfl ?_
  refine qp (AI 0) rfl ?_
  refine r_nil ?_
  refine w_block ?_
  refine w_ren (l' := [(0, .sl 0 0 v0.length), (1, AI v1), (5, AI 0)]) (L := [(0, .row true 3 (v0.map ePerson))]) [0, 1, 5] [(0, 0)] 1 (by first | rfl | simp) (by first | rfl | simp) (by decide) (by decide) (by decide) ?_
  refine w_loopF (F_laws_markPersonS_l0) (fun s : Int × Int × (List TPerson) => mkS [(0, .sl 0 0 s.2.2.length), (1, AI s.1), (5, AI s.2.1)] (fo [(0, .row true 3 (s.2.2.map ePerson))]) 1) hF ?_
  rintro k0 ⟨v17, v18, v19⟩ hF
  rw [F_laws_markPersonS_l0] at hF
  try dsimp only
  refine w_seq ?_
  refine w_reg_seq 1 257 rfl rfl ?_
  refine qp (AI v18) rfl (qp (.sl 0 0 v19.length) rfl (qp (AI (v19.length : Int)) rfl (qp (AB (decide (v18 < (v19.length : Int)))) rfl ?_)))
  refine r_nil ?_
  refine w_condF hF rfl (fun hF => ?_) (fun hF => ?_)
  ·
    refine w_skip ?_
    refine thenQ_n ?_
    refine w_seq ?_
    refine w_block ?_
    refine w_reg_seq 257 705 rfl rfl ?_
    refine qp (.sl 0 0 v19.length) rfl (qp (AI v18) rfl (qp (AI v17) rfl ?_))
    obtain ⟨v1000, e1000, hF⟩ := bind_get hF
    refine qc (AS v1000) [(0, .row true 3 (v19.map ePerson))] false (con_laws_markText e1000) c77_ok (by first | rfl | simp) rfl ?_
    obtain ⟨v1001, e1001, hF⟩ := bind_get hF
    refine qp (.ptr 0 v18.toNat 0) (ev_iad_r rfl (by simp) rfl rfl e1001) (qp (.ptr 0 v18.toNat 0) rfl ?_)
    refine qf0 (.undef) [(0, .row true 3 ((List.set v19 v18.toNat (v1000, v1001.2.1, v1001.2.2)).map ePerson)), (0, .row true 3 (v19.map ePerson))] (effT_st rfl rfl (ix_some e1001).2 rfl rfl (by rfl) (by first | rfl | simp [patch, reb, List.take_of_length_le]) (by rfl) rfl) ?_
    refine r_nil ?_
    refine w_reg_seq 705 897 rfl rfl ?_
    refine qp (AI v17) rfl (qp (AI (w64 (v17 + 1))) rfl (qp (AI (w64 (v17 + 1))) rfl ?_))
    refine r_nil ?_
    refine w_reg_seq 897 1281 rfl rfl ?_
    refine qp (.sl 0 0 v19.length) rfl (qp (AI v18) rfl (qp (AI (w64 (v17 + 1))) rfl ?_))
    obtain ⟨v1002, e1002, hF⟩ := bind_get hF
    refine qp (.ptr 0 v18.toNat 0) (ev_iad_r rfl (by simp) rfl rfl e1002) (qp (.ptr 0 v18.toNat 1) rfl ?_)
    refine qf0 (.undef) [(0, .row true 3 ((List.set (List.set v19 v18.toNat (v1000, v1001.2.1, v1001.2.2)) v18.toNat (v1002.1, w64 (v17 + 1), v1002.2.2)).map ePerson)), (0, .row true 3 ((List.set v19 v18.toNat (v1000, v1001.2.1, v1001.2.2)).map ePerson)), (0, .row true 3 (v19.map ePerson))] (effT_st rfl rfl (ix_some e1002).2 rfl rfl (by rfl) (by first | rfl | simp [patch, reb, List.take_of_length_le]) (by rfl) rfl) ?_
    refine r_nil ?_
    refine w_reg_seq 1281 1473 rfl rfl ?_
    refine qp (AI (w64 (v17 + 1))) rfl (qp (AI (w64 ((w64 (v17 + 1)) + 1))) rfl (qp (AI (w64 ((w64 (v17 + 1)) + 1))) rfl ?_))
    refine r_nil ?_
    refine w_reg 1473 1985 rfl rfl ?_
    refine qp (.sl 0 0 v19.length) rfl (qp (AI v18) rfl ?_)
    obtain ⟨v1003, e1003, hF⟩ := bind_get hF
    refine qp (.ptr 0 v18.toNat 0) (ev_iad_r rfl (by simp) rfl rfl e1003) (qp (.ptr 0 v18.toNat 2) rfl ?_)
    obtain ⟨v1004, e1004, hF⟩ := bind_get hF
    obtain ⟨g1005, hF⟩ := need_some hF
    refine qm_l [(0, .row true 3 ((List.set (List.set (List.set v19 v18.toNat (v1000, v1001.2.1, v1001.2.2)) v18.toNat (v1002.1, w64 (v17 + 1), v1002.2.2)) v18.toNat (v1003.1, v1003.2.1, v1004.1)).map ePerson)), (0, .row true 3 ((List.set (List.set v19 v18.toNat (v1000, v1001.2.1, v1001.2.2)) v18.toNat (v1002.1, w64 (v17 + 1), v1002.2.2)).map ePerson)), (0, .row true 3 ((List.set v19 v18.toNat (v1000, v1001.2.1, v1001.2.2)).map ePerson)), (0, .row true 3 (v19.map ePerson))] rfl rfl (map_get (ix_some e1003).2) rfl rfl rfl (con_laws_markStringS e1004) c47_ok (by simp [g1005]) rfl rfl rfl (by simp [scrO_fo, scrR, scrA, scrAs, patch, reb, List.map_set]) ?_
    refine qp (AI v1004.2) rfl ?_
    refine r_nil ?_
    refine blockQ_n ?_
    refine thenQ_n ?_
    refine w_reg 1985 2177 rfl rfl ?_
    refine qp (AI v18) rfl (qp (AI (w64 (v18 + 1))) rfl (qp (AI (w64 (v18 + 1))) rfl ?_))
    refine r_nil ?_
    refine thenQ_n ?_
    refine aw_ren (l' := [(0, .sl 0 0 (List.set (List.set (List.set v19 v18.toNat (v1000, v1001.2.1, v1001.2.2)) v18.toNat (v1002.1, w64 (v17 + 1), v1002.2.2)) v18.toNat (v1003.1, v1003.2.1, v1004.1)).length), (1, AI v1004.2), (5, AI (w64 (v18 + 1)))]) (L := [(0, .row true 3 ((List.set (List.set (List.set v19 v18.toNat (v1000, v1001.2.1, v1001.2.2)) v18.toNat (v1002.1, w64 (v17 + 1), v1002.2.2)) v18.toNat (v1003.1, v1003.2.1, v1004.1)).map ePerson))]) [0, 1, 5] [(0, 0)] 1 (by first | rfl | simp) (by first | rfl | simp) (by decide) (by decide) (by decide) ⟨_, by rfl, hF⟩
  ·
    refine w_exit ?_
    refine thenQ_e ?_
    refine thenQ_e ?_
    refine blockQ_e ?_
    refine thenQ_n ?_
    refine w_reg_seq 257 385 rfl rfl ?_
    refine qp (AI v17) rfl (qp (AI v17) rfl ?_)
    refine r_nil ?_
    refine w_ret ?_
    cases hF
    exact endM_r rfl rfl (by first | rfl | (simp [List.take_of_length_le]; first | exact ⟨rfl, rfl⟩ | rfl)) (by simp)

def c48 : MC := (.seq (.reg [⟨(some 4), none, (.p true (.mv (.c (.int .i64 0))))⟩]) (.seq (.seq (.reg [⟨(some 5), none, (.p true (.mv (.c (.int .i64 0))))⟩]) (.block 0 (.loop (.seq (.seq (.reg [⟨(some 6), none, (.p true (.mv (.t 5)))⟩, ⟨(some 7), none, (.p true (.mv (.t 0)))⟩, ⟨(some 8), none, (.p true (.len (.t 7)))⟩, ⟨(some 9), none, (.p true (.bin .lss (.t 6) (.t 8)))⟩]) (.cond (.t 9) .skip (.exit 0))) (.seq (.block 1 (.seq (.seq (.reg [⟨(some 12), none, (.p false (.mv (.t 0)))⟩, ⟨(some 13), none, (.p false (.mv (.t 5)))⟩, ⟨(some 14), none, (.p false (.iad (.t 12) (.t 13) 1))⟩, ⟨(some 15), none, (.p false (.ld (.t 14) 1 false))⟩, ⟨(some 16), none, (.p false (.mv (.t 1)))⟩, ⟨(some 17), none, (.call false 77 [(.t 16)])⟩, ⟨(some 18), none, (.p false (.bin .neq (.t 15) (.t 17)))⟩]) (.cond (.t 18) (.seq (.reg [⟨(some 4), none, (.p true (.mv (.c (.int .i64 (-1)))))⟩]) .ret) .skip)) (.reg [⟨(some 19), none, (.p true (.mv (.t 1)))⟩, ⟨(some 20), none, (.p true (.bin .add (.t 19) (.c (.int .i64 1))))⟩, ⟨(some 1), none, (.p true (.mv (.t 20)))⟩]))) (.reg [⟨(some 10), none, (.p true (.mv (.t 5)))⟩, ⟨(some 11), none, (.p true (.bin .add (.t 10) (.c (.int .i64 1))))⟩, ⟨(some 5), none, (.p true (.mv (.t 11)))⟩])))))) (.seq (.reg [⟨(some 21), none, (.p true (.mv (.t 1)))⟩, ⟨(some 4), none, (.p true (.mv (.t 21)))⟩]) .ret)))
theorem c48_is : compFn Try.prog 48 = some (c48, [(.tmp 4)]) := by kernel_rfl
theorem c48_ok : okFn Try.prog 48 = true := by kernel_rfl

noncomputable def F_laws_heldStringS_l0 (v0 : List (List UInt8)) (k0 : Int × Int → Option (Int)) : Int × Int → Option (Int)
  | (v8, v9) => (bif (decide (v9 < (v0.length : Int))) then ((ix v0 v9).bind fun v1000 => ((F_laws_markText v8).bind fun v1001 => (bif (decide (v1000 ≠ v1001)) then some (-1)
  else k0 (w64 (v8 + 1), w64 (v9 + 1)))))
  else some v8)
noncomputable def F_laws_heldStringS (v0 : List (List UInt8)) (v1 : Int) : Option (Int) :=
  loop (F_laws_heldStringS_l0 v0) (v1, 0)
@[simp] def res_laws_heldStringS (r : Int) : RV := .one (.one (.val (.int .i64 r)))
theorem con_laws_heldStringS {v0 : List (List UInt8)} {v1 : Int} {r : Int} (hF : F_laws_heldStringS v0 v1 = some r) : Con Try.prog 48 [.sl 1 (v0.map V.str), .int .i64 v1] (res_laws_heldStringS r) := by
  unfold F_laws_heldStringS at hF
  refine con_of c48_is fun N => ?_
  refine w_reg_seq 0 64 rfl rfl ?_
  refine qp (AI 0) rfl ?_
  refine r_nil ?_
  refine w_seq ?_
  refine w_reg_seq 64 128 rfl rfl ?_
  refine qp (AI 0) rfl ?_
  refine r_nil ?_
  refine w_block ?_
  refine w_ren (l' := [(0, .val none (.sl 1 (v0.map V.str))), (1, AI v1), (5, AI 0)]) (L := []) [0, 1, 5] [] 1 (by first | rfl | simp) (by first | rfl | simp) (by decide) (by decide) (by decide) ?_
  refine w_loopF (F_laws_heldStringS_l0 v0) (fun s : Int × Int => mkS [(0, .val none (.sl 1 (v0.map V.str))), (1, AI s.1), (5, AI s.2)] (fo []) 1) hF ?_
  rintro k0 ⟨v8, v9⟩ hF
  rw [F_laws_heldStringS_l0] at hF
  try dsimp only
  refine w_seq ?_
  refine w_reg_seq 1 257 rfl rfl ?_
  refine qp (AI v9) rfl (qp (.val none (.sl 1 (v0.map V.str))) rfl (qp (AI (v0.length : Int)) (ev_len_n rfl) (qp (AB (decide (v9 < (v0.length : Int)))) rfl ?_)))
  refine r_nil ?_
  refine w_condF hF rfl (fun hF => ?_) (fun hF => ?_)
  ·
    refine w_skip ?_
    refine thenQ_n ?_
    refine w_seq ?_
    refine w_block ?_
    refine w_seq ?_
    refine w_reg_seq 257 705 rfl rfl ?_
    refine qp (.val none (.sl 1 (v0.map V.str))) rfl (qp (AI v9) rfl ?_)
    obtain ⟨v1000, e1000, hF⟩ := bind_get hF
    refine qp (.val none (.ptr [.str v1000])) (ev_iad_n rfl rfl e1000 rfl) (qp (AS v1000) rfl (qp (AI v8) rfl ?_))
    obtain ⟨v1001, e1001, hF⟩ := bind_get hF
    refine qc (AS v1001) [] false (con_laws_markText e1001) c77_ok (by first | rfl | simp) rfl ?_
    refine qp (AB (decide (v1000 ≠ v1001))) rfl ?_
    refine r_nil ?_
    refine w_condF hF rfl (fun hF => ?_) (fun hF => ?_)
    ·
      refine w_reg_seq 705 769 rfl rfl ?_
      refine qp (AI (-1)) rfl ?_
      refine r_nil ?_
      refine w_ret ?_
      refine thenQ_r ?_
      refine blockQ_r ?_
      refine thenQ_r ?_
      refine thenQ_r ?_
      refine blockQ_r ?_
      refine thenQ_r ?_
      cases hF
      exact endQ_r rfl (.inl ⟨_, _, by first | rfl | (simp [List.take_of_length_le]; first | exact ⟨rfl, rfl⟩ | rfl), by simp, by first | rfl | simp [res_laws_heldStringS, List.take_of_length_le]⟩)
    ·
      refine w_skip ?_
      refine thenQ_n ?_
      refine w_reg 705 897 rfl rfl ?_
      refine qp (AI v8) rfl (qp (AI (w64 (v8 + 1))) rfl (qp (AI (w64 (v8 + 1))) rfl ?_))
      refine r_nil ?_
      refine blockQ_n ?_
      refine thenQ_n ?_
      refine w_reg 897 1089 rfl rfl ?_
      refine qp (AI v9) rfl (qp (AI (w64 (v9 + 1))) rfl (qp (AI (w64 (v9 + 1))) rfl ?_))
      refine r_nil ?_
      refine thenQ_n ?_
      refine aw_ren (l' := [(0, .val none (.sl 1 (v0.map V.str))), (1, AI (w64 (v8 + 1))), (5, AI (w64 (v9 + 1)))]) (L := []) [0, 1, 5] [] 1 (by first | rfl | simp) (by first | rfl | simp) (by decide) (by decide) (by decide) ⟨_, by rfl, hF⟩
  ·
    refine w_exit ?_
    refine thenQ_e ?_
    refine thenQ_e ?_
    refine blockQ_e ?_
    refine thenQ_n ?_
    refine w_reg_seq 257 385 rfl rfl ?_
    refine qp (AI v8) rfl (qp (AI v8) rfl ?_)
    refine r_nil ?_
    refine w_ret ?_
    cases hF
    exact endQ_r rfl (.inl ⟨_, _, by first | rfl | (simp [List.take_of_length_le]; first | exact ⟨rfl, rfl⟩ | rfl), by simp, by first | rfl | simp [res_laws_heldStringS, List.take_of_length_le]⟩)

def c12 : MC := (.seq (.reg [⟨(some 6), none, (.p true (.mv (.c (.bool false))))⟩]) (.seq (.seq (.reg [⟨(some 18), none, (.p true (.mv (.t 1)))⟩, ⟨(some 19), none, (.p true (.lens (.t 18)))⟩, ⟨(some 20), none, (.p true (.bin .gtr (.t 19) (.c (.int .i64 1048576))))⟩]) (.cond (.t 20) (.seq (.reg [⟨(some 6), none, (.p true (.mv (.c (.bool true))))⟩]) .ret) .skip)) (.seq (.seq (.reg [⟨(some 21), none, (.p true (.mv (.t 2)))⟩, ⟨(some 22), none, (.p true (.lens (.t 21)))⟩, ⟨(some 23), none, (.p true (.bin .gtr (.t 22) (.c (.int .i64 1048576))))⟩]) (.cond (.t 23) (.seq (.reg [⟨(some 6), none, (.p true (.mv (.c (.bool true))))⟩]) .ret) .skip)) (.seq (.reg [⟨(some 7), none, (.p true (.mv (.c (.int .i64 1048576))))⟩]) (.seq (.reg [⟨(some 24), none, (.p true (.mv (.t 0)))⟩, ⟨(some 25), none, (.p true (.mv (.t 7)))⟩, ⟨(some 26), none, (.call true 14 [(.t 24), (.t 25)])⟩, ⟨(some 7), none, (.p true (.mv (.t 26)))⟩]) (.seq (.seq (.reg [⟨(some 27), none, (.p true (.mv (.t 7)))⟩, ⟨(some 28), none, (.p true (.bin .lss (.t 27) (.c (.int .i64 0))))⟩]) (.cond (.t 28) (.seq (.reg [⟨(some 6), none, (.p true (.mv (.c (.bool true))))⟩]) .ret) .skip)) (.seq (.reg [⟨(some 30), none, (.p true (.mv (.t 0)))⟩, ⟨(some 31), none, (.call true 16 [(.t 30)])⟩, ⟨(some 32), none, (.p true (.mv (.t 1)))⟩, ⟨(some 33), none, (.p true (.mv (.t 2)))⟩, ⟨(some 34), none, (.call true 51 [(.t 31), (.t 32), (.t 33)])⟩, ⟨(some 29), none, (.p true (.mv (.t 34)))⟩, ⟨(some 35), none, (.p true (.ext (.t 29) 0))⟩, ⟨(some 36), none, (.p true (.ext (.t 29) 1))⟩, ⟨(some 8), none, (.p true (.mv (.t 35)))⟩, ⟨(some 9), none, (.p true (.mv (.t 36)))⟩]) (.seq (.reg [⟨(some 37), none, (.p true (.mv (.t 0)))⟩, ⟨(some 38), none, (.call true 16 [(.t 37)])⟩, ⟨(some 10), none, (.p true (.mv (.t 38)))⟩]) (.seq (.reg [⟨(some 40), none, (.p true (.mv (.t 10)))⟩, ⟨(some 41), none, (.p true (.mv (.t 1)))⟩, ⟨(some 42), none, (.p true (.mv (.t 2)))⟩, ⟨(some 43), none, (.call true 52 [(.t 40), (.t 41), (.t 42)])⟩, ⟨(some 39), none, (.p true (.mv (.t 43)))⟩, ⟨(some 44), none, (.p true (.ext (.t 39) 0))⟩, ⟨(some 45), none, (.p true (.ext (.t 39) 1))⟩, ⟨(some 11), none, (.p true (.mv (.t 44)))⟩, ⟨(some 12), none, (.p true (.mv (.t 45)))⟩]) (.seq (.seq (.reg [⟨(some 46), none, (.p true (.mv (.t 11)))⟩, ⟨(some 47), none, (.p true (.mv (.t 8)))⟩, ⟨(some 48), none, (.call true 46 [(.t 46), (.t 47)])⟩, ⟨(some 49), none, (.p true (.not (.t 48)))⟩, ⟨(some 50), none, (.p true (.mv (.t 49)))⟩, ⟨(some 51), (some (50, false)), (.p true (.mv (.t 12)))⟩, ⟨(some 52), (some (50, false)), (.p true (.mv (.t 9)))⟩, ⟨(some 53), (some (50, false)), (.p true (.bin .neq (.t 51) (.t 52)))⟩, ⟨(some 54), none, (.p true (.pick (.t 50) (.c (.bool true)) (.t 53)))⟩]) (.cond (.t 54) (.seq (.reg [⟨(some 6), none, (.p true (.mv (.c (.bool false))))⟩]) .ret) .skip)) (.seq (.seq (.reg [⟨(some 55), none, (.p true (.mv (.t 10)))⟩, ⟨(some 56), none, (.p true (.mv (.t 0)))⟩, ⟨(some 57), none, (.call true 16 [(.t 56)])⟩, ⟨(some 58), none, (.call true 18 [(.t 55), (.t 57)])⟩, ⟨(some 59), none, (.p true (.not (.t 58)))⟩]) (.cond (.t 59) (.seq (.reg [⟨(some 6), none, (.p true (.mv (.c (.bool false))))⟩]) .ret) .skip)) (.seq (.reg [⟨(some 13), none, (.p true (.mv (.c (.int .i64 1))))⟩]) (.seq (.reg [⟨(some 60), none, (.p true (.mv (.t 10)))⟩, ⟨(some 61), none, (.p true (.mv (.t 13)))⟩, ⟨(some 62), none, (.call true 35 [(.t 60), (.t 61)])⟩, ⟨(some 13), none, (.p true (.mv (.t 62)))⟩]) (.seq (.seq (.reg [⟨(some 63), none, (.p true (.mv (.t 13)))⟩, ⟨(some 64), none, (.p true (.bin .lss (.t 63) (.c (.int .i64 0))))⟩, ⟨(some 65), none, (.p true (.mv (.t 64)))⟩, ⟨(some 66), (some (65, false)), (.p true (.mv (.t 11)))⟩, ⟨(some 67), (some (65, false)), (.p true (.mv (.t 8)))⟩, ⟨(some 68), (some (65, false)), (.call true 46 [(.t 66), (.t 67)])⟩, ⟨(some 69), (some (65, false)), (.p true (.not (.t 68)))⟩, ⟨(some 70), none, (.p true (.pick (.t 65) (.c (.bool true)) (.t 69)))⟩, ⟨(some 71), none, (.p true (.mv (.t 70)))⟩, ⟨(some 72), (some (71, false)), (.p true (.mv (.t 12)))⟩, ⟨(some 73), (some (71, false)), (.p true (.mv (.t 9)))⟩, ⟨(some 74), (some (71, false)), (.p true (.bin .neq (.t 72) (.t 73)))⟩, ⟨(some 75), none, (.p true (.pick (.t 71) (.c (.bool true)) (.t 74)))⟩]) (.cond (.t 75) (.seq (.reg [⟨(some 6), none, (.p true (.mv (.c (.bool false))))⟩]) .ret) .skip)) (.seq (.reg [⟨(some 14), none, (.p true (.mv (.c (.int .i64 1))))⟩]) (.seq (.reg [⟨(some 76), none, (.p true (.mv (.t 11)))⟩, ⟨(some 77), none, (.p true (.mv (.t 14)))⟩, ⟨(some 78), none, (.call true 47 [(.t 76), (.t 77)])⟩, ⟨(some 14), none, (.p true (.mv (.t 78)))⟩]) (.seq (.reg [⟨(some 15), none, (.p true (.mv (.c (.int .i64 1))))⟩]) (.seq (.reg [⟨(some 79), none, (.p true (.mv (.t 11)))⟩, ⟨(some 80), none, (.p true (.mv (.t 15)))⟩, ⟨(some 81), none, (.call true 48 [(.t 79), (.t 80)])⟩, ⟨(some 15), none, (.p true (.mv (.t 81)))⟩]) (.seq (.seq (.reg [⟨(some 82), none, (.p true (.mv (.t 15)))⟩, ⟨(some 83), none, (.p true (.bin .lss (.t 82) (.c (.int .i64 0))))⟩]) (.cond (.t 83) (.seq (.reg [⟨(some 6), none, (.p true (.mv (.c (.bool false))))⟩]) .ret) .skip)) (.seq (.seq (.reg [⟨(some 84), none, (.p true (.mv (.t 15)))⟩, ⟨(some 85), none, (.p true (.mv (.t 14)))⟩, ⟨(some 86), none, (.p true (.bin .neq (.t 84) (.t 85)))⟩]) (.cond (.t 86) (.seq (.reg [⟨(some 6), none, (.p true (.mv (.c (.bool false))))⟩]) .ret) .skip)) (.seq (.reg [⟨(some 88), none, (.p true (.mv (.t 0)))⟩, ⟨(some 89), none, (.call true 16 [(.t 88)])⟩, ⟨(some 90), none, (.p true (.mv (.t 1)))⟩, ⟨(some 91), none, (.p true (.mv (.t 2)))⟩, ⟨(some 92), none, (.call true 52 [(.t 89), (.t 90), (.t 91)])⟩, ⟨(some 87), none, (.p true (.mv (.t 92)))⟩, ⟨(some 93), none, (.p true (.ext (.t 87) 0))⟩, ⟨(some 94), none, (.p true (.ext (.t 87) 1))⟩, ⟨(some 16), none, (.p true (.mv (.t 93)))⟩, ⟨(some 17), none, (.p true (.mv (.t 94)))⟩]) (.seq (.seq (.reg [⟨(some 95), none, (.p true (.mv (.t 16)))⟩, ⟨(some 96), none, (.p true (.mv (.t 8)))⟩, ⟨(some 97), none, (.call true 46 [(.t 95), (.t 96)])⟩, ⟨(some 98), none, (.p true (.not (.t 97)))⟩, ⟨(some 99), none, (.p true (.mv (.t 98)))⟩, ⟨(some 100), (some (99, false)), (.p true (.mv (.t 17)))⟩, ⟨(some 101), (some (99, false)), (.p true (.mv (.t 9)))⟩, ⟨(some 102), (some (99, false)), (.p true (.bin .neq (.t 100) (.t 101)))⟩, ⟨(some 103), none, (.p true (.pick (.t 99) (.c (.bool true)) (.t 102)))⟩]) (.cond (.t 103) (.seq (.reg [⟨(some 6), none, (.p true (.mv (.c (.bool false))))⟩]) .ret) .skip)) (.seq (.reg [⟨(some 15), none, (.p true (.mv (.c (.int .i64 1))))⟩]) (.seq (.reg [⟨(some 104), none, (.p true (.mv (.t 11)))⟩, ⟨(some 105), none, (.p true (.mv (.t 15)))⟩, ⟨(some 106), none, (.call true 48 [(.t 104), (.t 105)])⟩, ⟨(some 15), none, (.p true (.mv (.t 106)))⟩]) (.seq (.seq (.reg [⟨(some 107), none, (.p true (.mv (.t 15)))⟩, ⟨(some 108), none, (.p true (.bin .lss (.t 107) (.c (.int .i64 0))))⟩]) (.cond (.t 108) (.seq (.reg [⟨(some 6), none, (.p true (.mv (.c (.bool false))))⟩]) .ret) .skip)) (.seq (.seq (.reg [⟨(some 109), none, (.p true (.mv (.t 15)))⟩, ⟨(some 110), none, (.p true (.mv (.t 14)))⟩, ⟨(some 111), none, (.p true (.bin .neq (.t 109) (.t 110)))⟩]) (.cond (.t 111) (.seq (.reg [⟨(some 6), none, (.p true (.mv (.c (.bool false))))⟩]) .ret) .skip)) (.seq (.reg [⟨(some 6), none, (.p true (.mv (.c (.bool true))))⟩]) .ret)))))))))))))))))))))))))))
theorem c12_is : compFn Try.prog 12 = some (c12, [(.tmp 6)]) := by kernel_rfl
theorem c12_ok : okFn Try.prog 12 = true := by kernel_rfl

noncomputable def F_laws_FnExactCommonTeachers (v0 : List TPerson) (v1 : List UInt8) (v2 : List UInt8) : Option (Bool) :=
  (bif (decide ((1048576 : Int) < (v1.length : Int))) then some true
  else (bif (decide ((1048576 : Int) < (v2.length : Int))) then some true
  else ((F_laws_szPersonS v0 1048576).bind fun v1000 => (bif (decide (v1000 < (0 : Int))) then some true
  else ((F_laws_toPersonS v0).bind fun v1001 => ((F_spec_CommonTeachers v1001 v1 v2).bind fun v1002 => ((F_laws_toPersonS v0).bind fun v1003 => ((F_impl_CommonTeachers v1003 v1 v2).bind fun v1004 => ((F_laws_eqStringS v1004.1 v1002.1).bind fun v1006 => (bif (!v1006) then some false
  else (bif (decide (v1004.2 ≠ v1002.2)) then some false
  else ((F_laws_toPersonS v0).bind fun v1007 => ((F_laws_eqPersonS v1003 v1007).bind fun v1008 => (bif (!v1008) then some false
  else ((F_laws_markPersonS v1003 1).bind fun v1009 => need (v1009.1.length = v1003.length) ((bif (decide (v1009.2 < (0 : Int))) then some false
  else ((F_laws_eqStringS v1004.1 v1002.1).bind fun v1012 => (bif (!v1012) then some false
  else (bif (decide (v1004.2 ≠ v1002.2)) then some false
  else ((F_laws_markStringS v1004.1 1).bind fun v1013 => need (v1013.1.length = v1004.1.length) (((F_laws_heldStringS v1013.1 1).bind fun v1015 => (bif (decide (v1015 < (0 : Int))) then some false
  else (bif (decide (v1015 ≠ v1013.2)) then some false
  else ((F_laws_toPersonS v0).bind fun v1016 => ((F_impl_CommonTeachers v1016 v1 v2).bind fun v1017 => ((F_laws_eqStringS v1017.1 v1002.1).bind fun v1019 => (bif (!v1019) then some false
  else (bif (decide (v1017.2 ≠ v1002.2)) then some false
  else ((F_laws_heldStringS v1013.1 1).bind fun v1020 => (bif (decide (v1020 < (0 : Int))) then some false
  else (bif (decide (v1020 ≠ v1013.2)) then some false
  else some true)))))))))))))))))))))))))))))))))
@[simp] def res_laws_FnExactCommonTeachers (r : Bool) : RV := .one (.one (.val (.bool r)))
theorem con_laws_FnExactCommonTeachers {v0 : List TPerson} {v1 : List UInt8} {v2 : List UInt8} {r : Bool} (hF : F_laws_FnExactCommonTeachers v0 v1 v2 = some r) : Con Try.prog 12 [.sl 3 (v0.map ePerson), .str v1, .str v2] (res_laws_FnExactCommonTeachers r) := by
  unfold F_laws_FnExactCommonTeachers at hF
  refine con_of c12_is fun N => ?_
  refine w_reg_seq 0 64 rfl rfl ?_
  refine qp (AB false) rfl ?_
  refine r_nil ?_
  refine w_seq ?_
  refine w_reg_seq 64 256 rfl rfl ?_
  refine qp (AS v1) rfl (qp (AI (v1.length : Int)) rfl (qp (AB (decide ((1048576 : Int) < (v1.length : Int)))) rfl ?_))
  refine r_nil ?_
  refine w_condF hF rfl (fun hF => ?_) (fun hF => ?_)
  ·
    refine w_reg_seq 256 320 rfl rfl ?_
    refine qp (AB true) rfl ?_
    refine r_nil ?_
    refine w_ret ?_
    refine thenQ_r ?_
    cases hF
    exact endQ_r rfl (.inl ⟨_, _, by first | rfl | (simp [List.take_of_length_le]; first | exact ⟨rfl, rfl⟩ | rfl), by simp, by first | rfl | simp [res_laws_FnExactCommonTeachers, List.take_of_length_le]⟩)
  ·
    refine w_skip ?_
    refine thenQ_n ?_
    refine w_seq ?_
    refine w_reg_seq 256 448 rfl rfl ?_
    refine qp (AS v2) rfl (qp (AI (v2.length : Int)) rfl (qp (AB (decide ((1048576 : Int) < (v2.length : Int)))) rfl ?_))
    refine r_nil ?_
    refine w_condF hF rfl (fun hF => ?_) (fun hF => ?_)
    ·
      refine w_reg_seq 448 512 rfl rfl ?_
      refine qp (AB true) rfl ?_
      refine r_nil ?_
      refine w_ret ?_
      refine thenQ_r ?_
      cases hF
      exact endQ_r rfl (.inl ⟨_, _, by first | rfl | (simp [List.take_of_length_le]; first | exact ⟨rfl, rfl⟩ | rfl), by simp, by first | rfl | simp [res_laws_FnExactCommonTeachers, List.take_of_length_le]⟩)
    ·
      refine w_skip ?_
      refine thenQ_n ?_
      refine w_reg_seq 448 512 rfl rfl ?_
      refine qp (AI 1048576) rfl ?_
      refine r_nil ?_
      refine w_reg_seq 512 768 rfl rfl ?_
      refine qp (.val none (.sl 3 (v0.map ePerson))) rfl (qp (AI 1048576) rfl ?_)
      obtain ⟨v1000, e1000, hF⟩ := bind_get hF
      refine qc (AI v1000) [] false (con_laws_szPersonS e1000) c14_ok (by first | rfl | simp) rfl ?_
      refine qp (AI v1000) rfl ?_
      refine r_nil ?_
      refine w_seq ?_
      refine w_reg_seq 768 896 rfl rfl ?_
      refine qp (AI v1000) rfl (qp (AB (decide (v1000 < (0 : Int)))) rfl ?_)
      refine r_nil ?_
      refine w_condF hF rfl (fun hF => ?_) (fun hF => ?_)
      ·
        refine w_reg_seq 896 960 rfl rfl ?_
        refine qp (AB true) rfl ?_
        refine r_nil ?_
        refine w_ret ?_
        refine thenQ_r ?_
        cases hF
        exact endQ_r rfl (.inl ⟨_, _, by first | rfl | (simp [List.take_of_length_le]; first | exact ⟨rfl, rfl⟩ | rfl), by simp, by first | rfl | simp [res_laws_FnExactCommonTeachers, List.take_of_length_le]⟩)
      ·
        refine w_skip ?_
        refine thenQ_n ?_
        refine w_reg_seq 896 1536 rfl rfl ?_
        refine qp (.val none (.sl 3 (v0.map ePerson))) rfl ?_
        obtain ⟨v1001, e1001, hF⟩ := bind_get hF
        refine qc (.sl 960 0 v1001.length) [(960, .row true 3 (v1001.map ePerson))] false (con_laws_toPersonS e1001) c16_ok (by first | rfl | simp) (by simp [res_laws_toPersonS]) ?_
        refine qp (AS v1) rfl (qp (AS v2) rfl ?_)
        obtain ⟨v1002, e1002, hF⟩ := bind_get hF
        refine qc (.tup [.sl 1152 0 v1002.1.length, AI v1002.2]) [(1152, .row true 1 (v1002.1.map V.str)), (960, .row true 3 (v1001.map ePerson))] true (con_spec_CommonTeachers e1002) c51_ok (by simp [List.take_of_length_le]) (by simp [res_spec_CommonTeachers]) ?_
        refine qp (.tup [.sl 1152 0 v1002.1.length, AI v1002.2]) rfl (qp (.sl 1152 0 v1002.1.length) rfl (qp (AI v1002.2) rfl (qp (.sl 1152 0 v1002.1.length) rfl (qp (AI v1002.2) rfl ?_))))
        refine r_nil ?_
        refine w_reg_seq 1536 1728 rfl rfl ?_
        refine qp (.val none (.sl 3 (v0.map ePerson))) rfl ?_
        obtain ⟨v1003, e1003, hF⟩ := bind_get hF
        refine qc (.sl 1600 0 v1003.length) [(1600, .row true 3 (v1003.map ePerson)), (1152, .row true 1 (v1002.1.map V.str)), (960, .row true 3 (v1001.map ePerson))] false (con_laws_toPersonS e1003) c16_ok (by first | rfl | simp) (by simp [res_laws_toPersonS]) ?_
        refine qp (.sl 1600 0 v1003.length) rfl ?_
        refine r_nil ?_
        refine w_reg_seq 1728 2304 rfl rfl ?_
        refine qp (.sl 1600 0 v1003.length) rfl (qp (AS v1) rfl (qp (AS v2) rfl ?_))
        obtain ⟨v1004, e1004, hF⟩ := bind_get hF
        refine qc (.tup [.sl 1920 0 v1004.1.length, AI v1004.2]) [(1920, .row true 1 (v1004.1.map V.str)), (1600, .row true 3 (v1003.map ePerson)), (1152, .row true 1 (v1002.1.map V.str)), (960, .row true 3 (v1001.map ePerson))] true (con_impl_CommonTeachers e1004) c52_ok (by simp [List.take_of_length_le]) (by simp [res_impl_CommonTeachers]) ?_
        refine qp (.tup [.sl 1920 0 v1004.1.length, AI v1004.2]) rfl (qp (.sl 1920 0 v1004.1.length) rfl (qp (AI v1004.2) rfl (qp (.sl 1920 0 v1004.1.length) rfl (qp (AI v1004.2) rfl ?_))))
        refine r_nil ?_
        refine w_seq ?_
        refine w_reg_seq 2304 2880 rfl rfl ?_
        refine qp (.sl 1920 0 v1004.1.length) rfl (qp (.sl 1152 0 v1002.1.length) rfl ?_)
        obtain ⟨v1006, e1006, hF⟩ := bind_get hF
        refine qc (AB v1006) [(1920, .row true 1 (v1004.1.map V.str)), (1600, .row true 3 (v1003.map ePerson)), (1152, .row true 1 (v1002.1.map V.str)), (960, .row true 3 (v1001.map ePerson))] true (con_laws_eqStringS e1006) c46_ok (by simp [List.take_of_length_le]) rfl ?_
        refine qp (AB (!v1006)) rfl (qp (AB (!v1006)) rfl ?_)
        refine q_case 50 hF rfl (fun hF => ?_) (fun hF => ?_)
        ·
          refine qn rfl (qn rfl (qn rfl (qp (AB true) rfl ?_)))
          refine r_nil ?_
          refine w_true rfl ?_
          refine w_reg_seq 2880 2944 rfl rfl ?_
          refine qp (AB false) rfl ?_
          refine r_nil ?_
          refine w_ret ?_
          refine thenQ_r ?_
          cases hF
          exact endQ_r rfl (.inl ⟨_, _, by first | rfl | (simp [List.take_of_length_le]; first | exact ⟨rfl, rfl⟩ | rfl), by simp, by first | rfl | simp [res_laws_FnExactCommonTeachers, List.take_of_length_le]⟩)
        ·
          refine qg (AI v1004.2) rfl rfl (qg (AI v1002.2) rfl rfl (qg (AB (decide (v1004.2 ≠ v1002.2))) rfl rfl (qp (AB (decide (v1004.2 ≠ v1002.2))) rfl ?_)))
          refine r_nil ?_
          refine w_condF hF rfl (fun hF => ?_) (fun hF => ?_)
          ·
            refine w_reg_seq 2880 2944 rfl rfl ?_
            refine qp (AB false) rfl ?_
            refine r_nil ?_
            refine w_ret ?_
            refine thenQ_r ?_
            cases hF
            exact endQ_r rfl (.inl ⟨_, _, by first | rfl | (simp [List.take_of_length_le]; first | exact ⟨rfl, rfl⟩ | rfl), by simp, by first | rfl | simp [res_laws_FnExactCommonTeachers, List.take_of_length_le]⟩)
          ·
            refine w_skip ?_
            refine thenQ_n ?_
            refine w_seq ?_
            refine w_reg_seq 2880 3200 rfl rfl ?_
            refine qp (.sl 1600 0 v1003.length) rfl (qp (.val none (.sl 3 (v0.map ePerson))) rfl ?_)
            obtain ⟨v1007, e1007, hF⟩ := bind_get hF
            refine qc (.sl 3008 0 v1007.length) [(3008, .row true 3 (v1007.map ePerson)), (1920, .row true 1 (v1004.1.map V.str)), (1600, .row true 3 (v1003.map ePerson)), (1152, .row true 1 (v1002.1.map V.str)), (960, .row true 3 (v1001.map ePerson))] false (con_laws_toPersonS e1007) c16_ok (by first | rfl | simp) (by simp [res_laws_toPersonS]) ?_
            obtain ⟨v1008, e1008, hF⟩ := bind_get hF
            refine qc (AB v1008) [(3008, .row true 3 (v1007.map ePerson)), (1920, .row true 1 (v1004.1.map V.str)), (1600, .row true 3 (v1003.map ePerson)), (1152, .row true 1 (v1002.1.map V.str)), (960, .row true 3 (v1001.map ePerson))] true (con_laws_eqPersonS e1008) c18_ok (by simp [List.take_of_length_le]) rfl ?_
            refine qp (AB (!v1008)) rfl ?_
            refine r_nil ?_
            refine w_condF hF rfl (fun hF => ?_) (fun hF => ?_)
            ·
              refine w_reg_seq 3200 3264 rfl rfl ?_
              refine qp (AB false) rfl ?_
              refine r_nil ?_
              refine w_ret ?_
              refine thenQ_r ?_
              cases hF
              exact endQ_r rfl (.inl ⟨_, _, by first | rfl | (simp [List.take_of_length_le]; first | exact ⟨rfl, rfl⟩ | rfl), by simp, by first | rfl | simp [res_laws_FnExactCommonTeachers, List.take_of_length_le]⟩)
            ·
              refine w_skip ?_
              refine thenQ_n ?_
              refine w_reg_seq 3200 3264 rfl rfl ?_
              refine qp (AI 1) rfl ?_
              refine r_nil ?_
              refine w_reg_seq 3264 3520 rfl rfl ?_
              refine qp (.sl 1600 0 v1003.length) rfl (qp (AI 1) rfl ?_)
              obtain ⟨v1009, e1009, hF⟩ := bind_get hF
              obtain ⟨g1010, hF⟩ := need_some hF
              refine qm (ls := [1600]) [(1600, .row true 3 (v1009.1.map ePerson)), (3008, .row true 3 (v1007.map ePerson)), (1920, .row true 1 (v1004.1.map V.str)), (1600, .row true 3 (v1003.map ePerson)), (1152, .row true 1 (v1002.1.map V.str)), (960, .row true 3 (v1001.map ePerson))] (con_laws_markPersonS e1009) c35_ok (by first | rfl | simp [takeM, takeML, takeM1, g1010]) (by decide) (by simp [like2, likeL, like1, g1010]) rfl rfl rfl (by simp [scrO_fo, newO2, newO, scrR, scrA, scrAs]) ?_
              refine qp (AI v1009.2) rfl ?_
              refine r_nil ?_
              refine w_seq ?_
              refine w_reg_seq 3520 4352 rfl rfl ?_
              refine qp (AI v1009.2) rfl (qp (AB (decide (v1009.2 < (0 : Int)))) rfl (qp (AB (decide (v1009.2 < (0 : Int)))) rfl ?_))
              refine q_case 65 hF rfl (fun hF => ?_) (fun hF => ?_)
              ·
                refine qn rfl (qn rfl (qn rfl (qn rfl (qp (AB true) rfl (qp (AB true) rfl (qn rfl (qn rfl ?_)))))))
                refine qn rfl (qp (AB true) rfl ?_)
                refine r_nil ?_
                refine w_true rfl ?_
                refine w_reg_seq 4352 4416 rfl rfl ?_
                refine qp (AB false) rfl ?_
                refine r_nil ?_
                refine w_ret ?_
                refine thenQ_r ?_
                cases hF
                exact endQ_r rfl (.inl ⟨_, _, by first | rfl | (simp [List.take_of_length_le]; first | exact ⟨rfl, rfl⟩ | rfl), by simp, by first | rfl | simp [res_laws_FnExactCommonTeachers, List.take_of_length_le, g1010]⟩)
              ·
                refine qg (.sl 1920 0 v1004.1.length) rfl rfl (qg (.sl 1152 0 v1002.1.length) rfl rfl ?_)
                obtain ⟨v1012, e1012, hF⟩ := bind_get hF
                refine qcg (AB v1012) [(1600, .row true 3 (v1009.1.map ePerson)), (3008, .row true 3 (v1007.map ePerson)), (1920, .row true 1 (v1004.1.map V.str)), (1600, .row true 3 (v1003.map ePerson)), (1152, .row true 1 (v1002.1.map V.str)), (960, .row true 3 (v1001.map ePerson))] true rfl (con_laws_eqStringS e1012) c46_ok (by simp [g1010, List.take_of_length_le]) rfl ?_
                refine qg (AB (!v1012)) rfl rfl (qp (AB (!v1012)) rfl (qp (AB (!v1012)) rfl ?_))
                refine q_case 71 hF rfl (fun hF => ?_) (fun hF => ?_)
                ·
                  refine qn rfl (qn rfl (qn rfl (qp (AB true) rfl ?_)))
                  refine r_nil ?_
                  refine w_true rfl ?_
                  refine w_reg_seq 4352 4416 rfl rfl ?_
                  refine qp (AB false) rfl ?_
                  refine r_nil ?_
                  refine w_ret ?_
                  refine thenQ_r ?_
                  cases hF
                  exact endQ_r rfl (.inl ⟨_, _, by first | rfl | (simp [List.take_of_length_le]; first | exact ⟨rfl, rfl⟩ | rfl), by simp, by first | rfl | simp [res_laws_FnExactCommonTeachers, List.take_of_length_le, g1010]⟩)
                ·
                  refine qg (AI v1004.2) rfl rfl (qg (AI v1002.2) rfl rfl (qg (AB (decide (v1004.2 ≠ v1002.2))) rfl rfl (qp (AB (decide (v1004.2 ≠ v1002.2))) rfl ?_)))
                  refine r_nil ?_
                  refine w_condF hF rfl (fun hF => ?_) (fun hF => ?_)
                  ·
                    refine w_reg_seq 4352 4416 rfl rfl ?_
                    refine qp (AB false) rfl ?_
                    refine r_nil ?_
                    refine w_ret ?_
                    refine thenQ_r ?_
                    cases hF
                    exact endQ_r rfl (.inl ⟨_, _, by first | rfl | (simp [List.take_of_length_le]; first | exact ⟨rfl, rfl⟩ | rfl), by simp, by first | rfl | simp [res_laws_FnExactCommonTeachers, List.take_of_length_le, g1010]⟩)
                  ·
                    refine w_skip ?_
                    refine thenQ_n ?_
                    refine w_reg_seq 4352 4416 rfl rfl ?_
                    refine qp (AI 1) rfl ?_
                    refine r_nil ?_
                    refine w_reg_seq 4416 4672 rfl rfl ?_
                    refine qp (.sl 1920 0 v1004.1.length) rfl (qp (AI 1) rfl ?_)
                    obtain ⟨v1013, e1013, hF⟩ := bind_get hF
                    obtain ⟨g1014, hF⟩ := need_some hF
                    refine qm (ls := [1920]) [(1920, .row true 1 (v1013.1.map V.str)), (1600, .row true 3 (v1009.1.map ePerson)), (3008, .row true 3 (v1007.map ePerson)), (1920, .row true 1 (v1004.1.map V.str)), (1600, .row true 3 (v1003.map ePerson)), (1152, .row true 1 (v1002.1.map V.str)), (960, .row true 3 (v1001.map ePerson))] (con_laws_markStringS e1013) c47_ok (by first | rfl | simp [takeM, takeML, takeM1, g1010, g1014]) (by decide) (by simp [like2, likeL, like1, g1014]) rfl rfl rfl (by simp [scrO_fo, newO2, newO, scrR, scrA, scrAs]) ?_
                    refine qp (AI v1013.2) rfl ?_
                    refine r_nil ?_
                    refine w_reg_seq 4672 4736 rfl rfl ?_
                    refine qp (AI 1) rfl ?_
                    refine r_nil ?_
                    refine w_reg_seq 4736 4992 rfl rfl ?_
                    refine qp (.sl 1920 0 v1004.1.length) rfl (qp (AI 1) rfl ?_)
                    obtain ⟨v1015, e1015, hF⟩ := bind_get hF
                    refine qc (AI v1015) [(1920, .row true 1 (v1013.1.map V.str)), (1600, .row true 3 (v1009.1.map ePerson)), (3008, .row true 3 (v1007.map ePerson)), (1920, .row true 1 (v1004.1.map V.str)), (1600, .row true 3 (v1003.map ePerson)), (1152, .row true 1 (v1002.1.map V.str)), (960, .row true 3 (v1001.map ePerson))] true (con_laws_heldStringS e1015) c48_ok (by simp [g1010, g1014, List.take_of_length_le]) rfl ?_
                    refine qp (AI v1015) rfl ?_
                    refine r_nil ?_
                    refine w_seq ?_
                    refine w_reg_seq 4992 5120 rfl rfl ?_
                    refine qp (AI v1015) rfl (qp (AB (decide (v1015 < (0 : Int)))) rfl ?_)
                    refine r_nil ?_
                    refine w_condF hF rfl (fun hF => ?_) (fun hF => ?_)
                    ·
                      refine w_reg_seq 5120 5184 rfl rfl ?_
                      refine qp (AB false) rfl ?_
                      refine r_nil ?_
                      refine w_ret ?_
                      refine thenQ_r ?_
                      cases hF
                      exact endQ_r rfl (.inl ⟨_, _, by first | rfl | (simp [List.take_of_length_le]; first | exact ⟨rfl, rfl⟩ | rfl), by simp, by first | rfl | simp [res_laws_FnExactCommonTeachers, List.take_of_length_le, g1010, g1014]⟩)
                    ·
                      refine w_skip ?_
                      refine thenQ_n ?_
                      refine w_seq ?_
                      refine w_reg_seq 5120 5312 rfl rfl ?_
                      refine qp (AI v1015) rfl (qp (AI v1013.2) rfl (qp (AB (decide (v1015 ≠ v1013.2))) rfl ?_))
                      refine r_nil ?_
                      refine w_condF hF rfl (fun hF => ?_) (fun hF => ?_)
                      ·
                        refine w_reg_seq 5312 5376 rfl rfl ?_
                        refine qp (AB false) rfl ?_
                        refine r_nil ?_
                        refine w_ret ?_
                        refine thenQ_r ?_
                        cases hF
                        exact endQ_r rfl (.inl ⟨_, _, by first | rfl | (simp [List.take_of_length_le]; first | exact ⟨rfl, rfl⟩ | rfl), by simp, by first | rfl | simp [res_laws_FnExactCommonTeachers, List.take_of_length_le, g1010, g1014]⟩)
                      ·
                        refine w_skip ?_
                        refine thenQ_n ?_
                        refine w_reg_seq 5312 5952 rfl rfl ?_
                        refine qp (.val none (.sl 3 (v0.map ePerson))) rfl ?_
                        obtain ⟨v1016, e1016, hF⟩ := bind_get hF
                        refine qc (.sl 5376 0 v1016.length) [(5376, .row true 3 (v1016.map ePerson)), (1920, .row true 1 (v1013.1.map V.str)), (1600, .row true 3 (v1009.1.map ePerson)), (3008, .row true 3 (v1007.map ePerson)), (1920, .row true 1 (v1004.1.map V.str)), (1600, .row true 3 (v1003.map ePerson)), (1152, .row true 1 (v1002.1.map V.str)), (960, .row true 3 (v1001.map ePerson))] false (con_laws_toPersonS e1016) c16_ok (by first | rfl | simp) (by simp [res_laws_toPersonS]) ?_
                        refine qp (AS v1) rfl (qp (AS v2) rfl ?_)
                        obtain ⟨v1017, e1017, hF⟩ := bind_get hF
                        refine qc (.tup [.sl 5568 0 v1017.1.length, AI v1017.2]) [(5568, .row true 1 (v1017.1.map V.str)), (5376, .row true 3 (v1016.map ePerson)), (1920, .row true 1 (v1013.1.map V.str)), (1600, .row true 3 (v1009.1.map ePerson)), (3008, .row true 3 (v1007.map ePerson)), (1920, .row true 1 (v1004.1.map V.str)), (1600, .row true 3 (v1003.map ePerson)), (1152, .row true 1 (v1002.1.map V.str)), (960, .row true 3 (v1001.map ePerson))] true (con_impl_CommonTeachers e1017) c52_ok (by simp [g1010, g1014, List.take_of_length_le]) (by simp [res_impl_CommonTeachers]) ?_
                        refine qp (.tup [.sl 5568 0 v1017.1.length, AI v1017.2]) rfl (qp (.sl 5568 0 v1017.1.length) rfl (qp (AI v1017.2) rfl (qp (.sl 5568 0 v1017.1.length) rfl (qp (AI v1017.2) rfl ?_))))
                        refine r_nil ?_
                        refine w_seq ?_
                        refine w_reg_seq 5952 6528 rfl rfl ?_
                        refine qp (.sl 5568 0 v1017.1.length) rfl (qp (.sl 1152 0 v1002.1.length) rfl ?_)
                        obtain ⟨v1019, e1019, hF⟩ := bind_get hF
                        refine qc (AB v1019) [(5568, .row true 1 (v1017.1.map V.str)), (5376, .row true 3 (v1016.map ePerson)), (1920, .row true 1 (v1013.1.map V.str)), (1600, .row true 3 (v1009.1.map ePerson)), (3008, .row true 3 (v1007.map ePerson)), (1920, .row true 1 (v1004.1.map V.str)), (1600, .row true 3 (v1003.map ePerson)), (1152, .row true 1 (v1002.1.map V.str)), (960, .row true 3 (v1001.map ePerson))] true (con_laws_eqStringS e1019) c46_ok (by simp [g1010, g1014, List.take_of_length_le]) rfl ?_
                        refine qp (AB (!v1019)) rfl (qp (AB (!v1019)) rfl ?_)
                        refine q_case 99 hF rfl (fun hF => ?_) (fun hF => ?_)
                        ·
                          refine qn rfl (qn rfl (qn rfl (qp (AB true) rfl ?_)))
                          refine r_nil ?_
                          refine w_true rfl ?_
                          refine w_reg_seq 6528 6592 rfl rfl ?_
                          refine qp (AB false) rfl ?_
                          refine r_nil ?_
                          refine w_ret ?_
                          refine thenQ_r ?_
                          cases hF
                          exact endQ_r rfl (.inl ⟨_, _, by first | rfl | (simp [List.take_of_length_le]; first | exact ⟨rfl, rfl⟩ | rfl), by simp, by first | rfl | simp [res_laws_FnExactCommonTeachers, List.take_of_length_le, g1010, g1014]⟩)
                        ·
                          refine qg (AI v1017.2) rfl rfl (qg (AI v1002.2) rfl rfl (qg (AB (decide (v1017.2 ≠ v1002.2))) rfl rfl (qp (AB (decide (v1017.2 ≠ v1002.2))) rfl ?_)))
                          refine r_nil ?_
                          refine w_condF hF rfl (fun hF => ?_) (fun hF => ?_)
                          ·
                            refine w_reg_seq 6528 6592 rfl rfl ?_
                            refine qp (AB false) rfl ?_
                            refine r_nil ?_
                            refine w_ret ?_
                            refine thenQ_r ?_
                            cases hF
                            exact endQ_r rfl (.inl ⟨_, _, by first | rfl | (simp [List.take_of_length_le]; first | exact ⟨rfl, rfl⟩ | rfl), by simp, by first | rfl | simp [res_laws_FnExactCommonTeachers, List.take_of_length_le, g1010, g1014]⟩)
                          ·
                            refine w_skip ?_
                            refine thenQ_n ?_
                            refine w_reg_seq 6528 6592 rfl rfl ?_
                            refine qp (AI 1) rfl ?_
                            refine r_nil ?_
                            refine w_reg_seq 6592 6848 rfl rfl ?_
                            refine qp (.sl 1920 0 v1004.1.length) rfl (qp (AI 1) rfl ?_)
                            obtain ⟨v1020, e1020, hF⟩ := bind_get hF
                            refine qc (AI v1020) [(5568, .row true 1 (v1017.1.map V.str)), (5376, .row true 3 (v1016.map ePerson)), (1920, .row true 1 (v1013.1.map V.str)), (1600, .row true 3 (v1009.1.map ePerson)), (3008, .row true 3 (v1007.map ePerson)), (1920, .row true 1 (v1004.1.map V.str)), (1600, .row true 3 (v1003.map ePerson)), (1152, .row true 1 (v1002.1.map V.str)), (960, .row true 3 (v1001.map ePerson))] true (con_laws_heldStringS e1020) c48_ok (by simp [g1010, g1014, List.take_of_length_le]) rfl ?_
                            refine qp (AI v1020) rfl ?_
                            refine r_nil ?_
                            refine w_seq ?_
                            refine w_reg_seq 6848 6976 rfl rfl ?_
                            refine qp (AI v1020) rfl (qp (AB (decide (v1020 < (0 : Int)))) rfl ?_)
                            refine r_nil ?_
                            refine w_condF hF rfl (fun hF => ?_) (fun hF => ?_)
                            ·
                              refine w_reg_seq 6976 7040 rfl rfl ?_
                              refine qp (AB false) rfl ?_
                              refine r_nil ?_
                              refine w_ret ?_
                              refine thenQ_r ?_
                              cases hF
                              exact endQ_r rfl (.inl ⟨_, _, by first | rfl | (simp [List.take_of_length_le]; first | exact ⟨rfl, rfl⟩ | rfl), by simp, by first | rfl | simp [res_laws_FnExactCommonTeachers, List.take_of_length_le, g1010, g1014]⟩)
                            ·
                              refine w_skip ?_
                              refine thenQ_n ?_
                              refine w_seq ?_
                              refine w_reg_seq 6976 7168 rfl rfl ?_
                              refine qp (AI v1020) rfl (qp (AI v1013.2) rfl (qp (AB (decide (v1020 ≠ v1013.2))) rfl ?_))
                              refine r_nil ?_
                              refine w_condF hF rfl (fun hF => ?_) (fun hF => ?_)
                              ·
                                refine w_reg_seq 7168 7232 rfl rfl ?_
                                refine qp (AB false) rfl ?_
                                refine r_nil ?_
                                refine w_ret ?_
                                refine thenQ_r ?_
                                cases hF
                                exact endQ_r rfl (.inl ⟨_, _, by first | rfl | (simp [List.take_of_length_le]; first | exact ⟨rfl, rfl⟩ | rfl), by simp, by first | rfl | simp [res_laws_FnExactCommonTeachers, List.take_of_length_le, g1010, g1014]⟩)
                              ·
                                refine w_skip ?_
                                refine thenQ_n ?_
                                refine w_reg_seq 7168 7232 rfl rfl ?_
                                refine qp (AB true) rfl ?_
                                refine r_nil ?_
                                refine w_ret ?_
                                cases hF
                                exact endQ_r rfl (.inl ⟨_, _, by first | rfl | (simp [List.take_of_length_le]; first | exact ⟨rfl, rfl⟩ | rfl), by simp, by first | rfl | simp [res_laws_FnExactCommonTeachers, List.take_of_length_le, g1010, g1014]⟩)

end Go.Ab
