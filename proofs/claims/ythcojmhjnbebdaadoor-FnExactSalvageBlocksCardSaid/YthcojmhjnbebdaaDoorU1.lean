/- Walks (printed by auto.py, a program of this session's own). -/
import Derived.Test.YthcojmhjnbebdaaDoorU0
import Derived.Test.YthcojmhjnbebdaaDoorProg
import Derived.KernelRfl
import Derived.Test.YthcojmhjnbebdaaDoorSQ
set_option linter.unusedVariables false
set_option linter.unusedSimpArgs false
set_option maxRecDepth 8000
set_option maxHeartbeats 8000000
namespace Go.Ab
open Go.RowKit Go.Proofs

def c60 : MC := (.seq (.reg [rg 2 (.p true (.mv (.c (.bool false))))]) (.seq (.seq (.reg [mvt 5 0, rg 6 (.p true (.len (.t 5))), rg 7 (.p true (.bin .gtr (.t 6) (.c (.int .i64 32))))]) (.cond (.t 7) (.seq (.reg [rg 2 (.p true (.mv (.c (.bool false))))]) .ret) .skip)) (.seq (.seq (.reg [mvt 8 0, rg 9 (.p true (.len (.t 8))), rg 10 (.p true (.mv (.c (.int .i64 0))))]) (.block 0 (.loop (.seq (.reg [rg 11 (.p true (.bin .lss (.t 10) (.t 9)))]) (.seq (.cond (.t 11) .skip (.exit 0)) (.seq (.block 1 (.seq (.reg [mvt 12 10, rg 13 (.p true (.iad (.t 8) (.t 10) 3)), rg 14 (.p true (.ld (.t 13) 3 true)), rg 4 (.f (.alloc [((.str []), (0, false)), ((.str []), (0, false)), ((.str []), (0, false))])), mvt 3 12, ⟨none, none, (.f (.st (.t 4) (.t 14) 3))⟩]) (.seq (.reg [rg 15 (.p false (.ld (.t 4) 3 true)), rg 16 (.call false 111 [(.t 15)]), rg 17 (.p false (.not (.t 16))), rg 18 (.p false (.mv (.t 17))), ⟨(some 19), (some (18, false)), (.p false (.mv (.t 3)))⟩, ⟨(some 20), (some (18, false)), (.p false (.bin .gtr (.t 19) (.c (.int .i64 0))))⟩, ⟨(some 21), (some (18, false)), (.p false (.mv (.t 20)))⟩, ⟨(some 22), (some (21, true)), (.p false (.mv (.t 0)))⟩, ⟨(some 23), (some (21, true)), (.p false (.mv (.t 3)))⟩, ⟨(some 24), (some (21, true)), (.p false (.bin .sub (.t 23) (.c (.int .i64 1))))⟩, ⟨(some 25), (some (21, true)), (.p false (.iad (.t 22) (.t 24) 3))⟩, ⟨(some 26), (some (21, true)), (.p false (.ld (.t 25) 3 true))⟩, ⟨(some 27), (some (21, true)), (.p false (.ld (.t 4) 3 true))⟩, ⟨(some 28), (some (21, true)), (.call false 112 [(.t 26), (.t 27)])⟩, ⟨(some 29), (some (21, true)), (.p false (.bin .geq (.t 28) (.c (.int .i64 0))))⟩, ⟨(some 30), (some (18, false)), (.p false (.pick (.t 21) (.t 29) (.c (.bool false))))⟩, rg 31 (.p false (.pick (.t 18) (.c (.bool true)) (.t 30)))]) (.cond (.t 31) (.seq (.reg [rg 2 (.p true (.mv (.c (.bool false))))]) .ret) .skip)))) (.reg [rg 32 (.p true (.bin .add (.t 10) (.c (.int .i64 1)))), mvt 10 32]))))))) (.seq (.reg [rg 2 (.p true (.mv (.c (.bool true))))]) .ret))))
theorem c60_is : compFn Tryd.prog 60 = some (c60, [(.tmp 2)]) := by kernel_rfl
theorem c60_ok : okFn Tryd.prog 60 = true := by kernel_rfl

noncomputable def F_impl_ValidBlocks_l0 (v0 : List TBlock) (k0 : Int → Option (Bool)) : Int → Option (Bool)
 | v50001 => (bif (decide (v50001 < (v0.length : Int))) then ((ix v0 v50001).bind fun v1000 => ((F_impl_ValidBlock v1000).bind fun v1001 => (bif (!v1001) then some false
 else (bif (decide ((0 : Int) < v50001)) then ((ix v0 (w64 (v50001 - 1))).bind fun v1002 => ((F_impl_compareBlocks v1002 v1000).bind fun v1003 => (bif (decide ((0 : Int) ≤ v1003)) then some false
 else k0 (w64 (v50001 + 1)))))
 else k0 (w64 (v50001 + 1))))))
 else some true)
noncomputable def F_impl_ValidBlocks (v0 : List TBlock) : Option (Bool) :=
 (bif (decide ((32 : Int) < (v0.length : Int))) then some false
 else loop (F_impl_ValidBlocks_l0 v0) 0)
@[simp] def res_impl_ValidBlocks (r : Bool) : RV := .one (.one (.val (.bool r)))
theorem con_impl_ValidBlocks {v0 : List TBlock} {r : Bool} (hF : F_impl_ValidBlocks v0 = some r) : Con Tryd.prog 60 [.sl 3 (v0.map eBlock)] (res_impl_ValidBlocks r) := by
 unfold F_impl_ValidBlocks at hF
 refine con_of c60_is fun N => ?_
 refine ws 0 64 ?_
 refine qp (AB false) rfl ?_
 refine r_nil ?_
 refine w_seq ?_
 refine ws 64 256 ?_
 refine qp (AL 3 (v0.map eBlock)) rfl (qp (AI (v0.length : Int)) (ev_len_n rfl) (qp (AB (decide ((32 : Int) < (v0.length : Int)))) rfl ?_))
 refine r_nil ?_
 refine cF hF (fun hF => ?_) fun hF => ?_
 ·
  refine ws 256 320 ?_
  refine qp (AB false) rfl ?_
  refine r_nil ?_
  refine w_ret ?_
  refine thenQ_r ?_
  cases hF
  exact eR
 ·
  refine w_skip ?_
  refine thenQ_n ?_
  refine w_seq ?_
  refine ws 256 448 ?_
  refine qp (AL 3 (v0.map eBlock)) rfl (qp (AI (v0.length : Int)) (ev_len_n rfl) (qp (AI 0) rfl ?_))
  refine r_nil ?_
  refine w_block ?_
  refine wr (l' := [(0, AL 3 (v0.map eBlock)), (8, AL 3 (v0.map eBlock)), (9, AI (v0.length : Int)), (10, AI 0)]) (L := []) [0, 8, 9, 10] [] 1 ?_
  refine w_loopF (F_impl_ValidBlocks_l0 v0) (fun s : Int => mkS [(0, AL 3 (v0.map eBlock)), (8, AL 3 (v0.map eBlock)), (9, AI (v0.length : Int)), (10, AI s)] (fo []) 1) hF ?_
  rintro k0 v50001 hF
  rw [F_impl_ValidBlocks_l0] at hF
  try dsimp only
  refine ws 1 65 ?_
  refine qp (AB (decide (v50001 < (v0.length : Int)))) rfl ?_
  refine r_nil ?_
  refine w_seq ?_
  refine cF hF (fun hF => ?_) fun hF => ?_
  ·
   refine w_skip ?_
   refine thenQ_n ?_
   refine w_seq ?_
   refine w_block ?_
   refine ws 65 449 ?_
   refine qp (AI v50001) rfl ?_
   obtain ⟨v1000, e1000, hF⟩ := bind_get hF
   refine qp (.val none (.ptr [.str v1000.1, .str v1000.2.1, .str v1000.2.2])) (ev_iad_n rfl rfl e1000 rfl) (qp (.val none (eBlock v1000)) rfl ?_)
   refine qf (.ptr 257 0 0) [(257, .box [AS [], AS [], AS []])] (by simp) ?_
   refine qp (AI v50001) rfl ?_
   refine qf0 (.undef) [(257, .box [AS v1000.1, AS v1000.2.1, AS v1000.2.2]), (257, .box [AS [], AS [], AS []])] (by simp) ?_
   refine r_nil ?_
   refine ws 449 1537 ?_
   refine qp (.agg [AS v1000.1, AS v1000.2.1, AS v1000.2.2]) rfl ?_
   obtain ⟨v1001, e1001, hF⟩ := bind_get hF
   refine qc (AB v1001) [(257, .box [AS v1000.1, AS v1000.2.1, AS v1000.2.2]), (257, .box [AS [], AS [], AS []])] false (con_impl_ValidBlock e1001) c111_ok (by first | rfl | simp) rfl ?_
   refine qp (AB (!v1001)) rfl (qp (AB (!v1001)) rfl ?_)
   refine q_case 18 hF rfl (fun hF => ?_) (fun hF => ?_)
   ·
    refine qn rfl (qn rfl (qn rfl (qu rfl (qu rfl (qu rfl (qu rfl (qu rfl ?_)))))))
    refine qu rfl (qu rfl (qu rfl (qn rfl (qp (AB true) rfl ?_))))
    refine r_nil ?_
    refine w_true rfl ?_
    refine ws 1537 1601 ?_
    refine qp (AB false) rfl ?_
    refine r_nil ?_
    refine w_ret ?_
    refine blockQ_r ?_
    refine thenQ_r ?_
    refine thenQ_r ?_
    refine blockQ_r ?_
    refine thenQ_r ?_
    cases hF
    exact eR
   ·
    refine qg (AI v50001) rfl rfl (qg (AB (decide ((0 : Int) < v50001))) rfl rfl (qg (AB (decide ((0 : Int) < v50001))) rfl rfl ?_))
    refine q_case 21 hF rfl (fun hF => ?_) (fun hF => ?_)
    ·
     refine qg (AL 3 (v0.map eBlock)) rfl rfl (qg (AI v50001) rfl rfl (qg (AI (w64 (v50001 - 1))) rfl rfl ?_))
     obtain ⟨v1002, e1002, hF⟩ := bind_get hF
     refine qg (.val none (.ptr [.str v1002.1, .str v1002.2.1, .str v1002.2.2])) rfl (ev_iad_n rfl rfl e1002 rfl) (qg (.val none (eBlock v1002)) rfl rfl (qg (.agg [AS v1000.1, AS v1000.2.1, AS v1000.2.2]) rfl rfl ?_))
     obtain ⟨v1003, e1003, hF⟩ := bind_get hF
     refine qcg (AI v1003) [(257, .box [AS v1000.1, AS v1000.2.1, AS v1000.2.2]), (257, .box [AS [], AS [], AS []])] false rfl (con_impl_compareBlocks e1003) c112_ok (by first | rfl | simp) rfl ?_
     refine qg (AB (decide ((0 : Int) ≤ v1003))) rfl rfl (qg (AB (decide ((0 : Int) ≤ v1003))) rfl rfl (qp (AB (decide ((0 : Int) ≤ v1003))) rfl ?_))
     refine r_nil ?_
     refine cF hF (fun hF => ?_) fun hF => ?_
     ·
      refine ws 1537 1601 ?_
      refine qp (AB false) rfl ?_
      refine r_nil ?_
      refine w_ret ?_
      refine blockQ_r ?_
      refine thenQ_r ?_
      refine thenQ_r ?_
      refine blockQ_r ?_
      refine thenQ_r ?_
      cases hF
      exact eR
     ·
      refine w_skip ?_
      refine blockQ_n ?_
      refine thenQ_n ?_
      refine w_reg 1537 1665 rfl rfl ?_
      refine qp (AI (w64 (v50001 + 1))) rfl (qp (AI (w64 (v50001 + 1))) rfl ?_)
      refine r_nil ?_
      refine thenQ_n ?_
      refine ar (l' := [(0, AL 3 (v0.map eBlock)), (8, AL 3 (v0.map eBlock)), (9, AI (v0.length : Int)), (10, AI (w64 (v50001 + 1)))]) (L := []) [0, 8, 9, 10] [] 1 ⟨_, by rfl, hF⟩
    ·
     refine qn rfl (qn rfl (qn rfl (qn rfl (qn rfl (qn rfl (qn rfl (qn rfl ?_)))))))
     refine qg (AB false) rfl rfl (qp (AB false) rfl ?_)
     refine r_nil ?_
     refine w_false rfl ?_
     refine w_skip ?_
     refine blockQ_n ?_
     refine thenQ_n ?_
     refine w_reg 1537 1665 rfl rfl ?_
     refine qp (AI (w64 (v50001 + 1))) rfl (qp (AI (w64 (v50001 + 1))) rfl ?_)
     refine r_nil ?_
     refine thenQ_n ?_
     refine ar (l' := [(0, AL 3 (v0.map eBlock)), (8, AL 3 (v0.map eBlock)), (9, AI (v0.length : Int)), (10, AI (w64 (v50001 + 1)))]) (L := []) [0, 8, 9, 10] [] 1 ⟨_, by rfl, hF⟩
  ·
   refine w_exit ?_
   refine thenQ_e ?_
   refine thenQ_e ?_
   refine blockQ_e ?_
   refine thenQ_n ?_
   refine ws 65 129 ?_
   refine qp (AB true) rfl ?_
   refine r_nil ?_
   refine w_ret ?_
   cases hF
   exact eR

def c155 : MC := (.seq (.reg [rg 4 (.f (.box (.t 1))), rg 6 (.p true (.mv (.c (.int .i64 0)))), rg 7 (.p true (.mv (.c (.bool false))))]) (.seq (.reg [mvt 12 0, rg 13 (.p true (.len (.t 12))), mvt 8 13]) (.seq (.reg [mvt 14 8, rg 9 (.p true (.mv (.c (.int .i64 0)))), mvt 10 14]) (.seq (.block 0 (.loop (.seq (.seq (.reg [mvt 15 9, mvt 16 10, rg 17 (.p true (.bin .lss (.t 15) (.t 16)))]) (.cond (.t 17) .skip (.exit 0))) (.block 1 (.seq (.reg [mvt 18 9, mvt 19 10, rg 20 (.p true (.bin .add (.t 18) (.t 19))), rg 21 (.p true (.conv .u64 (.t 20))), rg 22 (.p true (.bin .shr (.t 21) (.c (.int .u64 1)))), rg 23 (.p true (.conv .i64 (.t 22))), mvt 11 23]) (.seq (.reg [rg 24 (.p false (.mv (.t 2))), rg 25 (.p false (.mv (.t 0))), rg 26 (.p false (.mv (.t 11))), rg 27 (.p false (.iad (.t 25) (.t 26) 3)), rg 28 (.p false (.ld (.t 27) 3 true)), rg 29 (.p false (.ld (.t 4) 3 true)), rg 30 (.callv (.t 24) [(.t 28), (.t 29)]), rg 31 (.p false (.bin .lss (.t 30) (.c (.int .i64 0))))]) (.cond (.t 31) (.reg [mvt 32 11, rg 33 (.p true (.bin .add (.t 32) (.c (.int .i64 1)))), mvt 9 33]) (.reg [mvt 34 11, mvt 10 34])))))))) (.seq (.reg [rg 35 (.p false (.mv (.t 9))), rg 36 (.p false (.mv (.t 9))), rg 37 (.p false (.mv (.t 8))), rg 38 (.p false (.bin .lss (.t 36) (.t 37))), rg 39 (.p false (.mv (.t 38))), ⟨(some 40), (some (39, true)), (.p false (.mv (.t 2)))⟩, ⟨(some 41), (some (39, true)), (.p false (.mv (.t 0)))⟩, ⟨(some 42), (some (39, true)), (.p false (.mv (.t 9)))⟩, ⟨(some 43), (some (39, true)), (.p false (.iad (.t 41) (.t 42) 3))⟩, ⟨(some 44), (some (39, true)), (.p false (.ld (.t 43) 3 true))⟩, ⟨(some 45), (some (39, true)), (.p false (.ld (.t 4) 3 true))⟩, ⟨(some 46), (some (39, true)), (.callv (.t 40) [(.t 44), (.t 45)])⟩, ⟨(some 47), (some (39, true)), (.p false (.bin .eql (.t 46) (.c (.int .i64 0))))⟩, rg 48 (.p false (.pick (.t 39) (.t 47) (.c (.bool false)))), rg 6 (.p false (.mv (.t 35))), rg 7 (.p false (.mv (.t 48)))]) .ret)))))
theorem c155_is : compFn Tryd.prog 155 = some (c155, [(.tmp 6), (.tmp 7)]) := by kernel_rfl
theorem c155_ok : okFn Tryd.prog 155 = true := by kernel_rfl

noncomputable def F_slices_BinarySearchFunc_SBlock_Block_l0 (v0 : List TBlock) (v1 : TBlock) (k0 : Int × Int → Option (Int × Bool)) : Int × Int → Option (Int × Bool)
 | (v50002, v50003) => (bif (decide (v50002 < v50003)) then (need (0 ≤ (1 : Int)) (((ix v0 (w64 (Int.fdiv (IntKind.wrap .u64 (w64 (v50002 + v50003))) (2 ^ (min ((1 : Int)).toNat (IntKind.bits .u64)))))).bind fun v1001 => ((F_impl_compareBlocks v1001 v1).bind fun v1002 => (bif (decide (v1002 < (0 : Int))) then k0 (w64 ((w64 (Int.fdiv (IntKind.wrap .u64 (w64 (v50002 + v50003))) (2 ^ (min ((1 : Int)).toNat (IntKind.bits .u64))))) + 1), v50003)
 else k0 (v50002, w64 (Int.fdiv (IntKind.wrap .u64 (w64 (v50002 + v50003))) (2 ^ (min ((1 : Int)).toNat (IntKind.bits .u64))))))))))
 else (bif (decide (v50002 < (v0.length : Int))) then ((ix v0 v50002).bind fun v1003 => ((F_impl_compareBlocks v1003 v1).bind fun v1004 => some (v50002, (decide (v1004 = (0 : Int))))))
 else some (v50002, false)))
noncomputable def F_slices_BinarySearchFunc_SBlock_Block (v0 : List TBlock) (v1 : TBlock) : Option (Int × Bool) :=
 loop (F_slices_BinarySearchFunc_SBlock_Block_l0 v0 v1) (0, (v0.length : Int))
@[simp] def res_slices_BinarySearchFunc_SBlock_Block (r : Int × Bool) : RV := .tup [.one (.val (.int .i64 r.1)), .one (.val (.bool r.2))]
theorem con_slices_BinarySearchFunc_SBlock_Block {v0 : List TBlock} {v1 : TBlock} {r : Int × Bool} (hF : F_slices_BinarySearchFunc_SBlock_Block v0 v1 = some r) : Con Tryd.prog 155 [.sl 3 (v0.map eBlock), eBlock v1, .fn 112 []] (res_slices_BinarySearchFunc_SBlock_Block r) := by
 unfold F_slices_BinarySearchFunc_SBlock_Block at hF
 refine con_of c155_is fun N => ?_
 refine ws 0 192 ?_
 refine qf (.ptr 0 0 0) [(0, .box [AS v1.1, AS v1.2.1, AS v1.2.2])] (by simp) ?_
 refine qp (AI 0) rfl (qp (AB false) rfl ?_)
 refine r_nil ?_
 refine ws 192 384 ?_
 refine qp (AL 3 (v0.map eBlock)) rfl (qp (AI (v0.length : Int)) (ev_len_n rfl) (qp (AI (v0.length : Int)) rfl ?_))
 refine r_nil ?_
 refine ws 384 576 ?_
 refine qp (AI (v0.length : Int)) rfl (qp (AI 0) rfl (qp (AI (v0.length : Int)) rfl ?_))
 refine r_nil ?_
 refine w_seq ?_
 refine w_block ?_
 refine wr (l' := [(0, AL 3 (v0.map eBlock)), (2, .val none (.fn 112 [])), (4, .ptr 0 0 0), (8, AI (v0.length : Int)), (9, AI 0), (10, AI (v0.length : Int))]) (L := [(0, .box [AS v1.1, AS v1.2.1, AS v1.2.2])]) [0, 2, 4, 8, 9, 10] [(0, 0)] 1 ?_
 refine w_loopF (F_slices_BinarySearchFunc_SBlock_Block_l0 v0 v1) (fun s : Int × Int => mkS [(0, AL 3 (v0.map eBlock)), (2, .val none (.fn 112 [])), (4, .ptr 0 0 0), (8, AI (v0.length : Int)), (9, AI s.1), (10, AI s.2)] (fo [(0, .box [AS v1.1, AS v1.2.1, AS v1.2.2])]) 1) hF ?_
 rintro k0 ⟨v50002, v50003⟩ hF
 rw [F_slices_BinarySearchFunc_SBlock_Block_l0] at hF
 try dsimp only
 refine w_seq ?_
 refine ws 1 193 ?_
 refine qp (AI v50002) rfl (qp (AI v50003) rfl (qp (AB (decide (v50002 < v50003))) rfl ?_))
 refine r_nil ?_
 refine cF hF (fun hF => ?_) fun hF => ?_
 ·
  refine w_skip ?_
  refine thenQ_n ?_
  refine w_block ?_
  refine ws 193 641 ?_
  refine qp (AI v50002) rfl (qp (AI v50003) rfl (qp (AI (w64 (v50002 + v50003))) rfl (qp (.val none (.int .u64 (IntKind.wrap .u64 (w64 (v50002 + v50003))))) rfl ?_)))
  obtain ⟨g1000, hF⟩ := need_some hF
  refine qp (.val none (.int .u64 (Int.fdiv (IntKind.wrap .u64 (w64 (v50002 + v50003))) (2 ^ (min ((1 : Int)).toNat (IntKind.bits .u64)))))) (ev_shr rfl rfl g1000) (qp (AI (w64 (Int.fdiv (IntKind.wrap .u64 (w64 (v50002 + v50003))) (2 ^ (min ((1 : Int)).toNat (IntKind.bits .u64)))))) rfl (qp (AI (w64 (Int.fdiv (IntKind.wrap .u64 (w64 (v50002 + v50003))) (2 ^ (min ((1 : Int)).toNat (IntKind.bits .u64)))))) rfl ?_))
  refine r_nil ?_
  refine ws 641 1153 ?_
  refine qp (.val none (.fn 112 [])) rfl (qp (AL 3 (v0.map eBlock)) rfl (qp (AI (w64 (Int.fdiv (IntKind.wrap .u64 (w64 (v50002 + v50003))) (2 ^ (min ((1 : Int)).toNat (IntKind.bits .u64)))))) rfl ?_))
  obtain ⟨v1001, e1001, hF⟩ := bind_get hF
  refine qp (.val none (.ptr [.str v1001.1, .str v1001.2.1, .str v1001.2.2])) (ev_iad_n rfl rfl e1001 rfl) (qp (.val none (eBlock v1001)) rfl (qp (.agg [AS v1.1, AS v1.2.1, AS v1.2.2]) rfl ?_))
  obtain ⟨v1002, e1002, hF⟩ := bind_get hF
  refine qcv (AI v1002) [(0, .box [AS v1.1, AS v1.2.1, AS v1.2.2])] false rfl (con_impl_compareBlocks e1002) c112_ok (by first | rfl | simp) rfl ?_
  refine qp (AB (decide (v1002 < (0 : Int)))) rfl ?_
  refine r_nil ?_
  refine cF hF (fun hF => ?_) fun hF => ?_
  ·
   refine w_reg 1153 1345 rfl rfl ?_
   refine qp (AI (w64 (Int.fdiv (IntKind.wrap .u64 (w64 (v50002 + v50003))) (2 ^ (min ((1 : Int)).toNat (IntKind.bits .u64)))))) rfl (qp (AI (w64 ((w64 (Int.fdiv (IntKind.wrap .u64 (w64 (v50002 + v50003))) (2 ^ (min ((1 : Int)).toNat (IntKind.bits .u64))))) + 1))) rfl (qp (AI (w64 ((w64 (Int.fdiv (IntKind.wrap .u64 (w64 (v50002 + v50003))) (2 ^ (min ((1 : Int)).toNat (IntKind.bits .u64))))) + 1))) rfl ?_))
   refine r_nil ?_
   refine blockQ_n ?_
   refine thenQ_n ?_
   refine ar (l' := [(0, AL 3 (v0.map eBlock)), (2, .val none (.fn 112 [])), (4, .ptr 0 0 0), (8, AI (v0.length : Int)), (9, AI (w64 ((w64 (Int.fdiv (IntKind.wrap .u64 (w64 (v50002 + v50003))) (2 ^ (min ((1 : Int)).toNat (IntKind.bits .u64))))) + 1))), (10, AI v50003)]) (L := [(0, .box [AS v1.1, AS v1.2.1, AS v1.2.2])]) [0, 2, 4, 8, 9, 10] [(0, 0)] 1 ⟨_, by rfl, hF⟩
  ·
   refine w_reg 1153 1281 rfl rfl ?_
   refine qp (AI (w64 (Int.fdiv (IntKind.wrap .u64 (w64 (v50002 + v50003))) (2 ^ (min ((1 : Int)).toNat (IntKind.bits .u64)))))) rfl (qp (AI (w64 (Int.fdiv (IntKind.wrap .u64 (w64 (v50002 + v50003))) (2 ^ (min ((1 : Int)).toNat (IntKind.bits .u64)))))) rfl ?_)
   refine r_nil ?_
   refine blockQ_n ?_
   refine thenQ_n ?_
   refine ar (l' := [(0, AL 3 (v0.map eBlock)), (2, .val none (.fn 112 [])), (4, .ptr 0 0 0), (8, AI (v0.length : Int)), (9, AI v50002), (10, AI (w64 (Int.fdiv (IntKind.wrap .u64 (w64 (v50002 + v50003))) (2 ^ (min ((1 : Int)).toNat (IntKind.bits .u64))))))]) (L := [(0, .box [AS v1.1, AS v1.2.1, AS v1.2.2])]) [0, 2, 4, 8, 9, 10] [(0, 0)] 1 ⟨_, by rfl, hF⟩
 ·
  refine w_exit ?_
  refine thenQ_e ?_
  refine thenQ_e ?_
  refine blockQ_e ?_
  refine thenQ_n ?_
  refine ws 193 1217 ?_
  refine qp (AI v50002) rfl (qp (AI v50002) rfl (qp (AI (v0.length : Int)) rfl (qp (AB (decide (v50002 < (v0.length : Int)))) rfl (qp (AB (decide (v50002 < (v0.length : Int)))) rfl ?_))))
  refine q_case 39 hF rfl (fun hF => ?_) (fun hF => ?_)
  ·
   refine qg (.val none (.fn 112 [])) rfl rfl (qg (AL 3 (v0.map eBlock)) rfl rfl (qg (AI v50002) rfl rfl ?_))
   obtain ⟨v1003, e1003, hF⟩ := bind_get hF
   refine qg (.val none (.ptr [.str v1003.1, .str v1003.2.1, .str v1003.2.2])) rfl (ev_iad_n rfl rfl e1003 rfl) (qg (.val none (eBlock v1003)) rfl rfl (qg (.agg [AS v1.1, AS v1.2.1, AS v1.2.2]) rfl rfl ?_))
   obtain ⟨v1004, e1004, hF⟩ := bind_get hF
   refine qcvg (AI v1004) [(0, .box [AS v1.1, AS v1.2.1, AS v1.2.2])] false rfl rfl (con_impl_compareBlocks e1004) c112_ok (by first | rfl | simp) rfl ?_
   refine qg (AB (decide (v1004 = (0 : Int)))) rfl rfl (qp (AB (decide (v1004 = (0 : Int)))) rfl (qp (AI v50002) rfl (qp (AB (decide (v1004 = (0 : Int)))) rfl ?_)))
   refine r_nil ?_
   refine w_ret ?_
   cases hF
   exact eR
  ·
   refine qn rfl (qn rfl (qn rfl (qn rfl (qn rfl (qn rfl (qn rfl (qn rfl ?_)))))))
   refine qp (AB false) rfl (qp (AI v50002) rfl (qp (AB false) rfl ?_))
   refine r_nil ?_
   refine w_ret ?_
   cases hF
   exact eR

def c156 : MC := (.seq (.reg [rg 2 (.f (.nilrow 3))]) (.seq (.seq (.reg [mvt 3 0, rg 4 (.p true (.isn false (.t 3)))]) (.cond (.t 4) (.seq (.reg [rg 2 (.f (.nilrow 3))]) .ret) .skip)) (.seq (.reg [rg 5 (.f (.bsl 3 [])), mvt 6 0, rg 7 (.f (.app (.t 5) (.t 6) 3 48 false)), mvt 2 7]) .ret)))
theorem c156_is : compFn Tryd.prog 156 = some (c156, [(.tmp 2)]) := by kernel_rfl
theorem c156_ok : okFn Tryd.prog 156 = true := by kernel_rfl

noncomputable def F_slices_Clone_SBlock_Block_j0 (v0 : List TBlock) : Option (List TBlock) :=
 (need (room (v0.length) 48) (some v0))
noncomputable def F_slices_Clone_SBlock_Block (v0 : List TBlock) : Option (List TBlock) :=
 (bif (decide (v0.length = 0)) then (both (some []) (F_slices_Clone_SBlock_Block_j0 v0))
 else F_slices_Clone_SBlock_Block_j0 v0)
@[simp] def res_slices_Clone_SBlock_Block (r : List TBlock) : RV := .one (.one (.row true 3 (r.map eBlock)))
theorem con_slices_Clone_SBlock_Block {v0 : List TBlock} {r : List TBlock} (hF : F_slices_Clone_SBlock_Block v0 = some r) : Con Tryd.prog 156 [.sl 3 (v0.map eBlock)] (res_slices_Clone_SBlock_Block r) := by
 unfold F_slices_Clone_SBlock_Block at hF
 refine con_of c156_is fun N => ?_
 refine ws 0 64 ?_
 refine qf (.sl 0 0 0) [(0, .row true 3 (([] : List Int).map vI))] (by simp) ?_
 refine r_nil ?_
 refine w_meet (fun s' => s' = mkS [(0, AL 3 (v0.map eBlock))] (fo []) 1 ∧ F_slices_Clone_SBlock_Block_j0 v0 = some r) ?_ ?_
 ·
  refine ws 64 192 ?_
  refine qp (AL 3 (v0.map eBlock)) rfl ?_
  refine b_case hF (fun z1000 hF => ?_) (fun z1000 hF => ?_)
  ·
   refine qp .ub (isn_e (by simpa using z1000)) ?_
   refine r_nil ?_
   refine w_condUF hF rfl (fun hF => ?_) (fun hF => ?_)
   ·
    refine ws 192 256 ?_
    refine qf (.sl 192 0 0) [(192, .row true 3 (([] : List TBlock).map eBlock)), (0, .row true 3 (([] : List Int).map vI))] (by simp) ?_
    refine r_nil ?_
    refine w_ret ?_
    refine thenQ_r ?_
    cases hF
    exact eR
   ·
    refine w_skip ?_
    refine thenQ_n ?_
    refine aw_ren (l' := [(0, AL 3 (v0.map eBlock))]) (L := []) [0] [] 1 (by first | rfl | simp) (by first | rfl | simp) (by decide) (by decide) (by decide) ⟨rfl, hF⟩
  ·
   refine qp (AB false) (isn_n (by simpa using z1000)) ?_
   refine r_nil ?_
   refine w_false rfl ?_
   refine w_skip ?_
   refine thenQ_n ?_
   refine aw_ren (l' := [(0, AL 3 (v0.map eBlock))]) (L := []) [0] [] 1 (by first | rfl | simp) (by first | rfl | simp) (by decide) (by decide) (by decide) ⟨rfl, hF⟩
 ·
  rintro s' ⟨rfl, hF⟩
  unfold F_slices_Clone_SBlock_Block_j0 at hF
  refine ws 1 257 ?_
  refine qf (.sl 1 0 0) [(1, .row true 3 (([] : List TBlock).map eBlock))] (by simp [List.take_of_length_le]) ?_
  refine qp (AL 3 (v0.map eBlock)) rfl ?_
  obtain ⟨g1001, hF⟩ := need_some hF
  refine qf (.sl 129 0 v0.length) [(129, .row true 3 (v0.map eBlock)), (1, .dead), (1, .row true 3 (([] : List TBlock).map eBlock))] (effT_app_v0 rfl (by simp) rfl rfl (fun _ => rfl) g1001) ?_
  refine qp (.sl 129 0 v0.length) rfl ?_
  refine r_nil ?_
  refine w_ret ?_
  cases hF
  exact eR

theorem c157_ok : okFn Tryd.prog 157 = true := by kernel_rfl




def c124 : MC := (.seq (.reg [rg 3 (.f (.box (.t 1))), rg 4 (.f (.nilrow 3))]) (.seq (.reg [mvt 9 0, rg 10 (.p true (.ld (.t 3) 3 true)), rg 11 (.call true 155 [(.t 9), (.t 10), (.f 112)]), mvt 8 11, rg 12 (.p true (.ext (.t 8) 0)), rg 13 (.p true (.ext (.t 8) 1)), mvt 5 12, mvt 6 13]) (.seq (.reg [mvt 14 0, rg 15 (.call true 156 [(.t 14)]), mvt 7 15]) (.seq (.seq (.reg [mvt 16 6]) (.cond (.t 16) (.seq (.reg [mvt 17 7, mvt 18 5, rg 19 (.p true (.ld (.t 3) 3 true)), rg 20 (.p true (.iad (.t 17) (.t 18) 3)), ⟨none, none, (.f (.st (.t 20) (.t 19) 3))⟩]) (.seq (.reg [mvt 21 7, mvt 4 21]) .ret)) .skip)) (.seq (.reg [mvt 22 7, mvt 23 5, rg 24 (.p true (.ld (.t 3) 3 true)), rg 25 (.f (.bsl 3 [(.t 24)])), rg 26 (.call true 157 [(.t 22), (.t 23), (.t 25)]), mvt 4 26]) .ret)))))
theorem c124_is : compFn Tryd.prog 124 = some (c124, [(.tmp 4)]) := by kernel_rfl
theorem c124_ok : okFn Tryd.prog 124 = true := by kernel_rfl

noncomputable def F_impl_withBlock (v0 : List TBlock) (v1 : TBlock) : Option (List TBlock) :=
 ((F_slices_BinarySearchFunc_SBlock_Block v0 v1).bind fun v1000 => ((F_slices_Clone_SBlock_Block v0).bind fun v1001 => (bif v1000.2 then ((ix v1001 v1000.1).bind fun v1002 => some (List.set v1001 v1000.1.toNat v1))
 else ((F_ins 48 v1001 v1000.1 [v1]).bind fun v1003 => some v1003))))
@[simp] def res_impl_withBlock (r : List TBlock) : RV := .one (.one (.row true 3 (r.map eBlock)))
theorem con_impl_withBlock {v0 : List TBlock} {v1 : TBlock} {r : List TBlock} (hF : F_impl_withBlock v0 v1 = some r) : Con Tryd.prog 124 [.sl 3 (v0.map eBlock), eBlock v1] (res_impl_withBlock r) := by
 unfold F_impl_withBlock at hF
 refine con_of c124_is fun N => ?_
 refine ws 0 128 ?_
 refine qf (.ptr 0 0 0) [(0, .box [AS v1.1, AS v1.2.1, AS v1.2.2])] (by simp) ?_
 refine qf (.sl 64 0 0) [(64, .row true 3 (([] : List Int).map vI)), (0, .box [AS v1.1, AS v1.2.1, AS v1.2.2])] (by simp) ?_
 refine r_nil ?_
 refine ws 128 640 ?_
 refine qp (AL 3 (v0.map eBlock)) rfl (qp (.agg [AS v1.1, AS v1.2.1, AS v1.2.2]) rfl ?_)
 obtain ⟨v1000, e1000, hF⟩ := bind_get hF
 refine qc (.tup [AI v1000.1, AB v1000.2]) [(64, .row true 3 (([] : List Int).map vI)), (0, .box [AS v1.1, AS v1.2.1, AS v1.2.2])] false (con_slices_BinarySearchFunc_SBlock_Block e1000) c155_ok (by first | rfl | simp) rfl ?_
 refine qp (.tup [AI v1000.1, AB v1000.2]) rfl (qp (AI v1000.1) rfl (qp (AB v1000.2) rfl (qp (AI v1000.1) rfl (qp (AB v1000.2) rfl ?_))))
 refine r_nil ?_
 refine ws 640 832 ?_
 refine qp (AL 3 (v0.map eBlock)) rfl ?_
 obtain ⟨v1001, e1001, hF⟩ := bind_get hF
 refine qc (.sl 704 0 v1001.length) [(704, .row true 3 (v1001.map eBlock)), (64, .row true 3 (([] : List Int).map vI)), (0, .box [AS v1.1, AS v1.2.1, AS v1.2.2])] false (con_slices_Clone_SBlock_Block e1001) c156_ok (by first | rfl | simp) (by simp [res_slices_Clone_SBlock_Block]) ?_
 refine qp (.sl 704 0 v1001.length) rfl ?_
 refine r_nil ?_
 refine w_seq ?_
 refine ws 832 896 ?_
 refine qp (AB v1000.2) rfl ?_
 refine r_nil ?_
 refine cF hF (fun hF => ?_) fun hF => ?_
 ·
  refine ws 896 1216 ?_
  refine qp (.sl 704 0 v1001.length) rfl (qp (AI v1000.1) rfl (qp (.agg [AS v1.1, AS v1.2.1, AS v1.2.2]) rfl ?_))
  obtain ⟨v1002, e1002, hF⟩ := bind_get hF
  refine qp (.ptr 704 v1000.1.toNat 0) (ev_iad_r rfl (by simp) rfl rfl e1002) ?_
  refine qf0 (.undef) [(704, .row true 3 ((List.set v1001 v1000.1.toNat v1).map eBlock)), (704, .row true 3 (v1001.map eBlock)), (64, .row true 3 (([] : List Int).map vI)), (0, .box [AS v1.1, AS v1.2.1, AS v1.2.2])] (effT_st rfl rfl (ix_some e1002).2 rfl rfl (by rfl) (by first | rfl | simp [patch, reb, List.take_of_length_le]) (by rfl) rfl) ?_
  refine r_nil ?_
  refine ws 1216 1344 ?_
  refine qp (.sl 704 0 v1001.length) rfl (qp (.sl 704 0 v1001.length) rfl ?_)
  refine r_nil ?_
  refine w_ret ?_
  refine thenQ_r ?_
  cases hF
  exact eR
 ·
  refine w_skip ?_
  refine thenQ_n ?_
  refine ws 896 1280 ?_
  refine qp (.sl 704 0 v1001.length) rfl (qp (AI v1000.1) rfl (qp (.agg [AS v1.1, AS v1.2.1, AS v1.2.2]) rfl ?_))
  refine qf (.sl 1088 0 ([v1].length)) [(1088, .row true 3 ([v1].map eBlock)), (704, .row true 3 (v1001.map eBlock)), (64, .row true 3 (([] : List Int).map vI)), (0, .box [AS v1.1, AS v1.2.1, AS v1.2.2])] (by simp [List.take_of_length_le]) ?_
  obtain ⟨v1003, e1003, hF⟩ := bind_get hF
  refine qX (.sl 1152 0 v1003.length) [(1152, .row true 3 (v1003.map eBlock)), (704, .dead), (1088, .row true 3 ([v1].map eBlock)), (704, .row true 3 (v1001.map eBlock)), (64, .row true 3 (([] : List Int).map vI)), (0, .box [AS v1.1, AS v1.2.1, AS v1.2.2])] true rfl rfl (whole_row (by simp)) (con_ins_157 (e := eBlock) e1003) c157_ok (by simp [List.take_of_length_le]) (by simp [RV.r]) ?_
  refine qp (.sl 1152 0 v1003.length) rfl ?_
  refine r_nil ?_
  refine w_ret ?_
  cases hF
  exact eR

def c80 : MC := (.seq (.reg [rg 3 (.f (.box (.t 1))), rg 4 (.f (.nilrow 3)), rg 5 (.p true (.mv (.c (.int .i64 0))))]) (.seq (.seq (.reg [mvt 7 0, rg 8 (.call true 60 [(.t 7)]), rg 9 (.p true (.not (.t 8))), mvt 10 9, ⟨(some 11), (some (10, false)), (.p true (.ld (.t 3) 3 true))⟩, ⟨(some 12), (some (10, false)), (.call true 111 [(.t 11)])⟩, ⟨(some 13), (some (10, false)), (.p true (.not (.t 12)))⟩, rg 14 (.p true (.pick (.t 10) (.c (.bool true)) (.t 13)))]) (.cond (.t 14) (.seq (.reg [rg 4 (.f (.nilrow 3)), rg 5 (.p true (.mv (.c (.int .i64 1))))]) .ret) .skip)) (.seq (.reg [mvt 15 0, rg 16 (.p true (.ld (.t 3) 3 true)), rg 17 (.call true 124 [(.t 15), (.t 16)]), mvt 6 17]) (.seq (.seq (.reg [mvt 18 6, rg 19 (.p true (.len (.t 18))), rg 20 (.p true (.bin .gtr (.t 19) (.c (.int .i64 32))))]) (.cond (.t 20) (.seq (.reg [rg 4 (.f (.nilrow 3)), rg 5 (.p true (.mv (.c (.int .i64 5))))]) .ret) .skip)) (.seq (.reg [mvt 21 6, mvt 4 21, rg 5 (.p true (.mv (.c (.int .i64 0))))]) .ret)))))
theorem c80_is : compFn Tryd.prog 80 = some (c80, [(.tmp 4), (.tmp 5)]) := by kernel_rfl
theorem c80_ok : okFn Tryd.prog 80 = true := by kernel_rfl

noncomputable def F_impl_PutBlock (v0 : List TBlock) (v1 : TBlock) : Option ((List TBlock) × Int) :=
 ((F_impl_ValidBlocks v0).bind fun v1000 => (bif (!v1000) then some ([], 1)
 else ((F_impl_ValidBlock v1).bind fun v1001 => (bif (!v1001) then some ([], 1)
 else ((F_impl_withBlock v0 v1).bind fun v1002 => (bif (decide ((32 : Int) < (v1002.length : Int))) then some ([], 5)
 else some (v1002, 0)))))))
@[simp] def res_impl_PutBlock (r : (List TBlock) × Int) : RV := .tup [.one (.row true 3 (r.1.map eBlock)), .one (.val (.int .i64 r.2))]
theorem con_impl_PutBlock {v0 : List TBlock} {v1 : TBlock} {r : (List TBlock) × Int} (hF : F_impl_PutBlock v0 v1 = some r) : Con Tryd.prog 80 [.sl 3 (v0.map eBlock), eBlock v1] (res_impl_PutBlock r) := by
 unfold F_impl_PutBlock at hF
 refine con_of c80_is fun N => ?_
 refine ws 0 192 ?_
 refine qf (.ptr 0 0 0) [(0, .box [AS v1.1, AS v1.2.1, AS v1.2.2])] (by simp) ?_
 refine qf (.sl 64 0 0) [(64, .row true 3 (([] : List Int).map vI)), (0, .box [AS v1.1, AS v1.2.1, AS v1.2.2])] (by simp) ?_
 refine qp (AI 0) rfl ?_
 refine r_nil ?_
 refine w_seq ?_
 refine ws 192 704 ?_
 refine qp (AL 3 (v0.map eBlock)) rfl ?_
 obtain ⟨v1000, e1000, hF⟩ := bind_get hF
 refine qc (AB v1000) [(64, .row true 3 (([] : List Int).map vI)), (0, .box [AS v1.1, AS v1.2.1, AS v1.2.2])] false (con_impl_ValidBlocks e1000) c60_ok (by first | rfl | simp) rfl ?_
 refine qp (AB (!v1000)) rfl (qp (AB (!v1000)) rfl ?_)
 refine q_case 10 hF rfl (fun hF => ?_) (fun hF => ?_)
 ·
  refine qn rfl (qn rfl (qn rfl (qp (AB true) rfl ?_)))
  refine r_nil ?_
  refine w_true rfl ?_
  refine ws 704 832 ?_
  refine qf (.sl 704 0 0) [(704, .row true 3 (([] : List TBlock).map eBlock)), (64, .row true 3 (([] : List Int).map vI)), (0, .box [AS v1.1, AS v1.2.1, AS v1.2.2])] (by simp) ?_
  refine qp (AI 1) rfl ?_
  refine r_nil ?_
  refine w_ret ?_
  refine thenQ_r ?_
  cases hF
  exact eR
 ·
  refine qg (.agg [AS v1.1, AS v1.2.1, AS v1.2.2]) rfl rfl ?_
  obtain ⟨v1001, e1001, hF⟩ := bind_get hF
  refine qcg (AB v1001) [(64, .row true 3 (([] : List Int).map vI)), (0, .box [AS v1.1, AS v1.2.1, AS v1.2.2])] false rfl (con_impl_ValidBlock e1001) c111_ok (by first | rfl | simp) rfl ?_
  refine qg (AB (!v1001)) rfl rfl (qp (AB (!v1001)) rfl ?_)
  refine r_nil ?_
  refine cF hF (fun hF => ?_) fun hF => ?_
  ·
   refine ws 704 832 ?_
   refine qf (.sl 704 0 0) [(704, .row true 3 (([] : List TBlock).map eBlock)), (64, .row true 3 (([] : List Int).map vI)), (0, .box [AS v1.1, AS v1.2.1, AS v1.2.2])] (by simp) ?_
   refine qp (AI 1) rfl ?_
   refine r_nil ?_
   refine w_ret ?_
   refine thenQ_r ?_
   cases hF
   exact eR
  ·
   refine w_skip ?_
   refine thenQ_n ?_
   refine ws 704 960 ?_
   refine qp (AL 3 (v0.map eBlock)) rfl (qp (.agg [AS v1.1, AS v1.2.1, AS v1.2.2]) rfl ?_)
   obtain ⟨v1002, e1002, hF⟩ := bind_get hF
   refine qc (.sl 832 0 v1002.length) [(832, .row true 3 (v1002.map eBlock)), (64, .row true 3 (([] : List Int).map vI)), (0, .box [AS v1.1, AS v1.2.1, AS v1.2.2])] false (con_impl_withBlock e1002) c124_ok (by first | rfl | simp) (by simp [res_impl_withBlock]) ?_
   refine qp (.sl 832 0 v1002.length) rfl ?_
   refine r_nil ?_
   refine w_seq ?_
   refine ws 960 1152 ?_
   refine qp (.sl 832 0 v1002.length) rfl (qp (AI (v1002.length : Int)) rfl (qp (AB (decide ((32 : Int) < (v1002.length : Int)))) rfl ?_))
   refine r_nil ?_
   refine cF hF (fun hF => ?_) fun hF => ?_
   ·
    refine ws 1152 1280 ?_
    refine qf (.sl 1152 0 0) [(1152, .row true 3 (([] : List TBlock).map eBlock)), (832, .row true 3 (v1002.map eBlock)), (64, .row true 3 (([] : List Int).map vI)), (0, .box [AS v1.1, AS v1.2.1, AS v1.2.2])] (by simp) ?_
    refine qp (AI 5) rfl ?_
    refine r_nil ?_
    refine w_ret ?_
    refine thenQ_r ?_
    cases hF
    exact eR
   ·
    refine w_skip ?_
    refine thenQ_n ?_
    refine ws 1152 1344 ?_
    refine qp (.sl 832 0 v1002.length) rfl (qp (.sl 832 0 v1002.length) rfl (qp (AI 0) rfl ?_))
    refine r_nil ?_
    refine w_ret ?_
    cases hF
    exact eR

def c34 : MC := (.seq (.reg [rg 2 (.f (.nilrow 3))]) (.seq (.reg [mvt 11 0, rg 12 (.call true 67 [(.t 11), (.c (.str [10]))]), mvt 3 12]) (.seq (.reg [rg 4 (.f (.nilrow 3))]) (.seq (.seq (.reg [mvt 13 3, mvt 14 3, rg 15 (.p true (.len (.t 14))), rg 16 (.p true (.bin .sub (.t 15) (.c (.int .i64 1)))), rg 17 (.p true (.slc (.t 13) none (some (.t 16)) 1)), rg 18 (.p true (.len (.t 17))), rg 19 (.p true (.mv (.c (.int .i64 0))))]) (.block 0 (.loop (.seq (.reg [rg 20 (.p true (.bin .lss (.t 19) (.t 18)))]) (.seq (.cond (.t 20) .skip (.exit 0)) (.seq (.block 1 (.seq (.reg [mvt 21 19, rg 22 (.p true (.iad (.t 17) (.t 19) 1)), rg 23 (.p true (.ld (.t 22) 1 false)), mvt 5 21, mvt 6 23]) (.seq (.reg [mvt 25 6, rg 26 (.call true 68 [(.t 25)]), mvt 24 26, rg 27 (.p true (.ext (.t 24) 0)), rg 28 (.p true (.ext (.t 24) 1)), rg 7 (.f (.alloc [((.str []), (0, false)), ((.str []), (0, false)), ((.str []), (0, false))])), ⟨none, none, (.f (.st (.t 7) (.t 27) 3))⟩, mvt 8 28]) (.seq (.seq (.reg [mvt 29 5, rg 30 (.p true (.bin .eql (.t 29) (.c (.int .i64 0)))), mvt 31 30, ⟨(some 32), (some (31, false)), (.p true (.mv (.t 8)))⟩, ⟨(some 33), (some (31, false)), (.p true (.bin .neq (.t 32) (.c (.int .i64 0))))⟩, rg 34 (.p true (.pick (.t 31) (.c (.bool true)) (.t 33)))]) (.cond (.t 34) (.exit 1) .skip)) (.seq (.reg [mvt 36 4, rg 37 (.p true (.ld (.t 7) 3 true)), rg 38 (.call true 80 [(.t 36), (.t 37)]), mvt 35 38, rg 39 (.p true (.ext (.t 35) 0)), rg 40 (.p true (.ext (.t 35) 1)), mvt 9 39, mvt 10 40]) (.seq (.reg [mvt 41 10, rg 42 (.p true (.bin .eql (.t 41) (.c (.int .i64 0))))]) (.cond (.t 42) (.reg [mvt 43 9, mvt 4 43]) .skip))))))) (.reg [rg 44 (.p true (.bin .add (.t 19) (.c (.int .i64 1)))), mvt 19 44]))))))) (.seq (.reg [mvt 45 4, mvt 2 45]) .ret)))))
theorem c34_is : compFn Tryd.prog 34 = some (c34, [(.tmp 2)]) := by kernel_rfl
theorem c34_ok : okFn Tryd.prog 34 = true := by kernel_rfl

noncomputable def F_impl_SalvageBlocks_l0 (v1000 : List (List UInt8)) (k1 : Int × (List TBlock) → Option (List TBlock)) : Int × (List TBlock) → Option (List TBlock)
 | (v50006, v50007) => (bif (decide (v50006 < (w64 ((v1000.length : Int) - 1) - (0 : Int)))) then ((ix (sub v1000 (0 : Int) (w64 ((v1000.length : Int) - 1))) v50006).bind fun v1009 => ((F_impl_blockOf v1009).bind fun v1010 => (bif (decide (v50006 = (0 : Int))) then k1 (w64 (v50006 + 1), v50007)
 else (bif (decide (v1010.2 ≠ (0 : Int))) then k1 (w64 (v50006 + 1), v50007)
 else ((F_impl_PutBlock v50007 v1010.1).bind fun v1011 => (bif (decide (v1011.2 = (0 : Int))) then k1 (w64 (v50006 + 1), v1011.1)
 else k1 (w64 (v50006 + 1), v50007)))))))
 else some v50007)
noncomputable def F_impl_SalvageBlocks (v0 : List UInt8) : Option (List TBlock) :=
 ((F_split v0 [10]).bind fun v1000 => (need (0 ≤ (0 : Int) ∧ (0 : Int) ≤ w64 ((v1000.length : Int) - 1) ∧ w64 ((v1000.length : Int) - 1) ≤ (v1000.length : Int)) (loop (F_impl_SalvageBlocks_l0 v1000) (0, []))))
@[simp] def res_impl_SalvageBlocks (r : List TBlock) : RV := .one (.one (.row true 3 (r.map eBlock)))
theorem con_impl_SalvageBlocks {v0 : List UInt8} {r : List TBlock} (hF : F_impl_SalvageBlocks v0 = some r) : Con Tryd.prog 34 [.str v0] (res_impl_SalvageBlocks r) := by
 unfold F_impl_SalvageBlocks at hF
 refine con_of c34_is fun N => ?_
 refine ws 0 64 ?_
 refine qf (.sl 0 0 0) [(0, .row true 3 (([] : List Int).map vI))] (by simp) ?_
 refine r_nil ?_
 refine ws 64 256 ?_
 refine qp (AS v0) rfl ?_
 obtain ⟨v1000, e1000, hF⟩ := bind_get hF
 refine qc (.sl 128 0 v1000.length) [(128, .row true 1 (v1000.map V.str)), (0, .row true 3 (([] : List Int).map vI))] false (con_split e1000) c67_ok (by first | rfl | simp) (by simp [res_split]) ?_
 refine qp (.sl 128 0 v1000.length) rfl ?_
 refine r_nil ?_
 refine ws 256 320 ?_
 refine qf (.sl 256 0 0) [(256, .row true 3 (([] : List TBlock).map eBlock)), (128, .row true 1 (v1000.map V.str)), (0, .row true 3 (([] : List Int).map vI))] (by simp) ?_
 refine r_nil ?_
 refine w_seq ?_
 refine ws 320 768 ?_
 refine qp (.sl 128 0 v1000.length) rfl (qp (.sl 128 0 v1000.length) rfl (qp (AI (v1000.length : Int)) rfl (qp (AI (w64 ((v1000.length : Int) - 1))) rfl ?_)))
 obtain ⟨g1001, hF⟩ := need_some hF
 refine qp (.sl 128 (0 : Int).toNat ((w64 ((v1000.length : Int) - 1)).toNat - (0 : Int).toNat)) (ev_slc_r rfl (by simp) rfl rfl (bnd_some rfl (Int.le_trans g1001.1 g1001.2.1)) g1001) (qp (AI (w64 ((v1000.length : Int) - 1) - (0 : Int))) (ev_len_p rfl rfl g1001) (qp (AI 0) rfl ?_))
 refine r_nil ?_
 have g1002 : 0 ≤ (0 : Int) ∧ (0 : Int) ≤ w64 ((v1000.length : Int) - 1) ∧ w64 ((v1000.length : Int) - 1) ≤ (v1000.length : Int) := by first | exact g1001 | (have h := g1001; simp only [] at h ⊢; exact h)
 refine w_drop (l' := [(4, .sl 256 0 0), (17, .sl 128 (0 : Int).toNat ((w64 ((v1000.length : Int) - 1)).toNat - (0 : Int).toNat)), (18, AI (w64 ((v1000.length : Int) - 1) - (0 : Int))), (19, AI 0)]) [4, 17, 18, 19] (by first | rfl | simp) ?_
 refine w_rebF (l' := [(4, .sl 256 0 0), (17, .sl 128 0 ((sub v1000 (0 : Int) (w64 ((v1000.length : Int) - 1))).length)), (18, AI (w64 ((v1000.length : Int) - 1) - (0 : Int))), (19, AI 0)]) (r := 128) (lo := (0 : Int)) (hi := w64 ((v1000.length : Int) - 1)) rfl g1002 (RebL.keep rfl (RebL.part (sub_len g1002) (RebL.keep rfl (RebL.keep rfl RebL.nil)))) rfl ?_
 refine w_block ?_
 refine wr (l' := [(4, .sl 0 0 0), (17, .sl 1 0 ((sub v1000 (0 : Int) (w64 ((v1000.length : Int) - 1))).length)), (18, AI (w64 ((v1000.length : Int) - 1) - (0 : Int))), (19, AI 0)]) (L := [(1, .row true 1 ((sub v1000 (0 : Int) (w64 ((v1000.length : Int) - 1))).map V.str)), (0, .row true 3 (([] : List TBlock).map eBlock))]) [4, 17, 18, 19] [(128, 1), (256, 0)] 2 ?_
 refine w_loopF (F_impl_SalvageBlocks_l0 v1000) (fun s : Int × (List TBlock) => mkS [(4, .sl 0 0 s.2.length), (17, .sl 1 0 ((sub v1000 (0 : Int) (w64 ((v1000.length : Int) - 1))).length)), (18, AI (w64 ((v1000.length : Int) - 1) - (0 : Int))), (19, AI s.1)] (fo [(1, .row true 1 ((sub v1000 (0 : Int) (w64 ((v1000.length : Int) - 1))).map V.str)), (0, .row true 3 (s.2.map eBlock))]) 2) hF ?_
 rintro k1 ⟨v50006, v50007⟩ hF
 rw [F_impl_SalvageBlocks_l0] at hF
 try dsimp only
 refine ws 2 66 ?_
 refine qp (AB (decide (v50006 < (w64 ((v1000.length : Int) - 1) - (0 : Int))))) rfl ?_
 refine r_nil ?_
 refine w_seq ?_
 refine cF hF (fun hF => ?_) fun hF => ?_
 ·
  refine w_skip ?_
  refine thenQ_n ?_
  refine w_seq ?_
  refine w_block ?_
  refine ws 66 386 ?_
  refine qp (AI v50006) rfl ?_
  obtain ⟨v1009, e1009, hF⟩ := bind_get hF
  refine qp (.ptr 1 v50006.toNat 0) (ev_iad_r rfl (by simp) rfl rfl e1009) (qp (AS v1009) (ev_ld_r rfl rfl (ix_some e1009).2 rfl rfl) (qp (AI v50006) rfl (qp (AS v1009) rfl ?_)))
  refine r_nil ?_
  refine ws 386 898 ?_
  refine qp (AS v1009) rfl ?_
  obtain ⟨v1010, e1010, hF⟩ := bind_get hF
  refine qc (.tup [.val none (eBlock v1010.1), AI v1010.2]) [(1, .row true 1 ((sub v1000 (0 : Int) (w64 ((v1000.length : Int) - 1))).map V.str)), (0, .row true 3 (v50007.map eBlock))] false (con_impl_blockOf e1010) c68_ok (by first | rfl | simp) rfl ?_
  refine qp (.tup [.val none (eBlock v1010.1), AI v1010.2]) rfl (qp (.val none (eBlock v1010.1)) rfl (qp (AI v1010.2) rfl ?_))
  refine qf (.ptr 706 0 0) [(706, .box [AS [], AS [], AS []]), (1, .row true 1 ((sub v1000 (0 : Int) (w64 ((v1000.length : Int) - 1))).map V.str)), (0, .row true 3 (v50007.map eBlock))] (by simp) ?_
  refine qf0 (.undef) [(706, .box [AS v1010.1.1, AS v1010.1.2.1, AS v1010.1.2.2]), (706, .box [AS [], AS [], AS []]), (1, .row true 1 ((sub v1000 (0 : Int) (w64 ((v1000.length : Int) - 1))).map V.str)), (0, .row true 3 (v50007.map eBlock))] (by simp) ?_
  refine qp (AI v1010.2) rfl ?_
  refine r_nil ?_
  refine w_seq ?_
  refine ws 898 1282 ?_
  refine qp (AI v50006) rfl (qp (AB (decide (v50006 = (0 : Int)))) rfl (qp (AB (decide (v50006 = (0 : Int)))) rfl ?_))
  refine q_case 31 hF rfl (fun hF => ?_) (fun hF => ?_)
  ·
   refine qn rfl (qn rfl (qp (AB true) rfl ?_))
   refine r_nil ?_
   refine w_true rfl ?_
   refine w_exit ?_
   refine thenQ_e ?_
   refine blockQ_e ?_
   refine thenQ_n ?_
   refine w_reg 1282 1410 rfl rfl ?_
   refine qp (AI (w64 (v50006 + 1))) rfl (qp (AI (w64 (v50006 + 1))) rfl ?_)
   refine r_nil ?_
   refine thenQ_n ?_
   refine ar (l' := [(4, .sl 0 0 v50007.length), (17, .sl 1 0 ((sub v1000 (0 : Int) (w64 ((v1000.length : Int) - 1))).length)), (18, AI (w64 ((v1000.length : Int) - 1) - (0 : Int))), (19, AI (w64 (v50006 + 1)))]) (L := [(1, .row true 1 ((sub v1000 (0 : Int) (w64 ((v1000.length : Int) - 1))).map V.str)), (0, .row true 3 (v50007.map eBlock))]) [4, 17, 18, 19] [(1, 1), (0, 0)] 2 ⟨_, by rfl, hF⟩
  ·
   refine qg (AI v1010.2) rfl rfl (qg (AB (decide (v1010.2 ≠ (0 : Int)))) rfl rfl (qp (AB (decide (v1010.2 ≠ (0 : Int)))) rfl ?_))
   refine r_nil ?_
   refine cF hF (fun hF => ?_) fun hF => ?_
   ·
    refine w_exit ?_
    refine thenQ_e ?_
    refine blockQ_e ?_
    refine thenQ_n ?_
    refine w_reg 1282 1410 rfl rfl ?_
    refine qp (AI (w64 (v50006 + 1))) rfl (qp (AI (w64 (v50006 + 1))) rfl ?_)
    refine r_nil ?_
    refine thenQ_n ?_
    refine ar (l' := [(4, .sl 0 0 v50007.length), (17, .sl 1 0 ((sub v1000 (0 : Int) (w64 ((v1000.length : Int) - 1))).length)), (18, AI (w64 ((v1000.length : Int) - 1) - (0 : Int))), (19, AI (w64 (v50006 + 1)))]) (L := [(1, .row true 1 ((sub v1000 (0 : Int) (w64 ((v1000.length : Int) - 1))).map V.str)), (0, .row true 3 (v50007.map eBlock))]) [4, 17, 18, 19] [(1, 1), (0, 0)] 2 ⟨_, by rfl, hF⟩
   ·
    refine w_skip ?_
    refine thenQ_n ?_
    refine ws 1282 1794 ?_
    refine qp (.sl 0 0 v50007.length) rfl (qp (.agg [AS v1010.1.1, AS v1010.1.2.1, AS v1010.1.2.2]) rfl ?_)
    obtain ⟨v1011, e1011, hF⟩ := bind_get hF
    refine qc (.tup [.sl 1410 0 v1011.1.length, AI v1011.2]) [(1410, .row true 3 (v1011.1.map eBlock)), (706, .box [AS v1010.1.1, AS v1010.1.2.1, AS v1010.1.2.2]), (706, .box [AS [], AS [], AS []]), (1, .row true 1 ((sub v1000 (0 : Int) (w64 ((v1000.length : Int) - 1))).map V.str)), (0, .row true 3 (v50007.map eBlock))] true (con_impl_PutBlock e1011) c80_ok (by simp [List.take_of_length_le]) (by simp [res_impl_PutBlock]) ?_
    refine qp (.tup [.sl 1410 0 v1011.1.length, AI v1011.2]) rfl (qp (.sl 1410 0 v1011.1.length) rfl (qp (AI v1011.2) rfl (qp (.sl 1410 0 v1011.1.length) rfl (qp (AI v1011.2) rfl ?_))))
    refine r_nil ?_
    refine ws 1794 1922 ?_
    refine qp (AI v1011.2) rfl (qp (AB (decide (v1011.2 = (0 : Int)))) rfl ?_)
    refine r_nil ?_
    refine cF hF (fun hF => ?_) fun hF => ?_
    ·
     refine w_reg 1922 2050 rfl rfl ?_
     refine qp (.sl 1410 0 v1011.1.length) rfl (qp (.sl 1410 0 v1011.1.length) rfl ?_)
     refine r_nil ?_
     refine blockQ_n ?_
     refine thenQ_n ?_
     refine w_reg 2050 2178 rfl rfl ?_
     refine qp (AI (w64 (v50006 + 1))) rfl (qp (AI (w64 (v50006 + 1))) rfl ?_)
     refine r_nil ?_
     refine thenQ_n ?_
     refine ar (l' := [(4, .sl 0 0 v1011.1.length), (17, .sl 1 0 ((sub v1000 (0 : Int) (w64 ((v1000.length : Int) - 1))).length)), (18, AI (w64 ((v1000.length : Int) - 1) - (0 : Int))), (19, AI (w64 (v50006 + 1)))]) (L := [(1, .row true 1 ((sub v1000 (0 : Int) (w64 ((v1000.length : Int) - 1))).map V.str)), (0, .row true 3 (v1011.1.map eBlock))]) [4, 17, 18, 19] [(1, 1), (1410, 0)] 2 ⟨_, by rfl, hF⟩
    ·
     refine w_skip ?_
     refine blockQ_n ?_
     refine thenQ_n ?_
     refine w_reg 1922 2050 rfl rfl ?_
     refine qp (AI (w64 (v50006 + 1))) rfl (qp (AI (w64 (v50006 + 1))) rfl ?_)
     refine r_nil ?_
     refine thenQ_n ?_
     refine ar (l' := [(4, .sl 0 0 v50007.length), (17, .sl 1 0 ((sub v1000 (0 : Int) (w64 ((v1000.length : Int) - 1))).length)), (18, AI (w64 ((v1000.length : Int) - 1) - (0 : Int))), (19, AI (w64 (v50006 + 1)))]) (L := [(1, .row true 1 ((sub v1000 (0 : Int) (w64 ((v1000.length : Int) - 1))).map V.str)), (0, .row true 3 (v50007.map eBlock))]) [4, 17, 18, 19] [(1, 1), (0, 0)] 2 ⟨_, by rfl, hF⟩
 ·
  refine w_exit ?_
  refine thenQ_e ?_
  refine thenQ_e ?_
  refine blockQ_e ?_
  refine thenQ_n ?_
  refine ws 66 194 ?_
  refine qp (.sl 0 0 v50007.length) rfl (qp (.sl 0 0 v50007.length) rfl ?_)
  refine r_nil ?_
  refine w_ret ?_
  cases hF
  exact eR

def c64 : MC := (.seq (.reg [rg 2 (.f (.box (.t 0))), rg 3 (.f (.box (.t 1))), rg 4 (.p true (.mv (.c (.bool false))))]) (.seq (.seq (.reg [rg 5 (.p true (.fad (.t 2) 0)), rg 6 (.p true (.ld (.t 5) 1 false)), rg 7 (.p true (.fad (.t 3) 0)), rg 8 (.p true (.ld (.t 7) 1 false)), rg 9 (.p true (.bin .neq (.t 6) (.t 8)))]) (.cond (.t 9) (.seq (.reg [rg 4 (.p true (.mv (.c (.bool false))))]) .ret) .skip)) (.seq (.seq (.reg [rg 10 (.p true (.fad (.t 2) 1)), rg 11 (.p true (.ld (.t 10) 1 false)), rg 12 (.p true (.fad (.t 3) 1)), rg 13 (.p true (.ld (.t 12) 1 false)), rg 14 (.p true (.bin .neq (.t 11) (.t 13)))]) (.cond (.t 14) (.seq (.reg [rg 4 (.p true (.mv (.c (.bool false))))]) .ret) .skip)) (.seq (.seq (.reg [rg 15 (.p true (.fad (.t 2) 2)), rg 16 (.p true (.ld (.t 15) 1 false)), rg 17 (.p true (.fad (.t 3) 2)), rg 18 (.p true (.ld (.t 17) 1 false)), rg 19 (.p true (.bin .neq (.t 16) (.t 18)))]) (.cond (.t 19) (.seq (.reg [rg 4 (.p true (.mv (.c (.bool false))))]) .ret) .skip)) (.seq (.reg [rg 4 (.p true (.mv (.c (.bool true))))]) .ret)))))
theorem c64_is : compFn Tryd.prog 64 = some (c64, [(.tmp 4)]) := by kernel_rfl
theorem c64_ok : okFn Tryd.prog 64 = true := by kernel_rfl

noncomputable def F_laws_eqBlock (v0 : TBlock) (v1 : TBlock) : Option (Bool) :=
 (bif (decide (v0.1 ≠ v1.1)) then some false
 else (bif (decide (v0.2.1 ≠ v1.2.1)) then some false
 else (bif (decide (v0.2.2 ≠ v1.2.2)) then some false
 else some true)))
@[simp] def res_laws_eqBlock (r : Bool) : RV := .one (.one (.val (.bool r)))
theorem con_laws_eqBlock {v0 : TBlock} {v1 : TBlock} {r : Bool} (hF : F_laws_eqBlock v0 v1 = some r) : Con Tryd.prog 64 [eBlock v0, eBlock v1] (res_laws_eqBlock r) := by
 unfold F_laws_eqBlock at hF
 refine con_of c64_is fun N => ?_
 refine ws 0 192 ?_
 refine qf (.ptr 0 0 0) [(0, .box [AS v0.1, AS v0.2.1, AS v0.2.2])] (by simp) ?_
 refine qf (.ptr 64 0 0) [(64, .box [AS v1.1, AS v1.2.1, AS v1.2.2]), (0, .box [AS v0.1, AS v0.2.1, AS v0.2.2])] (by simp) ?_
 refine qp (AB false) rfl ?_
 refine r_nil ?_
 refine w_seq ?_
 refine ws 192 512 ?_
 refine qp (.ptr 0 0 0) rfl (qp (AS v0.1) rfl (qp (.ptr 64 0 0) rfl (qp (AS v1.1) rfl (qp (AB (decide (v0.1 ≠ v1.1))) rfl ?_))))
 refine r_nil ?_
 refine cF hF (fun hF => ?_) fun hF => ?_
 ·
  refine ws 512 576 ?_
  refine qp (AB false) rfl ?_
  refine r_nil ?_
  refine w_ret ?_
  refine thenQ_r ?_
  cases hF
  exact eR
 ·
  refine w_skip ?_
  refine thenQ_n ?_
  refine w_seq ?_
  refine ws 512 832 ?_
  refine qp (.ptr 0 0 1) rfl (qp (AS v0.2.1) rfl (qp (.ptr 64 0 1) rfl (qp (AS v1.2.1) rfl (qp (AB (decide (v0.2.1 ≠ v1.2.1))) rfl ?_))))
  refine r_nil ?_
  refine cF hF (fun hF => ?_) fun hF => ?_
  ·
   refine ws 832 896 ?_
   refine qp (AB false) rfl ?_
   refine r_nil ?_
   refine w_ret ?_
   refine thenQ_r ?_
   cases hF
   exact eR
  ·
   refine w_skip ?_
   refine thenQ_n ?_
   refine w_seq ?_
   refine ws 832 1152 ?_
   refine qp (.ptr 0 0 2) rfl (qp (AS v0.2.2) rfl (qp (.ptr 64 0 2) rfl (qp (AS v1.2.2) rfl (qp (AB (decide (v0.2.2 ≠ v1.2.2))) rfl ?_))))
   refine r_nil ?_
   refine cF hF (fun hF => ?_) fun hF => ?_
   ·
    refine ws 1152 1216 ?_
    refine qp (AB false) rfl ?_
    refine r_nil ?_
    refine w_ret ?_
    refine thenQ_r ?_
    cases hF
    exact eR
   ·
    refine w_skip ?_
    refine thenQ_n ?_
    refine ws 1152 1216 ?_
    refine qp (AB true) rfl ?_
    refine r_nil ?_
    refine w_ret ?_
    cases hF
    exact eR

def c20 : MC := (.seq (.reg [rg 4 (.p true (.mv (.c (.bool false))))]) (.seq (.seq (.reg [mvt 6 0, rg 7 (.p true (.len (.t 6))), mvt 8 1, rg 9 (.p true (.len (.t 8))), rg 10 (.p true (.bin .neq (.t 7) (.t 9)))]) (.cond (.t 10) (.seq (.reg [rg 4 (.p true (.mv (.c (.bool false))))]) .ret) .skip)) (.seq (.seq (.reg [rg 5 (.p true (.mv (.c (.int .i64 0))))]) (.block 0 (.loop (.seq (.seq (.reg [mvt 11 5, mvt 12 0, rg 13 (.p true (.len (.t 12))), rg 14 (.p true (.bin .lss (.t 11) (.t 13)))]) (.cond (.t 14) .skip (.exit 0))) (.seq (.block 1 (.seq (.reg [rg 17 (.p false (.mv (.t 0))), rg 18 (.p false (.mv (.t 5))), rg 19 (.p false (.iad (.t 17) (.t 18) 3)), rg 20 (.p false (.ld (.t 19) 3 true)), rg 21 (.p false (.mv (.t 1))), rg 22 (.p false (.mv (.t 5))), rg 23 (.p false (.iad (.t 21) (.t 22) 3)), rg 24 (.p false (.ld (.t 23) 3 true)), rg 25 (.call false 64 [(.t 20), (.t 24)]), rg 26 (.p false (.not (.t 25)))]) (.cond (.t 26) (.seq (.reg [rg 4 (.p true (.mv (.c (.bool false))))]) .ret) .skip))) (.reg [mvt 15 5, rg 16 (.p true (.bin .add (.t 15) (.c (.int .i64 1)))), mvt 5 16])))))) (.seq (.reg [rg 4 (.p true (.mv (.c (.bool true))))]) .ret))))
theorem c20_is : compFn Tryd.prog 20 = some (c20, [(.tmp 4)]) := by kernel_rfl
theorem c20_ok : okFn Tryd.prog 20 = true := by kernel_rfl

noncomputable def F_laws_eqBlockS_l0 (v0 : List TBlock) (v1 : List TBlock) (k0 : Int → Option (Bool)) : Int → Option (Bool)
 | v50001 => (bif (decide (v50001 < (v0.length : Int))) then ((ix v0 v50001).bind fun v1000 => ((ix v1 v50001).bind fun v1001 => ((F_laws_eqBlock v1000 v1001).bind fun v1002 => (bif (!v1002) then some false
 else k0 (w64 (v50001 + 1))))))
 else some true)
noncomputable def F_laws_eqBlockS (v0 : List TBlock) (v1 : List TBlock) : Option (Bool) :=
 (bif (decide ((v0.length : Int) ≠ (v1.length : Int))) then some false
 else loop (F_laws_eqBlockS_l0 v0 v1) 0)
@[simp] def res_laws_eqBlockS (r : Bool) : RV := .one (.one (.val (.bool r)))
theorem con_laws_eqBlockS {v0 : List TBlock} {v1 : List TBlock} {r : Bool} (hF : F_laws_eqBlockS v0 v1 = some r) : Con Tryd.prog 20 [.sl 3 (v0.map eBlock), .sl 3 (v1.map eBlock)] (res_laws_eqBlockS r) := by
 unfold F_laws_eqBlockS at hF
 refine con_of c20_is fun N => ?_
 refine ws 0 64 ?_
 refine qp (AB false) rfl ?_
 refine r_nil ?_
 refine w_seq ?_
 refine ws 64 384 ?_
 refine qp (AL 3 (v0.map eBlock)) rfl (qp (AI (v0.length : Int)) (ev_len_n rfl) (qp (AL 3 (v1.map eBlock)) rfl (qp (AI (v1.length : Int)) (ev_len_n rfl) (qp (AB (decide ((v0.length : Int) ≠ (v1.length : Int)))) rfl ?_))))
 refine r_nil ?_
 refine cF hF (fun hF => ?_) fun hF => ?_
 ·
  refine ws 384 448 ?_
  refine qp (AB false) rfl ?_
  refine r_nil ?_
  refine w_ret ?_
  refine thenQ_r ?_
  cases hF
  exact eR
 ·
  refine w_skip ?_
  refine thenQ_n ?_
  refine w_seq ?_
  refine ws 384 448 ?_
  refine qp (AI 0) rfl ?_
  refine r_nil ?_
  refine w_block ?_
  refine wr (l' := [(0, AL 3 (v0.map eBlock)), (1, AL 3 (v1.map eBlock)), (5, AI 0)]) (L := []) [0, 1, 5] [] 1 ?_
  refine w_loopF (F_laws_eqBlockS_l0 v0 v1) (fun s : Int => mkS [(0, AL 3 (v0.map eBlock)), (1, AL 3 (v1.map eBlock)), (5, AI s)] (fo []) 1) hF ?_
  rintro k0 v50001 hF
  rw [F_laws_eqBlockS_l0] at hF
  try dsimp only
  refine w_seq ?_
  refine ws 1 257 ?_
  refine qp (AI v50001) rfl (qp (AL 3 (v0.map eBlock)) rfl (qp (AI (v0.length : Int)) (ev_len_n rfl) (qp (AB (decide (v50001 < (v0.length : Int)))) rfl ?_)))
  refine r_nil ?_
  refine cF hF (fun hF => ?_) fun hF => ?_
  ·
   refine w_skip ?_
   refine thenQ_n ?_
   refine w_seq ?_
   refine w_block ?_
   refine ws 257 897 ?_
   refine qp (AL 3 (v0.map eBlock)) rfl (qp (AI v50001) rfl ?_)
   obtain ⟨v1000, e1000, hF⟩ := bind_get hF
   refine qp (.val none (.ptr [.str v1000.1, .str v1000.2.1, .str v1000.2.2])) (ev_iad_n rfl rfl e1000 rfl) (qp (.val none (eBlock v1000)) rfl (qp (AL 3 (v1.map eBlock)) rfl (qp (AI v50001) rfl ?_)))
   obtain ⟨v1001, e1001, hF⟩ := bind_get hF
   refine qp (.val none (.ptr [.str v1001.1, .str v1001.2.1, .str v1001.2.2])) (ev_iad_n rfl rfl e1001 rfl) (qp (.val none (eBlock v1001)) rfl ?_)
   obtain ⟨v1002, e1002, hF⟩ := bind_get hF
   refine qc (AB v1002) [] false (con_laws_eqBlock e1002) c64_ok (by first | rfl | simp) rfl ?_
   refine qp (AB (!v1002)) rfl ?_
   refine r_nil ?_
   refine cF hF (fun hF => ?_) fun hF => ?_
   ·
    refine ws 897 961 ?_
    refine qp (AB false) rfl ?_
    refine r_nil ?_
    refine w_ret ?_
    refine blockQ_r ?_
    refine thenQ_r ?_
    refine thenQ_r ?_
    refine blockQ_r ?_
    refine thenQ_r ?_
    cases hF
    exact eR
   ·
    refine w_skip ?_
    refine blockQ_n ?_
    refine thenQ_n ?_
    refine w_reg 897 1089 rfl rfl ?_
    refine qp (AI v50001) rfl (qp (AI (w64 (v50001 + 1))) rfl (qp (AI (w64 (v50001 + 1))) rfl ?_))
    refine r_nil ?_
    refine thenQ_n ?_
    refine ar (l' := [(0, AL 3 (v0.map eBlock)), (1, AL 3 (v1.map eBlock)), (5, AI (w64 (v50001 + 1)))]) (L := []) [0, 1, 5] [] 1 ⟨_, by rfl, hF⟩
  ·
   refine w_exit ?_
   refine thenQ_e ?_
   refine thenQ_e ?_
   refine blockQ_e ?_
   refine thenQ_n ?_
   refine ws 257 321 ?_
   refine qp (AB true) rfl ?_
   refine r_nil ?_
   refine w_ret ?_
   cases hF
   exact eR

def c76 : MC := (.seq (.reg [rg 2 (.p true (.mv (.c (.str []))))]) (.seq (.seq (.reg [mvt 4 0, rg 5 (.p true (.bin .leq (.t 4) (.c (.int .i64 0))))]) (.cond (.t 5) (.seq (.reg [rg 2 (.p true (.mv (.c (.str [109, 48]))))]) .ret) .skip)) (.seq (.reg [rg 3 (.p true (.mv (.c (.str []))))]) (.seq (.block 0 (.loop (.seq (.seq (.reg [mvt 6 0, rg 7 (.p true (.bin .gtr (.t 6) (.c (.int .i64 0))))]) (.cond (.t 7) .skip (.exit 0))) (.block 1 (.seq (.reg [mvt 8 0, rg 9 (.p true (.bin .rem (.t 8) (.c (.int .i64 10)))), rg 10 (.p true (.bin .add (.c (.int .i64 48)) (.t 9))), rg 11 (.p true (.conv .u8 (.t 10))), rg 12 (.f (.bsl 1 [(.t 11)])), rg 13 (.p true (.bts (.t 12))), mvt 14 3, rg 15 (.p true (.bin .add (.t 13) (.t 14))), mvt 3 15]) (.reg [mvt 16 0, rg 17 (.p true (.bin .quo (.t 16) (.c (.int .i64 10)))), mvt 0 17])))))) (.seq (.reg [mvt 18 3, rg 19 (.p true (.bin .add (.c (.str [109])) (.t 18))), mvt 2 19]) .ret)))))
theorem c76_is : compFn Tryd.prog 76 = some (c76, [(.tmp 2)]) := by kernel_rfl
theorem c76_ok : okFn Tryd.prog 76 = true := by kernel_rfl

noncomputable def F_laws_markText_l0 (k0 : Int × (List UInt8) → Option (List UInt8)) : Int × (List UInt8) → Option (List UInt8)
 | (v50002, v50003) => (bif (decide ((0 : Int) < v50002)) then (need ((bytesI ([IntKind.wrap .u8 (w64 (48 + (Int.tmod v50002 10)))] : List Int)).length + v50003.length < 9223372036854775808) (k0 (w64 (Int.tdiv v50002 10), (bytesI ([IntKind.wrap .u8 (w64 (48 + (Int.tmod v50002 10)))] : List Int)) ++ v50003)))
 else (need ([109].length + v50003.length < 9223372036854775808) (some ([109] ++ v50003))))
noncomputable def F_laws_markText (v0 : Int) : Option (List UInt8) :=
 (bif (decide (v0 ≤ (0 : Int))) then some [109, 48]
 else loop (F_laws_markText_l0) (v0, []))
@[simp] def res_laws_markText (r : List UInt8) : RV := .one (.one (.val (.str r)))
theorem con_laws_markText {v0 : Int} {r : List UInt8} (hF : F_laws_markText v0 = some r) : Con Tryd.prog 76 [.int .i64 v0] (res_laws_markText r) := by
 unfold F_laws_markText at hF
 refine con_of c76_is fun N => ?_
 refine ws 0 64 ?_
 refine qp (AS []) rfl ?_
 refine r_nil ?_
 refine w_seq ?_
 refine ws 64 192 ?_
 refine qp (AI v0) rfl (qp (AB (decide (v0 ≤ (0 : Int)))) rfl ?_)
 refine r_nil ?_
 refine cF hF (fun hF => ?_) fun hF => ?_
 ·
  refine ws 192 256 ?_
  refine qp (AS [109, 48]) rfl ?_
  refine r_nil ?_
  refine w_ret ?_
  refine thenQ_r ?_
  cases hF
  exact eR
 ·
  refine w_skip ?_
  refine thenQ_n ?_
  refine ws 192 256 ?_
  refine qp (AS []) rfl ?_
  refine r_nil ?_
  refine w_seq ?_
  refine w_block ?_
  refine wr (l' := [(0, AI v0), (3, AS ([] : List UInt8))]) (L := []) [0, 3] [] 1 ?_
  refine w_loopF (F_laws_markText_l0) (fun s : Int × (List UInt8) => mkS [(0, AI s.1), (3, AS s.2)] (fo []) 1) hF ?_
  rintro k0 ⟨v50002, v50003⟩ hF
  rw [F_laws_markText_l0] at hF
  try dsimp only
  refine w_seq ?_
  refine ws 1 129 ?_
  refine qp (AI v50002) rfl (qp (AB (decide ((0 : Int) < v50002))) rfl ?_)
  refine r_nil ?_
  refine cF hF (fun hF => ?_) fun hF => ?_
  ·
   refine w_skip ?_
   refine thenQ_n ?_
   refine w_block ?_
   refine ws 129 705 ?_
   refine qp (AI v50002) rfl (qp (AI (Int.tmod v50002 10)) (ev_rem rfl rfl (by decide)) (qp (AI (w64 (48 + (Int.tmod v50002 10)))) rfl (qp (.val none (.int .u8 (IntKind.wrap .u8 (w64 (48 + (Int.tmod v50002 10)))))) rfl ?_)))
   refine qf (.sl 385 0 (([IntKind.wrap .u8 (w64 (48 + (Int.tmod v50002 10)))] : List Int).length)) [(385, .row true 1 (([IntKind.wrap .u8 (w64 (48 + (Int.tmod v50002 10)))] : List Int).map (V.int .u8)))] (by simp [List.take_of_length_le]) ?_
   refine qp (AS (bytesI ([IntKind.wrap .u8 (w64 (48 + (Int.tmod v50002 10)))] : List Int))) (ev_bts_r rfl (by simp) rfl) (qp (AS v50003) rfl ?_)
   obtain ⟨g1000, hF⟩ := need_some hF
   refine qp (AS ((bytesI ([IntKind.wrap .u8 (w64 (48 + (Int.tmod v50002 10)))] : List Int)) ++ v50003)) (ev_add_s rfl rfl g1000) (qp (AS ((bytesI ([IntKind.wrap .u8 (w64 (48 + (Int.tmod v50002 10)))] : List Int)) ++ v50003)) rfl ?_)
   refine r_nil ?_
   refine w_reg 705 897 rfl rfl ?_
   refine qp (AI v50002) rfl (qp (AI (w64 (Int.tdiv v50002 10))) (ev_quo rfl rfl (by decide)) (qp (AI (w64 (Int.tdiv v50002 10))) rfl ?_))
   refine r_nil ?_
   refine blockQ_n ?_
   refine thenQ_n ?_
   refine ar (l' := [(0, AI (w64 (Int.tdiv v50002 10))), (3, AS ((bytesI ([IntKind.wrap .u8 (w64 (48 + (Int.tmod v50002 10)))] : List Int)) ++ v50003))]) (L := []) [0, 3] [] 1 ⟨_, by rfl, hF⟩
  ·
   refine w_exit ?_
   refine thenQ_e ?_
   refine thenQ_e ?_
   refine blockQ_e ?_
   refine thenQ_n ?_
   refine ws 129 321 ?_
   refine qp (AS v50003) rfl ?_
   obtain ⟨g1001, hF⟩ := need_some hF
   refine qp (AS ([109] ++ v50003)) (ev_add_s rfl rfl g1001) (qp (AS ([109] ++ v50003)) rfl ?_)
   refine r_nil ?_
   refine w_ret ?_
   cases hF
   exact eR

def c35 : MC := (.seq (.reg [rg 4 (.p true (.mv (.c (.int .i64 0))))]) (.seq (.seq (.reg [rg 5 (.p true (.mv (.c (.int .i64 0))))]) (.block 0 (.loop (.seq (.seq (.reg [mvt 6 5, mvt 7 0, rg 8 (.p true (.len (.t 7))), rg 9 (.p true (.bin .lss (.t 6) (.t 8)))]) (.cond (.t 9) .skip (.exit 0))) (.seq (.block 1 (.seq (.reg [mvt 12 0, mvt 13 5, mvt 14 1, rg 15 (.call true 76 [(.t 14)]), rg 16 (.p true (.iad (.t 12) (.t 13) 3)), rg 17 (.p true (.fad (.t 16) 0)), ⟨none, none, (.f (.st (.t 17) (.t 15) 1))⟩]) (.seq (.reg [mvt 18 1, rg 19 (.p true (.bin .add (.t 18) (.c (.int .i64 1)))), mvt 1 19]) (.seq (.reg [mvt 20 0, mvt 21 5, mvt 22 1, rg 23 (.call true 76 [(.t 22)]), rg 24 (.p true (.iad (.t 20) (.t 21) 3)), rg 25 (.p true (.fad (.t 24) 1)), ⟨none, none, (.f (.st (.t 25) (.t 23) 1))⟩]) (.seq (.reg [mvt 26 1, rg 27 (.p true (.bin .add (.t 26) (.c (.int .i64 1)))), mvt 1 27]) (.seq (.reg [mvt 28 0, mvt 29 5, mvt 30 1, rg 31 (.call true 76 [(.t 30)]), rg 32 (.p true (.iad (.t 28) (.t 29) 3)), rg 33 (.p true (.fad (.t 32) 2)), ⟨none, none, (.f (.st (.t 33) (.t 31) 1))⟩]) (.reg [mvt 34 1, rg 35 (.p true (.bin .add (.t 34) (.c (.int .i64 1)))), mvt 1 35]))))))) (.reg [mvt 10 5, rg 11 (.p true (.bin .add (.t 10) (.c (.int .i64 1)))), mvt 5 11])))))) (.seq (.reg [mvt 36 1, mvt 4 36]) .ret)))
theorem c35_is : compFnM Tryd.prog 35 = some (c35, [(.tmp 4)]) := by kernel_rfl
theorem c35_ok : okFn Tryd.prog 35 = true := by kernel_rfl

noncomputable def F_laws_markBlockS_l0 (k0 : Int × Int × (List TBlock) → Option ((List TBlock) × Int)) : Int × Int × (List TBlock) → Option ((List TBlock) × Int)
 | (v50003, v50004, v50005) => (bif (decide (v50004 < (v50005.length : Int))) then ((F_laws_markText v50003).bind fun v1000 => ((ix v50005 v50004).bind fun v1001 => ((F_laws_markText (w64 (v50003 + 1))).bind fun v1002 => ((ix (List.set v50005 v50004.toNat (v1000, v1001.2.1, v1001.2.2)) v50004).bind fun v1003 => ((F_laws_markText (w64 ((w64 (v50003 + 1)) + 1))).bind fun v1004 => ((ix (List.set (List.set v50005 v50004.toNat (v1000, v1001.2.1, v1001.2.2)) v50004.toNat (v1003.1, v1002, v1003.2.2)) v50004).bind fun v1005 => k0 (w64 ((w64 ((w64 (v50003 + 1)) + 1)) + 1), w64 (v50004 + 1), List.set (List.set (List.set v50005 v50004.toNat (v1000, v1001.2.1, v1001.2.2)) v50004.toNat (v1003.1, v1002, v1003.2.2)) v50004.toNat (v1005.1, v1005.2.1, v1004))))))))
 else some (v50005, v50003))
noncomputable def F_laws_markBlockS (v0 : List TBlock) (v1 : Int) : Option ((List TBlock) × Int) :=
 loop (F_laws_markBlockS_l0) (v1, 0, v0)
theorem con_laws_markBlockS {v0 : List TBlock} {v1 : Int} {r : (List TBlock) × Int} (hF : F_laws_markBlockS v0 v1 = some r) : ConM Tryd.prog 35 (.one (.row true 3 (v0.map eBlock))) (.one (.row true 3 (r.1.map eBlock))) [.int .i64 v1] (.int .i64 r.2) := by
 unfold F_laws_markBlockS at hF
 refine conM_of (av := .sl 0 0 v0.length) (L := [(0, .row true 3 (v0.map eBlock))]) c35_is rfl rfl rfl (by simp) fun N => ?_
 refine ws 64 128 ?_
 refine qp (AI 0) rfl ?_
 refine r_nil ?_
 refine w_seq ?_
 refine ws 128 192 ?_
 refine qp (AI 0) rfl ?_
 refine r_nil ?_
 refine w_block ?_
 refine wr (l' := [(0, .sl 0 0 v0.length), (1, AI v1), (5, AI 0)]) (L := [(0, .row true 3 (v0.map eBlock))]) [0, 1, 5] [(0, 0)] 1 ?_
 refine w_loopF (F_laws_markBlockS_l0) (fun s : Int × Int × (List TBlock) => mkS [(0, .sl 0 0 s.2.2.length), (1, AI s.1), (5, AI s.2.1)] (fo [(0, .row true 3 (s.2.2.map eBlock))]) 1) hF ?_
 rintro k0 ⟨v50003, v50004, v50005⟩ hF
 rw [F_laws_markBlockS_l0] at hF
 try dsimp only
 refine w_seq ?_
 refine ws 1 257 ?_
 refine qp (AI v50004) rfl (qp (.sl 0 0 v50005.length) rfl (qp (AI (v50005.length : Int)) rfl (qp (AB (decide (v50004 < (v50005.length : Int)))) rfl ?_)))
 refine r_nil ?_
 refine cF hF (fun hF => ?_) fun hF => ?_
 ·
  refine w_skip ?_
  refine thenQ_n ?_
  refine w_seq ?_
  refine w_block ?_
  refine ws 257 705 ?_
  refine qp (.sl 0 0 v50005.length) rfl (qp (AI v50004) rfl (qp (AI v50003) rfl ?_))
  obtain ⟨v1000, e1000, hF⟩ := bind_get hF
  refine qc (AS v1000) [(0, .row true 3 (v50005.map eBlock))] false (con_laws_markText e1000) c76_ok (by first | rfl | simp) rfl ?_
  obtain ⟨v1001, e1001, hF⟩ := bind_get hF
  refine qp (.ptr 0 v50004.toNat 0) (ev_iad_r rfl (by simp) rfl rfl e1001) (qp (.ptr 0 v50004.toNat 0) rfl ?_)
  refine qf0 (.undef) [(0, .row true 3 ((List.set v50005 v50004.toNat (v1000, v1001.2.1, v1001.2.2)).map eBlock)), (0, .row true 3 (v50005.map eBlock))] (effT_st rfl rfl (ix_some e1001).2 rfl rfl (by rfl) (by first | rfl | simp [patch, reb, List.take_of_length_le]) (by rfl) rfl) ?_
  refine r_nil ?_
  refine ws 705 897 ?_
  refine qp (AI v50003) rfl (qp (AI (w64 (v50003 + 1))) rfl (qp (AI (w64 (v50003 + 1))) rfl ?_))
  refine r_nil ?_
  refine ws 897 1345 ?_
  refine qp (.sl 0 0 v50005.length) rfl (qp (AI v50004) rfl (qp (AI (w64 (v50003 + 1))) rfl ?_))
  obtain ⟨v1002, e1002, hF⟩ := bind_get hF
  refine qc (AS v1002) [(0, .row true 3 ((List.set v50005 v50004.toNat (v1000, v1001.2.1, v1001.2.2)).map eBlock)), (0, .row true 3 (v50005.map eBlock))] false (con_laws_markText e1002) c76_ok (by first | rfl | simp) rfl ?_
  obtain ⟨v1003, e1003, hF⟩ := bind_get hF
  refine qp (.ptr 0 v50004.toNat 0) (ev_iad_r rfl (by simp) rfl rfl e1003) (qp (.ptr 0 v50004.toNat 1) rfl ?_)
  refine qf0 (.undef) [(0, .row true 3 ((List.set (List.set v50005 v50004.toNat (v1000, v1001.2.1, v1001.2.2)) v50004.toNat (v1003.1, v1002, v1003.2.2)).map eBlock)), (0, .row true 3 ((List.set v50005 v50004.toNat (v1000, v1001.2.1, v1001.2.2)).map eBlock)), (0, .row true 3 (v50005.map eBlock))] (effT_st rfl rfl (ix_some e1003).2 rfl rfl (by rfl) (by first | rfl | simp [patch, reb, List.take_of_length_le]) (by rfl) rfl) ?_
  refine r_nil ?_
  refine ws 1345 1537 ?_
  refine qp (AI (w64 (v50003 + 1))) rfl (qp (AI (w64 ((w64 (v50003 + 1)) + 1))) rfl (qp (AI (w64 ((w64 (v50003 + 1)) + 1))) rfl ?_))
  refine r_nil ?_
  refine ws 1537 1985 ?_
  refine qp (.sl 0 0 v50005.length) rfl (qp (AI v50004) rfl (qp (AI (w64 ((w64 (v50003 + 1)) + 1))) rfl ?_))
  obtain ⟨v1004, e1004, hF⟩ := bind_get hF
  refine qc (AS v1004) [(0, .row true 3 ((List.set (List.set v50005 v50004.toNat (v1000, v1001.2.1, v1001.2.2)) v50004.toNat (v1003.1, v1002, v1003.2.2)).map eBlock)), (0, .row true 3 ((List.set v50005 v50004.toNat (v1000, v1001.2.1, v1001.2.2)).map eBlock)), (0, .row true 3 (v50005.map eBlock))] false (con_laws_markText e1004) c76_ok (by first | rfl | simp) rfl ?_
  obtain ⟨v1005, e1005, hF⟩ := bind_get hF
  refine qp (.ptr 0 v50004.toNat 0) (ev_iad_r rfl (by simp) rfl rfl e1005) (qp (.ptr 0 v50004.toNat 2) rfl ?_)
  refine qf0 (.undef) [(0, .row true 3 ((List.set (List.set (List.set v50005 v50004.toNat (v1000, v1001.2.1, v1001.2.2)) v50004.toNat (v1003.1, v1002, v1003.2.2)) v50004.toNat (v1005.1, v1005.2.1, v1004)).map eBlock)), (0, .row true 3 ((List.set (List.set v50005 v50004.toNat (v1000, v1001.2.1, v1001.2.2)) v50004.toNat (v1003.1, v1002, v1003.2.2)).map eBlock)), (0, .row true 3 ((List.set v50005 v50004.toNat (v1000, v1001.2.1, v1001.2.2)).map eBlock)), (0, .row true 3 (v50005.map eBlock))] (effT_st rfl rfl (ix_some e1005).2 rfl rfl (by rfl) (by first | rfl | simp [patch, reb, List.take_of_length_le]) (by rfl) rfl) ?_
  refine r_nil ?_
  refine w_reg 1985 2177 rfl rfl ?_
  refine qp (AI (w64 ((w64 (v50003 + 1)) + 1))) rfl (qp (AI (w64 ((w64 ((w64 (v50003 + 1)) + 1)) + 1))) rfl (qp (AI (w64 ((w64 ((w64 (v50003 + 1)) + 1)) + 1))) rfl ?_))
  refine r_nil ?_
  refine blockQ_n ?_
  refine thenQ_n ?_
  refine w_reg 2177 2369 rfl rfl ?_
  refine qp (AI v50004) rfl (qp (AI (w64 (v50004 + 1))) rfl (qp (AI (w64 (v50004 + 1))) rfl ?_))
  refine r_nil ?_
  refine thenQ_n ?_
  refine ar (l' := [(0, .sl 0 0 (List.set (List.set (List.set v50005 v50004.toNat (v1000, v1001.2.1, v1001.2.2)) v50004.toNat (v1003.1, v1002, v1003.2.2)) v50004.toNat (v1005.1, v1005.2.1, v1004)).length), (1, AI (w64 ((w64 ((w64 (v50003 + 1)) + 1)) + 1))), (5, AI (w64 (v50004 + 1)))]) (L := [(0, .row true 3 ((List.set (List.set (List.set v50005 v50004.toNat (v1000, v1001.2.1, v1001.2.2)) v50004.toNat (v1003.1, v1002, v1003.2.2)) v50004.toNat (v1005.1, v1005.2.1, v1004)).map eBlock))]) [0, 1, 5] [(0, 0)] 1 ⟨_, by rfl, hF⟩
 ·
  refine w_exit ?_
  refine thenQ_e ?_
  refine thenQ_e ?_
  refine blockQ_e ?_
  refine thenQ_n ?_
  refine ws 257 385 ?_
  refine qp (AI v50003) rfl (qp (AI v50003) rfl ?_)
  refine r_nil ?_
  refine w_ret ?_
  cases hF
  exact endM_r rfl rfl (by first | rfl | (simp [List.take_of_length_le]; first | exact ⟨rfl, rfl⟩ | rfl)) (by simp)

def c36 : MC := (.seq (.reg [rg 4 (.p true (.mv (.c (.int .i64 0))))]) (.seq (.seq (.reg [rg 5 (.p true (.mv (.c (.int .i64 0))))]) (.block 0 (.loop (.seq (.seq (.reg [mvt 6 5, mvt 7 0, rg 8 (.p true (.len (.t 7))), rg 9 (.p true (.bin .lss (.t 6) (.t 8)))]) (.cond (.t 9) .skip (.exit 0))) (.seq (.block 1 (.seq (.seq (.reg [rg 12 (.p false (.mv (.t 0))), rg 13 (.p false (.mv (.t 5))), rg 14 (.p false (.iad (.t 12) (.t 13) 3)), rg 15 (.p false (.fad (.t 14) 0)), rg 16 (.p false (.ld (.t 15) 1 false)), rg 17 (.p false (.mv (.t 1))), rg 18 (.call false 76 [(.t 17)]), rg 19 (.p false (.bin .neq (.t 16) (.t 18)))]) (.cond (.t 19) (.seq (.reg [rg 4 (.p true (.mv (.c (.int .i64 (-1)))))]) .ret) .skip)) (.seq (.reg [mvt 20 1, rg 21 (.p true (.bin .add (.t 20) (.c (.int .i64 1)))), mvt 1 21]) (.seq (.seq (.reg [rg 22 (.p false (.mv (.t 0))), rg 23 (.p false (.mv (.t 5))), rg 24 (.p false (.iad (.t 22) (.t 23) 3)), rg 25 (.p false (.fad (.t 24) 1)), rg 26 (.p false (.ld (.t 25) 1 false)), rg 27 (.p false (.mv (.t 1))), rg 28 (.call false 76 [(.t 27)]), rg 29 (.p false (.bin .neq (.t 26) (.t 28)))]) (.cond (.t 29) (.seq (.reg [rg 4 (.p true (.mv (.c (.int .i64 (-1)))))]) .ret) .skip)) (.seq (.reg [mvt 30 1, rg 31 (.p true (.bin .add (.t 30) (.c (.int .i64 1)))), mvt 1 31]) (.seq (.seq (.reg [rg 32 (.p false (.mv (.t 0))), rg 33 (.p false (.mv (.t 5))), rg 34 (.p false (.iad (.t 32) (.t 33) 3)), rg 35 (.p false (.fad (.t 34) 2)), rg 36 (.p false (.ld (.t 35) 1 false)), rg 37 (.p false (.mv (.t 1))), rg 38 (.call false 76 [(.t 37)]), rg 39 (.p false (.bin .neq (.t 36) (.t 38)))]) (.cond (.t 39) (.seq (.reg [rg 4 (.p true (.mv (.c (.int .i64 (-1)))))]) .ret) .skip)) (.reg [mvt 40 1, rg 41 (.p true (.bin .add (.t 40) (.c (.int .i64 1)))), mvt 1 41]))))))) (.reg [mvt 10 5, rg 11 (.p true (.bin .add (.t 10) (.c (.int .i64 1)))), mvt 5 11])))))) (.seq (.reg [mvt 42 1, mvt 4 42]) .ret)))
theorem c36_is : compFn Tryd.prog 36 = some (c36, [(.tmp 4)]) := by kernel_rfl
theorem c36_ok : okFn Tryd.prog 36 = true := by kernel_rfl

noncomputable def F_laws_heldBlockS_l0 (v0 : List TBlock) (k0 : Int × Int → Option (Int)) : Int × Int → Option (Int)
 | (v50002, v50003) => (bif (decide (v50003 < (v0.length : Int))) then ((ix v0 v50003).bind fun v1000 => ((F_laws_markText v50002).bind fun v1001 => (bif (decide (v1000.1 ≠ v1001)) then some (-1)
 else ((ix v0 v50003).bind fun v1002 => ((F_laws_markText (w64 (v50002 + 1))).bind fun v1003 => (bif (decide (v1002.2.1 ≠ v1003)) then some (-1)
 else ((ix v0 v50003).bind fun v1004 => ((F_laws_markText (w64 ((w64 (v50002 + 1)) + 1))).bind fun v1005 => (bif (decide (v1004.2.2 ≠ v1005)) then some (-1)
 else k0 (w64 ((w64 ((w64 (v50002 + 1)) + 1)) + 1), w64 (v50003 + 1)))))))))))
 else some v50002)
noncomputable def F_laws_heldBlockS (v0 : List TBlock) (v1 : Int) : Option (Int) :=
 loop (F_laws_heldBlockS_l0 v0) (v1, 0)
@[simp] def res_laws_heldBlockS (r : Int) : RV := .one (.one (.val (.int .i64 r)))
theorem con_laws_heldBlockS {v0 : List TBlock} {v1 : Int} {r : Int} (hF : F_laws_heldBlockS v0 v1 = some r) : Con Tryd.prog 36 [.sl 3 (v0.map eBlock), .int .i64 v1] (res_laws_heldBlockS r) := by
 unfold F_laws_heldBlockS at hF
 refine con_of c36_is fun N => ?_
 refine ws 0 64 ?_
 refine qp (AI 0) rfl ?_
 refine r_nil ?_
 refine w_seq ?_
 refine ws 64 128 ?_
 refine qp (AI 0) rfl ?_
 refine r_nil ?_
 refine w_block ?_
 refine wr (l' := [(0, AL 3 (v0.map eBlock)), (1, AI v1), (5, AI 0)]) (L := []) [0, 1, 5] [] 1 ?_
 refine w_loopF (F_laws_heldBlockS_l0 v0) (fun s : Int × Int => mkS [(0, AL 3 (v0.map eBlock)), (1, AI s.1), (5, AI s.2)] (fo []) 1) hF ?_
 rintro k0 ⟨v50002, v50003⟩ hF
 rw [F_laws_heldBlockS_l0] at hF
 try dsimp only
 refine w_seq ?_
 refine ws 1 257 ?_
 refine qp (AI v50003) rfl (qp (AL 3 (v0.map eBlock)) rfl (qp (AI (v0.length : Int)) (ev_len_n rfl) (qp (AB (decide (v50003 < (v0.length : Int)))) rfl ?_)))
 refine r_nil ?_
 refine cF hF (fun hF => ?_) fun hF => ?_
 ·
  refine w_skip ?_
  refine thenQ_n ?_
  refine w_seq ?_
  refine w_block ?_
  refine w_seq ?_
  refine ws 257 769 ?_
  refine qp (AL 3 (v0.map eBlock)) rfl (qp (AI v50003) rfl ?_)
  obtain ⟨v1000, e1000, hF⟩ := bind_get hF
  refine qp (.val none (.ptr [.str v1000.1, .str v1000.2.1, .str v1000.2.2])) (ev_iad_n rfl rfl e1000 rfl) (qp (.val none (.ptr [.str v1000.1, .str v1000.2.1, .str v1000.2.2])) rfl (qp (AS v1000.1) rfl (qp (AI v50002) rfl ?_)))
  obtain ⟨v1001, e1001, hF⟩ := bind_get hF
  refine qc (AS v1001) [] false (con_laws_markText e1001) c76_ok (by first | rfl | simp) rfl ?_
  refine qp (AB (decide (v1000.1 ≠ v1001))) rfl ?_
  refine r_nil ?_
  refine cF hF (fun hF => ?_) fun hF => ?_
  ·
   refine ws 769 833 ?_
   refine qp (AI (-1)) rfl ?_
   refine r_nil ?_
   refine w_ret ?_
   refine thenQ_r ?_
   refine blockQ_r ?_
   refine thenQ_r ?_
   refine thenQ_r ?_
   refine blockQ_r ?_
   refine thenQ_r ?_
   cases hF
   exact eR
  ·
   refine w_skip ?_
   refine thenQ_n ?_
   refine ws 769 961 ?_
   refine qp (AI v50002) rfl (qp (AI (w64 (v50002 + 1))) rfl (qp (AI (w64 (v50002 + 1))) rfl ?_))
   refine r_nil ?_
   refine w_seq ?_
   refine ws 961 1473 ?_
   refine qp (AL 3 (v0.map eBlock)) rfl (qp (AI v50003) rfl ?_)
   obtain ⟨v1002, e1002, hF⟩ := bind_get hF
   refine qp (.val none (.ptr [.str v1002.1, .str v1002.2.1, .str v1002.2.2])) (ev_iad_n rfl rfl e1002 rfl) (qp (.val none (.ptr [.str v1002.2.1, .str v1002.2.2])) rfl (qp (AS v1002.2.1) rfl (qp (AI (w64 (v50002 + 1))) rfl ?_)))
   obtain ⟨v1003, e1003, hF⟩ := bind_get hF
   refine qc (AS v1003) [] false (con_laws_markText e1003) c76_ok (by first | rfl | simp) rfl ?_
   refine qp (AB (decide (v1002.2.1 ≠ v1003))) rfl ?_
   refine r_nil ?_
   refine cF hF (fun hF => ?_) fun hF => ?_
   ·
    refine ws 1473 1537 ?_
    refine qp (AI (-1)) rfl ?_
    refine r_nil ?_
    refine w_ret ?_
    refine thenQ_r ?_
    refine blockQ_r ?_
    refine thenQ_r ?_
    refine thenQ_r ?_
    refine blockQ_r ?_
    refine thenQ_r ?_
    cases hF
    exact eR
   ·
    refine w_skip ?_
    refine thenQ_n ?_
    refine ws 1473 1665 ?_
    refine qp (AI (w64 (v50002 + 1))) rfl (qp (AI (w64 ((w64 (v50002 + 1)) + 1))) rfl (qp (AI (w64 ((w64 (v50002 + 1)) + 1))) rfl ?_))
    refine r_nil ?_
    refine w_seq ?_
    refine ws 1665 2177 ?_
    refine qp (AL 3 (v0.map eBlock)) rfl (qp (AI v50003) rfl ?_)
    obtain ⟨v1004, e1004, hF⟩ := bind_get hF
    refine qp (.val none (.ptr [.str v1004.1, .str v1004.2.1, .str v1004.2.2])) (ev_iad_n rfl rfl e1004 rfl) (qp (.val none (.ptr [.str v1004.2.2])) rfl (qp (AS v1004.2.2) rfl (qp (AI (w64 ((w64 (v50002 + 1)) + 1))) rfl ?_)))
    obtain ⟨v1005, e1005, hF⟩ := bind_get hF
    refine qc (AS v1005) [] false (con_laws_markText e1005) c76_ok (by first | rfl | simp) rfl ?_
    refine qp (AB (decide (v1004.2.2 ≠ v1005))) rfl ?_
    refine r_nil ?_
    refine cF hF (fun hF => ?_) fun hF => ?_
    ·
     refine ws 2177 2241 ?_
     refine qp (AI (-1)) rfl ?_
     refine r_nil ?_
     refine w_ret ?_
     refine thenQ_r ?_
     refine blockQ_r ?_
     refine thenQ_r ?_
     refine thenQ_r ?_
     refine blockQ_r ?_
     refine thenQ_r ?_
     cases hF
     exact eR
    ·
     refine w_skip ?_
     refine thenQ_n ?_
     refine w_reg 2177 2369 rfl rfl ?_
     refine qp (AI (w64 ((w64 (v50002 + 1)) + 1))) rfl (qp (AI (w64 ((w64 ((w64 (v50002 + 1)) + 1)) + 1))) rfl (qp (AI (w64 ((w64 ((w64 (v50002 + 1)) + 1)) + 1))) rfl ?_))
     refine r_nil ?_
     refine blockQ_n ?_
     refine thenQ_n ?_
     refine w_reg 2369 2561 rfl rfl ?_
     refine qp (AI v50003) rfl (qp (AI (w64 (v50003 + 1))) rfl (qp (AI (w64 (v50003 + 1))) rfl ?_))
     refine r_nil ?_
     refine thenQ_n ?_
     refine ar (l' := [(0, AL 3 (v0.map eBlock)), (1, AI (w64 ((w64 ((w64 (v50002 + 1)) + 1)) + 1))), (5, AI (w64 (v50003 + 1)))]) (L := []) [0, 1, 5] [] 1 ⟨_, by rfl, hF⟩
 ·
  refine w_exit ?_
  refine thenQ_e ?_
  refine thenQ_e ?_
  refine blockQ_e ?_
  refine thenQ_n ?_
  refine ws 257 385 ?_
  refine qp (AI v50002) rfl (qp (AI v50002) rfl ?_)
  refine r_nil ?_
  refine w_ret ?_
  cases hF
  exact eR

def c8 : MC := (.seq (.reg [rg 2 (.p true (.mv (.c (.bool false))))]) (.seq (.seq (.reg [mvt 8 0, rg 9 (.p true (.lens (.t 8))), rg 10 (.p true (.bin .gtr (.t 9) (.c (.int .i64 1048576))))]) (.cond (.t 10) (.seq (.reg [rg 2 (.p true (.mv (.c (.bool true))))]) .ret) .skip)) (.seq (.reg [mvt 11 0, rg 12 (.call true 33 [(.t 11)]), mvt 3 12]) (.seq (.reg [mvt 13 0, rg 14 (.call true 34 [(.t 13)]), mvt 4 14]) (.seq (.seq (.reg [mvt 15 4, mvt 16 3, rg 17 (.call true 20 [(.t 15), (.t 16)]), rg 18 (.p true (.not (.t 17)))]) (.cond (.t 18) (.seq (.reg [rg 2 (.p true (.mv (.c (.bool false))))]) .ret) .skip)) (.seq (.reg [rg 5 (.p true (.mv (.c (.int .i64 1))))]) (.seq (.reg [mvt 19 4, mvt 20 5, rg 21 (.call true 35 [(.t 19), (.t 20)]), mvt 5 21]) (.seq (.reg [rg 6 (.p true (.mv (.c (.int .i64 1))))]) (.seq (.reg [mvt 22 4, mvt 23 6, rg 24 (.call true 36 [(.t 22), (.t 23)]), mvt 6 24]) (.seq (.seq (.reg [mvt 25 6, rg 26 (.p true (.bin .lss (.t 25) (.c (.int .i64 0))))]) (.cond (.t 26) (.seq (.reg [rg 2 (.p true (.mv (.c (.bool false))))]) .ret) .skip)) (.seq (.seq (.reg [mvt 27 6, mvt 28 5, rg 29 (.p true (.bin .neq (.t 27) (.t 28)))]) (.cond (.t 29) (.seq (.reg [rg 2 (.p true (.mv (.c (.bool false))))]) .ret) .skip)) (.seq (.reg [mvt 30 0, rg 31 (.call true 34 [(.t 30)]), mvt 7 31]) (.seq (.seq (.reg [mvt 32 7, mvt 33 3, rg 34 (.call true 20 [(.t 32), (.t 33)]), rg 35 (.p true (.not (.t 34)))]) (.cond (.t 35) (.seq (.reg [rg 2 (.p true (.mv (.c (.bool false))))]) .ret) .skip)) (.seq (.reg [rg 6 (.p true (.mv (.c (.int .i64 1))))]) (.seq (.reg [mvt 36 4, mvt 37 6, rg 38 (.call true 36 [(.t 36), (.t 37)]), mvt 6 38]) (.seq (.seq (.reg [mvt 39 6, rg 40 (.p true (.bin .lss (.t 39) (.c (.int .i64 0))))]) (.cond (.t 40) (.seq (.reg [rg 2 (.p true (.mv (.c (.bool false))))]) .ret) .skip)) (.seq (.seq (.reg [mvt 41 6, mvt 42 5, rg 43 (.p true (.bin .neq (.t 41) (.t 42)))]) (.cond (.t 43) (.seq (.reg [rg 2 (.p true (.mv (.c (.bool false))))]) .ret) .skip)) (.seq (.reg [rg 2 (.p true (.mv (.c (.bool true))))]) .ret))))))))))))))))))
theorem c8_is : compFn Tryd.prog 8 = some (c8, [(.tmp 2)]) := by kernel_rfl
theorem c8_ok : okFn Tryd.prog 8 = true := by kernel_rfl

noncomputable def F_laws_FnExactSalvageBlocks (v0 : List UInt8) : Option (Bool) :=
 (bif (decide ((1048576 : Int) < (v0.length : Int))) then some true
 else ((F_spec_SalvageBlocks v0).bind fun v1000 => ((F_impl_SalvageBlocks v0).bind fun v1001 => ((F_laws_eqBlockS v1001 v1000).bind fun v1002 => (bif (!v1002) then some false
 else ((F_laws_markBlockS v1001 1).bind fun v1003 => need (v1003.1.length = v1001.length) (((F_laws_heldBlockS v1003.1 1).bind fun v1005 => (bif (decide (v1005 < (0 : Int))) then some false
 else (bif (decide (v1005 ≠ v1003.2)) then some false
 else ((F_impl_SalvageBlocks v0).bind fun v1006 => ((F_laws_eqBlockS v1006 v1000).bind fun v1007 => (bif (!v1007) then some false
 else ((F_laws_heldBlockS v1003.1 1).bind fun v1008 => (bif (decide (v1008 < (0 : Int))) then some false
 else (bif (decide (v1008 ≠ v1003.2)) then some false
 else some true))))))))))))))))
@[simp] def res_laws_FnExactSalvageBlocks (r : Bool) : RV := .one (.one (.val (.bool r)))
theorem con_laws_FnExactSalvageBlocks {v0 : List UInt8} {r : Bool} (hF : F_laws_FnExactSalvageBlocks v0 = some r) : Con Tryd.prog 8 [.str v0] (res_laws_FnExactSalvageBlocks r) := by
 unfold F_laws_FnExactSalvageBlocks at hF
 refine con_of c8_is fun N => ?_
 refine ws 0 64 ?_
 refine qp (AB false) rfl ?_
 refine r_nil ?_
 refine w_seq ?_
 refine ws 64 256 ?_
 refine qp (AS v0) rfl (qp (AI (v0.length : Int)) rfl (qp (AB (decide ((1048576 : Int) < (v0.length : Int)))) rfl ?_))
 refine r_nil ?_
 refine cF hF (fun hF => ?_) fun hF => ?_
 ·
  refine ws 256 320 ?_
  refine qp (AB true) rfl ?_
  refine r_nil ?_
  refine w_ret ?_
  refine thenQ_r ?_
  cases hF
  exact eR
 ·
  refine w_skip ?_
  refine thenQ_n ?_
  refine ws 256 448 ?_
  refine qp (AS v0) rfl ?_
  obtain ⟨v1000, e1000, hF⟩ := bind_get hF
  refine qc (.sl 320 0 v1000.length) [(320, .row true 3 (v1000.map eBlock))] false (con_spec_SalvageBlocks e1000) c33_ok (by first | rfl | simp) (by simp [res_spec_SalvageBlocks]) ?_
  refine qp (.sl 320 0 v1000.length) rfl ?_
  refine r_nil ?_
  refine ws 448 640 ?_
  refine qp (AS v0) rfl ?_
  obtain ⟨v1001, e1001, hF⟩ := bind_get hF
  refine qc (.sl 512 0 v1001.length) [(512, .row true 3 (v1001.map eBlock)), (320, .row true 3 (v1000.map eBlock))] false (con_impl_SalvageBlocks e1001) c34_ok (by first | rfl | simp) (by simp [res_impl_SalvageBlocks]) ?_
  refine qp (.sl 512 0 v1001.length) rfl ?_
  refine r_nil ?_
  refine w_seq ?_
  refine ws 640 896 ?_
  refine qp (.sl 512 0 v1001.length) rfl (qp (.sl 320 0 v1000.length) rfl ?_)
  obtain ⟨v1002, e1002, hF⟩ := bind_get hF
  refine qc (AB v1002) [(512, .row true 3 (v1001.map eBlock)), (320, .row true 3 (v1000.map eBlock))] true (con_laws_eqBlockS e1002) c20_ok (by simp [List.take_of_length_le]) rfl ?_
  refine qp (AB (!v1002)) rfl ?_
  refine r_nil ?_
  refine cF hF (fun hF => ?_) fun hF => ?_
  ·
   refine ws 896 960 ?_
   refine qp (AB false) rfl ?_
   refine r_nil ?_
   refine w_ret ?_
   refine thenQ_r ?_
   cases hF
   exact eR
  ·
   refine w_skip ?_
   refine thenQ_n ?_
   refine ws 896 960 ?_
   refine qp (AI 1) rfl ?_
   refine r_nil ?_
   refine ws 960 1216 ?_
   refine qp (.sl 512 0 v1001.length) rfl (qp (AI 1) rfl ?_)
   obtain ⟨v1003, e1003, hF⟩ := bind_get hF
   obtain ⟨g1004, hF⟩ := need_some hF
   refine qm (ls := [512]) [(512, .row true 3 (v1003.1.map eBlock)), (512, .row true 3 (v1001.map eBlock)), (320, .row true 3 (v1000.map eBlock))] (con_laws_markBlockS e1003) c35_ok (by first | rfl | simp [takeM, takeML, takeM1, g1004]) (by decide) (by simp [like2, likeL, like1, g1004]) rfl rfl rfl (by simp [scrO_fo, newO2, newO, scrR, scrA, scrAs]) ?_
   refine qp (AI v1003.2) rfl ?_
   refine r_nil ?_
   refine ws 1216 1280 ?_
   refine qp (AI 1) rfl ?_
   refine r_nil ?_
   refine ws 1280 1536 ?_
   refine qp (.sl 512 0 v1001.length) rfl (qp (AI 1) rfl ?_)
   obtain ⟨v1005, e1005, hF⟩ := bind_get hF
   refine qc (AI v1005) [(512, .row true 3 (v1003.1.map eBlock)), (512, .row true 3 (v1001.map eBlock)), (320, .row true 3 (v1000.map eBlock))] true (con_laws_heldBlockS e1005) c36_ok (by simp [g1004, List.take_of_length_le]) rfl ?_
   refine qp (AI v1005) rfl ?_
   refine r_nil ?_
   refine w_seq ?_
   refine ws 1536 1664 ?_
   refine qp (AI v1005) rfl (qp (AB (decide (v1005 < (0 : Int)))) rfl ?_)
   refine r_nil ?_
   refine cF hF (fun hF => ?_) fun hF => ?_
   ·
    refine ws 1664 1728 ?_
    refine qp (AB false) rfl ?_
    refine r_nil ?_
    refine w_ret ?_
    refine thenQ_r ?_
    cases hF
    exact endQ_r rfl (.inl ⟨_, _, by first | rfl | (simp [List.take_of_length_le]; first | exact ⟨rfl, rfl⟩ | rfl), by simp, by first | rfl | simp [res_laws_FnExactSalvageBlocks, List.take_of_length_le, g1004]⟩)
   ·
    refine w_skip ?_
    refine thenQ_n ?_
    refine w_seq ?_
    refine ws 1664 1856 ?_
    refine qp (AI v1005) rfl (qp (AI v1003.2) rfl (qp (AB (decide (v1005 ≠ v1003.2))) rfl ?_))
    refine r_nil ?_
    refine cF hF (fun hF => ?_) fun hF => ?_
    ·
     refine ws 1856 1920 ?_
     refine qp (AB false) rfl ?_
     refine r_nil ?_
     refine w_ret ?_
     refine thenQ_r ?_
     cases hF
     exact endQ_r rfl (.inl ⟨_, _, by first | rfl | (simp [List.take_of_length_le]; first | exact ⟨rfl, rfl⟩ | rfl), by simp, by first | rfl | simp [res_laws_FnExactSalvageBlocks, List.take_of_length_le, g1004]⟩)
    ·
     refine w_skip ?_
     refine thenQ_n ?_
     refine ws 1856 2048 ?_
     refine qp (AS v0) rfl ?_
     obtain ⟨v1006, e1006, hF⟩ := bind_get hF
     refine qc (.sl 1920 0 v1006.length) [(1920, .row true 3 (v1006.map eBlock)), (512, .row true 3 (v1003.1.map eBlock)), (512, .row true 3 (v1001.map eBlock)), (320, .row true 3 (v1000.map eBlock))] false (con_impl_SalvageBlocks e1006) c34_ok (by first | rfl | simp) (by simp [res_impl_SalvageBlocks]) ?_
     refine qp (.sl 1920 0 v1006.length) rfl ?_
     refine r_nil ?_
     refine w_seq ?_
     refine ws 2048 2304 ?_
     refine qp (.sl 1920 0 v1006.length) rfl (qp (.sl 320 0 v1000.length) rfl ?_)
     obtain ⟨v1007, e1007, hF⟩ := bind_get hF
     refine qc (AB v1007) [(1920, .row true 3 (v1006.map eBlock)), (512, .row true 3 (v1003.1.map eBlock)), (512, .row true 3 (v1001.map eBlock)), (320, .row true 3 (v1000.map eBlock))] true (con_laws_eqBlockS e1007) c20_ok (by simp [g1004, List.take_of_length_le]) rfl ?_
     refine qp (AB (!v1007)) rfl ?_
     refine r_nil ?_
     refine cF hF (fun hF => ?_) fun hF => ?_
     ·
      refine ws 2304 2368 ?_
      refine qp (AB false) rfl ?_
      refine r_nil ?_
      refine w_ret ?_
      refine thenQ_r ?_
      cases hF
      exact endQ_r rfl (.inl ⟨_, _, by first | rfl | (simp [List.take_of_length_le]; first | exact ⟨rfl, rfl⟩ | rfl), by simp, by first | rfl | simp [res_laws_FnExactSalvageBlocks, List.take_of_length_le, g1004]⟩)
     ·
      refine w_skip ?_
      refine thenQ_n ?_
      refine ws 2304 2368 ?_
      refine qp (AI 1) rfl ?_
      refine r_nil ?_
      refine ws 2368 2624 ?_
      refine qp (.sl 512 0 v1001.length) rfl (qp (AI 1) rfl ?_)
      obtain ⟨v1008, e1008, hF⟩ := bind_get hF
      refine qc (AI v1008) [(1920, .row true 3 (v1006.map eBlock)), (512, .row true 3 (v1003.1.map eBlock)), (512, .row true 3 (v1001.map eBlock)), (320, .row true 3 (v1000.map eBlock))] true (con_laws_heldBlockS e1008) c36_ok (by simp [g1004, List.take_of_length_le]) rfl ?_
      refine qp (AI v1008) rfl ?_
      refine r_nil ?_
      refine w_seq ?_
      refine ws 2624 2752 ?_
      refine qp (AI v1008) rfl (qp (AB (decide (v1008 < (0 : Int)))) rfl ?_)
      refine r_nil ?_
      refine cF hF (fun hF => ?_) fun hF => ?_
      ·
       refine ws 2752 2816 ?_
       refine qp (AB false) rfl ?_
       refine r_nil ?_
       refine w_ret ?_
       refine thenQ_r ?_
       cases hF
       exact endQ_r rfl (.inl ⟨_, _, by first | rfl | (simp [List.take_of_length_le]; first | exact ⟨rfl, rfl⟩ | rfl), by simp, by first | rfl | simp [res_laws_FnExactSalvageBlocks, List.take_of_length_le, g1004]⟩)
      ·
       refine w_skip ?_
       refine thenQ_n ?_
       refine w_seq ?_
       refine ws 2752 2944 ?_
       refine qp (AI v1008) rfl (qp (AI v1003.2) rfl (qp (AB (decide (v1008 ≠ v1003.2))) rfl ?_))
       refine r_nil ?_
       refine cF hF (fun hF => ?_) fun hF => ?_
       ·
        refine ws 2944 3008 ?_
        refine qp (AB false) rfl ?_
        refine r_nil ?_
        refine w_ret ?_
        refine thenQ_r ?_
        cases hF
        exact endQ_r rfl (.inl ⟨_, _, by first | rfl | (simp [List.take_of_length_le]; first | exact ⟨rfl, rfl⟩ | rfl), by simp, by first | rfl | simp [res_laws_FnExactSalvageBlocks, List.take_of_length_le, g1004]⟩)
       ·
        refine w_skip ?_
        refine thenQ_n ?_
        refine ws 2944 3008 ?_
        refine qp (AB true) rfl ?_
        refine r_nil ?_
        refine w_ret ?_
        cases hF
        exact endQ_r rfl (.inl ⟨_, _, by first | rfl | (simp [List.take_of_length_le]; first | exact ⟨rfl, rfl⟩ | rfl), by simp, by first | rfl | simp [res_laws_FnExactSalvageBlocks, List.take_of_length_le, g1004]⟩)

end Go.Ab
