/- Walks (printed by auto.py, a program of this session's own). -/
import Derived.Test.YtfldoapdidpgdaaS0
import Derived.Test.YtfldoapdidpgdaaProg
import Derived.KernelRfl
import Derived.Test.YtfldoapdidpgdaaSQ
set_option linter.unusedVariables false
set_option linter.unusedSimpArgs false
set_option maxRecDepth 8000
set_option maxHeartbeats 8000000
namespace Go.Ab
open Go.RowKit Go.Proofs

abbrev TL00Src := (List Int) × Int × Int
abbrev TNote := Int × Int
@[simp] def eNote (p : TNote) : V := .agg [.int .i64 p.1, .int .i64 p.2]
abbrev TBlock := (List UInt8) × (List UInt8) × (List UInt8)
@[simp] def eBlock (p : TBlock) : V := .agg [.str p.1, .str p.2.1, .str p.2.2]
def c4 : MC := (.seq (.reg [rg 4 (.p true (.mv (.c (.bool false))))]) (.seq (.reg [mvt 5 0, rg 6 (.p true (.len (.t 5))), rg 7 (.p true (.bin .gtr (.t 6) (.c (.int .i64 1048576)))), mvt 8 7, ⟨(some 9), (some (8, false)), (.p true (.mv (.t 1)))⟩, ⟨(some 10), (some (8, false)), (.p true (.len (.t 9)))⟩, ⟨(some 11), (some (8, false)), (.p true (.bin .gtr (.t 10) (.c (.int .i64 1048576))))⟩, rg 12 (.p true (.pick (.t 8) (.c (.bool true)) (.t 11))), mvt 4 12]) .ret))
theorem c4_is : compFn Try.prog 4 = some (c4, [(.tmp 4)]) := by kernel_rfl
theorem c4_ok : okFn Try.prog 4 = true := by kernel_rfl

noncomputable def F_laws_r8Long (v0 : List Int) (v1 : List Int) : Option (Bool) :=
 (bif (decide ((1048576 : Int) < (v0.length : Int))) then some true
 else some (decide ((1048576 : Int) < (v1.length : Int))))
@[simp] def res_laws_r8Long (r : Bool) : RV := .one (.one (.val (.bool r)))
theorem con_laws_r8Long {v0 : List Int} {v1 : List Int} {r : Bool} (hF : F_laws_r8Long v0 v1 = some r) : Con Try.prog 4 [.sl 1 (v0.map (V.int .u8)), .sl 1 (v1.map (V.int .u8))] (res_laws_r8Long r) := by
 unfold F_laws_r8Long at hF
 refine con_of c4_is fun N => ?_
 refine ws 0 64 ?_
 refine qp (AB false) rfl ?_
 refine r_nil ?_
 refine ws 64 640 ?_
 refine qp (AL 1 (v0.map (V.int .u8))) rfl (qp (AI (v0.length : Int)) (ev_len_n rfl) (qp (AB (decide ((1048576 : Int) < (v0.length : Int)))) rfl (qp (AB (decide ((1048576 : Int) < (v0.length : Int)))) rfl ?_)))
 refine q_case 8 hF rfl (fun hF => ?_) (fun hF => ?_)
 ·
  refine qn rfl (qn rfl (qn rfl (qp (AB true) rfl (qp (AB true) rfl ?_))))
  refine r_nil ?_
  refine w_ret ?_
  cases hF
  exact eR
 ·
  refine qg (AL 1 (v1.map (V.int .u8))) rfl rfl (qg (AI (v1.length : Int)) rfl (ev_len_n rfl) (qg (AB (decide ((1048576 : Int) < (v1.length : Int)))) rfl rfl (qp (AB (decide ((1048576 : Int) < (v1.length : Int)))) rfl (qp (AB (decide ((1048576 : Int) < (v1.length : Int)))) rfl ?_))))
  refine r_nil ?_
  refine w_ret ?_
  cases hF
  exact eR

theorem c13_ok : okFn Try.prog 13 = true := by kernel_rfl




def c34 : MC := (.seq (.reg [rg 2 (.p true (.mv (.c (.int .i64 0))))]) (.seq (.reg [rg 3 (.p true (.mv (.c (.int .i64 0))))]) (.seq (.seq (.reg [rg 4 (.p false (.mv (.t 0))), rg 5 (.p false (.nck (.t 4))), rg 6 (.p false (.fad (.t 5) 1)), rg 7 (.p false (.ld (.t 6) 1 false)), rg 8 (.p false (.mv (.t 0))), rg 9 (.p false (.nck (.t 8))), rg 10 (.p false (.fad (.t 9) 0)), rg 11 (.p false (.ld (.t 10) 1 false)), rg 12 (.p false (.len (.t 11))), rg 13 (.p false (.bin .lss (.t 7) (.t 12)))]) (.cond (.t 13) (.reg [rg 14 (.p false (.mv (.t 0))), rg 15 (.p false (.nck (.t 14))), rg 16 (.p false (.fad (.t 15) 0)), rg 17 (.p false (.ld (.t 16) 1 false)), rg 18 (.p false (.mv (.t 0))), rg 19 (.p false (.nck (.t 18))), rg 20 (.p false (.fad (.t 19) 1)), rg 21 (.p false (.ld (.t 20) 1 false)), rg 22 (.p false (.iad (.t 17) (.t 21) 1)), rg 23 (.p false (.ld (.t 22) 1 false)), rg 24 (.p false (.conv .i64 (.t 23))), rg 3 (.p false (.mv (.t 24)))]) .skip)) (.seq (.reg [mvt 25 0, rg 26 (.p true (.nck (.t 25))), rg 27 (.p true (.fad (.t 26) 1)), rg 28 (.p true (.ld (.t 27) 1 false)), rg 29 (.p true (.bin .add (.t 28) (.c (.int .i64 1)))), rg 30 (.p true (.nck (.t 25))), rg 31 (.p true (.fad (.t 30) 1)), ⟨none, none, (.f (.st (.t 31) (.t 29) 1))⟩]) (.seq (.reg [mvt 32 0, mvt 33 0, rg 34 (.p true (.nck (.t 33))), rg 35 (.p true (.fad (.t 34) 2)), rg 36 (.p true (.ld (.t 35) 1 false)), rg 37 (.p true (.bin .mul (.t 36) (.c (.int .u64 6364136223846793005)))), mvt 38 3, rg 39 (.p true (.conv .u64 (.t 38))), rg 40 (.p true (.bin .add (.t 37) (.t 39))), rg 41 (.p true (.bin .add (.t 40) (.c (.int .u64 1442695040888963407)))), rg 42 (.p true (.nck (.t 32))), rg 43 (.p true (.fad (.t 42) 2)), ⟨none, none, (.f (.st (.t 43) (.t 41) 1))⟩]) (.seq (.seq (.reg [rg 44 (.p false (.mv (.t 0))), rg 45 (.p false (.nck (.t 44))), rg 46 (.p false (.fad (.t 45) 1)), rg 47 (.p false (.ld (.t 46) 1 false)), rg 48 (.p false (.mv (.t 0))), rg 49 (.p false (.nck (.t 48))), rg 50 (.p false (.fad (.t 49) 0)), rg 51 (.p false (.ld (.t 50) 1 false)), rg 52 (.p false (.len (.t 51))), rg 53 (.p false (.bin .leq (.t 47) (.t 52)))]) (.cond (.t 53) (.seq (.reg [mvt 54 3, mvt 2 54]) .ret) .skip)) (.seq (.reg [mvt 55 0, rg 56 (.p true (.nck (.t 55))), rg 57 (.p true (.fad (.t 56) 2)), rg 58 (.p true (.ld (.t 57) 1 false)), rg 59 (.p true (.bin .shr (.t 58) (.c (.int .u64 40)))), rg 60 (.p true (.bin .and (.t 59) (.c (.int .u64 255)))), rg 61 (.p true (.conv .i64 (.t 60))), mvt 2 61]) .ret)))))))
theorem c34_is : compFnM Try.prog 34 = some (c34, [(.tmp 2)]) := by kernel_rfl
theorem c34_ok : okFn Try.prog 34 = true := by kernel_rfl

noncomputable def F_spec_l00Src_next_j0 (v0 : TL00Src) (v50000 : Int) : Option (TL00Src × Int) :=
 (bif (decide (w64 (v0.2.1 + 1) ≤ (v0.1.length : Int))) then some ((v0.1, w64 (v0.2.1 + 1), IntKind.wrap .u64 ((IntKind.wrap .u64 ((IntKind.wrap .u64 (v0.2.2 * 6364136223846793005)) + (IntKind.wrap .u64 (v50000)))) + 1442695040888963407)), v50000)
 else (need (0 ≤ (40 : Int)) (some ((v0.1, w64 (v0.2.1 + 1), IntKind.wrap .u64 ((IntKind.wrap .u64 ((IntKind.wrap .u64 (v0.2.2 * 6364136223846793005)) + (IntKind.wrap .u64 (v50000)))) + 1442695040888963407)), w64 (bitAnd .u64 (Int.fdiv (IntKind.wrap .u64 ((IntKind.wrap .u64 ((IntKind.wrap .u64 (v0.2.2 * 6364136223846793005)) + (IntKind.wrap .u64 (v50000)))) + 1442695040888963407)) (2 ^ (min ((40 : Int)).toNat (IntKind.bits .u64)))) 255)))))
noncomputable def F_spec_l00Src_next (v0 : TL00Src) : Option (TL00Src × Int) :=
 (bif (decide (v0.2.1 < (v0.1.length : Int))) then ((ix v0.1 v0.2.1).bind fun v1000 => F_spec_l00Src_next_j0 v0 (w64 (v1000)))
 else F_spec_l00Src_next_j0 v0 0)
@[simp] def res_spec_l00Src_next (r : TL00Src × Int) : RV := .one (.one (.val (.int .i64 r.2)))
theorem con_spec_l00Src_next {v0 : TL00Src} {r : TL00Src × Int} (hF : F_spec_l00Src_next v0 = some r) : ConP Try.prog 34 [.sl 1 (v0.1.map (V.int .u8)), .int .i64 v0.2.1, .int .u64 v0.2.2] [.sl 1 (r.1.1.map (V.int .u8)), .int .i64 r.1.2.1, .int .u64 r.1.2.2] [] (res_spec_l00Src_next r) := by
 unfold F_spec_l00Src_next at hF
 refine conP_of (L := [(0, .box [.val none (.sl 1 (v0.1.map (V.int .u8))), AI v0.2.1, .val none (.int .u64 v0.2.2)])]) c34_is rfl fun N => ?_
 refine ws 64 128 ?_
 refine qp (AI 0) rfl ?_
 refine r_nil ?_
 refine ws 128 192 ?_
 refine qp (AI 0) rfl ?_
 refine r_nil ?_
 refine w_meet (fun s' => ∃ (v50000 : Int), s' = mkS [(0, .ptr 0 0 0), (3, AI v50000)] (fo [(0, .box [.val none (.sl 1 (v0.1.map (V.int .u8))), AI v0.2.1, .val none (.int .u64 v0.2.2)])]) 1 ∧ F_spec_l00Src_next_j0 v0 v50000 = some r) ?_ ?_
 ·
  refine ws 192 832 ?_
  refine qp (.ptr 0 0 0) rfl (qp (.ptr 0 0 0) rfl (qp (.ptr 0 0 1) rfl (qp (AI v0.2.1) rfl (qp (.ptr 0 0 0) rfl (qp (.ptr 0 0 0) rfl (qp (.ptr 0 0 0) rfl (qp (AL 1 (v0.1.map (V.int .u8))) rfl ?_)))))))
  refine qp (AI (v0.1.length : Int)) (ev_len_n rfl) (qp (AB (decide (v0.2.1 < (v0.1.length : Int)))) rfl ?_)
  refine r_nil ?_
  refine cF hF (fun hF => ?_) fun hF => ?_
  ·
   refine w_reg 832 1600 rfl rfl ?_
   refine qp (.ptr 0 0 0) rfl (qp (.ptr 0 0 0) rfl (qp (.ptr 0 0 0) rfl (qp (AL 1 (v0.1.map (V.int .u8))) rfl (qp (.ptr 0 0 0) rfl (qp (.ptr 0 0 0) rfl (qp (.ptr 0 0 1) rfl (qp (AI v0.2.1) rfl ?_)))))))
   obtain ⟨v1000, e1000, hF⟩ := bind_get hF
   refine qp (.val none (.ptr [.int .u8 v1000])) (ev_iad_n rfl rfl e1000 rfl) (qp (.val none (.int .u8 v1000)) rfl (qp (AI (w64 (v1000))) rfl (qp (AI (w64 (v1000))) rfl ?_)))
   refine r_nil ?_
   refine thenQ_n ?_
   refine ar (l' := [(0, .ptr 0 0 0), (3, AI (w64 (v1000)))]) (L := [(0, .box [.val none (.sl 1 (v0.1.map (V.int .u8))), AI v0.2.1, .val none (.int .u64 v0.2.2)])]) [0, 3] [(0, 0)] 1 ⟨_, rfl, hF⟩
  ·
   refine w_skip ?_
   refine thenQ_n ?_
   refine ar (l' := [(0, .ptr 0 0 0), (3, AI 0)]) (L := [(0, .box [.val none (.sl 1 (v0.1.map (V.int .u8))), AI v0.2.1, .val none (.int .u64 v0.2.2)])]) [0, 3] [(0, 0)] 1 ⟨_, rfl, hF⟩
 ·
  rintro s' ⟨v50000, rfl, hF⟩
  unfold F_spec_l00Src_next_j0 at hF
  refine ws 1 513 ?_
  refine qp (.ptr 0 0 0) rfl (qp (.ptr 0 0 0) rfl (qp (.ptr 0 0 1) rfl (qp (AI v0.2.1) rfl (qp (AI (w64 (v0.2.1 + 1))) rfl (qp (.ptr 0 0 0) rfl (qp (.ptr 0 0 1) rfl ?_))))))
  refine qf0 (.undef) [(0, .box [.val none (.sl 1 (v0.1.map (V.int .u8))), AI (w64 (v0.2.1 + 1)), .val none (.int .u64 v0.2.2)]), (0, .box [.val none (.sl 1 (v0.1.map (V.int .u8))), AI v0.2.1, .val none (.int .u64 v0.2.2)])] (by simp) ?_
  refine r_nil ?_
  refine ws 513 1345 ?_
  refine qp (.ptr 0 0 0) rfl (qp (.ptr 0 0 0) rfl (qp (.ptr 0 0 0) rfl (qp (.ptr 0 0 2) rfl (qp (.val none (.int .u64 v0.2.2)) rfl (qp (.val none (.int .u64 (IntKind.wrap .u64 (v0.2.2 * 6364136223846793005)))) rfl (qp (AI v50000) rfl (qp (.val none (.int .u64 (IntKind.wrap .u64 (v50000)))) rfl ?_)))))))
  refine qp (.val none (.int .u64 (IntKind.wrap .u64 ((IntKind.wrap .u64 (v0.2.2 * 6364136223846793005)) + (IntKind.wrap .u64 (v50000)))))) rfl (qp (.val none (.int .u64 (IntKind.wrap .u64 ((IntKind.wrap .u64 ((IntKind.wrap .u64 (v0.2.2 * 6364136223846793005)) + (IntKind.wrap .u64 (v50000)))) + 1442695040888963407)))) rfl (qp (.ptr 0 0 0) rfl (qp (.ptr 0 0 2) rfl ?_)))
  refine qf0 (.undef) [(0, .box [.val none (.sl 1 (v0.1.map (V.int .u8))), AI (w64 (v0.2.1 + 1)), .val none (.int .u64 (IntKind.wrap .u64 ((IntKind.wrap .u64 ((IntKind.wrap .u64 (v0.2.2 * 6364136223846793005)) + (IntKind.wrap .u64 (v50000)))) + 1442695040888963407)))]), (0, .box [.val none (.sl 1 (v0.1.map (V.int .u8))), AI (w64 (v0.2.1 + 1)), .val none (.int .u64 v0.2.2)]), (0, .box [.val none (.sl 1 (v0.1.map (V.int .u8))), AI v0.2.1, .val none (.int .u64 v0.2.2)])] (by simp) ?_
  refine r_nil ?_
  refine w_seq ?_
  refine ws 1345 1985 ?_
  refine qp (.ptr 0 0 0) rfl (qp (.ptr 0 0 0) rfl (qp (.ptr 0 0 1) rfl (qp (AI (w64 (v0.2.1 + 1))) rfl (qp (.ptr 0 0 0) rfl (qp (.ptr 0 0 0) rfl (qp (.ptr 0 0 0) rfl (qp (AL 1 (v0.1.map (V.int .u8))) rfl ?_)))))))
  refine qp (AI (v0.1.length : Int)) (ev_len_n rfl) (qp (AB (decide (w64 (v0.2.1 + 1) ≤ (v0.1.length : Int)))) rfl ?_)
  refine r_nil ?_
  refine cF hF (fun hF => ?_) fun hF => ?_
  ·
   refine ws 1985 2113 ?_
   refine qp (AI v50000) rfl (qp (AI v50000) rfl ?_)
   refine r_nil ?_
   refine w_ret ?_
   refine thenQ_r ?_
   cases hF
   exact endP_r rfl (by first | rfl | (simp [List.take_of_length_le]; first | exact ⟨rfl, rfl⟩ | rfl)) (by simp) (by first | rfl | simp) (by first | rfl | simp [res_spec_l00Src_next, List.take_of_length_le]) rfl (by first | rfl | simp)
  ·
   refine w_skip ?_
   refine thenQ_n ?_
   refine ws 1985 2497 ?_
   refine qp (.ptr 0 0 0) rfl (qp (.ptr 0 0 0) rfl (qp (.ptr 0 0 2) rfl (qp (.val none (.int .u64 (IntKind.wrap .u64 ((IntKind.wrap .u64 ((IntKind.wrap .u64 (v0.2.2 * 6364136223846793005)) + (IntKind.wrap .u64 (v50000)))) + 1442695040888963407)))) rfl ?_)))
   obtain ⟨g1001, hF⟩ := need_some hF
   refine qp (.val none (.int .u64 (Int.fdiv (IntKind.wrap .u64 ((IntKind.wrap .u64 ((IntKind.wrap .u64 (v0.2.2 * 6364136223846793005)) + (IntKind.wrap .u64 (v50000)))) + 1442695040888963407)) (2 ^ (min ((40 : Int)).toNat (IntKind.bits .u64)))))) (ev_shr rfl rfl g1001) (qp (.val none (.int .u64 (bitAnd .u64 (Int.fdiv (IntKind.wrap .u64 ((IntKind.wrap .u64 ((IntKind.wrap .u64 (v0.2.2 * 6364136223846793005)) + (IntKind.wrap .u64 (v50000)))) + 1442695040888963407)) (2 ^ (min ((40 : Int)).toNat (IntKind.bits .u64)))) 255))) rfl (qp (AI (w64 (bitAnd .u64 (Int.fdiv (IntKind.wrap .u64 ((IntKind.wrap .u64 ((IntKind.wrap .u64 (v0.2.2 * 6364136223846793005)) + (IntKind.wrap .u64 (v50000)))) + 1442695040888963407)) (2 ^ (min ((40 : Int)).toNat (IntKind.bits .u64)))) 255))) rfl (qp (AI (w64 (bitAnd .u64 (Int.fdiv (IntKind.wrap .u64 ((IntKind.wrap .u64 ((IntKind.wrap .u64 (v0.2.2 * 6364136223846793005)) + (IntKind.wrap .u64 (v50000)))) + 1442695040888963407)) (2 ^ (min ((40 : Int)).toNat (IntKind.bits .u64)))) 255))) rfl ?_)))
   refine r_nil ?_
   refine w_ret ?_
   cases hF
   exact endP_r rfl (by first | rfl | (simp [List.take_of_length_le]; first | exact ⟨rfl, rfl⟩ | rfl)) (by simp) (by first | rfl | simp) (by first | rfl | simp [res_spec_l00Src_next, List.take_of_length_le]) rfl (by first | rfl | simp)

def c24 : MC := (.seq (.reg [rg 4 (.p true (.mv (.c (.int .i64 0))))]) (.seq (.seq (.reg [mvt 6 1, rg 7 (.p true (.bin .leq (.t 6) (.c (.int .i64 1))))]) (.cond (.t 7) (.seq (.reg [rg 4 (.p true (.mv (.c (.int .i64 0))))]) .ret) .skip)) (.seq (.reg [mvt 8 0, rg 9 (.call true 34 [(.t 8)]), mvt 5 9]) (.seq (.seq (.reg [mvt 10 1, rg 11 (.p true (.bin .gtr (.t 10) (.c (.int .i64 200))))]) (.cond (.t 11) (.reg [mvt 12 5, rg 13 (.p true (.bin .mul (.t 12) (.c (.int .i64 256)))), mvt 14 0, rg 15 (.call true 34 [(.t 14)]), rg 16 (.p true (.bin .add (.t 13) (.t 15))), mvt 5 16]) .skip)) (.seq (.reg [mvt 17 5, mvt 18 1, rg 19 (.p true (.bin .rem (.t 17) (.t 18))), mvt 4 19]) .ret)))))
theorem c24_is : compFnM Try.prog 24 = some (c24, [(.tmp 4)]) := by kernel_rfl
theorem c24_ok : okFn Try.prog 24 = true := by kernel_rfl

noncomputable def F_spec_l00Src_pick_j0 (v1 : Int) (v50004 : Int) (v50005 : List Int) (v50006 : Int) (v50007 : Int) : Option (TL00Src × Int) :=
 (need (v1 ≠ 0) (some ((v50005, v50006, v50007), Int.tmod v50004 v1)))
noncomputable def F_spec_l00Src_pick (v0 : TL00Src) (v1 : Int) : Option (TL00Src × Int) :=
 (bif (decide (v1 ≤ (1 : Int))) then some (v0, 0)
 else ((F_spec_l00Src_next v0).bind fun v1000 => (bif (decide ((200 : Int) < v1)) then ((F_spec_l00Src_next v1000.1).bind fun v1002 => F_spec_l00Src_pick_j0 v1 (w64 ((w64 (v1000.2 * 256)) + v1002.2)) v1002.1.1 v1002.1.2.1 v1002.1.2.2)
 else F_spec_l00Src_pick_j0 v1 v1000.2 v1000.1.1 v1000.1.2.1 v1000.1.2.2)))
@[simp] def res_spec_l00Src_pick (r : TL00Src × Int) : RV := .one (.one (.val (.int .i64 r.2)))
theorem con_spec_l00Src_pick {v0 : TL00Src} {v1 : Int} {r : TL00Src × Int} (hF : F_spec_l00Src_pick v0 v1 = some r) : ConP Try.prog 24 [.sl 1 (v0.1.map (V.int .u8)), .int .i64 v0.2.1, .int .u64 v0.2.2] [.sl 1 (r.1.1.map (V.int .u8)), .int .i64 r.1.2.1, .int .u64 r.1.2.2] [.int .i64 v1] (res_spec_l00Src_pick r) := by
 unfold F_spec_l00Src_pick at hF
 refine conP_of (L := [(0, .box [.val none (.sl 1 (v0.1.map (V.int .u8))), AI v0.2.1, .val none (.int .u64 v0.2.2)])]) c24_is rfl fun N => ?_
 refine ws 64 128 ?_
 refine qp (AI 0) rfl ?_
 refine r_nil ?_
 refine w_seq ?_
 refine ws 128 256 ?_
 refine qp (AI v1) rfl (qp (AB (decide (v1 ≤ (1 : Int)))) rfl ?_)
 refine r_nil ?_
 refine cF hF (fun hF => ?_) fun hF => ?_
 ·
  refine ws 256 320 ?_
  refine qp (AI 0) rfl ?_
  refine r_nil ?_
  refine w_ret ?_
  refine thenQ_r ?_
  cases hF
  exact endP_r rfl (by first | rfl | (simp [List.take_of_length_le]; first | exact ⟨rfl, rfl⟩ | rfl)) (by simp) (by first | rfl | simp) (by first | rfl | simp [res_spec_l00Src_pick, List.take_of_length_le]) rfl (by first | rfl | simp)
 ·
  refine w_skip ?_
  refine thenQ_n ?_
  refine ws 256 448 ?_
  refine qp (.ptr 0 0 0) rfl ?_
  obtain ⟨v1000, e1000, hF⟩ := bind_get hF
  refine qP [] (AI v1000.2) [(0, .box [.val none (.sl 1 (v1000.1.1.map (V.int .u8))), AI v1000.1.2.1, .val none (.int .u64 v1000.1.2.2)]), (0, .box [.val none (.sl 1 (v0.1.map (V.int .u8))), AI v0.2.1, .val none (.int .u64 v0.2.2)])] rfl rfl rfl (by decide) (con_spec_l00Src_next e1000) c34_ok (by first | rfl | simp) killO_nil rfl rfl ?_
  refine qp (AI v1000.2) rfl ?_
  refine r_nil ?_
  refine w_meet (fun s' => ∃ (v50004 : Int) (v50005 : List Int) (v50006 : Int) (v50007 : Int), s' = mkS [(0, .ptr 0 0 0), (1, AI v1), (5, AI v50004)] (fo [(0, .box [.val none (.sl 1 (v50005.map (V.int .u8))), AI v50006, .val none (.int .u64 v50007)])]) 1 ∧ F_spec_l00Src_pick_j0 v1 v50004 v50005 v50006 v50007 = some r) ?_ ?_
  ·
   refine ws 448 576 ?_
   refine qp (AI v1) rfl (qp (AB (decide ((200 : Int) < v1))) rfl ?_)
   refine r_nil ?_
   refine cF hF (fun hF => ?_) fun hF => ?_
   ·
    refine w_reg 576 960 rfl rfl ?_
    refine qp (AI v1000.2) rfl (qp (AI (w64 (v1000.2 * 256))) rfl (qp (.ptr 0 0 0) rfl ?_))
    obtain ⟨v1002, e1002, hF⟩ := bind_get hF
    refine qP [] (AI v1002.2) [(0, .box [.val none (.sl 1 (v1002.1.1.map (V.int .u8))), AI v1002.1.2.1, .val none (.int .u64 v1002.1.2.2)]), (0, .box [.val none (.sl 1 (v1000.1.1.map (V.int .u8))), AI v1000.1.2.1, .val none (.int .u64 v1000.1.2.2)]), (0, .box [.val none (.sl 1 (v0.1.map (V.int .u8))), AI v0.2.1, .val none (.int .u64 v0.2.2)])] rfl rfl rfl (by decide) (con_spec_l00Src_next e1002) c34_ok (by first | rfl | simp) killO_nil rfl rfl ?_
    refine qp (AI (w64 ((w64 (v1000.2 * 256)) + v1002.2))) rfl (qp (AI (w64 ((w64 (v1000.2 * 256)) + v1002.2))) rfl ?_)
    refine r_nil ?_
    refine thenQ_n ?_
    refine ar (l' := [(0, .ptr 0 0 0), (1, AI v1), (5, AI (w64 ((w64 (v1000.2 * 256)) + v1002.2)))]) (L := [(0, .box [.val none (.sl 1 (v1002.1.1.map (V.int .u8))), AI v1002.1.2.1, .val none (.int .u64 v1002.1.2.2)])]) [0, 1, 5] [(0, 0)] 1 ⟨_, _, _, _, rfl, hF⟩
   ·
    refine w_skip ?_
    refine thenQ_n ?_
    refine ar (l' := [(0, .ptr 0 0 0), (1, AI v1), (5, AI v1000.2)]) (L := [(0, .box [.val none (.sl 1 (v1000.1.1.map (V.int .u8))), AI v1000.1.2.1, .val none (.int .u64 v1000.1.2.2)])]) [0, 1, 5] [(0, 0)] 1 ⟨_, _, _, _, rfl, hF⟩
  ·
   rintro s' ⟨v50004, v50005, v50006, v50007, rfl, hF⟩
   unfold F_spec_l00Src_pick_j0 at hF
   refine ws 1 257 ?_
   refine qp (AI v50004) rfl (qp (AI v1) rfl ?_)
   obtain ⟨g1003, hF⟩ := need_some hF
   refine qp (AI (Int.tmod v50004 v1)) (ev_rem rfl rfl g1003) (qp (AI (Int.tmod v50004 v1)) rfl ?_)
   refine r_nil ?_
   refine w_ret ?_
   cases hF
   exact endP_r rfl (by first | rfl | (simp [List.take_of_length_le]; first | exact ⟨rfl, rfl⟩ | rfl)) (by simp) (by first | rfl | simp) (by first | rfl | simp [res_spec_l00Src_pick, List.take_of_length_le]) rfl (by first | rfl | simp)

def c36 : MC := (.seq (.reg [rg 4 (.p true (.mv (.c (.str []))))]) (.seq (.reg [mvt 5 1, mvt 6 0, mvt 7 1, rg 8 (.p true (.len (.t 7))), rg 9 (.call true 24 [(.t 6), (.t 8)]), rg 10 (.p true (.iad (.t 5) (.t 9) 1)), rg 11 (.p true (.ld (.t 10) 1 false)), mvt 4 11]) .ret))
theorem c36_is : compFnM Try.prog 36 = some (c36, [(.tmp 4)]) := by kernel_rfl
theorem c36_ok : okFn Try.prog 36 = true := by kernel_rfl

noncomputable def F_spec_l00Src_text (v0 : TL00Src) (v1 : List (List UInt8)) : Option (TL00Src × (List UInt8)) :=
 ((F_spec_l00Src_pick v0 (v1.length : Int)).bind fun v1000 => ((ix v1 v1000.2).bind fun v1001 => some (v1000.1, v1001)))
@[simp] def res_spec_l00Src_text (r : TL00Src × (List UInt8)) : RV := .one (.one (.val (.str r.2)))
theorem con_spec_l00Src_text {v0 : TL00Src} {v1 : List (List UInt8)} {r : TL00Src × (List UInt8)} (hF : F_spec_l00Src_text v0 v1 = some r) : ConP Try.prog 36 [.sl 1 (v0.1.map (V.int .u8)), .int .i64 v0.2.1, .int .u64 v0.2.2] [.sl 1 (r.1.1.map (V.int .u8)), .int .i64 r.1.2.1, .int .u64 r.1.2.2] [.sl 1 (v1.map V.str)] (res_spec_l00Src_text r) := by
 unfold F_spec_l00Src_text at hF
 refine conP_of (L := [(0, .box [.val none (.sl 1 (v0.1.map (V.int .u8))), AI v0.2.1, .val none (.int .u64 v0.2.2)])]) c36_is rfl fun N => ?_
 refine ws 64 128 ?_
 refine qp (AS []) rfl ?_
 refine r_nil ?_
 refine ws 128 640 ?_
 refine qp (AL 1 (v1.map V.str)) rfl (qp (.ptr 0 0 0) rfl (qp (AL 1 (v1.map V.str)) rfl (qp (AI (v1.length : Int)) (ev_len_n rfl) ?_)))
 obtain ⟨v1000, e1000, hF⟩ := bind_get hF
 refine qP [] (AI v1000.2) [(0, .box [.val none (.sl 1 (v1000.1.1.map (V.int .u8))), AI v1000.1.2.1, .val none (.int .u64 v1000.1.2.2)]), (0, .box [.val none (.sl 1 (v0.1.map (V.int .u8))), AI v0.2.1, .val none (.int .u64 v0.2.2)])] rfl rfl rfl (by decide) (con_spec_l00Src_pick e1000) c24_ok (by first | rfl | simp) killO_nil rfl rfl ?_
 obtain ⟨v1001, e1001, hF⟩ := bind_get hF
 refine qp (.val none (.ptr [.str v1001])) (ev_iad_n rfl rfl e1001 rfl) (qp (AS v1001) rfl (qp (AS v1001) rfl ?_))
 refine r_nil ?_
 refine w_ret ?_
 cases hF
 exact endP_r rfl (by first | rfl | (simp [List.take_of_length_le]; first | exact ⟨rfl, rfl⟩ | rfl)) (by simp) (by first | rfl | simp) (by first | rfl | simp [res_spec_l00Src_text, List.take_of_length_le]) rfl (by first | rfl | simp)

def c37 : MC := (.seq (.reg [rg 4 (.p true (.mv (.c (.bool false))))]) (.seq (.reg [mvt 5 0, mvt 6 1, rg 7 (.call true 24 [(.t 5), (.t 6)]), rg 8 (.p true (.bin .eql (.t 7) (.c (.int .i64 0)))), mvt 4 8]) .ret))
theorem c37_is : compFnM Try.prog 37 = some (c37, [(.tmp 4)]) := by kernel_rfl
theorem c37_ok : okFn Try.prog 37 = true := by kernel_rfl

noncomputable def F_spec_l00Src_one (v0 : TL00Src) (v1 : Int) : Option (TL00Src × Bool) :=
 ((F_spec_l00Src_pick v0 v1).bind fun v1000 => some (v1000.1, (decide (v1000.2 = (0 : Int)))))
@[simp] def res_spec_l00Src_one (r : TL00Src × Bool) : RV := .one (.one (.val (.bool r.2)))
theorem con_spec_l00Src_one {v0 : TL00Src} {v1 : Int} {r : TL00Src × Bool} (hF : F_spec_l00Src_one v0 v1 = some r) : ConP Try.prog 37 [.sl 1 (v0.1.map (V.int .u8)), .int .i64 v0.2.1, .int .u64 v0.2.2] [.sl 1 (r.1.1.map (V.int .u8)), .int .i64 r.1.2.1, .int .u64 r.1.2.2] [.int .i64 v1] (res_spec_l00Src_one r) := by
 unfold F_spec_l00Src_one at hF
 refine conP_of (L := [(0, .box [.val none (.sl 1 (v0.1.map (V.int .u8))), AI v0.2.1, .val none (.int .u64 v0.2.2)])]) c37_is rfl fun N => ?_
 refine ws 64 128 ?_
 refine qp (AB false) rfl ?_
 refine r_nil ?_
 refine ws 128 448 ?_
 refine qp (.ptr 0 0 0) rfl (qp (AI v1) rfl ?_)
 obtain ⟨v1000, e1000, hF⟩ := bind_get hF
 refine qP [] (AI v1000.2) [(0, .box [.val none (.sl 1 (v1000.1.1.map (V.int .u8))), AI v1000.1.2.1, .val none (.int .u64 v1000.1.2.2)]), (0, .box [.val none (.sl 1 (v0.1.map (V.int .u8))), AI v0.2.1, .val none (.int .u64 v0.2.2)])] rfl rfl rfl (by decide) (con_spec_l00Src_pick e1000) c24_ok (by first | rfl | simp) killO_nil rfl rfl ?_
 refine qp (AB (decide (v1000.2 = (0 : Int)))) rfl (qp (AB (decide (v1000.2 = (0 : Int)))) rfl ?_)
 refine r_nil ?_
 refine w_ret ?_
 cases hF
 exact endP_r rfl (by first | rfl | (simp [List.take_of_length_le]; first | exact ⟨rfl, rfl⟩ | rfl)) (by simp) (by first | rfl | simp) (by first | rfl | simp [res_spec_l00Src_one, List.take_of_length_le]) rfl (by first | rfl | simp)

def c38 : MC := (.seq (.reg [rg 4 (.p true (.mv (.c (.str []))))]) (.seq (.reg [rg 7 (.f (.bsl 1 [])), mvt 5 7]) (.seq (.seq (.reg [mvt 8 0, mvt 9 1, rg 10 (.call true 24 [(.t 8), (.t 9)]), mvt 6 10]) (.block 0 (.loop (.seq (.seq (.reg [mvt 11 6, rg 12 (.p true (.bin .gtr (.t 11) (.c (.int .i64 0))))]) (.cond (.t 12) .skip (.exit 0))) (.seq (.block 1 (.reg [mvt 15 5, mvt 16 0, rg 17 (.call true 34 [(.t 16)]), rg 18 (.p true (.conv .u8 (.t 17))), rg 19 (.f (.bsl 1 [(.t 18)])), rg 20 (.f (.app (.t 15) (.t 19) 1 1 true)), mvt 5 20])) (.reg [mvt 13 6, rg 14 (.p true (.bin .sub (.t 13) (.c (.int .i64 1)))), mvt 6 14])))))) (.seq (.reg [mvt 21 5, rg 22 (.p true (.bts (.t 21))), mvt 4 22]) .ret))))
theorem c38_is : compFnM Try.prog 38 = some (c38, [(.tmp 4)]) := by kernel_rfl
theorem c38_ok : okFn Try.prog 38 = true := by kernel_rfl

noncomputable def F_spec_l00Src_word_l0 (k1 : Int × (List Int) × Int × Int × (List Int) → Option (TL00Src × (List UInt8))) : Int × (List Int) × Int × Int × (List Int) → Option (TL00Src × (List UInt8))
 | (v50015, v50016, v50017, v50018, v50019) => (bif (decide ((0 : Int) < v50015)) then ((F_spec_l00Src_next (v50016, v50017, v50018)).bind fun v1005 => (need (room (v50019.length + [IntKind.wrap .u8 (v1005.2)].length) 1) (k1 (w64 (v50015 - 1), v1005.1.1, v1005.1.2.1, v1005.1.2.2, v50019 ++ [IntKind.wrap .u8 (v1005.2)]))))
 else some ((v50016, v50017, v50018), bytesI v50019))
noncomputable def F_spec_l00Src_word (v0 : TL00Src) (v1 : Int) : Option (TL00Src × (List UInt8)) :=
 ((F_spec_l00Src_pick v0 v1).bind fun v1000 => loop (F_spec_l00Src_word_l0) (v1000.2, v1000.1.1, v1000.1.2.1, v1000.1.2.2, []))
@[simp] def res_spec_l00Src_word (r : TL00Src × (List UInt8)) : RV := .one (.one (.val (.str r.2)))
theorem con_spec_l00Src_word {v0 : TL00Src} {v1 : Int} {r : TL00Src × (List UInt8)} (hF : F_spec_l00Src_word v0 v1 = some r) : ConP Try.prog 38 [.sl 1 (v0.1.map (V.int .u8)), .int .i64 v0.2.1, .int .u64 v0.2.2] [.sl 1 (r.1.1.map (V.int .u8)), .int .i64 r.1.2.1, .int .u64 r.1.2.2] [.int .i64 v1] (res_spec_l00Src_word r) := by
 unfold F_spec_l00Src_word at hF
 refine conP_of (L := [(0, .box [.val none (.sl 1 (v0.1.map (V.int .u8))), AI v0.2.1, .val none (.int .u64 v0.2.2)])]) c38_is rfl fun N => ?_
 refine ws 64 128 ?_
 refine qp (AS []) rfl ?_
 refine r_nil ?_
 refine ws 128 256 ?_
 refine qf (.sl 128 0 0) [(128, .row true 1 (([] : List Int).map (V.int .u8))), (0, .box [.val none (.sl 1 (v0.1.map (V.int .u8))), AI v0.2.1, .val none (.int .u64 v0.2.2)])] (by simp [List.take_of_length_le]) ?_
 refine qp (.sl 128 0 0) rfl ?_
 refine r_nil ?_
 refine w_seq ?_
 refine ws 256 512 ?_
 refine qp (.ptr 0 0 0) rfl (qp (AI v1) rfl ?_)
 obtain ⟨v1000, e1000, hF⟩ := bind_get hF
 refine qP [] (AI v1000.2) [(0, .box [.val none (.sl 1 (v1000.1.1.map (V.int .u8))), AI v1000.1.2.1, .val none (.int .u64 v1000.1.2.2)]), (128, .row true 1 (([] : List Int).map (V.int .u8))), (0, .box [.val none (.sl 1 (v0.1.map (V.int .u8))), AI v0.2.1, .val none (.int .u64 v0.2.2)])] rfl rfl rfl (by decide) (con_spec_l00Src_pick e1000) c24_ok (by first | rfl | simp) killO_nil rfl rfl ?_
 refine qp (AI v1000.2) rfl ?_
 refine r_nil ?_
 refine w_block ?_
 refine wr (l' := [(0, .ptr 0 0 0), (5, .sl 1 0 0), (6, AI v1000.2)]) (L := [(1, .row true 1 (([] : List Int).map (V.int .u8))), (0, .box [.val none (.sl 1 (v1000.1.1.map (V.int .u8))), AI v1000.1.2.1, .val none (.int .u64 v1000.1.2.2)])]) [0, 5, 6] [(128, 1), (0, 0)] 2 ?_
 refine w_loopF (F_spec_l00Src_word_l0) (fun s : Int × (List Int) × Int × Int × (List Int) => mkS [(0, .ptr 0 0 0), (5, .sl 1 0 s.2.2.2.2.length), (6, AI s.1)] (fo [(1, .row true 1 (s.2.2.2.2.map (V.int .u8))), (0, .box [.val none (.sl 1 (s.2.1.map (V.int .u8))), AI s.2.2.1, .val none (.int .u64 s.2.2.2.1)])]) 2) hF ?_
 rintro k1 ⟨v50015, v50016, v50017, v50018, v50019⟩ hF
 rw [F_spec_l00Src_word_l0] at hF
 try dsimp only
 refine w_seq ?_
 refine ws 2 130 ?_
 refine qp (AI v50015) rfl (qp (AB (decide ((0 : Int) < v50015))) rfl ?_)
 refine r_nil ?_
 refine cF hF (fun hF => ?_) fun hF => ?_
 ·
  refine w_skip ?_
  refine thenQ_n ?_
  refine w_seq ?_
  refine w_block ?_
  refine w_reg 130 578 rfl rfl ?_
  refine qp (.sl 1 0 v50019.length) rfl (qp (.ptr 0 0 0) rfl ?_)
  obtain ⟨v1005, e1005, hF⟩ := bind_get hF
  refine qP [] (AI v1005.2) [(0, .box [.val none (.sl 1 (v1005.1.1.map (V.int .u8))), AI v1005.1.2.1, .val none (.int .u64 v1005.1.2.2)]), (1, .row true 1 (v50019.map (V.int .u8))), (0, .box [.val none (.sl 1 (v50016.map (V.int .u8))), AI v50017, .val none (.int .u64 v50018)])] rfl rfl rfl (by decide) (con_spec_l00Src_next e1005) c34_ok (by first | rfl | simp) killO_nil rfl rfl ?_
  refine qp (.val none (.int .u8 (IntKind.wrap .u8 (v1005.2)))) rfl ?_
  refine qf (.sl 386 0 ([IntKind.wrap .u8 (v1005.2)].length)) [(386, .row true 1 ([IntKind.wrap .u8 (v1005.2)].map (V.int .u8))), (0, .box [.val none (.sl 1 (v1005.1.1.map (V.int .u8))), AI v1005.1.2.1, .val none (.int .u64 v1005.1.2.2)]), (1, .row true 1 (v50019.map (V.int .u8))), (0, .box [.val none (.sl 1 (v50016.map (V.int .u8))), AI v50017, .val none (.int .u64 v50018)])] (by simp [List.take_of_length_le]) ?_
  obtain ⟨g1006, hF⟩ := need_some hF
  refine qf (.sl 450 0 ((v50019 ++ [IntKind.wrap .u8 (v1005.2)]).length)) [(450, .row true 1 ((v50019 ++ [IntKind.wrap .u8 (v1005.2)]).map (V.int .u8))), (1, .dead), (386, .dead), (386, .row true 1 ([IntKind.wrap .u8 (v1005.2)].map (V.int .u8))), (0, .box [.val none (.sl 1 (v1005.1.1.map (V.int .u8))), AI v1005.1.2.1, .val none (.int .u64 v1005.1.2.2)]), (1, .row true 1 (v50019.map (V.int .u8))), (0, .box [.val none (.sl 1 (v50016.map (V.int .u8))), AI v50017, .val none (.int .u64 v50018)])] (effT_app_l rfl (by simp) rfl rfl (by simp) rfl (by decide) g1006 rfl) ?_
  refine qp (.sl 450 0 ((v50019 ++ [IntKind.wrap .u8 (v1005.2)]).length)) rfl ?_
  refine r_nil ?_
  refine blockQ_n ?_
  refine thenQ_n ?_
  refine w_reg 578 770 rfl rfl ?_
  refine qp (AI v50015) rfl (qp (AI (w64 (v50015 - 1))) rfl (qp (AI (w64 (v50015 - 1))) rfl ?_))
  refine r_nil ?_
  refine thenQ_n ?_
  refine ar (l' := [(0, .ptr 0 0 0), (5, .sl 1 0 (v50019 ++ [IntKind.wrap .u8 (v1005.2)]).length), (6, AI (w64 (v50015 - 1)))]) (L := [(1, .row true 1 ((v50019 ++ [IntKind.wrap .u8 (v1005.2)]).map (V.int .u8))), (0, .box [.val none (.sl 1 (v1005.1.1.map (V.int .u8))), AI v1005.1.2.1, .val none (.int .u64 v1005.1.2.2)])]) [0, 5, 6] [(450, 1), (0, 0)] 2 ⟨_, by rfl, hF⟩
 ·
  refine w_exit ?_
  refine thenQ_e ?_
  refine thenQ_e ?_
  refine blockQ_e ?_
  refine thenQ_n ?_
  refine ws 130 322 ?_
  refine qp (.sl 1 0 v50019.length) rfl (qp (AS (bytesI v50019)) (ev_bts_r rfl (by simp) rfl) (qp (AS (bytesI v50019)) rfl ?_))
  refine r_nil ?_
  refine w_ret ?_
  cases hF
  exact endP_r rfl (by first | rfl | (simp [List.take_of_length_le]; first | exact ⟨rfl, rfl⟩ | rfl)) (by simp) (by first | rfl | simp) (by first | rfl | simp [res_spec_l00Src_word, List.take_of_length_le]) rfl (by first | rfl | simp)

def c50 : MC := (.seq (.reg [rg 4 (.p true (.mv (.c (.int .i64 0))))]) (.seq (.seq (.reg [mvt 5 0, mvt 6 1, rg 7 (.p true (.bin .lss (.t 5) (.t 6)))]) (.cond (.t 7) (.seq (.reg [mvt 8 0, mvt 4 8]) .ret) .skip)) (.seq (.reg [mvt 9 1, mvt 4 9]) .ret)))
theorem c50_is : compFn Try.prog 50 = some (c50, [(.tmp 4)]) := by kernel_rfl
theorem c50_ok : okFn Try.prog 50 = true := by kernel_rfl

noncomputable def F_spec_l00Min (v0 : Int) (v1 : Int) : Option (Int) :=
 (bif (decide (v0 < v1)) then some v0
 else some v1)
@[simp] def res_spec_l00Min (r : Int) : RV := .one (.one (.val (.int .i64 r)))
theorem con_spec_l00Min {v0 : Int} {v1 : Int} {r : Int} (hF : F_spec_l00Min v0 v1 = some r) : Con Try.prog 50 [.int .i64 v0, .int .i64 v1] (res_spec_l00Min r) := by
 unfold F_spec_l00Min at hF
 refine con_of c50_is fun N => ?_
 refine ws 0 64 ?_
 refine qp (AI 0) rfl ?_
 refine r_nil ?_
 refine w_seq ?_
 refine ws 64 256 ?_
 refine qp (AI v0) rfl (qp (AI v1) rfl (qp (AB (decide (v0 < v1))) rfl ?_))
 refine r_nil ?_
 refine cF hF (fun hF => ?_) fun hF => ?_
 ·
  refine ws 256 384 ?_
  refine qp (AI v0) rfl (qp (AI v0) rfl ?_)
  refine r_nil ?_
  refine w_ret ?_
  refine thenQ_r ?_
  cases hF
  exact eR
 ·
  refine w_skip ?_
  refine thenQ_n ?_
  refine ws 256 384 ?_
  refine qp (AI v1) rfl (qp (AI v1) rfl ?_)
  refine r_nil ?_
  refine w_ret ?_
  cases hF
  exact eR

def c49 : MC := (.seq (.reg [rg 4 (.p true (.mv (.c (.int .i64 0))))]) (.seq (.seq (.reg [mvt 5 0, mvt 6 1, rg 7 (.p true (.bin .gtr (.t 5) (.t 6)))]) (.cond (.t 7) (.seq (.reg [mvt 8 0, mvt 4 8]) .ret) .skip)) (.seq (.reg [mvt 9 1, mvt 4 9]) .ret)))
theorem c49_is : compFn Try.prog 49 = some (c49, [(.tmp 4)]) := by kernel_rfl
theorem c49_ok : okFn Try.prog 49 = true := by kernel_rfl

noncomputable def F_spec_l00Max (v0 : Int) (v1 : Int) : Option (Int) :=
 (bif (decide (v1 < v0)) then some v0
 else some v1)
@[simp] def res_spec_l00Max (r : Int) : RV := .one (.one (.val (.int .i64 r)))
theorem con_spec_l00Max {v0 : Int} {v1 : Int} {r : Int} (hF : F_spec_l00Max v0 v1 = some r) : Con Try.prog 49 [.int .i64 v0, .int .i64 v1] (res_spec_l00Max r) := by
 unfold F_spec_l00Max at hF
 refine con_of c49_is fun N => ?_
 refine ws 0 64 ?_
 refine qp (AI 0) rfl ?_
 refine r_nil ?_
 refine w_seq ?_
 refine ws 64 256 ?_
 refine qp (AI v0) rfl (qp (AI v1) rfl (qp (AB (decide (v1 < v0))) rfl ?_))
 refine r_nil ?_
 refine cF hF (fun hF => ?_) fun hF => ?_
 ·
  refine ws 256 384 ?_
  refine qp (AI v0) rfl (qp (AI v0) rfl ?_)
  refine r_nil ?_
  refine w_ret ?_
  refine thenQ_r ?_
  cases hF
  exact eR
 ·
  refine w_skip ?_
  refine thenQ_n ?_
  refine ws 256 384 ?_
  refine qp (AI v1) rfl (qp (AI v1) rfl ?_)
  refine r_nil ?_
  refine w_ret ?_
  cases hF
  exact eR

def c51 : MC := (.seq (.reg [rg 4 (.p true (.mv (.c (.int .i64 0))))]) (.seq (.reg [mvt 5 1, mvt 6 0, mvt 7 1, rg 8 (.p true (.len (.t 7))), rg 9 (.call true 24 [(.t 6), (.t 8)]), rg 10 (.p true (.iad (.t 5) (.t 9) 1)), rg 11 (.p true (.ld (.t 10) 1 false)), mvt 4 11]) .ret))
theorem c51_is : compFnM Try.prog 51 = some (c51, [(.tmp 4)]) := by kernel_rfl
theorem c51_ok : okFn Try.prog 51 = true := by kernel_rfl

noncomputable def F_spec_l00Src_among (v0 : TL00Src) (v1 : List Int) : Option (TL00Src × Int) :=
 ((F_spec_l00Src_pick v0 (v1.length : Int)).bind fun v1000 => ((ix v1 v1000.2).bind fun v1001 => some (v1000.1, v1001)))
@[simp] def res_spec_l00Src_among (r : TL00Src × Int) : RV := .one (.one (.val (.int .i64 r.2)))
theorem con_spec_l00Src_among {v0 : TL00Src} {v1 : List Int} {r : TL00Src × Int} (hF : F_spec_l00Src_among v0 v1 = some r) : ConP Try.prog 51 [.sl 1 (v0.1.map (V.int .u8)), .int .i64 v0.2.1, .int .u64 v0.2.2] [.sl 1 (r.1.1.map (V.int .u8)), .int .i64 r.1.2.1, .int .u64 r.1.2.2] [.sl 1 (v1.map vI)] (res_spec_l00Src_among r) := by
 unfold F_spec_l00Src_among at hF
 refine conP_of (L := [(0, .box [.val none (.sl 1 (v0.1.map (V.int .u8))), AI v0.2.1, .val none (.int .u64 v0.2.2)])]) c51_is rfl fun N => ?_
 refine ws 64 128 ?_
 refine qp (AI 0) rfl ?_
 refine r_nil ?_
 refine ws 128 640 ?_
 refine qp (AL 1 (v1.map vI)) rfl (qp (.ptr 0 0 0) rfl (qp (AL 1 (v1.map vI)) rfl (qp (AI (v1.length : Int)) (ev_len_n rfl) ?_)))
 obtain ⟨v1000, e1000, hF⟩ := bind_get hF
 refine qP [] (AI v1000.2) [(0, .box [.val none (.sl 1 (v1000.1.1.map (V.int .u8))), AI v1000.1.2.1, .val none (.int .u64 v1000.1.2.2)]), (0, .box [.val none (.sl 1 (v0.1.map (V.int .u8))), AI v0.2.1, .val none (.int .u64 v0.2.2)])] rfl rfl rfl (by decide) (con_spec_l00Src_pick e1000) c24_ok (by first | rfl | simp) killO_nil rfl rfl ?_
 obtain ⟨v1001, e1001, hF⟩ := bind_get hF
 refine qp (.val none (.ptr [.int .i64 v1001])) (ev_iad_n rfl rfl e1001 rfl) (qp (AI v1001) rfl (qp (AI v1001) rfl ?_))
 refine r_nil ?_
 refine w_ret ?_
 cases hF
 exact endP_r rfl (by first | rfl | (simp [List.take_of_length_le]; first | exact ⟨rfl, rfl⟩ | rfl)) (by simp) (by first | rfl | simp) (by first | rfl | simp [res_spec_l00Src_among, List.take_of_length_le]) rfl (by first | rfl | simp)

def c40 : MC := (.seq (.reg [rg 2 (.f (.nilrow 2))]) (.seq (.reg [rg 6 (.f (.bsl 2 [])), mvt 3 6]) (.seq (.reg [mvt 7 0, rg 8 (.call true 24 [(.t 7), (.c (.int .i64 12))]), mvt 4 8]) (.seq (.seq (.reg [mvt 9 0, rg 10 (.call true 24 [(.t 9), (.c (.int .i64 10))]), mvt 5 10]) (.block 0 (.loop (.seq (.seq (.reg [mvt 11 5, rg 12 (.p true (.bin .gtr (.t 11) (.c (.int .i64 0))))]) (.cond (.t 12) .skip (.exit 0))) (.seq (.block 1 (.seq (.reg [mvt 15 4, mvt 16 0, rg 17 (.call true 24 [(.t 16), (.c (.int .i64 9))]), rg 18 (.p true (.bin .add (.t 15) (.t 17))), rg 19 (.p true (.bin .sub (.t 18) (.c (.int .i64 4)))), rg 20 (.call true 50 [(.c (.int .i64 23)), (.t 19)]), rg 21 (.call true 49 [(.c (.int .i64 (-12))), (.t 20)]), mvt 4 21]) (.reg [mvt 22 3, mvt 23 4, mvt 24 0, rg 25 (.f (.bsl 1 [(.c (.int .i64 1)), (.c (.int .i64 1)), (.c (.int .i64 2)), (.c (.int .i64 2)), (.c (.int .i64 3)), (.c (.int .i64 4)), (.c (.int .i64 6))])), rg 26 (.call true 51 [(.t 24), (.t 25)]), rg 27 (.f (.bld [((.int .i64 0), (0, true)), ((.int .i64 0), (0, true))] [(0, (1, (.t 23))), (1, (1, (.t 26)))])), rg 28 (.f (.bsl 2 [(.t 27)])), rg 29 (.f (.app (.t 22) (.t 28) 2 16 true)), mvt 3 29]))) (.reg [mvt 13 5, rg 14 (.p true (.bin .sub (.t 13) (.c (.int .i64 1)))), mvt 5 14])))))) (.seq (.reg [mvt 30 3, mvt 2 30]) .ret)))))
theorem c40_is : compFnM Try.prog 40 = some (c40, [(.tmp 2)]) := by kernel_rfl
theorem c40_ok : okFn Try.prog 40 = true := by kernel_rfl

noncomputable def F_spec_l09Draw_l0 (k1 : Int × Int × (List Int) × Int × Int × (List TNote) → Option (TL00Src × (List TNote))) : Int × Int × (List Int) × Int × Int × (List TNote) → Option (TL00Src × (List TNote))
 | (v50018, v50019, v50020, v50021, v50022, v50023) => (bif (decide ((0 : Int) < v50019)) then ((F_spec_l00Src_pick (v50020, v50021, v50022) 9).bind fun v1012 => ((F_spec_l00Min 23 (w64 ((w64 (v50018 + v1012.2)) - 4))).bind fun v1013 => ((F_spec_l00Max (-12) v1013).bind fun v1014 => ((F_spec_l00Src_among v1012.1 [(1 : Int), (1 : Int), (2 : Int), (2 : Int), (3 : Int), (4 : Int), (6 : Int)]).bind fun v1015 => (need (room (v50023.length + [(v1014, v1015.2)].length) 16) (k1 (v1014, w64 (v50019 - 1), v1015.1.1, v1015.1.2.1, v1015.1.2.2, v50023 ++ [(v1014, v1015.2)])))))))
 else some ((v50020, v50021, v50022), v50023))
noncomputable def F_spec_l09Draw (v0 : TL00Src) : Option (TL00Src × (List TNote)) :=
 ((F_spec_l00Src_pick v0 12).bind fun v1000 => ((F_spec_l00Src_pick v1000.1 10).bind fun v1001 => loop (F_spec_l09Draw_l0) (v1000.2, v1001.2, v1001.1.1, v1001.1.2.1, v1001.1.2.2, [])))
@[simp] def res_spec_l09Draw (r : TL00Src × (List TNote)) : RV := .one (.one (.row true 2 (r.2.map eNote)))
theorem con_spec_l09Draw {v0 : TL00Src} {r : TL00Src × (List TNote)} (hF : F_spec_l09Draw v0 = some r) : ConP Try.prog 40 [.sl 1 (v0.1.map (V.int .u8)), .int .i64 v0.2.1, .int .u64 v0.2.2] [.sl 1 (r.1.1.map (V.int .u8)), .int .i64 r.1.2.1, .int .u64 r.1.2.2] [] (res_spec_l09Draw r) := by
 unfold F_spec_l09Draw at hF
 refine conP_of (L := [(0, .box [.val none (.sl 1 (v0.1.map (V.int .u8))), AI v0.2.1, .val none (.int .u64 v0.2.2)])]) c40_is rfl fun N => ?_
 refine ws 64 128 ?_
 refine qf (.sl 64 0 0) [(64, .row true 2 (([] : List Int).map vI)), (0, .box [.val none (.sl 1 (v0.1.map (V.int .u8))), AI v0.2.1, .val none (.int .u64 v0.2.2)])] (by simp) ?_
 refine r_nil ?_
 refine ws 128 256 ?_
 refine qf (.sl 128 0 0) [(128, .row true 2 (([] : List TNote).map eNote)), (64, .row true 2 (([] : List Int).map vI)), (0, .box [.val none (.sl 1 (v0.1.map (V.int .u8))), AI v0.2.1, .val none (.int .u64 v0.2.2)])] (by simp [List.take_of_length_le]) ?_
 refine qp (.sl 128 0 0) rfl ?_
 refine r_nil ?_
 refine ws 256 448 ?_
 refine qp (.ptr 0 0 0) rfl ?_
 obtain ⟨v1000, e1000, hF⟩ := bind_get hF
 refine qP [] (AI v1000.2) [(0, .box [.val none (.sl 1 (v1000.1.1.map (V.int .u8))), AI v1000.1.2.1, .val none (.int .u64 v1000.1.2.2)]), (128, .row true 2 (([] : List TNote).map eNote)), (64, .row true 2 (([] : List Int).map vI)), (0, .box [.val none (.sl 1 (v0.1.map (V.int .u8))), AI v0.2.1, .val none (.int .u64 v0.2.2)])] rfl rfl rfl (by decide) (con_spec_l00Src_pick e1000) c24_ok (by first | rfl | simp) killO_nil rfl rfl ?_
 refine qp (AI v1000.2) rfl ?_
 refine r_nil ?_
 refine w_seq ?_
 refine ws 448 640 ?_
 refine qp (.ptr 0 0 0) rfl ?_
 obtain ⟨v1001, e1001, hF⟩ := bind_get hF
 refine qP [] (AI v1001.2) [(0, .box [.val none (.sl 1 (v1001.1.1.map (V.int .u8))), AI v1001.1.2.1, .val none (.int .u64 v1001.1.2.2)]), (0, .box [.val none (.sl 1 (v1000.1.1.map (V.int .u8))), AI v1000.1.2.1, .val none (.int .u64 v1000.1.2.2)]), (128, .row true 2 (([] : List TNote).map eNote)), (64, .row true 2 (([] : List Int).map vI)), (0, .box [.val none (.sl 1 (v0.1.map (V.int .u8))), AI v0.2.1, .val none (.int .u64 v0.2.2)])] rfl rfl rfl (by decide) (con_spec_l00Src_pick e1001) c24_ok (by first | rfl | simp) killO_nil rfl rfl ?_
 refine qp (AI v1001.2) rfl ?_
 refine r_nil ?_
 refine w_block ?_
 refine wr (l' := [(0, .ptr 0 0 0), (3, .sl 1 0 0), (4, AI v1000.2), (5, AI v1001.2)]) (L := [(1, .row true 2 (([] : List TNote).map eNote)), (0, .box [.val none (.sl 1 (v1001.1.1.map (V.int .u8))), AI v1001.1.2.1, .val none (.int .u64 v1001.1.2.2)])]) [0, 3, 4, 5] [(128, 1), (0, 0)] 2 ?_
 refine w_loopF (F_spec_l09Draw_l0) (fun s : Int × Int × (List Int) × Int × Int × (List TNote) => mkS [(0, .ptr 0 0 0), (3, .sl 1 0 s.2.2.2.2.2.length), (4, AI s.1), (5, AI s.2.1)] (fo [(1, .row true 2 (s.2.2.2.2.2.map eNote)), (0, .box [.val none (.sl 1 (s.2.2.1.map (V.int .u8))), AI s.2.2.2.1, .val none (.int .u64 s.2.2.2.2.1)])]) 2) hF ?_
 rintro k1 ⟨v50018, v50019, v50020, v50021, v50022, v50023⟩ hF
 rw [F_spec_l09Draw_l0] at hF
 try dsimp only
 refine w_seq ?_
 refine ws 2 130 ?_
 refine qp (AI v50019) rfl (qp (AB (decide ((0 : Int) < v50019))) rfl ?_)
 refine r_nil ?_
 refine cF hF (fun hF => ?_) fun hF => ?_
 ·
  refine w_skip ?_
  refine thenQ_n ?_
  refine w_seq ?_
  refine w_block ?_
  refine ws 130 642 ?_
  refine qp (AI v50018) rfl (qp (.ptr 0 0 0) rfl ?_)
  obtain ⟨v1012, e1012, hF⟩ := bind_get hF
  refine qP [] (AI v1012.2) [(0, .box [.val none (.sl 1 (v1012.1.1.map (V.int .u8))), AI v1012.1.2.1, .val none (.int .u64 v1012.1.2.2)]), (1, .row true 2 (v50023.map eNote)), (0, .box [.val none (.sl 1 (v50020.map (V.int .u8))), AI v50021, .val none (.int .u64 v50022)])] rfl rfl rfl (by decide) (con_spec_l00Src_pick e1012) c24_ok (by first | rfl | simp) killO_nil rfl rfl ?_
  refine qp (AI (w64 (v50018 + v1012.2))) rfl (qp (AI (w64 ((w64 (v50018 + v1012.2)) - 4))) rfl ?_)
  obtain ⟨v1013, e1013, hF⟩ := bind_get hF
  refine qc (AI v1013) [(0, .box [.val none (.sl 1 (v1012.1.1.map (V.int .u8))), AI v1012.1.2.1, .val none (.int .u64 v1012.1.2.2)]), (1, .row true 2 (v50023.map eNote)), (0, .box [.val none (.sl 1 (v50020.map (V.int .u8))), AI v50021, .val none (.int .u64 v50022)])] false (con_spec_l00Min e1013) c50_ok (by first | rfl | simp) rfl ?_
  obtain ⟨v1014, e1014, hF⟩ := bind_get hF
  refine qc (AI v1014) [(0, .box [.val none (.sl 1 (v1012.1.1.map (V.int .u8))), AI v1012.1.2.1, .val none (.int .u64 v1012.1.2.2)]), (1, .row true 2 (v50023.map eNote)), (0, .box [.val none (.sl 1 (v50020.map (V.int .u8))), AI v50021, .val none (.int .u64 v50022)])] false (con_spec_l00Max e1014) c49_ok (by first | rfl | simp) rfl ?_
  refine qp (AI v1014) rfl ?_
  refine r_nil ?_
  refine w_reg 642 1218 rfl rfl ?_
  refine qp (.sl 1 0 v50023.length) rfl (qp (AI v1014) rfl (qp (.ptr 0 0 0) rfl ?_))
  refine qf (.sl 834 0 ([(1 : Int), (1 : Int), (2 : Int), (2 : Int), (3 : Int), (4 : Int), (6 : Int)].length)) [(834, .row true 1 ([(1 : Int), (1 : Int), (2 : Int), (2 : Int), (3 : Int), (4 : Int), (6 : Int)].map vI)), (0, .box [.val none (.sl 1 (v1012.1.1.map (V.int .u8))), AI v1012.1.2.1, .val none (.int .u64 v1012.1.2.2)]), (1, .row true 2 (v50023.map eNote)), (0, .box [.val none (.sl 1 (v50020.map (V.int .u8))), AI v50021, .val none (.int .u64 v50022)])] (by simp [List.take_of_length_le]) ?_
  obtain ⟨v1015, e1015, hF⟩ := bind_get hF
  refine qP [834] (AI v1015.2) [(0, .box [.val none (.sl 1 (v1015.1.1.map (V.int .u8))), AI v1015.1.2.1, .val none (.int .u64 v1015.1.2.2)]), (834, .dead), (834, .row true 1 ([(1 : Int), (1 : Int), (2 : Int), (2 : Int), (3 : Int), (4 : Int), (6 : Int)].map vI)), (0, .box [.val none (.sl 1 (v1012.1.1.map (V.int .u8))), AI v1012.1.2.1, .val none (.int .u64 v1012.1.2.2)]), (1, .row true 2 (v50023.map eNote)), (0, .box [.val none (.sl 1 (v50020.map (V.int .u8))), AI v50021, .val none (.int .u64 v50022)])] rfl rfl rfl (by decide) (con_spec_l00Src_among e1015) c51_ok (by first | rfl | simp [onlyS, List.take_of_length_le]) (killO_one rfl) rfl rfl ?_
  refine qf (.agg [AI v1014, AI v1015.2]) [(0, .box [.val none (.sl 1 (v1015.1.1.map (V.int .u8))), AI v1015.1.2.1, .val none (.int .u64 v1015.1.2.2)]), (834, .dead), (834, .row true 1 ([(1 : Int), (1 : Int), (2 : Int), (2 : Int), (3 : Int), (4 : Int), (6 : Int)].map vI)), (0, .box [.val none (.sl 1 (v1012.1.1.map (V.int .u8))), AI v1012.1.2.1, .val none (.int .u64 v1012.1.2.2)]), (1, .row true 2 (v50023.map eNote)), (0, .box [.val none (.sl 1 (v50020.map (V.int .u8))), AI v50021, .val none (.int .u64 v50022)])] (by simp) ?_
  refine qf (.sl 1026 0 ([(v1014, v1015.2)].length)) [(1026, .row true 2 ([(v1014, v1015.2)].map eNote)), (0, .box [.val none (.sl 1 (v1015.1.1.map (V.int .u8))), AI v1015.1.2.1, .val none (.int .u64 v1015.1.2.2)]), (834, .dead), (834, .row true 1 ([(1 : Int), (1 : Int), (2 : Int), (2 : Int), (3 : Int), (4 : Int), (6 : Int)].map vI)), (0, .box [.val none (.sl 1 (v1012.1.1.map (V.int .u8))), AI v1012.1.2.1, .val none (.int .u64 v1012.1.2.2)]), (1, .row true 2 (v50023.map eNote)), (0, .box [.val none (.sl 1 (v50020.map (V.int .u8))), AI v50021, .val none (.int .u64 v50022)])] (by simp [List.take_of_length_le]) ?_
  obtain ⟨g1016, hF⟩ := need_some hF
  refine qf (.sl 1090 0 ((v50023 ++ [(v1014, v1015.2)]).length)) [(1090, .row true 2 ((v50023 ++ [(v1014, v1015.2)]).map eNote)), (1, .dead), (1026, .dead), (1026, .row true 2 ([(v1014, v1015.2)].map eNote)), (0, .box [.val none (.sl 1 (v1015.1.1.map (V.int .u8))), AI v1015.1.2.1, .val none (.int .u64 v1015.1.2.2)]), (834, .dead), (834, .row true 1 ([(1 : Int), (1 : Int), (2 : Int), (2 : Int), (3 : Int), (4 : Int), (6 : Int)].map vI)), (0, .box [.val none (.sl 1 (v1012.1.1.map (V.int .u8))), AI v1012.1.2.1, .val none (.int .u64 v1012.1.2.2)]), (1, .row true 2 (v50023.map eNote)), (0, .box [.val none (.sl 1 (v50020.map (V.int .u8))), AI v50021, .val none (.int .u64 v50022)])] (effT_app_l rfl (by simp) rfl rfl (by simp) rfl (by decide) g1016 rfl) ?_
  refine qp (.sl 1090 0 ((v50023 ++ [(v1014, v1015.2)]).length)) rfl ?_
  refine r_nil ?_
  refine blockQ_n ?_
  refine thenQ_n ?_
  refine w_reg 1218 1410 rfl rfl ?_
  refine qp (AI v50019) rfl (qp (AI (w64 (v50019 - 1))) rfl (qp (AI (w64 (v50019 - 1))) rfl ?_))
  refine r_nil ?_
  refine thenQ_n ?_
  refine ar (l' := [(0, .ptr 0 0 0), (3, .sl 1 0 (v50023 ++ [(v1014, v1015.2)]).length), (4, AI v1014), (5, AI (w64 (v50019 - 1)))]) (L := [(1, .row true 2 ((v50023 ++ [(v1014, v1015.2)]).map eNote)), (0, .box [.val none (.sl 1 (v1015.1.1.map (V.int .u8))), AI v1015.1.2.1, .val none (.int .u64 v1015.1.2.2)])]) [0, 3, 4, 5] [(1090, 1), (0, 0)] 2 ⟨_, by rfl, hF⟩
 ·
  refine w_exit ?_
  refine thenQ_e ?_
  refine thenQ_e ?_
  refine blockQ_e ?_
  refine thenQ_n ?_
  refine ws 130 258 ?_
  refine qp (.sl 1 0 v50023.length) rfl (qp (.sl 1 0 v50023.length) rfl ?_)
  refine r_nil ?_
  refine w_ret ?_
  cases hF
  exact endP_r rfl (by first | rfl | (simp [List.take_of_length_le]; first | exact ⟨rfl, rfl⟩ | rfl)) (by simp) (by first | rfl | simp) (by first | rfl | simp [res_spec_l09Draw, List.take_of_length_le]) rfl (by first | rfl | simp)

def c56 : MC := (.seq (.reg [rg 2 (.p true (.mv (.c (.int .i64 0))))]) (.seq (.reg [mvt 3 0, rg 4 (.p true (.bin .rem (.t 3) (.c (.int .i64 12)))), rg 5 (.p true (.bin .add (.t 4) (.c (.int .i64 12)))), rg 6 (.p true (.bin .rem (.t 5) (.c (.int .i64 12)))), mvt 2 6]) .ret))
theorem c56_is : compFn Try.prog 56 = some (c56, [(.tmp 2)]) := by kernel_rfl
theorem c56_ok : okFn Try.prog 56 = true := by kernel_rfl

noncomputable def F_spec_l03Tone (v0 : Int) : Option (Int) :=
 some (Int.tmod (w64 ((Int.tmod v0 12) + 12)) 12)
@[simp] def res_spec_l03Tone (r : Int) : RV := .one (.one (.val (.int .i64 r)))
theorem con_spec_l03Tone {v0 : Int} {r : Int} (hF : F_spec_l03Tone v0 = some r) : Con Try.prog 56 [.int .i64 v0] (res_spec_l03Tone r) := by
 unfold F_spec_l03Tone at hF
 refine con_of c56_is fun N => ?_
 refine ws 0 64 ?_
 refine qp (AI 0) rfl ?_
 refine r_nil ?_
 refine ws 64 384 ?_
 refine qp (AI v0) rfl (qp (AI (Int.tmod v0 12)) (ev_rem rfl rfl (by decide)) (qp (AI (w64 ((Int.tmod v0 12) + 12))) rfl (qp (AI (Int.tmod (w64 ((Int.tmod v0 12) + 12)) 12)) (ev_rem rfl rfl (by decide)) (qp (AI (Int.tmod (w64 ((Int.tmod v0 12) + 12)) 12)) rfl ?_))))
 refine r_nil ?_
 refine w_ret ?_
 cases hF
 exact eR

def c57 : MC := (.seq (.reg [rg 0 (.p true (.mv (.c (.str []))))]) (.seq (.reg [rg 0 (.p true (.mv (.c (.str [83, 114, 82, 103, 71, 109, 77, 80, 100, 68, 110, 78]))))]) .ret))
theorem c57_is : compFn Try.prog 57 = some (c57, [(.tmp 0)]) := by kernel_rfl
theorem c57_ok : okFn Try.prog 57 = true := by kernel_rfl

noncomputable def F_spec_l03Names : Option (List UInt8) :=
 some [83, 114, 82, 103, 71, 109, 77, 80, 100, 68, 110, 78]
@[simp] def res_spec_l03Names (r : List UInt8) : RV := .one (.one (.val (.str r)))
theorem con_spec_l03Names {r : List UInt8} (hF : F_spec_l03Names = some r) : Con Try.prog 57 [] (res_spec_l03Names r) := by
 unfold F_spec_l03Names at hF
 refine con_of c57_is fun N => ?_
 refine ws 0 64 ?_
 refine qp (AS []) rfl ?_
 refine r_nil ?_
 refine ws 64 128 ?_
 refine qp (AS [83, 114, 82, 103, 71, 109, 77, 80, 100, 68, 110, 78]) rfl ?_
 refine r_nil ?_
 refine w_ret ?_
 cases hF
 exact eR

def c58 : MC := (.seq (.reg [rg 2 (.p true (.mv (.c (.int .i64 0))))]) (.seq (.reg [mvt 3 0, mvt 4 0, rg 5 (.call true 56 [(.t 4)]), rg 6 (.p true (.bin .sub (.t 3) (.t 5))), rg 7 (.p true (.bin .quo (.t 6) (.c (.int .i64 12)))), mvt 2 7]) .ret))
theorem c58_is : compFn Try.prog 58 = some (c58, [(.tmp 2)]) := by kernel_rfl
theorem c58_ok : okFn Try.prog 58 = true := by kernel_rfl

noncomputable def F_spec_l03Floor (v0 : Int) : Option (Int) :=
 ((F_spec_l03Tone v0).bind fun v1000 => some (w64 (Int.tdiv (w64 (v0 - v1000)) 12)))
@[simp] def res_spec_l03Floor (r : Int) : RV := .one (.one (.val (.int .i64 r)))
theorem con_spec_l03Floor {v0 : Int} {r : Int} (hF : F_spec_l03Floor v0 = some r) : Con Try.prog 58 [.int .i64 v0] (res_spec_l03Floor r) := by
 unfold F_spec_l03Floor at hF
 refine con_of c58_is fun N => ?_
 refine ws 0 64 ?_
 refine qp (AI 0) rfl ?_
 refine r_nil ?_
 refine ws 64 448 ?_
 refine qp (AI v0) rfl (qp (AI v0) rfl ?_)
 obtain ⟨v1000, e1000, hF⟩ := bind_get hF
 refine qc (AI v1000) [] false (con_spec_l03Tone e1000) c56_ok (by first | rfl | simp) rfl ?_
 refine qp (AI (w64 (v0 - v1000))) rfl (qp (AI (w64 (Int.tdiv (w64 (v0 - v1000)) 12))) (ev_quo rfl rfl (by decide)) (qp (AI (w64 (Int.tdiv (w64 (v0 - v1000)) 12))) rfl ?_))
 refine r_nil ?_
 refine w_ret ?_
 cases hF
 exact eR

def c47 : MC := (.seq (.reg [rg 2 (.p true (.mv (.c (.str []))))]) (.seq (.reg [mvt 5 0, rg 6 (.call true 56 [(.t 5)]), mvt 3 6]) (.seq (.reg [rg 7 (.call true 57 []), mvt 8 3, mvt 9 3, rg 10 (.p true (.bin .add (.t 9) (.c (.int .i64 1)))), rg 11 (.p true (.slcs (.t 7) (some (.t 8)) (some (.t 10)))), mvt 4 11]) (.seq (.seq (.reg [mvt 12 0, rg 13 (.call true 58 [(.t 12)])]) (.block 0 (.seq (.reg [rg 15 (.p true (.bin .eql (.t 13) (.c (.int .i64 (-1))))), mvt 14 15]) (.cond (.t 14) (.seq (.reg [mvt 16 4, rg 17 (.p true (.bin .add (.t 16) (.c (.str [44])))), mvt 2 17]) .ret) (.seq (.reg [rg 19 (.p true (.bin .eql (.t 13) (.c (.int .i64 1)))), mvt 18 19]) (.cond (.t 18) (.seq (.reg [mvt 20 4, rg 21 (.p true (.bin .add (.t 20) (.c (.str [39])))), mvt 2 21]) .ret) .skip)))))) (.seq (.reg [mvt 22 4, mvt 2 22]) .ret)))))
theorem c47_is : compFn Try.prog 47 = some (c47, [(.tmp 2)]) := by kernel_rfl
theorem c47_ok : okFn Try.prog 47 = true := by kernel_rfl

noncomputable def F_spec_l09Name (v0 : Int) : Option (List UInt8) :=
 ((F_spec_l03Tone v0).bind fun v1000 => ((F_spec_l03Names).bind fun v1001 => (need (0 ≤ v1000 ∧ v1000 ≤ w64 (v1000 + 1) ∧ w64 (v1000 + 1) ≤ (v1001.length : Int)) (((F_spec_l03Floor v0).bind fun v1003 => (bif (decide (v1003 = ((-1) : Int))) then (need ((sub v1001 v1000 (w64 (v1000 + 1))).length + ([44] : List UInt8).length < 9223372036854775808) (some ((sub v1001 v1000 (w64 (v1000 + 1))) ++ ([44] : List UInt8))))
 else (bif (decide (v1003 = (1 : Int))) then (need ((sub v1001 v1000 (w64 (v1000 + 1))).length + ([39] : List UInt8).length < 9223372036854775808) (some ((sub v1001 v1000 (w64 (v1000 + 1))) ++ ([39] : List UInt8))))
 else some (sub v1001 v1000 (w64 (v1000 + 1))))))))))
@[simp] def res_spec_l09Name (r : List UInt8) : RV := .one (.one (.val (.str r)))
theorem con_spec_l09Name {v0 : Int} {r : List UInt8} (hF : F_spec_l09Name v0 = some r) : Con Try.prog 47 [.int .i64 v0] (res_spec_l09Name r) := by
 unfold F_spec_l09Name at hF
 refine con_of c47_is fun N => ?_
 refine ws 0 64 ?_
 refine qp (AS []) rfl ?_
 refine r_nil ?_
 refine ws 64 256 ?_
 refine qp (AI v0) rfl ?_
 obtain ⟨v1000, e1000, hF⟩ := bind_get hF
 refine qc (AI v1000) [] false (con_spec_l03Tone e1000) c56_ok (by first | rfl | simp) rfl ?_
 refine qp (AI v1000) rfl ?_
 refine r_nil ?_
 refine ws 256 640 ?_
 obtain ⟨v1001, e1001, hF⟩ := bind_get hF
 refine qc (AS v1001) [] false (con_spec_l03Names e1001) c57_ok (by first | rfl | simp) rfl ?_
 refine qp (AI v1000) rfl (qp (AI v1000) rfl (qp (AI (w64 (v1000 + 1))) rfl ?_))
 obtain ⟨g1002, hF⟩ := need_some hF
 refine qp (AS (sub v1001 v1000 (w64 (v1000 + 1)))) (ev_slcs rfl (bnd_some rfl g1002.1) (bnd_some rfl (Int.le_trans g1002.1 g1002.2.1)) g1002) (qp (AS (sub v1001 v1000 (w64 (v1000 + 1)))) rfl ?_)
 refine r_nil ?_
 refine w_seq ?_
 refine ws 640 768 ?_
 refine qp (AI v0) rfl ?_
 obtain ⟨v1003, e1003, hF⟩ := bind_get hF
 refine qc (AI v1003) [] false (con_spec_l03Floor e1003) c58_ok (by first | rfl | simp) rfl ?_
 refine r_nil ?_
 refine w_block ?_
 refine ws 768 896 ?_
 refine qp (AB (decide (v1003 = ((-1) : Int)))) rfl (qp (AB (decide (v1003 = ((-1) : Int)))) rfl ?_)
 refine r_nil ?_
 refine cF hF (fun hF => ?_) fun hF => ?_
 ·
  refine ws 896 1088 ?_
  refine qp (AS (sub v1001 v1000 (w64 (v1000 + 1)))) rfl ?_
  obtain ⟨g1004, hF⟩ := need_some hF
  refine qp (AS ((sub v1001 v1000 (w64 (v1000 + 1))) ++ ([44] : List UInt8))) (ev_add_s rfl rfl g1004) (qp (AS ((sub v1001 v1000 (w64 (v1000 + 1))) ++ ([44] : List UInt8))) rfl ?_)
  refine r_nil ?_
  refine w_ret ?_
  refine blockQ_r ?_
  refine thenQ_r ?_
  cases hF
  exact eR
 ·
  refine ws 896 1024 ?_
  refine qp (AB (decide (v1003 = (1 : Int)))) rfl (qp (AB (decide (v1003 = (1 : Int)))) rfl ?_)
  refine r_nil ?_
  refine cF hF (fun hF => ?_) fun hF => ?_
  ·
   refine ws 1024 1216 ?_
   refine qp (AS (sub v1001 v1000 (w64 (v1000 + 1)))) rfl ?_
   obtain ⟨g1005, hF⟩ := need_some hF
   refine qp (AS ((sub v1001 v1000 (w64 (v1000 + 1))) ++ ([39] : List UInt8))) (ev_add_s rfl rfl g1005) (qp (AS ((sub v1001 v1000 (w64 (v1000 + 1))) ++ ([39] : List UInt8))) rfl ?_)
   refine r_nil ?_
   refine w_ret ?_
   refine blockQ_r ?_
   refine thenQ_r ?_
   cases hF
   exact eR
  ·
   refine w_skip ?_
   refine blockQ_n ?_
   refine thenQ_n ?_
   refine ws 1024 1152 ?_
   refine qp (AS (sub v1001 v1000 (w64 (v1000 + 1)))) rfl (qp (AS (sub v1001 v1000 (w64 (v1000 + 1)))) rfl ?_)
   refine r_nil ?_
   refine w_ret ?_
   cases hF
   exact eR

def c48 : MC := (.seq (.reg [rg 2 (.p true (.mv (.c (.str []))))]) (.seq (.seq (.reg [mvt 8 0, rg 9 (.p true (.bin .eql (.t 8) (.c (.int .i64 0))))]) (.cond (.t 9) (.seq (.reg [rg 2 (.p true (.mv (.c (.str [48]))))]) .ret) .skip)) (.seq (.reg [rg 10 (.f (.bsl 1 [])), mvt 3 10]) (.seq (.seq (.reg [mvt 11 0, mvt 4 11]) (.block 0 (.loop (.seq (.seq (.reg [mvt 12 4, rg 13 (.p true (.bin .neq (.t 12) (.c (.int .i64 0))))]) (.cond (.t 13) .skip (.exit 0))) (.seq (.block 1 (.seq (.reg [mvt 16 4, rg 17 (.p true (.bin .rem (.t 16) (.c (.int .i64 10)))), mvt 5 17]) (.seq (.seq (.reg [mvt 18 5, rg 19 (.p true (.bin .lss (.t 18) (.c (.int .i64 0))))]) (.cond (.t 19) (.reg [mvt 20 5, rg 21 (.p true (.neg (.t 20))), mvt 5 21]) .skip)) (.reg [mvt 22 3, mvt 23 5, rg 24 (.p true (.bin .add (.c (.int .i64 48)) (.t 23))), rg 25 (.p true (.conv .u8 (.t 24))), rg 26 (.f (.bsl 1 [(.t 25)])), rg 27 (.f (.app (.t 22) (.t 26) 1 1 true)), mvt 3 27])))) (.reg [mvt 14 4, rg 15 (.p true (.bin .quo (.t 14) (.c (.int .i64 10)))), mvt 4 15])))))) (.seq (.seq (.reg [mvt 28 0, rg 29 (.p true (.bin .lss (.t 28) (.c (.int .i64 0))))]) (.cond (.t 29) (.reg [mvt 30 3, rg 31 (.f (.bsl 1 [(.c (.int .u8 45))])), rg 32 (.f (.app (.t 30) (.t 31) 1 1 true)), mvt 3 32]) .skip)) (.seq (.reg [rg 33 (.f (.bsl 1 [])), mvt 6 33]) (.seq (.seq (.reg [mvt 34 3, rg 35 (.p true (.len (.t 34))), rg 36 (.p true (.bin .sub (.t 35) (.c (.int .i64 1)))), mvt 7 36]) (.block 2 (.loop (.seq (.seq (.reg [mvt 37 7, rg 38 (.p true (.bin .geq (.t 37) (.c (.int .i64 0))))]) (.cond (.t 38) .skip (.exit 2))) (.seq (.block 3 (.reg [mvt 41 6, mvt 42 3, mvt 43 7, rg 44 (.p true (.iad (.t 42) (.t 43) 1)), rg 45 (.p true (.ld (.t 44) 1 false)), rg 46 (.f (.bsl 1 [(.t 45)])), rg 47 (.f (.app (.t 41) (.t 46) 1 1 true)), mvt 6 47])) (.reg [mvt 39 7, rg 40 (.p true (.bin .sub (.t 39) (.c (.int .i64 1)))), mvt 7 40])))))) (.seq (.reg [mvt 48 6, rg 49 (.p true (.bts (.t 48))), mvt 2 49]) .ret))))))))
theorem c48_is : compFn Try.prog 48 = some (c48, [(.tmp 2)]) := by kernel_rfl
theorem c48_ok : okFn Try.prog 48 = true := by kernel_rfl

noncomputable def F_spec_l01Dec_j1 (v50004 : Int) (v50005 : List Int) (k0 : Int × (List Int) → Option (List UInt8)) (v50006 : Int) : Option (List UInt8) :=
 (need (room (v50005.length + [IntKind.wrap .u8 (w64 (48 + v50006))].length) 1) (k0 (w64 (Int.tdiv v50004 10), v50005 ++ [IntKind.wrap .u8 (w64 (48 + v50006))])))
noncomputable def F_spec_l01Dec_l3 (v50007 : List Int) (k1 : Int × (List Int) → Option (List UInt8)) : Int × (List Int) → Option (List UInt8)
 | (v50010, v50011) => (bif (decide ((0 : Int) ≤ v50010)) then ((ix v50007 v50010).bind fun v1002 => (need (room (v50011.length + [v1002].length) 1) (k1 (w64 (v50010 - 1), v50011 ++ [v1002]))))
 else some (bytesI v50011))
noncomputable def F_spec_l01Dec_j2 (v50007 : List Int) : Option (List UInt8) :=
 loop (F_spec_l01Dec_l3 v50007) (w64 ((v50007.length : Int) - 1), [])
noncomputable def F_spec_l01Dec_l0 (v0 : Int) (k0 : Int × (List Int) → Option (List UInt8)) : Int × (List Int) → Option (List UInt8)
 | (v50004, v50005) => (bif (decide (v50004 ≠ (0 : Int))) then (bif (decide (Int.tmod v50004 10 < (0 : Int))) then F_spec_l01Dec_j1 v50004 v50005 k0 (w64 (0 - (Int.tmod v50004 10)))
 else F_spec_l01Dec_j1 v50004 v50005 k0 (Int.tmod v50004 10))
 else (bif (decide (v0 < (0 : Int))) then (need (room (v50005.length + [(45 : Int)].length) 1) (F_spec_l01Dec_j2 (v50005 ++ [(45 : Int)])))
 else F_spec_l01Dec_j2 v50005))
noncomputable def F_spec_l01Dec (v0 : Int) : Option (List UInt8) :=
 (bif (decide (v0 = (0 : Int))) then some [48]
 else loop (F_spec_l01Dec_l0 v0) (v0, []))
@[simp] def res_spec_l01Dec (r : List UInt8) : RV := .one (.one (.val (.str r)))
theorem con_spec_l01Dec {v0 : Int} {r : List UInt8} (hF : F_spec_l01Dec v0 = some r) : Con Try.prog 48 [.int .i64 v0] (res_spec_l01Dec r) := by
 unfold F_spec_l01Dec at hF
 refine con_of c48_is fun N => ?_
 refine ws 0 64 ?_
 refine qp (AS []) rfl ?_
 refine r_nil ?_
 refine w_seq ?_
 refine ws 64 192 ?_
 refine qp (AI v0) rfl (qp (AB (decide (v0 = (0 : Int)))) rfl ?_)
 refine r_nil ?_
 refine cF hF (fun hF => ?_) fun hF => ?_
 ·
  refine ws 192 256 ?_
  refine qp (AS [48]) rfl ?_
  refine r_nil ?_
  refine w_ret ?_
  refine thenQ_r ?_
  cases hF
  exact eR
 ·
  refine w_skip ?_
  refine thenQ_n ?_
  refine ws 192 320 ?_
  refine qf (.sl 192 0 0) [(192, .row true 1 (([] : List Int).map (V.int .u8)))] (by simp [List.take_of_length_le]) ?_
  refine qp (.sl 192 0 0) rfl ?_
  refine r_nil ?_
  refine w_seq ?_
  refine ws 320 448 ?_
  refine qp (AI v0) rfl (qp (AI v0) rfl ?_)
  refine r_nil ?_
  refine w_block ?_
  refine wr (l' := [(0, AI v0), (3, .sl 0 0 0), (4, AI v0)]) (L := [(0, .row true 1 (([] : List Int).map (V.int .u8)))]) [0, 3, 4] [(192, 0)] 1 ?_
  refine w_loopF (F_spec_l01Dec_l0 v0) (fun s : Int × (List Int) => mkS [(0, AI v0), (3, .sl 0 0 s.2.length), (4, AI s.1)] (fo [(0, .row true 1 (s.2.map (V.int .u8)))]) 1) hF ?_
  rintro k0 ⟨v50004, v50005⟩ hF
  rw [F_spec_l01Dec_l0] at hF
  try dsimp only
  refine w_seq ?_
  refine ws 1 129 ?_
  refine qp (AI v50004) rfl (qp (AB (decide (v50004 ≠ (0 : Int)))) rfl ?_)
  refine r_nil ?_
  refine cF hF (fun hF => ?_) fun hF => ?_
  ·
   refine w_skip ?_
   refine thenQ_n ?_
   refine w_seq ?_
   refine w_block ?_
   refine ws 129 321 ?_
   refine qp (AI v50004) rfl (qp (AI (Int.tmod v50004 10)) (ev_rem rfl rfl (by decide)) (qp (AI (Int.tmod v50004 10)) rfl ?_))
   refine r_nil ?_
   refine w_meet (fun s' => ∃ (v50006 : Int), s' = mkS [(0, AI v0), (3, .sl 0 0 v50005.length), (4, AI v50004), (5, AI v50006)] (fo [(0, .row true 1 (v50005.map (V.int .u8)))]) 1 ∧ F_spec_l01Dec_j1 v50004 v50005 k0 v50006 = some r) ?_ ?_
   ·
    refine ws 321 449 ?_
    refine qp (AI (Int.tmod v50004 10)) rfl (qp (AB (decide (Int.tmod v50004 10 < (0 : Int)))) rfl ?_)
    refine r_nil ?_
    refine cF hF (fun hF => ?_) fun hF => ?_
    ·
     refine w_reg 449 641 rfl rfl ?_
     refine qp (AI (Int.tmod v50004 10)) rfl (qp (AI (w64 (0 - (Int.tmod v50004 10)))) rfl (qp (AI (w64 (0 - (Int.tmod v50004 10)))) rfl ?_))
     refine r_nil ?_
     refine thenQ_n ?_
     refine ar (l' := [(0, AI v0), (3, .sl 0 0 v50005.length), (4, AI v50004), (5, AI (w64 (0 - (Int.tmod v50004 10))))]) (L := [(0, .row true 1 (v50005.map (V.int .u8)))]) [0, 3, 4, 5] [(0, 0)] 1 ⟨_, rfl, hF⟩
    ·
     refine w_skip ?_
     refine thenQ_n ?_
     refine ar (l' := [(0, AI v0), (3, .sl 0 0 v50005.length), (4, AI v50004), (5, AI (Int.tmod v50004 10))]) (L := [(0, .row true 1 (v50005.map (V.int .u8)))]) [0, 3, 4, 5] [(0, 0)] 1 ⟨_, rfl, hF⟩
   ·
    rintro s' ⟨v50006, rfl, hF⟩
    unfold F_spec_l01Dec_j1 at hF
    refine w_reg 1 449 rfl rfl ?_
    refine qp (.sl 0 0 v50005.length) rfl (qp (AI v50006) rfl (qp (AI (w64 (48 + v50006))) rfl (qp (.val none (.int .u8 (IntKind.wrap .u8 (w64 (48 + v50006))))) rfl ?_)))
    refine qf (.sl 257 0 ([IntKind.wrap .u8 (w64 (48 + v50006))].length)) [(257, .row true 1 ([IntKind.wrap .u8 (w64 (48 + v50006))].map (V.int .u8))), (0, .row true 1 (v50005.map (V.int .u8)))] (by simp [List.take_of_length_le]) ?_
    obtain ⟨g1000, hF⟩ := need_some hF
    refine qf (.sl 321 0 ((v50005 ++ [IntKind.wrap .u8 (w64 (48 + v50006))]).length)) [(321, .row true 1 ((v50005 ++ [IntKind.wrap .u8 (w64 (48 + v50006))]).map (V.int .u8))), (0, .dead), (257, .dead), (257, .row true 1 ([IntKind.wrap .u8 (w64 (48 + v50006))].map (V.int .u8))), (0, .row true 1 (v50005.map (V.int .u8)))] (effT_app_l rfl (by simp) rfl rfl (by simp) rfl (by decide) g1000 rfl) ?_
    refine qp (.sl 321 0 ((v50005 ++ [IntKind.wrap .u8 (w64 (48 + v50006))]).length)) rfl ?_
    refine r_nil ?_
    refine blockQ_n ?_
    refine thenQ_n ?_
    refine w_reg 449 641 rfl rfl ?_
    refine qp (AI v50004) rfl (qp (AI (w64 (Int.tdiv v50004 10))) (ev_quo rfl rfl (by decide)) (qp (AI (w64 (Int.tdiv v50004 10))) rfl ?_))
    refine r_nil ?_
    refine thenQ_n ?_
    refine ar (l' := [(0, AI v0), (3, .sl 0 0 (v50005 ++ [IntKind.wrap .u8 (w64 (48 + v50006))]).length), (4, AI (w64 (Int.tdiv v50004 10)))]) (L := [(0, .row true 1 ((v50005 ++ [IntKind.wrap .u8 (w64 (48 + v50006))]).map (V.int .u8)))]) [0, 3, 4] [(321, 0)] 1 ⟨_, by rfl, hF⟩
  ·
   refine w_exit ?_
   refine thenQ_e ?_
   refine thenQ_e ?_
   refine blockQ_e ?_
   refine thenQ_n ?_
   refine w_meet (fun s' => ∃ (v50007 : List Int), s' = mkS [(3, .sl 0 0 v50007.length)] (fo [(0, .row true 1 (v50007.map (V.int .u8)))]) 1 ∧ F_spec_l01Dec_j2 v50007 = some r) ?_ ?_
   ·
    refine ws 129 257 ?_
    refine qp (AI v0) rfl (qp (AB (decide (v0 < (0 : Int)))) rfl ?_)
    refine r_nil ?_
    refine cF hF (fun hF => ?_) fun hF => ?_
    ·
     refine w_reg 257 513 rfl rfl ?_
     refine qp (.sl 0 0 v50005.length) rfl ?_
     refine qf (.sl 321 0 ([(45 : Int)].length)) [(321, .row true 1 ([(45 : Int)].map (V.int .u8))), (0, .row true 1 (v50005.map (V.int .u8)))] (by simp [List.take_of_length_le]) ?_
     obtain ⟨g1001, hF⟩ := need_some hF
     refine qf (.sl 385 0 ((v50005 ++ [(45 : Int)]).length)) [(385, .row true 1 ((v50005 ++ [(45 : Int)]).map (V.int .u8))), (0, .dead), (321, .dead), (321, .row true 1 ([(45 : Int)].map (V.int .u8))), (0, .row true 1 (v50005.map (V.int .u8)))] (effT_app_l rfl (by simp) rfl rfl (by simp) rfl (by decide) g1001 rfl) ?_
     refine qp (.sl 385 0 ((v50005 ++ [(45 : Int)]).length)) rfl ?_
     refine r_nil ?_
     refine thenQ_n ?_
     refine ar (l' := [(3, .sl 0 0 (v50005 ++ [(45 : Int)]).length)]) (L := [(0, .row true 1 ((v50005 ++ [(45 : Int)]).map (V.int .u8)))]) [3] [(385, 0)] 1 ⟨_, rfl, hF⟩
    ·
     refine w_skip ?_
     refine thenQ_n ?_
     refine ar (l' := [(3, .sl 0 0 v50005.length)]) (L := [(0, .row true 1 (v50005.map (V.int .u8)))]) [3] [(0, 0)] 1 ⟨_, rfl, hF⟩
   ·
    rintro s' ⟨v50007, rfl, hF⟩
    unfold F_spec_l01Dec_j2 at hF
    refine ws 1 129 ?_
    refine qf (.sl 1 0 0) [(1, .row true 1 (([] : List Int).map (V.int .u8))), (0, .row true 1 (v50007.map (V.int .u8)))] (by simp [List.take_of_length_le]) ?_
    refine qp (.sl 1 0 0) rfl ?_
    refine r_nil ?_
    refine w_seq ?_
    refine ws 129 385 ?_
    refine qp (.sl 0 0 v50007.length) rfl (qp (AI (v50007.length : Int)) rfl (qp (AI (w64 ((v50007.length : Int) - 1))) rfl (qp (AI (w64 ((v50007.length : Int) - 1))) rfl ?_)))
    refine r_nil ?_
    refine w_block ?_
    refine wr (l' := [(3, .sl 0 0 v50007.length), (6, .sl 1 0 0), (7, AI (w64 ((v50007.length : Int) - 1)))]) (L := [(1, .row true 1 (([] : List Int).map (V.int .u8))), (0, .row true 1 (v50007.map (V.int .u8)))]) [3, 6, 7] [(1, 1), (0, 0)] 2 ?_
    refine w_loopF (F_spec_l01Dec_l3 v50007) (fun s : Int × (List Int) => mkS [(3, .sl 0 0 v50007.length), (6, .sl 1 0 s.2.length), (7, AI s.1)] (fo [(1, .row true 1 (s.2.map (V.int .u8))), (0, .row true 1 (v50007.map (V.int .u8)))]) 2) hF ?_
    rintro k1 ⟨v50010, v50011⟩ hF
    rw [F_spec_l01Dec_l3] at hF
    try dsimp only
    refine w_seq ?_
    refine ws 2 130 ?_
    refine qp (AI v50010) rfl (qp (AB (decide ((0 : Int) ≤ v50010))) rfl ?_)
    refine r_nil ?_
    refine cF hF (fun hF => ?_) fun hF => ?_
    ·
     refine w_skip ?_
     refine thenQ_n ?_
     refine w_seq ?_
     refine w_block ?_
     refine w_reg 130 642 rfl rfl ?_
     refine qp (.sl 1 0 v50011.length) rfl (qp (.sl 0 0 v50007.length) rfl (qp (AI v50010) rfl ?_))
     obtain ⟨v1002, e1002, hF⟩ := bind_get hF
     refine qp (.ptr 0 v50010.toNat 0) (ev_iad_r rfl (by simp) rfl rfl e1002) (qp (.val none (.int .u8 v1002)) (ev_ld_r rfl rfl (ix_some e1002).2 rfl rfl) ?_)
     refine qf (.sl 450 0 ([v1002].length)) [(450, .row true 1 ([v1002].map (V.int .u8))), (1, .row true 1 (v50011.map (V.int .u8))), (0, .row true 1 (v50007.map (V.int .u8)))] (by simp [List.take_of_length_le]) ?_
     obtain ⟨g1003, hF⟩ := need_some hF
     refine qf (.sl 514 0 ((v50011 ++ [v1002]).length)) [(514, .row true 1 ((v50011 ++ [v1002]).map (V.int .u8))), (1, .dead), (450, .dead), (450, .row true 1 ([v1002].map (V.int .u8))), (1, .row true 1 (v50011.map (V.int .u8))), (0, .row true 1 (v50007.map (V.int .u8)))] (effT_app_l rfl (by simp) rfl rfl (by simp) rfl (by decide) g1003 rfl) ?_
     refine qp (.sl 514 0 ((v50011 ++ [v1002]).length)) rfl ?_
     refine r_nil ?_
     refine blockQ_n ?_
     refine thenQ_n ?_
     refine w_reg 642 834 rfl rfl ?_
     refine qp (AI v50010) rfl (qp (AI (w64 (v50010 - 1))) rfl (qp (AI (w64 (v50010 - 1))) rfl ?_))
     refine r_nil ?_
     refine thenQ_n ?_
     refine ar (l' := [(3, .sl 0 0 v50007.length), (6, .sl 1 0 (v50011 ++ [v1002]).length), (7, AI (w64 (v50010 - 1)))]) (L := [(1, .row true 1 ((v50011 ++ [v1002]).map (V.int .u8))), (0, .row true 1 (v50007.map (V.int .u8)))]) [3, 6, 7] [(514, 1), (0, 0)] 2 ⟨_, by rfl, hF⟩
    ·
     refine w_exit ?_
     refine thenQ_e ?_
     refine thenQ_e ?_
     refine blockQ_e ?_
     refine thenQ_n ?_
     refine ws 130 322 ?_
     refine qp (.sl 1 0 v50011.length) rfl (qp (AS (bytesI v50011)) (ev_bts_r rfl (by simp) rfl) (qp (AS (bytesI v50011)) rfl ?_))
     refine r_nil ?_
     refine w_ret ?_
     cases hF
     exact eR

def c39 : MC := (.seq (.reg [rg 2 (.p true (.mv (.c (.str []))))]) (.seq (.seq (.reg [mvt 5 0, rg 6 (.p true (.len (.t 5))), rg 7 (.p true (.bin .eql (.t 6) (.c (.int .i64 0))))]) (.cond (.t 7) (.seq (.reg [rg 2 (.p true (.mv (.c (.str [45]))))]) .ret) .skip)) (.seq (.reg [rg 3 (.p true (.mv (.c (.str []))))]) (.seq (.seq (.reg [rg 4 (.p true (.mv (.c (.int .i64 0))))]) (.block 0 (.loop (.seq (.seq (.reg [mvt 8 4, mvt 9 0, rg 10 (.p true (.len (.t 9))), rg 11 (.p true (.bin .lss (.t 8) (.t 10)))]) (.cond (.t 11) .skip (.exit 0))) (.seq (.block 1 (.seq (.seq (.reg [mvt 14 4, rg 15 (.p true (.bin .gtr (.t 14) (.c (.int .i64 0))))]) (.cond (.t 15) (.reg [mvt 16 3, rg 17 (.p true (.bin .add (.t 16) (.c (.str [32])))), mvt 3 17]) .skip)) (.seq (.reg [mvt 18 3, mvt 19 0, mvt 20 4, rg 21 (.p true (.iad (.t 19) (.t 20) 2)), rg 22 (.p true (.fad (.t 21) 0)), rg 23 (.p true (.ld (.t 22) 1 false)), rg 24 (.call true 47 [(.t 23)]), rg 25 (.p true (.bin .add (.t 18) (.t 24))), mvt 3 25]) (.seq (.reg [mvt 26 0, mvt 27 4, rg 28 (.p true (.iad (.t 26) (.t 27) 2)), rg 29 (.p true (.fad (.t 28) 1)), rg 30 (.p true (.ld (.t 29) 1 false)), rg 31 (.p true (.bin .neq (.t 30) (.c (.int .i64 1))))]) (.cond (.t 31) (.reg [mvt 32 3, mvt 33 0, mvt 34 4, rg 35 (.p true (.iad (.t 33) (.t 34) 2)), rg 36 (.p true (.fad (.t 35) 1)), rg 37 (.p true (.ld (.t 36) 1 false)), rg 38 (.call true 48 [(.t 37)]), rg 39 (.p true (.bin .add (.t 32) (.t 38))), mvt 3 39]) .skip))))) (.reg [mvt 12 4, rg 13 (.p true (.bin .add (.t 12) (.c (.int .i64 1)))), mvt 4 13])))))) (.seq (.reg [mvt 40 3, mvt 2 40]) .ret)))))
theorem c39_is : compFn Try.prog 39 = some (c39, [(.tmp 2)]) := by kernel_rfl
theorem c39_ok : okFn Try.prog 39 = true := by kernel_rfl

noncomputable def F_spec_l09Text_j1 (v0 : List TNote) (v50005 : Int) (k0 : (List UInt8) × Int → Option (List UInt8)) (v50006 : List UInt8) : Option (List UInt8) :=
 ((ix v0 v50005).bind fun v1001 => ((F_spec_l09Name v1001.1).bind fun v1002 => (need (v50006.length + v1002.length < 9223372036854775808) (((ix v0 v50005).bind fun v1004 => (bif (decide (v1004.2 ≠ (1 : Int))) then ((ix v0 v50005).bind fun v1005 => ((F_spec_l01Dec v1005.2).bind fun v1006 => (need ((v50006 ++ v1002).length + v1006.length < 9223372036854775808) (k0 ((v50006 ++ v1002) ++ v1006, w64 (v50005 + 1))))))
 else k0 (v50006 ++ v1002, w64 (v50005 + 1))))))))
noncomputable def F_spec_l09Text_l0 (v0 : List TNote) (k0 : (List UInt8) × Int → Option (List UInt8)) : (List UInt8) × Int → Option (List UInt8)
 | (v50004, v50005) => (bif (decide (v50005 < (v0.length : Int))) then (bif (decide ((0 : Int) < v50005)) then (need (v50004.length + ([32] : List UInt8).length < 9223372036854775808) (F_spec_l09Text_j1 v0 v50005 k0 (v50004 ++ ([32] : List UInt8))))
 else F_spec_l09Text_j1 v0 v50005 k0 v50004)
 else some v50004)
noncomputable def F_spec_l09Text (v0 : List TNote) : Option (List UInt8) :=
 (bif (decide ((v0.length : Int) = (0 : Int))) then some [45]
 else loop (F_spec_l09Text_l0 v0) ([], 0))
@[simp] def res_spec_l09Text (r : List UInt8) : RV := .one (.one (.val (.str r)))
theorem con_spec_l09Text {v0 : List TNote} {r : List UInt8} (hF : F_spec_l09Text v0 = some r) : Con Try.prog 39 [.sl 2 (v0.map eNote)] (res_spec_l09Text r) := by
 unfold F_spec_l09Text at hF
 refine con_of c39_is fun N => ?_
 refine ws 0 64 ?_
 refine qp (AS []) rfl ?_
 refine r_nil ?_
 refine w_seq ?_
 refine ws 64 256 ?_
 refine qp (AL 2 (v0.map eNote)) rfl (qp (AI (v0.length : Int)) (ev_len_n rfl) (qp (AB (decide ((v0.length : Int) = (0 : Int)))) rfl ?_))
 refine r_nil ?_
 refine cF hF (fun hF => ?_) fun hF => ?_
 ·
  refine ws 256 320 ?_
  refine qp (AS [45]) rfl ?_
  refine r_nil ?_
  refine w_ret ?_
  refine thenQ_r ?_
  cases hF
  exact eR
 ·
  refine w_skip ?_
  refine thenQ_n ?_
  refine ws 256 320 ?_
  refine qp (AS []) rfl ?_
  refine r_nil ?_
  refine w_seq ?_
  refine ws 320 384 ?_
  refine qp (AI 0) rfl ?_
  refine r_nil ?_
  refine w_block ?_
  refine wr (l' := [(0, AL 2 (v0.map eNote)), (3, AS ([] : List UInt8)), (4, AI 0)]) (L := []) [0, 3, 4] [] 1 ?_
  refine w_loopF (F_spec_l09Text_l0 v0) (fun s : (List UInt8) × Int => mkS [(0, AL 2 (v0.map eNote)), (3, AS s.1), (4, AI s.2)] (fo []) 1) hF ?_
  rintro k0 ⟨v50004, v50005⟩ hF
  rw [F_spec_l09Text_l0] at hF
  try dsimp only
  refine w_seq ?_
  refine ws 1 257 ?_
  refine qp (AI v50005) rfl (qp (AL 2 (v0.map eNote)) rfl (qp (AI (v0.length : Int)) (ev_len_n rfl) (qp (AB (decide (v50005 < (v0.length : Int)))) rfl ?_)))
  refine r_nil ?_
  refine cF hF (fun hF => ?_) fun hF => ?_
  ·
   refine w_skip ?_
   refine thenQ_n ?_
   refine w_seq ?_
   refine w_block ?_
   refine w_meet (fun s' => ∃ (v50006 : List UInt8), s' = mkS [(0, AL 2 (v0.map eNote)), (3, AS v50006), (4, AI v50005)] (fo []) 1 ∧ F_spec_l09Text_j1 v0 v50005 k0 v50006 = some r) ?_ ?_
   ·
    refine ws 257 385 ?_
    refine qp (AI v50005) rfl (qp (AB (decide ((0 : Int) < v50005))) rfl ?_)
    refine r_nil ?_
    refine cF hF (fun hF => ?_) fun hF => ?_
    ·
     refine w_reg 385 577 rfl rfl ?_
     refine qp (AS v50004) rfl ?_
     obtain ⟨g1000, hF⟩ := need_some hF
     refine qp (AS (v50004 ++ ([32] : List UInt8))) (ev_add_s rfl rfl g1000) (qp (AS (v50004 ++ ([32] : List UInt8))) rfl ?_)
     refine r_nil ?_
     refine thenQ_n ?_
     refine ar (l' := [(0, AL 2 (v0.map eNote)), (3, AS (v50004 ++ ([32] : List UInt8))), (4, AI v50005)]) (L := []) [0, 3, 4] [] 1 ⟨_, rfl, hF⟩
    ·
     refine w_skip ?_
     refine thenQ_n ?_
     refine ar (l' := [(0, AL 2 (v0.map eNote)), (3, AS v50004), (4, AI v50005)]) (L := []) [0, 3, 4] [] 1 ⟨_, rfl, hF⟩
   ·
    rintro s' ⟨v50006, rfl, hF⟩
    unfold F_spec_l09Text_j1 at hF
    refine ws 1 577 ?_
    refine qp (AS v50006) rfl (qp (AL 2 (v0.map eNote)) rfl (qp (AI v50005) rfl ?_))
    obtain ⟨v1001, e1001, hF⟩ := bind_get hF
    refine qp (.val none (.ptr [.int .i64 v1001.1, .int .i64 v1001.2])) (ev_iad_n rfl rfl e1001 rfl) (qp (.val none (.ptr [.int .i64 v1001.1, .int .i64 v1001.2])) rfl (qp (AI v1001.1) rfl ?_))
    obtain ⟨v1002, e1002, hF⟩ := bind_get hF
    refine qc (AS v1002) [] false (con_spec_l09Name e1002) c47_ok (by first | rfl | simp) rfl ?_
    obtain ⟨g1003, hF⟩ := need_some hF
    refine qp (AS (v50006 ++ v1002)) (ev_add_s rfl rfl g1003) (qp (AS (v50006 ++ v1002)) rfl ?_)
    refine r_nil ?_
    refine ws 577 961 ?_
    refine qp (AL 2 (v0.map eNote)) rfl (qp (AI v50005) rfl ?_)
    obtain ⟨v1004, e1004, hF⟩ := bind_get hF
    refine qp (.val none (.ptr [.int .i64 v1004.1, .int .i64 v1004.2])) (ev_iad_n rfl rfl e1004 rfl) (qp (.val none (.ptr [.int .i64 v1004.2])) rfl (qp (AI v1004.2) rfl (qp (AB (decide (v1004.2 ≠ (1 : Int)))) rfl ?_)))
    refine r_nil ?_
    refine cF hF (fun hF => ?_) fun hF => ?_
    ·
     refine w_reg 961 1537 rfl rfl ?_
     refine qp (AS (v50006 ++ v1002)) rfl (qp (AL 2 (v0.map eNote)) rfl (qp (AI v50005) rfl ?_))
     obtain ⟨v1005, e1005, hF⟩ := bind_get hF
     refine qp (.val none (.ptr [.int .i64 v1005.1, .int .i64 v1005.2])) (ev_iad_n rfl rfl e1005 rfl) (qp (.val none (.ptr [.int .i64 v1005.2])) rfl (qp (AI v1005.2) rfl ?_))
     obtain ⟨v1006, e1006, hF⟩ := bind_get hF
     refine qc (AS v1006) [] false (con_spec_l01Dec e1006) c48_ok (by first | rfl | simp) rfl ?_
     obtain ⟨g1007, hF⟩ := need_some hF
     refine qp (AS ((v50006 ++ v1002) ++ v1006)) (ev_add_s rfl rfl g1007) (qp (AS ((v50006 ++ v1002) ++ v1006)) rfl ?_)
     refine r_nil ?_
     refine blockQ_n ?_
     refine thenQ_n ?_
     refine w_reg 1537 1729 rfl rfl ?_
     refine qp (AI v50005) rfl (qp (AI (w64 (v50005 + 1))) rfl (qp (AI (w64 (v50005 + 1))) rfl ?_))
     refine r_nil ?_
     refine thenQ_n ?_
     refine ar (l' := [(0, AL 2 (v0.map eNote)), (3, AS ((v50006 ++ v1002) ++ v1006)), (4, AI (w64 (v50005 + 1)))]) (L := []) [0, 3, 4] [] 1 ⟨_, by rfl, hF⟩
    ·
     refine w_skip ?_
     refine blockQ_n ?_
     refine thenQ_n ?_
     refine w_reg 961 1153 rfl rfl ?_
     refine qp (AI v50005) rfl (qp (AI (w64 (v50005 + 1))) rfl (qp (AI (w64 (v50005 + 1))) rfl ?_))
     refine r_nil ?_
     refine thenQ_n ?_
     refine ar (l' := [(0, AL 2 (v0.map eNote)), (3, AS (v50006 ++ v1002)), (4, AI (w64 (v50005 + 1)))]) (L := []) [0, 3, 4] [] 1 ⟨_, by rfl, hF⟩
  ·
   refine w_exit ?_
   refine thenQ_e ?_
   refine thenQ_e ?_
   refine blockQ_e ?_
   refine thenQ_n ?_
   refine ws 257 385 ?_
   refine qp (AS v50004) rfl (qp (AS v50004) rfl ?_)
   refine r_nil ?_
   refine w_ret ?_
   cases hF
   exact eR

def c26 : MC := (.seq (.reg [rg 2 (.f (.alloc [((.str []), (0, false)), ((.str []), (0, false)), ((.str []), (0, false))]))]) (.seq (.reg [mvt 4 0, rg 5 (.f (.bsl 1 [(.c (.str [109, 101, 108, 111, 100, 121])), (.c (.str [110, 111, 116, 101])), (.c (.str [102, 97, 99, 101]))])), rg 6 (.call true 36 [(.t 4), (.t 5)]), rg 7 (.f (.bld [((.str []), (0, true)), ((.str []), (0, false)), ((.str []), (0, false))] [(0, (1, (.t 6)))])), rg 3 (.f (.alloc [((.str []), (0, false)), ((.str []), (0, false)), ((.str []), (0, false))])), ⟨none, none, (.f (.st (.t 3) (.t 7) 3))⟩]) (.seq (.reg [mvt 8 0, rg 9 (.f (.bsl 1 [(.c (.str [97])), (.c (.str [98])), (.c (.str [99])), (.c (.str [100]))])), rg 10 (.call true 36 [(.t 8), (.t 9)]), rg 11 (.p true (.fad (.t 3) 1)), ⟨none, none, (.f (.st (.t 11) (.t 10) 1))⟩]) (.seq (.reg [mvt 12 0, rg 13 (.f (.bsl 1 [(.c (.str [])), (.c (.str [120])), (.c (.str [97, 32, 98, 32, 99])), (.c (.str [49, 50, 32, 51, 52])), (.c (.str [111, 97, 107, 47, 52, 48]))])), rg 14 (.call true 36 [(.t 12), (.t 13)]), rg 15 (.p true (.fad (.t 3) 2)), ⟨none, none, (.f (.st (.t 15) (.t 14) 1))⟩]) (.seq (.seq (.reg [mvt 16 0, rg 17 (.call true 37 [(.t 16), (.c (.int .i64 4))])]) (.cond (.t 17) (.alt [rg 18 (.p false (.fad (.t 3) 2)), rg 19 (.p false (.ld (.t 18) 1 false)), rg 20 (.p false (.mv (.t 0))), rg 21 (.call true 38 [(.t 20), (.c (.int .i64 9))]), rg 22 (.p false (.bin .add (.t 19) (.t 21))), rg 23 (.p false (.fad (.t 3) 2)), ⟨none, none, (.f (.st (.t 23) (.t 22) 1))⟩] [[0, 1, 2, 3, 4, 5, 6], [0, 2, 3, 1, 4, 5, 6], [2, 3, 0, 1, 4, 5, 6]]) .skip)) (.seq (.seq (.reg [rg 24 (.p true (.fad (.t 3) 0)), rg 25 (.p true (.ld (.t 24) 1 false)), rg 26 (.p true (.bin .eql (.t 25) (.c (.str [109, 101, 108, 111, 100, 121])))), mvt 27 26, ⟨(some 28), (some (27, true)), (.p true (.mv (.t 0)))⟩, ⟨(some 29), (some (27, true)), (.call true 37 [(.t 28), (.c (.int .i64 2))])⟩, rg 30 (.p true (.pick (.t 27) (.t 29) (.c (.bool false))))]) (.cond (.t 30) (.reg [mvt 31 0, rg 32 (.call true 40 [(.t 31)]), rg 33 (.call true 39 [(.t 32)]), rg 34 (.p true (.fad (.t 3) 2)), ⟨none, none, (.f (.st (.t 34) (.t 33) 1))⟩]) .skip)) (.seq (.seq (.reg [mvt 35 0, rg 36 (.call true 37 [(.t 35), (.c (.int .i64 24))])]) (.cond (.t 36) (.reg [mvt 37 0, rg 38 (.call true 24 [(.t 37), (.c (.int .i64 3))]), rg 39 (.p true (.bin .add (.c (.int .i64 399)) (.t 38))), rg 40 (.f (.mks 1 1 (.int .u8 0) (.t 39) (.t 39))), rg 41 (.p true (.bts (.t 40))), rg 42 (.p true (.fad (.t 3) 2)), ⟨none, none, (.f (.st (.t 42) (.t 41) 1))⟩]) .skip)) (.seq (.reg [rg 43 (.p true (.ld (.t 3) 3 true)), ⟨none, none, (.f (.st (.t 2) (.t 43) 3))⟩]) .ret))))))))
theorem c26_is : compFnM Try.prog 26 = some (c26, [(.cell (.ld (.t 2) 3 true))]) := by kernel_rfl
theorem c26_ok : okFn Try.prog 26 = true := by kernel_rfl

noncomputable def F_spec_l29DrawOne_j1 (v1000 : TL00Src × (List UInt8)) (v1001 : TL00Src × (List UInt8)) (v50012 : List Int) (v50013 : Int) (v50014 : Int) (v50015 : List UInt8) : Option (TL00Src × TBlock) :=
 ((F_spec_l00Src_one (v50012, v50013, v50014) 24).bind fun v1012 => (bif v1012.2 then ((F_spec_l00Src_pick v1012.1 3).bind fun v1013 => (need (0 ≤ w64 (399 + v1013.2) ∧ w64 (399 + v1013.2) ≤ w64 (399 + v1013.2) ∧ w64 (399 + v1013.2) ≤ 9223372036854775807 ∧ 1 * w64 (399 + v1013.2) ≤ 281474976710656) (some (v1013.1, (v1000.2, v1001.2, bytesI (List.replicate (w64 (399 + v1013.2)).toNat (0 : Int)))))))
 else some (v1012.1, (v1000.2, v1001.2, v50015))))
noncomputable def F_spec_l29DrawOne_j0 (v1000 : TL00Src × (List UInt8)) (v1001 : TL00Src × (List UInt8)) (v50008 : List Int) (v50009 : Int) (v50010 : Int) (v50011 : List UInt8) : Option (TL00Src × TBlock) :=
 (bif (decide (v1000.2 = [109, 101, 108, 111, 100, 121])) then ((F_spec_l00Src_one (v50008, v50009, v50010) 2).bind fun v1009 => (bif v1009.2 then ((F_spec_l09Draw v1009.1).bind fun v1010 => ((F_spec_l09Text v1010.2).bind fun v1011 => F_spec_l29DrawOne_j1 v1000 v1001 v1010.1.1 v1010.1.2.1 v1010.1.2.2 v1011))
 else F_spec_l29DrawOne_j1 v1000 v1001 v1009.1.1 v1009.1.2.1 v1009.1.2.2 v50011))
 else F_spec_l29DrawOne_j1 v1000 v1001 v50008 v50009 v50010 v50011)
noncomputable def F_spec_l29DrawOne (v0 : TL00Src) : Option (TL00Src × TBlock) :=
 ((F_spec_l00Src_text v0 ([[109, 101, 108, 111, 100, 121], [110, 111, 116, 101], [102, 97, 99, 101]] : List (List UInt8))).bind fun v1000 => ((F_spec_l00Src_text v1000.1 [[97], [98], [99], [100]]).bind fun v1001 => ((F_spec_l00Src_text v1001.1 ([[], [120], [97, 32, 98, 32, 99], [49, 50, 32, 51, 52], [111, 97, 107, 47, 52, 48]] : List (List UInt8))).bind fun v1002 => ((F_spec_l00Src_one v1002.1 4).bind fun v1006 => (bif v1006.2 then ((F_spec_l00Src_word v1006.1 9).bind fun v1007 => (need (v1002.2.length + v1007.2.length < 9223372036854775808) (F_spec_l29DrawOne_j0 v1000 v1001 v1007.1.1 v1007.1.2.1 v1007.1.2.2 (v1002.2 ++ v1007.2))))
 else F_spec_l29DrawOne_j0 v1000 v1001 v1006.1.1 v1006.1.2.1 v1006.1.2.2 v1002.2)))))
@[simp] def res_spec_l29DrawOne (r : TL00Src × TBlock) : RV := .one (.one (.val (eBlock r.2)))
theorem con_spec_l29DrawOne {v0 : TL00Src} {r : TL00Src × TBlock} (hF : F_spec_l29DrawOne v0 = some r) : ConP Try.prog 26 [.sl 1 (v0.1.map (V.int .u8)), .int .i64 v0.2.1, .int .u64 v0.2.2] [.sl 1 (r.1.1.map (V.int .u8)), .int .i64 r.1.2.1, .int .u64 r.1.2.2] [] (res_spec_l29DrawOne r) := by
 unfold F_spec_l29DrawOne at hF
 refine conP_of (L := [(0, .box [.val none (.sl 1 (v0.1.map (V.int .u8))), AI v0.2.1, .val none (.int .u64 v0.2.2)])]) c26_is rfl fun N => ?_
 refine ws 64 128 ?_
 refine qf (.ptr 64 0 0) [(64, .box [AS [], AS [], AS []]), (0, .box [.val none (.sl 1 (v0.1.map (V.int .u8))), AI v0.2.1, .val none (.int .u64 v0.2.2)])] (by simp) ?_
 refine r_nil ?_
 refine ws 128 512 ?_
 refine qp (.ptr 0 0 0) rfl ?_
 refine qf (.sl 192 0 (([[109, 101, 108, 111, 100, 121], [110, 111, 116, 101], [102, 97, 99, 101]] : List (List UInt8)).length)) [(192, .row true 1 (([[109, 101, 108, 111, 100, 121], [110, 111, 116, 101], [102, 97, 99, 101]] : List (List UInt8)).map V.str)), (64, .box [AS [], AS [], AS []]), (0, .box [.val none (.sl 1 (v0.1.map (V.int .u8))), AI v0.2.1, .val none (.int .u64 v0.2.2)])] (by simp [List.take_of_length_le]) ?_
 obtain ⟨v1000, e1000, hF⟩ := bind_get hF
 refine qP [192] (AS v1000.2) [(0, .box [.val none (.sl 1 (v1000.1.1.map (V.int .u8))), AI v1000.1.2.1, .val none (.int .u64 v1000.1.2.2)]), (192, .dead), (192, .row true 1 (([[109, 101, 108, 111, 100, 121], [110, 111, 116, 101], [102, 97, 99, 101]] : List (List UInt8)).map V.str)), (64, .box [AS [], AS [], AS []]), (0, .box [.val none (.sl 1 (v0.1.map (V.int .u8))), AI v0.2.1, .val none (.int .u64 v0.2.2)])] rfl rfl rfl (by decide) (con_spec_l00Src_text e1000) c36_ok (by first | rfl | simp [onlyS, List.take_of_length_le]) (killO_one rfl) rfl rfl ?_
 refine qf (.agg [AS v1000.2, AS [], AS []]) [(0, .box [.val none (.sl 1 (v1000.1.1.map (V.int .u8))), AI v1000.1.2.1, .val none (.int .u64 v1000.1.2.2)]), (192, .dead), (192, .row true 1 (([[109, 101, 108, 111, 100, 121], [110, 111, 116, 101], [102, 97, 99, 101]] : List (List UInt8)).map V.str)), (64, .box [AS [], AS [], AS []]), (0, .box [.val none (.sl 1 (v0.1.map (V.int .u8))), AI v0.2.1, .val none (.int .u64 v0.2.2)])] (by simp) ?_
 refine qf (.ptr 384 0 0) [(384, .box [AS [], AS [], AS []]), (0, .box [.val none (.sl 1 (v1000.1.1.map (V.int .u8))), AI v1000.1.2.1, .val none (.int .u64 v1000.1.2.2)]), (192, .dead), (192, .row true 1 (([[109, 101, 108, 111, 100, 121], [110, 111, 116, 101], [102, 97, 99, 101]] : List (List UInt8)).map V.str)), (64, .box [AS [], AS [], AS []]), (0, .box [.val none (.sl 1 (v0.1.map (V.int .u8))), AI v0.2.1, .val none (.int .u64 v0.2.2)])] (by simp) ?_
 refine qf0 (.undef) [(384, .box [AS v1000.2, AS [], AS []]), (384, .box [AS [], AS [], AS []]), (0, .box [.val none (.sl 1 (v1000.1.1.map (V.int .u8))), AI v1000.1.2.1, .val none (.int .u64 v1000.1.2.2)]), (192, .dead), (192, .row true 1 (([[109, 101, 108, 111, 100, 121], [110, 111, 116, 101], [102, 97, 99, 101]] : List (List UInt8)).map V.str)), (64, .box [AS [], AS [], AS []]), (0, .box [.val none (.sl 1 (v0.1.map (V.int .u8))), AI v0.2.1, .val none (.int .u64 v0.2.2)])] (by simp) ?_
 refine r_nil ?_
 refine ws 512 832 ?_
 refine qp (.ptr 0 0 0) rfl ?_
 refine qf (.sl 576 0 ([[97], [98], [99], [100]].length)) [(576, .row true 1 ([[97], [98], [99], [100]].map V.str)), (384, .box [AS v1000.2, AS [], AS []]), (384, .box [AS [], AS [], AS []]), (0, .box [.val none (.sl 1 (v1000.1.1.map (V.int .u8))), AI v1000.1.2.1, .val none (.int .u64 v1000.1.2.2)]), (192, .dead), (192, .row true 1 (([[109, 101, 108, 111, 100, 121], [110, 111, 116, 101], [102, 97, 99, 101]] : List (List UInt8)).map V.str)), (64, .box [AS [], AS [], AS []]), (0, .box [.val none (.sl 1 (v0.1.map (V.int .u8))), AI v0.2.1, .val none (.int .u64 v0.2.2)])] (by simp [List.take_of_length_le]) ?_
 obtain ⟨v1001, e1001, hF⟩ := bind_get hF
 refine qP [576] (AS v1001.2) [(0, .box [.val none (.sl 1 (v1001.1.1.map (V.int .u8))), AI v1001.1.2.1, .val none (.int .u64 v1001.1.2.2)]), (576, .dead), (576, .row true 1 ([[97], [98], [99], [100]].map V.str)), (384, .box [AS v1000.2, AS [], AS []]), (384, .box [AS [], AS [], AS []]), (0, .box [.val none (.sl 1 (v1000.1.1.map (V.int .u8))), AI v1000.1.2.1, .val none (.int .u64 v1000.1.2.2)]), (192, .dead), (192, .row true 1 (([[109, 101, 108, 111, 100, 121], [110, 111, 116, 101], [102, 97, 99, 101]] : List (List UInt8)).map V.str)), (64, .box [AS [], AS [], AS []]), (0, .box [.val none (.sl 1 (v0.1.map (V.int .u8))), AI v0.2.1, .val none (.int .u64 v0.2.2)])] rfl rfl rfl (by decide) (con_spec_l00Src_text e1001) c36_ok (by first | rfl | simp [onlyS, List.take_of_length_le]) (killO_one rfl) rfl rfl ?_
 refine qp (.ptr 384 0 1) rfl ?_
 refine qf0 (.undef) [(384, .box [AS v1000.2, AS v1001.2, AS []]), (0, .box [.val none (.sl 1 (v1001.1.1.map (V.int .u8))), AI v1001.1.2.1, .val none (.int .u64 v1001.1.2.2)]), (576, .dead), (576, .row true 1 ([[97], [98], [99], [100]].map V.str)), (384, .box [AS v1000.2, AS [], AS []]), (384, .box [AS [], AS [], AS []]), (0, .box [.val none (.sl 1 (v1000.1.1.map (V.int .u8))), AI v1000.1.2.1, .val none (.int .u64 v1000.1.2.2)]), (192, .dead), (192, .row true 1 (([[109, 101, 108, 111, 100, 121], [110, 111, 116, 101], [102, 97, 99, 101]] : List (List UInt8)).map V.str)), (64, .box [AS [], AS [], AS []]), (0, .box [.val none (.sl 1 (v0.1.map (V.int .u8))), AI v0.2.1, .val none (.int .u64 v0.2.2)])] (by simp) ?_
 refine r_nil ?_
 refine ws 832 1152 ?_
 refine qp (.ptr 0 0 0) rfl ?_
 refine qf (.sl 896 0 (([[], [120], [97, 32, 98, 32, 99], [49, 50, 32, 51, 52], [111, 97, 107, 47, 52, 48]] : List (List UInt8)).length)) [(896, .row true 1 (([[], [120], [97, 32, 98, 32, 99], [49, 50, 32, 51, 52], [111, 97, 107, 47, 52, 48]] : List (List UInt8)).map V.str)), (384, .box [AS v1000.2, AS v1001.2, AS []]), (0, .box [.val none (.sl 1 (v1001.1.1.map (V.int .u8))), AI v1001.1.2.1, .val none (.int .u64 v1001.1.2.2)]), (576, .dead), (576, .row true 1 ([[97], [98], [99], [100]].map V.str)), (384, .box [AS v1000.2, AS [], AS []]), (384, .box [AS [], AS [], AS []]), (0, .box [.val none (.sl 1 (v1000.1.1.map (V.int .u8))), AI v1000.1.2.1, .val none (.int .u64 v1000.1.2.2)]), (192, .dead), (192, .row true 1 (([[109, 101, 108, 111, 100, 121], [110, 111, 116, 101], [102, 97, 99, 101]] : List (List UInt8)).map V.str)), (64, .box [AS [], AS [], AS []]), (0, .box [.val none (.sl 1 (v0.1.map (V.int .u8))), AI v0.2.1, .val none (.int .u64 v0.2.2)])] (by simp [List.take_of_length_le]) ?_
 obtain ⟨v1002, e1002, hF⟩ := bind_get hF
 refine qP [896] (AS v1002.2) [(0, .box [.val none (.sl 1 (v1002.1.1.map (V.int .u8))), AI v1002.1.2.1, .val none (.int .u64 v1002.1.2.2)]), (896, .dead), (896, .row true 1 (([[], [120], [97, 32, 98, 32, 99], [49, 50, 32, 51, 52], [111, 97, 107, 47, 52, 48]] : List (List UInt8)).map V.str)), (384, .box [AS v1000.2, AS v1001.2, AS []]), (0, .box [.val none (.sl 1 (v1001.1.1.map (V.int .u8))), AI v1001.1.2.1, .val none (.int .u64 v1001.1.2.2)]), (576, .dead), (576, .row true 1 ([[97], [98], [99], [100]].map V.str)), (384, .box [AS v1000.2, AS [], AS []]), (384, .box [AS [], AS [], AS []]), (0, .box [.val none (.sl 1 (v1000.1.1.map (V.int .u8))), AI v1000.1.2.1, .val none (.int .u64 v1000.1.2.2)]), (192, .dead), (192, .row true 1 (([[109, 101, 108, 111, 100, 121], [110, 111, 116, 101], [102, 97, 99, 101]] : List (List UInt8)).map V.str)), (64, .box [AS [], AS [], AS []]), (0, .box [.val none (.sl 1 (v0.1.map (V.int .u8))), AI v0.2.1, .val none (.int .u64 v0.2.2)])] rfl rfl rfl (by decide) (con_spec_l00Src_text e1002) c36_ok (by first | rfl | simp [onlyS, List.take_of_length_le]) (killO_one rfl) rfl rfl ?_
 refine qp (.ptr 384 0 2) rfl ?_
 refine qf0 (.undef) [(384, .box [AS v1000.2, AS v1001.2, AS v1002.2]), (0, .box [.val none (.sl 1 (v1002.1.1.map (V.int .u8))), AI v1002.1.2.1, .val none (.int .u64 v1002.1.2.2)]), (896, .dead), (896, .row true 1 (([[], [120], [97, 32, 98, 32, 99], [49, 50, 32, 51, 52], [111, 97, 107, 47, 52, 48]] : List (List UInt8)).map V.str)), (384, .box [AS v1000.2, AS v1001.2, AS []]), (0, .box [.val none (.sl 1 (v1001.1.1.map (V.int .u8))), AI v1001.1.2.1, .val none (.int .u64 v1001.1.2.2)]), (576, .dead), (576, .row true 1 ([[97], [98], [99], [100]].map V.str)), (384, .box [AS v1000.2, AS [], AS []]), (384, .box [AS [], AS [], AS []]), (0, .box [.val none (.sl 1 (v1000.1.1.map (V.int .u8))), AI v1000.1.2.1, .val none (.int .u64 v1000.1.2.2)]), (192, .dead), (192, .row true 1 (([[109, 101, 108, 111, 100, 121], [110, 111, 116, 101], [102, 97, 99, 101]] : List (List UInt8)).map V.str)), (64, .box [AS [], AS [], AS []]), (0, .box [.val none (.sl 1 (v0.1.map (V.int .u8))), AI v0.2.1, .val none (.int .u64 v0.2.2)])] (by simp) ?_
 refine r_nil ?_
 refine w_meet (fun s' => ∃ (v50008 : List Int) (v50009 : Int) (v50010 : Int) (v50011 : List UInt8), s' = mkS [(0, .ptr 0 0 0), (2, .ptr 1 0 0), (3, .ptr 2 0 0)] (fo [(2, .box [AS v1000.2, AS v1001.2, AS v50011]), (1, .box [AS [], AS [], AS []]), (0, .box [.val none (.sl 1 (v50008.map (V.int .u8))), AI v50009, .val none (.int .u64 v50010)])]) 3 ∧ F_spec_l29DrawOne_j0 v1000 v1001 v50008 v50009 v50010 v50011 = some r) ?_ ?_
 ·
  refine ws 1152 1280 ?_
  refine qp (.ptr 0 0 0) rfl ?_
  obtain ⟨v1006, e1006, hF⟩ := bind_get hF
  refine qP [] (AB v1006.2) [(0, .box [.val none (.sl 1 (v1006.1.1.map (V.int .u8))), AI v1006.1.2.1, .val none (.int .u64 v1006.1.2.2)]), (384, .box [AS v1000.2, AS v1001.2, AS v1002.2]), (0, .box [.val none (.sl 1 (v1002.1.1.map (V.int .u8))), AI v1002.1.2.1, .val none (.int .u64 v1002.1.2.2)]), (896, .dead), (896, .row true 1 (([[], [120], [97, 32, 98, 32, 99], [49, 50, 32, 51, 52], [111, 97, 107, 47, 52, 48]] : List (List UInt8)).map V.str)), (384, .box [AS v1000.2, AS v1001.2, AS []]), (0, .box [.val none (.sl 1 (v1001.1.1.map (V.int .u8))), AI v1001.1.2.1, .val none (.int .u64 v1001.1.2.2)]), (576, .dead), (576, .row true 1 ([[97], [98], [99], [100]].map V.str)), (384, .box [AS v1000.2, AS [], AS []]), (384, .box [AS [], AS [], AS []]), (0, .box [.val none (.sl 1 (v1000.1.1.map (V.int .u8))), AI v1000.1.2.1, .val none (.int .u64 v1000.1.2.2)]), (192, .dead), (192, .row true 1 (([[109, 101, 108, 111, 100, 121], [110, 111, 116, 101], [102, 97, 99, 101]] : List (List UInt8)).map V.str)), (64, .box [AS [], AS [], AS []]), (0, .box [.val none (.sl 1 (v0.1.map (V.int .u8))), AI v0.2.1, .val none (.int .u64 v0.2.2)])] rfl rfl rfl (by decide) (con_spec_l00Src_one e1006) c37_ok (by first | rfl | simp) killO_nil rfl rfl ?_
  refine r_nil ?_
  refine cF hF (fun hF => ?_) fun hF => ?_
  ·
   obtain ⟨v1007, e1007, hF⟩ := bind_get hF
   obtain ⟨g1008, hF⟩ := need_some hF
   refine w_alt 1280 1728 rfl rfl ⟨?_, ?_, ?_, trivial⟩
   ·
    refine qp (.ptr 384 0 2) rfl (qp (AS v1002.2) rfl (qp (.ptr 0 0 0) rfl ?_))
    refine qP [] (AS v1007.2) [(0, .box [.val none (.sl 1 (v1007.1.1.map (V.int .u8))), AI v1007.1.2.1, .val none (.int .u64 v1007.1.2.2)]), (0, .box [.val none (.sl 1 (v1006.1.1.map (V.int .u8))), AI v1006.1.2.1, .val none (.int .u64 v1006.1.2.2)]), (384, .box [AS v1000.2, AS v1001.2, AS v1002.2]), (0, .box [.val none (.sl 1 (v1002.1.1.map (V.int .u8))), AI v1002.1.2.1, .val none (.int .u64 v1002.1.2.2)]), (896, .dead), (896, .row true 1 (([[], [120], [97, 32, 98, 32, 99], [49, 50, 32, 51, 52], [111, 97, 107, 47, 52, 48]] : List (List UInt8)).map V.str)), (384, .box [AS v1000.2, AS v1001.2, AS []]), (0, .box [.val none (.sl 1 (v1001.1.1.map (V.int .u8))), AI v1001.1.2.1, .val none (.int .u64 v1001.1.2.2)]), (576, .dead), (576, .row true 1 ([[97], [98], [99], [100]].map V.str)), (384, .box [AS v1000.2, AS [], AS []]), (384, .box [AS [], AS [], AS []]), (0, .box [.val none (.sl 1 (v1000.1.1.map (V.int .u8))), AI v1000.1.2.1, .val none (.int .u64 v1000.1.2.2)]), (192, .dead), (192, .row true 1 (([[109, 101, 108, 111, 100, 121], [110, 111, 116, 101], [102, 97, 99, 101]] : List (List UInt8)).map V.str)), (64, .box [AS [], AS [], AS []]), (0, .box [.val none (.sl 1 (v0.1.map (V.int .u8))), AI v0.2.1, .val none (.int .u64 v0.2.2)])] rfl rfl rfl (by decide) (con_spec_l00Src_word e1007) c38_ok (by first | rfl | simp) killO_nil rfl rfl ?_
    refine qp (AS (v1002.2 ++ v1007.2)) (ev_add_s rfl rfl g1008) (qp (.ptr 384 0 2) rfl ?_)
    refine qf0 (.undef) [(384, .box [AS v1000.2, AS v1001.2, AS (v1002.2 ++ v1007.2)]), (0, .box [.val none (.sl 1 (v1007.1.1.map (V.int .u8))), AI v1007.1.2.1, .val none (.int .u64 v1007.1.2.2)]), (0, .box [.val none (.sl 1 (v1006.1.1.map (V.int .u8))), AI v1006.1.2.1, .val none (.int .u64 v1006.1.2.2)]), (384, .box [AS v1000.2, AS v1001.2, AS v1002.2]), (0, .box [.val none (.sl 1 (v1002.1.1.map (V.int .u8))), AI v1002.1.2.1, .val none (.int .u64 v1002.1.2.2)]), (896, .dead), (896, .row true 1 (([[], [120], [97, 32, 98, 32, 99], [49, 50, 32, 51, 52], [111, 97, 107, 47, 52, 48]] : List (List UInt8)).map V.str)), (384, .box [AS v1000.2, AS v1001.2, AS []]), (0, .box [.val none (.sl 1 (v1001.1.1.map (V.int .u8))), AI v1001.1.2.1, .val none (.int .u64 v1001.1.2.2)]), (576, .dead), (576, .row true 1 ([[97], [98], [99], [100]].map V.str)), (384, .box [AS v1000.2, AS [], AS []]), (384, .box [AS [], AS [], AS []]), (0, .box [.val none (.sl 1 (v1000.1.1.map (V.int .u8))), AI v1000.1.2.1, .val none (.int .u64 v1000.1.2.2)]), (192, .dead), (192, .row true 1 (([[109, 101, 108, 111, 100, 121], [110, 111, 116, 101], [102, 97, 99, 101]] : List (List UInt8)).map V.str)), (64, .box [AS [], AS [], AS []]), (0, .box [.val none (.sl 1 (v0.1.map (V.int .u8))), AI v0.2.1, .val none (.int .u64 v0.2.2)])] (by simp) ?_
    refine r_nil ?_
    refine thenQ_n ?_
    refine ar (l' := [(0, .ptr 0 0 0), (2, .ptr 1 0 0), (3, .ptr 2 0 0)]) (L := [(2, .box [AS v1000.2, AS v1001.2, AS (v1002.2 ++ v1007.2)]), (1, .box [AS [], AS [], AS []]), (0, .box [.val none (.sl 1 (v1007.1.1.map (V.int .u8))), AI v1007.1.2.1, .val none (.int .u64 v1007.1.2.2)])]) [0, 2, 3] [(384, 2), (64, 1), (0, 0)] 3 ⟨_, _, _, _, rfl, hF⟩
   ·
    refine qp (.ptr 384 0 2) rfl (qp (.ptr 0 0 0) rfl ?_)
    refine qP [] (AS v1007.2) [(0, .box [.val none (.sl 1 (v1007.1.1.map (V.int .u8))), AI v1007.1.2.1, .val none (.int .u64 v1007.1.2.2)]), (0, .box [.val none (.sl 1 (v1006.1.1.map (V.int .u8))), AI v1006.1.2.1, .val none (.int .u64 v1006.1.2.2)]), (384, .box [AS v1000.2, AS v1001.2, AS v1002.2]), (0, .box [.val none (.sl 1 (v1002.1.1.map (V.int .u8))), AI v1002.1.2.1, .val none (.int .u64 v1002.1.2.2)]), (896, .dead), (896, .row true 1 (([[], [120], [97, 32, 98, 32, 99], [49, 50, 32, 51, 52], [111, 97, 107, 47, 52, 48]] : List (List UInt8)).map V.str)), (384, .box [AS v1000.2, AS v1001.2, AS []]), (0, .box [.val none (.sl 1 (v1001.1.1.map (V.int .u8))), AI v1001.1.2.1, .val none (.int .u64 v1001.1.2.2)]), (576, .dead), (576, .row true 1 ([[97], [98], [99], [100]].map V.str)), (384, .box [AS v1000.2, AS [], AS []]), (384, .box [AS [], AS [], AS []]), (0, .box [.val none (.sl 1 (v1000.1.1.map (V.int .u8))), AI v1000.1.2.1, .val none (.int .u64 v1000.1.2.2)]), (192, .dead), (192, .row true 1 (([[109, 101, 108, 111, 100, 121], [110, 111, 116, 101], [102, 97, 99, 101]] : List (List UInt8)).map V.str)), (64, .box [AS [], AS [], AS []]), (0, .box [.val none (.sl 1 (v0.1.map (V.int .u8))), AI v0.2.1, .val none (.int .u64 v0.2.2)])] rfl rfl rfl (by decide) (con_spec_l00Src_word e1007) c38_ok (by first | rfl | simp) killO_nil rfl rfl ?_
    refine qp (AS v1002.2) rfl ?_
    refine qp (AS (v1002.2 ++ v1007.2)) (ev_add_s rfl rfl g1008) (qp (.ptr 384 0 2) rfl ?_)
    refine qf0 (.undef) [(384, .box [AS v1000.2, AS v1001.2, AS (v1002.2 ++ v1007.2)]), (0, .box [.val none (.sl 1 (v1007.1.1.map (V.int .u8))), AI v1007.1.2.1, .val none (.int .u64 v1007.1.2.2)]), (0, .box [.val none (.sl 1 (v1006.1.1.map (V.int .u8))), AI v1006.1.2.1, .val none (.int .u64 v1006.1.2.2)]), (384, .box [AS v1000.2, AS v1001.2, AS v1002.2]), (0, .box [.val none (.sl 1 (v1002.1.1.map (V.int .u8))), AI v1002.1.2.1, .val none (.int .u64 v1002.1.2.2)]), (896, .dead), (896, .row true 1 (([[], [120], [97, 32, 98, 32, 99], [49, 50, 32, 51, 52], [111, 97, 107, 47, 52, 48]] : List (List UInt8)).map V.str)), (384, .box [AS v1000.2, AS v1001.2, AS []]), (0, .box [.val none (.sl 1 (v1001.1.1.map (V.int .u8))), AI v1001.1.2.1, .val none (.int .u64 v1001.1.2.2)]), (576, .dead), (576, .row true 1 ([[97], [98], [99], [100]].map V.str)), (384, .box [AS v1000.2, AS [], AS []]), (384, .box [AS [], AS [], AS []]), (0, .box [.val none (.sl 1 (v1000.1.1.map (V.int .u8))), AI v1000.1.2.1, .val none (.int .u64 v1000.1.2.2)]), (192, .dead), (192, .row true 1 (([[109, 101, 108, 111, 100, 121], [110, 111, 116, 101], [102, 97, 99, 101]] : List (List UInt8)).map V.str)), (64, .box [AS [], AS [], AS []]), (0, .box [.val none (.sl 1 (v0.1.map (V.int .u8))), AI v0.2.1, .val none (.int .u64 v0.2.2)])] (by simp) ?_
    refine r_nil ?_
    refine thenQ_n ?_
    refine ar (l' := [(0, .ptr 0 0 0), (2, .ptr 1 0 0), (3, .ptr 2 0 0)]) (L := [(2, .box [AS v1000.2, AS v1001.2, AS (v1002.2 ++ v1007.2)]), (1, .box [AS [], AS [], AS []]), (0, .box [.val none (.sl 1 (v1007.1.1.map (V.int .u8))), AI v1007.1.2.1, .val none (.int .u64 v1007.1.2.2)])]) [0, 2, 3] [(384, 2), (64, 1), (0, 0)] 3 ⟨_, _, _, _, rfl, hF⟩
   ·
    refine qp (.ptr 0 0 0) rfl ?_
    refine qP [] (AS v1007.2) [(0, .box [.val none (.sl 1 (v1007.1.1.map (V.int .u8))), AI v1007.1.2.1, .val none (.int .u64 v1007.1.2.2)]), (0, .box [.val none (.sl 1 (v1006.1.1.map (V.int .u8))), AI v1006.1.2.1, .val none (.int .u64 v1006.1.2.2)]), (384, .box [AS v1000.2, AS v1001.2, AS v1002.2]), (0, .box [.val none (.sl 1 (v1002.1.1.map (V.int .u8))), AI v1002.1.2.1, .val none (.int .u64 v1002.1.2.2)]), (896, .dead), (896, .row true 1 (([[], [120], [97, 32, 98, 32, 99], [49, 50, 32, 51, 52], [111, 97, 107, 47, 52, 48]] : List (List UInt8)).map V.str)), (384, .box [AS v1000.2, AS v1001.2, AS []]), (0, .box [.val none (.sl 1 (v1001.1.1.map (V.int .u8))), AI v1001.1.2.1, .val none (.int .u64 v1001.1.2.2)]), (576, .dead), (576, .row true 1 ([[97], [98], [99], [100]].map V.str)), (384, .box [AS v1000.2, AS [], AS []]), (384, .box [AS [], AS [], AS []]), (0, .box [.val none (.sl 1 (v1000.1.1.map (V.int .u8))), AI v1000.1.2.1, .val none (.int .u64 v1000.1.2.2)]), (192, .dead), (192, .row true 1 (([[109, 101, 108, 111, 100, 121], [110, 111, 116, 101], [102, 97, 99, 101]] : List (List UInt8)).map V.str)), (64, .box [AS [], AS [], AS []]), (0, .box [.val none (.sl 1 (v0.1.map (V.int .u8))), AI v0.2.1, .val none (.int .u64 v0.2.2)])] rfl rfl rfl (by decide) (con_spec_l00Src_word e1007) c38_ok (by first | rfl | simp) killO_nil rfl rfl ?_
    refine qp (.ptr 384 0 2) rfl (qp (AS v1002.2) rfl ?_)
    refine qp (AS (v1002.2 ++ v1007.2)) (ev_add_s rfl rfl g1008) (qp (.ptr 384 0 2) rfl ?_)
    refine qf0 (.undef) [(384, .box [AS v1000.2, AS v1001.2, AS (v1002.2 ++ v1007.2)]), (0, .box [.val none (.sl 1 (v1007.1.1.map (V.int .u8))), AI v1007.1.2.1, .val none (.int .u64 v1007.1.2.2)]), (0, .box [.val none (.sl 1 (v1006.1.1.map (V.int .u8))), AI v1006.1.2.1, .val none (.int .u64 v1006.1.2.2)]), (384, .box [AS v1000.2, AS v1001.2, AS v1002.2]), (0, .box [.val none (.sl 1 (v1002.1.1.map (V.int .u8))), AI v1002.1.2.1, .val none (.int .u64 v1002.1.2.2)]), (896, .dead), (896, .row true 1 (([[], [120], [97, 32, 98, 32, 99], [49, 50, 32, 51, 52], [111, 97, 107, 47, 52, 48]] : List (List UInt8)).map V.str)), (384, .box [AS v1000.2, AS v1001.2, AS []]), (0, .box [.val none (.sl 1 (v1001.1.1.map (V.int .u8))), AI v1001.1.2.1, .val none (.int .u64 v1001.1.2.2)]), (576, .dead), (576, .row true 1 ([[97], [98], [99], [100]].map V.str)), (384, .box [AS v1000.2, AS [], AS []]), (384, .box [AS [], AS [], AS []]), (0, .box [.val none (.sl 1 (v1000.1.1.map (V.int .u8))), AI v1000.1.2.1, .val none (.int .u64 v1000.1.2.2)]), (192, .dead), (192, .row true 1 (([[109, 101, 108, 111, 100, 121], [110, 111, 116, 101], [102, 97, 99, 101]] : List (List UInt8)).map V.str)), (64, .box [AS [], AS [], AS []]), (0, .box [.val none (.sl 1 (v0.1.map (V.int .u8))), AI v0.2.1, .val none (.int .u64 v0.2.2)])] (by simp) ?_
    refine r_nil ?_
    refine thenQ_n ?_
    refine ar (l' := [(0, .ptr 0 0 0), (2, .ptr 1 0 0), (3, .ptr 2 0 0)]) (L := [(2, .box [AS v1000.2, AS v1001.2, AS (v1002.2 ++ v1007.2)]), (1, .box [AS [], AS [], AS []]), (0, .box [.val none (.sl 1 (v1007.1.1.map (V.int .u8))), AI v1007.1.2.1, .val none (.int .u64 v1007.1.2.2)])]) [0, 2, 3] [(384, 2), (64, 1), (0, 0)] 3 ⟨_, _, _, _, rfl, hF⟩
  ·
   refine w_skip ?_
   refine thenQ_n ?_
   refine ar (l' := [(0, .ptr 0 0 0), (2, .ptr 1 0 0), (3, .ptr 2 0 0)]) (L := [(2, .box [AS v1000.2, AS v1001.2, AS v1002.2]), (1, .box [AS [], AS [], AS []]), (0, .box [.val none (.sl 1 (v1006.1.1.map (V.int .u8))), AI v1006.1.2.1, .val none (.int .u64 v1006.1.2.2)])]) [0, 2, 3] [(384, 2), (64, 1), (0, 0)] 3 ⟨_, _, _, _, rfl, hF⟩
 ·
  rintro s' ⟨v50008, v50009, v50010, v50011, rfl, hF⟩
  unfold F_spec_l29DrawOne_j0 at hF
  refine w_meet (fun s' => ∃ (v50012 : List Int) (v50013 : Int) (v50014 : Int) (v50015 : List UInt8), s' = mkS [(0, .ptr 0 0 0), (2, .ptr 1 0 0), (3, .ptr 2 0 0)] (fo [(2, .box [AS v1000.2, AS v1001.2, AS v50015]), (1, .box [AS [], AS [], AS []]), (0, .box [.val none (.sl 1 (v50012.map (V.int .u8))), AI v50013, .val none (.int .u64 v50014)])]) 3 ∧ F_spec_l29DrawOne_j1 v1000 v1001 v50012 v50013 v50014 v50015 = some r) ?_ ?_
  ·
   refine ws 3 451 ?_
   refine qp (.ptr 2 0 0) rfl (qp (AS v1000.2) rfl (qp (AB (decide (v1000.2 = [109, 101, 108, 111, 100, 121]))) rfl (qp (AB (decide (v1000.2 = [109, 101, 108, 111, 100, 121]))) rfl ?_)))
   refine q_case 27 hF rfl (fun hF => ?_) (fun hF => ?_)
   ·
    refine qg (.ptr 0 0 0) rfl rfl ?_
    obtain ⟨v1009, e1009, hF⟩ := bind_get hF
    refine qPg [] (AB v1009.2) [(0, .box [.val none (.sl 1 (v1009.1.1.map (V.int .u8))), AI v1009.1.2.1, .val none (.int .u64 v1009.1.2.2)]), (2, .box [AS v1000.2, AS v1001.2, AS v50011]), (1, .box [AS [], AS [], AS []]), (0, .box [.val none (.sl 1 (v50008.map (V.int .u8))), AI v50009, .val none (.int .u64 v50010)])] rfl rfl rfl rfl (by decide) (con_spec_l00Src_one e1009) c37_ok (by first | rfl | simp) killO_nil rfl rfl ?_
    refine qp (AB v1009.2) rfl ?_
    refine r_nil ?_
    refine cF hF (fun hF => ?_) fun hF => ?_
    ·
     refine w_reg 451 771 rfl rfl ?_
     refine qp (.ptr 0 0 0) rfl ?_
     obtain ⟨v1010, e1010, hF⟩ := bind_get hF
     refine qP [] (.sl 515 0 v1010.2.length) [(515, .row true 2 (v1010.2.map eNote)), (0, .box [.val none (.sl 1 (v1010.1.1.map (V.int .u8))), AI v1010.1.2.1, .val none (.int .u64 v1010.1.2.2)]), (0, .box [.val none (.sl 1 (v1009.1.1.map (V.int .u8))), AI v1009.1.2.1, .val none (.int .u64 v1009.1.2.2)]), (2, .box [AS v1000.2, AS v1001.2, AS v50011]), (1, .box [AS [], AS [], AS []]), (0, .box [.val none (.sl 1 (v50008.map (V.int .u8))), AI v50009, .val none (.int .u64 v50010)])] rfl rfl rfl (by decide) (con_spec_l09Draw e1010) c40_ok (by first | rfl | simp) killO_nil rfl (by simp [res_spec_l09Draw]) ?_
     obtain ⟨v1011, e1011, hF⟩ := bind_get hF
     refine qc (AS v1011) [(515, .row true 2 (v1010.2.map eNote)), (0, .box [.val none (.sl 1 (v1010.1.1.map (V.int .u8))), AI v1010.1.2.1, .val none (.int .u64 v1010.1.2.2)]), (0, .box [.val none (.sl 1 (v1009.1.1.map (V.int .u8))), AI v1009.1.2.1, .val none (.int .u64 v1009.1.2.2)]), (2, .box [AS v1000.2, AS v1001.2, AS v50011]), (1, .box [AS [], AS [], AS []]), (0, .box [.val none (.sl 1 (v50008.map (V.int .u8))), AI v50009, .val none (.int .u64 v50010)])] true (con_spec_l09Text e1011) c39_ok (by simp [List.take_of_length_le]) rfl ?_
     refine qp (.ptr 2 0 2) rfl ?_
     refine qf0 (.undef) [(2, .box [AS v1000.2, AS v1001.2, AS v1011]), (515, .row true 2 (v1010.2.map eNote)), (0, .box [.val none (.sl 1 (v1010.1.1.map (V.int .u8))), AI v1010.1.2.1, .val none (.int .u64 v1010.1.2.2)]), (0, .box [.val none (.sl 1 (v1009.1.1.map (V.int .u8))), AI v1009.1.2.1, .val none (.int .u64 v1009.1.2.2)]), (2, .box [AS v1000.2, AS v1001.2, AS v50011]), (1, .box [AS [], AS [], AS []]), (0, .box [.val none (.sl 1 (v50008.map (V.int .u8))), AI v50009, .val none (.int .u64 v50010)])] (by simp) ?_
     refine r_nil ?_
     refine thenQ_n ?_
     refine ar (l' := [(0, .ptr 0 0 0), (2, .ptr 1 0 0), (3, .ptr 2 0 0)]) (L := [(2, .box [AS v1000.2, AS v1001.2, AS v1011]), (1, .box [AS [], AS [], AS []]), (0, .box [.val none (.sl 1 (v1010.1.1.map (V.int .u8))), AI v1010.1.2.1, .val none (.int .u64 v1010.1.2.2)])]) [0, 2, 3] [(2, 2), (1, 1), (0, 0)] 3 ⟨_, _, _, _, rfl, hF⟩
    ·
     refine w_skip ?_
     refine thenQ_n ?_
     refine ar (l' := [(0, .ptr 0 0 0), (2, .ptr 1 0 0), (3, .ptr 2 0 0)]) (L := [(2, .box [AS v1000.2, AS v1001.2, AS v50011]), (1, .box [AS [], AS [], AS []]), (0, .box [.val none (.sl 1 (v1009.1.1.map (V.int .u8))), AI v1009.1.2.1, .val none (.int .u64 v1009.1.2.2)])]) [0, 2, 3] [(2, 2), (1, 1), (0, 0)] 3 ⟨_, _, _, _, rfl, hF⟩
   ·
    refine qn rfl (qn rfl (qp (AB false) rfl ?_))
    refine r_nil ?_
    refine w_false rfl ?_
    refine w_skip ?_
    refine thenQ_n ?_
    refine ar (l' := [(0, .ptr 0 0 0), (2, .ptr 1 0 0), (3, .ptr 2 0 0)]) (L := [(2, .box [AS v1000.2, AS v1001.2, AS v50011]), (1, .box [AS [], AS [], AS []]), (0, .box [.val none (.sl 1 (v50008.map (V.int .u8))), AI v50009, .val none (.int .u64 v50010)])]) [0, 2, 3] [(2, 2), (1, 1), (0, 0)] 3 ⟨_, _, _, _, rfl, hF⟩
  ·
   rintro s' ⟨v50012, v50013, v50014, v50015, rfl, hF⟩
   unfold F_spec_l29DrawOne_j1 at hF
   refine w_seq ?_
   refine ws 3 131 ?_
   refine qp (.ptr 0 0 0) rfl ?_
   obtain ⟨v1012, e1012, hF⟩ := bind_get hF
   refine qP [] (AB v1012.2) [(0, .box [.val none (.sl 1 (v1012.1.1.map (V.int .u8))), AI v1012.1.2.1, .val none (.int .u64 v1012.1.2.2)]), (2, .box [AS v1000.2, AS v1001.2, AS v50015]), (1, .box [AS [], AS [], AS []]), (0, .box [.val none (.sl 1 (v50012.map (V.int .u8))), AI v50013, .val none (.int .u64 v50014)])] rfl rfl rfl (by decide) (con_spec_l00Src_one e1012) c37_ok (by first | rfl | simp) killO_nil rfl rfl ?_
   refine r_nil ?_
   refine cF hF (fun hF => ?_) fun hF => ?_
   ·
    refine w_reg 131 579 rfl rfl ?_
    refine qp (.ptr 0 0 0) rfl ?_
    obtain ⟨v1013, e1013, hF⟩ := bind_get hF
    refine qP [] (AI v1013.2) [(0, .box [.val none (.sl 1 (v1013.1.1.map (V.int .u8))), AI v1013.1.2.1, .val none (.int .u64 v1013.1.2.2)]), (0, .box [.val none (.sl 1 (v1012.1.1.map (V.int .u8))), AI v1012.1.2.1, .val none (.int .u64 v1012.1.2.2)]), (2, .box [AS v1000.2, AS v1001.2, AS v50015]), (1, .box [AS [], AS [], AS []]), (0, .box [.val none (.sl 1 (v50012.map (V.int .u8))), AI v50013, .val none (.int .u64 v50014)])] rfl rfl rfl (by decide) (con_spec_l00Src_pick e1013) c24_ok (by first | rfl | simp) killO_nil rfl rfl ?_
    refine qp (AI (w64 (399 + v1013.2))) rfl ?_
    obtain ⟨g1014, hF⟩ := need_some hF
    refine qf (.sl 323 0 ((List.replicate (w64 (399 + v1013.2)).toNat (0 : Int)).length)) [(323, .row true 1 ((List.replicate (w64 (399 + v1013.2)).toNat (0 : Int)).map (V.int .u8))), (0, .box [.val none (.sl 1 (v1013.1.1.map (V.int .u8))), AI v1013.1.2.1, .val none (.int .u64 v1013.1.2.2)]), (0, .box [.val none (.sl 1 (v1012.1.1.map (V.int .u8))), AI v1012.1.2.1, .val none (.int .u64 v1012.1.2.2)]), (2, .box [AS v1000.2, AS v1001.2, AS v50015]), (1, .box [AS [], AS [], AS []]), (0, .box [.val none (.sl 1 (v50012.map (V.int .u8))), AI v50013, .val none (.int .u64 v50014)])] (effT_mks rfl rfl g1014 rfl) ?_
    refine qp (AS (bytesI (List.replicate (w64 (399 + v1013.2)).toNat (0 : Int)))) (ev_bts_r rfl (by simp) rfl) (qp (.ptr 2 0 2) rfl ?_)
    refine qf0 (.undef) [(2, .box [AS v1000.2, AS v1001.2, AS (bytesI (List.replicate (w64 (399 + v1013.2)).toNat (0 : Int)))]), (323, .row true 1 ((List.replicate (w64 (399 + v1013.2)).toNat (0 : Int)).map (V.int .u8))), (0, .box [.val none (.sl 1 (v1013.1.1.map (V.int .u8))), AI v1013.1.2.1, .val none (.int .u64 v1013.1.2.2)]), (0, .box [.val none (.sl 1 (v1012.1.1.map (V.int .u8))), AI v1012.1.2.1, .val none (.int .u64 v1012.1.2.2)]), (2, .box [AS v1000.2, AS v1001.2, AS v50015]), (1, .box [AS [], AS [], AS []]), (0, .box [.val none (.sl 1 (v50012.map (V.int .u8))), AI v50013, .val none (.int .u64 v50014)])] (by simp) ?_
    refine r_nil ?_
    refine thenQ_n ?_
    refine ws 579 707 ?_
    refine qp (.agg [AS v1000.2, AS v1001.2, AS (bytesI (List.replicate (w64 (399 + v1013.2)).toNat (0 : Int)))]) rfl ?_
    refine qf0 (.undef) [(1, .box [AS v1000.2, AS v1001.2, AS (bytesI (List.replicate (w64 (399 + v1013.2)).toNat (0 : Int)))]), (2, .box [AS v1000.2, AS v1001.2, AS (bytesI (List.replicate (w64 (399 + v1013.2)).toNat (0 : Int)))]), (323, .row true 1 ((List.replicate (w64 (399 + v1013.2)).toNat (0 : Int)).map (V.int .u8))), (0, .box [.val none (.sl 1 (v1013.1.1.map (V.int .u8))), AI v1013.1.2.1, .val none (.int .u64 v1013.1.2.2)]), (0, .box [.val none (.sl 1 (v1012.1.1.map (V.int .u8))), AI v1012.1.2.1, .val none (.int .u64 v1012.1.2.2)]), (2, .box [AS v1000.2, AS v1001.2, AS v50015]), (1, .box [AS [], AS [], AS []]), (0, .box [.val none (.sl 1 (v50012.map (V.int .u8))), AI v50013, .val none (.int .u64 v50014)])] (by simp) ?_
    refine r_nil ?_
    refine w_ret ?_
    cases hF
    exact endP_r rfl (by first | rfl | (simp [List.take_of_length_le]; first | exact ⟨rfl, rfl⟩ | rfl)) (by simp) (by first | rfl | simp) (by first | rfl | simp [res_spec_l29DrawOne, List.take_of_length_le]) rfl (by first | rfl | simp)
   ·
    refine w_skip ?_
    refine thenQ_n ?_
    refine ws 131 259 ?_
    refine qp (.agg [AS v1000.2, AS v1001.2, AS v50015]) rfl ?_
    refine qf0 (.undef) [(1, .box [AS v1000.2, AS v1001.2, AS v50015]), (0, .box [.val none (.sl 1 (v1012.1.1.map (V.int .u8))), AI v1012.1.2.1, .val none (.int .u64 v1012.1.2.2)]), (2, .box [AS v1000.2, AS v1001.2, AS v50015]), (1, .box [AS [], AS [], AS []]), (0, .box [.val none (.sl 1 (v50012.map (V.int .u8))), AI v50013, .val none (.int .u64 v50014)])] (by simp) ?_
    refine r_nil ?_
    refine w_ret ?_
    cases hF
    exact endP_r rfl (by first | rfl | (simp [List.take_of_length_le]; first | exact ⟨rfl, rfl⟩ | rfl)) (by simp) (by first | rfl | simp) (by first | rfl | simp [res_spec_l29DrawOne, List.take_of_length_le]) rfl (by first | rfl | simp)

def c54 : MC := (.seq (.reg [rg 2 (.p true (.mv (.c (.bool false))))]) (.seq (.reg [mvt 3 0, rg 4 (.p true (.bin .geq (.t 3) (.c (.int .u8 97)))), mvt 5 4, ⟨(some 6), (some (5, true)), (.p true (.mv (.t 0)))⟩, ⟨(some 7), (some (5, true)), (.p true (.bin .leq (.t 6) (.c (.int .u8 122))))⟩, rg 8 (.p true (.pick (.t 5) (.t 7) (.c (.bool false)))), mvt 2 8]) .ret))
theorem c54_is : compFn Try.prog 54 = some (c54, [(.tmp 2)]) := by kernel_rfl
theorem c54_ok : okFn Try.prog 54 = true := by kernel_rfl

noncomputable def F_spec_l01Small (v0 : Int) : Option (Bool) :=
 (bif (decide ((97 : Int) ≤ v0)) then some (decide (v0 ≤ (122 : Int)))
 else some false)
@[simp] def res_spec_l01Small (r : Bool) : RV := .one (.one (.val (.bool r)))
theorem con_spec_l01Small {v0 : Int} {r : Bool} (hF : F_spec_l01Small v0 = some r) : Con Try.prog 54 [.int .u8 v0] (res_spec_l01Small r) := by
 unfold F_spec_l01Small at hF
 refine con_of c54_is fun N => ?_
 refine ws 0 64 ?_
 refine qp (AB false) rfl ?_
 refine r_nil ?_
 refine ws 64 512 ?_
 refine qp (.val none (.int .u8 v0)) rfl (qp (AB (decide ((97 : Int) ≤ v0))) rfl (qp (AB (decide ((97 : Int) ≤ v0))) rfl ?_))
 refine q_case 5 hF rfl (fun hF => ?_) (fun hF => ?_)
 ·
  refine qg (.val none (.int .u8 v0)) rfl rfl (qg (AB (decide (v0 ≤ (122 : Int)))) rfl rfl (qp (AB (decide (v0 ≤ (122 : Int)))) rfl (qp (AB (decide (v0 ≤ (122 : Int)))) rfl ?_)))
  refine r_nil ?_
  refine w_ret ?_
  cases hF
  exact eR
 ·
  refine qn rfl (qn rfl (qp (AB false) rfl (qp (AB false) rfl ?_)))
  refine r_nil ?_
  refine w_ret ?_
  cases hF
  exact eR

def c55 : MC := (.seq (.reg [rg 2 (.p true (.mv (.c (.bool false))))]) (.seq (.reg [mvt 3 0, rg 4 (.p true (.bin .geq (.t 3) (.c (.int .u8 48)))), mvt 5 4, ⟨(some 6), (some (5, true)), (.p true (.mv (.t 0)))⟩, ⟨(some 7), (some (5, true)), (.p true (.bin .leq (.t 6) (.c (.int .u8 57))))⟩, rg 8 (.p true (.pick (.t 5) (.t 7) (.c (.bool false)))), mvt 2 8]) .ret))
theorem c55_is : compFn Try.prog 55 = some (c55, [(.tmp 2)]) := by kernel_rfl
theorem c55_ok : okFn Try.prog 55 = true := by kernel_rfl

noncomputable def F_spec_l01Digit (v0 : Int) : Option (Bool) :=
 (bif (decide ((48 : Int) ≤ v0)) then some (decide (v0 ≤ (57 : Int)))
 else some false)
@[simp] def res_spec_l01Digit (r : Bool) : RV := .one (.one (.val (.bool r)))
theorem con_spec_l01Digit {v0 : Int} {r : Bool} (hF : F_spec_l01Digit v0 = some r) : Con Try.prog 55 [.int .u8 v0] (res_spec_l01Digit r) := by
 unfold F_spec_l01Digit at hF
 refine con_of c55_is fun N => ?_
 refine ws 0 64 ?_
 refine qp (AB false) rfl ?_
 refine r_nil ?_
 refine ws 64 512 ?_
 refine qp (.val none (.int .u8 v0)) rfl (qp (AB (decide ((48 : Int) ≤ v0))) rfl (qp (AB (decide ((48 : Int) ≤ v0))) rfl ?_))
 refine q_case 5 hF rfl (fun hF => ?_) (fun hF => ?_)
 ·
  refine qg (.val none (.int .u8 v0)) rfl rfl (qg (AB (decide (v0 ≤ (57 : Int)))) rfl rfl (qp (AB (decide (v0 ≤ (57 : Int)))) rfl (qp (AB (decide (v0 ≤ (57 : Int)))) rfl ?_)))
  refine r_nil ?_
  refine w_ret ?_
  cases hF
  exact eR
 ·
  refine qn rfl (qn rfl (qp (AB false) rfl (qp (AB false) rfl ?_)))
  refine r_nil ?_
  refine w_ret ?_
  cases hF
  exact eR

def c46 : MC := (.seq (.reg [rg 2 (.p true (.mv (.c (.bool false))))]) (.seq (.seq (.reg [mvt 4 0, rg 5 (.p true (.bin .eql (.t 4) (.c (.str [])))), mvt 6 5, ⟨(some 7), (some (6, false)), (.p true (.mv (.t 0)))⟩, ⟨(some 8), (some (6, false)), (.p true (.lens (.t 7)))⟩, ⟨(some 9), (some (6, false)), (.p true (.bin .gtr (.t 8) (.c (.int .i64 10))))⟩, rg 10 (.p true (.pick (.t 6) (.c (.bool true)) (.t 9))), mvt 11 10, ⟨(some 12), (some (11, false)), (.p true (.mv (.t 0)))⟩, ⟨(some 13), (some (11, false)), (.p true (.ixs (.t 12) (.c (.int .i64 0))))⟩, ⟨(some 14), (some (11, false)), (.call true 54 [(.t 13)])⟩, ⟨(some 15), (some (11, false)), (.p true (.not (.t 14)))⟩, rg 16 (.p true (.pick (.t 11) (.c (.bool true)) (.t 15)))]) (.cond (.t 16) (.seq (.reg [rg 2 (.p true (.mv (.c (.bool false))))]) .ret) .skip)) (.seq (.seq (.reg [rg 3 (.p true (.mv (.c (.int .i64 0))))]) (.block 0 (.loop (.seq (.seq (.reg [mvt 17 3, mvt 18 0, rg 19 (.p true (.lens (.t 18))), rg 20 (.p true (.bin .lss (.t 17) (.t 19)))]) (.cond (.t 20) .skip (.exit 0))) (.seq (.block 1 (.seq (.reg [mvt 23 0, mvt 24 3, rg 25 (.p true (.ixs (.t 23) (.t 24))), rg 26 (.call true 54 [(.t 25)]), rg 27 (.p true (.not (.t 26))), mvt 28 27, ⟨(some 29), (some (28, true)), (.p true (.mv (.t 0)))⟩, ⟨(some 30), (some (28, true)), (.p true (.mv (.t 3)))⟩, ⟨(some 31), (some (28, true)), (.p true (.ixs (.t 29) (.t 30)))⟩, ⟨(some 32), (some (28, true)), (.call true 55 [(.t 31)])⟩, ⟨(some 33), (some (28, true)), (.p true (.not (.t 32)))⟩, rg 34 (.p true (.pick (.t 28) (.t 33) (.c (.bool false))))]) (.cond (.t 34) (.seq (.reg [rg 2 (.p true (.mv (.c (.bool false))))]) .ret) .skip))) (.reg [mvt 21 3, rg 22 (.p true (.bin .add (.t 21) (.c (.int .i64 1)))), mvt 3 22])))))) (.seq (.reg [rg 2 (.p true (.mv (.c (.bool true))))]) .ret))))
theorem c46_is : compFn Try.prog 46 = some (c46, [(.tmp 2)]) := by kernel_rfl
theorem c46_ok : okFn Try.prog 46 = true := by kernel_rfl

noncomputable def F_spec_l01Name_l0 (v0 : List UInt8) (k1 : Int → Option (Bool)) : Int → Option (Bool)
 | v50003 => (bif (decide (v50003 < (v0.length : Int))) then ((ix v0 v50003).bind fun v1010 => ((F_spec_l01Small (v1010.toNat : Int)).bind fun v1011 => (bif (!v1011) then ((ix v0 v50003).bind fun v1012 => ((F_spec_l01Digit (v1012.toNat : Int)).bind fun v1013 => (bif (!v1013) then some false
 else k1 (w64 (v50003 + 1)))))
 else k1 (w64 (v50003 + 1)))))
 else some true)
noncomputable def F_spec_l01Name (v0 : List UInt8) : Option (Bool) :=
 (bif (decide (v0 = [])) then some false
 else (bif (decide ((10 : Int) < (v0.length : Int))) then some false
 else ((ix v0 0).bind fun v1000 => ((F_spec_l01Small (v1000.toNat : Int)).bind fun v1001 => (bif (!v1001) then some false
 else loop (F_spec_l01Name_l0 v0) 0)))))
@[simp] def res_spec_l01Name (r : Bool) : RV := .one (.one (.val (.bool r)))
theorem con_spec_l01Name {v0 : List UInt8} {r : Bool} (hF : F_spec_l01Name v0 = some r) : Con Try.prog 46 [.str v0] (res_spec_l01Name r) := by
 unfold F_spec_l01Name at hF
 refine con_of c46_is fun N => ?_
 refine ws 0 64 ?_
 refine qp (AB false) rfl ?_
 refine r_nil ?_
 refine w_seq ?_
 refine ws 64 896 ?_
 refine qp (AS v0) rfl (qp (AB (decide (v0 = []))) rfl (qp (AB (decide (v0 = []))) rfl ?_))
 refine q_case 6 hF rfl (fun hF => ?_) (fun hF => ?_)
 ·
  refine qn rfl (qn rfl (qn rfl (qp (AB true) rfl (qp (AB true) rfl (qn rfl (qn rfl (qn rfl ?_)))))))
  refine qn rfl (qp (AB true) rfl ?_)
  refine r_nil ?_
  refine w_true rfl ?_
  refine ws 896 960 ?_
  refine qp (AB false) rfl ?_
  refine r_nil ?_
  refine w_ret ?_
  refine thenQ_r ?_
  cases hF
  exact eR
 ·
  refine qg (AS v0) rfl rfl (qg (AI (v0.length : Int)) rfl rfl (qg (AB (decide ((10 : Int) < (v0.length : Int)))) rfl rfl (qp (AB (decide ((10 : Int) < (v0.length : Int)))) rfl (qp (AB (decide ((10 : Int) < (v0.length : Int)))) rfl ?_))))
  refine q_case 11 hF rfl (fun hF => ?_) (fun hF => ?_)
  ·
   refine qn rfl (qn rfl (qn rfl (qn rfl (qp (AB true) rfl ?_))))
   refine r_nil ?_
   refine w_true rfl ?_
   refine ws 896 960 ?_
   refine qp (AB false) rfl ?_
   refine r_nil ?_
   refine w_ret ?_
   refine thenQ_r ?_
   cases hF
   exact eR
  ·
   refine qg (AS v0) rfl rfl ?_
   obtain ⟨v1000, e1000, hF⟩ := bind_get hF
   refine qg (.val none (.int .u8 (v1000.toNat : Int))) rfl (ev_ixs rfl rfl e1000) ?_
   obtain ⟨v1001, e1001, hF⟩ := bind_get hF
   refine qcg (AB v1001) [] false rfl (con_spec_l01Small e1001) c54_ok (by first | rfl | simp) rfl ?_
   refine qg (AB (!v1001)) rfl rfl (qp (AB (!v1001)) rfl ?_)
   refine r_nil ?_
   refine cF hF (fun hF => ?_) fun hF => ?_
   ·
    refine ws 896 960 ?_
    refine qp (AB false) rfl ?_
    refine r_nil ?_
    refine w_ret ?_
    refine thenQ_r ?_
    cases hF
    exact eR
   ·
    refine w_skip ?_
    refine thenQ_n ?_
    refine w_seq ?_
    refine ws 896 960 ?_
    refine qp (AI 0) rfl ?_
    refine r_nil ?_
    refine w_block ?_
    refine wr (l' := [(0, AS v0), (3, AI 0)]) (L := []) [0, 3] [] 1 ?_
    refine w_loopF (F_spec_l01Name_l0 v0) (fun s : Int => mkS [(0, AS v0), (3, AI s)] (fo []) 1) hF ?_
    rintro k1 v50003 hF
    rw [F_spec_l01Name_l0] at hF
    try dsimp only
    refine w_seq ?_
    refine ws 1 257 ?_
    refine qp (AI v50003) rfl (qp (AS v0) rfl (qp (AI (v0.length : Int)) rfl (qp (AB (decide (v50003 < (v0.length : Int)))) rfl ?_)))
    refine r_nil ?_
    refine cF hF (fun hF => ?_) fun hF => ?_
    ·
     refine w_skip ?_
     refine thenQ_n ?_
     refine w_seq ?_
     refine w_block ?_
     refine ws 257 1025 ?_
     refine qp (AS v0) rfl (qp (AI v50003) rfl ?_)
     obtain ⟨v1010, e1010, hF⟩ := bind_get hF
     refine qp (.val none (.int .u8 (v1010.toNat : Int))) (ev_ixs rfl rfl e1010) ?_
     obtain ⟨v1011, e1011, hF⟩ := bind_get hF
     refine qc (AB v1011) [] false (con_spec_l01Small e1011) c54_ok (by first | rfl | simp) rfl ?_
     refine qp (AB (!v1011)) rfl (qp (AB (!v1011)) rfl ?_)
     refine q_case 28 hF rfl (fun hF => ?_) (fun hF => ?_)
     ·
      refine qg (AS v0) rfl rfl (qg (AI v50003) rfl rfl ?_)
      obtain ⟨v1012, e1012, hF⟩ := bind_get hF
      refine qg (.val none (.int .u8 (v1012.toNat : Int))) rfl (ev_ixs rfl rfl e1012) ?_
      obtain ⟨v1013, e1013, hF⟩ := bind_get hF
      refine qcg (AB v1013) [] false rfl (con_spec_l01Digit e1013) c55_ok (by first | rfl | simp) rfl ?_
      refine qg (AB (!v1013)) rfl rfl (qp (AB (!v1013)) rfl ?_)
      refine r_nil ?_
      refine cF hF (fun hF => ?_) fun hF => ?_
      ·
       refine ws 1025 1089 ?_
       refine qp (AB false) rfl ?_
       refine r_nil ?_
       refine w_ret ?_
       refine blockQ_r ?_
       refine thenQ_r ?_
       refine thenQ_r ?_
       refine blockQ_r ?_
       refine thenQ_r ?_
       cases hF
       exact eR
      ·
       refine w_skip ?_
       refine blockQ_n ?_
       refine thenQ_n ?_
       refine w_reg 1025 1217 rfl rfl ?_
       refine qp (AI v50003) rfl (qp (AI (w64 (v50003 + 1))) rfl (qp (AI (w64 (v50003 + 1))) rfl ?_))
       refine r_nil ?_
       refine thenQ_n ?_
       refine ar (l' := [(0, AS v0), (3, AI (w64 (v50003 + 1)))]) (L := []) [0, 3] [] 1 ⟨_, by rfl, hF⟩
     ·
      refine qn rfl (qn rfl (qn rfl (qn rfl (qn rfl (qp (AB false) rfl ?_)))))
      refine r_nil ?_
      refine w_false rfl ?_
      refine w_skip ?_
      refine blockQ_n ?_
      refine thenQ_n ?_
      refine w_reg 1025 1217 rfl rfl ?_
      refine qp (AI v50003) rfl (qp (AI (w64 (v50003 + 1))) rfl (qp (AI (w64 (v50003 + 1))) rfl ?_))
      refine r_nil ?_
      refine thenQ_n ?_
      refine ar (l' := [(0, AS v0), (3, AI (w64 (v50003 + 1)))]) (L := []) [0, 3] [] 1 ⟨_, by rfl, hF⟩
    ·
     refine w_exit ?_
     refine thenQ_e ?_
     refine thenQ_e ?_
     refine blockQ_e ?_
     refine thenQ_n ?_
     refine ws 257 321 ?_
     refine qp (AB true) rfl ?_
     refine r_nil ?_
     refine w_ret ?_
     cases hF
     exact eR

def c32 : MC := (.seq (.reg [rg 2 (.p true (.mv (.c (.bool false))))]) (.seq (.seq (.reg [rg 3 (.p true (.mv (.c (.int .i64 0))))]) (.block 0 (.loop (.seq (.seq (.reg [mvt 4 3, mvt 5 0, rg 6 (.p true (.nck (.t 5))), rg 7 (.p true (.fad (.t 6) 2)), rg 8 (.p true (.ld (.t 7) 1 false)), rg 9 (.p true (.lens (.t 8))), rg 10 (.p true (.bin .lss (.t 4) (.t 9)))]) (.cond (.t 10) .skip (.exit 0))) (.seq (.block 1 (.seq (.reg [mvt 13 0, rg 14 (.p true (.nck (.t 13))), rg 15 (.p true (.fad (.t 14) 2)), rg 16 (.p true (.ld (.t 15) 1 false)), mvt 17 3, rg 18 (.p true (.ixs (.t 16) (.t 17))), rg 19 (.p true (.bin .eql (.t 18) (.c (.int .u8 10))))]) (.cond (.t 19) (.seq (.reg [rg 2 (.p true (.mv (.c (.bool false))))]) .ret) .skip))) (.reg [mvt 11 3, rg 12 (.p true (.bin .add (.t 11) (.c (.int .i64 1)))), mvt 3 12])))))) (.seq (.reg [mvt 20 0, rg 21 (.p true (.nck (.t 20))), rg 22 (.p true (.fad (.t 21) 0)), rg 23 (.p true (.ld (.t 22) 1 false)), rg 24 (.call true 46 [(.t 23)]), mvt 25 24, ⟨(some 26), (some (25, true)), (.p true (.mv (.t 0)))⟩, ⟨(some 27), (some (25, true)), (.p true (.nck (.t 26)))⟩, ⟨(some 28), (some (25, true)), (.p true (.fad (.t 27) 1))⟩, ⟨(some 29), (some (25, true)), (.p true (.ld (.t 28) 1 false))⟩, ⟨(some 30), (some (25, true)), (.call true 46 [(.t 29)])⟩, rg 31 (.p true (.pick (.t 25) (.t 30) (.c (.bool false)))), mvt 32 31, ⟨(some 33), (some (32, true)), (.p true (.mv (.t 0)))⟩, ⟨(some 34), (some (32, true)), (.p true (.nck (.t 33)))⟩, ⟨(some 35), (some (32, true)), (.p true (.fad (.t 34) 2))⟩, ⟨(some 36), (some (32, true)), (.p true (.ld (.t 35) 1 false))⟩, ⟨(some 37), (some (32, true)), (.p true (.lens (.t 36)))⟩, ⟨(some 38), (some (32, true)), (.p true (.bin .leq (.t 37) (.c (.int .i64 400))))⟩, rg 39 (.p true (.pick (.t 32) (.t 38) (.c (.bool false)))), mvt 2 39]) .ret)))
theorem c32_is : compFn Try.prog 32 = some (c32, [(.tmp 2)]) := by kernel_rfl
theorem c32_ok : okFn Try.prog 32 = true := by kernel_rfl

noncomputable def F_spec_l29One_l0 (v0 : TBlock) (k0 : Int → Option (Bool)) : Int → Option (Bool)
 | v50001 => (bif (decide (v50001 < (v0.2.2.length : Int))) then ((ix v0.2.2 v50001).bind fun v1000 => (bif (decide ((v1000.toNat : Int) = (10 : Int))) then some false
 else k0 (w64 (v50001 + 1))))
 else ((F_spec_l01Name v0.1).bind fun v1001 => (bif v1001 then ((F_spec_l01Name v0.2.1).bind fun v1002 => (bif v1002 then some (decide ((v0.2.2.length : Int) ≤ (400 : Int)))
 else some false))
 else some false)))
noncomputable def F_spec_l29One (v0 : TBlock) : Option (Bool) :=
 loop (F_spec_l29One_l0 v0) 0
@[simp] def res_spec_l29One (r : Bool) : RV := .one (.one (.val (.bool r)))
theorem con_spec_l29One {v0 : TBlock} {r : Bool} (hF : F_spec_l29One v0 = some r) : Con Try.prog 32 [.ptr [.str v0.1, .str v0.2.1, .str v0.2.2]] (res_spec_l29One r) := by
 unfold F_spec_l29One at hF
 refine con_of c32_is fun N => ?_
 refine ws 0 64 ?_
 refine qp (AB false) rfl ?_
 refine r_nil ?_
 refine w_seq ?_
 refine ws 64 128 ?_
 refine qp (AI 0) rfl ?_
 refine r_nil ?_
 refine w_block ?_
 refine wr (l' := [(0, .val none (.ptr [.str v0.1, .str v0.2.1, .str v0.2.2])), (3, AI 0)]) (L := []) [0, 3] [] 1 ?_
 refine w_loopF (F_spec_l29One_l0 v0) (fun s : Int => mkS [(0, .val none (.ptr [.str v0.1, .str v0.2.1, .str v0.2.2])), (3, AI s)] (fo []) 1) hF ?_
 rintro k0 v50001 hF
 rw [F_spec_l29One_l0] at hF
 try dsimp only
 refine w_seq ?_
 refine ws 1 449 ?_
 refine qp (AI v50001) rfl (qp (.val none (.ptr [.str v0.1, .str v0.2.1, .str v0.2.2])) rfl (qp (.val none (.ptr [.str v0.1, .str v0.2.1, .str v0.2.2])) rfl (qp (.val none (.ptr [.str v0.2.2])) rfl (qp (AS v0.2.2) rfl (qp (AI (v0.2.2.length : Int)) rfl (qp (AB (decide (v50001 < (v0.2.2.length : Int)))) rfl ?_))))))
 refine r_nil ?_
 refine cF hF (fun hF => ?_) fun hF => ?_
 ·
  refine w_skip ?_
  refine thenQ_n ?_
  refine w_seq ?_
  refine w_block ?_
  refine ws 449 897 ?_
  refine qp (.val none (.ptr [.str v0.1, .str v0.2.1, .str v0.2.2])) rfl (qp (.val none (.ptr [.str v0.1, .str v0.2.1, .str v0.2.2])) rfl (qp (.val none (.ptr [.str v0.2.2])) rfl (qp (AS v0.2.2) rfl (qp (AI v50001) rfl ?_))))
  obtain ⟨v1000, e1000, hF⟩ := bind_get hF
  refine qp (.val none (.int .u8 (v1000.toNat : Int))) (ev_ixs rfl rfl e1000) (qp (AB (decide ((v1000.toNat : Int) = (10 : Int)))) rfl ?_)
  refine r_nil ?_
  refine cF hF (fun hF => ?_) fun hF => ?_
  ·
   refine ws 897 961 ?_
   refine qp (AB false) rfl ?_
   refine r_nil ?_
   refine w_ret ?_
   refine blockQ_r ?_
   refine thenQ_r ?_
   refine thenQ_r ?_
   refine blockQ_r ?_
   refine thenQ_r ?_
   cases hF
   exact eR
  ·
   refine w_skip ?_
   refine blockQ_n ?_
   refine thenQ_n ?_
   refine w_reg 897 1089 rfl rfl ?_
   refine qp (AI v50001) rfl (qp (AI (w64 (v50001 + 1))) rfl (qp (AI (w64 (v50001 + 1))) rfl ?_))
   refine r_nil ?_
   refine thenQ_n ?_
   refine ar (l' := [(0, .val none (.ptr [.str v0.1, .str v0.2.1, .str v0.2.2])), (3, AI (w64 (v50001 + 1)))]) (L := []) [0, 3] [] 1 ⟨_, by rfl, hF⟩
 ·
  refine w_exit ?_
  refine thenQ_e ?_
  refine thenQ_e ?_
  refine blockQ_e ?_
  refine thenQ_n ?_
  refine ws 449 1793 ?_
  refine qp (.val none (.ptr [.str v0.1, .str v0.2.1, .str v0.2.2])) rfl (qp (.val none (.ptr [.str v0.1, .str v0.2.1, .str v0.2.2])) rfl (qp (.val none (.ptr [.str v0.1, .str v0.2.1, .str v0.2.2])) rfl (qp (AS v0.1) rfl ?_)))
  obtain ⟨v1001, e1001, hF⟩ := bind_get hF
  refine qc (AB v1001) [] false (con_spec_l01Name e1001) c46_ok (by first | rfl | simp) rfl ?_
  refine qp (AB v1001) rfl ?_
  refine q_case 25 hF rfl (fun hF => ?_) (fun hF => ?_)
  ·
   refine qg (.val none (.ptr [.str v0.1, .str v0.2.1, .str v0.2.2])) rfl rfl (qg (.val none (.ptr [.str v0.1, .str v0.2.1, .str v0.2.2])) rfl rfl (qg (.val none (.ptr [.str v0.2.1, .str v0.2.2])) rfl rfl (qg (AS v0.2.1) rfl rfl ?_)))
   obtain ⟨v1002, e1002, hF⟩ := bind_get hF
   refine qcg (AB v1002) [] false rfl (con_spec_l01Name e1002) c46_ok (by first | rfl | simp) rfl ?_
   refine qp (AB v1002) rfl (qp (AB v1002) rfl ?_)
   refine q_case 32 hF rfl (fun hF => ?_) (fun hF => ?_)
   ·
    refine qg (.val none (.ptr [.str v0.1, .str v0.2.1, .str v0.2.2])) rfl rfl (qg (.val none (.ptr [.str v0.1, .str v0.2.1, .str v0.2.2])) rfl rfl (qg (.val none (.ptr [.str v0.2.2])) rfl rfl (qg (AS v0.2.2) rfl rfl (qg (AI (v0.2.2.length : Int)) rfl rfl (qg (AB (decide ((v0.2.2.length : Int) ≤ (400 : Int)))) rfl rfl (qp (AB (decide ((v0.2.2.length : Int) ≤ (400 : Int)))) rfl (qp (AB (decide ((v0.2.2.length : Int) ≤ (400 : Int)))) rfl ?_)))))))
    refine r_nil ?_
    refine w_ret ?_
    cases hF
    exact eR
   ·
    refine qn rfl (qn rfl (qn rfl (qn rfl (qn rfl (qn rfl (qp (AB false) rfl (qp (AB false) rfl ?_)))))))
    refine r_nil ?_
    refine w_ret ?_
    cases hF
    exact eR
  ·
   refine qn rfl (qn rfl (qn rfl (qn rfl (qn rfl (qp (AB false) rfl (qp (AB false) rfl (qn rfl ?_)))))))
   refine qn rfl (qn rfl (qn rfl (qn rfl (qn rfl (qp (AB false) rfl (qp (AB false) rfl ?_))))))
   refine r_nil ?_
   refine w_ret ?_
   cases hF
   exact eR

def c33 : MC := (.seq (.reg [rg 4 (.p true (.mv (.c (.bool false))))]) (.seq (.reg [rg 5 (.p false (.mv (.t 0))), rg 6 (.p false (.nck (.t 5))), rg 7 (.p false (.fad (.t 6) 0)), rg 8 (.p false (.ld (.t 7) 1 false)), rg 9 (.p false (.mv (.t 1))), rg 10 (.p false (.nck (.t 9))), rg 11 (.p false (.fad (.t 10) 0)), rg 12 (.p false (.ld (.t 11) 1 false)), rg 13 (.p false (.bin .lss (.t 8) (.t 12))), rg 14 (.p false (.mv (.t 13))), ⟨(some 15), (some (14, false)), (.p false (.mv (.t 0)))⟩, ⟨(some 16), (some (14, false)), (.p false (.nck (.t 15)))⟩, ⟨(some 17), (some (14, false)), (.p false (.fad (.t 16) 0))⟩, ⟨(some 18), (some (14, false)), (.p false (.ld (.t 17) 1 false))⟩, ⟨(some 19), (some (14, false)), (.p false (.mv (.t 1)))⟩, ⟨(some 20), (some (14, false)), (.p false (.nck (.t 19)))⟩, ⟨(some 21), (some (14, false)), (.p false (.fad (.t 20) 0))⟩, ⟨(some 22), (some (14, false)), (.p false (.ld (.t 21) 1 false))⟩, ⟨(some 23), (some (14, false)), (.p false (.bin .eql (.t 18) (.t 22)))⟩, ⟨(some 24), (some (14, false)), (.p false (.mv (.t 23)))⟩, ⟨(some 25), (some (24, true)), (.p false (.mv (.t 0)))⟩, ⟨(some 26), (some (24, true)), (.p false (.nck (.t 25)))⟩, ⟨(some 27), (some (24, true)), (.p false (.fad (.t 26) 1))⟩, ⟨(some 28), (some (24, true)), (.p false (.ld (.t 27) 1 false))⟩, ⟨(some 29), (some (24, true)), (.p false (.mv (.t 1)))⟩, ⟨(some 30), (some (24, true)), (.p false (.nck (.t 29)))⟩, ⟨(some 31), (some (24, true)), (.p false (.fad (.t 30) 1))⟩, ⟨(some 32), (some (24, true)), (.p false (.ld (.t 31) 1 false))⟩, ⟨(some 33), (some (24, true)), (.p false (.bin .lss (.t 28) (.t 32)))⟩, ⟨(some 34), (some (14, false)), (.p false (.pick (.t 24) (.t 33) (.c (.bool false))))⟩, rg 35 (.p false (.pick (.t 14) (.c (.bool true)) (.t 34))), rg 4 (.p false (.mv (.t 35)))]) .ret))
theorem c33_is : compFn Try.prog 33 = some (c33, [(.tmp 4)]) := by kernel_rfl
theorem c33_ok : okFn Try.prog 33 = true := by kernel_rfl

noncomputable def F_spec_l29Before (v0 : TBlock) (v1 : TBlock) : Option (Bool) :=
 (bif (Op.bytesLess v0.1 v1.1) then some true
 else (bif (decide (v0.1 = v1.1)) then some (Op.bytesLess v0.2.1 v1.2.1)
 else some false))
@[simp] def res_spec_l29Before (r : Bool) : RV := .one (.one (.val (.bool r)))
theorem con_spec_l29Before {v0 : TBlock} {v1 : TBlock} {r : Bool} (hF : F_spec_l29Before v0 v1 = some r) : Con Try.prog 33 [.ptr [.str v0.1, .str v0.2.1, .str v0.2.2], .ptr [.str v1.1, .str v1.2.1, .str v1.2.2]] (res_spec_l29Before r) := by
 unfold F_spec_l29Before at hF
 refine con_of c33_is fun N => ?_
 refine ws 0 64 ?_
 refine qp (AB false) rfl ?_
 refine r_nil ?_
 refine ws 64 2112 ?_
 refine qp (.val none (.ptr [.str v0.1, .str v0.2.1, .str v0.2.2])) rfl (qp (.val none (.ptr [.str v0.1, .str v0.2.1, .str v0.2.2])) rfl (qp (.val none (.ptr [.str v0.1, .str v0.2.1, .str v0.2.2])) rfl (qp (AS v0.1) rfl (qp (.val none (.ptr [.str v1.1, .str v1.2.1, .str v1.2.2])) rfl (qp (.val none (.ptr [.str v1.1, .str v1.2.1, .str v1.2.2])) rfl (qp (.val none (.ptr [.str v1.1, .str v1.2.1, .str v1.2.2])) rfl (qp (AS v1.1) rfl ?_)))))))
 refine qp (AB (Op.bytesLess v0.1 v1.1)) rfl (qp (AB (Op.bytesLess v0.1 v1.1)) rfl ?_)
 refine q_case 14 hF rfl (fun hF => ?_) (fun hF => ?_)
 ·
  refine qn rfl (qn rfl (qn rfl (qn rfl (qn rfl (qn rfl (qn rfl (qn rfl ?_)))))))
  refine qn rfl (qn rfl (qu rfl (qu rfl (qu rfl (qu rfl (qu rfl (qu rfl ?_)))))))
  refine qu rfl (qu rfl (qu rfl (qn rfl (qp (AB true) rfl (qp (AB true) rfl ?_)))))
  refine r_nil ?_
  refine w_ret ?_
  cases hF
  exact eR
 ·
  refine qg (.val none (.ptr [.str v0.1, .str v0.2.1, .str v0.2.2])) rfl rfl (qg (.val none (.ptr [.str v0.1, .str v0.2.1, .str v0.2.2])) rfl rfl (qg (.val none (.ptr [.str v0.1, .str v0.2.1, .str v0.2.2])) rfl rfl (qg (AS v0.1) rfl rfl (qg (.val none (.ptr [.str v1.1, .str v1.2.1, .str v1.2.2])) rfl rfl (qg (.val none (.ptr [.str v1.1, .str v1.2.1, .str v1.2.2])) rfl rfl (qg (.val none (.ptr [.str v1.1, .str v1.2.1, .str v1.2.2])) rfl rfl (qg (AS v1.1) rfl rfl ?_)))))))
  refine qg (AB (decide (v0.1 = v1.1))) rfl rfl (qg (AB (decide (v0.1 = v1.1))) rfl rfl ?_)
  refine q_case 24 hF rfl (fun hF => ?_) (fun hF => ?_)
  ·
   refine qg (.val none (.ptr [.str v0.1, .str v0.2.1, .str v0.2.2])) rfl rfl (qg (.val none (.ptr [.str v0.1, .str v0.2.1, .str v0.2.2])) rfl rfl (qg (.val none (.ptr [.str v0.2.1, .str v0.2.2])) rfl rfl (qg (AS v0.2.1) rfl rfl (qg (.val none (.ptr [.str v1.1, .str v1.2.1, .str v1.2.2])) rfl rfl (qg (.val none (.ptr [.str v1.1, .str v1.2.1, .str v1.2.2])) rfl rfl (qg (.val none (.ptr [.str v1.2.1, .str v1.2.2])) rfl rfl (qg (AS v1.2.1) rfl rfl ?_)))))))
   refine qg (AB (Op.bytesLess v0.2.1 v1.2.1)) rfl rfl (qg (AB (Op.bytesLess v0.2.1 v1.2.1)) rfl rfl (qp (AB (Op.bytesLess v0.2.1 v1.2.1)) rfl (qp (AB (Op.bytesLess v0.2.1 v1.2.1)) rfl ?_)))
   refine r_nil ?_
   refine w_ret ?_
   cases hF
   exact eR
  ·
   refine qn rfl (qn rfl (qn rfl (qn rfl (qn rfl (qn rfl (qn rfl (qn rfl ?_)))))))
   refine qn rfl (qg (AB false) rfl rfl (qp (AB false) rfl (qp (AB false) rfl ?_)))
   refine r_nil ?_
   refine w_ret ?_
   cases hF
   exact eR

def c23 : MC := (.seq (.reg [rg 2 (.p true (.mv (.c (.bool false))))]) (.seq (.seq (.reg [rg 3 (.p true (.mv (.c (.int .i64 0))))]) (.block 0 (.loop (.seq (.seq (.reg [mvt 4 3, mvt 5 0, rg 6 (.p true (.len (.t 5))), rg 7 (.p true (.bin .lss (.t 4) (.t 6)))]) (.cond (.t 7) .skip (.exit 0))) (.seq (.block 1 (.seq (.reg [rg 10 (.p false (.mv (.t 0))), rg 11 (.p false (.mv (.t 3))), rg 12 (.p false (.iad (.t 10) (.t 11) 3)), rg 13 (.call false 32 [(.t 12)]), rg 14 (.p false (.not (.t 13))), rg 15 (.p false (.mv (.t 14))), ⟨(some 16), (some (15, false)), (.p false (.mv (.t 3)))⟩, ⟨(some 17), (some (15, false)), (.p false (.bin .gtr (.t 16) (.c (.int .i64 0))))⟩, ⟨(some 18), (some (15, false)), (.p false (.mv (.t 17)))⟩, ⟨(some 19), (some (18, true)), (.p false (.mv (.t 0)))⟩, ⟨(some 20), (some (18, true)), (.p false (.mv (.t 3)))⟩, ⟨(some 21), (some (18, true)), (.p false (.bin .sub (.t 20) (.c (.int .i64 1))))⟩, ⟨(some 22), (some (18, true)), (.p false (.iad (.t 19) (.t 21) 3))⟩, ⟨(some 23), (some (18, true)), (.p false (.mv (.t 0)))⟩, ⟨(some 24), (some (18, true)), (.p false (.mv (.t 3)))⟩, ⟨(some 25), (some (18, true)), (.p false (.iad (.t 23) (.t 24) 3))⟩, ⟨(some 26), (some (18, true)), (.call false 33 [(.t 22), (.t 25)])⟩, ⟨(some 27), (some (18, true)), (.p false (.not (.t 26)))⟩, ⟨(some 28), (some (15, false)), (.p false (.pick (.t 18) (.t 27) (.c (.bool false))))⟩, rg 29 (.p false (.pick (.t 15) (.c (.bool true)) (.t 28)))]) (.cond (.t 29) (.seq (.reg [rg 2 (.p true (.mv (.c (.bool false))))]) .ret) .skip))) (.reg [mvt 8 3, rg 9 (.p true (.bin .add (.t 8) (.c (.int .i64 1)))), mvt 3 9])))))) (.seq (.reg [mvt 30 0, rg 31 (.p true (.len (.t 30))), rg 32 (.p true (.bin .leq (.t 31) (.c (.int .i64 32)))), mvt 2 32]) .ret)))
theorem c23_is : compFn Try.prog 23 = some (c23, [(.tmp 2)]) := by kernel_rfl
theorem c23_ok : okFn Try.prog 23 = true := by kernel_rfl

noncomputable def F_spec_l29Ok_l0 (v0 : List TBlock) (k0 : Int → Option (Bool)) : Int → Option (Bool)
 | v50001 => (bif (decide (v50001 < (v0.length : Int))) then ((ix v0 v50001).bind fun v1000 => ((F_spec_l29One v1000).bind fun v1001 => (bif (!v1001) then some false
 else (bif (decide ((0 : Int) < v50001)) then ((ix v0 (w64 (v50001 - 1))).bind fun v1002 => ((ix v0 v50001).bind fun v1003 => ((F_spec_l29Before v1002 v1003).bind fun v1004 => (bif (!v1004) then some false
 else k0 (w64 (v50001 + 1))))))
 else k0 (w64 (v50001 + 1))))))
 else some (decide ((v0.length : Int) ≤ (32 : Int))))
noncomputable def F_spec_l29Ok (v0 : List TBlock) : Option (Bool) :=
 loop (F_spec_l29Ok_l0 v0) 0
@[simp] def res_spec_l29Ok (r : Bool) : RV := .one (.one (.val (.bool r)))
theorem con_spec_l29Ok {v0 : List TBlock} {r : Bool} (hF : F_spec_l29Ok v0 = some r) : Con Try.prog 23 [.sl 3 (v0.map eBlock)] (res_spec_l29Ok r) := by
 unfold F_spec_l29Ok at hF
 refine con_of c23_is fun N => ?_
 refine ws 0 64 ?_
 refine qp (AB false) rfl ?_
 refine r_nil ?_
 refine w_seq ?_
 refine ws 64 128 ?_
 refine qp (AI 0) rfl ?_
 refine r_nil ?_
 refine w_block ?_
 refine wr (l' := [(0, AL 3 (v0.map eBlock)), (3, AI 0)]) (L := []) [0, 3] [] 1 ?_
 refine w_loopF (F_spec_l29Ok_l0 v0) (fun s : Int => mkS [(0, AL 3 (v0.map eBlock)), (3, AI s)] (fo []) 1) hF ?_
 rintro k0 v50001 hF
 rw [F_spec_l29Ok_l0] at hF
 try dsimp only
 refine w_seq ?_
 refine ws 1 257 ?_
 refine qp (AI v50001) rfl (qp (AL 3 (v0.map eBlock)) rfl (qp (AI (v0.length : Int)) (ev_len_n rfl) (qp (AB (decide (v50001 < (v0.length : Int)))) rfl ?_)))
 refine r_nil ?_
 refine cF hF (fun hF => ?_) fun hF => ?_
 ·
  refine w_skip ?_
  refine thenQ_n ?_
  refine w_seq ?_
  refine w_block ?_
  refine ws 257 1537 ?_
  refine qp (AL 3 (v0.map eBlock)) rfl (qp (AI v50001) rfl ?_)
  obtain ⟨v1000, e1000, hF⟩ := bind_get hF
  refine qp (.val none (.ptr [.str v1000.1, .str v1000.2.1, .str v1000.2.2])) (ev_iad_n rfl rfl e1000 rfl) ?_
  obtain ⟨v1001, e1001, hF⟩ := bind_get hF
  refine qc (AB v1001) [] false (con_spec_l29One e1001) c32_ok (by first | rfl | simp) rfl ?_
  refine qp (AB (!v1001)) rfl (qp (AB (!v1001)) rfl ?_)
  refine q_case 15 hF rfl (fun hF => ?_) (fun hF => ?_)
  ·
   refine qn rfl (qn rfl (qn rfl (qu rfl (qu rfl (qu rfl (qu rfl (qu rfl ?_)))))))
   refine qu rfl (qu rfl (qu rfl (qu rfl (qn rfl (qp (AB true) rfl ?_)))))
   refine r_nil ?_
   refine w_true rfl ?_
   refine ws 1537 1601 ?_
   refine qp (AB false) rfl ?_
   refine r_nil ?_
   refine w_ret ?_
   refine blockQ_r ?_
   refine thenQ_r ?_
   refine thenQ_r ?_
   refine blockQ_r ?_
   refine thenQ_r ?_
   cases hF
   exact eR
  ·
   refine qg (AI v50001) rfl rfl (qg (AB (decide ((0 : Int) < v50001))) rfl rfl (qg (AB (decide ((0 : Int) < v50001))) rfl rfl ?_))
   refine q_case 18 hF rfl (fun hF => ?_) (fun hF => ?_)
   ·
    refine qg (AL 3 (v0.map eBlock)) rfl rfl (qg (AI v50001) rfl rfl (qg (AI (w64 (v50001 - 1))) rfl rfl ?_))
    obtain ⟨v1002, e1002, hF⟩ := bind_get hF
    refine qg (.val none (.ptr [.str v1002.1, .str v1002.2.1, .str v1002.2.2])) rfl (ev_iad_n rfl rfl e1002 rfl) (qg (AL 3 (v0.map eBlock)) rfl rfl (qg (AI v50001) rfl rfl ?_))
    obtain ⟨v1003, e1003, hF⟩ := bind_get hF
    refine qg (.val none (.ptr [.str v1003.1, .str v1003.2.1, .str v1003.2.2])) rfl (ev_iad_n rfl rfl e1003 rfl) ?_
    obtain ⟨v1004, e1004, hF⟩ := bind_get hF
    refine qcg (AB v1004) [] false rfl (con_spec_l29Before e1004) c33_ok (by first | rfl | simp) rfl ?_
    refine qg (AB (!v1004)) rfl rfl (qg (AB (!v1004)) rfl rfl (qp (AB (!v1004)) rfl ?_))
    refine r_nil ?_
    refine cF hF (fun hF => ?_) fun hF => ?_
    ·
     refine ws 1537 1601 ?_
     refine qp (AB false) rfl ?_
     refine r_nil ?_
     refine w_ret ?_
     refine blockQ_r ?_
     refine thenQ_r ?_
     refine thenQ_r ?_
     refine blockQ_r ?_
     refine thenQ_r ?_
     cases hF
     exact eR
    ·
     refine w_skip ?_
     refine blockQ_n ?_
     refine thenQ_n ?_
     refine w_reg 1537 1729 rfl rfl ?_
     refine qp (AI v50001) rfl (qp (AI (w64 (v50001 + 1))) rfl (qp (AI (w64 (v50001 + 1))) rfl ?_))
     refine r_nil ?_
     refine thenQ_n ?_
     refine ar (l' := [(0, AL 3 (v0.map eBlock)), (3, AI (w64 (v50001 + 1)))]) (L := []) [0, 3] [] 1 ⟨_, by rfl, hF⟩
   ·
    refine qn rfl (qn rfl (qn rfl (qn rfl (qn rfl (qn rfl (qn rfl (qn rfl ?_)))))))
    refine qn rfl (qg (AB false) rfl rfl (qp (AB false) rfl ?_))
    refine r_nil ?_
    refine w_false rfl ?_
    refine w_skip ?_
    refine blockQ_n ?_
    refine thenQ_n ?_
    refine w_reg 1537 1729 rfl rfl ?_
    refine qp (AI v50001) rfl (qp (AI (w64 (v50001 + 1))) rfl (qp (AI (w64 (v50001 + 1))) rfl ?_))
    refine r_nil ?_
    refine thenQ_n ?_
    refine ar (l' := [(0, AL 3 (v0.map eBlock)), (3, AI (w64 (v50001 + 1)))]) (L := []) [0, 3] [] 1 ⟨_, by rfl, hF⟩
 ·
  refine w_exit ?_
  refine thenQ_e ?_
  refine thenQ_e ?_
  refine blockQ_e ?_
  refine thenQ_n ?_
  refine ws 257 513 ?_
  refine qp (AL 3 (v0.map eBlock)) rfl (qp (AI (v0.length : Int)) (ev_len_n rfl) (qp (AB (decide ((v0.length : Int) ≤ (32 : Int)))) rfl (qp (AB (decide ((v0.length : Int) ≤ (32 : Int)))) rfl ?_)))
  refine r_nil ?_
  refine w_ret ?_
  cases hF
  exact eR

def c35 : MC := (.seq (.reg [rg 3 (.f (.box (.t 1))), rg 4 (.f (.nilrow 3))]) (.seq (.reg [rg 8 (.f (.bsl 3 [])), mvt 5 8]) (.seq (.reg [rg 6 (.p true (.mv (.c (.bool false))))]) (.seq (.seq (.reg [rg 7 (.p true (.mv (.c (.int .i64 0))))]) (.block 0 (.loop (.seq (.seq (.reg [mvt 9 7, mvt 10 0, rg 11 (.p true (.len (.t 10))), rg 12 (.p true (.bin .lss (.t 9) (.t 11)))]) (.cond (.t 12) .skip (.exit 0))) (.seq (.block 1 (.seq (.seq (.reg [mvt 15 6, rg 16 (.p true (.not (.t 15))), mvt 17 16, ⟨(some 18), (some (17, true)), (.p true (.mv (.t 0)))⟩, ⟨(some 19), (some (17, true)), (.p true (.mv (.t 7)))⟩, ⟨(some 20), (some (17, true)), (.p true (.iad (.t 18) (.t 19) 3))⟩, ⟨(some 21), (some (17, true)), (.call true 33 [(.t 20), (.t 3)])⟩, ⟨(some 22), (some (17, true)), (.p true (.not (.t 21)))⟩, rg 23 (.p true (.pick (.t 17) (.t 22) (.c (.bool false))))]) (.cond (.t 23) (.seq (.reg [mvt 24 5, rg 25 (.p true (.ld (.t 3) 3 true)), rg 26 (.f (.bsl 3 [(.t 25)])), rg 27 (.f (.app (.t 24) (.t 26) 3 48 true)), mvt 5 27]) (.reg [rg 6 (.p true (.mv (.c (.bool true))))])) .skip)) (.seq (.reg [rg 28 (.p false (.mv (.t 0))), rg 29 (.p false (.mv (.t 7))), rg 30 (.p false (.iad (.t 28) (.t 29) 3)), rg 31 (.p false (.fad (.t 30) 0)), rg 32 (.p false (.ld (.t 31) 1 false)), rg 33 (.p false (.fad (.t 3) 0)), rg 34 (.p false (.ld (.t 33) 1 false)), rg 35 (.p false (.bin .neq (.t 32) (.t 34))), rg 36 (.p false (.mv (.t 35))), ⟨(some 37), (some (36, false)), (.p false (.mv (.t 0)))⟩, ⟨(some 38), (some (36, false)), (.p false (.mv (.t 7)))⟩, ⟨(some 39), (some (36, false)), (.p false (.iad (.t 37) (.t 38) 3))⟩, ⟨(some 40), (some (36, false)), (.p false (.fad (.t 39) 1))⟩, ⟨(some 41), (some (36, false)), (.p false (.ld (.t 40) 1 false))⟩, ⟨(some 42), (some (36, false)), (.p false (.fad (.t 3) 1))⟩, ⟨(some 43), (some (36, false)), (.p false (.ld (.t 42) 1 false))⟩, ⟨(some 44), (some (36, false)), (.p false (.bin .neq (.t 41) (.t 43)))⟩, rg 45 (.p false (.pick (.t 36) (.c (.bool true)) (.t 44)))]) (.cond (.t 45) (.reg [mvt 46 5, mvt 47 0, mvt 48 7, rg 49 (.p true (.iad (.t 47) (.t 48) 3)), rg 50 (.p true (.ld (.t 49) 3 true)), rg 51 (.f (.bsl 3 [(.t 50)])), rg 52 (.f (.app (.t 46) (.t 51) 3 48 true)), mvt 5 52]) .skip)))) (.reg [mvt 13 7, rg 14 (.p true (.bin .add (.t 13) (.c (.int .i64 1)))), mvt 7 14])))))) (.seq (.seq (.reg [mvt 53 6, rg 54 (.p true (.not (.t 53)))]) (.cond (.t 54) (.reg [mvt 55 5, rg 56 (.p true (.ld (.t 3) 3 true)), rg 57 (.f (.bsl 3 [(.t 56)])), rg 58 (.f (.app (.t 55) (.t 57) 3 48 true)), mvt 5 58]) .skip)) (.seq (.reg [mvt 59 5, mvt 4 59]) .ret))))))
theorem c35_is : compFn Try.prog 35 = some (c35, [(.tmp 4)]) := by kernel_rfl
theorem c35_ok : okFn Try.prog 35 = true := by kernel_rfl

noncomputable def F_spec_l29Put_j1 (v0 : List TBlock) (v1 : TBlock) (v50008 : Int) (k0 : Bool × Int × (List TBlock) → Option (List TBlock)) (v50010 : Bool) (v50011 : List TBlock) : Option (List TBlock) :=
 ((ix v0 v50008).bind fun v1003 => (bif (decide (v1003.1 ≠ v1.1)) then ((ix v0 v50008).bind fun v1004 => (need (room (v50011.length + [v1004].length) 48) (k0 (v50010, w64 (v50008 + 1), v50011 ++ [v1004]))))
 else ((ix v0 v50008).bind fun v1006 => (bif (decide (v1006.2.1 ≠ v1.2.1)) then ((ix v0 v50008).bind fun v1007 => (need (room (v50011.length + [v1007].length) 48) (k0 (v50010, w64 (v50008 + 1), v50011 ++ [v1007]))))
 else k0 (v50010, w64 (v50008 + 1), v50011)))))
noncomputable def F_spec_l29Put_l0 (v0 : List TBlock) (v1 : TBlock) (k0 : Bool × Int × (List TBlock) → Option (List TBlock)) : Bool × Int × (List TBlock) → Option (List TBlock)
 | (v50007, v50008, v50009) => (bif (decide (v50008 < (v0.length : Int))) then (bif (!v50007) then ((ix v0 v50008).bind fun v1000 => ((F_spec_l29Before v1000 v1).bind fun v1001 => (bif (!v1001) then (need (room (v50009.length + [v1].length) 48) (F_spec_l29Put_j1 v0 v1 v50008 k0 true (v50009 ++ [v1])))
 else F_spec_l29Put_j1 v0 v1 v50008 k0 v50007 v50009)))
 else F_spec_l29Put_j1 v0 v1 v50008 k0 v50007 v50009)
 else (bif (!v50007) then (need (room (v50009.length + [v1].length) 48) (some (v50009 ++ [v1])))
 else some v50009))
noncomputable def F_spec_l29Put (v0 : List TBlock) (v1 : TBlock) : Option (List TBlock) :=
 loop (F_spec_l29Put_l0 v0 v1) (false, 0, [])
@[simp] def res_spec_l29Put (r : List TBlock) : RV := .one (.one (.row true 3 (r.map eBlock)))
theorem con_spec_l29Put {v0 : List TBlock} {v1 : TBlock} {r : List TBlock} (hF : F_spec_l29Put v0 v1 = some r) : Con Try.prog 35 [.sl 3 (v0.map eBlock), eBlock v1] (res_spec_l29Put r) := by
 unfold F_spec_l29Put at hF
 refine con_of c35_is fun N => ?_
 refine ws 0 128 ?_
 refine qf (.ptr 0 0 0) [(0, .box [AS v1.1, AS v1.2.1, AS v1.2.2])] (by simp) ?_
 refine qf (.sl 64 0 0) [(64, .row true 3 (([] : List Int).map vI)), (0, .box [AS v1.1, AS v1.2.1, AS v1.2.2])] (by simp) ?_
 refine r_nil ?_
 refine ws 128 256 ?_
 refine qf (.sl 128 0 0) [(128, .row true 3 (([] : List TBlock).map eBlock)), (64, .row true 3 (([] : List Int).map vI)), (0, .box [AS v1.1, AS v1.2.1, AS v1.2.2])] (by simp [List.take_of_length_le]) ?_
 refine qp (.sl 128 0 0) rfl ?_
 refine r_nil ?_
 refine ws 256 320 ?_
 refine qp (AB false) rfl ?_
 refine r_nil ?_
 refine w_seq ?_
 refine ws 320 384 ?_
 refine qp (AI 0) rfl ?_
 refine r_nil ?_
 refine w_block ?_
 refine wr (l' := [(0, AL 3 (v0.map eBlock)), (3, .ptr 0 0 0), (5, .sl 1 0 0), (6, AB false), (7, AI 0)]) (L := [(1, .row true 3 (([] : List TBlock).map eBlock)), (0, .box [AS v1.1, AS v1.2.1, AS v1.2.2])]) [0, 3, 5, 6, 7] [(128, 1), (0, 0)] 2 ?_
 refine w_loopF (F_spec_l29Put_l0 v0 v1) (fun s : Bool × Int × (List TBlock) => mkS [(0, AL 3 (v0.map eBlock)), (3, .ptr 0 0 0), (5, .sl 1 0 s.2.2.length), (6, AB s.1), (7, AI s.2.1)] (fo [(1, .row true 3 (s.2.2.map eBlock)), (0, .box [AS v1.1, AS v1.2.1, AS v1.2.2])]) 2) hF ?_
 rintro k0 ⟨v50007, v50008, v50009⟩ hF
 rw [F_spec_l29Put_l0] at hF
 try dsimp only
 refine w_seq ?_
 refine ws 2 258 ?_
 refine qp (AI v50008) rfl (qp (AL 3 (v0.map eBlock)) rfl (qp (AI (v0.length : Int)) (ev_len_n rfl) (qp (AB (decide (v50008 < (v0.length : Int)))) rfl ?_)))
 refine r_nil ?_
 refine cF hF (fun hF => ?_) fun hF => ?_
 ·
  refine w_skip ?_
  refine thenQ_n ?_
  refine w_seq ?_
  refine w_block ?_
  refine w_meet (fun s' => ∃ (v50010 : Bool) (v50011 : List TBlock), s' = mkS [(0, AL 3 (v0.map eBlock)), (3, .ptr 0 0 0), (5, .sl 1 0 v50011.length), (6, AB v50010), (7, AI v50008)] (fo [(1, .row true 3 (v50011.map eBlock)), (0, .box [AS v1.1, AS v1.2.1, AS v1.2.2])]) 2 ∧ F_spec_l29Put_j1 v0 v1 v50008 k0 v50010 v50011 = some r) ?_ ?_
  ·
   refine ws 258 834 ?_
   refine qp (AB v50007) rfl (qp (AB (!v50007)) rfl (qp (AB (!v50007)) rfl ?_))
   refine q_case 17 hF rfl (fun hF => ?_) (fun hF => ?_)
   ·
    refine qg (AL 3 (v0.map eBlock)) rfl rfl (qg (AI v50008) rfl rfl ?_)
    obtain ⟨v1000, e1000, hF⟩ := bind_get hF
    refine qg (.val none (.ptr [.str v1000.1, .str v1000.2.1, .str v1000.2.2])) rfl (ev_iad_n rfl rfl e1000 rfl) ?_
    obtain ⟨v1001, e1001, hF⟩ := bind_get hF
    refine qcg (AB v1001) [(1, .row true 3 (v50009.map eBlock)), (0, .box [AS v1.1, AS v1.2.1, AS v1.2.2])] true rfl (con_spec_l29Before e1001) c33_ok (by simp [List.take_of_length_le]) rfl ?_
    refine qg (AB (!v1001)) rfl rfl (qp (AB (!v1001)) rfl ?_)
    refine r_nil ?_
    refine cF hF (fun hF => ?_) fun hF => ?_
    ·
     refine ws 834 1154 ?_
     refine qp (.sl 1 0 v50009.length) rfl (qp (.agg [AS v1.1, AS v1.2.1, AS v1.2.2]) rfl ?_)
     refine qf (.sl 962 0 ([v1].length)) [(962, .row true 3 ([v1].map eBlock)), (1, .row true 3 (v50009.map eBlock)), (0, .box [AS v1.1, AS v1.2.1, AS v1.2.2])] (by simp [List.take_of_length_le]) ?_
     obtain ⟨g1002, hF⟩ := need_some hF
     refine qf (.sl 1026 0 ((v50009 ++ [v1]).length)) [(1026, .row true 3 ((v50009 ++ [v1]).map eBlock)), (1, .dead), (962, .dead), (962, .row true 3 ([v1].map eBlock)), (1, .row true 3 (v50009.map eBlock)), (0, .box [AS v1.1, AS v1.2.1, AS v1.2.2])] (effT_app_l rfl (by simp) rfl rfl (by simp) rfl (by decide) g1002 rfl) ?_
     refine qp (.sl 1026 0 ((v50009 ++ [v1]).length)) rfl ?_
     refine r_nil ?_
     refine w_reg 1154 1218 rfl rfl ?_
     refine qp (AB true) rfl ?_
     refine r_nil ?_
     refine thenQ_n ?_
     refine ar (l' := [(0, AL 3 (v0.map eBlock)), (3, .ptr 0 0 0), (5, .sl 1 0 (v50009 ++ [v1]).length), (6, AB true), (7, AI v50008)]) (L := [(1, .row true 3 ((v50009 ++ [v1]).map eBlock)), (0, .box [AS v1.1, AS v1.2.1, AS v1.2.2])]) [0, 3, 5, 6, 7] [(1026, 1), (0, 0)] 2 ⟨_, _, rfl, hF⟩
    ·
     refine w_skip ?_
     refine thenQ_n ?_
     refine ar (l' := [(0, AL 3 (v0.map eBlock)), (3, .ptr 0 0 0), (5, .sl 1 0 v50009.length), (6, AB v50007), (7, AI v50008)]) (L := [(1, .row true 3 (v50009.map eBlock)), (0, .box [AS v1.1, AS v1.2.1, AS v1.2.2])]) [0, 3, 5, 6, 7] [(1, 1), (0, 0)] 2 ⟨_, _, rfl, hF⟩
   ·
    refine qn rfl (qn rfl (qn rfl (qn rfl (qn rfl (qp (AB false) rfl ?_)))))
    refine r_nil ?_
    refine w_false rfl ?_
    refine w_skip ?_
    refine thenQ_n ?_
    refine ar (l' := [(0, AL 3 (v0.map eBlock)), (3, .ptr 0 0 0), (5, .sl 1 0 v50009.length), (6, AB v50007), (7, AI v50008)]) (L := [(1, .row true 3 (v50009.map eBlock)), (0, .box [AS v1.1, AS v1.2.1, AS v1.2.2])]) [0, 3, 5, 6, 7] [(1, 1), (0, 0)] 2 ⟨_, _, rfl, hF⟩
  ·
   rintro s' ⟨v50010, v50011, rfl, hF⟩
   unfold F_spec_l29Put_j1 at hF
   refine ws 2 1154 ?_
   refine qp (AL 3 (v0.map eBlock)) rfl (qp (AI v50008) rfl ?_)
   obtain ⟨v1003, e1003, hF⟩ := bind_get hF
   refine qp (.val none (.ptr [.str v1003.1, .str v1003.2.1, .str v1003.2.2])) (ev_iad_n rfl rfl e1003 rfl) (qp (.val none (.ptr [.str v1003.1, .str v1003.2.1, .str v1003.2.2])) rfl (qp (AS v1003.1) rfl (qp (.ptr 0 0 0) rfl (qp (AS v1.1) rfl (qp (AB (decide (v1003.1 ≠ v1.1))) rfl (qp (AB (decide (v1003.1 ≠ v1.1))) rfl ?_))))))
   refine q_case 36 hF rfl (fun hF => ?_) (fun hF => ?_)
   ·
    refine qn rfl (qn rfl (qn rfl (qn rfl (qn rfl (qn rfl (qn rfl (qn rfl ?_)))))))
    refine qp (AB true) rfl ?_
    refine r_nil ?_
    refine w_true rfl ?_
    refine w_reg 1154 1666 rfl rfl ?_
    refine qp (.sl 1 0 v50011.length) rfl (qp (AL 3 (v0.map eBlock)) rfl (qp (AI v50008) rfl ?_))
    obtain ⟨v1004, e1004, hF⟩ := bind_get hF
    refine qp (.val none (.ptr [.str v1004.1, .str v1004.2.1, .str v1004.2.2])) (ev_iad_n rfl rfl e1004 rfl) (qp (.val none (eBlock v1004)) rfl ?_)
    refine qf (.sl 1474 0 ([v1004].length)) [(1474, .row true 3 ([v1004].map eBlock)), (1, .row true 3 (v50011.map eBlock)), (0, .box [AS v1.1, AS v1.2.1, AS v1.2.2])] (by simp [List.take_of_length_le]) ?_
    obtain ⟨g1005, hF⟩ := need_some hF
    refine qf (.sl 1538 0 ((v50011 ++ [v1004]).length)) [(1538, .row true 3 ((v50011 ++ [v1004]).map eBlock)), (1, .dead), (1474, .dead), (1474, .row true 3 ([v1004].map eBlock)), (1, .row true 3 (v50011.map eBlock)), (0, .box [AS v1.1, AS v1.2.1, AS v1.2.2])] (effT_app_l rfl (by simp) rfl rfl (by simp) rfl (by decide) g1005 rfl) ?_
    refine qp (.sl 1538 0 ((v50011 ++ [v1004]).length)) rfl ?_
    refine r_nil ?_
    refine blockQ_n ?_
    refine thenQ_n ?_
    refine w_reg 1666 1858 rfl rfl ?_
    refine qp (AI v50008) rfl (qp (AI (w64 (v50008 + 1))) rfl (qp (AI (w64 (v50008 + 1))) rfl ?_))
    refine r_nil ?_
    refine thenQ_n ?_
    refine ar (l' := [(0, AL 3 (v0.map eBlock)), (3, .ptr 0 0 0), (5, .sl 1 0 (v50011 ++ [v1004]).length), (6, AB v50010), (7, AI (w64 (v50008 + 1)))]) (L := [(1, .row true 3 ((v50011 ++ [v1004]).map eBlock)), (0, .box [AS v1.1, AS v1.2.1, AS v1.2.2])]) [0, 3, 5, 6, 7] [(1538, 1), (0, 0)] 2 ⟨_, by rfl, hF⟩
   ·
    refine qg (AL 3 (v0.map eBlock)) rfl rfl (qg (AI v50008) rfl rfl ?_)
    obtain ⟨v1006, e1006, hF⟩ := bind_get hF
    refine qg (.val none (.ptr [.str v1006.1, .str v1006.2.1, .str v1006.2.2])) rfl (ev_iad_n rfl rfl e1006 rfl) (qg (.val none (.ptr [.str v1006.2.1, .str v1006.2.2])) rfl rfl (qg (AS v1006.2.1) rfl rfl (qg (.ptr 0 0 1) rfl rfl (qg (AS v1.2.1) rfl rfl (qg (AB (decide (v1006.2.1 ≠ v1.2.1))) rfl rfl (qp (AB (decide (v1006.2.1 ≠ v1.2.1))) rfl ?_))))))
    refine r_nil ?_
    refine cF hF (fun hF => ?_) fun hF => ?_
    ·
     refine w_reg 1154 1666 rfl rfl ?_
     refine qp (.sl 1 0 v50011.length) rfl (qp (AL 3 (v0.map eBlock)) rfl (qp (AI v50008) rfl ?_))
     obtain ⟨v1007, e1007, hF⟩ := bind_get hF
     refine qp (.val none (.ptr [.str v1007.1, .str v1007.2.1, .str v1007.2.2])) (ev_iad_n rfl rfl e1007 rfl) (qp (.val none (eBlock v1007)) rfl ?_)
     refine qf (.sl 1474 0 ([v1007].length)) [(1474, .row true 3 ([v1007].map eBlock)), (1, .row true 3 (v50011.map eBlock)), (0, .box [AS v1.1, AS v1.2.1, AS v1.2.2])] (by simp [List.take_of_length_le]) ?_
     obtain ⟨g1008, hF⟩ := need_some hF
     refine qf (.sl 1538 0 ((v50011 ++ [v1007]).length)) [(1538, .row true 3 ((v50011 ++ [v1007]).map eBlock)), (1, .dead), (1474, .dead), (1474, .row true 3 ([v1007].map eBlock)), (1, .row true 3 (v50011.map eBlock)), (0, .box [AS v1.1, AS v1.2.1, AS v1.2.2])] (effT_app_l rfl (by simp) rfl rfl (by simp) rfl (by decide) g1008 rfl) ?_
     refine qp (.sl 1538 0 ((v50011 ++ [v1007]).length)) rfl ?_
     refine r_nil ?_
     refine blockQ_n ?_
     refine thenQ_n ?_
     refine w_reg 1666 1858 rfl rfl ?_
     refine qp (AI v50008) rfl (qp (AI (w64 (v50008 + 1))) rfl (qp (AI (w64 (v50008 + 1))) rfl ?_))
     refine r_nil ?_
     refine thenQ_n ?_
     refine ar (l' := [(0, AL 3 (v0.map eBlock)), (3, .ptr 0 0 0), (5, .sl 1 0 (v50011 ++ [v1007]).length), (6, AB v50010), (7, AI (w64 (v50008 + 1)))]) (L := [(1, .row true 3 ((v50011 ++ [v1007]).map eBlock)), (0, .box [AS v1.1, AS v1.2.1, AS v1.2.2])]) [0, 3, 5, 6, 7] [(1538, 1), (0, 0)] 2 ⟨_, by rfl, hF⟩
    ·
     refine w_skip ?_
     refine blockQ_n ?_
     refine thenQ_n ?_
     refine w_reg 1154 1346 rfl rfl ?_
     refine qp (AI v50008) rfl (qp (AI (w64 (v50008 + 1))) rfl (qp (AI (w64 (v50008 + 1))) rfl ?_))
     refine r_nil ?_
     refine thenQ_n ?_
     refine ar (l' := [(0, AL 3 (v0.map eBlock)), (3, .ptr 0 0 0), (5, .sl 1 0 v50011.length), (6, AB v50010), (7, AI (w64 (v50008 + 1)))]) (L := [(1, .row true 3 (v50011.map eBlock)), (0, .box [AS v1.1, AS v1.2.1, AS v1.2.2])]) [0, 3, 5, 6, 7] [(1, 1), (0, 0)] 2 ⟨_, by rfl, hF⟩
 ·
  refine w_exit ?_
  refine thenQ_e ?_
  refine thenQ_e ?_
  refine blockQ_e ?_
  refine thenQ_n ?_
  refine w_seq ?_
  refine ws 258 386 ?_
  refine qp (AB v50007) rfl (qp (AB (!v50007)) rfl ?_)
  refine r_nil ?_
  refine cF hF (fun hF => ?_) fun hF => ?_
  ·
   refine w_reg 386 706 rfl rfl ?_
   refine qp (.sl 1 0 v50009.length) rfl (qp (.agg [AS v1.1, AS v1.2.1, AS v1.2.2]) rfl ?_)
   refine qf (.sl 514 0 ([v1].length)) [(514, .row true 3 ([v1].map eBlock)), (1, .row true 3 (v50009.map eBlock)), (0, .box [AS v1.1, AS v1.2.1, AS v1.2.2])] (by simp [List.take_of_length_le]) ?_
   obtain ⟨g1009, hF⟩ := need_some hF
   refine qf (.sl 578 0 ((v50009 ++ [v1]).length)) [(578, .row true 3 ((v50009 ++ [v1]).map eBlock)), (1, .dead), (514, .dead), (514, .row true 3 ([v1].map eBlock)), (1, .row true 3 (v50009.map eBlock)), (0, .box [AS v1.1, AS v1.2.1, AS v1.2.2])] (effT_app_l rfl (by simp) rfl rfl (by simp) rfl (by decide) g1009 rfl) ?_
   refine qp (.sl 578 0 ((v50009 ++ [v1]).length)) rfl ?_
   refine r_nil ?_
   refine thenQ_n ?_
   refine ws 706 834 ?_
   refine qp (.sl 578 0 ((v50009 ++ [v1]).length)) rfl (qp (.sl 578 0 ((v50009 ++ [v1]).length)) rfl ?_)
   refine r_nil ?_
   refine w_ret ?_
   cases hF
   exact eR
  ·
   refine w_skip ?_
   refine thenQ_n ?_
   refine ws 386 514 ?_
   refine qp (.sl 1 0 v50009.length) rfl (qp (.sl 1 0 v50009.length) rfl ?_)
   refine r_nil ?_
   refine w_ret ?_
   cases hF
   exact eR

def c25 : MC := (.seq (.reg [rg 3 (.f (.box (.t 1))), rg 4 (.f (.nilrow 3)), rg 5 (.p true (.mv (.c (.int .i64 0))))]) (.seq (.seq (.reg [mvt 7 0, rg 8 (.call true 23 [(.t 7)]), rg 9 (.p true (.not (.t 8))), mvt 10 9, ⟨(some 11), (some (10, false)), (.call true 32 [(.t 3)])⟩, ⟨(some 12), (some (10, false)), (.p true (.not (.t 11)))⟩, rg 13 (.p true (.pick (.t 10) (.c (.bool true)) (.t 12)))]) (.cond (.t 13) (.seq (.reg [rg 4 (.f (.nilrow 3)), rg 5 (.p true (.mv (.c (.int .i64 1))))]) .ret) .skip)) (.seq (.reg [mvt 14 0, rg 15 (.p true (.ld (.t 3) 3 true)), rg 16 (.call true 35 [(.t 14), (.t 15)]), mvt 6 16]) (.seq (.seq (.reg [mvt 17 6, rg 18 (.p true (.len (.t 17))), rg 19 (.p true (.bin .gtr (.t 18) (.c (.int .i64 32))))]) (.cond (.t 19) (.seq (.reg [rg 4 (.f (.nilrow 3)), rg 5 (.p true (.mv (.c (.int .i64 5))))]) .ret) .skip)) (.seq (.reg [mvt 20 6, mvt 4 20, rg 5 (.p true (.mv (.c (.int .i64 0))))]) .ret)))))
theorem c25_is : compFn Try.prog 25 = some (c25, [(.tmp 4), (.tmp 5)]) := by kernel_rfl
theorem c25_ok : okFn Try.prog 25 = true := by kernel_rfl

noncomputable def F_spec_PutBlock (v0 : List TBlock) (v1 : TBlock) : Option ((List TBlock) × Int) :=
 ((F_spec_l29Ok v0).bind fun v1000 => (bif (!v1000) then some ([], 1)
 else ((F_spec_l29One v1).bind fun v1001 => (bif (!v1001) then some ([], 1)
 else ((F_spec_l29Put v0 v1).bind fun v1002 => (bif (decide ((32 : Int) < (v1002.length : Int))) then some ([], 5)
 else some (v1002, 0)))))))
@[simp] def res_spec_PutBlock (r : (List TBlock) × Int) : RV := .tup [.one (.row true 3 (r.1.map eBlock)), .one (.val (.int .i64 r.2))]
theorem con_spec_PutBlock {v0 : List TBlock} {v1 : TBlock} {r : (List TBlock) × Int} (hF : F_spec_PutBlock v0 v1 = some r) : Con Try.prog 25 [.sl 3 (v0.map eBlock), eBlock v1] (res_spec_PutBlock r) := by
 unfold F_spec_PutBlock at hF
 refine con_of c25_is fun N => ?_
 refine ws 0 192 ?_
 refine qf (.ptr 0 0 0) [(0, .box [AS v1.1, AS v1.2.1, AS v1.2.2])] (by simp) ?_
 refine qf (.sl 64 0 0) [(64, .row true 3 (([] : List Int).map vI)), (0, .box [AS v1.1, AS v1.2.1, AS v1.2.2])] (by simp) ?_
 refine qp (AI 0) rfl ?_
 refine r_nil ?_
 refine w_seq ?_
 refine ws 192 640 ?_
 refine qp (AL 3 (v0.map eBlock)) rfl ?_
 obtain ⟨v1000, e1000, hF⟩ := bind_get hF
 refine qc (AB v1000) [(64, .row true 3 (([] : List Int).map vI)), (0, .box [AS v1.1, AS v1.2.1, AS v1.2.2])] false (con_spec_l29Ok e1000) c23_ok (by first | rfl | simp) rfl ?_
 refine qp (AB (!v1000)) rfl (qp (AB (!v1000)) rfl ?_)
 refine q_case 10 hF rfl (fun hF => ?_) (fun hF => ?_)
 ·
  refine qn rfl (qn rfl (qp (AB true) rfl ?_))
  refine r_nil ?_
  refine w_true rfl ?_
  refine ws 640 768 ?_
  refine qf (.sl 640 0 0) [(640, .row true 3 (([] : List TBlock).map eBlock)), (64, .row true 3 (([] : List Int).map vI)), (0, .box [AS v1.1, AS v1.2.1, AS v1.2.2])] (by simp) ?_
  refine qp (AI 1) rfl ?_
  refine r_nil ?_
  refine w_ret ?_
  refine thenQ_r ?_
  cases hF
  exact eR
 ·
  obtain ⟨v1001, e1001, hF⟩ := bind_get hF
  refine qcg (AB v1001) [(64, .row true 3 (([] : List Int).map vI)), (0, .box [AS v1.1, AS v1.2.1, AS v1.2.2])] true rfl (con_spec_l29One e1001) c32_ok (by simp [List.take_of_length_le]) rfl ?_
  refine qg (AB (!v1001)) rfl rfl (qp (AB (!v1001)) rfl ?_)
  refine r_nil ?_
  refine cF hF (fun hF => ?_) fun hF => ?_
  ·
   refine ws 640 768 ?_
   refine qf (.sl 640 0 0) [(640, .row true 3 (([] : List TBlock).map eBlock)), (64, .row true 3 (([] : List Int).map vI)), (0, .box [AS v1.1, AS v1.2.1, AS v1.2.2])] (by simp) ?_
   refine qp (AI 1) rfl ?_
   refine r_nil ?_
   refine w_ret ?_
   refine thenQ_r ?_
   cases hF
   exact eR
  ·
   refine w_skip ?_
   refine thenQ_n ?_
   refine ws 640 896 ?_
   refine qp (AL 3 (v0.map eBlock)) rfl (qp (.agg [AS v1.1, AS v1.2.1, AS v1.2.2]) rfl ?_)
   obtain ⟨v1002, e1002, hF⟩ := bind_get hF
   refine qc (.sl 768 0 v1002.length) [(768, .row true 3 (v1002.map eBlock)), (64, .row true 3 (([] : List Int).map vI)), (0, .box [AS v1.1, AS v1.2.1, AS v1.2.2])] false (con_spec_l29Put e1002) c35_ok (by first | rfl | simp) (by simp [res_spec_l29Put]) ?_
   refine qp (.sl 768 0 v1002.length) rfl ?_
   refine r_nil ?_
   refine w_seq ?_
   refine ws 896 1088 ?_
   refine qp (.sl 768 0 v1002.length) rfl (qp (AI (v1002.length : Int)) rfl (qp (AB (decide ((32 : Int) < (v1002.length : Int)))) rfl ?_))
   refine r_nil ?_
   refine cF hF (fun hF => ?_) fun hF => ?_
   ·
    refine ws 1088 1216 ?_
    refine qf (.sl 1088 0 0) [(1088, .row true 3 (([] : List TBlock).map eBlock)), (768, .row true 3 (v1002.map eBlock)), (64, .row true 3 (([] : List Int).map vI)), (0, .box [AS v1.1, AS v1.2.1, AS v1.2.2])] (by simp) ?_
    refine qp (AI 5) rfl ?_
    refine r_nil ?_
    refine w_ret ?_
    refine thenQ_r ?_
    cases hF
    exact eR
   ·
    refine w_skip ?_
    refine thenQ_n ?_
    refine ws 1088 1280 ?_
    refine qp (.sl 768 0 v1002.length) rfl (qp (.sl 768 0 v1002.length) rfl (qp (AI 0) rfl ?_))
    refine r_nil ?_
    refine w_ret ?_
    cases hF
    exact eR

def c14 : MC := (.seq (.reg [rg 2 (.f (.nilrow 3))]) (.seq (.reg [rg 7 (.f (.bsl 3 [])), mvt 3 7]) (.seq (.seq (.reg [mvt 8 0, rg 9 (.call true 24 [(.t 8), (.c (.int .i64 6))]), mvt 4 9]) (.block 0 (.loop (.seq (.seq (.reg [mvt 10 4, rg 11 (.p true (.bin .gtr (.t 10) (.c (.int .i64 0))))]) (.cond (.t 11) .skip (.exit 0))) (.seq (.block 1 (.seq (.reg [mvt 15 3, mvt 16 0, rg 17 (.call true 26 [(.t 16)]), rg 18 (.call true 25 [(.t 15), (.t 17)]), mvt 14 18, rg 19 (.p true (.ext (.t 14) 0)), rg 20 (.p true (.ext (.t 14) 1)), mvt 5 19, mvt 6 20]) (.seq (.reg [mvt 21 6, rg 22 (.p true (.bin .eql (.t 21) (.c (.int .i64 0))))]) (.cond (.t 22) (.reg [mvt 23 5, mvt 3 23]) .skip)))) (.reg [mvt 12 4, rg 13 (.p true (.bin .sub (.t 12) (.c (.int .i64 1)))), mvt 4 13])))))) (.seq (.reg [mvt 24 3, mvt 2 24]) .ret))))
theorem c14_is : compFnM Try.prog 14 = some (c14, [(.tmp 2)]) := by kernel_rfl
theorem c14_ok : okFn Try.prog 14 = true := by kernel_rfl

noncomputable def F_spec_l29Draw_l0 (k1 : Int × (List Int) × Int × Int × (List TBlock) → Option (TL00Src × (List TBlock))) : Int × (List Int) × Int × Int × (List TBlock) → Option (TL00Src × (List TBlock))
 | (v50015, v50016, v50017, v50018, v50019) => (bif (decide ((0 : Int) < v50015)) then ((F_spec_l29DrawOne (v50016, v50017, v50018)).bind fun v1005 => ((F_spec_PutBlock v50019 v1005.2).bind fun v1006 => (bif (decide (v1006.2 = (0 : Int))) then k1 (w64 (v50015 - 1), v1005.1.1, v1005.1.2.1, v1005.1.2.2, v1006.1)
 else k1 (w64 (v50015 - 1), v1005.1.1, v1005.1.2.1, v1005.1.2.2, v50019))))
 else some ((v50016, v50017, v50018), v50019))
noncomputable def F_spec_l29Draw (v0 : TL00Src) : Option (TL00Src × (List TBlock)) :=
 ((F_spec_l00Src_pick v0 6).bind fun v1000 => loop (F_spec_l29Draw_l0) (v1000.2, v1000.1.1, v1000.1.2.1, v1000.1.2.2, []))
@[simp] def res_spec_l29Draw (r : TL00Src × (List TBlock)) : RV := .one (.one (.row true 3 (r.2.map eBlock)))
theorem con_spec_l29Draw {v0 : TL00Src} {r : TL00Src × (List TBlock)} (hF : F_spec_l29Draw v0 = some r) : ConP Try.prog 14 [.sl 1 (v0.1.map (V.int .u8)), .int .i64 v0.2.1, .int .u64 v0.2.2] [.sl 1 (r.1.1.map (V.int .u8)), .int .i64 r.1.2.1, .int .u64 r.1.2.2] [] (res_spec_l29Draw r) := by
 unfold F_spec_l29Draw at hF
 refine conP_of (L := [(0, .box [.val none (.sl 1 (v0.1.map (V.int .u8))), AI v0.2.1, .val none (.int .u64 v0.2.2)])]) c14_is rfl fun N => ?_
 refine ws 64 128 ?_
 refine qf (.sl 64 0 0) [(64, .row true 3 (([] : List Int).map vI)), (0, .box [.val none (.sl 1 (v0.1.map (V.int .u8))), AI v0.2.1, .val none (.int .u64 v0.2.2)])] (by simp) ?_
 refine r_nil ?_
 refine ws 128 256 ?_
 refine qf (.sl 128 0 0) [(128, .row true 3 (([] : List TBlock).map eBlock)), (64, .row true 3 (([] : List Int).map vI)), (0, .box [.val none (.sl 1 (v0.1.map (V.int .u8))), AI v0.2.1, .val none (.int .u64 v0.2.2)])] (by simp [List.take_of_length_le]) ?_
 refine qp (.sl 128 0 0) rfl ?_
 refine r_nil ?_
 refine w_seq ?_
 refine ws 256 448 ?_
 refine qp (.ptr 0 0 0) rfl ?_
 obtain ⟨v1000, e1000, hF⟩ := bind_get hF
 refine qP [] (AI v1000.2) [(0, .box [.val none (.sl 1 (v1000.1.1.map (V.int .u8))), AI v1000.1.2.1, .val none (.int .u64 v1000.1.2.2)]), (128, .row true 3 (([] : List TBlock).map eBlock)), (64, .row true 3 (([] : List Int).map vI)), (0, .box [.val none (.sl 1 (v0.1.map (V.int .u8))), AI v0.2.1, .val none (.int .u64 v0.2.2)])] rfl rfl rfl (by decide) (con_spec_l00Src_pick e1000) c24_ok (by first | rfl | simp) killO_nil rfl rfl ?_
 refine qp (AI v1000.2) rfl ?_
 refine r_nil ?_
 refine w_block ?_
 refine wr (l' := [(0, .ptr 0 0 0), (3, .sl 1 0 0), (4, AI v1000.2)]) (L := [(1, .row true 3 (([] : List TBlock).map eBlock)), (0, .box [.val none (.sl 1 (v1000.1.1.map (V.int .u8))), AI v1000.1.2.1, .val none (.int .u64 v1000.1.2.2)])]) [0, 3, 4] [(128, 1), (0, 0)] 2 ?_
 refine w_loopF (F_spec_l29Draw_l0) (fun s : Int × (List Int) × Int × Int × (List TBlock) => mkS [(0, .ptr 0 0 0), (3, .sl 1 0 s.2.2.2.2.length), (4, AI s.1)] (fo [(1, .row true 3 (s.2.2.2.2.map eBlock)), (0, .box [.val none (.sl 1 (s.2.1.map (V.int .u8))), AI s.2.2.1, .val none (.int .u64 s.2.2.2.1)])]) 2) hF ?_
 rintro k1 ⟨v50015, v50016, v50017, v50018, v50019⟩ hF
 rw [F_spec_l29Draw_l0] at hF
 try dsimp only
 refine w_seq ?_
 refine ws 2 130 ?_
 refine qp (AI v50015) rfl (qp (AB (decide ((0 : Int) < v50015))) rfl ?_)
 refine r_nil ?_
 refine cF hF (fun hF => ?_) fun hF => ?_
 ·
  refine w_skip ?_
  refine thenQ_n ?_
  refine w_seq ?_
  refine w_block ?_
  refine ws 130 706 ?_
  refine qp (.sl 1 0 v50019.length) rfl (qp (.ptr 0 0 0) rfl ?_)
  obtain ⟨v1005, e1005, hF⟩ := bind_get hF
  refine qP [] (.val none (eBlock v1005.2)) [(0, .box [.val none (.sl 1 (v1005.1.1.map (V.int .u8))), AI v1005.1.2.1, .val none (.int .u64 v1005.1.2.2)]), (1, .row true 3 (v50019.map eBlock)), (0, .box [.val none (.sl 1 (v50016.map (V.int .u8))), AI v50017, .val none (.int .u64 v50018)])] rfl rfl rfl (by decide) (con_spec_l29DrawOne e1005) c26_ok (by first | rfl | simp) killO_nil rfl rfl ?_
  obtain ⟨v1006, e1006, hF⟩ := bind_get hF
  refine qc (.tup [.sl 322 0 v1006.1.length, AI v1006.2]) [(322, .row true 3 (v1006.1.map eBlock)), (0, .box [.val none (.sl 1 (v1005.1.1.map (V.int .u8))), AI v1005.1.2.1, .val none (.int .u64 v1005.1.2.2)]), (1, .row true 3 (v50019.map eBlock)), (0, .box [.val none (.sl 1 (v50016.map (V.int .u8))), AI v50017, .val none (.int .u64 v50018)])] true (con_spec_PutBlock e1006) c25_ok (by simp [List.take_of_length_le]) (by simp [res_spec_PutBlock]) ?_
  refine qp (.tup [.sl 322 0 v1006.1.length, AI v1006.2]) rfl (qp (.sl 322 0 v1006.1.length) rfl (qp (AI v1006.2) rfl (qp (.sl 322 0 v1006.1.length) rfl (qp (AI v1006.2) rfl ?_))))
  refine r_nil ?_
  refine ws 706 834 ?_
  refine qp (AI v1006.2) rfl (qp (AB (decide (v1006.2 = (0 : Int)))) rfl ?_)
  refine r_nil ?_
  refine cF hF (fun hF => ?_) fun hF => ?_
  ·
   refine w_reg 834 962 rfl rfl ?_
   refine qp (.sl 322 0 v1006.1.length) rfl (qp (.sl 322 0 v1006.1.length) rfl ?_)
   refine r_nil ?_
   refine blockQ_n ?_
   refine thenQ_n ?_
   refine w_reg 962 1154 rfl rfl ?_
   refine qp (AI v50015) rfl (qp (AI (w64 (v50015 - 1))) rfl (qp (AI (w64 (v50015 - 1))) rfl ?_))
   refine r_nil ?_
   refine thenQ_n ?_
   refine ar (l' := [(0, .ptr 0 0 0), (3, .sl 1 0 v1006.1.length), (4, AI (w64 (v50015 - 1)))]) (L := [(1, .row true 3 (v1006.1.map eBlock)), (0, .box [.val none (.sl 1 (v1005.1.1.map (V.int .u8))), AI v1005.1.2.1, .val none (.int .u64 v1005.1.2.2)])]) [0, 3, 4] [(322, 1), (0, 0)] 2 ⟨_, by rfl, hF⟩
  ·
   refine w_skip ?_
   refine blockQ_n ?_
   refine thenQ_n ?_
   refine w_reg 834 1026 rfl rfl ?_
   refine qp (AI v50015) rfl (qp (AI (w64 (v50015 - 1))) rfl (qp (AI (w64 (v50015 - 1))) rfl ?_))
   refine r_nil ?_
   refine thenQ_n ?_
   refine ar (l' := [(0, .ptr 0 0 0), (3, .sl 1 0 v50019.length), (4, AI (w64 (v50015 - 1)))]) (L := [(1, .row true 3 (v50019.map eBlock)), (0, .box [.val none (.sl 1 (v1005.1.1.map (V.int .u8))), AI v1005.1.2.1, .val none (.int .u64 v1005.1.2.2)])]) [0, 3, 4] [(1, 1), (0, 0)] 2 ⟨_, by rfl, hF⟩
 ·
  refine w_exit ?_
  refine thenQ_e ?_
  refine thenQ_e ?_
  refine blockQ_e ?_
  refine thenQ_n ?_
  refine ws 130 258 ?_
  refine qp (.sl 1 0 v50019.length) rfl (qp (.sl 1 0 v50019.length) rfl ?_)
  refine r_nil ?_
  refine w_ret ?_
  cases hF
  exact endP_r rfl (by first | rfl | (simp [List.take_of_length_le]; first | exact ⟨rfl, rfl⟩ | rfl)) (by simp) (by first | rfl | simp) (by first | rfl | simp [res_spec_l29Draw, List.take_of_length_le]) rfl (by first | rfl | simp)

def c5 : MC := (.seq (.reg [rg 2 (.f (.nilrow 3))]) (.seq (.reg [mvt 4 0, rg 5 (.call true 13 [(.t 4)]), mvt 3 5]) (.seq (.reg [mvt 6 3, rg 7 (.call true 14 [(.t 6)]), mvt 2 7]) .ret)))
theorem c5_is : compFn Try.prog 5 = some (c5, [(.tmp 2)]) := by kernel_rfl
theorem c5_ok : okFn Try.prog 5 = true := by kernel_rfl

noncomputable def F_spec_R8Blocks (v0 : List Int) : Option (List TBlock) :=
 (((F_spec_l29Draw (v0, 0, 0)).bind fun v1000 => some v1000.2))
@[simp] def res_spec_R8Blocks (r : List TBlock) : RV := .one (.one (.row true 3 (r.map eBlock)))
theorem con_spec_R8Blocks {v0 : List Int} {r : List TBlock} (hF : F_spec_R8Blocks v0 = some r) : Con Try.prog 5 [.sl 1 (v0.map (V.int .u8))] (res_spec_R8Blocks r) := by
 unfold F_spec_R8Blocks at hF
 refine con_of c5_is fun N => ?_
 refine ws 0 64 ?_
 refine qf (.sl 0 0 0) [(0, .row true 3 (([] : List Int).map vI))] (by simp) ?_
 refine r_nil ?_
 refine ws 64 256 ?_
 refine qp (AL 1 (v0.map (V.int .u8))) rfl ?_
 refine qN [(128, .box [.val none (.sl 1 (v0.map (V.int .u8))), AI 0, .val none (.int .u64 0)]), (0, .row true 3 (([] : List Int).map vI))] (con_l00From_13 v0) c13_ok (by first | rfl | simp) rfl ?_
 refine qp (.ptr 128 0 0) rfl ?_
 refine r_nil ?_
 refine ws 256 448 ?_
 refine qp (.ptr 128 0 0) rfl ?_
 obtain ⟨v1000, e1000, hF⟩ := bind_get hF
 refine qP [] (.sl 320 0 v1000.2.length) [(320, .row true 3 (v1000.2.map eBlock)), (128, .box [.val none (.sl 1 (v1000.1.1.map (V.int .u8))), AI v1000.1.2.1, .val none (.int .u64 v1000.1.2.2)]), (128, .box [.val none (.sl 1 (v0.map (V.int .u8))), AI 0, .val none (.int .u64 0)]), (0, .row true 3 (([] : List Int).map vI))] rfl rfl rfl (by decide) (con_spec_l29Draw e1000) c14_ok (by first | rfl | simp) killO_nil rfl (by simp [res_spec_l29Draw]) ?_
 refine qp (.sl 320 0 v1000.2.length) rfl ?_
 refine r_nil ?_
 refine w_ret ?_
 cases hF
 exact eR

def c41 : MC := (.seq (.reg [rg 2 (.p true (.mv (.c (.bool false))))]) (.seq (.seq (.reg [mvt 5 0, rg 6 (.p true (.lens (.t 5))), rg 7 (.p true (.mv (.c (.int .i64 0))))]) (.block 0 (.loop (.seq (.reg [rg 8 (.p true (.bin .lss (.t 7) (.t 6)))]) (.seq (.cond (.t 8) .skip (.exit 0)) (.seq (.block 1 (.seq (.reg [mvt 9 7, mvt 3 9]) (.seq (.reg [mvt 10 0, mvt 11 3, rg 12 (.p true (.ixs (.t 10) (.t 11))), mvt 4 12]) (.seq (.reg [mvt 13 4, rg 14 (.p true (.bin .lss (.t 13) (.c (.int .u8 97)))), mvt 15 14, ⟨(some 16), (some (15, false)), (.p true (.mv (.t 4)))⟩, ⟨(some 17), (some (15, false)), (.p true (.bin .gtr (.t 16) (.c (.int .u8 122))))⟩, rg 18 (.p true (.pick (.t 15) (.c (.bool true)) (.t 17))), mvt 19 18, ⟨(some 20), (some (19, true)), (.p true (.mv (.t 4)))⟩, ⟨(some 21), (some (19, true)), (.p true (.bin .lss (.t 20) (.c (.int .u8 48))))⟩, ⟨(some 22), (some (19, true)), (.p true (.mv (.t 21)))⟩, ⟨(some 23), (some (22, false)), (.p true (.mv (.t 4)))⟩, ⟨(some 24), (some (22, false)), (.p true (.bin .gtr (.t 23) (.c (.int .u8 57))))⟩, ⟨(some 25), (some (19, true)), (.p true (.pick (.t 22) (.c (.bool true)) (.t 24)))⟩, rg 26 (.p true (.pick (.t 19) (.t 25) (.c (.bool false))))]) (.cond (.t 26) (.seq (.reg [rg 2 (.p true (.mv (.c (.bool false))))]) .ret) .skip))))) (.reg [rg 27 (.p true (.bin .add (.t 7) (.c (.int .i64 1)))), mvt 7 27]))))))) (.seq (.reg [rg 2 (.p true (.mv (.c (.bool true))))]) .ret)))
theorem c41_is : compFn Try.prog 41 = some (c41, [(.tmp 2)]) := by kernel_rfl
theorem c41_ok : okFn Try.prog 41 = true := by kernel_rfl

noncomputable def F_impl_onlyNameBytes_l0 (v0 : List UInt8) (k0 : Int → Option (Bool)) : Int → Option (Bool)
 | v50001 => (bif (decide (v50001 < (v0.length : Int))) then ((ix v0 v50001).bind fun v1000 => (bif (decide ((v1000.toNat : Int) < (97 : Int))) then (bif (decide ((v1000.toNat : Int) < (48 : Int))) then some false
 else (bif (decide ((57 : Int) < (v1000.toNat : Int))) then some false
 else k0 (w64 (v50001 + 1))))
 else (bif (decide ((122 : Int) < (v1000.toNat : Int))) then (bif (decide ((v1000.toNat : Int) < (48 : Int))) then some false
 else (bif (decide ((57 : Int) < (v1000.toNat : Int))) then some false
 else k0 (w64 (v50001 + 1))))
 else k0 (w64 (v50001 + 1)))))
 else some true)
noncomputable def F_impl_onlyNameBytes (v0 : List UInt8) : Option (Bool) :=
 loop (F_impl_onlyNameBytes_l0 v0) 0
@[simp] def res_impl_onlyNameBytes (r : Bool) : RV := .one (.one (.val (.bool r)))
theorem con_impl_onlyNameBytes {v0 : List UInt8} {r : Bool} (hF : F_impl_onlyNameBytes v0 = some r) : Con Try.prog 41 [.str v0] (res_impl_onlyNameBytes r) := by
 unfold F_impl_onlyNameBytes at hF
 refine con_of c41_is fun N => ?_
 refine ws 0 64 ?_
 refine qp (AB false) rfl ?_
 refine r_nil ?_
 refine w_seq ?_
 refine ws 64 256 ?_
 refine qp (AS v0) rfl (qp (AI (v0.length : Int)) rfl (qp (AI 0) rfl ?_))
 refine r_nil ?_
 refine w_block ?_
 refine wr (l' := [(0, AS v0), (6, AI (v0.length : Int)), (7, AI 0)]) (L := []) [0, 6, 7] [] 1 ?_
 refine w_loopF (F_impl_onlyNameBytes_l0 v0) (fun s : Int => mkS [(0, AS v0), (6, AI (v0.length : Int)), (7, AI s)] (fo []) 1) hF ?_
 rintro k0 v50001 hF
 rw [F_impl_onlyNameBytes_l0] at hF
 try dsimp only
 refine ws 1 65 ?_
 refine qp (AB (decide (v50001 < (v0.length : Int)))) rfl ?_
 refine r_nil ?_
 refine w_seq ?_
 refine cF hF (fun hF => ?_) fun hF => ?_
 ·
  refine w_skip ?_
  refine thenQ_n ?_
  refine w_seq ?_
  refine w_block ?_
  refine ws 65 193 ?_
  refine qp (AI v50001) rfl (qp (AI v50001) rfl ?_)
  refine r_nil ?_
  refine ws 193 449 ?_
  refine qp (AS v0) rfl (qp (AI v50001) rfl ?_)
  obtain ⟨v1000, e1000, hF⟩ := bind_get hF
  refine qp (.val none (.int .u8 (v1000.toNat : Int))) (ev_ixs rfl rfl e1000) (qp (.val none (.int .u8 (v1000.toNat : Int))) rfl ?_)
  refine r_nil ?_
  refine ws 449 1345 ?_
  refine qp (.val none (.int .u8 (v1000.toNat : Int))) rfl (qp (AB (decide ((v1000.toNat : Int) < (97 : Int)))) rfl (qp (AB (decide ((v1000.toNat : Int) < (97 : Int)))) rfl ?_))
  refine q_case 15 hF rfl (fun hF => ?_) (fun hF => ?_)
  ·
   refine qn rfl (qn rfl (qp (AB true) rfl (qp (AB true) rfl (qg (.val none (.int .u8 (v1000.toNat : Int))) rfl rfl (qg (AB (decide ((v1000.toNat : Int) < (48 : Int)))) rfl rfl (qg (AB (decide ((v1000.toNat : Int) < (48 : Int)))) rfl rfl ?_))))))
   refine q_case 22 hF rfl (fun hF => ?_) (fun hF => ?_)
   ·
    refine qn rfl (qn rfl (qg (AB true) rfl rfl (qp (AB true) rfl ?_)))
    refine r_nil ?_
    refine w_true rfl ?_
    refine ws 1345 1409 ?_
    refine qp (AB false) rfl ?_
    refine r_nil ?_
    refine w_ret ?_
    refine blockQ_r ?_
    refine thenQ_r ?_
    refine thenQ_r ?_
    refine blockQ_r ?_
    refine thenQ_r ?_
    cases hF
    exact eR
   ·
    refine qg (.val none (.int .u8 (v1000.toNat : Int))) rfl rfl (qg (AB (decide ((57 : Int) < (v1000.toNat : Int)))) rfl rfl (qg (AB (decide ((57 : Int) < (v1000.toNat : Int)))) rfl rfl (qp (AB (decide ((57 : Int) < (v1000.toNat : Int)))) rfl ?_)))
    refine r_nil ?_
    refine cF hF (fun hF => ?_) fun hF => ?_
    ·
     refine ws 1345 1409 ?_
     refine qp (AB false) rfl ?_
     refine r_nil ?_
     refine w_ret ?_
     refine blockQ_r ?_
     refine thenQ_r ?_
     refine thenQ_r ?_
     refine blockQ_r ?_
     refine thenQ_r ?_
     cases hF
     exact eR
    ·
     refine w_skip ?_
     refine blockQ_n ?_
     refine thenQ_n ?_
     refine w_reg 1345 1473 rfl rfl ?_
     refine qp (AI (w64 (v50001 + 1))) rfl (qp (AI (w64 (v50001 + 1))) rfl ?_)
     refine r_nil ?_
     refine thenQ_n ?_
     refine ar (l' := [(0, AS v0), (6, AI (v0.length : Int)), (7, AI (w64 (v50001 + 1)))]) (L := []) [0, 6, 7] [] 1 ⟨_, by rfl, hF⟩
  ·
   refine qg (.val none (.int .u8 (v1000.toNat : Int))) rfl rfl (qg (AB (decide ((122 : Int) < (v1000.toNat : Int)))) rfl rfl (qp (AB (decide ((122 : Int) < (v1000.toNat : Int)))) rfl (qp (AB (decide ((122 : Int) < (v1000.toNat : Int)))) rfl ?_)))
   refine q_case 19 hF rfl (fun hF => ?_) (fun hF => ?_)
   ·
    refine qg (.val none (.int .u8 (v1000.toNat : Int))) rfl rfl (qg (AB (decide ((v1000.toNat : Int) < (48 : Int)))) rfl rfl (qg (AB (decide ((v1000.toNat : Int) < (48 : Int)))) rfl rfl ?_))
    refine q_case 22 hF rfl (fun hF => ?_) (fun hF => ?_)
    ·
     refine qn rfl (qn rfl (qg (AB true) rfl rfl (qp (AB true) rfl ?_)))
     refine r_nil ?_
     refine w_true rfl ?_
     refine ws 1345 1409 ?_
     refine qp (AB false) rfl ?_
     refine r_nil ?_
     refine w_ret ?_
     refine blockQ_r ?_
     refine thenQ_r ?_
     refine thenQ_r ?_
     refine blockQ_r ?_
     refine thenQ_r ?_
     cases hF
     exact eR
    ·
     refine qg (.val none (.int .u8 (v1000.toNat : Int))) rfl rfl (qg (AB (decide ((57 : Int) < (v1000.toNat : Int)))) rfl rfl (qg (AB (decide ((57 : Int) < (v1000.toNat : Int)))) rfl rfl (qp (AB (decide ((57 : Int) < (v1000.toNat : Int)))) rfl ?_)))
     refine r_nil ?_
     refine cF hF (fun hF => ?_) fun hF => ?_
     ·
      refine ws 1345 1409 ?_
      refine qp (AB false) rfl ?_
      refine r_nil ?_
      refine w_ret ?_
      refine blockQ_r ?_
      refine thenQ_r ?_
      refine thenQ_r ?_
      refine blockQ_r ?_
      refine thenQ_r ?_
      cases hF
      exact eR
     ·
      refine w_skip ?_
      refine blockQ_n ?_
      refine thenQ_n ?_
      refine w_reg 1345 1473 rfl rfl ?_
      refine qp (AI (w64 (v50001 + 1))) rfl (qp (AI (w64 (v50001 + 1))) rfl ?_)
      refine r_nil ?_
      refine thenQ_n ?_
      refine ar (l' := [(0, AS v0), (6, AI (v0.length : Int)), (7, AI (w64 (v50001 + 1)))]) (L := []) [0, 6, 7] [] 1 ⟨_, by rfl, hF⟩
   ·
    refine qn rfl (qn rfl (qn rfl (qu rfl (qu rfl (qn rfl (qp (AB false) rfl ?_))))))
    refine r_nil ?_
    refine w_false rfl ?_
    refine w_skip ?_
    refine blockQ_n ?_
    refine thenQ_n ?_
    refine w_reg 1345 1473 rfl rfl ?_
    refine qp (AI (w64 (v50001 + 1))) rfl (qp (AI (w64 (v50001 + 1))) rfl ?_)
    refine r_nil ?_
    refine thenQ_n ?_
    refine ar (l' := [(0, AS v0), (6, AI (v0.length : Int)), (7, AI (w64 (v50001 + 1)))]) (L := []) [0, 6, 7] [] 1 ⟨_, by rfl, hF⟩
 ·
  refine w_exit ?_
  refine thenQ_e ?_
  refine thenQ_e ?_
  refine blockQ_e ?_
  refine thenQ_n ?_
  refine ws 65 129 ?_
  refine qp (AB true) rfl ?_
  refine r_nil ?_
  refine w_ret ?_
  cases hF
  exact eR

def c27 : MC := (.seq (.reg [rg 2 (.p true (.mv (.c (.bool false))))]) (.seq (.seq (.reg [mvt 3 0, rg 4 (.p true (.lens (.t 3))), rg 5 (.p true (.bin .lss (.t 4) (.c (.int .i64 1)))), mvt 6 5, ⟨(some 7), (some (6, false)), (.p true (.mv (.t 0)))⟩, ⟨(some 8), (some (6, false)), (.p true (.lens (.t 7)))⟩, ⟨(some 9), (some (6, false)), (.p true (.bin .gtr (.t 8) (.c (.int .i64 10))))⟩, rg 10 (.p true (.pick (.t 6) (.c (.bool true)) (.t 9))), mvt 11 10, ⟨(some 12), (some (11, false)), (.p true (.mv (.t 0)))⟩, ⟨(some 13), (some (11, false)), (.p true (.ixs (.t 12) (.c (.int .i64 0))))⟩, ⟨(some 14), (some (11, false)), (.p true (.bin .lss (.t 13) (.c (.int .u8 97))))⟩, rg 15 (.p true (.pick (.t 11) (.c (.bool true)) (.t 14))), mvt 16 15, ⟨(some 17), (some (16, false)), (.p true (.mv (.t 0)))⟩, ⟨(some 18), (some (16, false)), (.p true (.ixs (.t 17) (.c (.int .i64 0))))⟩, ⟨(some 19), (some (16, false)), (.p true (.bin .gtr (.t 18) (.c (.int .u8 122))))⟩, rg 20 (.p true (.pick (.t 16) (.c (.bool true)) (.t 19)))]) (.cond (.t 20) (.seq (.reg [rg 2 (.p true (.mv (.c (.bool false))))]) .ret) .skip)) (.seq (.reg [mvt 21 0, rg 22 (.call true 41 [(.t 21)]), mvt 2 22]) .ret)))
theorem c27_is : compFn Try.prog 27 = some (c27, [(.tmp 2)]) := by kernel_rfl
theorem c27_ok : okFn Try.prog 27 = true := by kernel_rfl

noncomputable def F_impl_IsName (v0 : List UInt8) : Option (Bool) :=
 (bif (decide ((v0.length : Int) < (1 : Int))) then some false
 else (bif (decide ((10 : Int) < (v0.length : Int))) then some false
 else ((ix v0 0).bind fun v1000 => (bif (decide ((v1000.toNat : Int) < (97 : Int))) then some false
 else ((ix v0 0).bind fun v1001 => (bif (decide ((122 : Int) < (v1001.toNat : Int))) then some false
 else ((F_impl_onlyNameBytes v0).bind fun v1002 => some v1002)))))))
@[simp] def res_impl_IsName (r : Bool) : RV := .one (.one (.val (.bool r)))
theorem con_impl_IsName {v0 : List UInt8} {r : Bool} (hF : F_impl_IsName v0 = some r) : Con Try.prog 27 [.str v0] (res_impl_IsName r) := by
 unfold F_impl_IsName at hF
 refine con_of c27_is fun N => ?_
 refine ws 0 64 ?_
 refine qp (AB false) rfl ?_
 refine r_nil ?_
 refine w_seq ?_
 refine ws 64 1216 ?_
 refine qp (AS v0) rfl (qp (AI (v0.length : Int)) rfl (qp (AB (decide ((v0.length : Int) < (1 : Int)))) rfl (qp (AB (decide ((v0.length : Int) < (1 : Int)))) rfl ?_)))
 refine q_case 6 hF rfl (fun hF => ?_) (fun hF => ?_)
 ·
  refine qn rfl (qn rfl (qn rfl (qp (AB true) rfl (qp (AB true) rfl (qn rfl (qn rfl (qn rfl ?_)))))))
  refine qp (AB true) rfl (qp (AB true) rfl (qn rfl (qn rfl (qn rfl (qp (AB true) rfl ?_)))))
  refine r_nil ?_
  refine w_true rfl ?_
  refine ws 1216 1280 ?_
  refine qp (AB false) rfl ?_
  refine r_nil ?_
  refine w_ret ?_
  refine thenQ_r ?_
  cases hF
  exact eR
 ·
  refine qg (AS v0) rfl rfl (qg (AI (v0.length : Int)) rfl rfl (qg (AB (decide ((10 : Int) < (v0.length : Int)))) rfl rfl (qp (AB (decide ((10 : Int) < (v0.length : Int)))) rfl (qp (AB (decide ((10 : Int) < (v0.length : Int)))) rfl ?_))))
  refine q_case 11 hF rfl (fun hF => ?_) (fun hF => ?_)
  ·
   refine qn rfl (qn rfl (qn rfl (qp (AB true) rfl (qp (AB true) rfl (qn rfl (qn rfl (qn rfl ?_)))))))
   refine qp (AB true) rfl ?_
   refine r_nil ?_
   refine w_true rfl ?_
   refine ws 1216 1280 ?_
   refine qp (AB false) rfl ?_
   refine r_nil ?_
   refine w_ret ?_
   refine thenQ_r ?_
   cases hF
   exact eR
  ·
   refine qg (AS v0) rfl rfl ?_
   obtain ⟨v1000, e1000, hF⟩ := bind_get hF
   refine qg (.val none (.int .u8 (v1000.toNat : Int))) rfl (ev_ixs rfl rfl e1000) (qg (AB (decide ((v1000.toNat : Int) < (97 : Int)))) rfl rfl (qp (AB (decide ((v1000.toNat : Int) < (97 : Int)))) rfl (qp (AB (decide ((v1000.toNat : Int) < (97 : Int)))) rfl ?_)))
   refine q_case 16 hF rfl (fun hF => ?_) (fun hF => ?_)
   ·
    refine qn rfl (qn rfl (qn rfl (qp (AB true) rfl ?_)))
    refine r_nil ?_
    refine w_true rfl ?_
    refine ws 1216 1280 ?_
    refine qp (AB false) rfl ?_
    refine r_nil ?_
    refine w_ret ?_
    refine thenQ_r ?_
    cases hF
    exact eR
   ·
    refine qg (AS v0) rfl rfl ?_
    obtain ⟨v1001, e1001, hF⟩ := bind_get hF
    refine qg (.val none (.int .u8 (v1001.toNat : Int))) rfl (ev_ixs rfl rfl e1001) (qg (AB (decide ((122 : Int) < (v1001.toNat : Int)))) rfl rfl (qp (AB (decide ((122 : Int) < (v1001.toNat : Int)))) rfl ?_))
    refine r_nil ?_
    refine cF hF (fun hF => ?_) fun hF => ?_
    ·
     refine ws 1216 1280 ?_
     refine qp (AB false) rfl ?_
     refine r_nil ?_
     refine w_ret ?_
     refine thenQ_r ?_
     cases hF
     exact eR
    ·
     refine w_skip ?_
     refine thenQ_n ?_
     refine ws 1216 1408 ?_
     refine qp (AS v0) rfl ?_
     obtain ⟨v1002, e1002, hF⟩ := bind_get hF
     refine qc (AB v1002) [] false (con_impl_onlyNameBytes e1002) c41_ok (by first | rfl | simp) rfl ?_
     refine qp (AB v1002) rfl ?_
     refine r_nil ?_
     refine w_ret ?_
     cases hF
     exact eR

theorem c64_x : IsIdx Try.prog 64 := ⟨by kernel_rfl, by kernel_rfl, by kernel_rfl, by kernel_rfl⟩




def c59 : MC := (.seq (.reg [rg 4 (.p true (.mv (.c (.int .i64 0))))]) (.seq (.reg [mvt 5 0, mvt 6 1, rg 7 (.call true 64 [(.t 5), (.t 6)]), mvt 4 7]) .ret))
theorem c59_is : compFn Try.prog 59 = some (c59, [(.tmp 4)]) := by kernel_rfl
theorem c59_ok : okFn Try.prog 59 = true := by kernel_rfl

noncomputable def F_stringslite_IndexByte (v0 : List UInt8) (v1 : Int) : Option (Int) :=
 some (byteIdx v0 (v1).toNat.toUInt8)
@[simp] def res_stringslite_IndexByte (r : Int) : RV := .one (.one (.val (.int .i64 r)))
theorem con_stringslite_IndexByte {v0 : List UInt8} {v1 : Int} {r : Int} (hF : F_stringslite_IndexByte v0 v1 = some r) : Con Try.prog 59 [.str v0, .int .u8 v1] (res_stringslite_IndexByte r) := by
 unfold F_stringslite_IndexByte at hF
 refine con_of c59_is fun N => ?_
 refine ws 0 64 ?_
 refine qp (AI 0) rfl ?_
 refine r_nil ?_
 refine ws 64 320 ?_
 refine qp (AS v0) rfl (qp (.val none (.int .u8 v1)) rfl ?_)
 refine qx (s := v0) (c := v1) c64_x (by first | rfl | simp) ?_
 refine qp (AI (byteIdx v0 (v1).toNat.toUInt8)) rfl ?_
 refine r_nil ?_
 refine w_ret ?_
 cases hF
 exact eR

end Go.Ab
