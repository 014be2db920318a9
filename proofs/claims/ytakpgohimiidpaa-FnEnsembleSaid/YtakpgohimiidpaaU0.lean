/- Walks (printed by auto.py, a program of this session's own). -/
import Derived.Test.YtakpgohimiidpaaS0
import Derived.Test.YtakpgohimiidpaaProg
import Derived.KernelRfl
import Derived.Test.YtakpgohimiidpaaSQ
set_option linter.unusedVariables false
set_option linter.unusedSimpArgs false
set_option maxRecDepth 8000
set_option maxHeartbeats 8000000
namespace Go.Ab
open Go.RowKit Go.Proofs

abbrev TL00Src := (List Int) × Int × Int
abbrev TTurn := (List UInt8) × Int × Int
@[simp] def eTurn (p : TTurn) : V := .agg [.str p.1, .int .i64 p.2.1, .int .i64 p.2.2]
abbrev TAnswer := (List UInt8) × (List UInt8) × Int
@[simp] def eAnswer (p : TAnswer) : V := .agg [.str p.1, .str p.2.1, .int .i64 p.2.2]
def c4 : MC := (.seq (.reg [rg 4 (.p true (.mv (.c (.bool false))))]) (.seq (.reg [mvt 5 0, rg 6 (.p true (.len (.t 5))), rg 7 (.p true (.bin .gtr (.t 6) (.c (.int .i64 1048576)))), mvt 8 7, ⟨(some 9), (some (8, false)), (.p true (.mv (.t 1)))⟩, ⟨(some 10), (some (8, false)), (.p true (.len (.t 9)))⟩, ⟨(some 11), (some (8, false)), (.p true (.bin .gtr (.t 10) (.c (.int .i64 1048576))))⟩, rg 12 (.p true (.pick (.t 8) (.c (.bool true)) (.t 11))), mvt 4 12]) .ret))
theorem c4_is : compFn Try.prog 4 = some (c4, [(.tmp 4)]) := by kernel_rfl
theorem c4_ok : okFn Try.prog 4 = true := by kernel_rfl

noncomputable def F_laws_r8Long (v0 : List Int) (v1 : List Int) : Option (Bool) :=
 (bif (decide ((1048576 : Int) < (v0.length : Int))) then some true
 else some (decide ((1048576 : Int) < (v1.length : Int))))
@[simp] def res_laws_r8Long (r : Bool) : RV := .one (.one (.val (.bool r)))
theorem con_laws_r8Long {v0 : List Int} {v1 : List Int} {r : Bool} (hF : F_laws_r8Long v0 v1 = some r) : Con Try.prog 4 [.sl 1 (v0.map (V.int .u8)), .sl 1 (v1.map (V.int .u8))] (res_laws_r8Long r) := by
 unfold F_laws_r8Long at hF
 refine con_of c4_is fun N => ?_
 refine ws 0 64 ?_
 refine qp (AB false) rfl ?_
 refine r_nil ?_
 refine ws 64 640 ?_
 refine qp (AL 1 (v0.map (V.int .u8))) rfl (qp (AI (v0.length : Int)) (ev_len_n rfl) (qp (AB (decide ((1048576 : Int) < (v0.length : Int)))) rfl (qp (AB (decide ((1048576 : Int) < (v0.length : Int)))) rfl ?_)))
 refine q_case 8 hF rfl (fun hF => ?_) (fun hF => ?_)
 ·
  refine qn rfl (qn rfl (qn rfl (qp (AB true) rfl (qp (AB true) rfl ?_))))
  refine r_nil ?_
  refine w_ret ?_
  cases hF
  exact eR
 ·
  refine qg (AL 1 (v1.map (V.int .u8))) rfl rfl (qg (AI (v1.length : Int)) rfl (ev_len_n rfl) (qg (AB (decide ((1048576 : Int) < (v1.length : Int)))) rfl rfl (qp (AB (decide ((1048576 : Int) < (v1.length : Int)))) rfl (qp (AB (decide ((1048576 : Int) < (v1.length : Int)))) rfl ?_))))
  refine r_nil ?_
  refine w_ret ?_
  cases hF
  exact eR

theorem c14_ok : okFn Try.prog 14 = true := by kernel_rfl




def c35 : MC := (.seq (.reg [rg 2 (.p true (.mv (.c (.int .i64 0))))]) (.seq (.reg [rg 3 (.p true (.mv (.c (.int .i64 0))))]) (.seq (.seq (.reg [rg 4 (.p false (.mv (.t 0))), rg 5 (.p false (.nck (.t 4))), rg 6 (.p false (.fad (.t 5) 1)), rg 7 (.p false (.ld (.t 6) 1 false)), rg 8 (.p false (.mv (.t 0))), rg 9 (.p false (.nck (.t 8))), rg 10 (.p false (.fad (.t 9) 0)), rg 11 (.p false (.ld (.t 10) 1 false)), rg 12 (.p false (.len (.t 11))), rg 13 (.p false (.bin .lss (.t 7) (.t 12)))]) (.cond (.t 13) (.reg [rg 14 (.p false (.mv (.t 0))), rg 15 (.p false (.nck (.t 14))), rg 16 (.p false (.fad (.t 15) 0)), rg 17 (.p false (.ld (.t 16) 1 false)), rg 18 (.p false (.mv (.t 0))), rg 19 (.p false (.nck (.t 18))), rg 20 (.p false (.fad (.t 19) 1)), rg 21 (.p false (.ld (.t 20) 1 false)), rg 22 (.p false (.iad (.t 17) (.t 21) 1)), rg 23 (.p false (.ld (.t 22) 1 false)), rg 24 (.p false (.conv .i64 (.t 23))), rg 3 (.p false (.mv (.t 24)))]) .skip)) (.seq (.reg [mvt 25 0, rg 26 (.p true (.nck (.t 25))), rg 27 (.p true (.fad (.t 26) 1)), rg 28 (.p true (.ld (.t 27) 1 false)), rg 29 (.p true (.bin .add (.t 28) (.c (.int .i64 1)))), rg 30 (.p true (.nck (.t 25))), rg 31 (.p true (.fad (.t 30) 1)), ⟨none, none, (.f (.st (.t 31) (.t 29) 1))⟩]) (.seq (.reg [mvt 32 0, mvt 33 0, rg 34 (.p true (.nck (.t 33))), rg 35 (.p true (.fad (.t 34) 2)), rg 36 (.p true (.ld (.t 35) 1 false)), rg 37 (.p true (.bin .mul (.t 36) (.c (.int .u64 6364136223846793005)))), mvt 38 3, rg 39 (.p true (.conv .u64 (.t 38))), rg 40 (.p true (.bin .add (.t 37) (.t 39))), rg 41 (.p true (.bin .add (.t 40) (.c (.int .u64 1442695040888963407)))), rg 42 (.p true (.nck (.t 32))), rg 43 (.p true (.fad (.t 42) 2)), ⟨none, none, (.f (.st (.t 43) (.t 41) 1))⟩]) (.seq (.seq (.reg [rg 44 (.p false (.mv (.t 0))), rg 45 (.p false (.nck (.t 44))), rg 46 (.p false (.fad (.t 45) 1)), rg 47 (.p false (.ld (.t 46) 1 false)), rg 48 (.p false (.mv (.t 0))), rg 49 (.p false (.nck (.t 48))), rg 50 (.p false (.fad (.t 49) 0)), rg 51 (.p false (.ld (.t 50) 1 false)), rg 52 (.p false (.len (.t 51))), rg 53 (.p false (.bin .leq (.t 47) (.t 52)))]) (.cond (.t 53) (.seq (.reg [mvt 54 3, mvt 2 54]) .ret) .skip)) (.seq (.reg [mvt 55 0, rg 56 (.p true (.nck (.t 55))), rg 57 (.p true (.fad (.t 56) 2)), rg 58 (.p true (.ld (.t 57) 1 false)), rg 59 (.p true (.bin .shr (.t 58) (.c (.int .u64 40)))), rg 60 (.p true (.bin .and (.t 59) (.c (.int .u64 255)))), rg 61 (.p true (.conv .i64 (.t 60))), mvt 2 61]) .ret)))))))
theorem c35_is : compFnM Try.prog 35 = some (c35, [(.tmp 2)]) := by kernel_rfl
theorem c35_ok : okFn Try.prog 35 = true := by kernel_rfl

noncomputable def F_spec_l00Src_next_j0 (v0 : TL00Src) (v50000 : Int) : Option (TL00Src × Int) :=
 (bif (decide (w64 (v0.2.1 + 1) ≤ (v0.1.length : Int))) then some ((v0.1, w64 (v0.2.1 + 1), IntKind.wrap .u64 ((IntKind.wrap .u64 ((IntKind.wrap .u64 (v0.2.2 * 6364136223846793005)) + (IntKind.wrap .u64 (v50000)))) + 1442695040888963407)), v50000)
 else (need (0 ≤ (40 : Int)) (some ((v0.1, w64 (v0.2.1 + 1), IntKind.wrap .u64 ((IntKind.wrap .u64 ((IntKind.wrap .u64 (v0.2.2 * 6364136223846793005)) + (IntKind.wrap .u64 (v50000)))) + 1442695040888963407)), w64 (bitAnd .u64 (Int.fdiv (IntKind.wrap .u64 ((IntKind.wrap .u64 ((IntKind.wrap .u64 (v0.2.2 * 6364136223846793005)) + (IntKind.wrap .u64 (v50000)))) + 1442695040888963407)) (2 ^ (min ((40 : Int)).toNat (IntKind.bits .u64)))) 255)))))
noncomputable def F_spec_l00Src_next (v0 : TL00Src) : Option (TL00Src × Int) :=
 (bif (decide (v0.2.1 < (v0.1.length : Int))) then ((ix v0.1 v0.2.1).bind fun v1000 => F_spec_l00Src_next_j0 v0 (w64 (v1000)))
 else F_spec_l00Src_next_j0 v0 0)
@[simp] def res_spec_l00Src_next (r : TL00Src × Int) : RV := .one (.one (.val (.int .i64 r.2)))
theorem con_spec_l00Src_next {v0 : TL00Src} {r : TL00Src × Int} (hF : F_spec_l00Src_next v0 = some r) : ConP Try.prog 35 [.sl 1 (v0.1.map (V.int .u8)), .int .i64 v0.2.1, .int .u64 v0.2.2] [.sl 1 (r.1.1.map (V.int .u8)), .int .i64 r.1.2.1, .int .u64 r.1.2.2] [] (res_spec_l00Src_next r) := by
 unfold F_spec_l00Src_next at hF
 refine conP_of (L := [(0, .box [.val none (.sl 1 (v0.1.map (V.int .u8))), AI v0.2.1, .val none (.int .u64 v0.2.2)])]) c35_is rfl fun N => ?_
 refine ws 64 128 ?_
 refine qp (AI 0) rfl ?_
 refine r_nil ?_
 refine ws 128 192 ?_
 refine qp (AI 0) rfl ?_
 refine r_nil ?_
 refine w_meet (fun s' => ∃ (v50000 : Int), s' = mkS [(0, .ptr 0 0 0), (3, AI v50000)] (fo [(0, .box [.val none (.sl 1 (v0.1.map (V.int .u8))), AI v0.2.1, .val none (.int .u64 v0.2.2)])]) 1 ∧ F_spec_l00Src_next_j0 v0 v50000 = some r) ?_ ?_
 ·
  refine ws 192 832 ?_
  refine qp (.ptr 0 0 0) rfl (qp (.ptr 0 0 0) rfl (qp (.ptr 0 0 1) rfl (qp (AI v0.2.1) rfl (qp (.ptr 0 0 0) rfl (qp (.ptr 0 0 0) rfl (qp (.ptr 0 0 0) rfl (qp (AL 1 (v0.1.map (V.int .u8))) rfl ?_)))))))
  refine qp (AI (v0.1.length : Int)) (ev_len_n rfl) (qp (AB (decide (v0.2.1 < (v0.1.length : Int)))) rfl ?_)
  refine r_nil ?_
  refine cF hF (fun hF => ?_) fun hF => ?_
  ·
   refine w_reg 832 1600 rfl rfl ?_
   refine qp (.ptr 0 0 0) rfl (qp (.ptr 0 0 0) rfl (qp (.ptr 0 0 0) rfl (qp (AL 1 (v0.1.map (V.int .u8))) rfl (qp (.ptr 0 0 0) rfl (qp (.ptr 0 0 0) rfl (qp (.ptr 0 0 1) rfl (qp (AI v0.2.1) rfl ?_)))))))
   obtain ⟨v1000, e1000, hF⟩ := bind_get hF
   refine qp (.val none (.ptr [.int .u8 v1000])) (ev_iad_n rfl rfl e1000 rfl) (qp (.val none (.int .u8 v1000)) rfl (qp (AI (w64 (v1000))) rfl (qp (AI (w64 (v1000))) rfl ?_)))
   refine r_nil ?_
   refine thenQ_n ?_
   refine ar (l' := [(0, .ptr 0 0 0), (3, AI (w64 (v1000)))]) (L := [(0, .box [.val none (.sl 1 (v0.1.map (V.int .u8))), AI v0.2.1, .val none (.int .u64 v0.2.2)])]) [0, 3] [(0, 0)] 1 ⟨_, rfl, hF⟩
  ·
   refine w_skip ?_
   refine thenQ_n ?_
   refine ar (l' := [(0, .ptr 0 0 0), (3, AI 0)]) (L := [(0, .box [.val none (.sl 1 (v0.1.map (V.int .u8))), AI v0.2.1, .val none (.int .u64 v0.2.2)])]) [0, 3] [(0, 0)] 1 ⟨_, rfl, hF⟩
 ·
  rintro s' ⟨v50000, rfl, hF⟩
  unfold F_spec_l00Src_next_j0 at hF
  refine ws 1 513 ?_
  refine qp (.ptr 0 0 0) rfl (qp (.ptr 0 0 0) rfl (qp (.ptr 0 0 1) rfl (qp (AI v0.2.1) rfl (qp (AI (w64 (v0.2.1 + 1))) rfl (qp (.ptr 0 0 0) rfl (qp (.ptr 0 0 1) rfl ?_))))))
  refine qf0 (.undef) [(0, .box [.val none (.sl 1 (v0.1.map (V.int .u8))), AI (w64 (v0.2.1 + 1)), .val none (.int .u64 v0.2.2)]), (0, .box [.val none (.sl 1 (v0.1.map (V.int .u8))), AI v0.2.1, .val none (.int .u64 v0.2.2)])] (by simp) ?_
  refine r_nil ?_
  refine ws 513 1345 ?_
  refine qp (.ptr 0 0 0) rfl (qp (.ptr 0 0 0) rfl (qp (.ptr 0 0 0) rfl (qp (.ptr 0 0 2) rfl (qp (.val none (.int .u64 v0.2.2)) rfl (qp (.val none (.int .u64 (IntKind.wrap .u64 (v0.2.2 * 6364136223846793005)))) rfl (qp (AI v50000) rfl (qp (.val none (.int .u64 (IntKind.wrap .u64 (v50000)))) rfl ?_)))))))
  refine qp (.val none (.int .u64 (IntKind.wrap .u64 ((IntKind.wrap .u64 (v0.2.2 * 6364136223846793005)) + (IntKind.wrap .u64 (v50000)))))) rfl (qp (.val none (.int .u64 (IntKind.wrap .u64 ((IntKind.wrap .u64 ((IntKind.wrap .u64 (v0.2.2 * 6364136223846793005)) + (IntKind.wrap .u64 (v50000)))) + 1442695040888963407)))) rfl (qp (.ptr 0 0 0) rfl (qp (.ptr 0 0 2) rfl ?_)))
  refine qf0 (.undef) [(0, .box [.val none (.sl 1 (v0.1.map (V.int .u8))), AI (w64 (v0.2.1 + 1)), .val none (.int .u64 (IntKind.wrap .u64 ((IntKind.wrap .u64 ((IntKind.wrap .u64 (v0.2.2 * 6364136223846793005)) + (IntKind.wrap .u64 (v50000)))) + 1442695040888963407)))]), (0, .box [.val none (.sl 1 (v0.1.map (V.int .u8))), AI (w64 (v0.2.1 + 1)), .val none (.int .u64 v0.2.2)]), (0, .box [.val none (.sl 1 (v0.1.map (V.int .u8))), AI v0.2.1, .val none (.int .u64 v0.2.2)])] (by simp) ?_
  refine r_nil ?_
  refine w_seq ?_
  refine ws 1345 1985 ?_
  refine qp (.ptr 0 0 0) rfl (qp (.ptr 0 0 0) rfl (qp (.ptr 0 0 1) rfl (qp (AI (w64 (v0.2.1 + 1))) rfl (qp (.ptr 0 0 0) rfl (qp (.ptr 0 0 0) rfl (qp (.ptr 0 0 0) rfl (qp (AL 1 (v0.1.map (V.int .u8))) rfl ?_)))))))
  refine qp (AI (v0.1.length : Int)) (ev_len_n rfl) (qp (AB (decide (w64 (v0.2.1 + 1) ≤ (v0.1.length : Int)))) rfl ?_)
  refine r_nil ?_
  refine cF hF (fun hF => ?_) fun hF => ?_
  ·
   refine ws 1985 2113 ?_
   refine qp (AI v50000) rfl (qp (AI v50000) rfl ?_)
   refine r_nil ?_
   refine w_ret ?_
   refine thenQ_r ?_
   cases hF
   exact endP_r rfl (by first | rfl | (simp [List.take_of_length_le]; first | exact ⟨rfl, rfl⟩ | rfl)) (by simp) (by first | rfl | simp) (by first | rfl | simp [res_spec_l00Src_next, List.take_of_length_le]) rfl (by first | rfl | simp)
  ·
   refine w_skip ?_
   refine thenQ_n ?_
   refine ws 1985 2497 ?_
   refine qp (.ptr 0 0 0) rfl (qp (.ptr 0 0 0) rfl (qp (.ptr 0 0 2) rfl (qp (.val none (.int .u64 (IntKind.wrap .u64 ((IntKind.wrap .u64 ((IntKind.wrap .u64 (v0.2.2 * 6364136223846793005)) + (IntKind.wrap .u64 (v50000)))) + 1442695040888963407)))) rfl ?_)))
   obtain ⟨g1001, hF⟩ := need_some hF
   refine qp (.val none (.int .u64 (Int.fdiv (IntKind.wrap .u64 ((IntKind.wrap .u64 ((IntKind.wrap .u64 (v0.2.2 * 6364136223846793005)) + (IntKind.wrap .u64 (v50000)))) + 1442695040888963407)) (2 ^ (min ((40 : Int)).toNat (IntKind.bits .u64)))))) (ev_shr rfl rfl g1001) (qp (.val none (.int .u64 (bitAnd .u64 (Int.fdiv (IntKind.wrap .u64 ((IntKind.wrap .u64 ((IntKind.wrap .u64 (v0.2.2 * 6364136223846793005)) + (IntKind.wrap .u64 (v50000)))) + 1442695040888963407)) (2 ^ (min ((40 : Int)).toNat (IntKind.bits .u64)))) 255))) rfl (qp (AI (w64 (bitAnd .u64 (Int.fdiv (IntKind.wrap .u64 ((IntKind.wrap .u64 ((IntKind.wrap .u64 (v0.2.2 * 6364136223846793005)) + (IntKind.wrap .u64 (v50000)))) + 1442695040888963407)) (2 ^ (min ((40 : Int)).toNat (IntKind.bits .u64)))) 255))) rfl (qp (AI (w64 (bitAnd .u64 (Int.fdiv (IntKind.wrap .u64 ((IntKind.wrap .u64 ((IntKind.wrap .u64 (v0.2.2 * 6364136223846793005)) + (IntKind.wrap .u64 (v50000)))) + 1442695040888963407)) (2 ^ (min ((40 : Int)).toNat (IntKind.bits .u64)))) 255))) rfl ?_)))
   refine r_nil ?_
   refine w_ret ?_
   cases hF
   exact endP_r rfl (by first | rfl | (simp [List.take_of_length_le]; first | exact ⟨rfl, rfl⟩ | rfl)) (by simp) (by first | rfl | simp) (by first | rfl | simp [res_spec_l00Src_next, List.take_of_length_le]) rfl (by first | rfl | simp)

def c16 : MC := (.seq (.reg [rg 4 (.p true (.mv (.c (.int .i64 0))))]) (.seq (.seq (.reg [mvt 6 1, rg 7 (.p true (.bin .leq (.t 6) (.c (.int .i64 1))))]) (.cond (.t 7) (.seq (.reg [rg 4 (.p true (.mv (.c (.int .i64 0))))]) .ret) .skip)) (.seq (.reg [mvt 8 0, rg 9 (.call true 35 [(.t 8)]), mvt 5 9]) (.seq (.seq (.reg [mvt 10 1, rg 11 (.p true (.bin .gtr (.t 10) (.c (.int .i64 200))))]) (.cond (.t 11) (.reg [mvt 12 5, rg 13 (.p true (.bin .mul (.t 12) (.c (.int .i64 256)))), mvt 14 0, rg 15 (.call true 35 [(.t 14)]), rg 16 (.p true (.bin .add (.t 13) (.t 15))), mvt 5 16]) .skip)) (.seq (.reg [mvt 17 5, mvt 18 1, rg 19 (.p true (.bin .rem (.t 17) (.t 18))), mvt 4 19]) .ret)))))
theorem c16_is : compFnM Try.prog 16 = some (c16, [(.tmp 4)]) := by kernel_rfl
theorem c16_ok : okFn Try.prog 16 = true := by kernel_rfl

noncomputable def F_spec_l00Src_pick_j0 (v1 : Int) (v50004 : Int) (v50005 : List Int) (v50006 : Int) (v50007 : Int) : Option (TL00Src × Int) :=
 (need (v1 ≠ 0) (some ((v50005, v50006, v50007), Int.tmod v50004 v1)))
noncomputable def F_spec_l00Src_pick (v0 : TL00Src) (v1 : Int) : Option (TL00Src × Int) :=
 (bif (decide (v1 ≤ (1 : Int))) then some (v0, 0)
 else ((F_spec_l00Src_next v0).bind fun v1000 => (bif (decide ((200 : Int) < v1)) then ((F_spec_l00Src_next v1000.1).bind fun v1002 => F_spec_l00Src_pick_j0 v1 (w64 ((w64 (v1000.2 * 256)) + v1002.2)) v1002.1.1 v1002.1.2.1 v1002.1.2.2)
 else F_spec_l00Src_pick_j0 v1 v1000.2 v1000.1.1 v1000.1.2.1 v1000.1.2.2)))
@[simp] def res_spec_l00Src_pick (r : TL00Src × Int) : RV := .one (.one (.val (.int .i64 r.2)))
theorem con_spec_l00Src_pick {v0 : TL00Src} {v1 : Int} {r : TL00Src × Int} (hF : F_spec_l00Src_pick v0 v1 = some r) : ConP Try.prog 16 [.sl 1 (v0.1.map (V.int .u8)), .int .i64 v0.2.1, .int .u64 v0.2.2] [.sl 1 (r.1.1.map (V.int .u8)), .int .i64 r.1.2.1, .int .u64 r.1.2.2] [.int .i64 v1] (res_spec_l00Src_pick r) := by
 unfold F_spec_l00Src_pick at hF
 refine conP_of (L := [(0, .box [.val none (.sl 1 (v0.1.map (V.int .u8))), AI v0.2.1, .val none (.int .u64 v0.2.2)])]) c16_is rfl fun N => ?_
 refine ws 64 128 ?_
 refine qp (AI 0) rfl ?_
 refine r_nil ?_
 refine w_seq ?_
 refine ws 128 256 ?_
 refine qp (AI v1) rfl (qp (AB (decide (v1 ≤ (1 : Int)))) rfl ?_)
 refine r_nil ?_
 refine cF hF (fun hF => ?_) fun hF => ?_
 ·
  refine ws 256 320 ?_
  refine qp (AI 0) rfl ?_
  refine r_nil ?_
  refine w_ret ?_
  refine thenQ_r ?_
  cases hF
  exact endP_r rfl (by first | rfl | (simp [List.take_of_length_le]; first | exact ⟨rfl, rfl⟩ | rfl)) (by simp) (by first | rfl | simp) (by first | rfl | simp [res_spec_l00Src_pick, List.take_of_length_le]) rfl (by first | rfl | simp)
 ·
  refine w_skip ?_
  refine thenQ_n ?_
  refine ws 256 448 ?_
  refine qp (.ptr 0 0 0) rfl ?_
  obtain ⟨v1000, e1000, hF⟩ := bind_get hF
  refine qP [] (AI v1000.2) [(0, .box [.val none (.sl 1 (v1000.1.1.map (V.int .u8))), AI v1000.1.2.1, .val none (.int .u64 v1000.1.2.2)]), (0, .box [.val none (.sl 1 (v0.1.map (V.int .u8))), AI v0.2.1, .val none (.int .u64 v0.2.2)])] rfl rfl rfl (by decide) (con_spec_l00Src_next e1000) c35_ok (by first | rfl | simp) killO_nil rfl rfl ?_
  refine qp (AI v1000.2) rfl ?_
  refine r_nil ?_
  refine w_meet (fun s' => ∃ (v50004 : Int) (v50005 : List Int) (v50006 : Int) (v50007 : Int), s' = mkS [(0, .ptr 0 0 0), (1, AI v1), (5, AI v50004)] (fo [(0, .box [.val none (.sl 1 (v50005.map (V.int .u8))), AI v50006, .val none (.int .u64 v50007)])]) 1 ∧ F_spec_l00Src_pick_j0 v1 v50004 v50005 v50006 v50007 = some r) ?_ ?_
  ·
   refine ws 448 576 ?_
   refine qp (AI v1) rfl (qp (AB (decide ((200 : Int) < v1))) rfl ?_)
   refine r_nil ?_
   refine cF hF (fun hF => ?_) fun hF => ?_
   ·
    refine w_reg 576 960 rfl rfl ?_
    refine qp (AI v1000.2) rfl (qp (AI (w64 (v1000.2 * 256))) rfl (qp (.ptr 0 0 0) rfl ?_))
    obtain ⟨v1002, e1002, hF⟩ := bind_get hF
    refine qP [] (AI v1002.2) [(0, .box [.val none (.sl 1 (v1002.1.1.map (V.int .u8))), AI v1002.1.2.1, .val none (.int .u64 v1002.1.2.2)]), (0, .box [.val none (.sl 1 (v1000.1.1.map (V.int .u8))), AI v1000.1.2.1, .val none (.int .u64 v1000.1.2.2)]), (0, .box [.val none (.sl 1 (v0.1.map (V.int .u8))), AI v0.2.1, .val none (.int .u64 v0.2.2)])] rfl rfl rfl (by decide) (con_spec_l00Src_next e1002) c35_ok (by first | rfl | simp) killO_nil rfl rfl ?_
    refine qp (AI (w64 ((w64 (v1000.2 * 256)) + v1002.2))) rfl (qp (AI (w64 ((w64 (v1000.2 * 256)) + v1002.2))) rfl ?_)
    refine r_nil ?_
    refine thenQ_n ?_
    refine ar (l' := [(0, .ptr 0 0 0), (1, AI v1), (5, AI (w64 ((w64 (v1000.2 * 256)) + v1002.2)))]) (L := [(0, .box [.val none (.sl 1 (v1002.1.1.map (V.int .u8))), AI v1002.1.2.1, .val none (.int .u64 v1002.1.2.2)])]) [0, 1, 5] [(0, 0)] 1 ⟨_, _, _, _, rfl, hF⟩
   ·
    refine w_skip ?_
    refine thenQ_n ?_
    refine ar (l' := [(0, .ptr 0 0 0), (1, AI v1), (5, AI v1000.2)]) (L := [(0, .box [.val none (.sl 1 (v1000.1.1.map (V.int .u8))), AI v1000.1.2.1, .val none (.int .u64 v1000.1.2.2)])]) [0, 1, 5] [(0, 0)] 1 ⟨_, _, _, _, rfl, hF⟩
  ·
   rintro s' ⟨v50004, v50005, v50006, v50007, rfl, hF⟩
   unfold F_spec_l00Src_pick_j0 at hF
   refine ws 1 257 ?_
   refine qp (AI v50004) rfl (qp (AI v1) rfl ?_)
   obtain ⟨g1003, hF⟩ := need_some hF
   refine qp (AI (Int.tmod v50004 v1)) (ev_rem rfl rfl g1003) (qp (AI (Int.tmod v50004 v1)) rfl ?_)
   refine r_nil ?_
   refine w_ret ?_
   cases hF
   exact endP_r rfl (by first | rfl | (simp [List.take_of_length_le]; first | exact ⟨rfl, rfl⟩ | rfl)) (by simp) (by first | rfl | simp) (by first | rfl | simp [res_spec_l00Src_pick, List.take_of_length_le]) rfl (by first | rfl | simp)

def c36 : MC := (.seq (.reg [rg 4 (.p true (.mv (.c (.str []))))]) (.seq (.reg [mvt 5 1, mvt 6 0, mvt 7 1, rg 8 (.p true (.len (.t 7))), rg 9 (.call true 16 [(.t 6), (.t 8)]), rg 10 (.p true (.iad (.t 5) (.t 9) 1)), rg 11 (.p true (.ld (.t 10) 1 false)), mvt 4 11]) .ret))
theorem c36_is : compFnM Try.prog 36 = some (c36, [(.tmp 4)]) := by kernel_rfl
theorem c36_ok : okFn Try.prog 36 = true := by kernel_rfl

noncomputable def F_spec_l00Src_text (v0 : TL00Src) (v1 : List (List UInt8)) : Option (TL00Src × (List UInt8)) :=
 ((F_spec_l00Src_pick v0 (v1.length : Int)).bind fun v1000 => ((ix v1 v1000.2).bind fun v1001 => some (v1000.1, v1001)))
@[simp] def res_spec_l00Src_text (r : TL00Src × (List UInt8)) : RV := .one (.one (.val (.str r.2)))
theorem con_spec_l00Src_text {v0 : TL00Src} {v1 : List (List UInt8)} {r : TL00Src × (List UInt8)} (hF : F_spec_l00Src_text v0 v1 = some r) : ConP Try.prog 36 [.sl 1 (v0.1.map (V.int .u8)), .int .i64 v0.2.1, .int .u64 v0.2.2] [.sl 1 (r.1.1.map (V.int .u8)), .int .i64 r.1.2.1, .int .u64 r.1.2.2] [.sl 1 (v1.map V.str)] (res_spec_l00Src_text r) := by
 unfold F_spec_l00Src_text at hF
 refine conP_of (L := [(0, .box [.val none (.sl 1 (v0.1.map (V.int .u8))), AI v0.2.1, .val none (.int .u64 v0.2.2)])]) c36_is rfl fun N => ?_
 refine ws 64 128 ?_
 refine qp (AS []) rfl ?_
 refine r_nil ?_
 refine ws 128 640 ?_
 refine qp (AL 1 (v1.map V.str)) rfl (qp (.ptr 0 0 0) rfl (qp (AL 1 (v1.map V.str)) rfl (qp (AI (v1.length : Int)) (ev_len_n rfl) ?_)))
 obtain ⟨v1000, e1000, hF⟩ := bind_get hF
 refine qP [] (AI v1000.2) [(0, .box [.val none (.sl 1 (v1000.1.1.map (V.int .u8))), AI v1000.1.2.1, .val none (.int .u64 v1000.1.2.2)]), (0, .box [.val none (.sl 1 (v0.1.map (V.int .u8))), AI v0.2.1, .val none (.int .u64 v0.2.2)])] rfl rfl rfl (by decide) (con_spec_l00Src_pick e1000) c16_ok (by first | rfl | simp) killO_nil rfl rfl ?_
 obtain ⟨v1001, e1001, hF⟩ := bind_get hF
 refine qp (.val none (.ptr [.str v1001])) (ev_iad_n rfl rfl e1001 rfl) (qp (AS v1001) rfl (qp (AS v1001) rfl ?_))
 refine r_nil ?_
 refine w_ret ?_
 cases hF
 exact endP_r rfl (by first | rfl | (simp [List.take_of_length_le]; first | exact ⟨rfl, rfl⟩ | rfl)) (by simp) (by first | rfl | simp) (by first | rfl | simp [res_spec_l00Src_text, List.take_of_length_le]) rfl (by first | rfl | simp)

def c17 : MC := (.seq (.reg [rg 2 (.p true (.mv (.c (.str []))))]) (.seq (.reg [mvt 3 0, rg 4 (.f (.bsl 1 [(.c (.str [100, 114, 111, 110, 101])), (.c (.str [100, 114, 117, 109])), (.c (.str [102, 108, 117, 116, 101]))])), rg 5 (.call true 36 [(.t 3), (.t 4)]), mvt 2 5]) .ret))
theorem c17_is : compFnM Try.prog 17 = some (c17, [(.tmp 2)]) := by kernel_rfl
theorem c17_ok : okFn Try.prog 17 = true := by kernel_rfl

noncomputable def F_spec_l23Player (v0 : TL00Src) : Option (TL00Src × (List UInt8)) :=
 ((F_spec_l00Src_text v0 ([[100, 114, 111, 110, 101], [100, 114, 117, 109], [102, 108, 117, 116, 101]] : List (List UInt8))).bind fun v1000 => some (v1000.1, v1000.2))
@[simp] def res_spec_l23Player (r : TL00Src × (List UInt8)) : RV := .one (.one (.val (.str r.2)))
theorem con_spec_l23Player {v0 : TL00Src} {r : TL00Src × (List UInt8)} (hF : F_spec_l23Player v0 = some r) : ConP Try.prog 17 [.sl 1 (v0.1.map (V.int .u8)), .int .i64 v0.2.1, .int .u64 v0.2.2] [.sl 1 (r.1.1.map (V.int .u8)), .int .i64 r.1.2.1, .int .u64 r.1.2.2] [] (res_spec_l23Player r) := by
 unfold F_spec_l23Player at hF
 refine conP_of (L := [(0, .box [.val none (.sl 1 (v0.1.map (V.int .u8))), AI v0.2.1, .val none (.int .u64 v0.2.2)])]) c17_is rfl fun N => ?_
 refine ws 64 128 ?_
 refine qp (AS []) rfl ?_
 refine r_nil ?_
 refine ws 128 384 ?_
 refine qp (.ptr 0 0 0) rfl ?_
 refine qf (.sl 192 0 (([[100, 114, 111, 110, 101], [100, 114, 117, 109], [102, 108, 117, 116, 101]] : List (List UInt8)).length)) [(192, .row true 1 (([[100, 114, 111, 110, 101], [100, 114, 117, 109], [102, 108, 117, 116, 101]] : List (List UInt8)).map V.str)), (0, .box [.val none (.sl 1 (v0.1.map (V.int .u8))), AI v0.2.1, .val none (.int .u64 v0.2.2)])] (by simp [List.take_of_length_le]) ?_
 obtain ⟨v1000, e1000, hF⟩ := bind_get hF
 refine qP [192] (AS v1000.2) [(0, .box [.val none (.sl 1 (v1000.1.1.map (V.int .u8))), AI v1000.1.2.1, .val none (.int .u64 v1000.1.2.2)]), (192, .dead), (192, .row true 1 (([[100, 114, 111, 110, 101], [100, 114, 117, 109], [102, 108, 117, 116, 101]] : List (List UInt8)).map V.str)), (0, .box [.val none (.sl 1 (v0.1.map (V.int .u8))), AI v0.2.1, .val none (.int .u64 v0.2.2)])] rfl rfl rfl (by decide) (con_spec_l00Src_text e1000) c36_ok (by first | rfl | simp [onlyS, List.take_of_length_le]) (killO_one rfl) rfl rfl ?_
 refine qp (AS v1000.2) rfl ?_
 refine r_nil ?_
 refine w_ret ?_
 cases hF
 exact endP_r rfl (by first | rfl | (simp [List.take_of_length_le]; first | exact ⟨rfl, rfl⟩ | rfl)) (by simp) (by first | rfl | simp) (by first | rfl | simp [res_spec_l23Player, List.take_of_length_le]) rfl (by first | rfl | simp)

def c47 : MC := (.seq (.reg [rg 4 (.p true (.mv (.c (.bool false))))]) (.seq (.seq (.reg [rg 5 (.p false (.mv (.t 0))), rg 6 (.p false (.nck (.t 5))), rg 7 (.p false (.fad (.t 6) 1)), rg 8 (.p false (.ld (.t 7) 1 false)), rg 9 (.p false (.mv (.t 1))), rg 10 (.p false (.nck (.t 9))), rg 11 (.p false (.fad (.t 10) 1)), rg 12 (.p false (.ld (.t 11) 1 false)), rg 13 (.p false (.bin .neq (.t 8) (.t 12)))]) (.cond (.t 13) (.seq (.reg [rg 14 (.p false (.mv (.t 0))), rg 15 (.p false (.nck (.t 14))), rg 16 (.p false (.fad (.t 15) 1)), rg 17 (.p false (.ld (.t 16) 1 false)), rg 18 (.p false (.mv (.t 1))), rg 19 (.p false (.nck (.t 18))), rg 20 (.p false (.fad (.t 19) 1)), rg 21 (.p false (.ld (.t 20) 1 false)), rg 22 (.p false (.bin .lss (.t 17) (.t 21))), rg 4 (.p false (.mv (.t 22)))]) .ret) .skip)) (.seq (.seq (.reg [rg 23 (.p false (.mv (.t 0))), rg 24 (.p false (.nck (.t 23))), rg 25 (.p false (.fad (.t 24) 0)), rg 26 (.p false (.ld (.t 25) 1 false)), rg 27 (.p false (.mv (.t 1))), rg 28 (.p false (.nck (.t 27))), rg 29 (.p false (.fad (.t 28) 0)), rg 30 (.p false (.ld (.t 29) 1 false)), rg 31 (.p false (.bin .neq (.t 26) (.t 30)))]) (.cond (.t 31) (.seq (.reg [rg 32 (.p false (.mv (.t 0))), rg 33 (.p false (.nck (.t 32))), rg 34 (.p false (.fad (.t 33) 0)), rg 35 (.p false (.ld (.t 34) 1 false)), rg 36 (.p false (.mv (.t 1))), rg 37 (.p false (.nck (.t 36))), rg 38 (.p false (.fad (.t 37) 0)), rg 39 (.p false (.ld (.t 38) 1 false)), rg 40 (.p false (.bin .lss (.t 35) (.t 39))), rg 4 (.p false (.mv (.t 40)))]) .ret) .skip)) (.seq (.reg [rg 41 (.p false (.mv (.t 0))), rg 42 (.p false (.nck (.t 41))), rg 43 (.p false (.fad (.t 42) 2)), rg 44 (.p false (.ld (.t 43) 1 false)), rg 45 (.p false (.mv (.t 1))), rg 46 (.p false (.nck (.t 45))), rg 47 (.p false (.fad (.t 46) 2)), rg 48 (.p false (.ld (.t 47) 1 false)), rg 49 (.p false (.bin .lss (.t 44) (.t 48))), rg 4 (.p false (.mv (.t 49)))]) .ret))))
theorem c47_is : compFn Try.prog 47 = some (c47, [(.tmp 4)]) := by kernel_rfl
theorem c47_ok : okFn Try.prog 47 = true := by kernel_rfl

noncomputable def F_spec_l23Before (v0 : TTurn) (v1 : TTurn) : Option (Bool) :=
 (bif (decide (v0.2.1 ≠ v1.2.1)) then some (decide (v0.2.1 < v1.2.1))
 else (bif (decide (v0.1 ≠ v1.1)) then some (Op.bytesLess v0.1 v1.1)
 else some (decide (v0.2.2 < v1.2.2))))
@[simp] def res_spec_l23Before (r : Bool) : RV := .one (.one (.val (.bool r)))
theorem con_spec_l23Before {v0 : TTurn} {v1 : TTurn} {r : Bool} (hF : F_spec_l23Before v0 v1 = some r) : Con Try.prog 47 [.ptr [.str v0.1, .int .i64 v0.2.1, .int .i64 v0.2.2], .ptr [.str v1.1, .int .i64 v1.2.1, .int .i64 v1.2.2]] (res_spec_l23Before r) := by
 unfold F_spec_l23Before at hF
 refine con_of c47_is fun N => ?_
 refine ws 0 64 ?_
 refine qp (AB false) rfl ?_
 refine r_nil ?_
 refine w_seq ?_
 refine ws 64 640 ?_
 refine qp (.val none (.ptr [.str v0.1, .int .i64 v0.2.1, .int .i64 v0.2.2])) rfl (qp (.val none (.ptr [.str v0.1, .int .i64 v0.2.1, .int .i64 v0.2.2])) rfl (qp (.val none (.ptr [.int .i64 v0.2.1, .int .i64 v0.2.2])) rfl (qp (AI v0.2.1) rfl (qp (.val none (.ptr [.str v1.1, .int .i64 v1.2.1, .int .i64 v1.2.2])) rfl (qp (.val none (.ptr [.str v1.1, .int .i64 v1.2.1, .int .i64 v1.2.2])) rfl (qp (.val none (.ptr [.int .i64 v1.2.1, .int .i64 v1.2.2])) rfl (qp (AI v1.2.1) rfl ?_)))))))
 refine qp (AB (decide (v0.2.1 ≠ v1.2.1))) rfl ?_
 refine r_nil ?_
 refine cF hF (fun hF => ?_) fun hF => ?_
 ·
  refine ws 640 1280 ?_
  refine qp (.val none (.ptr [.str v0.1, .int .i64 v0.2.1, .int .i64 v0.2.2])) rfl (qp (.val none (.ptr [.str v0.1, .int .i64 v0.2.1, .int .i64 v0.2.2])) rfl (qp (.val none (.ptr [.int .i64 v0.2.1, .int .i64 v0.2.2])) rfl (qp (AI v0.2.1) rfl (qp (.val none (.ptr [.str v1.1, .int .i64 v1.2.1, .int .i64 v1.2.2])) rfl (qp (.val none (.ptr [.str v1.1, .int .i64 v1.2.1, .int .i64 v1.2.2])) rfl (qp (.val none (.ptr [.int .i64 v1.2.1, .int .i64 v1.2.2])) rfl (qp (AI v1.2.1) rfl ?_)))))))
  refine qp (AB (decide (v0.2.1 < v1.2.1))) rfl (qp (AB (decide (v0.2.1 < v1.2.1))) rfl ?_)
  refine r_nil ?_
  refine w_ret ?_
  refine thenQ_r ?_
  cases hF
  exact eR
 ·
  refine w_skip ?_
  refine thenQ_n ?_
  refine w_seq ?_
  refine ws 640 1216 ?_
  refine qp (.val none (.ptr [.str v0.1, .int .i64 v0.2.1, .int .i64 v0.2.2])) rfl (qp (.val none (.ptr [.str v0.1, .int .i64 v0.2.1, .int .i64 v0.2.2])) rfl (qp (.val none (.ptr [.str v0.1, .int .i64 v0.2.1, .int .i64 v0.2.2])) rfl (qp (AS v0.1) rfl (qp (.val none (.ptr [.str v1.1, .int .i64 v1.2.1, .int .i64 v1.2.2])) rfl (qp (.val none (.ptr [.str v1.1, .int .i64 v1.2.1, .int .i64 v1.2.2])) rfl (qp (.val none (.ptr [.str v1.1, .int .i64 v1.2.1, .int .i64 v1.2.2])) rfl (qp (AS v1.1) rfl ?_)))))))
  refine qp (AB (decide (v0.1 ≠ v1.1))) rfl ?_
  refine r_nil ?_
  refine cF hF (fun hF => ?_) fun hF => ?_
  ·
   refine ws 1216 1856 ?_
   refine qp (.val none (.ptr [.str v0.1, .int .i64 v0.2.1, .int .i64 v0.2.2])) rfl (qp (.val none (.ptr [.str v0.1, .int .i64 v0.2.1, .int .i64 v0.2.2])) rfl (qp (.val none (.ptr [.str v0.1, .int .i64 v0.2.1, .int .i64 v0.2.2])) rfl (qp (AS v0.1) rfl (qp (.val none (.ptr [.str v1.1, .int .i64 v1.2.1, .int .i64 v1.2.2])) rfl (qp (.val none (.ptr [.str v1.1, .int .i64 v1.2.1, .int .i64 v1.2.2])) rfl (qp (.val none (.ptr [.str v1.1, .int .i64 v1.2.1, .int .i64 v1.2.2])) rfl (qp (AS v1.1) rfl ?_)))))))
   refine qp (AB (Op.bytesLess v0.1 v1.1)) rfl (qp (AB (Op.bytesLess v0.1 v1.1)) rfl ?_)
   refine r_nil ?_
   refine w_ret ?_
   refine thenQ_r ?_
   cases hF
   exact eR
  ·
   refine w_skip ?_
   refine thenQ_n ?_
   refine ws 1216 1856 ?_
   refine qp (.val none (.ptr [.str v0.1, .int .i64 v0.2.1, .int .i64 v0.2.2])) rfl (qp (.val none (.ptr [.str v0.1, .int .i64 v0.2.1, .int .i64 v0.2.2])) rfl (qp (.val none (.ptr [.int .i64 v0.2.2])) rfl (qp (AI v0.2.2) rfl (qp (.val none (.ptr [.str v1.1, .int .i64 v1.2.1, .int .i64 v1.2.2])) rfl (qp (.val none (.ptr [.str v1.1, .int .i64 v1.2.1, .int .i64 v1.2.2])) rfl (qp (.val none (.ptr [.int .i64 v1.2.2])) rfl (qp (AI v1.2.2) rfl ?_)))))))
   refine qp (AB (decide (v0.2.2 < v1.2.2))) rfl (qp (AB (decide (v0.2.2 < v1.2.2))) rfl ?_)
   refine r_nil ?_
   refine w_ret ?_
   cases hF
   exact eR

def c34 : MC := (.seq (.reg [rg 3 (.f (.box (.t 1))), rg 4 (.f (.nilrow 3))]) (.seq (.reg [mvt 7 0, rg 8 (.p true (.len (.t 7))), mvt 5 8]) (.seq (.block 0 (.loop (.seq (.seq (.reg [mvt 9 5, rg 10 (.p true (.bin .gtr (.t 9) (.c (.int .i64 0)))), mvt 11 10, ⟨(some 12), (some (11, true)), (.p true (.mv (.t 0)))⟩, ⟨(some 13), (some (11, true)), (.p true (.mv (.t 5)))⟩, ⟨(some 14), (some (11, true)), (.p true (.bin .sub (.t 13) (.c (.int .i64 1))))⟩, ⟨(some 15), (some (11, true)), (.p true (.iad (.t 12) (.t 14) 3))⟩, ⟨(some 16), (some (11, true)), (.call true 47 [(.t 3), (.t 15)])⟩, rg 17 (.p true (.pick (.t 11) (.t 16) (.c (.bool false))))]) (.cond (.t 17) .skip (.exit 0))) (.block 1 (.reg [mvt 18 5, rg 19 (.p true (.bin .sub (.t 18) (.c (.int .i64 1)))), mvt 5 19]))))) (.seq (.reg [rg 20 (.f (.bsl 3 [])), mvt 21 0, mvt 22 5, rg 23 (.p true (.slc (.t 21) none (some (.t 22)) 3)), rg 24 (.f (.app (.t 20) (.t 23) 3 32 false)), mvt 6 24]) (.seq (.reg [mvt 25 6, rg 26 (.p true (.ld (.t 3) 3 true)), rg 27 (.f (.bsl 3 [(.t 26)])), rg 28 (.f (.app (.t 25) (.t 27) 3 32 true)), mvt 6 28]) (.seq (.reg [mvt 29 6, mvt 30 0, mvt 31 5, rg 32 (.p true (.slc (.t 30) (some (.t 31)) none 3)), rg 33 (.f (.app (.t 29) (.t 32) 3 32 false)), mvt 4 33]) .ret))))))
theorem c34_is : compFn Try.prog 34 = some (c34, [(.tmp 4)]) := by kernel_rfl
theorem c34_ok : okFn Try.prog 34 = true := by kernel_rfl

noncomputable def F_spec_l23Put_j0 (v0 : List TTurn) (v1 : TTurn) (v50002 : Int) : Option (List TTurn) :=
 (need (0 ≤ (0 : Int) ∧ (0 : Int) ≤ v50002 ∧ v50002 ≤ (v0.length : Int)) ((need (room ((sub v0 0 v50002).length) 32) ((need (room ((sub v0 0 v50002).length + [v1].length) 32) ((need (0 ≤ v50002 ∧ v50002 ≤ (v0.length : Int) ∧ (v0.length : Int) ≤ (v0.length : Int)) ((need (room (((sub v0 0 v50002) ++ [v1]).length + (sub v0 v50002 (v0.length : Int)).length) 32) (some (((sub v0 0 v50002) ++ [v1]) ++ (sub v0 v50002 (v0.length : Int)))))))))))))
noncomputable def F_spec_l23Put_l1 (v0 : List TTurn) (v1 : TTurn) (k0 : Int → Option (List TTurn)) : Int → Option (List TTurn)
 | v50001 => (bif (decide ((0 : Int) < v50001)) then ((ix v0 (w64 (v50001 - 1))).bind fun v1000 => ((F_spec_l23Before v1 v1000).bind fun v1001 => (bif v1001 then k0 (w64 (v50001 - 1))
 else F_spec_l23Put_j0 v0 v1 v50001)))
 else F_spec_l23Put_j0 v0 v1 v50001)
noncomputable def F_spec_l23Put (v0 : List TTurn) (v1 : TTurn) : Option (List TTurn) :=
 loop (F_spec_l23Put_l1 v0 v1) (v0.length : Int)
@[simp] def res_spec_l23Put (r : List TTurn) : RV := .one (.one (.row true 3 (r.map eTurn)))
theorem con_spec_l23Put {v0 : List TTurn} {v1 : TTurn} {r : List TTurn} (hF : F_spec_l23Put v0 v1 = some r) : Con Try.prog 34 [.sl 3 (v0.map eTurn), eTurn v1] (res_spec_l23Put r) := by
 unfold F_spec_l23Put at hF
 refine con_of c34_is fun N => ?_
 refine ws 0 128 ?_
 refine qf (.ptr 0 0 0) [(0, .box [AS v1.1, AI v1.2.1, AI v1.2.2])] (by simp) ?_
 refine qf (.sl 64 0 0) [(64, .row true 3 (([] : List Int).map vI)), (0, .box [AS v1.1, AI v1.2.1, AI v1.2.2])] (by simp) ?_
 refine r_nil ?_
 refine ws 128 320 ?_
 refine qp (AL 3 (v0.map eTurn)) rfl (qp (AI (v0.length : Int)) (ev_len_n rfl) (qp (AI (v0.length : Int)) rfl ?_))
 refine r_nil ?_
 refine w_meet (fun s' => ∃ (v50002 : Int), s' = mkS [(0, AL 3 (v0.map eTurn)), (3, .ptr 0 0 0), (5, AI v50002)] (fo [(0, .box [AS v1.1, AI v1.2.1, AI v1.2.2])]) 1 ∧ F_spec_l23Put_j0 v0 v1 v50002 = some r) ?_ ?_
 ·
  refine w_block ?_
  refine wr (l' := [(0, AL 3 (v0.map eTurn)), (3, .ptr 0 0 0), (5, AI (v0.length : Int))]) (L := [(0, .box [AS v1.1, AI v1.2.1, AI v1.2.2])]) [0, 3, 5] [(0, 0)] 1 ?_
  refine w_loopF (F_spec_l23Put_l1 v0 v1) (fun s : Int => mkS [(0, AL 3 (v0.map eTurn)), (3, .ptr 0 0 0), (5, AI s)] (fo [(0, .box [AS v1.1, AI v1.2.1, AI v1.2.2])]) 1) hF ?_
  rintro k0 v50001 hF
  rw [F_spec_l23Put_l1] at hF
  try dsimp only
  refine w_seq ?_
  refine ws 1 577 ?_
  refine qp (AI v50001) rfl (qp (AB (decide ((0 : Int) < v50001))) rfl (qp (AB (decide ((0 : Int) < v50001))) rfl ?_))
  refine q_case 11 hF rfl (fun hF => ?_) (fun hF => ?_)
  ·
   refine qg (AL 3 (v0.map eTurn)) rfl rfl (qg (AI v50001) rfl rfl (qg (AI (w64 (v50001 - 1))) rfl rfl ?_))
   obtain ⟨v1000, e1000, hF⟩ := bind_get hF
   refine qg (.val none (.ptr [.str v1000.1, .int .i64 v1000.2.1, .int .i64 v1000.2.2])) rfl (ev_iad_n rfl rfl e1000 rfl) ?_
   obtain ⟨v1001, e1001, hF⟩ := bind_get hF
   refine qcg (AB v1001) [(0, .box [AS v1.1, AI v1.2.1, AI v1.2.2])] true rfl (con_spec_l23Before e1001) c47_ok (by simp [List.take_of_length_le]) rfl ?_
   refine qp (AB v1001) rfl ?_
   refine r_nil ?_
   refine cF hF (fun hF => ?_) fun hF => ?_
   ·
    refine w_skip ?_
    refine thenQ_n ?_
    refine w_block ?_
    refine w_reg 577 769 rfl rfl ?_
    refine qp (AI v50001) rfl (qp (AI (w64 (v50001 - 1))) rfl (qp (AI (w64 (v50001 - 1))) rfl ?_))
    refine r_nil ?_
    refine blockQ_n ?_
    refine thenQ_n ?_
    refine ar (l' := [(0, AL 3 (v0.map eTurn)), (3, .ptr 0 0 0), (5, AI (w64 (v50001 - 1)))]) (L := [(0, .box [AS v1.1, AI v1.2.1, AI v1.2.2])]) [0, 3, 5] [(0, 0)] 1 ⟨_, by rfl, hF⟩
   ·
    refine w_exit ?_
    refine thenQ_e ?_
    refine thenQ_e ?_
    refine blockQ_e ?_
    refine thenQ_n ?_
    refine ar (l' := [(0, AL 3 (v0.map eTurn)), (3, .ptr 0 0 0), (5, AI v50001)]) (L := [(0, .box [AS v1.1, AI v1.2.1, AI v1.2.2])]) [0, 3, 5] [(0, 0)] 1 ⟨_, rfl, hF⟩
  ·
   refine qn rfl (qn rfl (qn rfl (qn rfl (qn rfl (qp (AB false) rfl ?_)))))
   refine r_nil ?_
   refine w_false rfl ?_
   refine w_exit ?_
   refine thenQ_e ?_
   refine thenQ_e ?_
   refine blockQ_e ?_
   refine thenQ_n ?_
   refine ar (l' := [(0, AL 3 (v0.map eTurn)), (3, .ptr 0 0 0), (5, AI v50001)]) (L := [(0, .box [AS v1.1, AI v1.2.1, AI v1.2.2])]) [0, 3, 5] [(0, 0)] 1 ⟨_, rfl, hF⟩
 ·
  rintro s' ⟨v50002, rfl, hF⟩
  unfold F_spec_l23Put_j0 at hF
  refine ws 1 385 ?_
  refine qf (.sl 1 0 0) [(1, .row true 3 (([] : List TTurn).map eTurn)), (0, .box [AS v1.1, AI v1.2.1, AI v1.2.2])] (by simp [List.take_of_length_le]) ?_
  refine qp (AL 3 (v0.map eTurn)) rfl (qp (AI v50002) rfl ?_)
  obtain ⟨g1002, hF⟩ := need_some hF
  refine qp (AL 3 ((sub v0 0 v50002).map eTurn)) (ev_slc_n rfl rfl (bnd_some rfl (Int.le_trans g1002.1 g1002.2.1)) g1002) ?_
  obtain ⟨g1003, hF⟩ := need_some hF
  refine qf (.sl 257 0 ((sub v0 0 v50002).length)) [(257, .row true 3 ((sub v0 0 v50002).map eTurn)), (1, .dead), (1, .row true 3 (([] : List TTurn).map eTurn)), (0, .box [AS v1.1, AI v1.2.1, AI v1.2.2])] (effT_app_v0 rfl (by simp) rfl rfl (fun _ => rfl) g1003) ?_
  refine qp (.sl 257 0 ((sub v0 0 v50002).length)) rfl ?_
  refine r_nil ?_
  refine ws 385 705 ?_
  refine qp (.sl 257 0 ((sub v0 0 v50002).length)) rfl (qp (.agg [AS v1.1, AI v1.2.1, AI v1.2.2]) rfl ?_)
  refine qf (.sl 513 0 ([v1].length)) [(513, .row true 3 ([v1].map eTurn)), (257, .row true 3 ((sub v0 0 v50002).map eTurn)), (1, .dead), (1, .row true 3 (([] : List TTurn).map eTurn)), (0, .box [AS v1.1, AI v1.2.1, AI v1.2.2])] (by simp [List.take_of_length_le]) ?_
  obtain ⟨g1004, hF⟩ := need_some hF
  refine qf (.sl 577 0 (((sub v0 0 v50002) ++ [v1]).length)) [(577, .row true 3 (((sub v0 0 v50002) ++ [v1]).map eTurn)), (257, .dead), (513, .dead), (513, .row true 3 ([v1].map eTurn)), (257, .row true 3 ((sub v0 0 v50002).map eTurn)), (1, .dead), (1, .row true 3 (([] : List TTurn).map eTurn)), (0, .box [AS v1.1, AI v1.2.1, AI v1.2.2])] (effT_app_l rfl (by simp) rfl rfl (by simp) rfl (by decide) g1004 rfl) ?_
  refine qp (.sl 577 0 (((sub v0 0 v50002) ++ [v1]).length)) rfl ?_
  refine r_nil ?_
  refine ws 705 1089 ?_
  refine qp (.sl 577 0 (((sub v0 0 v50002) ++ [v1]).length)) rfl (qp (AL 3 (v0.map eTurn)) rfl (qp (AI v50002) rfl ?_))
  obtain ⟨g1005, hF⟩ := need_some hF
  refine qp (AL 3 ((sub v0 v50002 (v0.length : Int)).map eTurn)) (ev_slc_n rfl (bnd_some rfl g1005.1) rfl g1005) ?_
  obtain ⟨g1006, hF⟩ := need_some hF
  refine qf (.sl 961 0 ((((sub v0 0 v50002) ++ [v1]) ++ (sub v0 v50002 (v0.length : Int))).length)) [(961, .row true 3 ((((sub v0 0 v50002) ++ [v1]) ++ (sub v0 v50002 (v0.length : Int))).map eTurn)), (577, .dead), (577, .row true 3 (((sub v0 0 v50002) ++ [v1]).map eTurn)), (257, .dead), (513, .dead), (513, .row true 3 ([v1].map eTurn)), (257, .row true 3 ((sub v0 0 v50002).map eTurn)), (1, .dead), (1, .row true 3 (([] : List TTurn).map eTurn)), (0, .box [AS v1.1, AI v1.2.1, AI v1.2.2])] (effT_app_v rfl (by simp) rfl rfl (fun _ => rfl) g1006) ?_
  refine qp (.sl 961 0 ((((sub v0 0 v50002) ++ [v1]) ++ (sub v0 v50002 (v0.length : Int))).length)) rfl ?_
  refine r_nil ?_
  refine w_ret ?_
  cases hF
  exact eR

def c15 : MC := (.seq (.reg [rg 2 (.f (.nilrow 3))]) (.seq (.reg [rg 8 (.f (.bsl 3 [])), mvt 3 8]) (.seq (.seq (.reg [mvt 9 0, rg 10 (.call true 16 [(.t 9), (.c (.int .i64 7))]), mvt 4 10]) (.block 0 (.loop (.seq (.seq (.reg [mvt 11 4, rg 12 (.p true (.bin .gtr (.t 11) (.c (.int .i64 0))))]) (.cond (.t 12) .skip (.exit 0))) (.seq (.block 1 (.seq (.reg [mvt 15 0, rg 16 (.call true 17 [(.t 15)]), mvt 17 0, rg 18 (.call true 16 [(.t 17), (.c (.int .i64 20))]), rg 19 (.p true (.bin .mul (.c (.int .i64 4)) (.t 18))), rg 20 (.f (.bld [((.str []), (0, true)), ((.int .i64 0), (0, true)), ((.int .i64 0), (0, false))] [(0, (1, (.t 16))), (1, (1, (.t 19)))])), rg 5 (.f (.alloc [((.str []), (0, false)), ((.int .i64 0), (0, false)), ((.int .i64 0), (0, false))])), ⟨none, none, (.f (.st (.t 5) (.t 20) 3))⟩]) (.seq (.reg [mvt 21 0, rg 22 (.call true 16 [(.t 21), (.c (.int .i64 5))]), rg 23 (.p true (.bin .mul (.c (.int .i64 4)) (.t 22))), rg 24 (.p true (.bin .add (.c (.int .i64 4)) (.t 23))), rg 25 (.p true (.fad (.t 5) 2)), ⟨none, none, (.f (.st (.t 25) (.t 24) 1))⟩]) (.seq (.reg [rg 6 (.p true (.mv (.c (.bool false))))]) (.seq (.seq (.reg [rg 7 (.p true (.mv (.c (.int .i64 0))))]) (.block 2 (.loop (.seq (.seq (.reg [mvt 26 7, mvt 27 3, rg 28 (.p true (.len (.t 27))), rg 29 (.p true (.bin .lss (.t 26) (.t 28)))]) (.cond (.t 29) .skip (.exit 2))) (.seq (.block 3 (.reg [rg 32 (.p false (.mv (.t 6))), rg 33 (.p false (.mv (.t 32))), ⟨(some 34), (some (33, false)), (.p false (.mv (.t 3)))⟩, ⟨(some 35), (some (33, false)), (.p false (.mv (.t 7)))⟩, ⟨(some 36), (some (33, false)), (.p false (.iad (.t 34) (.t 35) 3))⟩, ⟨(some 37), (some (33, false)), (.p false (.ld (.t 36) 3 true))⟩, ⟨(some 38), (some (33, false)), (.p false (.ld (.t 5) 3 true))⟩, ⟨(some 39), (some (33, false)), (.p false (.eqs false [2, 0, 0] (.t 37) (.t 38)))⟩, rg 40 (.p false (.pick (.t 33) (.c (.bool true)) (.t 39))), rg 6 (.p false (.mv (.t 40)))])) (.reg [mvt 30 7, rg 31 (.p true (.bin .add (.t 30) (.c (.int .i64 1)))), mvt 7 31])))))) (.seq (.reg [mvt 41 6, rg 42 (.p true (.not (.t 41)))]) (.cond (.t 42) (.reg [mvt 43 3, rg 44 (.p true (.ld (.t 5) 3 true)), rg 45 (.call true 34 [(.t 43), (.t 44)]), mvt 3 45]) .skip))))))) (.reg [mvt 13 4, rg 14 (.p true (.bin .sub (.t 13) (.c (.int .i64 1)))), mvt 4 14])))))) (.seq (.reg [mvt 46 3, mvt 2 46]) .ret))))
theorem c15_is : compFnM Try.prog 15 = some (c15, [(.tmp 2)]) := by kernel_rfl
theorem c15_ok : okFn Try.prog 15 = true := by kernel_rfl

noncomputable def F_spec_l23Draw_l3 (v1015 : TL00Src × (List UInt8)) (v1016 : TL00Src × Int) (v1017 : TL00Src × Int) (v50035 : Int) (v50039 : List TTurn) (k6 : Int × (List Int) × Int × Int × (List TTurn) → Option (TL00Src × (List TTurn))) (k7 : Bool × Int → Option (TL00Src × (List TTurn))) : Bool × Int → Option (TL00Src × (List TTurn))
 | (v50042, v50043) => (bif (decide (v50043 < (v50039.length : Int))) then (bif v50042 then k7 (true, w64 (v50043 + 1))
 else ((ix v50039 v50043).bind fun v1020 => k7 ((decide (v1020.1 = v1015.2) && (decide (v1020.2.1 = w64 (4 * v1016.2)) && (decide (v1020.2.2 = w64 (4 + (w64 (4 * v1017.2)))) && true))), w64 (v50043 + 1))))
 else (bif (!v50042) then ((F_spec_l23Put v50039 (v1015.2, w64 (4 * v1016.2), w64 (4 + (w64 (4 * v1017.2))))).bind fun v1021 => k6 (w64 (v50035 - 1), v1017.1.1, v1017.1.2.1, v1017.1.2.2, v1021))
 else k6 (w64 (v50035 - 1), v1017.1.1, v1017.1.2.1, v1017.1.2.2, v50039)))
noncomputable def F_spec_l23Draw_l2 (k6 : Int × (List Int) × Int × Int × (List TTurn) → Option (TL00Src × (List TTurn))) : Int × (List Int) × Int × Int × (List TTurn) → Option (TL00Src × (List TTurn))
 | (v50035, v50036, v50037, v50038, v50039) => (bif (decide ((0 : Int) < v50035)) then ((F_spec_l23Player (v50036, v50037, v50038)).bind fun v1015 => ((F_spec_l00Src_pick v1015.1 20).bind fun v1016 => ((F_spec_l00Src_pick v1016.1 5).bind fun v1017 => loop (F_spec_l23Draw_l3 v1015 v1016 v1017 v50035 v50039 k6) (false, 0))))
 else some ((v50036, v50037, v50038), v50039))
noncomputable def F_spec_l23Draw (v0 : TL00Src) : Option (TL00Src × (List TTurn)) :=
 ((F_spec_l00Src_pick v0 7).bind fun v1000 => loop (F_spec_l23Draw_l2) (v1000.2, v1000.1.1, v1000.1.2.1, v1000.1.2.2, []))
@[simp] def res_spec_l23Draw (r : TL00Src × (List TTurn)) : RV := .one (.one (.row true 3 (r.2.map eTurn)))
theorem con_spec_l23Draw {v0 : TL00Src} {r : TL00Src × (List TTurn)} (hF : F_spec_l23Draw v0 = some r) : ConP Try.prog 15 [.sl 1 (v0.1.map (V.int .u8)), .int .i64 v0.2.1, .int .u64 v0.2.2] [.sl 1 (r.1.1.map (V.int .u8)), .int .i64 r.1.2.1, .int .u64 r.1.2.2] [] (res_spec_l23Draw r) := by
 unfold F_spec_l23Draw at hF
 refine conP_of (L := [(0, .box [.val none (.sl 1 (v0.1.map (V.int .u8))), AI v0.2.1, .val none (.int .u64 v0.2.2)])]) c15_is rfl fun N => ?_
 refine ws 64 128 ?_
 refine qf (.sl 64 0 0) [(64, .row true 3 (([] : List Int).map vI)), (0, .box [.val none (.sl 1 (v0.1.map (V.int .u8))), AI v0.2.1, .val none (.int .u64 v0.2.2)])] (by simp) ?_
 refine r_nil ?_
 refine ws 128 256 ?_
 refine qf (.sl 128 0 0) [(128, .row true 3 (([] : List TTurn).map eTurn)), (64, .row true 3 (([] : List Int).map vI)), (0, .box [.val none (.sl 1 (v0.1.map (V.int .u8))), AI v0.2.1, .val none (.int .u64 v0.2.2)])] (by simp [List.take_of_length_le]) ?_
 refine qp (.sl 128 0 0) rfl ?_
 refine r_nil ?_
 refine w_seq ?_
 refine ws 256 448 ?_
 refine qp (.ptr 0 0 0) rfl ?_
 obtain ⟨v1000, e1000, hF⟩ := bind_get hF
 refine qP [] (AI v1000.2) [(0, .box [.val none (.sl 1 (v1000.1.1.map (V.int .u8))), AI v1000.1.2.1, .val none (.int .u64 v1000.1.2.2)]), (128, .row true 3 (([] : List TTurn).map eTurn)), (64, .row true 3 (([] : List Int).map vI)), (0, .box [.val none (.sl 1 (v0.1.map (V.int .u8))), AI v0.2.1, .val none (.int .u64 v0.2.2)])] rfl rfl rfl (by decide) (con_spec_l00Src_pick e1000) c16_ok (by first | rfl | simp) killO_nil rfl rfl ?_
 refine qp (AI v1000.2) rfl ?_
 refine r_nil ?_
 refine w_block ?_
 refine wr (l' := [(0, .ptr 0 0 0), (3, .sl 1 0 0), (4, AI v1000.2)]) (L := [(1, .row true 3 (([] : List TTurn).map eTurn)), (0, .box [.val none (.sl 1 (v1000.1.1.map (V.int .u8))), AI v1000.1.2.1, .val none (.int .u64 v1000.1.2.2)])]) [0, 3, 4] [(128, 1), (0, 0)] 2 ?_
 refine w_loopF (F_spec_l23Draw_l2) (fun s : Int × (List Int) × Int × Int × (List TTurn) => mkS [(0, .ptr 0 0 0), (3, .sl 1 0 s.2.2.2.2.length), (4, AI s.1)] (fo [(1, .row true 3 (s.2.2.2.2.map eTurn)), (0, .box [.val none (.sl 1 (s.2.1.map (V.int .u8))), AI s.2.2.1, .val none (.int .u64 s.2.2.2.1)])]) 2) hF ?_
 rintro k6 ⟨v50035, v50036, v50037, v50038, v50039⟩ hF
 rw [F_spec_l23Draw_l2] at hF
 try dsimp only
 refine w_seq ?_
 refine ws 2 130 ?_
 refine qp (AI v50035) rfl (qp (AB (decide ((0 : Int) < v50035))) rfl ?_)
 refine r_nil ?_
 refine cF hF (fun hF => ?_) fun hF => ?_
 ·
  refine w_skip ?_
  refine thenQ_n ?_
  refine w_seq ?_
  refine w_block ?_
  refine ws 130 642 ?_
  refine qp (.ptr 0 0 0) rfl ?_
  obtain ⟨v1015, e1015, hF⟩ := bind_get hF
  refine qP [] (AS v1015.2) [(0, .box [.val none (.sl 1 (v1015.1.1.map (V.int .u8))), AI v1015.1.2.1, .val none (.int .u64 v1015.1.2.2)]), (1, .row true 3 (v50039.map eTurn)), (0, .box [.val none (.sl 1 (v50036.map (V.int .u8))), AI v50037, .val none (.int .u64 v50038)])] rfl rfl rfl (by decide) (con_spec_l23Player e1015) c17_ok (by first | rfl | simp) killO_nil rfl rfl ?_
  refine qp (.ptr 0 0 0) rfl ?_
  obtain ⟨v1016, e1016, hF⟩ := bind_get hF
  refine qP [] (AI v1016.2) [(0, .box [.val none (.sl 1 (v1016.1.1.map (V.int .u8))), AI v1016.1.2.1, .val none (.int .u64 v1016.1.2.2)]), (0, .box [.val none (.sl 1 (v1015.1.1.map (V.int .u8))), AI v1015.1.2.1, .val none (.int .u64 v1015.1.2.2)]), (1, .row true 3 (v50039.map eTurn)), (0, .box [.val none (.sl 1 (v50036.map (V.int .u8))), AI v50037, .val none (.int .u64 v50038)])] rfl rfl rfl (by decide) (con_spec_l00Src_pick e1016) c16_ok (by first | rfl | simp) killO_nil rfl rfl ?_
  refine qp (AI (w64 (4 * v1016.2))) rfl ?_
  refine qf (.agg [AS v1015.2, AI (w64 (4 * v1016.2)), AI 0]) [(0, .box [.val none (.sl 1 (v1016.1.1.map (V.int .u8))), AI v1016.1.2.1, .val none (.int .u64 v1016.1.2.2)]), (0, .box [.val none (.sl 1 (v1015.1.1.map (V.int .u8))), AI v1015.1.2.1, .val none (.int .u64 v1015.1.2.2)]), (1, .row true 3 (v50039.map eTurn)), (0, .box [.val none (.sl 1 (v50036.map (V.int .u8))), AI v50037, .val none (.int .u64 v50038)])] (by simp) ?_
  refine qf (.ptr 514 0 0) [(514, .box [AS [], AI 0, AI 0]), (0, .box [.val none (.sl 1 (v1016.1.1.map (V.int .u8))), AI v1016.1.2.1, .val none (.int .u64 v1016.1.2.2)]), (0, .box [.val none (.sl 1 (v1015.1.1.map (V.int .u8))), AI v1015.1.2.1, .val none (.int .u64 v1015.1.2.2)]), (1, .row true 3 (v50039.map eTurn)), (0, .box [.val none (.sl 1 (v50036.map (V.int .u8))), AI v50037, .val none (.int .u64 v50038)])] (by simp) ?_
  refine qf0 (.undef) [(514, .box [AS v1015.2, AI (w64 (4 * v1016.2)), AI 0]), (514, .box [AS [], AI 0, AI 0]), (0, .box [.val none (.sl 1 (v1016.1.1.map (V.int .u8))), AI v1016.1.2.1, .val none (.int .u64 v1016.1.2.2)]), (0, .box [.val none (.sl 1 (v1015.1.1.map (V.int .u8))), AI v1015.1.2.1, .val none (.int .u64 v1015.1.2.2)]), (1, .row true 3 (v50039.map eTurn)), (0, .box [.val none (.sl 1 (v50036.map (V.int .u8))), AI v50037, .val none (.int .u64 v50038)])] (by simp) ?_
  refine r_nil ?_
  refine ws 642 1026 ?_
  refine qp (.ptr 0 0 0) rfl ?_
  obtain ⟨v1017, e1017, hF⟩ := bind_get hF
  refine qP [] (AI v1017.2) [(0, .box [.val none (.sl 1 (v1017.1.1.map (V.int .u8))), AI v1017.1.2.1, .val none (.int .u64 v1017.1.2.2)]), (514, .box [AS v1015.2, AI (w64 (4 * v1016.2)), AI 0]), (514, .box [AS [], AI 0, AI 0]), (0, .box [.val none (.sl 1 (v1016.1.1.map (V.int .u8))), AI v1016.1.2.1, .val none (.int .u64 v1016.1.2.2)]), (0, .box [.val none (.sl 1 (v1015.1.1.map (V.int .u8))), AI v1015.1.2.1, .val none (.int .u64 v1015.1.2.2)]), (1, .row true 3 (v50039.map eTurn)), (0, .box [.val none (.sl 1 (v50036.map (V.int .u8))), AI v50037, .val none (.int .u64 v50038)])] rfl rfl rfl (by decide) (con_spec_l00Src_pick e1017) c16_ok (by first | rfl | simp) killO_nil rfl rfl ?_
  refine qp (AI (w64 (4 * v1017.2))) rfl (qp (AI (w64 (4 + (w64 (4 * v1017.2))))) rfl (qp (.ptr 514 0 2) rfl ?_))
  refine qf0 (.undef) [(514, .box [AS v1015.2, AI (w64 (4 * v1016.2)), AI (w64 (4 + (w64 (4 * v1017.2))))]), (0, .box [.val none (.sl 1 (v1017.1.1.map (V.int .u8))), AI v1017.1.2.1, .val none (.int .u64 v1017.1.2.2)]), (514, .box [AS v1015.2, AI (w64 (4 * v1016.2)), AI 0]), (514, .box [AS [], AI 0, AI 0]), (0, .box [.val none (.sl 1 (v1016.1.1.map (V.int .u8))), AI v1016.1.2.1, .val none (.int .u64 v1016.1.2.2)]), (0, .box [.val none (.sl 1 (v1015.1.1.map (V.int .u8))), AI v1015.1.2.1, .val none (.int .u64 v1015.1.2.2)]), (1, .row true 3 (v50039.map eTurn)), (0, .box [.val none (.sl 1 (v50036.map (V.int .u8))), AI v50037, .val none (.int .u64 v50038)])] (by simp) ?_
  refine r_nil ?_
  refine ws 1026 1090 ?_
  refine qp (AB false) rfl ?_
  refine r_nil ?_
  refine w_seq ?_
  refine ws 1090 1154 ?_
  refine qp (AI 0) rfl ?_
  refine r_nil ?_
  refine w_block ?_
  refine wr (l' := [(0, .ptr 0 0 0), (3, .sl 1 0 v50039.length), (4, AI v50035), (5, .ptr 2 0 0), (6, AB false), (7, AI 0)]) (L := [(2, .box [AS v1015.2, AI (w64 (4 * v1016.2)), AI (w64 (4 + (w64 (4 * v1017.2))))]), (1, .row true 3 (v50039.map eTurn)), (0, .box [.val none (.sl 1 (v1017.1.1.map (V.int .u8))), AI v1017.1.2.1, .val none (.int .u64 v1017.1.2.2)])]) [0, 3, 4, 5, 6, 7] [(514, 2), (1, 1), (0, 0)] 3 ?_
  refine w_loopF (F_spec_l23Draw_l3 v1015 v1016 v1017 v50035 v50039 k6) (fun s : Bool × Int => mkS [(0, .ptr 0 0 0), (3, .sl 1 0 v50039.length), (4, AI v50035), (5, .ptr 2 0 0), (6, AB s.1), (7, AI s.2)] (fo [(2, .box [AS v1015.2, AI (w64 (4 * v1016.2)), AI (w64 (4 + (w64 (4 * v1017.2))))]), (1, .row true 3 (v50039.map eTurn)), (0, .box [.val none (.sl 1 (v1017.1.1.map (V.int .u8))), AI v1017.1.2.1, .val none (.int .u64 v1017.1.2.2)])]) 3) hF ?_
  rintro k7 ⟨v50042, v50043⟩ hF
  rw [F_spec_l23Draw_l3] at hF
  try dsimp only
  refine w_seq ?_
  refine ws 3 259 ?_
  refine qp (AI v50043) rfl (qp (.sl 1 0 v50039.length) rfl (qp (AI (v50039.length : Int)) rfl (qp (AB (decide (v50043 < (v50039.length : Int)))) rfl ?_)))
  refine r_nil ?_
  refine cF hF (fun hF => ?_) fun hF => ?_
  ·
   refine w_skip ?_
   refine thenQ_n ?_
   refine w_seq ?_
   refine w_block ?_
   refine w_reg 259 899 rfl rfl ?_
   refine qp (AB v50042) rfl (qp (AB v50042) rfl ?_)
   refine q_case 33 hF rfl (fun hF => ?_) (fun hF => ?_)
   ·
    refine qn rfl (qn rfl (qn rfl (qn rfl (qn rfl (qn rfl (qp (AB true) rfl (qp (AB true) rfl ?_)))))))
    refine r_nil ?_
    refine blockQ_n ?_
    refine thenQ_n ?_
    refine w_reg 899 1091 rfl rfl ?_
    refine qp (AI v50043) rfl (qp (AI (w64 (v50043 + 1))) rfl (qp (AI (w64 (v50043 + 1))) rfl ?_))
    refine r_nil ?_
    refine thenQ_n ?_
    refine ar (l' := [(0, .ptr 0 0 0), (3, .sl 1 0 v50039.length), (4, AI v50035), (5, .ptr 2 0 0), (6, AB true), (7, AI (w64 (v50043 + 1)))]) (L := [(2, .box [AS v1015.2, AI (w64 (4 * v1016.2)), AI (w64 (4 + (w64 (4 * v1017.2))))]), (1, .row true 3 (v50039.map eTurn)), (0, .box [.val none (.sl 1 (v1017.1.1.map (V.int .u8))), AI v1017.1.2.1, .val none (.int .u64 v1017.1.2.2)])]) [0, 3, 4, 5, 6, 7] [(2, 2), (1, 1), (0, 0)] 3 ⟨_, by rfl, hF⟩
   ·
    refine qg (.sl 1 0 v50039.length) rfl rfl (qg (AI v50043) rfl rfl ?_)
    obtain ⟨v1020, e1020, hF⟩ := bind_get hF
    refine qg (.ptr 1 v50043.toNat 0) rfl (ev_iad_r rfl (by simp) rfl rfl e1020) (qg (.val none (eTurn v1020)) rfl (ev_ld_r rfl rfl (ix_some e1020).2 rfl rfl) (qg (.agg [AS v1015.2, AI (w64 (4 * v1016.2)), AI (w64 (4 + (w64 (4 * v1017.2))))]) rfl rfl (qg (AB (decide (v1020.1 = v1015.2) && (decide (v1020.2.1 = w64 (4 * v1016.2)) && (decide (v1020.2.2 = w64 (4 + (w64 (4 * v1017.2)))) && true)))) rfl rfl (qp (AB (decide (v1020.1 = v1015.2) && (decide (v1020.2.1 = w64 (4 * v1016.2)) && (decide (v1020.2.2 = w64 (4 + (w64 (4 * v1017.2)))) && true)))) rfl (qp (AB (decide (v1020.1 = v1015.2) && (decide (v1020.2.1 = w64 (4 * v1016.2)) && (decide (v1020.2.2 = w64 (4 + (w64 (4 * v1017.2)))) && true)))) rfl ?_)))))
    refine r_nil ?_
    refine blockQ_n ?_
    refine thenQ_n ?_
    refine w_reg 899 1091 rfl rfl ?_
    refine qp (AI v50043) rfl (qp (AI (w64 (v50043 + 1))) rfl (qp (AI (w64 (v50043 + 1))) rfl ?_))
    refine r_nil ?_
    refine thenQ_n ?_
    refine ar (l' := [(0, .ptr 0 0 0), (3, .sl 1 0 v50039.length), (4, AI v50035), (5, .ptr 2 0 0), (6, AB (decide (v1020.1 = v1015.2) && (decide (v1020.2.1 = w64 (4 * v1016.2)) && (decide (v1020.2.2 = w64 (4 + (w64 (4 * v1017.2)))) && true)))), (7, AI (w64 (v50043 + 1)))]) (L := [(2, .box [AS v1015.2, AI (w64 (4 * v1016.2)), AI (w64 (4 + (w64 (4 * v1017.2))))]), (1, .row true 3 (v50039.map eTurn)), (0, .box [.val none (.sl 1 (v1017.1.1.map (V.int .u8))), AI v1017.1.2.1, .val none (.int .u64 v1017.1.2.2)])]) [0, 3, 4, 5, 6, 7] [(2, 2), (1, 1), (0, 0)] 3 ⟨_, by rfl, hF⟩
  ·
   refine w_exit ?_
   refine thenQ_e ?_
   refine thenQ_e ?_
   refine blockQ_e ?_
   refine thenQ_n ?_
   refine ws 259 387 ?_
   refine qp (AB v50042) rfl (qp (AB (!v50042)) rfl ?_)
   refine r_nil ?_
   refine cF hF (fun hF => ?_) fun hF => ?_
   ·
    refine w_reg 387 643 rfl rfl ?_
    refine qp (.sl 1 0 v50039.length) rfl (qp (.agg [AS v1015.2, AI (w64 (4 * v1016.2)), AI (w64 (4 + (w64 (4 * v1017.2))))]) rfl ?_)
    obtain ⟨v1021, e1021, hF⟩ := bind_get hF
    refine qc (.sl 515 0 v1021.length) [(515, .row true 3 (v1021.map eTurn)), (2, .box [AS v1015.2, AI (w64 (4 * v1016.2)), AI (w64 (4 + (w64 (4 * v1017.2))))]), (1, .row true 3 (v50039.map eTurn)), (0, .box [.val none (.sl 1 (v1017.1.1.map (V.int .u8))), AI v1017.1.2.1, .val none (.int .u64 v1017.1.2.2)])] true (con_spec_l23Put e1021) c34_ok (by simp [List.take_of_length_le]) (by simp [res_spec_l23Put]) ?_
    refine qp (.sl 515 0 v1021.length) rfl ?_
    refine r_nil ?_
    refine blockQ_n ?_
    refine thenQ_n ?_
    refine w_reg 643 835 rfl rfl ?_
    refine qp (AI v50035) rfl (qp (AI (w64 (v50035 - 1))) rfl (qp (AI (w64 (v50035 - 1))) rfl ?_))
    refine r_nil ?_
    refine thenQ_n ?_
    refine ar (l' := [(0, .ptr 0 0 0), (3, .sl 1 0 v1021.length), (4, AI (w64 (v50035 - 1)))]) (L := [(1, .row true 3 (v1021.map eTurn)), (0, .box [.val none (.sl 1 (v1017.1.1.map (V.int .u8))), AI v1017.1.2.1, .val none (.int .u64 v1017.1.2.2)])]) [0, 3, 4] [(515, 1), (0, 0)] 2 ⟨_, by rfl, hF⟩
   ·
    refine w_skip ?_
    refine blockQ_n ?_
    refine thenQ_n ?_
    refine w_reg 387 579 rfl rfl ?_
    refine qp (AI v50035) rfl (qp (AI (w64 (v50035 - 1))) rfl (qp (AI (w64 (v50035 - 1))) rfl ?_))
    refine r_nil ?_
    refine thenQ_n ?_
    refine ar (l' := [(0, .ptr 0 0 0), (3, .sl 1 0 v50039.length), (4, AI (w64 (v50035 - 1)))]) (L := [(1, .row true 3 (v50039.map eTurn)), (0, .box [.val none (.sl 1 (v1017.1.1.map (V.int .u8))), AI v1017.1.2.1, .val none (.int .u64 v1017.1.2.2)])]) [0, 3, 4] [(1, 1), (0, 0)] 2 ⟨_, by rfl, hF⟩
 ·
  refine w_exit ?_
  refine thenQ_e ?_
  refine thenQ_e ?_
  refine blockQ_e ?_
  refine thenQ_n ?_
  refine ws 130 258 ?_
  refine qp (.sl 1 0 v50039.length) rfl (qp (.sl 1 0 v50039.length) rfl ?_)
  refine r_nil ?_
  refine w_ret ?_
  cases hF
  exact endP_r rfl (by first | rfl | (simp [List.take_of_length_le]; first | exact ⟨rfl, rfl⟩ | rfl)) (by simp) (by first | rfl | simp) (by first | rfl | simp [res_spec_l23Draw, List.take_of_length_le]) rfl (by first | rfl | simp)

def c5 : MC := (.seq (.reg [rg 2 (.f (.nilrow 3))]) (.seq (.reg [mvt 4 0, rg 5 (.call true 14 [(.t 4)]), mvt 3 5]) (.seq (.reg [mvt 6 3, rg 7 (.call true 15 [(.t 6)]), mvt 2 7]) .ret)))
theorem c5_is : compFn Try.prog 5 = some (c5, [(.tmp 2)]) := by kernel_rfl
theorem c5_ok : okFn Try.prog 5 = true := by kernel_rfl

noncomputable def F_spec_R8Turns (v0 : List Int) : Option (List TTurn) :=
 (((F_spec_l23Draw (v0, 0, 0)).bind fun v1000 => some v1000.2))
@[simp] def res_spec_R8Turns (r : List TTurn) : RV := .one (.one (.row true 3 (r.map eTurn)))
theorem con_spec_R8Turns {v0 : List Int} {r : List TTurn} (hF : F_spec_R8Turns v0 = some r) : Con Try.prog 5 [.sl 1 (v0.map (V.int .u8))] (res_spec_R8Turns r) := by
 unfold F_spec_R8Turns at hF
 refine con_of c5_is fun N => ?_
 refine ws 0 64 ?_
 refine qf (.sl 0 0 0) [(0, .row true 3 (([] : List Int).map vI))] (by simp) ?_
 refine r_nil ?_
 refine ws 64 256 ?_
 refine qp (AL 1 (v0.map (V.int .u8))) rfl ?_
 refine qN [(128, .box [.val none (.sl 1 (v0.map (V.int .u8))), AI 0, .val none (.int .u64 0)]), (0, .row true 3 (([] : List Int).map vI))] (con_l00From_14 v0) c14_ok (by first | rfl | simp) rfl ?_
 refine qp (.ptr 128 0 0) rfl ?_
 refine r_nil ?_
 refine ws 256 448 ?_
 refine qp (.ptr 128 0 0) rfl ?_
 obtain ⟨v1000, e1000, hF⟩ := bind_get hF
 refine qP [] (.sl 320 0 v1000.2.length) [(320, .row true 3 (v1000.2.map eTurn)), (128, .box [.val none (.sl 1 (v1000.1.1.map (V.int .u8))), AI v1000.1.2.1, .val none (.int .u64 v1000.1.2.2)]), (128, .box [.val none (.sl 1 (v0.map (V.int .u8))), AI 0, .val none (.int .u64 0)]), (0, .row true 3 (([] : List Int).map vI))] rfl rfl rfl (by decide) (con_spec_l23Draw e1000) c15_ok (by first | rfl | simp) killO_nil rfl (by simp [res_spec_l23Draw]) ?_
 refine qp (.sl 320 0 v1000.2.length) rfl ?_
 refine r_nil ?_
 refine w_ret ?_
 cases hF
 exact eR

def c6 : MC := (.seq (.reg [rg 2 (.f (.nilrow 3))]) (.seq (.reg [mvt 7 0, rg 8 (.call true 14 [(.t 7)]), mvt 3 8]) (.seq (.reg [rg 9 (.f (.bsl 3 [])), mvt 4 9]) (.seq (.seq (.reg [mvt 10 3, rg 11 (.call true 16 [(.t 10), (.c (.int .i64 3))]), mvt 5 11]) (.block 0 (.loop (.seq (.seq (.reg [mvt 12 5, rg 13 (.p true (.bin .gtr (.t 12) (.c (.int .i64 0))))]) (.cond (.t 13) .skip (.exit 0))) (.seq (.block 1 (.seq (.reg [mvt 16 3, rg 17 (.call true 17 [(.t 16)]), rg 18 (.f (.bld [((.str []), (0, true)), ((.str []), (0, false)), ((.int .i64 0), (0, false))] [(0, (1, (.t 17)))])), rg 6 (.f (.alloc [((.str []), (0, false)), ((.str []), (0, false)), ((.int .i64 0), (0, false))])), ⟨none, none, (.f (.st (.t 6) (.t 18) 3))⟩]) (.seq (.reg [mvt 19 3, rg 20 (.call true 17 [(.t 19)]), rg 21 (.p true (.fad (.t 6) 1)), ⟨none, none, (.f (.st (.t 21) (.t 20) 1))⟩]) (.seq (.reg [mvt 22 3, rg 23 (.call true 16 [(.t 22), (.c (.int .i64 3))]), rg 24 (.p true (.bin .mul (.c (.int .i64 4)) (.t 23))), rg 25 (.p true (.fad (.t 6) 2)), ⟨none, none, (.f (.st (.t 25) (.t 24) 1))⟩]) (.reg [mvt 26 4, rg 27 (.p true (.ld (.t 6) 3 true)), rg 28 (.f (.bsl 3 [(.t 27)])), rg 29 (.f (.app (.t 26) (.t 28) 3 40 true)), mvt 4 29]))))) (.reg [mvt 14 5, rg 15 (.p true (.bin .sub (.t 14) (.c (.int .i64 1)))), mvt 5 15])))))) (.seq (.reg [mvt 30 4, mvt 2 30]) .ret)))))
theorem c6_is : compFn Try.prog 6 = some (c6, [(.tmp 2)]) := by kernel_rfl
theorem c6_ok : okFn Try.prog 6 = true := by kernel_rfl

noncomputable def F_spec_R8Answers_l0 (k1 : Int × (List Int) × Int × Int × (List TAnswer) → Option (List TAnswer)) : Int × (List Int) × Int × Int × (List TAnswer) → Option (List TAnswer)
 | (v50015, v50016, v50017, v50018, v50019) => (bif (decide ((0 : Int) < v50015)) then ((F_spec_l23Player (v50016, v50017, v50018)).bind fun v1009 => ((F_spec_l23Player v1009.1).bind fun v1010 => ((F_spec_l00Src_pick v1010.1 3).bind fun v1011 => (need (room (v50019.length + [(v1009.2, v1010.2, w64 (4 * v1011.2))].length) 40) (k1 (w64 (v50015 - 1), v1011.1.1, v1011.1.2.1, v1011.1.2.2, v50019 ++ [(v1009.2, v1010.2, w64 (4 * v1011.2))]))))))
 else some v50019)
noncomputable def F_spec_R8Answers (v0 : List Int) : Option (List TAnswer) :=
 (((F_spec_l00Src_pick (v0, 0, 0) 3).bind fun v1000 => loop (F_spec_R8Answers_l0) (v1000.2, v1000.1.1, v1000.1.2.1, v1000.1.2.2, [])))
@[simp] def res_spec_R8Answers (r : List TAnswer) : RV := .one (.one (.row true 3 (r.map eAnswer)))
theorem con_spec_R8Answers {v0 : List Int} {r : List TAnswer} (hF : F_spec_R8Answers v0 = some r) : Con Try.prog 6 [.sl 1 (v0.map (V.int .u8))] (res_spec_R8Answers r) := by
 unfold F_spec_R8Answers at hF
 refine con_of c6_is fun N => ?_
 refine ws 0 64 ?_
 refine qf (.sl 0 0 0) [(0, .row true 3 (([] : List Int).map vI))] (by simp) ?_
 refine r_nil ?_
 refine ws 64 256 ?_
 refine qp (AL 1 (v0.map (V.int .u8))) rfl ?_
 refine qN [(128, .box [.val none (.sl 1 (v0.map (V.int .u8))), AI 0, .val none (.int .u64 0)]), (0, .row true 3 (([] : List Int).map vI))] (con_l00From_14 v0) c14_ok (by first | rfl | simp) rfl ?_
 refine qp (.ptr 128 0 0) rfl ?_
 refine r_nil ?_
 refine ws 256 384 ?_
 refine qf (.sl 256 0 0) [(256, .row true 3 (([] : List TAnswer).map eAnswer)), (128, .box [.val none (.sl 1 (v0.map (V.int .u8))), AI 0, .val none (.int .u64 0)]), (0, .row true 3 (([] : List Int).map vI))] (by simp [List.take_of_length_le]) ?_
 refine qp (.sl 256 0 0) rfl ?_
 refine r_nil ?_
 refine w_seq ?_
 refine ws 384 576 ?_
 refine qp (.ptr 128 0 0) rfl ?_
 obtain ⟨v1000, e1000, hF⟩ := bind_get hF
 refine qP [] (AI v1000.2) [(128, .box [.val none (.sl 1 (v1000.1.1.map (V.int .u8))), AI v1000.1.2.1, .val none (.int .u64 v1000.1.2.2)]), (256, .row true 3 (([] : List TAnswer).map eAnswer)), (128, .box [.val none (.sl 1 (v0.map (V.int .u8))), AI 0, .val none (.int .u64 0)]), (0, .row true 3 (([] : List Int).map vI))] rfl rfl rfl (by decide) (con_spec_l00Src_pick e1000) c16_ok (by first | rfl | simp) killO_nil rfl rfl ?_
 refine qp (AI v1000.2) rfl ?_
 refine r_nil ?_
 refine w_block ?_
 refine wr (l' := [(3, .ptr 0 0 0), (4, .sl 1 0 0), (5, AI v1000.2)]) (L := [(1, .row true 3 (([] : List TAnswer).map eAnswer)), (0, .box [.val none (.sl 1 (v1000.1.1.map (V.int .u8))), AI v1000.1.2.1, .val none (.int .u64 v1000.1.2.2)])]) [3, 4, 5] [(256, 1), (128, 0)] 2 ?_
 refine w_loopF (F_spec_R8Answers_l0) (fun s : Int × (List Int) × Int × Int × (List TAnswer) => mkS [(3, .ptr 0 0 0), (4, .sl 1 0 s.2.2.2.2.length), (5, AI s.1)] (fo [(1, .row true 3 (s.2.2.2.2.map eAnswer)), (0, .box [.val none (.sl 1 (s.2.1.map (V.int .u8))), AI s.2.2.1, .val none (.int .u64 s.2.2.2.1)])]) 2) hF ?_
 rintro k1 ⟨v50015, v50016, v50017, v50018, v50019⟩ hF
 rw [F_spec_R8Answers_l0] at hF
 try dsimp only
 refine w_seq ?_
 refine ws 2 130 ?_
 refine qp (AI v50015) rfl (qp (AB (decide ((0 : Int) < v50015))) rfl ?_)
 refine r_nil ?_
 refine cF hF (fun hF => ?_) fun hF => ?_
 ·
  refine w_skip ?_
  refine thenQ_n ?_
  refine w_seq ?_
  refine w_block ?_
  refine ws 130 450 ?_
  refine qp (.ptr 0 0 0) rfl ?_
  obtain ⟨v1009, e1009, hF⟩ := bind_get hF
  refine qP [] (AS v1009.2) [(0, .box [.val none (.sl 1 (v1009.1.1.map (V.int .u8))), AI v1009.1.2.1, .val none (.int .u64 v1009.1.2.2)]), (1, .row true 3 (v50019.map eAnswer)), (0, .box [.val none (.sl 1 (v50016.map (V.int .u8))), AI v50017, .val none (.int .u64 v50018)])] rfl rfl rfl (by decide) (con_spec_l23Player e1009) c17_ok (by first | rfl | simp) killO_nil rfl rfl ?_
  refine qf (.agg [AS v1009.2, AS [], AI 0]) [(0, .box [.val none (.sl 1 (v1009.1.1.map (V.int .u8))), AI v1009.1.2.1, .val none (.int .u64 v1009.1.2.2)]), (1, .row true 3 (v50019.map eAnswer)), (0, .box [.val none (.sl 1 (v50016.map (V.int .u8))), AI v50017, .val none (.int .u64 v50018)])] (by simp) ?_
  refine qf (.ptr 322 0 0) [(322, .box [AS [], AS [], AI 0]), (0, .box [.val none (.sl 1 (v1009.1.1.map (V.int .u8))), AI v1009.1.2.1, .val none (.int .u64 v1009.1.2.2)]), (1, .row true 3 (v50019.map eAnswer)), (0, .box [.val none (.sl 1 (v50016.map (V.int .u8))), AI v50017, .val none (.int .u64 v50018)])] (by simp) ?_
  refine qf0 (.undef) [(322, .box [AS v1009.2, AS [], AI 0]), (322, .box [AS [], AS [], AI 0]), (0, .box [.val none (.sl 1 (v1009.1.1.map (V.int .u8))), AI v1009.1.2.1, .val none (.int .u64 v1009.1.2.2)]), (1, .row true 3 (v50019.map eAnswer)), (0, .box [.val none (.sl 1 (v50016.map (V.int .u8))), AI v50017, .val none (.int .u64 v50018)])] (by simp) ?_
  refine r_nil ?_
  refine ws 450 706 ?_
  refine qp (.ptr 0 0 0) rfl ?_
  obtain ⟨v1010, e1010, hF⟩ := bind_get hF
  refine qP [] (AS v1010.2) [(0, .box [.val none (.sl 1 (v1010.1.1.map (V.int .u8))), AI v1010.1.2.1, .val none (.int .u64 v1010.1.2.2)]), (322, .box [AS v1009.2, AS [], AI 0]), (322, .box [AS [], AS [], AI 0]), (0, .box [.val none (.sl 1 (v1009.1.1.map (V.int .u8))), AI v1009.1.2.1, .val none (.int .u64 v1009.1.2.2)]), (1, .row true 3 (v50019.map eAnswer)), (0, .box [.val none (.sl 1 (v50016.map (V.int .u8))), AI v50017, .val none (.int .u64 v50018)])] rfl rfl rfl (by decide) (con_spec_l23Player e1010) c17_ok (by first | rfl | simp) killO_nil rfl rfl ?_
  refine qp (.ptr 322 0 1) rfl ?_
  refine qf0 (.undef) [(322, .box [AS v1009.2, AS v1010.2, AI 0]), (0, .box [.val none (.sl 1 (v1010.1.1.map (V.int .u8))), AI v1010.1.2.1, .val none (.int .u64 v1010.1.2.2)]), (322, .box [AS v1009.2, AS [], AI 0]), (322, .box [AS [], AS [], AI 0]), (0, .box [.val none (.sl 1 (v1009.1.1.map (V.int .u8))), AI v1009.1.2.1, .val none (.int .u64 v1009.1.2.2)]), (1, .row true 3 (v50019.map eAnswer)), (0, .box [.val none (.sl 1 (v50016.map (V.int .u8))), AI v50017, .val none (.int .u64 v50018)])] (by simp) ?_
  refine r_nil ?_
  refine ws 706 1026 ?_
  refine qp (.ptr 0 0 0) rfl ?_
  obtain ⟨v1011, e1011, hF⟩ := bind_get hF
  refine qP [] (AI v1011.2) [(0, .box [.val none (.sl 1 (v1011.1.1.map (V.int .u8))), AI v1011.1.2.1, .val none (.int .u64 v1011.1.2.2)]), (322, .box [AS v1009.2, AS v1010.2, AI 0]), (0, .box [.val none (.sl 1 (v1010.1.1.map (V.int .u8))), AI v1010.1.2.1, .val none (.int .u64 v1010.1.2.2)]), (322, .box [AS v1009.2, AS [], AI 0]), (322, .box [AS [], AS [], AI 0]), (0, .box [.val none (.sl 1 (v1009.1.1.map (V.int .u8))), AI v1009.1.2.1, .val none (.int .u64 v1009.1.2.2)]), (1, .row true 3 (v50019.map eAnswer)), (0, .box [.val none (.sl 1 (v50016.map (V.int .u8))), AI v50017, .val none (.int .u64 v50018)])] rfl rfl rfl (by decide) (con_spec_l00Src_pick e1011) c16_ok (by first | rfl | simp) killO_nil rfl rfl ?_
  refine qp (AI (w64 (4 * v1011.2))) rfl (qp (.ptr 322 0 2) rfl ?_)
  refine qf0 (.undef) [(322, .box [AS v1009.2, AS v1010.2, AI (w64 (4 * v1011.2))]), (0, .box [.val none (.sl 1 (v1011.1.1.map (V.int .u8))), AI v1011.1.2.1, .val none (.int .u64 v1011.1.2.2)]), (322, .box [AS v1009.2, AS v1010.2, AI 0]), (0, .box [.val none (.sl 1 (v1010.1.1.map (V.int .u8))), AI v1010.1.2.1, .val none (.int .u64 v1010.1.2.2)]), (322, .box [AS v1009.2, AS [], AI 0]), (322, .box [AS [], AS [], AI 0]), (0, .box [.val none (.sl 1 (v1009.1.1.map (V.int .u8))), AI v1009.1.2.1, .val none (.int .u64 v1009.1.2.2)]), (1, .row true 3 (v50019.map eAnswer)), (0, .box [.val none (.sl 1 (v50016.map (V.int .u8))), AI v50017, .val none (.int .u64 v50018)])] (by simp) ?_
  refine r_nil ?_
  refine w_reg 1026 1346 rfl rfl ?_
  refine qp (.sl 1 0 v50019.length) rfl (qp (.agg [AS v1009.2, AS v1010.2, AI (w64 (4 * v1011.2))]) rfl ?_)
  refine qf (.sl 1154 0 ([(v1009.2, v1010.2, w64 (4 * v1011.2))].length)) [(1154, .row true 3 ([(v1009.2, v1010.2, w64 (4 * v1011.2))].map eAnswer)), (322, .box [AS v1009.2, AS v1010.2, AI (w64 (4 * v1011.2))]), (0, .box [.val none (.sl 1 (v1011.1.1.map (V.int .u8))), AI v1011.1.2.1, .val none (.int .u64 v1011.1.2.2)]), (322, .box [AS v1009.2, AS v1010.2, AI 0]), (0, .box [.val none (.sl 1 (v1010.1.1.map (V.int .u8))), AI v1010.1.2.1, .val none (.int .u64 v1010.1.2.2)]), (322, .box [AS v1009.2, AS [], AI 0]), (322, .box [AS [], AS [], AI 0]), (0, .box [.val none (.sl 1 (v1009.1.1.map (V.int .u8))), AI v1009.1.2.1, .val none (.int .u64 v1009.1.2.2)]), (1, .row true 3 (v50019.map eAnswer)), (0, .box [.val none (.sl 1 (v50016.map (V.int .u8))), AI v50017, .val none (.int .u64 v50018)])] (by simp [List.take_of_length_le]) ?_
  obtain ⟨g1012, hF⟩ := need_some hF
  refine qf (.sl 1218 0 ((v50019 ++ [(v1009.2, v1010.2, w64 (4 * v1011.2))]).length)) [(1218, .row true 3 ((v50019 ++ [(v1009.2, v1010.2, w64 (4 * v1011.2))]).map eAnswer)), (1, .dead), (1154, .dead), (1154, .row true 3 ([(v1009.2, v1010.2, w64 (4 * v1011.2))].map eAnswer)), (322, .box [AS v1009.2, AS v1010.2, AI (w64 (4 * v1011.2))]), (0, .box [.val none (.sl 1 (v1011.1.1.map (V.int .u8))), AI v1011.1.2.1, .val none (.int .u64 v1011.1.2.2)]), (322, .box [AS v1009.2, AS v1010.2, AI 0]), (0, .box [.val none (.sl 1 (v1010.1.1.map (V.int .u8))), AI v1010.1.2.1, .val none (.int .u64 v1010.1.2.2)]), (322, .box [AS v1009.2, AS [], AI 0]), (322, .box [AS [], AS [], AI 0]), (0, .box [.val none (.sl 1 (v1009.1.1.map (V.int .u8))), AI v1009.1.2.1, .val none (.int .u64 v1009.1.2.2)]), (1, .row true 3 (v50019.map eAnswer)), (0, .box [.val none (.sl 1 (v50016.map (V.int .u8))), AI v50017, .val none (.int .u64 v50018)])] (effT_app_l rfl (by simp) rfl rfl (by simp) rfl (by decide) g1012 rfl) ?_
  refine qp (.sl 1218 0 ((v50019 ++ [(v1009.2, v1010.2, w64 (4 * v1011.2))]).length)) rfl ?_
  refine r_nil ?_
  refine blockQ_n ?_
  refine thenQ_n ?_
  refine w_reg 1346 1538 rfl rfl ?_
  refine qp (AI v50015) rfl (qp (AI (w64 (v50015 - 1))) rfl (qp (AI (w64 (v50015 - 1))) rfl ?_))
  refine r_nil ?_
  refine thenQ_n ?_
  refine ar (l' := [(3, .ptr 0 0 0), (4, .sl 1 0 (v50019 ++ [(v1009.2, v1010.2, w64 (4 * v1011.2))]).length), (5, AI (w64 (v50015 - 1)))]) (L := [(1, .row true 3 ((v50019 ++ [(v1009.2, v1010.2, w64 (4 * v1011.2))]).map eAnswer)), (0, .box [.val none (.sl 1 (v1011.1.1.map (V.int .u8))), AI v1011.1.2.1, .val none (.int .u64 v1011.1.2.2)])]) [3, 4, 5] [(1218, 1), (0, 0)] 2 ⟨_, by rfl, hF⟩
 ·
  refine w_exit ?_
  refine thenQ_e ?_
  refine thenQ_e ?_
  refine blockQ_e ?_
  refine thenQ_n ?_
  refine ws 130 258 ?_
  refine qp (.sl 1 0 v50019.length) rfl (qp (.sl 1 0 v50019.length) rfl ?_)
  refine r_nil ?_
  refine w_ret ?_
  cases hF
  exact eR

def c52 : MC := (.seq (.reg [rg 2 (.p true (.mv (.c (.bool false))))]) (.seq (.seq (.reg [mvt 5 0, rg 6 (.p true (.lens (.t 5))), rg 7 (.p true (.mv (.c (.int .i64 0))))]) (.block 0 (.loop (.seq (.reg [rg 8 (.p true (.bin .lss (.t 7) (.t 6)))]) (.seq (.cond (.t 8) .skip (.exit 0)) (.seq (.block 1 (.seq (.reg [mvt 9 7, mvt 3 9]) (.seq (.reg [mvt 10 0, mvt 11 3, rg 12 (.p true (.ixs (.t 10) (.t 11))), mvt 4 12]) (.seq (.reg [mvt 13 4, rg 14 (.p true (.bin .lss (.t 13) (.c (.int .u8 97)))), mvt 15 14, ⟨(some 16), (some (15, false)), (.p true (.mv (.t 4)))⟩, ⟨(some 17), (some (15, false)), (.p true (.bin .gtr (.t 16) (.c (.int .u8 122))))⟩, rg 18 (.p true (.pick (.t 15) (.c (.bool true)) (.t 17))), mvt 19 18, ⟨(some 20), (some (19, true)), (.p true (.mv (.t 4)))⟩, ⟨(some 21), (some (19, true)), (.p true (.bin .lss (.t 20) (.c (.int .u8 48))))⟩, ⟨(some 22), (some (19, true)), (.p true (.mv (.t 21)))⟩, ⟨(some 23), (some (22, false)), (.p true (.mv (.t 4)))⟩, ⟨(some 24), (some (22, false)), (.p true (.bin .gtr (.t 23) (.c (.int .u8 57))))⟩, ⟨(some 25), (some (19, true)), (.p true (.pick (.t 22) (.c (.bool true)) (.t 24)))⟩, rg 26 (.p true (.pick (.t 19) (.t 25) (.c (.bool false))))]) (.cond (.t 26) (.seq (.reg [rg 2 (.p true (.mv (.c (.bool false))))]) .ret) .skip))))) (.reg [rg 27 (.p true (.bin .add (.t 7) (.c (.int .i64 1)))), mvt 7 27]))))))) (.seq (.reg [rg 2 (.p true (.mv (.c (.bool true))))]) .ret)))
theorem c52_is : compFn Try.prog 52 = some (c52, [(.tmp 2)]) := by kernel_rfl
theorem c52_ok : okFn Try.prog 52 = true := by kernel_rfl

noncomputable def F_impl_onlyNameBytes_l0 (v0 : List UInt8) (k0 : Int → Option (Bool)) : Int → Option (Bool)
 | v50001 => (bif (decide (v50001 < (v0.length : Int))) then ((ix v0 v50001).bind fun v1000 => (bif (decide ((v1000.toNat : Int) < (97 : Int))) then (bif (decide ((v1000.toNat : Int) < (48 : Int))) then some false
 else (bif (decide ((57 : Int) < (v1000.toNat : Int))) then some false
 else k0 (w64 (v50001 + 1))))
 else (bif (decide ((122 : Int) < (v1000.toNat : Int))) then (bif (decide ((v1000.toNat : Int) < (48 : Int))) then some false
 else (bif (decide ((57 : Int) < (v1000.toNat : Int))) then some false
 else k0 (w64 (v50001 + 1))))
 else k0 (w64 (v50001 + 1)))))
 else some true)
noncomputable def F_impl_onlyNameBytes (v0 : List UInt8) : Option (Bool) :=
 loop (F_impl_onlyNameBytes_l0 v0) 0
@[simp] def res_impl_onlyNameBytes (r : Bool) : RV := .one (.one (.val (.bool r)))
theorem con_impl_onlyNameBytes {v0 : List UInt8} {r : Bool} (hF : F_impl_onlyNameBytes v0 = some r) : Con Try.prog 52 [.str v0] (res_impl_onlyNameBytes r) := by
 unfold F_impl_onlyNameBytes at hF
 refine con_of c52_is fun N => ?_
 refine ws 0 64 ?_
 refine qp (AB false) rfl ?_
 refine r_nil ?_
 refine w_seq ?_
 refine ws 64 256 ?_
 refine qp (AS v0) rfl (qp (AI (v0.length : Int)) rfl (qp (AI 0) rfl ?_))
 refine r_nil ?_
 refine w_block ?_
 refine wr (l' := [(0, AS v0), (6, AI (v0.length : Int)), (7, AI 0)]) (L := []) [0, 6, 7] [] 1 ?_
 refine w_loopF (F_impl_onlyNameBytes_l0 v0) (fun s : Int => mkS [(0, AS v0), (6, AI (v0.length : Int)), (7, AI s)] (fo []) 1) hF ?_
 rintro k0 v50001 hF
 rw [F_impl_onlyNameBytes_l0] at hF
 try dsimp only
 refine ws 1 65 ?_
 refine qp (AB (decide (v50001 < (v0.length : Int)))) rfl ?_
 refine r_nil ?_
 refine w_seq ?_
 refine cF hF (fun hF => ?_) fun hF => ?_
 ·
  refine w_skip ?_
  refine thenQ_n ?_
  refine w_seq ?_
  refine w_block ?_
  refine ws 65 193 ?_
  refine qp (AI v50001) rfl (qp (AI v50001) rfl ?_)
  refine r_nil ?_
  refine ws 193 449 ?_
  refine qp (AS v0) rfl (qp (AI v50001) rfl ?_)
  obtain ⟨v1000, e1000, hF⟩ := bind_get hF
  refine qp (.val none (.int .u8 (v1000.toNat : Int))) (ev_ixs rfl rfl e1000) (qp (.val none (.int .u8 (v1000.toNat : Int))) rfl ?_)
  refine r_nil ?_
  refine ws 449 1345 ?_
  refine qp (.val none (.int .u8 (v1000.toNat : Int))) rfl (qp (AB (decide ((v1000.toNat : Int) < (97 : Int)))) rfl (qp (AB (decide ((v1000.toNat : Int) < (97 : Int)))) rfl ?_))
  refine q_case 15 hF rfl (fun hF => ?_) (fun hF => ?_)
  ·
   refine qn rfl (qn rfl (qp (AB true) rfl (qp (AB true) rfl (qg (.val none (.int .u8 (v1000.toNat : Int))) rfl rfl (qg (AB (decide ((v1000.toNat : Int) < (48 : Int)))) rfl rfl (qg (AB (decide ((v1000.toNat : Int) < (48 : Int)))) rfl rfl ?_))))))
   refine q_case 22 hF rfl (fun hF => ?_) (fun hF => ?_)
   ·
    refine qn rfl (qn rfl (qg (AB true) rfl rfl (qp (AB true) rfl ?_)))
    refine r_nil ?_
    refine w_true rfl ?_
    refine ws 1345 1409 ?_
    refine qp (AB false) rfl ?_
    refine r_nil ?_
    refine w_ret ?_
    refine blockQ_r ?_
    refine thenQ_r ?_
    refine thenQ_r ?_
    refine blockQ_r ?_
    refine thenQ_r ?_
    cases hF
    exact eR
   ·
    refine qg (.val none (.int .u8 (v1000.toNat : Int))) rfl rfl (qg (AB (decide ((57 : Int) < (v1000.toNat : Int)))) rfl rfl (qg (AB (decide ((57 : Int) < (v1000.toNat : Int)))) rfl rfl (qp (AB (decide ((57 : Int) < (v1000.toNat : Int)))) rfl ?_)))
    refine r_nil ?_
    refine cF hF (fun hF => ?_) fun hF => ?_
    ·
     refine ws 1345 1409 ?_
     refine qp (AB false) rfl ?_
     refine r_nil ?_
     refine w_ret ?_
     refine blockQ_r ?_
     refine thenQ_r ?_
     refine thenQ_r ?_
     refine blockQ_r ?_
     refine thenQ_r ?_
     cases hF
     exact eR
    ·
     refine w_skip ?_
     refine blockQ_n ?_
     refine thenQ_n ?_
     refine w_reg 1345 1473 rfl rfl ?_
     refine qp (AI (w64 (v50001 + 1))) rfl (qp (AI (w64 (v50001 + 1))) rfl ?_)
     refine r_nil ?_
     refine thenQ_n ?_
     refine ar (l' := [(0, AS v0), (6, AI (v0.length : Int)), (7, AI (w64 (v50001 + 1)))]) (L := []) [0, 6, 7] [] 1 ⟨_, by rfl, hF⟩
  ·
   refine qg (.val none (.int .u8 (v1000.toNat : Int))) rfl rfl (qg (AB (decide ((122 : Int) < (v1000.toNat : Int)))) rfl rfl (qp (AB (decide ((122 : Int) < (v1000.toNat : Int)))) rfl (qp (AB (decide ((122 : Int) < (v1000.toNat : Int)))) rfl ?_)))
   refine q_case 19 hF rfl (fun hF => ?_) (fun hF => ?_)
   ·
    refine qg (.val none (.int .u8 (v1000.toNat : Int))) rfl rfl (qg (AB (decide ((v1000.toNat : Int) < (48 : Int)))) rfl rfl (qg (AB (decide ((v1000.toNat : Int) < (48 : Int)))) rfl rfl ?_))
    refine q_case 22 hF rfl (fun hF => ?_) (fun hF => ?_)
    ·
     refine qn rfl (qn rfl (qg (AB true) rfl rfl (qp (AB true) rfl ?_)))
     refine r_nil ?_
     refine w_true rfl ?_
     refine ws 1345 1409 ?_
     refine qp (AB false) rfl ?_
     refine r_nil ?_
     refine w_ret ?_
     refine blockQ_r ?_
     refine thenQ_r ?_
     refine thenQ_r ?_
     refine blockQ_r ?_
     refine thenQ_r ?_
     cases hF
     exact eR
    ·
     refine qg (.val none (.int .u8 (v1000.toNat : Int))) rfl rfl (qg (AB (decide ((57 : Int) < (v1000.toNat : Int)))) rfl rfl (qg (AB (decide ((57 : Int) < (v1000.toNat : Int)))) rfl rfl (qp (AB (decide ((57 : Int) < (v1000.toNat : Int)))) rfl ?_)))
     refine r_nil ?_
     refine cF hF (fun hF => ?_) fun hF => ?_
     ·
      refine ws 1345 1409 ?_
      refine qp (AB false) rfl ?_
      refine r_nil ?_
      refine w_ret ?_
      refine blockQ_r ?_
      refine thenQ_r ?_
      refine thenQ_r ?_
      refine blockQ_r ?_
      refine thenQ_r ?_
      cases hF
      exact eR
     ·
      refine w_skip ?_
      refine blockQ_n ?_
      refine thenQ_n ?_
      refine w_reg 1345 1473 rfl rfl ?_
      refine qp (AI (w64 (v50001 + 1))) rfl (qp (AI (w64 (v50001 + 1))) rfl ?_)
      refine r_nil ?_
      refine thenQ_n ?_
      refine ar (l' := [(0, AS v0), (6, AI (v0.length : Int)), (7, AI (w64 (v50001 + 1)))]) (L := []) [0, 6, 7] [] 1 ⟨_, by rfl, hF⟩
   ·
    refine qn rfl (qn rfl (qn rfl (qu rfl (qu rfl (qn rfl (qp (AB false) rfl ?_))))))
    refine r_nil ?_
    refine w_false rfl ?_
    refine w_skip ?_
    refine blockQ_n ?_
    refine thenQ_n ?_
    refine w_reg 1345 1473 rfl rfl ?_
    refine qp (AI (w64 (v50001 + 1))) rfl (qp (AI (w64 (v50001 + 1))) rfl ?_)
    refine r_nil ?_
    refine thenQ_n ?_
    refine ar (l' := [(0, AS v0), (6, AI (v0.length : Int)), (7, AI (w64 (v50001 + 1)))]) (L := []) [0, 6, 7] [] 1 ⟨_, by rfl, hF⟩
 ·
  refine w_exit ?_
  refine thenQ_e ?_
  refine thenQ_e ?_
  refine blockQ_e ?_
  refine thenQ_n ?_
  refine ws 65 129 ?_
  refine qp (AB true) rfl ?_
  refine r_nil ?_
  refine w_ret ?_
  cases hF
  exact eR

def c39 : MC := (.seq (.reg [rg 2 (.p true (.mv (.c (.bool false))))]) (.seq (.seq (.reg [mvt 3 0, rg 4 (.p true (.lens (.t 3))), rg 5 (.p true (.bin .lss (.t 4) (.c (.int .i64 1)))), mvt 6 5, ⟨(some 7), (some (6, false)), (.p true (.mv (.t 0)))⟩, ⟨(some 8), (some (6, false)), (.p true (.lens (.t 7)))⟩, ⟨(some 9), (some (6, false)), (.p true (.bin .gtr (.t 8) (.c (.int .i64 10))))⟩, rg 10 (.p true (.pick (.t 6) (.c (.bool true)) (.t 9))), mvt 11 10, ⟨(some 12), (some (11, false)), (.p true (.mv (.t 0)))⟩, ⟨(some 13), (some (11, false)), (.p true (.ixs (.t 12) (.c (.int .i64 0))))⟩, ⟨(some 14), (some (11, false)), (.p true (.bin .lss (.t 13) (.c (.int .u8 97))))⟩, rg 15 (.p true (.pick (.t 11) (.c (.bool true)) (.t 14))), mvt 16 15, ⟨(some 17), (some (16, false)), (.p true (.mv (.t 0)))⟩, ⟨(some 18), (some (16, false)), (.p true (.ixs (.t 17) (.c (.int .i64 0))))⟩, ⟨(some 19), (some (16, false)), (.p true (.bin .gtr (.t 18) (.c (.int .u8 122))))⟩, rg 20 (.p true (.pick (.t 16) (.c (.bool true)) (.t 19)))]) (.cond (.t 20) (.seq (.reg [rg 2 (.p true (.mv (.c (.bool false))))]) .ret) .skip)) (.seq (.reg [mvt 21 0, rg 22 (.call true 52 [(.t 21)]), mvt 2 22]) .ret)))
theorem c39_is : compFn Try.prog 39 = some (c39, [(.tmp 2)]) := by kernel_rfl
theorem c39_ok : okFn Try.prog 39 = true := by kernel_rfl

noncomputable def F_impl_IsName (v0 : List UInt8) : Option (Bool) :=
 (bif (decide ((v0.length : Int) < (1 : Int))) then some false
 else (bif (decide ((10 : Int) < (v0.length : Int))) then some false
 else ((ix v0 0).bind fun v1000 => (bif (decide ((v1000.toNat : Int) < (97 : Int))) then some false
 else ((ix v0 0).bind fun v1001 => (bif (decide ((122 : Int) < (v1001.toNat : Int))) then some false
 else ((F_impl_onlyNameBytes v0).bind fun v1002 => some v1002)))))))
@[simp] def res_impl_IsName (r : Bool) : RV := .one (.one (.val (.bool r)))
theorem con_impl_IsName {v0 : List UInt8} {r : Bool} (hF : F_impl_IsName v0 = some r) : Con Try.prog 39 [.str v0] (res_impl_IsName r) := by
 unfold F_impl_IsName at hF
 refine con_of c39_is fun N => ?_
 refine ws 0 64 ?_
 refine qp (AB false) rfl ?_
 refine r_nil ?_
 refine w_seq ?_
 refine ws 64 1216 ?_
 refine qp (AS v0) rfl (qp (AI (v0.length : Int)) rfl (qp (AB (decide ((v0.length : Int) < (1 : Int)))) rfl (qp (AB (decide ((v0.length : Int) < (1 : Int)))) rfl ?_)))
 refine q_case 6 hF rfl (fun hF => ?_) (fun hF => ?_)
 ·
  refine qn rfl (qn rfl (qn rfl (qp (AB true) rfl (qp (AB true) rfl (qn rfl (qn rfl (qn rfl ?_)))))))
  refine qp (AB true) rfl (qp (AB true) rfl (qn rfl (qn rfl (qn rfl (qp (AB true) rfl ?_)))))
  refine r_nil ?_
  refine w_true rfl ?_
  refine ws 1216 1280 ?_
  refine qp (AB false) rfl ?_
  refine r_nil ?_
  refine w_ret ?_
  refine thenQ_r ?_
  cases hF
  exact eR
 ·
  refine qg (AS v0) rfl rfl (qg (AI (v0.length : Int)) rfl rfl (qg (AB (decide ((10 : Int) < (v0.length : Int)))) rfl rfl (qp (AB (decide ((10 : Int) < (v0.length : Int)))) rfl (qp (AB (decide ((10 : Int) < (v0.length : Int)))) rfl ?_))))
  refine q_case 11 hF rfl (fun hF => ?_) (fun hF => ?_)
  ·
   refine qn rfl (qn rfl (qn rfl (qp (AB true) rfl (qp (AB true) rfl (qn rfl (qn rfl (qn rfl ?_)))))))
   refine qp (AB true) rfl ?_
   refine r_nil ?_
   refine w_true rfl ?_
   refine ws 1216 1280 ?_
   refine qp (AB false) rfl ?_
   refine r_nil ?_
   refine w_ret ?_
   refine thenQ_r ?_
   cases hF
   exact eR
  ·
   refine qg (AS v0) rfl rfl ?_
   obtain ⟨v1000, e1000, hF⟩ := bind_get hF
   refine qg (.val none (.int .u8 (v1000.toNat : Int))) rfl (ev_ixs rfl rfl e1000) (qg (AB (decide ((v1000.toNat : Int) < (97 : Int)))) rfl rfl (qp (AB (decide ((v1000.toNat : Int) < (97 : Int)))) rfl (qp (AB (decide ((v1000.toNat : Int) < (97 : Int)))) rfl ?_)))
   refine q_case 16 hF rfl (fun hF => ?_) (fun hF => ?_)
   ·
    refine qn rfl (qn rfl (qn rfl (qp (AB true) rfl ?_)))
    refine r_nil ?_
    refine w_true rfl ?_
    refine ws 1216 1280 ?_
    refine qp (AB false) rfl ?_
    refine r_nil ?_
    refine w_ret ?_
    refine thenQ_r ?_
    cases hF
    exact eR
   ·
    refine qg (AS v0) rfl rfl ?_
    obtain ⟨v1001, e1001, hF⟩ := bind_get hF
    refine qg (.val none (.int .u8 (v1001.toNat : Int))) rfl (ev_ixs rfl rfl e1001) (qg (AB (decide ((122 : Int) < (v1001.toNat : Int)))) rfl rfl (qp (AB (decide ((122 : Int) < (v1001.toNat : Int)))) rfl ?_))
    refine r_nil ?_
    refine cF hF (fun hF => ?_) fun hF => ?_
    ·
     refine ws 1216 1280 ?_
     refine qp (AB false) rfl ?_
     refine r_nil ?_
     refine w_ret ?_
     refine thenQ_r ?_
     cases hF
     exact eR
    ·
     refine w_skip ?_
     refine thenQ_n ?_
     refine ws 1216 1408 ?_
     refine qp (AS v0) rfl ?_
     obtain ⟨v1002, e1002, hF⟩ := bind_get hF
     refine qc (AB v1002) [] false (con_impl_onlyNameBytes e1002) c52_ok (by first | rfl | simp) rfl ?_
     refine qp (AB v1002) rfl ?_
     refine r_nil ?_
     refine w_ret ?_
     cases hF
     exact eR

def c21 : MC := (.seq (.reg [rg 6 (.p true (.mv (.c (.bool false))))]) (.seq (.reg [mvt 7 0, mvt 8 1, rg 9 (.p true (.bin .geq (.t 7) (.t 8))), mvt 10 9, ⟨(some 11), (some (10, true)), (.p true (.mv (.t 0)))⟩, ⟨(some 12), (some (10, true)), (.p true (.mv (.t 2)))⟩, ⟨(some 13), (some (10, true)), (.p true (.bin .leq (.t 11) (.t 12)))⟩, rg 14 (.p true (.pick (.t 10) (.t 13) (.c (.bool false)))), mvt 6 14]) .ret))
theorem c21_is : compFn Try.prog 21 = some (c21, [(.tmp 6)]) := by kernel_rfl
theorem c21_ok : okFn Try.prog 21 = true := by kernel_rfl

noncomputable def F_impl_within (v0 : Int) (v1 : Int) (v2 : Int) : Option (Bool) :=
 (bif (decide (v1 ≤ v0)) then some (decide (v0 ≤ v2))
 else some false)
@[simp] def res_impl_within (r : Bool) : RV := .one (.one (.val (.bool r)))
theorem con_impl_within {v0 : Int} {v1 : Int} {v2 : Int} {r : Bool} (hF : F_impl_within v0 v1 v2 = some r) : Con Try.prog 21 [.int .i64 v0, .int .i64 v1, .int .i64 v2] (res_impl_within r) := by
 unfold F_impl_within at hF
 refine con_of c21_is fun N => ?_
 refine ws 0 64 ?_
 refine qp (AB false) rfl ?_
 refine r_nil ?_
 refine ws 64 640 ?_
 refine qp (AI v0) rfl (qp (AI v1) rfl (qp (AB (decide (v1 ≤ v0))) rfl (qp (AB (decide (v1 ≤ v0))) rfl ?_)))
 refine q_case 10 hF rfl (fun hF => ?_) (fun hF => ?_)
 ·
  refine qg (AI v0) rfl rfl (qg (AI v2) rfl rfl (qg (AB (decide (v0 ≤ v2))) rfl rfl (qp (AB (decide (v0 ≤ v2))) rfl (qp (AB (decide (v0 ≤ v2))) rfl ?_))))
  refine r_nil ?_
  refine w_ret ?_
  cases hF
  exact eR
 ·
  refine qn rfl (qn rfl (qn rfl (qp (AB false) rfl (qp (AB false) rfl ?_))))
  refine r_nil ?_
  refine w_ret ?_
  cases hF
  exact eR

def c25 : MC := (.seq (.reg [rg 1 (.f (.box (.t 0))), rg 2 (.p true (.mv (.c (.bool false))))]) (.seq (.reg [rg 3 (.p true (.fad (.t 1) 0)), rg 4 (.p true (.ld (.t 3) 1 false)), rg 5 (.call true 39 [(.t 4)]), mvt 6 5, ⟨(some 7), (some (6, true)), (.p true (.fad (.t 1) 1))⟩, ⟨(some 8), (some (6, true)), (.p true (.ld (.t 7) 1 false))⟩, ⟨(some 9), (some (6, true)), (.call true 21 [(.t 8), (.c (.int .i64 0)), (.c (.int .i64 10000))])⟩, rg 10 (.p true (.pick (.t 6) (.t 9) (.c (.bool false)))), mvt 11 10, ⟨(some 12), (some (11, true)), (.p true (.fad (.t 1) 2))⟩, ⟨(some 13), (some (11, true)), (.p true (.ld (.t 12) 1 false))⟩, ⟨(some 14), (some (11, true)), (.call true 21 [(.t 13), (.c (.int .i64 1)), (.c (.int .i64 10000))])⟩, rg 15 (.p true (.pick (.t 11) (.t 14) (.c (.bool false)))), mvt 2 15]) .ret))
theorem c25_is : compFn Try.prog 25 = some (c25, [(.tmp 2)]) := by kernel_rfl
theorem c25_ok : okFn Try.prog 25 = true := by kernel_rfl

noncomputable def F_impl_Turn_valid (v0 : TTurn) : Option (Bool) :=
 ((F_impl_IsName v0.1).bind fun v1000 => (bif v1000 then ((F_impl_within v0.2.1 0 10000).bind fun v1001 => (bif v1001 then ((F_impl_within v0.2.2 1 10000).bind fun v1002 => some v1002)
 else some false))
 else some false))
@[simp] def res_impl_Turn_valid (r : Bool) : RV := .one (.one (.val (.bool r)))
theorem con_impl_Turn_valid {v0 : TTurn} {r : Bool} (hF : F_impl_Turn_valid v0 = some r) : Con Try.prog 25 [eTurn v0] (res_impl_Turn_valid r) := by
 unfold F_impl_Turn_valid at hF
 refine con_of c25_is fun N => ?_
 refine ws 0 128 ?_
 refine qf (.ptr 0 0 0) [(0, .box [AS v0.1, AI v0.2.1, AI v0.2.2])] (by simp) ?_
 refine qp (AB false) rfl ?_
 refine r_nil ?_
 refine ws 128 1024 ?_
 refine qp (.ptr 0 0 0) rfl (qp (AS v0.1) rfl ?_)
 obtain ⟨v1000, e1000, hF⟩ := bind_get hF
 refine qc (AB v1000) [(0, .box [AS v0.1, AI v0.2.1, AI v0.2.2])] false (con_impl_IsName e1000) c39_ok (by first | rfl | simp) rfl ?_
 refine qp (AB v1000) rfl ?_
 refine q_case 6 hF rfl (fun hF => ?_) (fun hF => ?_)
 ·
  refine qg (.ptr 0 0 1) rfl rfl (qg (AI v0.2.1) rfl rfl ?_)
  obtain ⟨v1001, e1001, hF⟩ := bind_get hF
  refine qcg (AB v1001) [(0, .box [AS v0.1, AI v0.2.1, AI v0.2.2])] false rfl (con_impl_within e1001) c21_ok (by first | rfl | simp) rfl ?_
  refine qp (AB v1001) rfl (qp (AB v1001) rfl ?_)
  refine q_case 11 hF rfl (fun hF => ?_) (fun hF => ?_)
  ·
   refine qg (.ptr 0 0 2) rfl rfl (qg (AI v0.2.2) rfl rfl ?_)
   obtain ⟨v1002, e1002, hF⟩ := bind_get hF
   refine qcg (AB v1002) [(0, .box [AS v0.1, AI v0.2.1, AI v0.2.2])] false rfl (con_impl_within e1002) c21_ok (by first | rfl | simp) rfl ?_
   refine qp (AB v1002) rfl (qp (AB v1002) rfl ?_)
   refine r_nil ?_
   refine w_ret ?_
   cases hF
   exact eR
  ·
   refine qn rfl (qn rfl (qn rfl (qp (AB false) rfl (qp (AB false) rfl ?_))))
   refine r_nil ?_
   refine w_ret ?_
   cases hF
   exact eR
 ·
  refine qn rfl (qn rfl (qn rfl (qp (AB false) rfl (qp (AB false) rfl (qn rfl (qn rfl (qn rfl ?_)))))))
  refine qp (AB false) rfl (qp (AB false) rfl ?_)
  refine r_nil ?_
  refine w_ret ?_
  cases hF
  exact eR

def c53 : MC := (.seq (.reg [rg 2 (.p true (.mv (.c (.bool false))))]) (.seq (.reg [mvt 3 0, mvt 4 0, rg 5 (.p true (.bin .neq (.t 3) (.t 4))), mvt 2 5]) .ret))
theorem c53_is : compFn Try.prog 53 = some (c53, [(.tmp 2)]) := by kernel_rfl
theorem c53_ok : okFn Try.prog 53 = true := by kernel_rfl

noncomputable def F_cmp_isNaN_int64 (v0 : Int) : Option (Bool) :=
 some (decide (v0 ≠ v0))
@[simp] def res_cmp_isNaN_int64 (r : Bool) : RV := .one (.one (.val (.bool r)))
theorem con_cmp_isNaN_int64 {v0 : Int} {r : Bool} (hF : F_cmp_isNaN_int64 v0 = some r) : Con Try.prog 53 [.int .i64 v0] (res_cmp_isNaN_int64 r) := by
 unfold F_cmp_isNaN_int64 at hF
 refine con_of c53_is fun N => ?_
 refine ws 0 64 ?_
 refine qp (AB false) rfl ?_
 refine r_nil ?_
 refine ws 64 320 ?_
 refine qp (AI v0) rfl (qp (AI v0) rfl (qp (AB (decide (v0 ≠ v0))) rfl (qp (AB (decide (v0 ≠ v0))) rfl ?_)))
 refine r_nil ?_
 refine w_ret ?_
 cases hF
 exact eR

def c42 : MC := (.seq (.reg [rg 4 (.p true (.mv (.c (.int .i64 0))))]) (.seq (.reg [mvt 7 0, rg 8 (.call true 53 [(.t 7)]), mvt 5 8]) (.seq (.reg [mvt 9 1, rg 10 (.call true 53 [(.t 9)]), mvt 6 10]) (.seq (.seq (.reg [mvt 11 5]) (.cond (.t 11) (.seq (.seq (.reg [mvt 12 6]) (.cond (.t 12) (.seq (.reg [rg 4 (.p true (.mv (.c (.int .i64 0))))]) .ret) .skip)) (.seq (.reg [rg 4 (.p true (.mv (.c (.int .i64 (-1)))))]) .ret)) .skip)) (.seq (.seq (.reg [mvt 13 6]) (.cond (.t 13) (.seq (.reg [rg 4 (.p true (.mv (.c (.int .i64 1))))]) .ret) .skip)) (.seq (.seq (.reg [mvt 14 0, mvt 15 1, rg 16 (.p true (.bin .lss (.t 14) (.t 15)))]) (.cond (.t 16) (.seq (.reg [rg 4 (.p true (.mv (.c (.int .i64 (-1)))))]) .ret) .skip)) (.seq (.seq (.reg [mvt 17 0, mvt 18 1, rg 19 (.p true (.bin .gtr (.t 17) (.t 18)))]) (.cond (.t 19) (.seq (.reg [rg 4 (.p true (.mv (.c (.int .i64 1))))]) .ret) .skip)) (.seq (.reg [rg 4 (.p true (.mv (.c (.int .i64 0))))]) .ret))))))))
theorem c42_is : compFn Try.prog 42 = some (c42, [(.tmp 4)]) := by kernel_rfl
theorem c42_ok : okFn Try.prog 42 = true := by kernel_rfl

noncomputable def F_cmp_Compare_int64 (v0 : Int) (v1 : Int) : Option (Int) :=
 ((F_cmp_isNaN_int64 v0).bind fun v1000 => ((F_cmp_isNaN_int64 v1).bind fun v1001 => (bif v1000 then (bif v1001 then some 0
 else some (-1))
 else (bif v1001 then some 1
 else (bif (decide (v0 < v1)) then some (-1)
 else (bif (decide (v1 < v0)) then some 1
 else some 0))))))
@[simp] def res_cmp_Compare_int64 (r : Int) : RV := .one (.one (.val (.int .i64 r)))
theorem con_cmp_Compare_int64 {v0 : Int} {v1 : Int} {r : Int} (hF : F_cmp_Compare_int64 v0 v1 = some r) : Con Try.prog 42 [.int .i64 v0, .int .i64 v1] (res_cmp_Compare_int64 r) := by
 unfold F_cmp_Compare_int64 at hF
 refine con_of c42_is fun N => ?_
 refine ws 0 64 ?_
 refine qp (AI 0) rfl ?_
 refine r_nil ?_
 refine ws 64 256 ?_
 refine qp (AI v0) rfl ?_
 obtain ⟨v1000, e1000, hF⟩ := bind_get hF
 refine qc (AB v1000) [] false (con_cmp_isNaN_int64 e1000) c53_ok (by first | rfl | simp) rfl ?_
 refine qp (AB v1000) rfl ?_
 refine r_nil ?_
 refine ws 256 448 ?_
 refine qp (AI v1) rfl ?_
 obtain ⟨v1001, e1001, hF⟩ := bind_get hF
 refine qc (AB v1001) [] false (con_cmp_isNaN_int64 e1001) c53_ok (by first | rfl | simp) rfl ?_
 refine qp (AB v1001) rfl ?_
 refine r_nil ?_
 refine w_seq ?_
 refine ws 448 512 ?_
 refine qp (AB v1000) rfl ?_
 refine r_nil ?_
 refine cF hF (fun hF => ?_) fun hF => ?_
 ·
  refine w_seq ?_
  refine ws 512 576 ?_
  refine qp (AB v1001) rfl ?_
  refine r_nil ?_
  refine cF hF (fun hF => ?_) fun hF => ?_
  ·
   refine ws 576 640 ?_
   refine qp (AI 0) rfl ?_
   refine r_nil ?_
   refine w_ret ?_
   refine thenQ_r ?_
   refine thenQ_r ?_
   cases hF
   exact eR
  ·
   refine w_skip ?_
   refine thenQ_n ?_
   refine ws 576 640 ?_
   refine qp (AI (-1)) rfl ?_
   refine r_nil ?_
   refine w_ret ?_
   refine thenQ_r ?_
   cases hF
   exact eR
 ·
  refine w_skip ?_
  refine thenQ_n ?_
  refine w_seq ?_
  refine ws 512 576 ?_
  refine qp (AB v1001) rfl ?_
  refine r_nil ?_
  refine cF hF (fun hF => ?_) fun hF => ?_
  ·
   refine ws 576 640 ?_
   refine qp (AI 1) rfl ?_
   refine r_nil ?_
   refine w_ret ?_
   refine thenQ_r ?_
   cases hF
   exact eR
  ·
   refine w_skip ?_
   refine thenQ_n ?_
   refine w_seq ?_
   refine ws 576 768 ?_
   refine qp (AI v0) rfl (qp (AI v1) rfl (qp (AB (decide (v0 < v1))) rfl ?_))
   refine r_nil ?_
   refine cF hF (fun hF => ?_) fun hF => ?_
   ·
    refine ws 768 832 ?_
    refine qp (AI (-1)) rfl ?_
    refine r_nil ?_
    refine w_ret ?_
    refine thenQ_r ?_
    cases hF
    exact eR
   ·
    refine w_skip ?_
    refine thenQ_n ?_
    refine w_seq ?_
    refine ws 768 960 ?_
    refine qp (AI v0) rfl (qp (AI v1) rfl (qp (AB (decide (v1 < v0))) rfl ?_))
    refine r_nil ?_
    refine cF hF (fun hF => ?_) fun hF => ?_
    ·
     refine ws 960 1024 ?_
     refine qp (AI 1) rfl ?_
     refine r_nil ?_
     refine w_ret ?_
     refine thenQ_r ?_
     cases hF
     exact eR
    ·
     refine w_skip ?_
     refine thenQ_n ?_
     refine ws 960 1024 ?_
     refine qp (AI 0) rfl ?_
     refine r_nil ?_
     refine w_ret ?_
     cases hF
     exact eR

def c54 : MC := (.seq (.reg [rg 2 (.p true (.mv (.c (.bool false))))]) (.seq (.reg [mvt 3 0, mvt 4 0, rg 5 (.p true (.bin .neq (.t 3) (.t 4))), mvt 2 5]) .ret))
theorem c54_is : compFn Try.prog 54 = some (c54, [(.tmp 2)]) := by kernel_rfl
theorem c54_ok : okFn Try.prog 54 = true := by kernel_rfl

noncomputable def F_cmp_isNaN_string (v0 : List UInt8) : Option (Bool) :=
 some (decide (v0 ≠ v0))
@[simp] def res_cmp_isNaN_string (r : Bool) : RV := .one (.one (.val (.bool r)))
theorem con_cmp_isNaN_string {v0 : List UInt8} {r : Bool} (hF : F_cmp_isNaN_string v0 = some r) : Con Try.prog 54 [.str v0] (res_cmp_isNaN_string r) := by
 unfold F_cmp_isNaN_string at hF
 refine con_of c54_is fun N => ?_
 refine ws 0 64 ?_
 refine qp (AB false) rfl ?_
 refine r_nil ?_
 refine ws 64 320 ?_
 refine qp (AS v0) rfl (qp (AS v0) rfl (qp (AB (decide (v0 ≠ v0))) rfl (qp (AB (decide (v0 ≠ v0))) rfl ?_)))
 refine r_nil ?_
 refine w_ret ?_
 cases hF
 exact eR

def c43 : MC := (.seq (.reg [rg 4 (.p true (.mv (.c (.int .i64 0))))]) (.seq (.reg [mvt 7 0, rg 8 (.call true 54 [(.t 7)]), mvt 5 8]) (.seq (.reg [mvt 9 1, rg 10 (.call true 54 [(.t 9)]), mvt 6 10]) (.seq (.seq (.reg [mvt 11 5]) (.cond (.t 11) (.seq (.seq (.reg [mvt 12 6]) (.cond (.t 12) (.seq (.reg [rg 4 (.p true (.mv (.c (.int .i64 0))))]) .ret) .skip)) (.seq (.reg [rg 4 (.p true (.mv (.c (.int .i64 (-1)))))]) .ret)) .skip)) (.seq (.seq (.reg [mvt 13 6]) (.cond (.t 13) (.seq (.reg [rg 4 (.p true (.mv (.c (.int .i64 1))))]) .ret) .skip)) (.seq (.seq (.reg [mvt 14 0, mvt 15 1, rg 16 (.p true (.bin .lss (.t 14) (.t 15)))]) (.cond (.t 16) (.seq (.reg [rg 4 (.p true (.mv (.c (.int .i64 (-1)))))]) .ret) .skip)) (.seq (.seq (.reg [mvt 17 0, mvt 18 1, rg 19 (.p true (.bin .gtr (.t 17) (.t 18)))]) (.cond (.t 19) (.seq (.reg [rg 4 (.p true (.mv (.c (.int .i64 1))))]) .ret) .skip)) (.seq (.reg [rg 4 (.p true (.mv (.c (.int .i64 0))))]) .ret))))))))
theorem c43_is : compFn Try.prog 43 = some (c43, [(.tmp 4)]) := by kernel_rfl
theorem c43_ok : okFn Try.prog 43 = true := by kernel_rfl

noncomputable def F_cmp_Compare_string (v0 : List UInt8) (v1 : List UInt8) : Option (Int) :=
 ((F_cmp_isNaN_string v0).bind fun v1000 => ((F_cmp_isNaN_string v1).bind fun v1001 => (bif v1000 then (bif v1001 then some 0
 else some (-1))
 else (bif v1001 then some 1
 else (bif (Op.bytesLess v0 v1) then some (-1)
 else (bif (!(Op.bytesLess v0 v1 || decide (v0 = v1))) then some 1
 else some 0))))))
@[simp] def res_cmp_Compare_string (r : Int) : RV := .one (.one (.val (.int .i64 r)))
theorem con_cmp_Compare_string {v0 : List UInt8} {v1 : List UInt8} {r : Int} (hF : F_cmp_Compare_string v0 v1 = some r) : Con Try.prog 43 [.str v0, .str v1] (res_cmp_Compare_string r) := by
 unfold F_cmp_Compare_string at hF
 refine con_of c43_is fun N => ?_
 refine ws 0 64 ?_
 refine qp (AI 0) rfl ?_
 refine r_nil ?_
 refine ws 64 256 ?_
 refine qp (AS v0) rfl ?_
 obtain ⟨v1000, e1000, hF⟩ := bind_get hF
 refine qc (AB v1000) [] false (con_cmp_isNaN_string e1000) c54_ok (by first | rfl | simp) rfl ?_
 refine qp (AB v1000) rfl ?_
 refine r_nil ?_
 refine ws 256 448 ?_
 refine qp (AS v1) rfl ?_
 obtain ⟨v1001, e1001, hF⟩ := bind_get hF
 refine qc (AB v1001) [] false (con_cmp_isNaN_string e1001) c54_ok (by first | rfl | simp) rfl ?_
 refine qp (AB v1001) rfl ?_
 refine r_nil ?_
 refine w_seq ?_
 refine ws 448 512 ?_
 refine qp (AB v1000) rfl ?_
 refine r_nil ?_
 refine cF hF (fun hF => ?_) fun hF => ?_
 ·
  refine w_seq ?_
  refine ws 512 576 ?_
  refine qp (AB v1001) rfl ?_
  refine r_nil ?_
  refine cF hF (fun hF => ?_) fun hF => ?_
  ·
   refine ws 576 640 ?_
   refine qp (AI 0) rfl ?_
   refine r_nil ?_
   refine w_ret ?_
   refine thenQ_r ?_
   refine thenQ_r ?_
   cases hF
   exact eR
  ·
   refine w_skip ?_
   refine thenQ_n ?_
   refine ws 576 640 ?_
   refine qp (AI (-1)) rfl ?_
   refine r_nil ?_
   refine w_ret ?_
   refine thenQ_r ?_
   cases hF
   exact eR
 ·
  refine w_skip ?_
  refine thenQ_n ?_
  refine w_seq ?_
  refine ws 512 576 ?_
  refine qp (AB v1001) rfl ?_
  refine r_nil ?_
  refine cF hF (fun hF => ?_) fun hF => ?_
  ·
   refine ws 576 640 ?_
   refine qp (AI 1) rfl ?_
   refine r_nil ?_
   refine w_ret ?_
   refine thenQ_r ?_
   cases hF
   exact eR
  ·
   refine w_skip ?_
   refine thenQ_n ?_
   refine w_seq ?_
   refine ws 576 768 ?_
   refine qp (AS v0) rfl (qp (AS v1) rfl (qp (AB (Op.bytesLess v0 v1)) rfl ?_))
   refine r_nil ?_
   refine cF hF (fun hF => ?_) fun hF => ?_
   ·
    refine ws 768 832 ?_
    refine qp (AI (-1)) rfl ?_
    refine r_nil ?_
    refine w_ret ?_
    refine thenQ_r ?_
    cases hF
    exact eR
   ·
    refine w_skip ?_
    refine thenQ_n ?_
    refine w_seq ?_
    refine ws 768 960 ?_
    refine qp (AS v0) rfl (qp (AS v1) rfl (qp (AB (!(Op.bytesLess v0 v1 || decide (v0 = v1)))) rfl ?_))
    refine r_nil ?_
    refine cF hF (fun hF => ?_) fun hF => ?_
    ·
     refine ws 960 1024 ?_
     refine qp (AI 1) rfl ?_
     refine r_nil ?_
     refine w_ret ?_
     refine thenQ_r ?_
     cases hF
     exact eR
    ·
     refine w_skip ?_
     refine thenQ_n ?_
     refine ws 960 1024 ?_
     refine qp (AI 0) rfl ?_
     refine r_nil ?_
     refine w_ret ?_
     cases hF
     exact eR

def c41 : MC := (.seq (.reg [rg 2 (.p true (.mv (.c (.int .i64 0))))]) (.seq (.reg [rg 3 (.p true (.mv (.c (.int .i64 0))))]) (.seq (.seq (.reg [mvt 6 0, rg 7 (.p true (.len (.t 6))), rg 8 (.p true (.mv (.c (.int .i64 0))))]) (.block 0 (.loop (.seq (.reg [rg 9 (.p true (.bin .lss (.t 8) (.t 7)))]) (.seq (.cond (.t 9) .skip (.exit 0)) (.seq (.block 1 (.seq (.reg [rg 10 (.p true (.iad (.t 6) (.t 8) 1)), rg 11 (.p true (.ld (.t 10) 1 false)), mvt 5 11]) (.seq (.reg [mvt 12 5, mvt 13 3, rg 14 (.p true (.bin .neq (.t 12) (.t 13)))]) (.cond (.t 14) (.seq (.reg [mvt 15 5, mvt 2 15]) .ret) .skip)))) (.reg [rg 16 (.p true (.bin .add (.t 8) (.c (.int .i64 1)))), mvt 8 16]))))))) (.seq (.reg [mvt 17 3, mvt 2 17]) .ret))))
theorem c41_is : compFn Try.prog 41 = some (c41, [(.tmp 2)]) := by kernel_rfl
theorem c41_ok : okFn Try.prog 41 = true := by kernel_rfl

noncomputable def F_cmp_Or_int_l0 (v0 : List Int) (k0 : Int → Option (Int)) : Int → Option (Int)
 | v50001 => (bif (decide (v50001 < (v0.length : Int))) then ((ix v0 v50001).bind fun v1000 => (bif (decide (v1000 ≠ (0 : Int))) then some v1000
 else k0 (w64 (v50001 + 1))))
 else some 0)
noncomputable def F_cmp_Or_int (v0 : List Int) : Option (Int) :=
 loop (F_cmp_Or_int_l0 v0) 0
@[simp] def res_cmp_Or_int (r : Int) : RV := .one (.one (.val (.int .i64 r)))
theorem con_cmp_Or_int {v0 : List Int} {r : Int} (hF : F_cmp_Or_int v0 = some r) : Con Try.prog 41 [.sl 1 (v0.map vI)] (res_cmp_Or_int r) := by
 unfold F_cmp_Or_int at hF
 refine con_of c41_is fun N => ?_
 refine ws 0 64 ?_
 refine qp (AI 0) rfl ?_
 refine r_nil ?_
 refine ws 64 128 ?_
 refine qp (AI 0) rfl ?_
 refine r_nil ?_
 refine w_seq ?_
 refine ws 128 320 ?_
 refine qp (AL 1 (v0.map vI)) rfl (qp (AI (v0.length : Int)) (ev_len_n rfl) (qp (AI 0) rfl ?_))
 refine r_nil ?_
 refine w_block ?_
 refine wr (l' := [(3, AI 0), (6, AL 1 (v0.map vI)), (7, AI (v0.length : Int)), (8, AI 0)]) (L := []) [3, 6, 7, 8] [] 1 ?_
 refine w_loopF (F_cmp_Or_int_l0 v0) (fun s : Int => mkS [(3, AI 0), (6, AL 1 (v0.map vI)), (7, AI (v0.length : Int)), (8, AI s)] (fo []) 1) hF ?_
 rintro k0 v50001 hF
 rw [F_cmp_Or_int_l0] at hF
 try dsimp only
 refine ws 1 65 ?_
 refine qp (AB (decide (v50001 < (v0.length : Int)))) rfl ?_
 refine r_nil ?_
 refine w_seq ?_
 refine cF hF (fun hF => ?_) fun hF => ?_
 ·
  refine w_skip ?_
  refine thenQ_n ?_
  refine w_seq ?_
  refine w_block ?_
  refine ws 65 257 ?_
  obtain ⟨v1000, e1000, hF⟩ := bind_get hF
  refine qp (.val none (.ptr [.int .i64 v1000])) (ev_iad_n rfl rfl e1000 rfl) (qp (AI v1000) rfl (qp (AI v1000) rfl ?_))
  refine r_nil ?_
  refine ws 257 449 ?_
  refine qp (AI v1000) rfl (qp (AI 0) rfl (qp (AB (decide (v1000 ≠ (0 : Int)))) rfl ?_))
  refine r_nil ?_
  refine cF hF (fun hF => ?_) fun hF => ?_
  ·
   refine ws 449 577 ?_
   refine qp (AI v1000) rfl (qp (AI v1000) rfl ?_)
   refine r_nil ?_
   refine w_ret ?_
   refine blockQ_r ?_
   refine thenQ_r ?_
   refine thenQ_r ?_
   refine blockQ_r ?_
   refine thenQ_r ?_
   cases hF
   exact eR
  ·
   refine w_skip ?_
   refine blockQ_n ?_
   refine thenQ_n ?_
   refine w_reg 449 577 rfl rfl ?_
   refine qp (AI (w64 (v50001 + 1))) rfl (qp (AI (w64 (v50001 + 1))) rfl ?_)
   refine r_nil ?_
   refine thenQ_n ?_
   refine ar (l' := [(3, AI 0), (6, AL 1 (v0.map vI)), (7, AI (v0.length : Int)), (8, AI (w64 (v50001 + 1)))]) (L := []) [3, 6, 7, 8] [] 1 ⟨_, by rfl, hF⟩
 ·
  refine w_exit ?_
  refine thenQ_e ?_
  refine thenQ_e ?_
  refine blockQ_e ?_
  refine thenQ_n ?_
  refine ws 65 193 ?_
  refine qp (AI 0) rfl (qp (AI 0) rfl ?_)
  refine r_nil ?_
  refine w_ret ?_
  cases hF
  exact eR

def c27 : MC := (.seq (.reg [rg 2 (.f (.box (.t 0))), rg 3 (.f (.box (.t 1))), rg 4 (.p true (.mv (.c (.int .i64 0))))]) (.seq (.reg [rg 5 (.p false (.fad (.t 2) 1)), rg 6 (.p false (.ld (.t 5) 1 false)), rg 7 (.p false (.fad (.t 3) 1)), rg 8 (.p false (.ld (.t 7) 1 false)), rg 9 (.call false 42 [(.t 6), (.t 8)]), rg 10 (.p false (.fad (.t 2) 0)), rg 11 (.p false (.ld (.t 10) 1 false)), rg 12 (.p false (.fad (.t 3) 0)), rg 13 (.p false (.ld (.t 12) 1 false)), rg 14 (.call false 43 [(.t 11), (.t 13)]), rg 15 (.p false (.fad (.t 2) 2)), rg 16 (.p false (.ld (.t 15) 1 false)), rg 17 (.p false (.fad (.t 3) 2)), rg 18 (.p false (.ld (.t 17) 1 false)), rg 19 (.call false 42 [(.t 16), (.t 18)]), rg 20 (.f (.bsl 1 [(.t 9), (.t 14), (.t 19)])), rg 21 (.call false 41 [(.t 20)]), rg 4 (.p false (.mv (.t 21)))]) .ret))
theorem c27_is : compFn Try.prog 27 = some (c27, [(.tmp 4)]) := by kernel_rfl
theorem c27_ok : okFn Try.prog 27 = true := by kernel_rfl

noncomputable def F_impl_compareTurns (v0 : TTurn) (v1 : TTurn) : Option (Int) :=
 ((F_cmp_Compare_int64 v0.2.1 v1.2.1).bind fun v1000 => ((F_cmp_Compare_string v0.1 v1.1).bind fun v1001 => ((F_cmp_Compare_int64 v0.2.2 v1.2.2).bind fun v1002 => ((F_cmp_Or_int [v1000, v1001, v1002]).bind fun v1003 => some v1003))))
@[simp] def res_impl_compareTurns (r : Int) : RV := .one (.one (.val (.int .i64 r)))
theorem con_impl_compareTurns {v0 : TTurn} {v1 : TTurn} {r : Int} (hF : F_impl_compareTurns v0 v1 = some r) : Con Try.prog 27 [eTurn v0, eTurn v1] (res_impl_compareTurns r) := by
 unfold F_impl_compareTurns at hF
 refine con_of c27_is fun N => ?_
 refine ws 0 192 ?_
 refine qf (.ptr 0 0 0) [(0, .box [AS v0.1, AI v0.2.1, AI v0.2.2])] (by simp) ?_
 refine qf (.ptr 64 0 0) [(64, .box [AS v1.1, AI v1.2.1, AI v1.2.2]), (0, .box [AS v0.1, AI v0.2.1, AI v0.2.2])] (by simp) ?_
 refine qp (AI 0) rfl ?_
 refine r_nil ?_
 refine ws 192 1344 ?_
 refine qp (.ptr 0 0 1) rfl (qp (AI v0.2.1) rfl (qp (.ptr 64 0 1) rfl (qp (AI v1.2.1) rfl ?_)))
 obtain ⟨v1000, e1000, hF⟩ := bind_get hF
 refine qc (AI v1000) [(64, .box [AS v1.1, AI v1.2.1, AI v1.2.2]), (0, .box [AS v0.1, AI v0.2.1, AI v0.2.2])] false (con_cmp_Compare_int64 e1000) c42_ok (by first | rfl | simp) rfl ?_
 refine qp (.ptr 0 0 0) rfl (qp (AS v0.1) rfl (qp (.ptr 64 0 0) rfl (qp (AS v1.1) rfl ?_)))
 obtain ⟨v1001, e1001, hF⟩ := bind_get hF
 refine qc (AI v1001) [(64, .box [AS v1.1, AI v1.2.1, AI v1.2.2]), (0, .box [AS v0.1, AI v0.2.1, AI v0.2.2])] false (con_cmp_Compare_string e1001) c43_ok (by first | rfl | simp) rfl ?_
 refine qp (.ptr 0 0 2) rfl (qp (AI v0.2.2) rfl (qp (.ptr 64 0 2) rfl (qp (AI v1.2.2) rfl ?_)))
 obtain ⟨v1002, e1002, hF⟩ := bind_get hF
 refine qc (AI v1002) [(64, .box [AS v1.1, AI v1.2.1, AI v1.2.2]), (0, .box [AS v0.1, AI v0.2.1, AI v0.2.2])] false (con_cmp_Compare_int64 e1002) c42_ok (by first | rfl | simp) rfl ?_
 refine qf (.sl 1152 0 ([v1000, v1001, v1002].length)) [(1152, .row true 1 ([v1000, v1001, v1002].map vI)), (64, .box [AS v1.1, AI v1.2.1, AI v1.2.2]), (0, .box [AS v0.1, AI v0.2.1, AI v0.2.2])] (by simp [List.take_of_length_le]) ?_
 obtain ⟨v1003, e1003, hF⟩ := bind_get hF
 refine qc (AI v1003) [(1152, .row true 1 ([v1000, v1001, v1002].map vI)), (64, .box [AS v1.1, AI v1.2.1, AI v1.2.2]), (0, .box [AS v0.1, AI v0.2.1, AI v0.2.2])] true (con_cmp_Or_int e1003) c41_ok (by simp [List.take_of_length_le]) rfl ?_
 refine qp (AI v1003) rfl ?_
 refine r_nil ?_
 refine w_ret ?_
 cases hF
 exact eR

def c18 : MC := (.seq (.reg [rg 2 (.p true (.mv (.c (.bool false))))]) (.seq (.seq (.reg [mvt 5 0, rg 6 (.p true (.len (.t 5))), rg 7 (.p true (.bin .gtr (.t 6) (.c (.int .i64 24))))]) (.cond (.t 7) (.seq (.reg [rg 2 (.p true (.mv (.c (.bool false))))]) .ret) .skip)) (.seq (.seq (.reg [mvt 8 0, rg 9 (.p true (.len (.t 8))), rg 10 (.p true (.mv (.c (.int .i64 0))))]) (.block 0 (.loop (.seq (.reg [rg 11 (.p true (.bin .lss (.t 10) (.t 9)))]) (.seq (.cond (.t 11) .skip (.exit 0)) (.seq (.block 1 (.seq (.reg [mvt 12 10, rg 13 (.p true (.iad (.t 8) (.t 10) 3)), rg 14 (.p true (.ld (.t 13) 3 true)), rg 4 (.f (.alloc [((.str []), (0, false)), ((.int .i64 0), (0, false)), ((.int .i64 0), (0, false))])), mvt 3 12, ⟨none, none, (.f (.st (.t 4) (.t 14) 3))⟩]) (.seq (.reg [rg 15 (.p false (.ld (.t 4) 3 true)), rg 16 (.call false 25 [(.t 15)]), rg 17 (.p false (.not (.t 16))), rg 18 (.p false (.mv (.t 17))), ⟨(some 19), (some (18, false)), (.p false (.mv (.t 3)))⟩, ⟨(some 20), (some (18, false)), (.p false (.bin .gtr (.t 19) (.c (.int .i64 0))))⟩, ⟨(some 21), (some (18, false)), (.p false (.mv (.t 20)))⟩, ⟨(some 22), (some (21, true)), (.p false (.mv (.t 0)))⟩, ⟨(some 23), (some (21, true)), (.p false (.mv (.t 3)))⟩, ⟨(some 24), (some (21, true)), (.p false (.bin .sub (.t 23) (.c (.int .i64 1))))⟩, ⟨(some 25), (some (21, true)), (.p false (.iad (.t 22) (.t 24) 3))⟩, ⟨(some 26), (some (21, true)), (.p false (.ld (.t 25) 3 true))⟩, ⟨(some 27), (some (21, true)), (.p false (.ld (.t 4) 3 true))⟩, ⟨(some 28), (some (21, true)), (.call false 27 [(.t 26), (.t 27)])⟩, ⟨(some 29), (some (21, true)), (.p false (.bin .geq (.t 28) (.c (.int .i64 0))))⟩, ⟨(some 30), (some (18, false)), (.p false (.pick (.t 21) (.t 29) (.c (.bool false))))⟩, rg 31 (.p false (.pick (.t 18) (.c (.bool true)) (.t 30)))]) (.cond (.t 31) (.seq (.reg [rg 2 (.p true (.mv (.c (.bool false))))]) .ret) .skip)))) (.reg [rg 32 (.p true (.bin .add (.t 10) (.c (.int .i64 1)))), mvt 10 32]))))))) (.seq (.reg [rg 2 (.p true (.mv (.c (.bool true))))]) .ret))))
theorem c18_is : compFn Try.prog 18 = some (c18, [(.tmp 2)]) := by kernel_rfl
theorem c18_ok : okFn Try.prog 18 = true := by kernel_rfl

noncomputable def F_impl_ValidTurns_l0 (v0 : List TTurn) (k0 : Int → Option (Bool)) : Int → Option (Bool)
 | v50001 => (bif (decide (v50001 < (v0.length : Int))) then ((ix v0 v50001).bind fun v1000 => ((F_impl_Turn_valid v1000).bind fun v1001 => (bif (!v1001) then some false
 else (bif (decide ((0 : Int) < v50001)) then ((ix v0 (w64 (v50001 - 1))).bind fun v1002 => ((F_impl_compareTurns v1002 v1000).bind fun v1003 => (bif (decide ((0 : Int) ≤ v1003)) then some false
 else k0 (w64 (v50001 + 1)))))
 else k0 (w64 (v50001 + 1))))))
 else some true)
noncomputable def F_impl_ValidTurns (v0 : List TTurn) : Option (Bool) :=
 (bif (decide ((24 : Int) < (v0.length : Int))) then some false
 else loop (F_impl_ValidTurns_l0 v0) 0)
@[simp] def res_impl_ValidTurns (r : Bool) : RV := .one (.one (.val (.bool r)))
theorem con_impl_ValidTurns {v0 : List TTurn} {r : Bool} (hF : F_impl_ValidTurns v0 = some r) : Con Try.prog 18 [.sl 3 (v0.map eTurn)] (res_impl_ValidTurns r) := by
 unfold F_impl_ValidTurns at hF
 refine con_of c18_is fun N => ?_
 refine ws 0 64 ?_
 refine qp (AB false) rfl ?_
 refine r_nil ?_
 refine w_seq ?_
 refine ws 64 256 ?_
 refine qp (AL 3 (v0.map eTurn)) rfl (qp (AI (v0.length : Int)) (ev_len_n rfl) (qp (AB (decide ((24 : Int) < (v0.length : Int)))) rfl ?_))
 refine r_nil ?_
 refine cF hF (fun hF => ?_) fun hF => ?_
 ·
  refine ws 256 320 ?_
  refine qp (AB false) rfl ?_
  refine r_nil ?_
  refine w_ret ?_
  refine thenQ_r ?_
  cases hF
  exact eR
 ·
  refine w_skip ?_
  refine thenQ_n ?_
  refine w_seq ?_
  refine ws 256 448 ?_
  refine qp (AL 3 (v0.map eTurn)) rfl (qp (AI (v0.length : Int)) (ev_len_n rfl) (qp (AI 0) rfl ?_))
  refine r_nil ?_
  refine w_block ?_
  refine wr (l' := [(0, AL 3 (v0.map eTurn)), (8, AL 3 (v0.map eTurn)), (9, AI (v0.length : Int)), (10, AI 0)]) (L := []) [0, 8, 9, 10] [] 1 ?_
  refine w_loopF (F_impl_ValidTurns_l0 v0) (fun s : Int => mkS [(0, AL 3 (v0.map eTurn)), (8, AL 3 (v0.map eTurn)), (9, AI (v0.length : Int)), (10, AI s)] (fo []) 1) hF ?_
  rintro k0 v50001 hF
  rw [F_impl_ValidTurns_l0] at hF
  try dsimp only
  refine ws 1 65 ?_
  refine qp (AB (decide (v50001 < (v0.length : Int)))) rfl ?_
  refine r_nil ?_
  refine w_seq ?_
  refine cF hF (fun hF => ?_) fun hF => ?_
  ·
   refine w_skip ?_
   refine thenQ_n ?_
   refine w_seq ?_
   refine w_block ?_
   refine ws 65 449 ?_
   refine qp (AI v50001) rfl ?_
   obtain ⟨v1000, e1000, hF⟩ := bind_get hF
   refine qp (.val none (.ptr [.str v1000.1, .int .i64 v1000.2.1, .int .i64 v1000.2.2])) (ev_iad_n rfl rfl e1000 rfl) (qp (.val none (eTurn v1000)) rfl ?_)
   refine qf (.ptr 257 0 0) [(257, .box [AS [], AI 0, AI 0])] (by simp) ?_
   refine qp (AI v50001) rfl ?_
   refine qf0 (.undef) [(257, .box [AS v1000.1, AI v1000.2.1, AI v1000.2.2]), (257, .box [AS [], AI 0, AI 0])] (by simp) ?_
   refine r_nil ?_
   refine ws 449 1537 ?_
   refine qp (.agg [AS v1000.1, AI v1000.2.1, AI v1000.2.2]) rfl ?_
   obtain ⟨v1001, e1001, hF⟩ := bind_get hF
   refine qc (AB v1001) [(257, .box [AS v1000.1, AI v1000.2.1, AI v1000.2.2]), (257, .box [AS [], AI 0, AI 0])] false (con_impl_Turn_valid e1001) c25_ok (by first | rfl | simp) rfl ?_
   refine qp (AB (!v1001)) rfl (qp (AB (!v1001)) rfl ?_)
   refine q_case 18 hF rfl (fun hF => ?_) (fun hF => ?_)
   ·
    refine qn rfl (qn rfl (qn rfl (qu rfl (qu rfl (qu rfl (qu rfl (qu rfl ?_)))))))
    refine qu rfl (qu rfl (qu rfl (qn rfl (qp (AB true) rfl ?_))))
    refine r_nil ?_
    refine w_true rfl ?_
    refine ws 1537 1601 ?_
    refine qp (AB false) rfl ?_
    refine r_nil ?_
    refine w_ret ?_
    refine blockQ_r ?_
    refine thenQ_r ?_
    refine thenQ_r ?_
    refine blockQ_r ?_
    refine thenQ_r ?_
    cases hF
    exact eR
   ·
    refine qg (AI v50001) rfl rfl (qg (AB (decide ((0 : Int) < v50001))) rfl rfl (qg (AB (decide ((0 : Int) < v50001))) rfl rfl ?_))
    refine q_case 21 hF rfl (fun hF => ?_) (fun hF => ?_)
    ·
     refine qg (AL 3 (v0.map eTurn)) rfl rfl (qg (AI v50001) rfl rfl (qg (AI (w64 (v50001 - 1))) rfl rfl ?_))
     obtain ⟨v1002, e1002, hF⟩ := bind_get hF
     refine qg (.val none (.ptr [.str v1002.1, .int .i64 v1002.2.1, .int .i64 v1002.2.2])) rfl (ev_iad_n rfl rfl e1002 rfl) (qg (.val none (eTurn v1002)) rfl rfl (qg (.agg [AS v1000.1, AI v1000.2.1, AI v1000.2.2]) rfl rfl ?_))
     obtain ⟨v1003, e1003, hF⟩ := bind_get hF
     refine qcg (AI v1003) [(257, .box [AS v1000.1, AI v1000.2.1, AI v1000.2.2]), (257, .box [AS [], AI 0, AI 0])] false rfl (con_impl_compareTurns e1003) c27_ok (by first | rfl | simp) rfl ?_
     refine qg (AB (decide ((0 : Int) ≤ v1003))) rfl rfl (qg (AB (decide ((0 : Int) ≤ v1003))) rfl rfl (qp (AB (decide ((0 : Int) ≤ v1003))) rfl ?_))
     refine r_nil ?_
     refine cF hF (fun hF => ?_) fun hF => ?_
     ·
      refine ws 1537 1601 ?_
      refine qp (AB false) rfl ?_
      refine r_nil ?_
      refine w_ret ?_
      refine blockQ_r ?_
      refine thenQ_r ?_
      refine thenQ_r ?_
      refine blockQ_r ?_
      refine thenQ_r ?_
      cases hF
      exact eR
     ·
      refine w_skip ?_
      refine blockQ_n ?_
      refine thenQ_n ?_
      refine w_reg 1537 1665 rfl rfl ?_
      refine qp (AI (w64 (v50001 + 1))) rfl (qp (AI (w64 (v50001 + 1))) rfl ?_)
      refine r_nil ?_
      refine thenQ_n ?_
      refine ar (l' := [(0, AL 3 (v0.map eTurn)), (8, AL 3 (v0.map eTurn)), (9, AI (v0.length : Int)), (10, AI (w64 (v50001 + 1)))]) (L := []) [0, 8, 9, 10] [] 1 ⟨_, by rfl, hF⟩
    ·
     refine qn rfl (qn rfl (qn rfl (qn rfl (qn rfl (qn rfl (qn rfl (qn rfl ?_)))))))
     refine qg (AB false) rfl rfl (qp (AB false) rfl ?_)
     refine r_nil ?_
     refine w_false rfl ?_
     refine w_skip ?_
     refine blockQ_n ?_
     refine thenQ_n ?_
     refine w_reg 1537 1665 rfl rfl ?_
     refine qp (AI (w64 (v50001 + 1))) rfl (qp (AI (w64 (v50001 + 1))) rfl ?_)
     refine r_nil ?_
     refine thenQ_n ?_
     refine ar (l' := [(0, AL 3 (v0.map eTurn)), (8, AL 3 (v0.map eTurn)), (9, AI (v0.length : Int)), (10, AI (w64 (v50001 + 1)))]) (L := []) [0, 8, 9, 10] [] 1 ⟨_, by rfl, hF⟩
  ·
   refine w_exit ?_
   refine thenQ_e ?_
   refine thenQ_e ?_
   refine blockQ_e ?_
   refine thenQ_n ?_
   refine ws 65 129 ?_
   refine qp (AB true) rfl ?_
   refine r_nil ?_
   refine w_ret ?_
   cases hF
   exact eR

def c38 : MC := (.seq (.reg [rg 1 (.f (.box (.t 0))), rg 2 (.p true (.mv (.c (.bool false))))]) (.seq (.reg [rg 3 (.p true (.fad (.t 1) 0)), rg 4 (.p true (.ld (.t 3) 1 false)), rg 5 (.call true 39 [(.t 4)]), rg 6 (.p true (.not (.t 5))), mvt 7 6, ⟨(some 8), (some (7, false)), (.p true (.fad (.t 1) 1))⟩, ⟨(some 9), (some (7, false)), (.p true (.ld (.t 8) 1 false))⟩, ⟨(some 10), (some (7, false)), (.call true 39 [(.t 9)])⟩, ⟨(some 11), (some (7, false)), (.p true (.not (.t 10)))⟩, rg 12 (.p true (.pick (.t 7) (.c (.bool true)) (.t 11))), mvt 13 12, ⟨(some 14), (some (13, false)), (.p true (.fad (.t 1) 2))⟩, ⟨(some 15), (some (13, false)), (.p true (.ld (.t 14) 1 false))⟩, ⟨(some 16), (some (13, false)), (.call true 21 [(.t 15), (.c (.int .i64 0)), (.c (.int .i64 10000))])⟩, ⟨(some 17), (some (13, false)), (.p true (.not (.t 16)))⟩, rg 18 (.p true (.pick (.t 13) (.c (.bool true)) (.t 17))), mvt 2 18]) .ret))
theorem c38_is : compFn Try.prog 38 = some (c38, [(.tmp 2)]) := by kernel_rfl
theorem c38_ok : okFn Try.prog 38 = true := by kernel_rfl

noncomputable def F_impl_answersOk_1 (v0 : TAnswer) : Option (Bool) :=
 ((F_impl_IsName v0.1).bind fun v1000 => (bif (!v1000) then some true
 else ((F_impl_IsName v0.2.1).bind fun v1001 => (bif (!v1001) then some true
 else ((F_impl_within v0.2.2 0 10000).bind fun v1002 => some (!v1002))))))
@[simp] def res_impl_answersOk_1 (r : Bool) : RV := .one (.one (.val (.bool r)))
theorem con_impl_answersOk_1 {v0 : TAnswer} {r : Bool} (hF : F_impl_answersOk_1 v0 = some r) : Con Try.prog 38 [eAnswer v0] (res_impl_answersOk_1 r) := by
 unfold F_impl_answersOk_1 at hF
 refine con_of c38_is fun N => ?_
 refine ws 0 128 ?_
 refine qf (.ptr 0 0 0) [(0, .box [AS v0.1, AS v0.2.1, AI v0.2.2])] (by simp) ?_
 refine qp (AB false) rfl ?_
 refine r_nil ?_
 refine ws 128 1216 ?_
 refine qp (.ptr 0 0 0) rfl (qp (AS v0.1) rfl ?_)
 obtain ⟨v1000, e1000, hF⟩ := bind_get hF
 refine qc (AB v1000) [(0, .box [AS v0.1, AS v0.2.1, AI v0.2.2])] false (con_impl_IsName e1000) c39_ok (by first | rfl | simp) rfl ?_
 refine qp (AB (!v1000)) rfl (qp (AB (!v1000)) rfl ?_)
 refine q_case 7 hF rfl (fun hF => ?_) (fun hF => ?_)
 ·
  refine qn rfl (qn rfl (qn rfl (qn rfl (qp (AB true) rfl (qp (AB true) rfl (qn rfl (qn rfl ?_)))))))
  refine qn rfl (qn rfl (qp (AB true) rfl (qp (AB true) rfl ?_)))
  refine r_nil ?_
  refine w_ret ?_
  cases hF
  exact eR
 ·
  refine qg (.ptr 0 0 1) rfl rfl (qg (AS v0.2.1) rfl rfl ?_)
  obtain ⟨v1001, e1001, hF⟩ := bind_get hF
  refine qcg (AB v1001) [(0, .box [AS v0.1, AS v0.2.1, AI v0.2.2])] false rfl (con_impl_IsName e1001) c39_ok (by first | rfl | simp) rfl ?_
  refine qg (AB (!v1001)) rfl rfl (qp (AB (!v1001)) rfl (qp (AB (!v1001)) rfl ?_))
  refine q_case 13 hF rfl (fun hF => ?_) (fun hF => ?_)
  ·
   refine qn rfl (qn rfl (qn rfl (qn rfl (qp (AB true) rfl (qp (AB true) rfl ?_)))))
   refine r_nil ?_
   refine w_ret ?_
   cases hF
   exact eR
  ·
   refine qg (.ptr 0 0 2) rfl rfl (qg (AI v0.2.2) rfl rfl ?_)
   obtain ⟨v1002, e1002, hF⟩ := bind_get hF
   refine qcg (AB v1002) [(0, .box [AS v0.1, AS v0.2.1, AI v0.2.2])] false rfl (con_impl_within e1002) c21_ok (by first | rfl | simp) rfl ?_
   refine qg (AB (!v1002)) rfl rfl (qp (AB (!v1002)) rfl (qp (AB (!v1002)) rfl ?_))
   refine r_nil ?_
   refine w_ret ?_
   cases hF
   exact eR

def c51 : MC := (.seq (.reg [rg 4 (.p true (.mv (.c (.int .i64 0))))]) (.seq (.seq (.reg [mvt 6 0, rg 7 (.p true (.len (.t 6))), rg 8 (.p true (.mv (.c (.int .i64 0))))]) (.block 0 (.loop (.seq (.reg [rg 9 (.p true (.bin .lss (.t 8) (.t 7)))]) (.seq (.cond (.t 9) .skip (.exit 0)) (.seq (.block 1 (.seq (.reg [mvt 10 8, mvt 5 10]) (.seq (.reg [mvt 11 1, mvt 12 0, mvt 13 5, rg 14 (.p true (.iad (.t 12) (.t 13) 3)), rg 15 (.p true (.ld (.t 14) 3 true)), rg 16 (.callv (.t 11) [(.t 15)])]) (.cond (.t 16) (.seq (.reg [mvt 17 5, mvt 4 17]) .ret) .skip)))) (.reg [rg 18 (.p true (.bin .add (.t 8) (.c (.int .i64 1)))), mvt 8 18]))))))) (.seq (.reg [rg 4 (.p true (.mv (.c (.int .i64 (-1)))))]) .ret)))
theorem c51_is : compFn Try.prog 51 = some (c51, [(.tmp 4)]) := by kernel_rfl
theorem c51_ok : okFn Try.prog 51 = true := by kernel_rfl

noncomputable def F_slices_IndexFunc_SAnswer_Answer_l0 (v0 : List TAnswer) (k0 : Int → Option (Int)) : Int → Option (Int)
 | v50001 => (bif (decide (v50001 < (v0.length : Int))) then ((ix v0 v50001).bind fun v1000 => ((F_impl_answersOk_1 v1000).bind fun v1001 => (bif v1001 then some v50001
 else k0 (w64 (v50001 + 1)))))
 else some (-1))
noncomputable def F_slices_IndexFunc_SAnswer_Answer (v0 : List TAnswer) : Option (Int) :=
 loop (F_slices_IndexFunc_SAnswer_Answer_l0 v0) 0
@[simp] def res_slices_IndexFunc_SAnswer_Answer (r : Int) : RV := .one (.one (.val (.int .i64 r)))
theorem con_slices_IndexFunc_SAnswer_Answer {v0 : List TAnswer} {r : Int} (hF : F_slices_IndexFunc_SAnswer_Answer v0 = some r) : Con Try.prog 51 [.sl 3 (v0.map eAnswer), .fn 38 []] (res_slices_IndexFunc_SAnswer_Answer r) := by
 unfold F_slices_IndexFunc_SAnswer_Answer at hF
 refine con_of c51_is fun N => ?_
 refine ws 0 64 ?_
 refine qp (AI 0) rfl ?_
 refine r_nil ?_
 refine w_seq ?_
 refine ws 64 256 ?_
 refine qp (AL 3 (v0.map eAnswer)) rfl (qp (AI (v0.length : Int)) (ev_len_n rfl) (qp (AI 0) rfl ?_))
 refine r_nil ?_
 refine w_block ?_
 refine wr (l' := [(0, AL 3 (v0.map eAnswer)), (1, .val none (.fn 38 [])), (7, AI (v0.length : Int)), (8, AI 0)]) (L := []) [0, 1, 7, 8] [] 1 ?_
 refine w_loopF (F_slices_IndexFunc_SAnswer_Answer_l0 v0) (fun s : Int => mkS [(0, AL 3 (v0.map eAnswer)), (1, .val none (.fn 38 [])), (7, AI (v0.length : Int)), (8, AI s)] (fo []) 1) hF ?_
 rintro k0 v50001 hF
 rw [F_slices_IndexFunc_SAnswer_Answer_l0] at hF
 try dsimp only
 refine ws 1 65 ?_
 refine qp (AB (decide (v50001 < (v0.length : Int)))) rfl ?_
 refine r_nil ?_
 refine w_seq ?_
 refine cF hF (fun hF => ?_) fun hF => ?_
 ·
  refine w_skip ?_
  refine thenQ_n ?_
  refine w_seq ?_
  refine w_block ?_
  refine ws 65 193 ?_
  refine qp (AI v50001) rfl (qp (AI v50001) rfl ?_)
  refine r_nil ?_
  refine ws 193 577 ?_
  refine qp (.val none (.fn 38 [])) rfl (qp (AL 3 (v0.map eAnswer)) rfl (qp (AI v50001) rfl ?_))
  obtain ⟨v1000, e1000, hF⟩ := bind_get hF
  refine qp (.val none (.ptr [.str v1000.1, .str v1000.2.1, .int .i64 v1000.2.2])) (ev_iad_n rfl rfl e1000 rfl) (qp (.val none (eAnswer v1000)) rfl ?_)
  obtain ⟨v1001, e1001, hF⟩ := bind_get hF
  refine qcv (AB v1001) [] false rfl (con_impl_answersOk_1 e1001) c38_ok (by first | rfl | simp) rfl ?_
  refine r_nil ?_
  refine cF hF (fun hF => ?_) fun hF => ?_
  ·
   refine ws 577 705 ?_
   refine qp (AI v50001) rfl (qp (AI v50001) rfl ?_)
   refine r_nil ?_
   refine w_ret ?_
   refine blockQ_r ?_
   refine thenQ_r ?_
   refine thenQ_r ?_
   refine blockQ_r ?_
   refine thenQ_r ?_
   cases hF
   exact eR
  ·
   refine w_skip ?_
   refine blockQ_n ?_
   refine thenQ_n ?_
   refine w_reg 577 705 rfl rfl ?_
   refine qp (AI (w64 (v50001 + 1))) rfl (qp (AI (w64 (v50001 + 1))) rfl ?_)
   refine r_nil ?_
   refine thenQ_n ?_
   refine ar (l' := [(0, AL 3 (v0.map eAnswer)), (1, .val none (.fn 38 [])), (7, AI (v0.length : Int)), (8, AI (w64 (v50001 + 1)))]) (L := []) [0, 1, 7, 8] [] 1 ⟨_, by rfl, hF⟩
 ·
  refine w_exit ?_
  refine thenQ_e ?_
  refine thenQ_e ?_
  refine blockQ_e ?_
  refine thenQ_n ?_
  refine ws 65 129 ?_
  refine qp (AI (-1)) rfl ?_
  refine r_nil ?_
  refine w_ret ?_
  cases hF
  exact eR

def c37 : MC := (.seq (.reg [rg 4 (.p true (.mv (.c (.bool false))))]) (.seq (.reg [mvt 5 0, mvt 6 1, rg 7 (.call true 51 [(.t 5), (.t 6)]), rg 8 (.p true (.bin .geq (.t 7) (.c (.int .i64 0)))), mvt 4 8]) .ret))
theorem c37_is : compFn Try.prog 37 = some (c37, [(.tmp 4)]) := by kernel_rfl
theorem c37_ok : okFn Try.prog 37 = true := by kernel_rfl

noncomputable def F_slices_ContainsFunc_SAnswer_Answer (v0 : List TAnswer) : Option (Bool) :=
 ((F_slices_IndexFunc_SAnswer_Answer v0).bind fun v1000 => some (decide ((0 : Int) ≤ v1000)))
@[simp] def res_slices_ContainsFunc_SAnswer_Answer (r : Bool) : RV := .one (.one (.val (.bool r)))
theorem con_slices_ContainsFunc_SAnswer_Answer {v0 : List TAnswer} {r : Bool} (hF : F_slices_ContainsFunc_SAnswer_Answer v0 = some r) : Con Try.prog 37 [.sl 3 (v0.map eAnswer), .fn 38 []] (res_slices_ContainsFunc_SAnswer_Answer r) := by
 unfold F_slices_ContainsFunc_SAnswer_Answer at hF
 refine con_of c37_is fun N => ?_
 refine ws 0 64 ?_
 refine qp (AB false) rfl ?_
 refine r_nil ?_
 refine ws 64 384 ?_
 refine qp (AL 3 (v0.map eAnswer)) rfl (qp (.val none (.fn 38 [])) rfl ?_)
 obtain ⟨v1000, e1000, hF⟩ := bind_get hF
 refine qc (AI v1000) [] false (con_slices_IndexFunc_SAnswer_Answer e1000) c51_ok (by first | rfl | simp) rfl ?_
 refine qp (AB (decide ((0 : Int) ≤ v1000))) rfl (qp (AB (decide ((0 : Int) ≤ v1000))) rfl ?_)
 refine r_nil ?_
 refine w_ret ?_
 cases hF
 exact eR

def c19 : MC := (.seq (.reg [rg 2 (.p true (.mv (.c (.bool false))))]) (.seq (.reg [mvt 3 0, rg 4 (.p true (.len (.t 3))), rg 5 (.p true (.bin .leq (.t 4) (.c (.int .i64 8)))), mvt 6 5, ⟨(some 7), (some (6, true)), (.p true (.mv (.t 0)))⟩, ⟨(some 8), (some (6, true)), (.call true 37 [(.t 7), (.f 38)])⟩, ⟨(some 9), (some (6, true)), (.p true (.not (.t 8)))⟩, rg 10 (.p true (.pick (.t 6) (.t 9) (.c (.bool false)))), mvt 2 10]) .ret))
theorem c19_is : compFn Try.prog 19 = some (c19, [(.tmp 2)]) := by kernel_rfl
theorem c19_ok : okFn Try.prog 19 = true := by kernel_rfl

noncomputable def F_impl_answersOk (v0 : List TAnswer) : Option (Bool) :=
 (bif (decide ((v0.length : Int) ≤ (8 : Int))) then ((F_slices_ContainsFunc_SAnswer_Answer v0).bind fun v1000 => some (!v1000))
 else some false)
@[simp] def res_impl_answersOk (r : Bool) : RV := .one (.one (.val (.bool r)))
theorem con_impl_answersOk {v0 : List TAnswer} {r : Bool} (hF : F_impl_answersOk v0 = some r) : Con Try.prog 19 [.sl 3 (v0.map eAnswer)] (res_impl_answersOk r) := by
 unfold F_impl_answersOk at hF
 refine con_of c19_is fun N => ?_
 refine ws 0 64 ?_
 refine qp (AB false) rfl ?_
 refine r_nil ?_
 refine ws 64 640 ?_
 refine qp (AL 3 (v0.map eAnswer)) rfl (qp (AI (v0.length : Int)) (ev_len_n rfl) (qp (AB (decide ((v0.length : Int) ≤ (8 : Int)))) rfl (qp (AB (decide ((v0.length : Int) ≤ (8 : Int)))) rfl ?_)))
 refine q_case 6 hF rfl (fun hF => ?_) (fun hF => ?_)
 ·
  refine qg (AL 3 (v0.map eAnswer)) rfl rfl ?_
  obtain ⟨v1000, e1000, hF⟩ := bind_get hF
  refine qcg (AB v1000) [] false rfl (con_slices_ContainsFunc_SAnswer_Answer e1000) c37_ok (by first | rfl | simp) rfl ?_
  refine qg (AB (!v1000)) rfl rfl (qp (AB (!v1000)) rfl (qp (AB (!v1000)) rfl ?_))
  refine r_nil ?_
  refine w_ret ?_
  cases hF
  exact eR
 ·
  refine qn rfl (qn rfl (qn rfl (qp (AB false) rfl (qp (AB false) rfl ?_))))
  refine r_nil ?_
  refine w_ret ?_
  cases hF
  exact eR

def c23 : MC := (.seq (.reg [rg 1 (.f (.box (.t 0))), rg 2 (.p true (.mv (.c (.int .i64 0))))]) (.seq (.reg [rg 3 (.p true (.fad (.t 1) 1)), rg 4 (.p true (.ld (.t 3) 1 false)), rg 5 (.p true (.fad (.t 1) 2)), rg 6 (.p true (.ld (.t 5) 1 false)), rg 7 (.p true (.bin .add (.t 4) (.t 6))), mvt 2 7]) .ret))
theorem c23_is : compFn Try.prog 23 = some (c23, [(.tmp 2)]) := by kernel_rfl
theorem c23_ok : okFn Try.prog 23 = true := by kernel_rfl

noncomputable def F_impl_Turn_end (v0 : TTurn) : Option (Int) :=
 some (w64 (v0.2.1 + v0.2.2))
@[simp] def res_impl_Turn_end (r : Int) : RV := .one (.one (.val (.int .i64 r)))
theorem con_impl_Turn_end {v0 : TTurn} {r : Int} (hF : F_impl_Turn_end v0 = some r) : Con Try.prog 23 [eTurn v0] (res_impl_Turn_end r) := by
 unfold F_impl_Turn_end at hF
 refine con_of c23_is fun N => ?_
 refine ws 0 128 ?_
 refine qf (.ptr 0 0 0) [(0, .box [AS v0.1, AI v0.2.1, AI v0.2.2])] (by simp) ?_
 refine qp (AI 0) rfl ?_
 refine r_nil ?_
 refine ws 128 512 ?_
 refine qp (.ptr 0 0 1) rfl (qp (AI v0.2.1) rfl (qp (.ptr 0 0 2) rfl (qp (AI v0.2.2) rfl (qp (AI (w64 (v0.2.1 + v0.2.2))) rfl (qp (AI (w64 (v0.2.1 + v0.2.2))) rfl ?_)))))
 refine r_nil ?_
 refine w_ret ?_
 cases hF
 exact eR

def c40 : MC := (.seq (.reg [rg 3 (.f (.box (.t 0))), rg 4 (.p true (.mv (.c (.bool false))))]) (.seq (.reg [rg 5 (.p true (.fad (.t 3) 0)), rg 6 (.p true (.ld (.t 5) 1 false)), rg 7 (.p true (.ld (.t 1) 1 false)), rg 8 (.p true (.bin .eql (.t 6) (.t 7))), mvt 9 8, ⟨(some 10), (some (9, true)), (.p true (.fad (.t 3) 1))⟩, ⟨(some 11), (some (9, true)), (.p true (.ld (.t 10) 1 false))⟩, ⟨(some 12), (some (9, true)), (.p true (.ld (.t 2) 1 false))⟩, ⟨(some 13), (some (9, true)), (.p true (.bin .eql (.t 11) (.t 12)))⟩, rg 14 (.p true (.pick (.t 9) (.t 13) (.c (.bool false)))), mvt 4 14]) .ret))
theorem c40_is : compFn Try.prog 40 = some (c40, [(.tmp 4)]) := by kernel_rfl
theorem c40_ok : okFn Try.prog 40 = true := by kernel_rfl

noncomputable def F_impl_begins_1 (v0 : TTurn) (v1 : List UInt8) (v2 : Int) : Option (Bool) :=
 (bif (decide (v0.1 = v1)) then some (decide (v0.2.1 = v2))
 else some false)
@[simp] def res_impl_begins_1 (r : Bool) : RV := .one (.one (.val (.bool r)))
theorem con_impl_begins_1 {v0 : TTurn} {v1 : List UInt8} {v2 : Int} {r : Bool} (hF : F_impl_begins_1 v0 v1 v2 = some r) : Con Try.prog 40 [eTurn v0, .ptr [.str v1], .ptr [.int .i64 v2]] (res_impl_begins_1 r) := by
 unfold F_impl_begins_1 at hF
 refine con_of c40_is fun N => ?_
 refine ws 0 128 ?_
 refine qf (.ptr 0 0 0) [(0, .box [AS v0.1, AI v0.2.1, AI v0.2.2])] (by simp) ?_
 refine qp (AB false) rfl ?_
 refine r_nil ?_
 refine ws 128 832 ?_
 refine qp (.ptr 0 0 0) rfl (qp (AS v0.1) rfl (qp (AS v1) rfl (qp (AB (decide (v0.1 = v1))) rfl (qp (AB (decide (v0.1 = v1))) rfl ?_))))
 refine q_case 9 hF rfl (fun hF => ?_) (fun hF => ?_)
 ·
  refine qg (.ptr 0 0 1) rfl rfl (qg (AI v0.2.1) rfl rfl (qg (AI v2) rfl rfl (qg (AB (decide (v0.2.1 = v2))) rfl rfl (qp (AB (decide (v0.2.1 = v2))) rfl (qp (AB (decide (v0.2.1 = v2))) rfl ?_)))))
  refine r_nil ?_
  refine w_ret ?_
  cases hF
  exact eR
 ·
  refine qn rfl (qn rfl (qn rfl (qn rfl (qp (AB false) rfl (qp (AB false) rfl ?_)))))
  refine r_nil ?_
  refine w_ret ?_
  cases hF
  exact eR

def c50 : MC := (.seq (.reg [rg 4 (.p true (.mv (.c (.int .i64 0))))]) (.seq (.seq (.reg [mvt 6 0, rg 7 (.p true (.len (.t 6))), rg 8 (.p true (.mv (.c (.int .i64 0))))]) (.block 0 (.loop (.seq (.reg [rg 9 (.p true (.bin .lss (.t 8) (.t 7)))]) (.seq (.cond (.t 9) .skip (.exit 0)) (.seq (.block 1 (.seq (.reg [mvt 10 8, mvt 5 10]) (.seq (.reg [mvt 11 1, mvt 12 0, mvt 13 5, rg 14 (.p true (.iad (.t 12) (.t 13) 3)), rg 15 (.p true (.ld (.t 14) 3 true)), rg 16 (.callv (.t 11) [(.t 15)])]) (.cond (.t 16) (.seq (.reg [mvt 17 5, mvt 4 17]) .ret) .skip)))) (.reg [rg 18 (.p true (.bin .add (.t 8) (.c (.int .i64 1)))), mvt 8 18]))))))) (.seq (.reg [rg 4 (.p true (.mv (.c (.int .i64 (-1)))))]) .ret)))
theorem c50_is : compFn Try.prog 50 = some (c50, [(.tmp 4)]) := by kernel_rfl
theorem c50_ok : okFn Try.prog 50 = true := by kernel_rfl

noncomputable def F_slices_IndexFunc_STurn_Turn_l0 (v0 : List TTurn) (v1 : List UInt8) (v2 : Int) (k0 : Int → Option (Int)) : Int → Option (Int)
 | v50001 => (bif (decide (v50001 < (v0.length : Int))) then ((ix v0 v50001).bind fun v1000 => ((F_impl_begins_1 v1000 v1 v2).bind fun v1001 => (bif v1001 then some v50001
 else k0 (w64 (v50001 + 1)))))
 else some (-1))
noncomputable def F_slices_IndexFunc_STurn_Turn (v0 : List TTurn) (v1 : List UInt8) (v2 : Int) : Option (Int) :=
 loop (F_slices_IndexFunc_STurn_Turn_l0 v0 v1 v2) 0
@[simp] def res_slices_IndexFunc_STurn_Turn (r : Int) : RV := .one (.one (.val (.int .i64 r)))
theorem con_slices_IndexFunc_STurn_Turn {v0 : List TTurn} {v1 : List UInt8} {v2 : Int} {r : Int} (hF : F_slices_IndexFunc_STurn_Turn v0 v1 v2 = some r) : Con Try.prog 50 [.sl 3 (v0.map eTurn), .fn 40 [.ptr [.str v1], .ptr [.int .i64 v2]]] (res_slices_IndexFunc_STurn_Turn r) := by
 unfold F_slices_IndexFunc_STurn_Turn at hF
 refine con_of c50_is fun N => ?_
 refine ws 0 64 ?_
 refine qp (AI 0) rfl ?_
 refine r_nil ?_
 refine w_seq ?_
 refine ws 64 256 ?_
 refine qp (AL 3 (v0.map eTurn)) rfl (qp (AI (v0.length : Int)) (ev_len_n rfl) (qp (AI 0) rfl ?_))
 refine r_nil ?_
 refine w_block ?_
 refine wr (l' := [(0, AL 3 (v0.map eTurn)), (1, .val none (.fn 40 [.ptr [.str v1], .ptr [.int .i64 v2]])), (7, AI (v0.length : Int)), (8, AI 0)]) (L := []) [0, 1, 7, 8] [] 1 ?_
 refine w_loopF (F_slices_IndexFunc_STurn_Turn_l0 v0 v1 v2) (fun s : Int => mkS [(0, AL 3 (v0.map eTurn)), (1, .val none (.fn 40 [.ptr [.str v1], .ptr [.int .i64 v2]])), (7, AI (v0.length : Int)), (8, AI s)] (fo []) 1) hF ?_
 rintro k0 v50001 hF
 rw [F_slices_IndexFunc_STurn_Turn_l0] at hF
 try dsimp only
 refine ws 1 65 ?_
 refine qp (AB (decide (v50001 < (v0.length : Int)))) rfl ?_
 refine r_nil ?_
 refine w_seq ?_
 refine cF hF (fun hF => ?_) fun hF => ?_
 ·
  refine w_skip ?_
  refine thenQ_n ?_
  refine w_seq ?_
  refine w_block ?_
  refine ws 65 193 ?_
  refine qp (AI v50001) rfl (qp (AI v50001) rfl ?_)
  refine r_nil ?_
  refine ws 193 577 ?_
  refine qp (.val none (.fn 40 [.ptr [.str v1], .ptr [.int .i64 v2]])) rfl (qp (AL 3 (v0.map eTurn)) rfl (qp (AI v50001) rfl ?_))
  obtain ⟨v1000, e1000, hF⟩ := bind_get hF
  refine qp (.val none (.ptr [.str v1000.1, .int .i64 v1000.2.1, .int .i64 v1000.2.2])) (ev_iad_n rfl rfl e1000 rfl) (qp (.val none (eTurn v1000)) rfl ?_)
  obtain ⟨v1001, e1001, hF⟩ := bind_get hF
  refine qcv (AB v1001) [] false rfl (con_impl_begins_1 e1001) c40_ok (by first | rfl | simp) rfl ?_
  refine r_nil ?_
  refine cF hF (fun hF => ?_) fun hF => ?_
  ·
   refine ws 577 705 ?_
   refine qp (AI v50001) rfl (qp (AI v50001) rfl ?_)
   refine r_nil ?_
   refine w_ret ?_
   refine blockQ_r ?_
   refine thenQ_r ?_
   refine thenQ_r ?_
   refine blockQ_r ?_
   refine thenQ_r ?_
   cases hF
   exact eR
  ·
   refine w_skip ?_
   refine blockQ_n ?_
   refine thenQ_n ?_
   refine w_reg 577 705 rfl rfl ?_
   refine qp (AI (w64 (v50001 + 1))) rfl (qp (AI (w64 (v50001 + 1))) rfl ?_)
   refine r_nil ?_
   refine thenQ_n ?_
   refine ar (l' := [(0, AL 3 (v0.map eTurn)), (1, .val none (.fn 40 [.ptr [.str v1], .ptr [.int .i64 v2]])), (7, AI (v0.length : Int)), (8, AI (w64 (v50001 + 1)))]) (L := []) [0, 1, 7, 8] [] 1 ⟨_, by rfl, hF⟩
 ·
  refine w_exit ?_
  refine thenQ_e ?_
  refine thenQ_e ?_
  refine blockQ_e ?_
  refine thenQ_n ?_
  refine ws 65 129 ?_
  refine qp (AI (-1)) rfl ?_
  refine r_nil ?_
  refine w_ret ?_
  cases hF
  exact eR

def c31 : MC := (.seq (.reg [rg 4 (.p true (.mv (.c (.bool false))))]) (.seq (.reg [mvt 5 0, mvt 6 1, rg 7 (.call true 50 [(.t 5), (.t 6)]), rg 8 (.p true (.bin .geq (.t 7) (.c (.int .i64 0)))), mvt 4 8]) .ret))
theorem c31_is : compFn Try.prog 31 = some (c31, [(.tmp 4)]) := by kernel_rfl
theorem c31_ok : okFn Try.prog 31 = true := by kernel_rfl

noncomputable def F_slices_ContainsFunc_STurn_Turn (v0 : List TTurn) (v1 : List UInt8) (v2 : Int) : Option (Bool) :=
 ((F_slices_IndexFunc_STurn_Turn v0 v1 v2).bind fun v1000 => some (decide ((0 : Int) ≤ v1000)))
@[simp] def res_slices_ContainsFunc_STurn_Turn (r : Bool) : RV := .one (.one (.val (.bool r)))
theorem con_slices_ContainsFunc_STurn_Turn {v0 : List TTurn} {v1 : List UInt8} {v2 : Int} {r : Bool} (hF : F_slices_ContainsFunc_STurn_Turn v0 v1 v2 = some r) : Con Try.prog 31 [.sl 3 (v0.map eTurn), .fn 40 [.ptr [.str v1], .ptr [.int .i64 v2]]] (res_slices_ContainsFunc_STurn_Turn r) := by
 unfold F_slices_ContainsFunc_STurn_Turn at hF
 refine con_of c31_is fun N => ?_
 refine ws 0 64 ?_
 refine qp (AB false) rfl ?_
 refine r_nil ?_
 refine ws 64 384 ?_
 refine qp (AL 3 (v0.map eTurn)) rfl (qp (.val none (.fn 40 [.ptr [.str v1], .ptr [.int .i64 v2]])) rfl ?_)
 obtain ⟨v1000, e1000, hF⟩ := bind_get hF
 refine qc (AI v1000) [] false (con_slices_IndexFunc_STurn_Turn e1000) c50_ok (by first | rfl | simp) rfl ?_
 refine qp (AB (decide ((0 : Int) ≤ v1000))) rfl (qp (AB (decide ((0 : Int) ≤ v1000))) rfl ?_)
 refine r_nil ?_
 refine w_ret ?_
 cases hF
 exact eR

def c24 : MC := (.seq (.reg [rg 4 (.f (.box (.t 1))), rg 5 (.f (.box (.t 2))), rg 6 (.p true (.mv (.c (.bool false))))]) (.seq (.reg [mvt 7 0, rg 8 (.p true (.mkf 40 [(.t 4), (.t 5)])), rg 9 (.call true 31 [(.t 7), (.t 8)]), mvt 6 9]) .ret))
theorem c24_is : compFn Try.prog 24 = some (c24, [(.tmp 6)]) := by kernel_rfl
theorem c24_ok : okFn Try.prog 24 = true := by kernel_rfl

noncomputable def F_impl_begins (v0 : List TTurn) (v1 : List UInt8) (v2 : Int) : Option (Bool) :=
 ((F_slices_ContainsFunc_STurn_Turn v0 v1 v2).bind fun v1000 => some v1000)
@[simp] def res_impl_begins (r : Bool) : RV := .one (.one (.val (.bool r)))
theorem con_impl_begins {v0 : List TTurn} {v1 : List UInt8} {v2 : Int} {r : Bool} (hF : F_impl_begins v0 v1 v2 = some r) : Con Try.prog 24 [.sl 3 (v0.map eTurn), .str v1, .int .i64 v2] (res_impl_begins r) := by
 unfold F_impl_begins at hF
 refine con_of c24_is fun N => ?_
 refine ws 0 192 ?_
 refine qf (.ptr 0 0 0) [(0, .box [AS v1])] (by simp) ?_
 refine qf (.ptr 64 0 0) [(64, .box [AI v2]), (0, .box [AS v1])] (by simp) ?_
 refine qp (AB false) rfl ?_
 refine r_nil ?_
 refine ws 192 448 ?_
 refine qp (AL 3 (v0.map eTurn)) rfl (qp (.fn 40 [.ptr 0 0 0, .ptr 64 0 0]) rfl ?_)
 obtain ⟨v1000, e1000, hF⟩ := bind_get hF
 refine qc (AB v1000) [(64, .box [AI v2]), (0, .box [AS v1])] true (con_slices_ContainsFunc_STurn_Turn e1000) c31_ok (by simp [List.take_of_length_le]) rfl ?_
 refine qp (AB v1000) rfl ?_
 refine r_nil ?_
 refine w_ret ?_
 cases hF
 exact eR

def c20 : MC := (.seq (.reg [rg 4 (.f (.nilrow 1))]) (.seq (.reg [rg 5 (.f (.nilrow 1))]) (.seq (.seq (.reg [mvt 10 1, rg 11 (.p true (.len (.t 10))), rg 12 (.p true (.mv (.c (.int .i64 0))))]) (.block 0 (.loop (.seq (.reg [rg 13 (.p true (.bin .lss (.t 12) (.t 11)))]) (.seq (.cond (.t 13) .skip (.exit 0)) (.seq (.block 1 (.seq (.reg [mvt 14 12, rg 15 (.p true (.iad (.t 10) (.t 12) 3)), rg 16 (.p true (.ld (.t 15) 3 true)), rg 7 (.f (.alloc [((.str []), (0, false)), ((.str []), (0, false)), ((.int .i64 0), (0, false))])), mvt 6 14, ⟨none, none, (.f (.st (.t 7) (.t 16) 3))⟩]) (.seq (.reg [mvt 17 0, rg 18 (.p true (.len (.t 17))), rg 19 (.p true (.mv (.c (.int .i64 0))))]) (.block 2 (.loop (.seq (.reg [rg 20 (.p true (.bin .lss (.t 19) (.t 18)))]) (.seq (.cond (.t 20) .skip (.exit 2)) (.seq (.block 3 (.seq (.reg [mvt 21 19, rg 22 (.p true (.iad (.t 17) (.t 19) 3)), rg 23 (.p true (.ld (.t 22) 3 true)), rg 9 (.f (.alloc [((.str []), (0, false)), ((.int .i64 0), (0, false)), ((.int .i64 0), (0, false))])), mvt 8 21, ⟨none, none, (.f (.st (.t 9) (.t 23) 3))⟩]) (.seq (.reg [rg 24 (.p false (.fad (.t 9) 0)), rg 25 (.p false (.ld (.t 24) 1 false)), rg 26 (.p false (.fad (.t 7) 0)), rg 27 (.p false (.ld (.t 26) 1 false)), rg 28 (.p false (.bin .eql (.t 25) (.t 27))), rg 29 (.p false (.mv (.t 28))), ⟨(some 30), (some (29, true)), (.p false (.mv (.t 0)))⟩, ⟨(some 31), (some (29, true)), (.p false (.fad (.t 7) 1))⟩, ⟨(some 32), (some (29, true)), (.p false (.ld (.t 31) 1 false))⟩, ⟨(some 33), (some (29, true)), (.p false (.ld (.t 9) 3 true))⟩, ⟨(some 34), (some (29, true)), (.call false 23 [(.t 33)])⟩, ⟨(some 35), (some (29, true)), (.p false (.fad (.t 7) 2))⟩, ⟨(some 36), (some (29, true)), (.p false (.ld (.t 35) 1 false))⟩, ⟨(some 37), (some (29, true)), (.p false (.bin .add (.t 34) (.t 36)))⟩, ⟨(some 38), (some (29, true)), (.call false 24 [(.t 30), (.t 32), (.t 37)])⟩, ⟨(some 39), (some (29, true)), (.p false (.not (.t 38)))⟩, rg 40 (.p false (.pick (.t 29) (.t 39) (.c (.bool false))))]) (.cond (.t 40) (.reg [mvt 41 5, mvt 42 6, mvt 43 8, rg 44 (.f (.bsl 1 [(.t 42), (.t 43)])), rg 45 (.f (.bsl 1 [(.t 44)])), rg 46 (.f (.app (.t 41) (.t 45) 1 24 true)), mvt 5 46]) .skip)))) (.reg [rg 47 (.p true (.bin .add (.t 19) (.c (.int .i64 1)))), mvt 19 47]))))))))) (.reg [rg 48 (.p true (.bin .add (.t 12) (.c (.int .i64 1)))), mvt 12 48]))))))) (.seq (.reg [mvt 49 5, mvt 4 49]) .ret))))
theorem c20_is : compFn Try.prog 20 = some (c20, [(.tmp 4)]) := by kernel_rfl
theorem c20_ok : okFn Try.prog 20 = true := by kernel_rfl

noncomputable def F_impl_missed_l1 (v0 : List TTurn) (v1000 : TAnswer) (v50010 : Int) (k2 : Int × (List (List Int)) → Option (List (List Int))) (k4 : Int × (List (List Int)) → Option (List (List Int))) : Int × (List (List Int)) → Option (List (List Int))
 | (v50018, v50019) => (bif (decide (v50018 < (v0.length : Int))) then ((ix v0 v50018).bind fun v1009 => (bif (decide (v1009.1 = v1000.1)) then ((F_impl_Turn_end v1009).bind fun v1010 => ((F_impl_begins v0 v1000.2.1 (w64 (v1010 + v1000.2.2))).bind fun v1011 => (bif (!v1011) then (need (room (v50019.length + [[v50010, v50018]].length) 24) (k4 (w64 (v50018 + 1), v50019 ++ [[v50010, v50018]])))
 else k4 (w64 (v50018 + 1), v50019))))
 else k4 (w64 (v50018 + 1), v50019)))
 else k2 (w64 (v50010 + 1), v50019))
noncomputable def F_impl_missed_l0 (v0 : List TTurn) (v1 : List TAnswer) (k2 : Int × (List (List Int)) → Option (List (List Int))) : Int × (List (List Int)) → Option (List (List Int))
 | (v50010, v50011) => (bif (decide (v50010 < (v1.length : Int))) then ((ix v1 v50010).bind fun v1000 => loop (F_impl_missed_l1 v0 v1000 v50010 k2) (0, v50011))
 else some v50011)
noncomputable def F_impl_missed (v0 : List TTurn) (v1 : List TAnswer) : Option (List (List Int)) :=
 loop (F_impl_missed_l0 v0 v1) (0, [])
@[simp] def res_impl_missed (r : List (List Int)) : RV := .one (.one (.row true 1 (r.map (eL 1 vI))))
theorem con_impl_missed {v0 : List TTurn} {v1 : List TAnswer} {r : List (List Int)} (hF : F_impl_missed v0 v1 = some r) : Con Try.prog 20 [.sl 3 (v0.map eTurn), .sl 3 (v1.map eAnswer)] (res_impl_missed r) := by
 unfold F_impl_missed at hF
 refine con_of c20_is fun N => ?_
 refine ws 0 64 ?_
 refine qf (.sl 0 0 0) [(0, .row true 1 (([] : List Int).map vI))] (by simp) ?_
 refine r_nil ?_
 refine ws 64 128 ?_
 refine qf (.sl 64 0 0) [(64, .row true 1 (([] : List (List Int)).map (eL 1 vI))), (0, .row true 1 (([] : List Int).map vI))] (by simp) ?_
 refine r_nil ?_
 refine w_seq ?_
 refine ws 128 320 ?_
 refine qp (AL 3 (v1.map eAnswer)) rfl (qp (AI (v1.length : Int)) (ev_len_n rfl) (qp (AI 0) rfl ?_))
 refine r_nil ?_
 refine w_block ?_
 refine wr (l' := [(0, AL 3 (v0.map eTurn)), (5, .sl 0 0 0), (10, AL 3 (v1.map eAnswer)), (11, AI (v1.length : Int)), (12, AI 0)]) (L := [(0, .row true 1 (([] : List (List Int)).map (eL 1 vI)))]) [0, 5, 10, 11, 12] [(64, 0)] 1 ?_
 refine w_loopF (F_impl_missed_l0 v0 v1) (fun s : Int × (List (List Int)) => mkS [(0, AL 3 (v0.map eTurn)), (5, .sl 0 0 s.2.length), (10, AL 3 (v1.map eAnswer)), (11, AI (v1.length : Int)), (12, AI s.1)] (fo [(0, .row true 1 (s.2.map (eL 1 vI)))]) 1) hF ?_
 rintro k2 ⟨v50010, v50011⟩ hF
 rw [F_impl_missed_l0] at hF
 try dsimp only
 refine ws 1 65 ?_
 refine qp (AB (decide (v50010 < (v1.length : Int)))) rfl ?_
 refine r_nil ?_
 refine w_seq ?_
 refine cF hF (fun hF => ?_) fun hF => ?_
 ·
  refine w_skip ?_
  refine thenQ_n ?_
  refine w_seq ?_
  refine w_block ?_
  refine ws 65 449 ?_
  refine qp (AI v50010) rfl ?_
  obtain ⟨v1000, e1000, hF⟩ := bind_get hF
  refine qp (.val none (.ptr [.str v1000.1, .str v1000.2.1, .int .i64 v1000.2.2])) (ev_iad_n rfl rfl e1000 rfl) (qp (.val none (eAnswer v1000)) rfl ?_)
  refine qf (.ptr 257 0 0) [(257, .box [AS [], AS [], AI 0]), (0, .row true 1 (v50011.map (eL 1 vI)))] (by simp) ?_
  refine qp (AI v50010) rfl ?_
  refine qf0 (.undef) [(257, .box [AS v1000.1, AS v1000.2.1, AI v1000.2.2]), (257, .box [AS [], AS [], AI 0]), (0, .row true 1 (v50011.map (eL 1 vI)))] (by simp) ?_
  refine r_nil ?_
  refine ws 449 641 ?_
  refine qp (AL 3 (v0.map eTurn)) rfl (qp (AI (v0.length : Int)) (ev_len_n rfl) (qp (AI 0) rfl ?_))
  refine r_nil ?_
  refine w_block ?_
  refine wr (l' := [(0, AL 3 (v0.map eTurn)), (5, .sl 0 0 v50011.length), (6, AI v50010), (7, .ptr 1 0 0), (10, AL 3 (v1.map eAnswer)), (11, AI (v1.length : Int)), (12, AI v50010), (17, AL 3 (v0.map eTurn)), (18, AI (v0.length : Int)), (19, AI 0)]) (L := [(1, .box [AS v1000.1, AS v1000.2.1, AI v1000.2.2]), (0, .row true 1 (v50011.map (eL 1 vI)))]) [0, 5, 6, 7, 10, 11, 12, 17, 18, 19] [(257, 1), (0, 0)] 2 ?_
  refine w_loopF (F_impl_missed_l1 v0 v1000 v50010 k2) (fun s : Int × (List (List Int)) => mkS [(0, AL 3 (v0.map eTurn)), (5, .sl 0 0 s.2.length), (6, AI v50010), (7, .ptr 1 0 0), (10, AL 3 (v1.map eAnswer)), (11, AI (v1.length : Int)), (12, AI v50010), (17, AL 3 (v0.map eTurn)), (18, AI (v0.length : Int)), (19, AI s.1)] (fo [(1, .box [AS v1000.1, AS v1000.2.1, AI v1000.2.2]), (0, .row true 1 (s.2.map (eL 1 vI)))]) 2) hF ?_
  rintro k4 ⟨v50018, v50019⟩ hF
  rw [F_impl_missed_l1] at hF
  try dsimp only
  refine ws 2 66 ?_
  refine qp (AB (decide (v50018 < (v0.length : Int)))) rfl ?_
  refine r_nil ?_
  refine w_seq ?_
  refine cF hF (fun hF => ?_) fun hF => ?_
  ·
   refine w_skip ?_
   refine thenQ_n ?_
   refine w_seq ?_
   refine w_block ?_
   refine ws 66 450 ?_
   refine qp (AI v50018) rfl ?_
   obtain ⟨v1009, e1009, hF⟩ := bind_get hF
   refine qp (.val none (.ptr [.str v1009.1, .int .i64 v1009.2.1, .int .i64 v1009.2.2])) (ev_iad_n rfl rfl e1009 rfl) (qp (.val none (eTurn v1009)) rfl ?_)
   refine qf (.ptr 258 0 0) [(258, .box [AS [], AI 0, AI 0]), (1, .box [AS v1000.1, AS v1000.2.1, AI v1000.2.2]), (0, .row true 1 (v50019.map (eL 1 vI)))] (by simp) ?_
   refine qp (AI v50018) rfl ?_
   refine qf0 (.undef) [(258, .box [AS v1009.1, AI v1009.2.1, AI v1009.2.2]), (258, .box [AS [], AI 0, AI 0]), (1, .box [AS v1000.1, AS v1000.2.1, AI v1000.2.2]), (0, .row true 1 (v50019.map (eL 1 vI)))] (by simp) ?_
   refine r_nil ?_
   refine ws 450 1538 ?_
   refine qp (.ptr 258 0 0) rfl (qp (AS v1009.1) rfl (qp (.ptr 1 0 0) rfl (qp (AS v1000.1) rfl (qp (AB (decide (v1009.1 = v1000.1))) rfl (qp (AB (decide (v1009.1 = v1000.1))) rfl ?_)))))
   refine q_case 29 hF rfl (fun hF => ?_) (fun hF => ?_)
   ·
    refine qg (AL 3 (v0.map eTurn)) rfl rfl (qg (.ptr 1 0 1) rfl rfl (qg (AS v1000.2.1) rfl rfl (qg (.agg [AS v1009.1, AI v1009.2.1, AI v1009.2.2]) rfl rfl ?_)))
    obtain ⟨v1010, e1010, hF⟩ := bind_get hF
    refine qcg (AI v1010) [(258, .box [AS v1009.1, AI v1009.2.1, AI v1009.2.2]), (258, .box [AS [], AI 0, AI 0]), (1, .box [AS v1000.1, AS v1000.2.1, AI v1000.2.2]), (0, .row true 1 (v50019.map (eL 1 vI)))] false rfl (con_impl_Turn_end e1010) c23_ok (by first | rfl | simp) rfl ?_
    refine qg (.ptr 1 0 2) rfl rfl (qg (AI v1000.2.2) rfl rfl (qg (AI (w64 (v1010 + v1000.2.2))) rfl rfl ?_))
    obtain ⟨v1011, e1011, hF⟩ := bind_get hF
    refine qcg (AB v1011) [(258, .box [AS v1009.1, AI v1009.2.1, AI v1009.2.2]), (258, .box [AS [], AI 0, AI 0]), (1, .box [AS v1000.1, AS v1000.2.1, AI v1000.2.2]), (0, .row true 1 (v50019.map (eL 1 vI)))] false rfl (con_impl_begins e1011) c24_ok (by first | rfl | simp) rfl ?_
    refine qg (AB (!v1011)) rfl rfl (qp (AB (!v1011)) rfl ?_)
    refine r_nil ?_
    refine cF hF (fun hF => ?_) fun hF => ?_
    ·
     refine w_reg 1538 1986 rfl rfl ?_
     refine qp (.sl 0 0 v50019.length) rfl (qp (AI v50010) rfl (qp (AI v50018) rfl ?_))
     refine qf (.sl 1730 0 ([v50010, v50018].length)) [(1730, .row true 1 ([v50010, v50018].map vI)), (258, .box [AS v1009.1, AI v1009.2.1, AI v1009.2.2]), (258, .box [AS [], AI 0, AI 0]), (1, .box [AS v1000.1, AS v1000.2.1, AI v1000.2.2]), (0, .row true 1 (v50019.map (eL 1 vI)))] (by simp [List.take_of_length_le]) ?_
     refine qf (.sl 1794 0 ([[v50010, v50018]].length)) [(1794, .row true 1 ([[v50010, v50018]].map (eL 1 vI))), (1730, .dead), (1730, .row true 1 ([v50010, v50018].map vI)), (258, .box [AS v1009.1, AI v1009.2.1, AI v1009.2.2]), (258, .box [AS [], AI 0, AI 0]), (1, .box [AS v1000.1, AS v1000.2.1, AI v1000.2.2]), (0, .row true 1 (v50019.map (eL 1 vI)))] (by simp [List.take_of_length_le]) ?_
     obtain ⟨g1012, hF⟩ := need_some hF
     refine qf (.sl 1858 0 ((v50019 ++ [[v50010, v50018]]).length)) [(1858, .row true 1 ((v50019 ++ [[v50010, v50018]]).map (eL 1 vI))), (0, .dead), (1794, .dead), (1794, .row true 1 ([[v50010, v50018]].map (eL 1 vI))), (1730, .dead), (1730, .row true 1 ([v50010, v50018].map vI)), (258, .box [AS v1009.1, AI v1009.2.1, AI v1009.2.2]), (258, .box [AS [], AI 0, AI 0]), (1, .box [AS v1000.1, AS v1000.2.1, AI v1000.2.2]), (0, .row true 1 (v50019.map (eL 1 vI)))] (effT_app_l rfl (by simp) rfl rfl (by simp) rfl (by decide) g1012 rfl) ?_
     refine qp (.sl 1858 0 ((v50019 ++ [[v50010, v50018]]).length)) rfl ?_
     refine r_nil ?_
     refine blockQ_n ?_
     refine thenQ_n ?_
     refine w_reg 1986 2114 rfl rfl ?_
     refine qp (AI (w64 (v50018 + 1))) rfl (qp (AI (w64 (v50018 + 1))) rfl ?_)
     refine r_nil ?_
     refine thenQ_n ?_
     refine ar (l' := [(0, AL 3 (v0.map eTurn)), (5, .sl 0 0 (v50019 ++ [[v50010, v50018]]).length), (6, AI v50010), (7, .ptr 1 0 0), (10, AL 3 (v1.map eAnswer)), (11, AI (v1.length : Int)), (12, AI v50010), (17, AL 3 (v0.map eTurn)), (18, AI (v0.length : Int)), (19, AI (w64 (v50018 + 1)))]) (L := [(1, .box [AS v1000.1, AS v1000.2.1, AI v1000.2.2]), (0, .row true 1 ((v50019 ++ [[v50010, v50018]]).map (eL 1 vI)))]) [0, 5, 6, 7, 10, 11, 12, 17, 18, 19] [(1, 1), (1858, 0)] 2 ⟨_, by rfl, hF⟩
    ·
     refine w_skip ?_
     refine blockQ_n ?_
     refine thenQ_n ?_
     refine w_reg 1538 1666 rfl rfl ?_
     refine qp (AI (w64 (v50018 + 1))) rfl (qp (AI (w64 (v50018 + 1))) rfl ?_)
     refine r_nil ?_
     refine thenQ_n ?_
     refine ar (l' := [(0, AL 3 (v0.map eTurn)), (5, .sl 0 0 v50019.length), (6, AI v50010), (7, .ptr 1 0 0), (10, AL 3 (v1.map eAnswer)), (11, AI (v1.length : Int)), (12, AI v50010), (17, AL 3 (v0.map eTurn)), (18, AI (v0.length : Int)), (19, AI (w64 (v50018 + 1)))]) (L := [(1, .box [AS v1000.1, AS v1000.2.1, AI v1000.2.2]), (0, .row true 1 (v50019.map (eL 1 vI)))]) [0, 5, 6, 7, 10, 11, 12, 17, 18, 19] [(1, 1), (0, 0)] 2 ⟨_, by rfl, hF⟩
   ·
    refine qn rfl (qn rfl (qn rfl (qn rfl (qn rfl (qn rfl (qn rfl (qn rfl ?_)))))))
    refine qn rfl (qn rfl (qp (AB false) rfl ?_))
    refine r_nil ?_
    refine w_false rfl ?_
    refine w_skip ?_
    refine blockQ_n ?_
    refine thenQ_n ?_
    refine w_reg 1538 1666 rfl rfl ?_
    refine qp (AI (w64 (v50018 + 1))) rfl (qp (AI (w64 (v50018 + 1))) rfl ?_)
    refine r_nil ?_
    refine thenQ_n ?_
    refine ar (l' := [(0, AL 3 (v0.map eTurn)), (5, .sl 0 0 v50019.length), (6, AI v50010), (7, .ptr 1 0 0), (10, AL 3 (v1.map eAnswer)), (11, AI (v1.length : Int)), (12, AI v50010), (17, AL 3 (v0.map eTurn)), (18, AI (v0.length : Int)), (19, AI (w64 (v50018 + 1)))]) (L := [(1, .box [AS v1000.1, AS v1000.2.1, AI v1000.2.2]), (0, .row true 1 (v50019.map (eL 1 vI)))]) [0, 5, 6, 7, 10, 11, 12, 17, 18, 19] [(1, 1), (0, 0)] 2 ⟨_, by rfl, hF⟩
  ·
   refine w_exit ?_
   refine thenQ_e ?_
   refine thenQ_e ?_
   refine blockQ_e ?_
   refine blockQ_n ?_
   refine thenQ_n ?_
   refine w_reg 66 194 rfl rfl ?_
   refine qp (AI (w64 (v50010 + 1))) rfl (qp (AI (w64 (v50010 + 1))) rfl ?_)
   refine r_nil ?_
   refine thenQ_n ?_
   refine ar (l' := [(0, AL 3 (v0.map eTurn)), (5, .sl 0 0 v50019.length), (10, AL 3 (v1.map eAnswer)), (11, AI (v1.length : Int)), (12, AI (w64 (v50010 + 1)))]) (L := [(0, .row true 1 (v50019.map (eL 1 vI)))]) [0, 5, 10, 11, 12] [(0, 0)] 1 ⟨_, by rfl, hF⟩
 ·
  refine w_exit ?_
  refine thenQ_e ?_
  refine thenQ_e ?_
  refine blockQ_e ?_
  refine thenQ_n ?_
  refine ws 65 193 ?_
  refine qp (.sl 0 0 v50011.length) rfl (qp (.sl 0 0 v50011.length) rfl ?_)
  refine r_nil ?_
  refine w_ret ?_
  cases hF
  exact eR

def c7 : MC := (.seq (.reg [rg 4 (.f (.nilrow 1)), rg 5 (.p true (.mv (.c (.int .i64 0))))]) (.seq (.seq (.reg [mvt 6 0, rg 7 (.call true 18 [(.t 6)]), rg 8 (.p true (.not (.t 7))), mvt 9 8, ⟨(some 10), (some (9, false)), (.p true (.mv (.t 1)))⟩, ⟨(some 11), (some (9, false)), (.call true 19 [(.t 10)])⟩, ⟨(some 12), (some (9, false)), (.p true (.not (.t 11)))⟩, rg 13 (.p true (.pick (.t 9) (.c (.bool true)) (.t 12)))]) (.cond (.t 13) (.seq (.reg [rg 4 (.f (.nilrow 1)), rg 5 (.p true (.mv (.c (.int .i64 1))))]) .ret) .skip)) (.seq (.reg [mvt 14 0, mvt 15 1, rg 16 (.call true 20 [(.t 14), (.t 15)]), mvt 4 16, rg 5 (.p true (.mv (.c (.int .i64 0))))]) .ret)))
theorem c7_is : compFn Try.prog 7 = some (c7, [(.tmp 4), (.tmp 5)]) := by kernel_rfl
theorem c7_ok : okFn Try.prog 7 = true := by kernel_rfl

noncomputable def F_impl_MissedAnswers (v0 : List TTurn) (v1 : List TAnswer) : Option ((List (List Int)) × Int) :=
 ((F_impl_ValidTurns v0).bind fun v1000 => (bif (!v1000) then some ([], 1)
 else ((F_impl_answersOk v1).bind fun v1001 => (bif (!v1001) then some ([], 1)
 else ((F_impl_missed v0 v1).bind fun v1002 => some (v1002, 0))))))
@[simp] def res_impl_MissedAnswers (r : (List (List Int)) × Int) : RV := .tup [.one (.row true 1 (r.1.map (eL 1 vI))), .one (.val (.int .i64 r.2))]
theorem con_impl_MissedAnswers {v0 : List TTurn} {v1 : List TAnswer} {r : (List (List Int)) × Int} (hF : F_impl_MissedAnswers v0 v1 = some r) : Con Try.prog 7 [.sl 3 (v0.map eTurn), .sl 3 (v1.map eAnswer)] (res_impl_MissedAnswers r) := by
 unfold F_impl_MissedAnswers at hF
 refine con_of c7_is fun N => ?_
 refine ws 0 128 ?_
 refine qf (.sl 0 0 0) [(0, .row true 1 (([] : List Int).map vI))] (by simp) ?_
 refine qp (AI 0) rfl ?_
 refine r_nil ?_
 refine w_seq ?_
 refine ws 128 640 ?_
 refine qp (AL 3 (v0.map eTurn)) rfl ?_
 obtain ⟨v1000, e1000, hF⟩ := bind_get hF
 refine qc (AB v1000) [(0, .row true 1 (([] : List Int).map vI))] false (con_impl_ValidTurns e1000) c18_ok (by first | rfl | simp) rfl ?_
 refine qp (AB (!v1000)) rfl (qp (AB (!v1000)) rfl ?_)
 refine q_case 9 hF rfl (fun hF => ?_) (fun hF => ?_)
 ·
  refine qn rfl (qn rfl (qn rfl (qp (AB true) rfl ?_)))
  refine r_nil ?_
  refine w_true rfl ?_
  refine ws 640 768 ?_
  refine qf (.sl 640 0 0) [(640, .row true 1 (([] : List (List Int)).map (eL 1 vI))), (0, .row true 1 (([] : List Int).map vI))] (by simp) ?_
  refine qp (AI 1) rfl ?_
  refine r_nil ?_
  refine w_ret ?_
  refine thenQ_r ?_
  cases hF
  exact eR
 ·
  refine qg (AL 3 (v1.map eAnswer)) rfl rfl ?_
  obtain ⟨v1001, e1001, hF⟩ := bind_get hF
  refine qcg (AB v1001) [(0, .row true 1 (([] : List Int).map vI))] false rfl (con_impl_answersOk e1001) c19_ok (by first | rfl | simp) rfl ?_
  refine qg (AB (!v1001)) rfl rfl (qp (AB (!v1001)) rfl ?_)
  refine r_nil ?_
  refine cF hF (fun hF => ?_) fun hF => ?_
  ·
   refine ws 640 768 ?_
   refine qf (.sl 640 0 0) [(640, .row true 1 (([] : List (List Int)).map (eL 1 vI))), (0, .row true 1 (([] : List Int).map vI))] (by simp) ?_
   refine qp (AI 1) rfl ?_
   refine r_nil ?_
   refine w_ret ?_
   refine thenQ_r ?_
   cases hF
   exact eR
  ·
   refine w_skip ?_
   refine thenQ_n ?_
   refine ws 640 960 ?_
   refine qp (AL 3 (v0.map eTurn)) rfl (qp (AL 3 (v1.map eAnswer)) rfl ?_)
   obtain ⟨v1002, e1002, hF⟩ := bind_get hF
   refine qc (.sl 768 0 v1002.length) [(768, .row true 1 (v1002.map (eL 1 vI))), (0, .row true 1 (([] : List Int).map vI))] false (con_impl_missed e1002) c20_ok (by first | rfl | simp) (by simp [res_impl_missed]) ?_
   refine qp (.sl 768 0 v1002.length) rfl (qp (AI 0) rfl ?_)
   refine r_nil ?_
   refine w_ret ?_
   cases hF
   exact eR

def c22 : MC := (.seq (.reg [rg 2 (.f (.nilrow 3))]) (.seq (.seq (.reg [mvt 3 0, rg 4 (.p true (.isn false (.t 3)))]) (.cond (.t 4) (.seq (.reg [rg 2 (.f (.nilrow 3))]) .ret) .skip)) (.seq (.reg [rg 5 (.f (.bsl 3 [])), mvt 6 0, rg 7 (.f (.app (.t 5) (.t 6) 3 32 false)), mvt 2 7]) .ret)))
theorem c22_is : compFn Try.prog 22 = some (c22, [(.tmp 2)]) := by kernel_rfl
theorem c22_ok : okFn Try.prog 22 = true := by kernel_rfl

noncomputable def F_slices_Clone_STurn_Turn_j0 (v0 : List TTurn) : Option (List TTurn) :=
 (need (room (v0.length) 32) (some v0))
noncomputable def F_slices_Clone_STurn_Turn (v0 : List TTurn) : Option (List TTurn) :=
 (bif (decide (v0.length = 0)) then (both (some []) (F_slices_Clone_STurn_Turn_j0 v0))
 else F_slices_Clone_STurn_Turn_j0 v0)
@[simp] def res_slices_Clone_STurn_Turn (r : List TTurn) : RV := .one (.one (.row true 3 (r.map eTurn)))
theorem con_slices_Clone_STurn_Turn {v0 : List TTurn} {r : List TTurn} (hF : F_slices_Clone_STurn_Turn v0 = some r) : Con Try.prog 22 [.sl 3 (v0.map eTurn)] (res_slices_Clone_STurn_Turn r) := by
 unfold F_slices_Clone_STurn_Turn at hF
 refine con_of c22_is fun N => ?_
 refine ws 0 64 ?_
 refine qf (.sl 0 0 0) [(0, .row true 3 (([] : List Int).map vI))] (by simp) ?_
 refine r_nil ?_
 refine w_meet (fun s' => s' = mkS [(0, AL 3 (v0.map eTurn))] (fo []) 1 ∧ F_slices_Clone_STurn_Turn_j0 v0 = some r) ?_ ?_
 ·
  refine ws 64 192 ?_
  refine qp (AL 3 (v0.map eTurn)) rfl ?_
  refine b_case hF (fun z1000 hF => ?_) (fun z1000 hF => ?_)
  ·
   refine qp .ub (isn_e (by simpa using z1000)) ?_
   refine r_nil ?_
   refine w_condUF hF rfl (fun hF => ?_) (fun hF => ?_)
   ·
    refine ws 192 256 ?_
    refine qf (.sl 192 0 0) [(192, .row true 3 (([] : List TTurn).map eTurn)), (0, .row true 3 (([] : List Int).map vI))] (by simp) ?_
    refine r_nil ?_
    refine w_ret ?_
    refine thenQ_r ?_
    cases hF
    exact eR
   ·
    refine w_skip ?_
    refine thenQ_n ?_
    refine ar (l' := [(0, AL 3 (v0.map eTurn))]) (L := []) [0] [] 1 ⟨rfl, hF⟩
  ·
   refine qp (AB false) (isn_n (by simpa using z1000)) ?_
   refine r_nil ?_
   refine w_false rfl ?_
   refine w_skip ?_
   refine thenQ_n ?_
   refine ar (l' := [(0, AL 3 (v0.map eTurn))]) (L := []) [0] [] 1 ⟨rfl, hF⟩
 ·
  rintro s' ⟨rfl, hF⟩
  unfold F_slices_Clone_STurn_Turn_j0 at hF
  refine ws 1 257 ?_
  refine qf (.sl 1 0 0) [(1, .row true 3 (([] : List TTurn).map eTurn))] (by simp [List.take_of_length_le]) ?_
  refine qp (AL 3 (v0.map eTurn)) rfl ?_
  obtain ⟨g1001, hF⟩ := need_some hF
  refine qf (.sl 129 0 v0.length) [(129, .row true 3 (v0.map eTurn)), (1, .dead), (1, .row true 3 (([] : List TTurn).map eTurn))] (effT_app_v0 rfl (by simp) rfl rfl (fun _ => rfl) g1001) ?_
  refine qp (.sl 129 0 v0.length) rfl ?_
  refine r_nil ?_
  refine w_ret ?_
  cases hF
  exact eR

def c26 : MC := (.seq (.reg [rg 4 (.f (.box (.t 1))), rg 6 (.p true (.mv (.c (.int .i64 0)))), rg 7 (.p true (.mv (.c (.bool false))))]) (.seq (.reg [mvt 12 0, rg 13 (.p true (.len (.t 12))), mvt 8 13]) (.seq (.reg [mvt 14 8, rg 9 (.p true (.mv (.c (.int .i64 0)))), mvt 10 14]) (.seq (.block 0 (.loop (.seq (.seq (.reg [mvt 15 9, mvt 16 10, rg 17 (.p true (.bin .lss (.t 15) (.t 16)))]) (.cond (.t 17) .skip (.exit 0))) (.block 1 (.seq (.reg [mvt 18 9, mvt 19 10, rg 20 (.p true (.bin .add (.t 18) (.t 19))), rg 21 (.p true (.conv .u64 (.t 20))), rg 22 (.p true (.bin .shr (.t 21) (.c (.int .u64 1)))), rg 23 (.p true (.conv .i64 (.t 22))), mvt 11 23]) (.seq (.reg [rg 24 (.p false (.mv (.t 2))), rg 25 (.p false (.mv (.t 0))), rg 26 (.p false (.mv (.t 11))), rg 27 (.p false (.iad (.t 25) (.t 26) 3)), rg 28 (.p false (.ld (.t 27) 3 true)), rg 29 (.p false (.ld (.t 4) 3 true)), rg 30 (.callv (.t 24) [(.t 28), (.t 29)]), rg 31 (.p false (.bin .lss (.t 30) (.c (.int .i64 0))))]) (.cond (.t 31) (.reg [mvt 32 11, rg 33 (.p true (.bin .add (.t 32) (.c (.int .i64 1)))), mvt 9 33]) (.reg [mvt 34 11, mvt 10 34])))))))) (.seq (.reg [rg 35 (.p false (.mv (.t 9))), rg 36 (.p false (.mv (.t 9))), rg 37 (.p false (.mv (.t 8))), rg 38 (.p false (.bin .lss (.t 36) (.t 37))), rg 39 (.p false (.mv (.t 38))), ⟨(some 40), (some (39, true)), (.p false (.mv (.t 2)))⟩, ⟨(some 41), (some (39, true)), (.p false (.mv (.t 0)))⟩, ⟨(some 42), (some (39, true)), (.p false (.mv (.t 9)))⟩, ⟨(some 43), (some (39, true)), (.p false (.iad (.t 41) (.t 42) 3))⟩, ⟨(some 44), (some (39, true)), (.p false (.ld (.t 43) 3 true))⟩, ⟨(some 45), (some (39, true)), (.p false (.ld (.t 4) 3 true))⟩, ⟨(some 46), (some (39, true)), (.callv (.t 40) [(.t 44), (.t 45)])⟩, ⟨(some 47), (some (39, true)), (.p false (.bin .eql (.t 46) (.c (.int .i64 0))))⟩, rg 48 (.p false (.pick (.t 39) (.t 47) (.c (.bool false)))), rg 6 (.p false (.mv (.t 35))), rg 7 (.p false (.mv (.t 48)))]) .ret)))))
theorem c26_is : compFn Try.prog 26 = some (c26, [(.tmp 6), (.tmp 7)]) := by kernel_rfl
theorem c26_ok : okFn Try.prog 26 = true := by kernel_rfl

noncomputable def F_slices_BinarySearchFunc_STurn_Turn_l0 (v0 : List TTurn) (v1 : TTurn) (k0 : Int × Int → Option (Int × Bool)) : Int × Int → Option (Int × Bool)
 | (v50002, v50003) => (bif (decide (v50002 < v50003)) then (need (0 ≤ (1 : Int)) (((ix v0 (w64 (Int.fdiv (IntKind.wrap .u64 (w64 (v50002 + v50003))) (2 ^ (min ((1 : Int)).toNat (IntKind.bits .u64)))))).bind fun v1001 => ((F_impl_compareTurns v1001 v1).bind fun v1002 => (bif (decide (v1002 < (0 : Int))) then k0 (w64 ((w64 (Int.fdiv (IntKind.wrap .u64 (w64 (v50002 + v50003))) (2 ^ (min ((1 : Int)).toNat (IntKind.bits .u64))))) + 1), v50003)
 else k0 (v50002, w64 (Int.fdiv (IntKind.wrap .u64 (w64 (v50002 + v50003))) (2 ^ (min ((1 : Int)).toNat (IntKind.bits .u64))))))))))
 else (bif (decide (v50002 < (v0.length : Int))) then ((ix v0 v50002).bind fun v1003 => ((F_impl_compareTurns v1003 v1).bind fun v1004 => some (v50002, (decide (v1004 = (0 : Int))))))
 else some (v50002, false)))
noncomputable def F_slices_BinarySearchFunc_STurn_Turn (v0 : List TTurn) (v1 : TTurn) : Option (Int × Bool) :=
 loop (F_slices_BinarySearchFunc_STurn_Turn_l0 v0 v1) (0, (v0.length : Int))
@[simp] def res_slices_BinarySearchFunc_STurn_Turn (r : Int × Bool) : RV := .tup [.one (.val (.int .i64 r.1)), .one (.val (.bool r.2))]
theorem con_slices_BinarySearchFunc_STurn_Turn {v0 : List TTurn} {v1 : TTurn} {r : Int × Bool} (hF : F_slices_BinarySearchFunc_STurn_Turn v0 v1 = some r) : Con Try.prog 26 [.sl 3 (v0.map eTurn), eTurn v1, .fn 27 []] (res_slices_BinarySearchFunc_STurn_Turn r) := by
 unfold F_slices_BinarySearchFunc_STurn_Turn at hF
 refine con_of c26_is fun N => ?_
 refine ws 0 192 ?_
 refine qf (.ptr 0 0 0) [(0, .box [AS v1.1, AI v1.2.1, AI v1.2.2])] (by simp) ?_
 refine qp (AI 0) rfl (qp (AB false) rfl ?_)
 refine r_nil ?_
 refine ws 192 384 ?_
 refine qp (AL 3 (v0.map eTurn)) rfl (qp (AI (v0.length : Int)) (ev_len_n rfl) (qp (AI (v0.length : Int)) rfl ?_))
 refine r_nil ?_
 refine ws 384 576 ?_
 refine qp (AI (v0.length : Int)) rfl (qp (AI 0) rfl (qp (AI (v0.length : Int)) rfl ?_))
 refine r_nil ?_
 refine w_seq ?_
 refine w_block ?_
 refine wr (l' := [(0, AL 3 (v0.map eTurn)), (2, .val none (.fn 27 [])), (4, .ptr 0 0 0), (8, AI (v0.length : Int)), (9, AI 0), (10, AI (v0.length : Int))]) (L := [(0, .box [AS v1.1, AI v1.2.1, AI v1.2.2])]) [0, 2, 4, 8, 9, 10] [(0, 0)] 1 ?_
 refine w_loopF (F_slices_BinarySearchFunc_STurn_Turn_l0 v0 v1) (fun s : Int × Int => mkS [(0, AL 3 (v0.map eTurn)), (2, .val none (.fn 27 [])), (4, .ptr 0 0 0), (8, AI (v0.length : Int)), (9, AI s.1), (10, AI s.2)] (fo [(0, .box [AS v1.1, AI v1.2.1, AI v1.2.2])]) 1) hF ?_
 rintro k0 ⟨v50002, v50003⟩ hF
 rw [F_slices_BinarySearchFunc_STurn_Turn_l0] at hF
 try dsimp only
 refine w_seq ?_
 refine ws 1 193 ?_
 refine qp (AI v50002) rfl (qp (AI v50003) rfl (qp (AB (decide (v50002 < v50003))) rfl ?_))
 refine r_nil ?_
 refine cF hF (fun hF => ?_) fun hF => ?_
 ·
  refine w_skip ?_
  refine thenQ_n ?_
  refine w_block ?_
  refine ws 193 641 ?_
  refine qp (AI v50002) rfl (qp (AI v50003) rfl (qp (AI (w64 (v50002 + v50003))) rfl (qp (.val none (.int .u64 (IntKind.wrap .u64 (w64 (v50002 + v50003))))) rfl ?_)))
  obtain ⟨g1000, hF⟩ := need_some hF
  refine qp (.val none (.int .u64 (Int.fdiv (IntKind.wrap .u64 (w64 (v50002 + v50003))) (2 ^ (min ((1 : Int)).toNat (IntKind.bits .u64)))))) (ev_shr rfl rfl g1000) (qp (AI (w64 (Int.fdiv (IntKind.wrap .u64 (w64 (v50002 + v50003))) (2 ^ (min ((1 : Int)).toNat (IntKind.bits .u64)))))) rfl (qp (AI (w64 (Int.fdiv (IntKind.wrap .u64 (w64 (v50002 + v50003))) (2 ^ (min ((1 : Int)).toNat (IntKind.bits .u64)))))) rfl ?_))
  refine r_nil ?_
  refine ws 641 1153 ?_
  refine qp (.val none (.fn 27 [])) rfl (qp (AL 3 (v0.map eTurn)) rfl (qp (AI (w64 (Int.fdiv (IntKind.wrap .u64 (w64 (v50002 + v50003))) (2 ^ (min ((1 : Int)).toNat (IntKind.bits .u64)))))) rfl ?_))
  obtain ⟨v1001, e1001, hF⟩ := bind_get hF
  refine qp (.val none (.ptr [.str v1001.1, .int .i64 v1001.2.1, .int .i64 v1001.2.2])) (ev_iad_n rfl rfl e1001 rfl) (qp (.val none (eTurn v1001)) rfl (qp (.agg [AS v1.1, AI v1.2.1, AI v1.2.2]) rfl ?_))
  obtain ⟨v1002, e1002, hF⟩ := bind_get hF
  refine qcv (AI v1002) [(0, .box [AS v1.1, AI v1.2.1, AI v1.2.2])] false rfl (con_impl_compareTurns e1002) c27_ok (by first | rfl | simp) rfl ?_
  refine qp (AB (decide (v1002 < (0 : Int)))) rfl ?_
  refine r_nil ?_
  refine cF hF (fun hF => ?_) fun hF => ?_
  ·
   refine w_reg 1153 1345 rfl rfl ?_
   refine qp (AI (w64 (Int.fdiv (IntKind.wrap .u64 (w64 (v50002 + v50003))) (2 ^ (min ((1 : Int)).toNat (IntKind.bits .u64)))))) rfl (qp (AI (w64 ((w64 (Int.fdiv (IntKind.wrap .u64 (w64 (v50002 + v50003))) (2 ^ (min ((1 : Int)).toNat (IntKind.bits .u64))))) + 1))) rfl (qp (AI (w64 ((w64 (Int.fdiv (IntKind.wrap .u64 (w64 (v50002 + v50003))) (2 ^ (min ((1 : Int)).toNat (IntKind.bits .u64))))) + 1))) rfl ?_))
   refine r_nil ?_
   refine blockQ_n ?_
   refine thenQ_n ?_
   refine ar (l' := [(0, AL 3 (v0.map eTurn)), (2, .val none (.fn 27 [])), (4, .ptr 0 0 0), (8, AI (v0.length : Int)), (9, AI (w64 ((w64 (Int.fdiv (IntKind.wrap .u64 (w64 (v50002 + v50003))) (2 ^ (min ((1 : Int)).toNat (IntKind.bits .u64))))) + 1))), (10, AI v50003)]) (L := [(0, .box [AS v1.1, AI v1.2.1, AI v1.2.2])]) [0, 2, 4, 8, 9, 10] [(0, 0)] 1 ⟨_, by rfl, hF⟩
  ·
   refine w_reg 1153 1281 rfl rfl ?_
   refine qp (AI (w64 (Int.fdiv (IntKind.wrap .u64 (w64 (v50002 + v50003))) (2 ^ (min ((1 : Int)).toNat (IntKind.bits .u64)))))) rfl (qp (AI (w64 (Int.fdiv (IntKind.wrap .u64 (w64 (v50002 + v50003))) (2 ^ (min ((1 : Int)).toNat (IntKind.bits .u64)))))) rfl ?_)
   refine r_nil ?_
   refine blockQ_n ?_
   refine thenQ_n ?_
   refine ar (l' := [(0, AL 3 (v0.map eTurn)), (2, .val none (.fn 27 [])), (4, .ptr 0 0 0), (8, AI (v0.length : Int)), (9, AI v50002), (10, AI (w64 (Int.fdiv (IntKind.wrap .u64 (w64 (v50002 + v50003))) (2 ^ (min ((1 : Int)).toNat (IntKind.bits .u64))))))]) (L := [(0, .box [AS v1.1, AI v1.2.1, AI v1.2.2])]) [0, 2, 4, 8, 9, 10] [(0, 0)] 1 ⟨_, by rfl, hF⟩
 ·
  refine w_exit ?_
  refine thenQ_e ?_
  refine thenQ_e ?_
  refine blockQ_e ?_
  refine thenQ_n ?_
  refine ws 193 1217 ?_
  refine qp (AI v50002) rfl (qp (AI v50002) rfl (qp (AI (v0.length : Int)) rfl (qp (AB (decide (v50002 < (v0.length : Int)))) rfl (qp (AB (decide (v50002 < (v0.length : Int)))) rfl ?_))))
  refine q_case 39 hF rfl (fun hF => ?_) (fun hF => ?_)
  ·
   refine qg (.val none (.fn 27 [])) rfl rfl (qg (AL 3 (v0.map eTurn)) rfl rfl (qg (AI v50002) rfl rfl ?_))
   obtain ⟨v1003, e1003, hF⟩ := bind_get hF
   refine qg (.val none (.ptr [.str v1003.1, .int .i64 v1003.2.1, .int .i64 v1003.2.2])) rfl (ev_iad_n rfl rfl e1003 rfl) (qg (.val none (eTurn v1003)) rfl rfl (qg (.agg [AS v1.1, AI v1.2.1, AI v1.2.2]) rfl rfl ?_))
   obtain ⟨v1004, e1004, hF⟩ := bind_get hF
   refine qcvg (AI v1004) [(0, .box [AS v1.1, AI v1.2.1, AI v1.2.2])] false rfl rfl (con_impl_compareTurns e1004) c27_ok (by first | rfl | simp) rfl ?_
   refine qg (AB (decide (v1004 = (0 : Int)))) rfl rfl (qp (AB (decide (v1004 = (0 : Int)))) rfl (qp (AI v50002) rfl (qp (AB (decide (v1004 = (0 : Int)))) rfl ?_)))
   refine r_nil ?_
   refine w_ret ?_
   cases hF
   exact eR
  ·
   refine qn rfl (qn rfl (qn rfl (qn rfl (qn rfl (qn rfl (qn rfl (qn rfl ?_)))))))
   refine qp (AB false) rfl (qp (AI v50002) rfl (qp (AB false) rfl ?_))
   refine r_nil ?_
   refine w_ret ?_
   cases hF
   exact eR

theorem c28_ok : okFn Try.prog 28 = true := by kernel_rfl




end Go.Ab
