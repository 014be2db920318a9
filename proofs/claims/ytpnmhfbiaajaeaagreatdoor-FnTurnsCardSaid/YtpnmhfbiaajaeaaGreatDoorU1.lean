/- Walks (printed by auto.py, a program of this session's own). -/
import Derived.Test.YtpnmhfbiaajaeaaGreatDoorU0
import Derived.Test.YtpnmhfbiaajaeaaGreatDoorProg
import Derived.KernelRfl
import Derived.Test.YtpnmhfbiaajaeaaGreatDoorSQ
set_option linter.unusedVariables false
set_option linter.unusedSimpArgs false
set_option maxRecDepth 8000
set_option maxHeartbeats 8000000
namespace Go.Ab
open Go.RowKit Go.Proofs

def c25 : MC := (.seq (.reg [rg 2 (.f (.nilrow 3))]) (.seq (.reg [rg 8 (.f (.bsl 3 [])), mvt 3 8]) (.seq (.seq (.reg [mvt 9 0, rg 10 (.call true 36 [(.t 9), (.c (.int .i64 7))]), mvt 4 10]) (.block 0 (.loop (.seq (.seq (.reg [mvt 11 4, rg 12 (.p true (.bin .gtr (.t 11) (.c (.int .i64 0))))]) (.cond (.t 12) .skip (.exit 0))) (.seq (.block 1 (.seq (.reg [mvt 15 0, rg 16 (.call true 37 [(.t 15)]), mvt 17 0, rg 18 (.call true 36 [(.t 17), (.c (.int .i64 20))]), rg 19 (.p true (.bin .mul (.c (.int .i64 4)) (.t 18))), rg 20 (.f (.bld [((.str []), (0, true)), ((.int .i64 0), (0, true)), ((.int .i64 0), (0, false))] [(0, (1, (.t 16))), (1, (1, (.t 19)))])), rg 5 (.f (.alloc [((.str []), (0, false)), ((.int .i64 0), (0, false)), ((.int .i64 0), (0, false))])), ⟨none, none, (.f (.st (.t 5) (.t 20) 3))⟩]) (.seq (.reg [mvt 21 0, rg 22 (.call true 36 [(.t 21), (.c (.int .i64 5))]), rg 23 (.p true (.bin .mul (.c (.int .i64 4)) (.t 22))), rg 24 (.p true (.bin .add (.c (.int .i64 4)) (.t 23))), rg 25 (.p true (.fad (.t 5) 2)), ⟨none, none, (.f (.st (.t 25) (.t 24) 1))⟩]) (.seq (.reg [rg 6 (.p true (.mv (.c (.bool false))))]) (.seq (.seq (.reg [rg 7 (.p true (.mv (.c (.int .i64 0))))]) (.block 2 (.loop (.seq (.seq (.reg [mvt 26 7, mvt 27 3, rg 28 (.p true (.len (.t 27))), rg 29 (.p true (.bin .lss (.t 26) (.t 28)))]) (.cond (.t 29) .skip (.exit 2))) (.seq (.block 3 (.reg [rg 32 (.p false (.mv (.t 6))), rg 33 (.p false (.mv (.t 32))), ⟨(some 34), (some (33, false)), (.p false (.mv (.t 3)))⟩, ⟨(some 35), (some (33, false)), (.p false (.mv (.t 7)))⟩, ⟨(some 36), (some (33, false)), (.p false (.iad (.t 34) (.t 35) 3))⟩, ⟨(some 37), (some (33, false)), (.p false (.ld (.t 36) 3 true))⟩, ⟨(some 38), (some (33, false)), (.p false (.ld (.t 5) 3 true))⟩, ⟨(some 39), (some (33, false)), (.p false (.eqs false [2, 0, 0] (.t 37) (.t 38)))⟩, rg 40 (.p false (.pick (.t 33) (.c (.bool true)) (.t 39))), rg 6 (.p false (.mv (.t 40)))])) (.reg [mvt 30 7, rg 31 (.p true (.bin .add (.t 30) (.c (.int .i64 1)))), mvt 7 31])))))) (.seq (.reg [mvt 41 6, rg 42 (.p true (.not (.t 41)))]) (.cond (.t 42) (.reg [mvt 43 3, rg 44 (.p true (.ld (.t 5) 3 true)), rg 45 (.call true 38 [(.t 43), (.t 44)]), mvt 3 45]) .skip))))))) (.reg [mvt 13 4, rg 14 (.p true (.bin .sub (.t 13) (.c (.int .i64 1)))), mvt 4 14])))))) (.seq (.reg [mvt 46 3, mvt 2 46]) .ret))))
theorem c25_is : compFnM Tryz.prog 25 = some (c25, [(.tmp 2)]) := by kernel_rfl
theorem c25_ok : okFn Tryz.prog 25 = true := by kernel_rfl

noncomputable def F_spec_l23Draw_l3 (v1015 : TL00Src × (List UInt8)) (v1016 : TL00Src × Int) (v1017 : TL00Src × Int) (v50035 : Int) (v50039 : List TTurn) (k6 : Int × (List Int) × Int × Int × (List TTurn) → Option (TL00Src × (List TTurn))) (k7 : Bool × Int → Option (TL00Src × (List TTurn))) : Bool × Int → Option (TL00Src × (List TTurn))
 | (v50042, v50043) => (bif (decide (v50043 < (v50039.length : Int))) then (bif v50042 then k7 (true, w64 (v50043 + 1))
 else ((ix v50039 v50043).bind fun v1020 => k7 ((decide (v1020.1 = v1015.2) && (decide (v1020.2.1 = w64 (4 * v1016.2)) && (decide (v1020.2.2 = w64 (4 + (w64 (4 * v1017.2)))) && true))), w64 (v50043 + 1))))
 else (bif (!v50042) then ((F_spec_l23Put v50039 (v1015.2, w64 (4 * v1016.2), w64 (4 + (w64 (4 * v1017.2))))).bind fun v1021 => k6 (w64 (v50035 - 1), v1017.1.1, v1017.1.2.1, v1017.1.2.2, v1021))
 else k6 (w64 (v50035 - 1), v1017.1.1, v1017.1.2.1, v1017.1.2.2, v50039)))
noncomputable def F_spec_l23Draw_l2 (k6 : Int × (List Int) × Int × Int × (List TTurn) → Option (TL00Src × (List TTurn))) : Int × (List Int) × Int × Int × (List TTurn) → Option (TL00Src × (List TTurn))
 | (v50035, v50036, v50037, v50038, v50039) => (bif (decide ((0 : Int) < v50035)) then ((F_spec_l23Player (v50036, v50037, v50038)).bind fun v1015 => ((F_spec_l00Src_pick v1015.1 20).bind fun v1016 => ((F_spec_l00Src_pick v1016.1 5).bind fun v1017 => loop (F_spec_l23Draw_l3 v1015 v1016 v1017 v50035 v50039 k6) (false, 0))))
 else some ((v50036, v50037, v50038), v50039))
noncomputable def F_spec_l23Draw (v0 : TL00Src) : Option (TL00Src × (List TTurn)) :=
 ((F_spec_l00Src_pick v0 7).bind fun v1000 => loop (F_spec_l23Draw_l2) (v1000.2, v1000.1.1, v1000.1.2.1, v1000.1.2.2, []))
@[simp] def res_spec_l23Draw (r : TL00Src × (List TTurn)) : RV := .one (.one (.row true 3 (r.2.map eTurn)))
theorem con_spec_l23Draw {v0 : TL00Src} {r : TL00Src × (List TTurn)} (hF : F_spec_l23Draw v0 = some r) : ConP Tryz.prog 25 [.sl 1 (v0.1.map (V.int .u8)), .int .i64 v0.2.1, .int .u64 v0.2.2] [.sl 1 (r.1.1.map (V.int .u8)), .int .i64 r.1.2.1, .int .u64 r.1.2.2] [] (res_spec_l23Draw r) := by
 unfold F_spec_l23Draw at hF
 refine conP_of (L := [(0, .box [.val none (.sl 1 (v0.1.map (V.int .u8))), AI v0.2.1, .val none (.int .u64 v0.2.2)])]) c25_is rfl fun N => ?_
 refine ws 64 128 ?_
 refine qf (.sl 64 0 0) [(64, .row true 3 (([] : List Int).map vI)), (0, .box [.val none (.sl 1 (v0.1.map (V.int .u8))), AI v0.2.1, .val none (.int .u64 v0.2.2)])] (by simp) ?_
 refine r_nil ?_
 refine ws 128 256 ?_
 refine qf (.sl 128 0 0) [(128, .row true 3 (([] : List TTurn).map eTurn)), (64, .row true 3 (([] : List Int).map vI)), (0, .box [.val none (.sl 1 (v0.1.map (V.int .u8))), AI v0.2.1, .val none (.int .u64 v0.2.2)])] (by simp [List.take_of_length_le]) ?_
 refine qp (.sl 128 0 0) rfl ?_
 refine r_nil ?_
 refine w_seq ?_
 refine ws 256 448 ?_
 refine qp (.ptr 0 0 0) rfl ?_
 obtain ⟨v1000, e1000, hF⟩ := bind_get hF
 refine qP [] (AI v1000.2) [(0, .box [.val none (.sl 1 (v1000.1.1.map (V.int .u8))), AI v1000.1.2.1, .val none (.int .u64 v1000.1.2.2)]), (128, .row true 3 (([] : List TTurn).map eTurn)), (64, .row true 3 (([] : List Int).map vI)), (0, .box [.val none (.sl 1 (v0.1.map (V.int .u8))), AI v0.2.1, .val none (.int .u64 v0.2.2)])] rfl rfl rfl (by decide) (con_spec_l00Src_pick e1000) c36_ok (by first | rfl | simp) killO_nil rfl rfl ?_
 refine qp (AI v1000.2) rfl ?_
 refine r_nil ?_
 refine w_block ?_
 refine wr (l' := [(0, .ptr 0 0 0), (3, .sl 1 0 0), (4, AI v1000.2)]) (L := [(1, .row true 3 (([] : List TTurn).map eTurn)), (0, .box [.val none (.sl 1 (v1000.1.1.map (V.int .u8))), AI v1000.1.2.1, .val none (.int .u64 v1000.1.2.2)])]) [0, 3, 4] [(128, 1), (0, 0)] 2 ?_
 refine w_loopF (F_spec_l23Draw_l2) (fun s : Int × (List Int) × Int × Int × (List TTurn) => mkS [(0, .ptr 0 0 0), (3, .sl 1 0 s.2.2.2.2.length), (4, AI s.1)] (fo [(1, .row true 3 (s.2.2.2.2.map eTurn)), (0, .box [.val none (.sl 1 (s.2.1.map (V.int .u8))), AI s.2.2.1, .val none (.int .u64 s.2.2.2.1)])]) 2) hF ?_
 rintro k6 ⟨v50035, v50036, v50037, v50038, v50039⟩ hF
 rw [F_spec_l23Draw_l2] at hF
 try dsimp only
 refine w_seq ?_
 refine ws 2 130 ?_
 refine qp (AI v50035) rfl (qp (AB (decide ((0 : Int) < v50035))) rfl ?_)
 refine r_nil ?_
 refine cF hF (fun hF => ?_) fun hF => ?_
 ·
  refine w_skip ?_
  refine thenQ_n ?_
  refine w_seq ?_
  refine w_block ?_
  refine ws 130 642 ?_
  refine qp (.ptr 0 0 0) rfl ?_
  obtain ⟨v1015, e1015, hF⟩ := bind_get hF
  refine qP [] (AS v1015.2) [(0, .box [.val none (.sl 1 (v1015.1.1.map (V.int .u8))), AI v1015.1.2.1, .val none (.int .u64 v1015.1.2.2)]), (1, .row true 3 (v50039.map eTurn)), (0, .box [.val none (.sl 1 (v50036.map (V.int .u8))), AI v50037, .val none (.int .u64 v50038)])] rfl rfl rfl (by decide) (con_spec_l23Player e1015) c37_ok (by first | rfl | simp) killO_nil rfl rfl ?_
  refine qp (.ptr 0 0 0) rfl ?_
  obtain ⟨v1016, e1016, hF⟩ := bind_get hF
  refine qP [] (AI v1016.2) [(0, .box [.val none (.sl 1 (v1016.1.1.map (V.int .u8))), AI v1016.1.2.1, .val none (.int .u64 v1016.1.2.2)]), (0, .box [.val none (.sl 1 (v1015.1.1.map (V.int .u8))), AI v1015.1.2.1, .val none (.int .u64 v1015.1.2.2)]), (1, .row true 3 (v50039.map eTurn)), (0, .box [.val none (.sl 1 (v50036.map (V.int .u8))), AI v50037, .val none (.int .u64 v50038)])] rfl rfl rfl (by decide) (con_spec_l00Src_pick e1016) c36_ok (by first | rfl | simp) killO_nil rfl rfl ?_
  refine qp (AI (w64 (4 * v1016.2))) rfl ?_
  refine qf (.agg [AS v1015.2, AI (w64 (4 * v1016.2)), AI 0]) [(0, .box [.val none (.sl 1 (v1016.1.1.map (V.int .u8))), AI v1016.1.2.1, .val none (.int .u64 v1016.1.2.2)]), (0, .box [.val none (.sl 1 (v1015.1.1.map (V.int .u8))), AI v1015.1.2.1, .val none (.int .u64 v1015.1.2.2)]), (1, .row true 3 (v50039.map eTurn)), (0, .box [.val none (.sl 1 (v50036.map (V.int .u8))), AI v50037, .val none (.int .u64 v50038)])] (by simp) ?_
  refine qf (.ptr 514 0 0) [(514, .box [AS [], AI 0, AI 0]), (0, .box [.val none (.sl 1 (v1016.1.1.map (V.int .u8))), AI v1016.1.2.1, .val none (.int .u64 v1016.1.2.2)]), (0, .box [.val none (.sl 1 (v1015.1.1.map (V.int .u8))), AI v1015.1.2.1, .val none (.int .u64 v1015.1.2.2)]), (1, .row true 3 (v50039.map eTurn)), (0, .box [.val none (.sl 1 (v50036.map (V.int .u8))), AI v50037, .val none (.int .u64 v50038)])] (by simp) ?_
  refine qf0 (.undef) [(514, .box [AS v1015.2, AI (w64 (4 * v1016.2)), AI 0]), (514, .box [AS [], AI 0, AI 0]), (0, .box [.val none (.sl 1 (v1016.1.1.map (V.int .u8))), AI v1016.1.2.1, .val none (.int .u64 v1016.1.2.2)]), (0, .box [.val none (.sl 1 (v1015.1.1.map (V.int .u8))), AI v1015.1.2.1, .val none (.int .u64 v1015.1.2.2)]), (1, .row true 3 (v50039.map eTurn)), (0, .box [.val none (.sl 1 (v50036.map (V.int .u8))), AI v50037, .val none (.int .u64 v50038)])] (by simp) ?_
  refine r_nil ?_
  refine ws 642 1026 ?_
  refine qp (.ptr 0 0 0) rfl ?_
  obtain ⟨v1017, e1017, hF⟩ := bind_get hF
  refine qP [] (AI v1017.2) [(0, .box [.val none (.sl 1 (v1017.1.1.map (V.int .u8))), AI v1017.1.2.1, .val none (.int .u64 v1017.1.2.2)]), (514, .box [AS v1015.2, AI (w64 (4 * v1016.2)), AI 0]), (514, .box [AS [], AI 0, AI 0]), (0, .box [.val none (.sl 1 (v1016.1.1.map (V.int .u8))), AI v1016.1.2.1, .val none (.int .u64 v1016.1.2.2)]), (0, .box [.val none (.sl 1 (v1015.1.1.map (V.int .u8))), AI v1015.1.2.1, .val none (.int .u64 v1015.1.2.2)]), (1, .row true 3 (v50039.map eTurn)), (0, .box [.val none (.sl 1 (v50036.map (V.int .u8))), AI v50037, .val none (.int .u64 v50038)])] rfl rfl rfl (by decide) (con_spec_l00Src_pick e1017) c36_ok (by first | rfl | simp) killO_nil rfl rfl ?_
  refine qp (AI (w64 (4 * v1017.2))) rfl (qp (AI (w64 (4 + (w64 (4 * v1017.2))))) rfl (qp (.ptr 514 0 2) rfl ?_))
  refine qf0 (.undef) [(514, .box [AS v1015.2, AI (w64 (4 * v1016.2)), AI (w64 (4 + (w64 (4 * v1017.2))))]), (0, .box [.val none (.sl 1 (v1017.1.1.map (V.int .u8))), AI v1017.1.2.1, .val none (.int .u64 v1017.1.2.2)]), (514, .box [AS v1015.2, AI (w64 (4 * v1016.2)), AI 0]), (514, .box [AS [], AI 0, AI 0]), (0, .box [.val none (.sl 1 (v1016.1.1.map (V.int .u8))), AI v1016.1.2.1, .val none (.int .u64 v1016.1.2.2)]), (0, .box [.val none (.sl 1 (v1015.1.1.map (V.int .u8))), AI v1015.1.2.1, .val none (.int .u64 v1015.1.2.2)]), (1, .row true 3 (v50039.map eTurn)), (0, .box [.val none (.sl 1 (v50036.map (V.int .u8))), AI v50037, .val none (.int .u64 v50038)])] (by simp) ?_
  refine r_nil ?_
  refine ws 1026 1090 ?_
  refine qp (AB false) rfl ?_
  refine r_nil ?_
  refine w_seq ?_
  refine ws 1090 1154 ?_
  refine qp (AI 0) rfl ?_
  refine r_nil ?_
  refine w_block ?_
  refine wr (l' := [(0, .ptr 0 0 0), (3, .sl 1 0 v50039.length), (4, AI v50035), (5, .ptr 2 0 0), (6, AB false), (7, AI 0)]) (L := [(2, .box [AS v1015.2, AI (w64 (4 * v1016.2)), AI (w64 (4 + (w64 (4 * v1017.2))))]), (1, .row true 3 (v50039.map eTurn)), (0, .box [.val none (.sl 1 (v1017.1.1.map (V.int .u8))), AI v1017.1.2.1, .val none (.int .u64 v1017.1.2.2)])]) [0, 3, 4, 5, 6, 7] [(514, 2), (1, 1), (0, 0)] 3 ?_
  refine w_loopF (F_spec_l23Draw_l3 v1015 v1016 v1017 v50035 v50039 k6) (fun s : Bool × Int => mkS [(0, .ptr 0 0 0), (3, .sl 1 0 v50039.length), (4, AI v50035), (5, .ptr 2 0 0), (6, AB s.1), (7, AI s.2)] (fo [(2, .box [AS v1015.2, AI (w64 (4 * v1016.2)), AI (w64 (4 + (w64 (4 * v1017.2))))]), (1, .row true 3 (v50039.map eTurn)), (0, .box [.val none (.sl 1 (v1017.1.1.map (V.int .u8))), AI v1017.1.2.1, .val none (.int .u64 v1017.1.2.2)])]) 3) hF ?_
  rintro k7 ⟨v50042, v50043⟩ hF
  rw [F_spec_l23Draw_l3] at hF
  try dsimp only
  refine w_seq ?_
  refine ws 3 259 ?_
  refine qp (AI v50043) rfl (qp (.sl 1 0 v50039.length) rfl (qp (AI (v50039.length : Int)) rfl (qp (AB (decide (v50043 < (v50039.length : Int)))) rfl ?_)))
  refine r_nil ?_
  refine cF hF (fun hF => ?_) fun hF => ?_
  ·
   refine w_skip ?_
   refine thenQ_n ?_
   refine w_seq ?_
   refine w_block ?_
   refine w_reg 259 899 rfl rfl ?_
   refine qp (AB v50042) rfl (qp (AB v50042) rfl ?_)
   refine q_case 33 hF rfl (fun hF => ?_) (fun hF => ?_)
   ·
    refine qn rfl (qn rfl (qn rfl (qn rfl (qn rfl (qn rfl (qp (AB true) rfl (qp (AB true) rfl ?_)))))))
    refine r_nil ?_
    refine blockQ_n ?_
    refine thenQ_n ?_
    refine w_reg 899 1091 rfl rfl ?_
    refine qp (AI v50043) rfl (qp (AI (w64 (v50043 + 1))) rfl (qp (AI (w64 (v50043 + 1))) rfl ?_))
    refine r_nil ?_
    refine thenQ_n ?_
    refine ar (l' := [(0, .ptr 0 0 0), (3, .sl 1 0 v50039.length), (4, AI v50035), (5, .ptr 2 0 0), (6, AB true), (7, AI (w64 (v50043 + 1)))]) (L := [(2, .box [AS v1015.2, AI (w64 (4 * v1016.2)), AI (w64 (4 + (w64 (4 * v1017.2))))]), (1, .row true 3 (v50039.map eTurn)), (0, .box [.val none (.sl 1 (v1017.1.1.map (V.int .u8))), AI v1017.1.2.1, .val none (.int .u64 v1017.1.2.2)])]) [0, 3, 4, 5, 6, 7] [(2, 2), (1, 1), (0, 0)] 3 ⟨_, by rfl, hF⟩
   ·
    refine qg (.sl 1 0 v50039.length) rfl rfl (qg (AI v50043) rfl rfl ?_)
    obtain ⟨v1020, e1020, hF⟩ := bind_get hF
    refine qg (.ptr 1 v50043.toNat 0) rfl (ev_iad_r rfl (by simp) rfl rfl e1020) (qg (.val none (eTurn v1020)) rfl (ev_ld_r rfl rfl (ix_some e1020).2 rfl rfl) (qg (.agg [AS v1015.2, AI (w64 (4 * v1016.2)), AI (w64 (4 + (w64 (4 * v1017.2))))]) rfl rfl (qg (AB (decide (v1020.1 = v1015.2) && (decide (v1020.2.1 = w64 (4 * v1016.2)) && (decide (v1020.2.2 = w64 (4 + (w64 (4 * v1017.2)))) && true)))) rfl rfl (qp (AB (decide (v1020.1 = v1015.2) && (decide (v1020.2.1 = w64 (4 * v1016.2)) && (decide (v1020.2.2 = w64 (4 + (w64 (4 * v1017.2)))) && true)))) rfl (qp (AB (decide (v1020.1 = v1015.2) && (decide (v1020.2.1 = w64 (4 * v1016.2)) && (decide (v1020.2.2 = w64 (4 + (w64 (4 * v1017.2)))) && true)))) rfl ?_)))))
    refine r_nil ?_
    refine blockQ_n ?_
    refine thenQ_n ?_
    refine w_reg 899 1091 rfl rfl ?_
    refine qp (AI v50043) rfl (qp (AI (w64 (v50043 + 1))) rfl (qp (AI (w64 (v50043 + 1))) rfl ?_))
    refine r_nil ?_
    refine thenQ_n ?_
    refine ar (l' := [(0, .ptr 0 0 0), (3, .sl 1 0 v50039.length), (4, AI v50035), (5, .ptr 2 0 0), (6, AB (decide (v1020.1 = v1015.2) && (decide (v1020.2.1 = w64 (4 * v1016.2)) && (decide (v1020.2.2 = w64 (4 + (w64 (4 * v1017.2)))) && true)))), (7, AI (w64 (v50043 + 1)))]) (L := [(2, .box [AS v1015.2, AI (w64 (4 * v1016.2)), AI (w64 (4 + (w64 (4 * v1017.2))))]), (1, .row true 3 (v50039.map eTurn)), (0, .box [.val none (.sl 1 (v1017.1.1.map (V.int .u8))), AI v1017.1.2.1, .val none (.int .u64 v1017.1.2.2)])]) [0, 3, 4, 5, 6, 7] [(2, 2), (1, 1), (0, 0)] 3 ⟨_, by rfl, hF⟩
  ·
   refine w_exit ?_
   refine thenQ_e ?_
   refine thenQ_e ?_
   refine blockQ_e ?_
   refine thenQ_n ?_
   refine ws 259 387 ?_
   refine qp (AB v50042) rfl (qp (AB (!v50042)) rfl ?_)
   refine r_nil ?_
   refine cF hF (fun hF => ?_) fun hF => ?_
   ·
    refine w_reg 387 643 rfl rfl ?_
    refine qp (.sl 1 0 v50039.length) rfl (qp (.agg [AS v1015.2, AI (w64 (4 * v1016.2)), AI (w64 (4 + (w64 (4 * v1017.2))))]) rfl ?_)
    obtain ⟨v1021, e1021, hF⟩ := bind_get hF
    refine qc (.sl 515 0 v1021.length) [(515, .row true 3 (v1021.map eTurn)), (2, .box [AS v1015.2, AI (w64 (4 * v1016.2)), AI (w64 (4 + (w64 (4 * v1017.2))))]), (1, .row true 3 (v50039.map eTurn)), (0, .box [.val none (.sl 1 (v1017.1.1.map (V.int .u8))), AI v1017.1.2.1, .val none (.int .u64 v1017.1.2.2)])] true (con_spec_l23Put e1021) c38_ok (by simp [List.take_of_length_le]) (by simp [res_spec_l23Put]) ?_
    refine qp (.sl 515 0 v1021.length) rfl ?_
    refine r_nil ?_
    refine blockQ_n ?_
    refine thenQ_n ?_
    refine w_reg 643 835 rfl rfl ?_
    refine qp (AI v50035) rfl (qp (AI (w64 (v50035 - 1))) rfl (qp (AI (w64 (v50035 - 1))) rfl ?_))
    refine r_nil ?_
    refine thenQ_n ?_
    refine ar (l' := [(0, .ptr 0 0 0), (3, .sl 1 0 v1021.length), (4, AI (w64 (v50035 - 1)))]) (L := [(1, .row true 3 (v1021.map eTurn)), (0, .box [.val none (.sl 1 (v1017.1.1.map (V.int .u8))), AI v1017.1.2.1, .val none (.int .u64 v1017.1.2.2)])]) [0, 3, 4] [(515, 1), (0, 0)] 2 ⟨_, by rfl, hF⟩
   ·
    refine w_skip ?_
    refine blockQ_n ?_
    refine thenQ_n ?_
    refine w_reg 387 579 rfl rfl ?_
    refine qp (AI v50035) rfl (qp (AI (w64 (v50035 - 1))) rfl (qp (AI (w64 (v50035 - 1))) rfl ?_))
    refine r_nil ?_
    refine thenQ_n ?_
    refine ar (l' := [(0, .ptr 0 0 0), (3, .sl 1 0 v50039.length), (4, AI (w64 (v50035 - 1)))]) (L := [(1, .row true 3 (v50039.map eTurn)), (0, .box [.val none (.sl 1 (v1017.1.1.map (V.int .u8))), AI v1017.1.2.1, .val none (.int .u64 v1017.1.2.2)])]) [0, 3, 4] [(1, 1), (0, 0)] 2 ⟨_, by rfl, hF⟩
 ·
  refine w_exit ?_
  refine thenQ_e ?_
  refine thenQ_e ?_
  refine blockQ_e ?_
  refine thenQ_n ?_
  refine ws 130 258 ?_
  refine qp (.sl 1 0 v50039.length) rfl (qp (.sl 1 0 v50039.length) rfl ?_)
  refine r_nil ?_
  refine w_ret ?_
  cases hF
  exact endP_r rfl (by first | rfl | (simp [List.take_of_length_le]; first | exact ⟨rfl, rfl⟩ | rfl)) (by simp) (by first | rfl | simp) (by first | rfl | simp [res_spec_l23Draw, List.take_of_length_le]) rfl (by first | rfl | simp)

def c12 : MC := (.seq (.reg [rg 2 (.f (.nilrow 3))]) (.seq (.reg [mvt 4 0, rg 5 (.call true 24 [(.t 4)]), mvt 3 5]) (.seq (.reg [mvt 6 3, rg 7 (.call true 25 [(.t 6)]), mvt 2 7]) .ret)))
theorem c12_is : compFn Tryz.prog 12 = some (c12, [(.tmp 2)]) := by kernel_rfl
theorem c12_ok : okFn Tryz.prog 12 = true := by kernel_rfl

noncomputable def F_spec_R8Turns (v0 : List Int) : Option (List TTurn) :=
 (((F_spec_l23Draw (v0, 0, 0)).bind fun v1000 => some v1000.2))
@[simp] def res_spec_R8Turns (r : List TTurn) : RV := .one (.one (.row true 3 (r.map eTurn)))
theorem con_spec_R8Turns {v0 : List Int} {r : List TTurn} (hF : F_spec_R8Turns v0 = some r) : Con Tryz.prog 12 [.sl 1 (v0.map (V.int .u8))] (res_spec_R8Turns r) := by
 unfold F_spec_R8Turns at hF
 refine con_of c12_is fun N => ?_
 refine ws 0 64 ?_
 refine qf (.sl 0 0 0) [(0, .row true 3 (([] : List Int).map vI))] (by simp) ?_
 refine r_nil ?_
 refine ws 64 256 ?_
 refine qp (AL 1 (v0.map (V.int .u8))) rfl ?_
 refine qN [(128, .box [.val none (.sl 1 (v0.map (V.int .u8))), AI 0, .val none (.int .u64 0)]), (0, .row true 3 (([] : List Int).map vI))] (con_l00From_24 v0) c24_ok (by first | rfl | simp) rfl ?_
 refine qp (.ptr 128 0 0) rfl ?_
 refine r_nil ?_
 refine ws 256 448 ?_
 refine qp (.ptr 128 0 0) rfl ?_
 obtain ⟨v1000, e1000, hF⟩ := bind_get hF
 refine qP [] (.sl 320 0 v1000.2.length) [(320, .row true 3 (v1000.2.map eTurn)), (128, .box [.val none (.sl 1 (v1000.1.1.map (V.int .u8))), AI v1000.1.2.1, .val none (.int .u64 v1000.1.2.2)]), (128, .box [.val none (.sl 1 (v0.map (V.int .u8))), AI 0, .val none (.int .u64 0)]), (0, .row true 3 (([] : List Int).map vI))] rfl rfl rfl (by decide) (con_spec_l23Draw e1000) c25_ok (by first | rfl | simp) killO_nil rfl (by simp [res_spec_l23Draw]) ?_
 refine qp (.sl 320 0 v1000.2.length) rfl ?_
 refine r_nil ?_
 refine w_ret ?_
 cases hF
 exact eR

def c3 : MC := (.seq (.reg [rg 2 (.p true (.mv (.c (.bool false))))]) (.seq (.seq (.reg [mvt 22 0, rg 23 (.p true (.len (.t 22))), rg 24 (.p true (.bin .gtr (.t 23) (.c (.int .i64 1048576))))]) (.cond (.t 24) (.seq (.reg [rg 2 (.p true (.mv (.c (.bool true))))]) .ret) .skip)) (.seq (.reg [mvt 25 0, rg 26 (.call true 4 [(.t 25), (.c (.int .i64 0)), (.c (.int .i64 2000))]), mvt 3 26]) (.seq (.reg [mvt 27 0, rg 28 (.call true 5 [(.t 27), (.c (.int .i64 2)), (.c (.int .i64 60))]), rg 29 (.p true (.bin .add (.c (.int .i64 1)) (.t 28))), mvt 4 29]) (.seq (.reg [mvt 30 0, rg 31 (.call true 5 [(.t 30), (.c (.int .i64 3)), (.c (.int .i64 12))]), rg 32 (.p true (.bin .add (.c (.int .i64 1)) (.t 31))), mvt 5 32]) (.seq (.reg [mvt 34 3, mvt 35 4, mvt 36 5, rg 37 (.call true 6 [(.c (.str [102, 108, 117, 116, 101])), (.c (.str [100, 114, 117, 109])), (.t 34), (.t 35), (.t 36)]), mvt 33 37, rg 38 (.p true (.ext (.t 33) 0)), rg 39 (.p true (.ext (.t 33) 1)), mvt 6 38, mvt 7 39]) (.seq (.reg [mvt 41 6, rg 42 (.call true 7 [(.t 41)]), mvt 40 42, rg 43 (.p true (.ext (.t 40) 0)), rg 44 (.p true (.ext (.t 40) 1)), mvt 8 43, mvt 9 44]) (.seq (.seq (.reg [mvt 45 7, rg 46 (.p true (.bin .neq (.t 45) (.c (.int .i64 0)))), mvt 47 46, ⟨(some 48), (some (47, false)), (.p true (.mv (.t 6)))⟩, ⟨(some 49), (some (47, false)), (.call true 8 [(.t 48)])⟩, ⟨(some 50), (some (47, false)), (.p true (.not (.t 49)))⟩, rg 51 (.p true (.pick (.t 47) (.c (.bool true)) (.t 50))), mvt 52 51, ⟨(some 53), (some (52, false)), (.p true (.mv (.t 6)))⟩, ⟨(some 54), (some (52, false)), (.p true (.len (.t 53)))⟩, ⟨(some 55), (some (52, false)), (.p true (.mv (.t 5)))⟩, ⟨(some 56), (some (52, false)), (.p true (.bin .mul (.c (.int .i64 2)) (.t 55)))⟩, ⟨(some 57), (some (52, false)), (.p true (.bin .neq (.t 54) (.t 56)))⟩, rg 58 (.p true (.pick (.t 52) (.c (.bool true)) (.t 57))), mvt 59 58, ⟨(some 60), (some (59, false)), (.p true (.mv (.t 9)))⟩, ⟨(some 61), (some (59, false)), (.p true (.bin .neq (.t 60) (.c (.int .i64 0))))⟩, rg 62 (.p true (.pick (.t 59) (.c (.bool true)) (.t 61))), mvt 63 62, ⟨(some 64), (some (63, false)), (.p true (.mv (.t 8)))⟩, ⟨(some 65), (some (63, false)), (.p true (.len (.t 64)))⟩, ⟨(some 66), (some (63, false)), (.p true (.bin .neq (.t 65) (.c (.int .i64 0))))⟩, rg 67 (.p true (.pick (.t 63) (.c (.bool true)) (.t 66)))]) (.cond (.t 67) (.seq (.reg [rg 2 (.p true (.mv (.c (.bool false))))]) .ret) .skip)) (.seq (.reg [mvt 68 3, mvt 10 68]) (.seq (.seq (.reg [rg 11 (.p true (.mv (.c (.int .i64 0))))]) (.block 0 (.loop (.seq (.seq (.reg [mvt 69 11, mvt 70 6, rg 71 (.p true (.len (.t 70))), rg 72 (.p true (.bin .lss (.t 69) (.t 71)))]) (.cond (.t 72) .skip (.exit 0))) (.seq (.block 1 (.seq (.reg [mvt 76 6, mvt 77 11, rg 78 (.p true (.iad (.t 76) (.t 77) 3)), rg 79 (.p true (.ld (.t 78) 3 true)), rg 80 (.call true 10 [(.t 79)]), rg 81 (.call true 9 [(.t 80)]), mvt 75 81, rg 82 (.p true (.ext (.t 75) 0)), rg 83 (.p true (.ext (.t 75) 1)), rg 12 (.f (.alloc [((.str []), (0, false)), ((.int .i64 0), (0, false)), ((.int .i64 0), (0, false))])), ⟨none, none, (.f (.st (.t 12) (.t 82) 3))⟩, mvt 13 83]) (.seq (.seq (.reg [rg 84 (.p false (.mv (.t 6))), rg 85 (.p false (.mv (.t 11))), rg 86 (.p false (.iad (.t 84) (.t 85) 3)), rg 87 (.p false (.fad (.t 86) 1)), rg 88 (.p false (.ld (.t 87) 1 false)), rg 89 (.p false (.mv (.t 10))), rg 90 (.p false (.bin .neq (.t 88) (.t 89))), rg 91 (.p false (.mv (.t 90))), ⟨(some 92), (some (91, false)), (.p false (.mv (.t 13)))⟩, ⟨(some 93), (some (91, false)), (.p false (.not (.t 92)))⟩, rg 94 (.p false (.pick (.t 91) (.c (.bool true)) (.t 93))), rg 95 (.p false (.mv (.t 94))), ⟨(some 96), (some (95, false)), (.p false (.ld (.t 12) 3 true))⟩, ⟨(some 97), (some (95, false)), (.p false (.mv (.t 6)))⟩, ⟨(some 98), (some (95, false)), (.p false (.mv (.t 11)))⟩, ⟨(some 99), (some (95, false)), (.p false (.iad (.t 97) (.t 98) 3))⟩, ⟨(some 100), (some (95, false)), (.p false (.ld (.t 99) 3 true))⟩, ⟨(some 101), (some (95, false)), (.p false (.eqs true [2, 0, 0] (.t 96) (.t 100)))⟩, rg 102 (.p false (.pick (.t 95) (.c (.bool true)) (.t 101))), rg 103 (.p false (.mv (.t 102))), ⟨(some 104), (some (103, false)), (.p false (.mv (.t 11)))⟩, ⟨(some 105), (some (103, false)), (.p false (.bin .gtr (.t 104) (.c (.int .i64 1))))⟩, ⟨(some 106), (some (103, false)), (.p false (.mv (.t 105)))⟩, ⟨(some 107), (some (106, true)), (.p false (.mv (.t 6)))⟩, ⟨(some 108), (some (106, true)), (.p false (.mv (.t 11)))⟩, ⟨(some 109), (some (106, true)), (.p false (.iad (.t 107) (.t 108) 3))⟩, ⟨(some 110), (some (106, true)), (.p false (.fad (.t 109) 2))⟩, ⟨(some 111), (some (106, true)), (.p false (.ld (.t 110) 1 false))⟩, ⟨(some 112), (some (106, true)), (.p false (.mv (.t 6)))⟩, ⟨(some 113), (some (106, true)), (.p false (.mv (.t 11)))⟩, ⟨(some 114), (some (106, true)), (.p false (.bin .sub (.t 113) (.c (.int .i64 2))))⟩, ⟨(some 115), (some (106, true)), (.p false (.iad (.t 112) (.t 114) 3))⟩, ⟨(some 116), (some (106, true)), (.p false (.fad (.t 115) 2))⟩, ⟨(some 117), (some (106, true)), (.p false (.ld (.t 116) 1 false))⟩, ⟨(some 118), (some (106, true)), (.p false (.bin .gtr (.t 111) (.t 117)))⟩, ⟨(some 119), (some (103, false)), (.p false (.pick (.t 106) (.t 118) (.c (.bool false))))⟩, rg 120 (.p false (.pick (.t 103) (.c (.bool true)) (.t 119)))]) (.cond (.t 120) (.seq (.reg [rg 2 (.p true (.mv (.c (.bool false))))]) .ret) .skip)) (.reg [mvt 121 10, mvt 122 6, mvt 123 11, rg 124 (.p true (.iad (.t 122) (.t 123) 3)), rg 125 (.p true (.fad (.t 124) 2)), rg 126 (.p true (.ld (.t 125) 1 false)), rg 127 (.p true (.bin .add (.t 121) (.t 126))), mvt 10 127])))) (.reg [mvt 73 11, rg 74 (.p true (.bin .add (.t 73) (.c (.int .i64 1)))), mvt 11 74])))))) (.seq (.seq (.reg [rg 14 (.p true (.mv (.c (.int .i64 0))))]) (.block 2 (.loop (.seq (.seq (.reg [mvt 128 14, mvt 129 6, rg 130 (.p true (.len (.t 129))), rg 131 (.p true (.bin .lss (.t 128) (.t 130)))]) (.cond (.t 131) .skip (.exit 2))) (.seq (.block 3 (.seq (.reg [mvt 135 6, mvt 136 6, mvt 137 14, rg 138 (.p true (.iad (.t 136) (.t 137) 3)), rg 139 (.p true (.fad (.t 138) 1)), rg 140 (.p true (.ld (.t 139) 1 false)), rg 141 (.call true 11 [(.t 135), (.t 140)]), mvt 134 141, rg 142 (.p true (.ext (.t 134) 0)), rg 143 (.p true (.ext (.t 134) 1)), mvt 15 142, mvt 16 143]) (.seq (.reg [rg 144 (.p false (.mv (.t 16))), rg 145 (.p false (.bin .neq (.t 144) (.c (.int .i64 0)))), rg 146 (.p false (.mv (.t 145))), ⟨(some 147), (some (146, false)), (.p false (.mv (.t 15)))⟩, ⟨(some 148), (some (146, false)), (.p false (.len (.t 147)))⟩, ⟨(some 149), (some (146, false)), (.p false (.bin .neq (.t 148) (.c (.int .i64 1))))⟩, rg 150 (.p false (.pick (.t 146) (.c (.bool true)) (.t 149))), rg 151 (.p false (.mv (.t 150))), ⟨(some 152), (some (151, false)), (.p false (.mv (.t 15)))⟩, ⟨(some 153), (some (151, false)), (.p false (.iad (.t 152) (.c (.int .i64 0)) 1))⟩, ⟨(some 154), (some (151, false)), (.p false (.ld (.t 153) 1 false))⟩, ⟨(some 155), (some (151, false)), (.p false (.mv (.t 6)))⟩, ⟨(some 156), (some (151, false)), (.p false (.mv (.t 14)))⟩, ⟨(some 157), (some (151, false)), (.p false (.iad (.t 155) (.t 156) 3))⟩, ⟨(some 158), (some (151, false)), (.p false (.fad (.t 157) 0))⟩, ⟨(some 159), (some (151, false)), (.p false (.ld (.t 158) 1 false))⟩, ⟨(some 160), (some (151, false)), (.p false (.bin .neq (.t 154) (.t 159)))⟩, rg 161 (.p false (.pick (.t 151) (.c (.bool true)) (.t 160)))]) (.cond (.t 161) (.seq (.reg [rg 2 (.p true (.mv (.c (.bool false))))]) .ret) .skip)))) (.reg [mvt 132 14, rg 133 (.p true (.bin .add (.t 132) (.c (.int .i64 1)))), mvt 14 133])))))) (.seq (.reg [mvt 162 0, rg 163 (.call true 12 [(.t 162)]), mvt 17 163]) (.seq (.reg [mvt 165 17, rg 166 (.call true 7 [(.t 165)]), mvt 164 166, rg 167 (.p true (.ext (.t 164) 0)), rg 168 (.p true (.ext (.t 164) 1)), mvt 18 167, mvt 19 168]) (.seq (.seq (.reg [mvt 169 19, rg 170 (.p true (.bin .neq (.t 169) (.c (.int .i64 0))))]) (.cond (.t 170) (.seq (.reg [rg 2 (.p true (.mv (.c (.bool false))))]) .ret) .skip)) (.seq (.seq (.reg [rg 20 (.p true (.mv (.c (.int .i64 0))))]) (.block 4 (.loop (.seq (.seq (.reg [mvt 171 20, mvt 172 18, rg 173 (.p true (.len (.t 172))), rg 174 (.p true (.bin .lss (.t 171) (.t 173)))]) (.cond (.t 174) .skip (.exit 4))) (.seq (.block 5 (.seq (.reg [mvt 177 18, mvt 178 20, rg 179 (.p true (.iad (.t 177) (.t 178) 1)), rg 180 (.p true (.ld (.t 179) 1 false)), mvt 21 180]) (.seq (.reg [rg 181 (.p false (.mv (.t 21))), rg 182 (.p false (.len (.t 181))), rg 183 (.p false (.bin .neq (.t 182) (.c (.int .i64 2)))), rg 184 (.p false (.mv (.t 183))), ⟨(some 185), (some (184, false)), (.p false (.mv (.t 21)))⟩, ⟨(some 186), (some (184, false)), (.p false (.iad (.t 185) (.c (.int .i64 0)) 1))⟩, ⟨(some 187), (some (184, false)), (.p false (.ld (.t 186) 1 false))⟩, ⟨(some 188), (some (184, false)), (.p false (.bin .lss (.t 187) (.c (.int .i64 0))))⟩, rg 189 (.p false (.pick (.t 184) (.c (.bool true)) (.t 188))), rg 190 (.p false (.mv (.t 189))), ⟨(some 191), (some (190, false)), (.p false (.mv (.t 21)))⟩, ⟨(some 192), (some (190, false)), (.p false (.iad (.t 191) (.c (.int .i64 0)) 1))⟩, ⟨(some 193), (some (190, false)), (.p false (.ld (.t 192) 1 false))⟩, ⟨(some 194), (some (190, false)), (.p false (.mv (.t 21)))⟩, ⟨(some 195), (some (190, false)), (.p false (.iad (.t 194) (.c (.int .i64 1)) 1))⟩, ⟨(some 196), (some (190, false)), (.p false (.ld (.t 195) 1 false))⟩, ⟨(some 197), (some (190, false)), (.p false (.bin .geq (.t 193) (.t 196)))⟩, rg 198 (.p false (.pick (.t 190) (.c (.bool true)) (.t 197))), rg 199 (.p false (.mv (.t 198))), ⟨(some 200), (some (199, false)), (.p false (.mv (.t 21)))⟩, ⟨(some 201), (some (199, false)), (.p false (.iad (.t 200) (.c (.int .i64 1)) 1))⟩, ⟨(some 202), (some (199, false)), (.p false (.ld (.t 201) 1 false))⟩, ⟨(some 203), (some (199, false)), (.p false (.mv (.t 17)))⟩, ⟨(some 204), (some (199, false)), (.p false (.len (.t 203)))⟩, ⟨(some 205), (some (199, false)), (.p false (.bin .geq (.t 202) (.t 204)))⟩, rg 206 (.p false (.pick (.t 199) (.c (.bool true)) (.t 205))), rg 207 (.p false (.mv (.t 206))), ⟨(some 208), (some (207, false)), (.p false (.mv (.t 17)))⟩, ⟨(some 209), (some (207, false)), (.p false (.mv (.t 21)))⟩, ⟨(some 210), (some (207, false)), (.p false (.iad (.t 209) (.c (.int .i64 0)) 1))⟩, ⟨(some 211), (some (207, false)), (.p false (.ld (.t 210) 1 false))⟩, ⟨(some 212), (some (207, false)), (.p false (.iad (.t 208) (.t 211) 3))⟩, ⟨(some 213), (some (207, false)), (.p false (.fad (.t 212) 0))⟩, ⟨(some 214), (some (207, false)), (.p false (.ld (.t 213) 1 false))⟩, ⟨(some 215), (some (207, false)), (.p false (.mv (.t 17)))⟩, ⟨(some 216), (some (207, false)), (.p false (.mv (.t 21)))⟩, ⟨(some 217), (some (207, false)), (.p false (.iad (.t 216) (.c (.int .i64 1)) 1))⟩, ⟨(some 218), (some (207, false)), (.p false (.ld (.t 217) 1 false))⟩, ⟨(some 219), (some (207, false)), (.p false (.iad (.t 215) (.t 218) 3))⟩, ⟨(some 220), (some (207, false)), (.p false (.fad (.t 219) 0))⟩, ⟨(some 221), (some (207, false)), (.p false (.ld (.t 220) 1 false))⟩, ⟨(some 222), (some (207, false)), (.p false (.bin .neq (.t 214) (.t 221)))⟩, rg 223 (.p false (.pick (.t 207) (.c (.bool true)) (.t 222)))]) (.cond (.t 223) (.seq (.reg [rg 2 (.p true (.mv (.c (.bool false))))]) .ret) .skip)))) (.reg [mvt 175 20, rg 176 (.p true (.bin .add (.t 175) (.c (.int .i64 1)))), mvt 20 176])))))) (.seq (.reg [rg 2 (.p true (.mv (.c (.bool true))))]) .ret))))))))))))))))
theorem c3_is : compFn Tryz.prog 3 = some (c3, [(.tmp 2)]) := by kernel_rfl
theorem c3_ok : okFn Tryz.prog 3 = true := by kernel_rfl

noncomputable def F_laws_FnTurns_j3 (v1003 : (List TTurn) × Int) (v50010 : Int) (v50011 : Int) (k3 : Int × Int → Option (Bool)) : Option (Bool) :=
 ((ix v1003.1 v50011).bind fun v1042 => k3 (w64 (v50010 + v1042.2.2), w64 (v50011 + 1)))
noncomputable def F_laws_FnTurns_l5 (v1055 : List TTurn) (v1056 : (List (List Int)) × Int) (k5 : Int → Option (Bool)) : Int → Option (Bool)
 | v50015 => (bif (decide (v50015 < (v1056.1.length : Int))) then ((ix v1056.1 v50015).bind fun v1075 => (bif (decide ((v1075.length : Int) ≠ (2 : Int))) then some false
 else ((ix v1075 0).bind fun v1076 => (bif (decide (v1076 < (0 : Int))) then some false
 else ((ix v1075 0).bind fun v1077 => ((ix v1075 1).bind fun v1078 => (bif (decide (v1078 ≤ v1077)) then some false
 else ((ix v1075 1).bind fun v1079 => (bif (decide ((v1055.length : Int) ≤ v1079)) then some false
 else ((ix v1075 0).bind fun v1080 => ((ix v1055 v1080).bind fun v1081 => ((ix v1075 1).bind fun v1082 => ((ix v1055 v1082).bind fun v1083 => (bif (decide (v1081.1 ≠ v1083.1)) then some false
 else k5 (w64 (v50015 + 1))))))))))))))))
 else some true)
noncomputable def F_laws_FnTurns_l4 (v0 : List Int) (v1003 : (List TTurn) × Int) (k4 : Int → Option (Bool)) : Int → Option (Bool)
 | v50013 => (bif (decide (v50013 < (v1003.1.length : Int))) then ((ix v1003.1 v50013).bind fun v1051 => ((F_impl_PlayersAt v1003.1 v1051.2.1).bind fun v1052 => (bif (decide (v1052.2 ≠ (0 : Int))) then some false
 else (bif (decide ((v1052.1.length : Int) ≠ (1 : Int))) then some false
 else ((ix v1052.1 0).bind fun v1053 => ((ix v1003.1 v50013).bind fun v1054 => (bif (decide (v1053 ≠ v1054.1)) then some false
 else k4 (w64 (v50013 + 1)))))))))
 else ((F_spec_R8Turns v0).bind fun v1055 => ((F_impl_ClashesOf v1055).bind fun v1056 => (bif (decide (v1056.2 ≠ (0 : Int))) then some false
 else loop (F_laws_FnTurns_l5 v1055 v1056) 0))))
noncomputable def F_laws_FnTurns_l2 (v0 : List Int) (v1003 : (List TTurn) × Int) (k3 : Int × Int → Option (Bool)) : Int × Int → Option (Bool)
 | (v50010, v50011) => (bif (decide (v50011 < (v1003.1.length : Int))) then ((ix v1003.1 v50011).bind fun v1031 => ((F_impl_TurnText v1031).bind fun v1032 => ((F_impl_ReadTurn v1032).bind fun v1033 => ((ix v1003.1 v50011).bind fun v1038 => (bif (decide (v1038.2.1 ≠ v50010)) then some false
 else (bif (!v1033.2) then some false
 else ((ix v1003.1 v50011).bind fun v1039 => (bif (!(decide (v1033.1.1 = v1039.1) && (decide (v1033.1.2.1 = v1039.2.1) && (decide (v1033.1.2.2 = v1039.2.2) && true)))) then some false
 else (bif (decide ((1 : Int) < v50011)) then ((ix v1003.1 v50011).bind fun v1040 => ((ix v1003.1 (w64 (v50011 - 2))).bind fun v1041 => (bif (decide (v1041.2.2 < v1040.2.2)) then some false
 else F_laws_FnTurns_j3 v1003 v50010 v50011 k3)))
 else F_laws_FnTurns_j3 v1003 v50010 v50011 k3)))))))))
 else loop (F_laws_FnTurns_l4 v0 v1003) 0)
noncomputable def F_laws_FnTurns (v0 : List Int) : Option (Bool) :=
 (bif (decide ((1048576 : Int) < (v0.length : Int))) then some true
 else ((F_laws_r8Wide v0 0 2000).bind fun v1000 => ((F_laws_r8At v0 2 60).bind fun v1001 => ((F_laws_r8At v0 3 12).bind fun v1002 => ((F_impl_ShareTurns [102, 108, 117, 116, 101] [100, 114, 117, 109] v1000 (w64 (1 + v1001)) (w64 (1 + v1002))).bind fun v1003 => ((F_impl_ClashesOf v1003.1).bind fun v1004 => (bif (decide (v1003.2 ≠ (0 : Int))) then some false
 else ((F_spec_ValidTurns v1003.1).bind fun v1006 => (bif (!v1006) then some false
 else (bif (decide ((v1003.1.length : Int) ≠ w64 (2 * (w64 (1 + v1002))))) then some false
 else (bif (decide (v1004.2 ≠ (0 : Int))) then some false
 else (bif (decide ((v1004.1.length : Int) ≠ (0 : Int))) then some false
 else loop (F_laws_FnTurns_l2 v0 v1003) (v1000, 0)))))))))))))
@[simp] def res_laws_FnTurns (r : Bool) : RV := .one (.one (.val (.bool r)))
theorem con_laws_FnTurns {v0 : List Int} {r : Bool} (hF : F_laws_FnTurns v0 = some r) : Con Tryz.prog 3 [.sl 1 (v0.map (V.int .u8))] (res_laws_FnTurns r) := by
 unfold F_laws_FnTurns at hF
 refine con_of c3_is fun N => ?_
 refine ws 0 64 ?_
 refine qp (AB false) rfl ?_
 refine r_nil ?_
 refine w_seq ?_
 refine ws 64 256 ?_
 refine qp (AL 1 (v0.map (V.int .u8))) rfl (qp (AI (v0.length : Int)) (ev_len_n rfl) (qp (AB (decide ((1048576 : Int) < (v0.length : Int)))) rfl ?_))
 refine r_nil ?_
 refine cF hF (fun hF => ?_) fun hF => ?_
 ·
  refine ws 256 320 ?_
  refine qp (AB true) rfl ?_
  refine r_nil ?_
  refine w_ret ?_
  refine thenQ_r ?_
  cases hF
  exact eR
 ·
  refine w_skip ?_
  refine thenQ_n ?_
  refine ws 256 448 ?_
  refine qp (AL 1 (v0.map (V.int .u8))) rfl ?_
  obtain ⟨v1000, e1000, hF⟩ := bind_get hF
  refine qc (AI v1000) [] false (con_laws_r8Wide e1000) c4_ok (by first | rfl | simp) rfl ?_
  refine qp (AI v1000) rfl ?_
  refine r_nil ?_
  refine ws 448 704 ?_
  refine qp (AL 1 (v0.map (V.int .u8))) rfl ?_
  obtain ⟨v1001, e1001, hF⟩ := bind_get hF
  refine qc (AI v1001) [] false (con_laws_r8At e1001) c5_ok (by first | rfl | simp) rfl ?_
  refine qp (AI (w64 (1 + v1001))) rfl (qp (AI (w64 (1 + v1001))) rfl ?_)
  refine r_nil ?_
  refine ws 704 960 ?_
  refine qp (AL 1 (v0.map (V.int .u8))) rfl ?_
  obtain ⟨v1002, e1002, hF⟩ := bind_get hF
  refine qc (AI v1002) [] false (con_laws_r8At e1002) c5_ok (by first | rfl | simp) rfl ?_
  refine qp (AI (w64 (1 + v1002))) rfl (qp (AI (w64 (1 + v1002))) rfl ?_)
  refine r_nil ?_
  refine ws 960 1536 ?_
  refine qp (AI v1000) rfl (qp (AI (w64 (1 + v1001))) rfl (qp (AI (w64 (1 + v1002))) rfl ?_))
  obtain ⟨v1003, e1003, hF⟩ := bind_get hF
  refine qc (.tup [.sl 1152 0 v1003.1.length, AI v1003.2]) [(1152, .row true 3 (v1003.1.map eTurn))] false (con_impl_ShareTurns e1003) c6_ok (by first | rfl | simp) (by simp [res_impl_ShareTurns]) ?_
  refine qp (.tup [.sl 1152 0 v1003.1.length, AI v1003.2]) rfl (qp (.sl 1152 0 v1003.1.length) rfl (qp (AI v1003.2) rfl (qp (.sl 1152 0 v1003.1.length) rfl (qp (AI v1003.2) rfl ?_))))
  refine r_nil ?_
  refine ws 1536 1984 ?_
  refine qp (.sl 1152 0 v1003.1.length) rfl ?_
  obtain ⟨v1004, e1004, hF⟩ := bind_get hF
  refine qc (.tup [.sl 1600 0 v1004.1.length, AI v1004.2]) [(1600, .row true 1 (v1004.1.map (eL 1 vI))), (1152, .row true 3 (v1003.1.map eTurn))] true (con_impl_ClashesOf e1004) c7_ok (by simp [List.take_of_length_le]) (by simp [res_impl_ClashesOf]) ?_
  refine qp (.tup [.sl 1600 0 v1004.1.length, AI v1004.2]) rfl (qp (.sl 1600 0 v1004.1.length) rfl (qp (AI v1004.2) rfl (qp (.sl 1600 0 v1004.1.length) rfl (qp (AI v1004.2) rfl ?_))))
  refine r_nil ?_
  refine w_seq ?_
  refine ws 1984 3456 ?_
  refine qp (AI v1003.2) rfl (qp (AB (decide (v1003.2 ≠ (0 : Int)))) rfl (qp (AB (decide (v1003.2 ≠ (0 : Int)))) rfl ?_))
  refine q_case 47 hF rfl (fun hF => ?_) (fun hF => ?_)
  ·
   refine qn rfl (qn rfl (qn rfl (qp (AB true) rfl (qp (AB true) rfl (qn rfl (qn rfl (qn rfl ?_)))))))
   refine qn rfl (qn rfl (qp (AB true) rfl (qp (AB true) rfl (qn rfl (qn rfl (qp (AB true) rfl (qp (AB true) rfl ?_)))))))
   refine qn rfl (qn rfl (qn rfl (qp (AB true) rfl ?_)))
   refine r_nil ?_
   refine w_true rfl ?_
   refine ws 3456 3520 ?_
   refine qp (AB false) rfl ?_
   refine r_nil ?_
   refine w_ret ?_
   refine thenQ_r ?_
   cases hF
   exact eR
  ·
   refine qg (.sl 1152 0 v1003.1.length) rfl rfl ?_
   obtain ⟨v1006, e1006, hF⟩ := bind_get hF
   refine qcg (AB v1006) [(1600, .row true 1 (v1004.1.map (eL 1 vI))), (1152, .row true 3 (v1003.1.map eTurn))] true rfl (con_spec_ValidTurns e1006) c8_ok (by simp [List.take_of_length_le]) rfl ?_
   refine qg (AB (!v1006)) rfl rfl (qp (AB (!v1006)) rfl (qp (AB (!v1006)) rfl ?_))
   refine q_case 52 hF rfl (fun hF => ?_) (fun hF => ?_)
   ·
    refine qn rfl (qn rfl (qn rfl (qn rfl (qn rfl (qp (AB true) rfl (qp (AB true) rfl (qn rfl ?_)))))))
    refine qn rfl (qp (AB true) rfl (qp (AB true) rfl (qn rfl (qn rfl (qn rfl (qp (AB true) rfl ?_))))))
    refine r_nil ?_
    refine w_true rfl ?_
    refine ws 3456 3520 ?_
    refine qp (AB false) rfl ?_
    refine r_nil ?_
    refine w_ret ?_
    refine thenQ_r ?_
    cases hF
    exact eR
   ·
    refine qg (.sl 1152 0 v1003.1.length) rfl rfl (qg (AI (v1003.1.length : Int)) rfl rfl (qg (AI (w64 (1 + v1002))) rfl rfl (qg (AI (w64 (2 * (w64 (1 + v1002))))) rfl rfl (qg (AB (decide ((v1003.1.length : Int) ≠ w64 (2 * (w64 (1 + v1002)))))) rfl rfl (qp (AB (decide ((v1003.1.length : Int) ≠ w64 (2 * (w64 (1 + v1002)))))) rfl (qp (AB (decide ((v1003.1.length : Int) ≠ w64 (2 * (w64 (1 + v1002)))))) rfl ?_))))))
    refine q_case 59 hF rfl (fun hF => ?_) (fun hF => ?_)
    ·
     refine qn rfl (qn rfl (qp (AB true) rfl (qp (AB true) rfl (qn rfl (qn rfl (qn rfl (qp (AB true) rfl ?_)))))))
     refine r_nil ?_
     refine w_true rfl ?_
     refine ws 3456 3520 ?_
     refine qp (AB false) rfl ?_
     refine r_nil ?_
     refine w_ret ?_
     refine thenQ_r ?_
     cases hF
     exact eR
    ·
     refine qg (AI v1004.2) rfl rfl (qg (AB (decide (v1004.2 ≠ (0 : Int)))) rfl rfl (qp (AB (decide (v1004.2 ≠ (0 : Int)))) rfl (qp (AB (decide (v1004.2 ≠ (0 : Int)))) rfl ?_)))
     refine q_case 63 hF rfl (fun hF => ?_) (fun hF => ?_)
     ·
      refine qn rfl (qn rfl (qn rfl (qp (AB true) rfl ?_)))
      refine r_nil ?_
      refine w_true rfl ?_
      refine ws 3456 3520 ?_
      refine qp (AB false) rfl ?_
      refine r_nil ?_
      refine w_ret ?_
      refine thenQ_r ?_
      cases hF
      exact eR
     ·
      refine qg (.sl 1600 0 v1004.1.length) rfl rfl (qg (AI (v1004.1.length : Int)) rfl rfl (qg (AB (decide ((v1004.1.length : Int) ≠ (0 : Int)))) rfl rfl (qp (AB (decide ((v1004.1.length : Int) ≠ (0 : Int)))) rfl ?_)))
      refine r_nil ?_
      refine cF hF (fun hF => ?_) fun hF => ?_
      ·
       refine ws 3456 3520 ?_
       refine qp (AB false) rfl ?_
       refine r_nil ?_
       refine w_ret ?_
       refine thenQ_r ?_
       cases hF
       exact eR
      ·
       refine w_skip ?_
       refine thenQ_n ?_
       refine ws 3456 3584 ?_
       refine qp (AI v1000) rfl (qp (AI v1000) rfl ?_)
       refine r_nil ?_
       refine w_seq ?_
       refine ws 3584 3648 ?_
       refine qp (AI 0) rfl ?_
       refine r_nil ?_
       refine w_block ?_
       refine wr (l' := [(0, AL 1 (v0.map (V.int .u8))), (6, .sl 0 0 v1003.1.length), (10, AI v1000), (11, AI 0)]) (L := [(0, .row true 3 (v1003.1.map eTurn))]) [0, 6, 10, 11] [(1152, 0)] 1 ?_
       refine w_loopF (F_laws_FnTurns_l2 v0 v1003) (fun s : Int × Int => mkS [(0, AL 1 (v0.map (V.int .u8))), (6, .sl 0 0 v1003.1.length), (10, AI s.1), (11, AI s.2)] (fo [(0, .row true 3 (v1003.1.map eTurn))]) 1) hF ?_
       rintro k3 ⟨v50010, v50011⟩ hF
       rw [F_laws_FnTurns_l2] at hF
       try dsimp only
       refine w_seq ?_
       refine ws 1 257 ?_
       refine qp (AI v50011) rfl (qp (.sl 0 0 v1003.1.length) rfl (qp (AI (v1003.1.length : Int)) rfl (qp (AB (decide (v50011 < (v1003.1.length : Int)))) rfl ?_)))
       refine r_nil ?_
       refine cF hF (fun hF => ?_) fun hF => ?_
       ·
        refine w_skip ?_
        refine thenQ_n ?_
        refine w_seq ?_
        refine w_block ?_
        refine ws 257 1025 ?_
        refine qp (.sl 0 0 v1003.1.length) rfl (qp (AI v50011) rfl ?_)
        obtain ⟨v1031, e1031, hF⟩ := bind_get hF
        refine qp (.ptr 0 v50011.toNat 0) (ev_iad_r rfl (by simp) rfl rfl e1031) (qp (.val none (eTurn v1031)) (ev_ld_r rfl rfl (ix_some e1031).2 rfl rfl) ?_)
        obtain ⟨v1032, e1032, hF⟩ := bind_get hF
        refine qc (AS v1032) [(0, .row true 3 (v1003.1.map eTurn))] false (con_impl_TurnText e1032) c10_ok (by first | rfl | simp) rfl ?_
        obtain ⟨v1033, e1033, hF⟩ := bind_get hF
        refine qc (.tup [.val none (eTurn v1033.1), AB v1033.2]) [(0, .row true 3 (v1003.1.map eTurn))] false (con_impl_ReadTurn e1033) c9_ok (by first | rfl | simp) rfl ?_
        refine qp (.tup [.val none (eTurn v1033.1), AB v1033.2]) rfl (qp (.val none (eTurn v1033.1)) rfl (qp (AB v1033.2) rfl ?_))
        refine qf (.ptr 833 0 0) [(833, .box [AS [], AI 0, AI 0]), (0, .row true 3 (v1003.1.map eTurn))] (by simp) ?_
        refine qf0 (.undef) [(833, .box [AS v1033.1.1, AI v1033.1.2.1, AI v1033.1.2.2]), (833, .box [AS [], AI 0, AI 0]), (0, .row true 3 (v1003.1.map eTurn))] (by simp) ?_
        refine qp (AB v1033.2) rfl ?_
        refine r_nil ?_
        refine w_meet (fun s' => s' = mkS [(0, AL 1 (v0.map (V.int .u8))), (6, .sl 0 0 v1003.1.length), (10, AI v50010), (11, AI v50011)] (fo [(0, .row true 3 (v1003.1.map eTurn))]) 1 ∧ F_laws_FnTurns_j3 v1003 v50010 v50011 k3 = some r) ?_ ?_
        ·
         refine ws 1025 3393 ?_
         refine qp (.sl 0 0 v1003.1.length) rfl (qp (AI v50011) rfl ?_)
         obtain ⟨v1038, e1038, hF⟩ := bind_get hF
         refine qp (.ptr 0 v50011.toNat 0) (ev_iad_r rfl (by simp) rfl rfl e1038) (qp (.ptr 0 v50011.toNat 1) rfl (qp (AI v1038.2.1) (ev_ld_r rfl rfl (ix_some e1038).2 rfl rfl) (qp (AI v50010) rfl (qp (AB (decide (v1038.2.1 ≠ v50010))) rfl (qp (AB (decide (v1038.2.1 ≠ v50010))) rfl ?_)))))
         refine q_case 91 hF rfl (fun hF => ?_) (fun hF => ?_)
         ·
          refine qn rfl (qn rfl (qp (AB true) rfl (qp (AB true) rfl (qn rfl (qn rfl (qn rfl (qn rfl ?_)))))))
          refine qn rfl (qn rfl (qp (AB true) rfl (qp (AB true) rfl (qn rfl (qn rfl (qn rfl (qu rfl ?_)))))))
          refine qu rfl (qu rfl (qu rfl (qu rfl (qu rfl (qu rfl (qu rfl (qu rfl ?_)))))))
          refine qu rfl (qu rfl (qu rfl (qn rfl (qp (AB true) rfl ?_))))
          refine r_nil ?_
          refine w_true rfl ?_
          refine ws 3393 3457 ?_
          refine qp (AB false) rfl ?_
          refine r_nil ?_
          refine w_ret ?_
          refine thenQ_r ?_
          refine blockQ_r ?_
          refine thenQ_r ?_
          refine thenQ_r ?_
          refine blockQ_r ?_
          refine thenQ_r ?_
          cases hF
          exact eR
         ·
          refine qg (AB v1033.2) rfl rfl (qg (AB (!v1033.2)) rfl rfl (qp (AB (!v1033.2)) rfl (qp (AB (!v1033.2)) rfl ?_)))
          refine q_case 95 hF rfl (fun hF => ?_) (fun hF => ?_)
          ·
           refine qn rfl (qn rfl (qn rfl (qn rfl (qn rfl (qn rfl (qp (AB true) rfl (qp (AB true) rfl ?_)))))))
           refine qn rfl (qn rfl (qn rfl (qu rfl (qu rfl (qu rfl (qu rfl (qu rfl ?_)))))))
           refine qu rfl (qu rfl (qu rfl (qu rfl (qu rfl (qu rfl (qu rfl (qn rfl ?_)))))))
           refine qp (AB true) rfl ?_
           refine r_nil ?_
           refine w_true rfl ?_
           refine ws 3393 3457 ?_
           refine qp (AB false) rfl ?_
           refine r_nil ?_
           refine w_ret ?_
           refine thenQ_r ?_
           refine blockQ_r ?_
           refine thenQ_r ?_
           refine thenQ_r ?_
           refine blockQ_r ?_
           refine thenQ_r ?_
           cases hF
           exact eR
          ·
           refine qg (.agg [AS v1033.1.1, AI v1033.1.2.1, AI v1033.1.2.2]) rfl rfl (qg (.sl 0 0 v1003.1.length) rfl rfl (qg (AI v50011) rfl rfl ?_))
           obtain ⟨v1039, e1039, hF⟩ := bind_get hF
           refine qg (.ptr 0 v50011.toNat 0) rfl (ev_iad_r rfl (by simp) rfl rfl e1039) (qg (.val none (eTurn v1039)) rfl (ev_ld_r rfl rfl (ix_some e1039).2 rfl rfl) (qg (AB (!(decide (v1033.1.1 = v1039.1) && (decide (v1033.1.2.1 = v1039.2.1) && (decide (v1033.1.2.2 = v1039.2.2) && true))))) rfl rfl (qp (AB (!(decide (v1033.1.1 = v1039.1) && (decide (v1033.1.2.1 = v1039.2.1) && (decide (v1033.1.2.2 = v1039.2.2) && true))))) rfl (qp (AB (!(decide (v1033.1.1 = v1039.1) && (decide (v1033.1.2.1 = v1039.2.1) && (decide (v1033.1.2.2 = v1039.2.2) && true))))) rfl ?_))))
           refine q_case 103 hF rfl (fun hF => ?_) (fun hF => ?_)
           ·
            refine qn rfl (qn rfl (qn rfl (qu rfl (qu rfl (qu rfl (qu rfl (qu rfl ?_)))))))
            refine qu rfl (qu rfl (qu rfl (qu rfl (qu rfl (qu rfl (qu rfl (qn rfl ?_)))))))
            refine qp (AB true) rfl ?_
            refine r_nil ?_
            refine w_true rfl ?_
            refine ws 3393 3457 ?_
            refine qp (AB false) rfl ?_
            refine r_nil ?_
            refine w_ret ?_
            refine thenQ_r ?_
            refine blockQ_r ?_
            refine thenQ_r ?_
            refine thenQ_r ?_
            refine blockQ_r ?_
            refine thenQ_r ?_
            cases hF
            exact eR
           ·
            refine qg (AI v50011) rfl rfl (qg (AB (decide ((1 : Int) < v50011))) rfl rfl (qg (AB (decide ((1 : Int) < v50011))) rfl rfl ?_))
            refine q_case 106 hF rfl (fun hF => ?_) (fun hF => ?_)
            ·
             refine qg (.sl 0 0 v1003.1.length) rfl rfl (qg (AI v50011) rfl rfl ?_)
             obtain ⟨v1040, e1040, hF⟩ := bind_get hF
             refine qg (.ptr 0 v50011.toNat 0) rfl (ev_iad_r rfl (by simp) rfl rfl e1040) (qg (.ptr 0 v50011.toNat 2) rfl rfl (qg (AI v1040.2.2) rfl (ev_ld_r rfl rfl (ix_some e1040).2 rfl rfl) (qg (.sl 0 0 v1003.1.length) rfl rfl (qg (AI v50011) rfl rfl (qg (AI (w64 (v50011 - 2))) rfl rfl ?_)))))
             obtain ⟨v1041, e1041, hF⟩ := bind_get hF
             refine qg (.ptr 0 ((w64 (v50011 - 2)).toNat) 0) rfl (ev_iad_r rfl (by simp) rfl rfl e1041) (qg (.ptr 0 ((w64 (v50011 - 2)).toNat) 2) rfl rfl (qg (AI v1041.2.2) rfl (ev_ld_r rfl rfl (ix_some e1041).2 rfl rfl) (qg (AB (decide (v1041.2.2 < v1040.2.2))) rfl rfl (qg (AB (decide (v1041.2.2 < v1040.2.2))) rfl rfl (qp (AB (decide (v1041.2.2 < v1040.2.2))) rfl ?_)))))
             refine r_nil ?_
             refine cF hF (fun hF => ?_) fun hF => ?_
             ·
              refine ws 3393 3457 ?_
              refine qp (AB false) rfl ?_
              refine r_nil ?_
              refine w_ret ?_
              refine thenQ_r ?_
              refine blockQ_r ?_
              refine thenQ_r ?_
              refine thenQ_r ?_
              refine blockQ_r ?_
              refine thenQ_r ?_
              cases hF
              exact eR
             ·
              refine w_skip ?_
              refine thenQ_n ?_
              refine ar (l' := [(0, AL 1 (v0.map (V.int .u8))), (6, .sl 0 0 v1003.1.length), (10, AI v50010), (11, AI v50011)]) (L := [(0, .row true 3 (v1003.1.map eTurn))]) [0, 6, 10, 11] [(0, 0)] 1 ⟨rfl, hF⟩
            ·
             refine qn rfl (qn rfl (qn rfl (qn rfl (qn rfl (qn rfl (qn rfl (qn rfl ?_)))))))
             refine qn rfl (qn rfl (qn rfl (qn rfl (qg (AB false) rfl rfl (qp (AB false) rfl ?_)))))
             refine r_nil ?_
             refine w_false rfl ?_
             refine w_skip ?_
             refine thenQ_n ?_
             refine ar (l' := [(0, AL 1 (v0.map (V.int .u8))), (6, .sl 0 0 v1003.1.length), (10, AI v50010), (11, AI v50011)]) (L := [(0, .row true 3 (v1003.1.map eTurn))]) [0, 6, 10, 11] [(0, 0)] 1 ⟨rfl, hF⟩
        ·
         rintro s' ⟨rfl, hF⟩
         unfold F_laws_FnTurns_j3 at hF
         refine w_reg 1 513 rfl rfl ?_
         refine qp (AI v50010) rfl (qp (.sl 0 0 v1003.1.length) rfl (qp (AI v50011) rfl ?_))
         obtain ⟨v1042, e1042, hF⟩ := bind_get hF
         refine qp (.ptr 0 v50011.toNat 0) (ev_iad_r rfl (by simp) rfl rfl e1042) (qp (.ptr 0 v50011.toNat 2) rfl (qp (AI v1042.2.2) (ev_ld_r rfl rfl (ix_some e1042).2 rfl rfl) (qp (AI (w64 (v50010 + v1042.2.2))) rfl (qp (AI (w64 (v50010 + v1042.2.2))) rfl ?_))))
         refine r_nil ?_
         refine blockQ_n ?_
         refine thenQ_n ?_
         refine w_reg 513 705 rfl rfl ?_
         refine qp (AI v50011) rfl (qp (AI (w64 (v50011 + 1))) rfl (qp (AI (w64 (v50011 + 1))) rfl ?_))
         refine r_nil ?_
         refine thenQ_n ?_
         refine ar (l' := [(0, AL 1 (v0.map (V.int .u8))), (6, .sl 0 0 v1003.1.length), (10, AI (w64 (v50010 + v1042.2.2))), (11, AI (w64 (v50011 + 1)))]) (L := [(0, .row true 3 (v1003.1.map eTurn))]) [0, 6, 10, 11] [(0, 0)] 1 ⟨_, by rfl, hF⟩
       ·
        refine w_exit ?_
        refine thenQ_e ?_
        refine thenQ_e ?_
        refine blockQ_e ?_
        refine thenQ_n ?_
        refine w_seq ?_
        refine ws 257 321 ?_
        refine qp (AI 0) rfl ?_
        refine r_nil ?_
        refine w_block ?_
        refine wr (l' := [(0, AL 1 (v0.map (V.int .u8))), (6, .sl 0 0 v1003.1.length), (14, AI 0)]) (L := [(0, .row true 3 (v1003.1.map eTurn))]) [0, 6, 14] [(0, 0)] 1 ?_
        refine w_loopF (F_laws_FnTurns_l4 v0 v1003) (fun s : Int => mkS [(0, AL 1 (v0.map (V.int .u8))), (6, .sl 0 0 v1003.1.length), (14, AI s)] (fo [(0, .row true 3 (v1003.1.map eTurn))]) 1) hF ?_
        rintro k4 v50013 hF
        rw [F_laws_FnTurns_l4] at hF
        try dsimp only
        refine w_seq ?_
        refine ws 1 257 ?_
        refine qp (AI v50013) rfl (qp (.sl 0 0 v1003.1.length) rfl (qp (AI (v1003.1.length : Int)) rfl (qp (AB (decide (v50013 < (v1003.1.length : Int)))) rfl ?_)))
        refine r_nil ?_
        refine cF hF (fun hF => ?_) fun hF => ?_
        ·
         refine w_skip ?_
         refine thenQ_n ?_
         refine w_seq ?_
         refine w_block ?_
         refine ws 257 1025 ?_
         refine qp (.sl 0 0 v1003.1.length) rfl (qp (.sl 0 0 v1003.1.length) rfl (qp (AI v50013) rfl ?_))
         obtain ⟨v1051, e1051, hF⟩ := bind_get hF
         refine qp (.ptr 0 v50013.toNat 0) (ev_iad_r rfl (by simp) rfl rfl e1051) (qp (.ptr 0 v50013.toNat 1) rfl (qp (AI v1051.2.1) (ev_ld_r rfl rfl (ix_some e1051).2 rfl rfl) ?_))
         obtain ⟨v1052, e1052, hF⟩ := bind_get hF
         refine qc (.tup [.sl 641 0 v1052.1.length, AI v1052.2]) [(641, .row true 1 (v1052.1.map V.str)), (0, .row true 3 (v1003.1.map eTurn))] true (con_impl_PlayersAt e1052) c11_ok (by simp [List.take_of_length_le]) (by simp [res_impl_PlayersAt]) ?_
         refine qp (.tup [.sl 641 0 v1052.1.length, AI v1052.2]) rfl (qp (.sl 641 0 v1052.1.length) rfl (qp (AI v1052.2) rfl (qp (.sl 641 0 v1052.1.length) rfl (qp (AI v1052.2) rfl ?_))))
         refine r_nil ?_
         refine ws 1025 2177 ?_
         refine qp (AI v1052.2) rfl (qp (AB (decide (v1052.2 ≠ (0 : Int)))) rfl (qp (AB (decide (v1052.2 ≠ (0 : Int)))) rfl ?_))
         refine q_case 146 hF rfl (fun hF => ?_) (fun hF => ?_)
         ·
          refine qn rfl (qn rfl (qn rfl (qp (AB true) rfl (qp (AB true) rfl (qn rfl (qn rfl (qn rfl ?_)))))))
          refine qn rfl (qn rfl (qn rfl (qn rfl (qn rfl (qn rfl (qp (AB true) rfl ?_))))))
          refine r_nil ?_
          refine w_true rfl ?_
          refine ws 2177 2241 ?_
          refine qp (AB false) rfl ?_
          refine r_nil ?_
          refine w_ret ?_
          refine blockQ_r ?_
          refine thenQ_r ?_
          refine thenQ_r ?_
          refine blockQ_r ?_
          refine thenQ_r ?_
          cases hF
          exact eR
         ·
          refine qg (.sl 641 0 v1052.1.length) rfl rfl (qg (AI (v1052.1.length : Int)) rfl rfl (qg (AB (decide ((v1052.1.length : Int) ≠ (1 : Int)))) rfl rfl (qp (AB (decide ((v1052.1.length : Int) ≠ (1 : Int)))) rfl (qp (AB (decide ((v1052.1.length : Int) ≠ (1 : Int)))) rfl ?_))))
          refine q_case 151 hF rfl (fun hF => ?_) (fun hF => ?_)
          ·
           refine qn rfl (qn rfl (qn rfl (qn rfl (qn rfl (qn rfl (qn rfl (qn rfl ?_)))))))
           refine qn rfl (qp (AB true) rfl ?_)
           refine r_nil ?_
           refine w_true rfl ?_
           refine ws 2177 2241 ?_
           refine qp (AB false) rfl ?_
           refine r_nil ?_
           refine w_ret ?_
           refine blockQ_r ?_
           refine thenQ_r ?_
           refine thenQ_r ?_
           refine blockQ_r ?_
           refine thenQ_r ?_
           cases hF
           exact eR
          ·
           refine qg (.sl 641 0 v1052.1.length) rfl rfl ?_
           obtain ⟨v1053, e1053, hF⟩ := bind_get hF
           refine qg (.ptr 641 ((0 : Int).toNat) 0) rfl (ev_iad_r rfl (by simp) rfl rfl e1053) (qg (AS v1053) rfl (ev_ld_r rfl rfl (ix_some e1053).2 rfl rfl) (qg (.sl 0 0 v1003.1.length) rfl rfl (qg (AI v50013) rfl rfl ?_)))
           obtain ⟨v1054, e1054, hF⟩ := bind_get hF
           refine qg (.ptr 0 v50013.toNat 0) rfl (ev_iad_r rfl (by simp) rfl rfl e1054) (qg (.ptr 0 v50013.toNat 0) rfl rfl (qg (AS v1054.1) rfl (ev_ld_r rfl rfl (ix_some e1054).2 rfl rfl) (qg (AB (decide (v1053 ≠ v1054.1))) rfl rfl (qp (AB (decide (v1053 ≠ v1054.1))) rfl ?_))))
           refine r_nil ?_
           refine cF hF (fun hF => ?_) fun hF => ?_
           ·
            refine ws 2177 2241 ?_
            refine qp (AB false) rfl ?_
            refine r_nil ?_
            refine w_ret ?_
            refine blockQ_r ?_
            refine thenQ_r ?_
            refine thenQ_r ?_
            refine blockQ_r ?_
            refine thenQ_r ?_
            cases hF
            exact eR
           ·
            refine w_skip ?_
            refine blockQ_n ?_
            refine thenQ_n ?_
            refine w_reg 2177 2369 rfl rfl ?_
            refine qp (AI v50013) rfl (qp (AI (w64 (v50013 + 1))) rfl (qp (AI (w64 (v50013 + 1))) rfl ?_))
            refine r_nil ?_
            refine thenQ_n ?_
            refine ar (l' := [(0, AL 1 (v0.map (V.int .u8))), (6, .sl 0 0 v1003.1.length), (14, AI (w64 (v50013 + 1)))]) (L := [(0, .row true 3 (v1003.1.map eTurn))]) [0, 6, 14] [(0, 0)] 1 ⟨_, by rfl, hF⟩
        ·
         refine w_exit ?_
         refine thenQ_e ?_
         refine thenQ_e ?_
         refine blockQ_e ?_
         refine thenQ_n ?_
         refine ws 257 449 ?_
         refine qp (AL 1 (v0.map (V.int .u8))) rfl ?_
         obtain ⟨v1055, e1055, hF⟩ := bind_get hF
         refine qc (.sl 321 0 v1055.length) [(321, .row true 3 (v1055.map eTurn)), (0, .row true 3 (v1003.1.map eTurn))] false (con_spec_R8Turns e1055) c12_ok (by first | rfl | simp) (by simp [res_spec_R8Turns]) ?_
         refine qp (.sl 321 0 v1055.length) rfl ?_
         refine r_nil ?_
         refine ws 449 897 ?_
         refine qp (.sl 321 0 v1055.length) rfl ?_
         obtain ⟨v1056, e1056, hF⟩ := bind_get hF
         refine qc (.tup [.sl 513 0 v1056.1.length, AI v1056.2]) [(513, .row true 1 (v1056.1.map (eL 1 vI))), (321, .row true 3 (v1055.map eTurn)), (0, .row true 3 (v1003.1.map eTurn))] true (con_impl_ClashesOf e1056) c7_ok (by simp [List.take_of_length_le]) (by simp [res_impl_ClashesOf]) ?_
         refine qp (.tup [.sl 513 0 v1056.1.length, AI v1056.2]) rfl (qp (.sl 513 0 v1056.1.length) rfl (qp (AI v1056.2) rfl (qp (.sl 513 0 v1056.1.length) rfl (qp (AI v1056.2) rfl ?_))))
         refine r_nil ?_
         refine w_seq ?_
         refine ws 897 1025 ?_
         refine qp (AI v1056.2) rfl (qp (AB (decide (v1056.2 ≠ (0 : Int)))) rfl ?_)
         refine r_nil ?_
         refine cF hF (fun hF => ?_) fun hF => ?_
         ·
          refine ws 1025 1089 ?_
          refine qp (AB false) rfl ?_
          refine r_nil ?_
          refine w_ret ?_
          refine thenQ_r ?_
          cases hF
          exact eR
         ·
          refine w_skip ?_
          refine thenQ_n ?_
          refine w_seq ?_
          refine ws 1025 1089 ?_
          refine qp (AI 0) rfl ?_
          refine r_nil ?_
          refine w_block ?_
          refine wr (l' := [(17, .sl 0 0 v1055.length), (18, .sl 1 0 v1056.1.length), (20, AI 0)]) (L := [(1, .row true 1 (v1056.1.map (eL 1 vI))), (0, .row true 3 (v1055.map eTurn))]) [17, 18, 20] [(513, 1), (321, 0)] 2 ?_
          refine w_loopF (F_laws_FnTurns_l5 v1055 v1056) (fun s : Int => mkS [(17, .sl 0 0 v1055.length), (18, .sl 1 0 v1056.1.length), (20, AI s)] (fo [(1, .row true 1 (v1056.1.map (eL 1 vI))), (0, .row true 3 (v1055.map eTurn))]) 2) hF ?_
          rintro k5 v50015 hF
          rw [F_laws_FnTurns_l5] at hF
          try dsimp only
          refine w_seq ?_
          refine ws 2 258 ?_
          refine qp (AI v50015) rfl (qp (.sl 1 0 v1056.1.length) rfl (qp (AI (v1056.1.length : Int)) rfl (qp (AB (decide (v50015 < (v1056.1.length : Int)))) rfl ?_)))
          refine r_nil ?_
          refine cF hF (fun hF => ?_) fun hF => ?_
          ·
           refine w_skip ?_
           refine thenQ_n ?_
           refine w_seq ?_
           refine w_block ?_
           refine ws 258 578 ?_
           refine qp (.sl 1 0 v1056.1.length) rfl (qp (AI v50015) rfl ?_)
           obtain ⟨v1075, e1075, hF⟩ := bind_get hF
           refine qp (.ptr 1 v50015.toNat 0) (ev_iad_r rfl (by simp) rfl rfl e1075) (qp (.val (some 1) (.sl 1 (v1075.map vI))) (ev_ld_r rfl rfl (ix_some e1075).2 rfl rfl) (qp (.val (some 1) (.sl 1 (v1075.map vI))) rfl ?_))
           refine r_nil ?_
           refine ws 578 3330 ?_
           refine qp (.val (some 1) (.sl 1 (v1075.map vI))) rfl (qp (AI (v1075.length : Int)) (ev_len_s rfl rfl) (qp (AB (decide ((v1075.length : Int) ≠ (2 : Int)))) rfl (qp (AB (decide ((v1075.length : Int) ≠ (2 : Int)))) rfl ?_)))
           refine q_case 184 hF rfl (fun hF => ?_) (fun hF => ?_)
           ·
            refine qn rfl (qn rfl (qn rfl (qn rfl (qp (AB true) rfl (qp (AB true) rfl (qn rfl (qn rfl ?_)))))))
            refine qn rfl (qn rfl (qn rfl (qn rfl (qn rfl (qp (AB true) rfl (qp (AB true) rfl (qn rfl ?_)))))))
            refine qn rfl (qn rfl (qn rfl (qn rfl (qn rfl (qp (AB true) rfl (qp (AB true) rfl (qn rfl ?_)))))))
            refine qn rfl (qn rfl (qn rfl (qn rfl (qn rfl (qn rfl (qn rfl (qn rfl ?_)))))))
            refine qn rfl (qn rfl (qn rfl (qn rfl (qn rfl (qn rfl (qp (AB true) rfl ?_))))))
            refine r_nil ?_
            refine w_true rfl ?_
            refine ws 3330 3394 ?_
            refine qp (AB false) rfl ?_
            refine r_nil ?_
            refine w_ret ?_
            refine blockQ_r ?_
            refine thenQ_r ?_
            refine thenQ_r ?_
            refine blockQ_r ?_
            refine thenQ_r ?_
            cases hF
            exact eR
           ·
            refine qg (.val (some 1) (.sl 1 (v1075.map vI))) rfl rfl ?_
            obtain ⟨v1076, e1076, hF⟩ := bind_get hF
            refine qg (.val (some 1) (.ptr [.int .i64 v1076])) rfl (ev_iad_s rfl rfl rfl e1076 rfl) (qg (AI v1076) rfl rfl (qg (AB (decide (v1076 < (0 : Int)))) rfl rfl (qp (AB (decide (v1076 < (0 : Int)))) rfl (qp (AB (decide (v1076 < (0 : Int)))) rfl ?_))))
            refine q_case 190 hF rfl (fun hF => ?_) (fun hF => ?_)
            ·
             refine qn rfl (qn rfl (qn rfl (qn rfl (qn rfl (qn rfl (qn rfl (qp (AB true) rfl ?_)))))))
             refine qp (AB true) rfl (qn rfl (qn rfl (qn rfl (qn rfl (qn rfl (qn rfl (qp (AB true) rfl ?_)))))))
             refine qp (AB true) rfl (qn rfl (qn rfl (qn rfl (qn rfl (qn rfl (qn rfl (qn rfl ?_)))))))
             refine qn rfl (qn rfl (qn rfl (qn rfl (qn rfl (qn rfl (qn rfl (qn rfl ?_)))))))
             refine qp (AB true) rfl ?_
             refine r_nil ?_
             refine w_true rfl ?_
             refine ws 3330 3394 ?_
             refine qp (AB false) rfl ?_
             refine r_nil ?_
             refine w_ret ?_
             refine blockQ_r ?_
             refine thenQ_r ?_
             refine thenQ_r ?_
             refine blockQ_r ?_
             refine thenQ_r ?_
             cases hF
             exact eR
            ·
             refine qg (.val (some 1) (.sl 1 (v1075.map vI))) rfl rfl ?_
             obtain ⟨v1077, e1077, hF⟩ := bind_get hF
             refine qg (.val (some 1) (.ptr [.int .i64 v1077])) rfl (ev_iad_s rfl rfl rfl e1077 rfl) (qg (AI v1077) rfl rfl (qg (.val (some 1) (.sl 1 (v1075.map vI))) rfl rfl ?_))
             obtain ⟨v1078, e1078, hF⟩ := bind_get hF
             refine qg (.val (some 1) (.ptr [.int .i64 v1078])) rfl (ev_iad_s rfl rfl rfl e1078 rfl) (qg (AI v1078) rfl rfl (qg (AB (decide (v1078 ≤ v1077))) rfl rfl (qp (AB (decide (v1078 ≤ v1077))) rfl (qp (AB (decide (v1078 ≤ v1077))) rfl ?_))))
             refine q_case 199 hF rfl (fun hF => ?_) (fun hF => ?_)
             ·
              refine qn rfl (qn rfl (qn rfl (qn rfl (qn rfl (qn rfl (qp (AB true) rfl (qp (AB true) rfl ?_)))))))
              refine qn rfl (qn rfl (qn rfl (qn rfl (qn rfl (qn rfl (qn rfl (qn rfl ?_)))))))
              refine qn rfl (qn rfl (qn rfl (qn rfl (qn rfl (qn rfl (qn rfl (qp (AB true) rfl ?_)))))))
              refine r_nil ?_
              refine w_true rfl ?_
              refine ws 3330 3394 ?_
              refine qp (AB false) rfl ?_
              refine r_nil ?_
              refine w_ret ?_
              refine blockQ_r ?_
              refine thenQ_r ?_
              refine thenQ_r ?_
              refine blockQ_r ?_
              refine thenQ_r ?_
              cases hF
              exact eR
             ·
              refine qg (.val (some 1) (.sl 1 (v1075.map vI))) rfl rfl ?_
              obtain ⟨v1079, e1079, hF⟩ := bind_get hF
              refine qg (.val (some 1) (.ptr [.int .i64 v1079])) rfl (ev_iad_s rfl rfl rfl e1079 rfl) (qg (AI v1079) rfl rfl (qg (.sl 0 0 v1055.length) rfl rfl (qg (AI (v1055.length : Int)) rfl rfl (qg (AB (decide ((v1055.length : Int) ≤ v1079))) rfl rfl (qp (AB (decide ((v1055.length : Int) ≤ v1079))) rfl (qp (AB (decide ((v1055.length : Int) ≤ v1079))) rfl ?_))))))
              refine q_case 207 hF rfl (fun hF => ?_) (fun hF => ?_)
              ·
               refine qn rfl (qn rfl (qn rfl (qn rfl (qn rfl (qn rfl (qn rfl (qn rfl ?_)))))))
               refine qn rfl (qn rfl (qn rfl (qn rfl (qn rfl (qn rfl (qn rfl (qp (AB true) rfl ?_)))))))
               refine r_nil ?_
               refine w_true rfl ?_
               refine ws 3330 3394 ?_
               refine qp (AB false) rfl ?_
               refine r_nil ?_
               refine w_ret ?_
               refine blockQ_r ?_
               refine thenQ_r ?_
               refine thenQ_r ?_
               refine blockQ_r ?_
               refine thenQ_r ?_
               cases hF
               exact eR
              ·
               refine qg (.sl 0 0 v1055.length) rfl rfl (qg (.val (some 1) (.sl 1 (v1075.map vI))) rfl rfl ?_)
               obtain ⟨v1080, e1080, hF⟩ := bind_get hF
               refine qg (.val (some 1) (.ptr [.int .i64 v1080])) rfl (ev_iad_s rfl rfl rfl e1080 rfl) (qg (AI v1080) rfl rfl ?_)
               obtain ⟨v1081, e1081, hF⟩ := bind_get hF
               refine qg (.ptr 0 v1080.toNat 0) rfl (ev_iad_r rfl (by simp) rfl rfl e1081) (qg (.ptr 0 v1080.toNat 0) rfl rfl (qg (AS v1081.1) rfl (ev_ld_r rfl rfl (ix_some e1081).2 rfl rfl) (qg (.sl 0 0 v1055.length) rfl rfl (qg (.val (some 1) (.sl 1 (v1075.map vI))) rfl rfl ?_))))
               obtain ⟨v1082, e1082, hF⟩ := bind_get hF
               refine qg (.val (some 1) (.ptr [.int .i64 v1082])) rfl (ev_iad_s rfl rfl rfl e1082 rfl) (qg (AI v1082) rfl rfl ?_)
               obtain ⟨v1083, e1083, hF⟩ := bind_get hF
               refine qg (.ptr 0 v1082.toNat 0) rfl (ev_iad_r rfl (by simp) rfl rfl e1083) (qg (.ptr 0 v1082.toNat 0) rfl rfl (qg (AS v1083.1) rfl (ev_ld_r rfl rfl (ix_some e1083).2 rfl rfl) (qg (AB (decide (v1081.1 ≠ v1083.1))) rfl rfl (qp (AB (decide (v1081.1 ≠ v1083.1))) rfl ?_))))
               refine r_nil ?_
               refine cF hF (fun hF => ?_) fun hF => ?_
               ·
                refine ws 3330 3394 ?_
                refine qp (AB false) rfl ?_
                refine r_nil ?_
                refine w_ret ?_
                refine blockQ_r ?_
                refine thenQ_r ?_
                refine thenQ_r ?_
                refine blockQ_r ?_
                refine thenQ_r ?_
                cases hF
                exact eR
               ·
                refine w_skip ?_
                refine blockQ_n ?_
                refine thenQ_n ?_
                refine w_reg 3330 3522 rfl rfl ?_
                refine qp (AI v50015) rfl (qp (AI (w64 (v50015 + 1))) rfl (qp (AI (w64 (v50015 + 1))) rfl ?_))
                refine r_nil ?_
                refine thenQ_n ?_
                refine ar (l' := [(17, .sl 0 0 v1055.length), (18, .sl 1 0 v1056.1.length), (20, AI (w64 (v50015 + 1)))]) (L := [(1, .row true 1 (v1056.1.map (eL 1 vI))), (0, .row true 3 (v1055.map eTurn))]) [17, 18, 20] [(1, 1), (0, 0)] 2 ⟨_, by rfl, hF⟩
          ·
           refine w_exit ?_
           refine thenQ_e ?_
           refine thenQ_e ?_
           refine blockQ_e ?_
           refine thenQ_n ?_
           refine ws 258 322 ?_
           refine qp (AB true) rfl ?_
           refine r_nil ?_
           refine w_ret ?_
           cases hF
           exact eR

end Go.Ab
