/- Walks (printed by auto.py, a program of this session's own). -/
import Derived.Test.YtcoeihkaikmdpaaU0
import Derived.Test.YtcoeihkaikmdpaaProg
import Derived.KernelRfl
import Derived.Test.YtcoeihkaikmdpaaSQ
set_option linter.unusedVariables false
set_option linter.unusedSimpArgs false
set_option maxRecDepth 8000
set_option maxHeartbeats 8000000
namespace Go.Ab
open Go.RowKit Go.Proofs

def c17 : MC := (.seq (.reg [rg 6 (.p true (.mv (.c (.int .i64 0)))), rg 7 (.p true (.mv (.c (.int .i64 0))))]) (.seq (.seq (.reg [mvt 18 0, mvt 19 1, mvt 20 2, rg 21 (.f (.bsl 1 [(.t 19), (.t 20)])), rg 22 (.call true 63 [(.t 18), (.t 21)]), mvt 8 22]) (.seq (.reg [mvt 23 8, rg 24 (.p true (.bin .neq (.t 23) (.c (.int .i64 0))))]) (.cond (.t 24) (.seq (.reg [mvt 25 8, rg 6 (.p true (.mv (.c (.int .i64 0)))), mvt 7 25]) .ret) .skip))) (.seq (.reg [rg 26 (.f .mkm), mvt 27 1, ⟨none, none, (.f (.mpu 2 (.t 26) (.t 27) (.c (.int .i64 0))))⟩, mvt 28 26, mvt 9 28]) (.seq (.seq (.reg [mvt 29 1, rg 30 (.f (.bsl 1 [(.t 29)])), mvt 10 30]) (.block 0 (.loop (.seq (.seq (.reg [mvt 31 10, rg 32 (.p true (.len (.t 31))), rg 33 (.p true (.bin .gtr (.t 32) (.c (.int .i64 0))))]) (.cond (.t 33) .skip (.exit 0))) (.seq (.block 1 (.seq (.reg [mvt 36 0, rg 37 (.p true (.len (.t 36))), rg 38 (.p true (.mv (.c (.int .i64 0))))]) (.block 2 (.loop (.seq (.reg [rg 39 (.p true (.bin .lss (.t 38) (.t 37)))]) (.seq (.cond (.t 39) .skip (.exit 2)) (.seq (.block 3 (.seq (.reg [rg 40 (.p true (.iad (.t 36) (.t 38) 3)), rg 41 (.p true (.ld (.t 40) 3 true)), rg 12 (.f (.alloc [((.str []), (0, false)), ((.int .i64 0), (0, false)), ((.sl 0 []), (1, false))])), ⟨none, none, (.f (.st (.t 12) (.t 41) 3))⟩]) (.seq (.reg [mvt 43 9, rg 44 (.p true (.fad (.t 12) 0)), rg 45 (.p true (.ld (.t 44) 1 false)), rg 46 (.p true (.mlk 2 (.t 43) (.t 45) (.int .i64 0) true)), mvt 42 46, rg 47 (.p true (.ext (.t 42) 0)), rg 48 (.p true (.ext (.t 42) 1)), mvt 13 47, mvt 14 48]) (.seq (.reg [rg 49 (.p false (.fad (.t 12) 2)), rg 50 (.p false (.ld (.t 49) 1 false)), rg 51 (.p false (.mv (.t 10))), rg 52 (.p false (.iad (.t 51) (.c (.int .i64 0)) 1)), rg 53 (.p false (.ld (.t 52) 1 false)), rg 54 (.call false 65 [(.t 50), (.t 53)]), rg 55 (.p false (.mv (.t 54))), ⟨(some 56), (some (55, false)), (.p false (.mv (.t 0)))⟩, ⟨(some 57), (some (55, false)), (.p false (.mv (.t 0)))⟩, ⟨(some 58), (some (55, false)), (.p false (.mv (.t 10)))⟩, ⟨(some 59), (some (55, false)), (.p false (.iad (.t 58) (.c (.int .i64 0)) 1))⟩, ⟨(some 60), (some (55, false)), (.p false (.ld (.t 59) 1 false))⟩, ⟨(some 61), (some (55, false)), (.call false 66 [(.t 57), (.t 60)])⟩, ⟨(some 62), (some (55, false)), (.p false (.iad (.t 56) (.t 61) 3))⟩, ⟨(some 63), (some (55, false)), (.p false (.fad (.t 62) 2))⟩, ⟨(some 64), (some (55, false)), (.p false (.ld (.t 63) 1 false))⟩, ⟨(some 65), (some (55, false)), (.p false (.fad (.t 12) 0))⟩, ⟨(some 66), (some (55, false)), (.p false (.ld (.t 65) 1 false))⟩, ⟨(some 67), (some (55, false)), (.call false 65 [(.t 64), (.t 66)])⟩, rg 68 (.p false (.pick (.t 55) (.c (.bool true)) (.t 67))), rg 15 (.p false (.mv (.t 68)))]) (.seq (.reg [mvt 69 15, mvt 70 69, ⟨(some 71), (some (70, true)), (.p true (.mv (.t 14)))⟩, ⟨(some 72), (some (70, true)), (.p true (.not (.t 71)))⟩, rg 73 (.p true (.pick (.t 70) (.t 72) (.c (.bool false))))]) (.cond (.t 73) (.seq (.reg [rg 74 (.p false (.mv (.t 9))), rg 75 (.p false (.fad (.t 12) 0)), rg 76 (.p false (.ld (.t 75) 1 false)), rg 77 (.p false (.mv (.t 9))), rg 78 (.p false (.mv (.t 10))), rg 79 (.p false (.iad (.t 78) (.c (.int .i64 0)) 1)), rg 80 (.p false (.ld (.t 79) 1 false)), rg 81 (.p false (.mlk 2 (.t 77) (.t 80) (.int .i64 0) false)), rg 82 (.p false (.bin .add (.t 81) (.c (.int .i64 1)))), ⟨none, none, (.f (.mpu 2 (.t 74) (.t 76) (.t 82)))⟩]) (.reg [mvt 83 10, rg 84 (.p true (.fad (.t 12) 0)), rg 85 (.p true (.ld (.t 84) 1 false)), rg 86 (.f (.bsl 1 [(.t 85)])), rg 87 (.f (.app (.t 83) (.t 86) 1 16 true)), mvt 10 87])) .skip)))))) (.reg [rg 88 (.p true (.bin .add (.t 38) (.c (.int .i64 1)))), mvt 38 88])))))))) (.reg [mvt 34 10, rg 35 (.p true (.slc (.t 34) (some (.c (.int .i64 1))) none 1)), mvt 10 35])))))) (.seq (.reg [mvt 90 9, mvt 91 2, rg 92 (.p true (.mlk 2 (.t 90) (.t 91) (.int .i64 0) true)), mvt 89 92, rg 93 (.p true (.ext (.t 89) 0)), rg 94 (.p true (.ext (.t 89) 1)), mvt 16 93, mvt 17 94]) (.seq (.seq (.reg [mvt 95 17, rg 96 (.p true (.not (.t 95)))]) (.cond (.t 96) (.seq (.reg [rg 6 (.p true (.mv (.c (.int .i64 0)))), rg 7 (.p true (.mv (.c (.int .i64 6))))]) .ret) .skip)) (.seq (.reg [mvt 97 16, mvt 6 97, rg 7 (.p true (.mv (.c (.int .i64 0))))]) .ret)))))))
theorem c17_is : compFn Try.prog 17 = some (c17, [(.tmp 6), (.tmp 7)]) := by kernel_rfl
theorem c17_ok : okFn Try.prog 17 = true := by kernel_rfl

noncomputable def F_impl_RelationOf_j21 (v1152 : Int) (v1153 : List ((List UInt8) × Int)) (v1154 : List (List UInt8)) (v1155 : TPerson) (k7 : Int × (List ((List UInt8) × Int)) × (List (List UInt8)) → Option (Int × Int)) (v1163 : Bool) : Option (Int × Int) :=
 (bif v1163 then ((ix v1154 0).bind fun v1169 => (need (room (v1154.length + [v1155.1].length) 16) (k7 (w64 (v1152 + 1), mst v1153 v1155.1 (w64 ((mgt v1153 v1169 (0 : Int)) + 1)), v1154 ++ [v1155.1]))))
 else k7 (w64 (v1152 + 1), v1153, v1154))
noncomputable def F_impl_RelationOf_j20 (v1152 : Int) (v1153 : List ((List UInt8) × Int)) (v1154 : List (List UInt8)) (v1155 : TPerson) (k7 : Int × (List ((List UInt8) × Int)) × (List (List UInt8)) → Option (Int × Int)) (v1162 : Bool) : Option (Int × Int) :=
 (bif v1162 then F_impl_RelationOf_j21 v1152 v1153 v1154 v1155 k7 (!(mhs v1153 v1155.1))
 else F_impl_RelationOf_j21 v1152 v1153 v1154 v1155 k7 false)
noncomputable def F_impl_RelationOf_l19 (v0 : List TPerson) (k6 : (List ((List UInt8) × Int)) × (List (List UInt8)) → Option (Int × Int)) (k7 : Int × (List ((List UInt8) × Int)) × (List (List UInt8)) → Option (Int × Int)) : Int × (List ((List UInt8) × Int)) × (List (List UInt8)) → Option (Int × Int)
 | (v1152, v1153, v1154) => (bif (decide (v1152 < (v0.length : Int))) then ((ix v0 v1152).bind fun v1155 => ((ix v1154 0).bind fun v1163 => ((F_slices_Contains_Sstring_string v1155.2.2 v1163).bind fun v1164 => (bif v1164 then F_impl_RelationOf_j20 v1152 v1153 v1154 v1155 k7 true
 else ((ix v1154 0).bind fun v1165 => ((F_impl_personAt v0 v1165).bind fun v1166 => ((ix v0 v1166).bind fun v1167 => ((F_slices_Contains_Sstring_string v1167.2.2 v1155.1).bind fun v1168 => F_impl_RelationOf_j20 v1152 v1153 v1154 v1155 k7 v1168))))))))
 else (need (0 ≤ (1 : Int) ∧ (1 : Int) ≤ (v1154.length : Int) ∧ (v1154.length : Int) ≤ (v1154.length : Int)) (k6 (v1153, sub v1154 (1 : Int) (v1154.length : Int)))))
noncomputable def F_impl_RelationOf_l14 (v0 : List TPerson) (v2 : List UInt8) (k6 : (List ((List UInt8) × Int)) × (List (List UInt8)) → Option (Int × Int)) : (List ((List UInt8) × Int)) × (List (List UInt8)) → Option (Int × Int)
 | (v1115, v1116) => (bif (decide ((0 : Int) < (v1116.length : Int))) then loop (F_impl_RelationOf_l19 v0 k6) (0, v1115, v1116)
 else (bif (!(mhs v1115 v2)) then some (0, 6)
 else some (mgt v1115 v2 (0 : Int), 0)))
noncomputable def F_impl_RelationOf (v0 : List TPerson) (v1 : List UInt8) (v2 : List UInt8) : Option (Int × Int) :=
 ((F_impl_personsCode v0 [v1, v2]).bind fun v1000 => (bif (decide (v1000 ≠ (0 : Int))) then some (0, v1000)
 else loop (F_impl_RelationOf_l14 v0 v2) (mst ([] : List ((List UInt8) × Int)) v1 (0 : Int), [v1])))
@[simp] def res_impl_RelationOf (r : Int × Int) : RV := .tup [.one (.val (.int .i64 r.1)), .one (.val (.int .i64 r.2))]
theorem con_impl_RelationOf {v0 : List TPerson} {v1 : List UInt8} {v2 : List UInt8} {r : Int × Int} (hF : F_impl_RelationOf v0 v1 v2 = some r) : Con Try.prog 17 [.sl 3 (v0.map ePerson), .str v1, .str v2] (res_impl_RelationOf r) := by
 unfold F_impl_RelationOf at hF
 refine con_of c17_is fun N => ?_
 refine ws 0 128 ?_
 refine qp (AI 0) rfl (qp (AI 0) rfl ?_)
 refine r_nil ?_
 refine w_seq ?_
 refine ws 128 512 ?_
 refine qp (AL 3 (v0.map ePerson)) rfl (qp (AS v1) rfl (qp (AS v2) rfl ?_))
 refine qf (.sl 320 0 ([v1, v2].length)) [(320, .row true 1 ([v1, v2].map V.str))] (by simp [List.take_of_length_le]) ?_
 obtain ⟨v1000, e1000, hF⟩ := bind_get hF
 refine qc (AI v1000) [(320, .row true 1 ([v1, v2].map V.str))] true (con_impl_personsCode e1000) c63_ok (by simp [List.take_of_length_le]) rfl ?_
 refine qp (AI v1000) rfl ?_
 refine r_nil ?_
 refine ws 512 640 ?_
 refine qp (AI v1000) rfl (qp (AB (decide (v1000 ≠ (0 : Int)))) rfl ?_)
 refine r_nil ?_
 refine cF hF (fun hF => ?_) fun hF => ?_
 ·
  refine ws 640 832 ?_
  refine qp (AI v1000) rfl (qp (AI 0) rfl (qp (AI v1000) rfl ?_))
  refine r_nil ?_
  refine w_ret ?_
  refine thenQ_r ?_
  cases hF
  exact eR
 ·
  refine w_skip ?_
  refine thenQ_n ?_
  refine ws 640 960 ?_
  refine qf (.mp 640) [(640, .map (([] : List ((List UInt8) × Int)).map (eM Sc.str (Sc.int .i64)))), (320, .row true 1 ([v1, v2].map V.str))] effT_mkm ?_
  refine qp (AS v1) rfl ?_
  refine qf0 (.undef) [(640, .map ((mst ([] : List ((List UInt8) × Int)) v1 (0 : Int)).map (eM Sc.str (Sc.int .i64)))), (640, .map (([] : List ((List UInt8) × Int)).map (eM Sc.str (Sc.int .i64)))), (320, .row true 1 ([v1, v2].map V.str))] (effT_mpu (M := ([] : List ((List UInt8) × Int))) (ev' := (Sc.int .i64)) rfl (by rfl) (by rfl) (by rfl) keyStr) ?_
  refine qp (.mp 640) rfl (qp (.mp 640) rfl ?_)
  refine r_nil ?_
  refine w_seq ?_
  refine ws 960 1152 ?_
  refine qp (AS v1) rfl ?_
  refine qf (.sl 1024 0 ([v1].length)) [(1024, .row true 1 ([v1].map V.str)), (640, .map ((mst ([] : List ((List UInt8) × Int)) v1 (0 : Int)).map (eM Sc.str (Sc.int .i64)))), (640, .map (([] : List ((List UInt8) × Int)).map (eM Sc.str (Sc.int .i64)))), (320, .row true 1 ([v1, v2].map V.str))] (by simp [List.take_of_length_le]) ?_
  refine qp (.sl 1024 0 ([v1].length)) rfl ?_
  refine r_nil ?_
  refine w_block ?_
  refine wr (l' := [(0, AL 3 (v0.map ePerson)), (2, AS v2), (9, .mp 0), (10, .sl 1 0 [v1].length)]) (L := [(1, .row true 1 ([v1].map V.str)), (0, .map ((mst ([] : List ((List UInt8) × Int)) v1 (0 : Int)).map (eM Sc.str (Sc.int .i64))))]) [0, 2, 9, 10] [(1024, 1), (640, 0)] 2 ?_
  refine w_loopF (F_impl_RelationOf_l14 v0 v2) (fun s : (List ((List UInt8) × Int)) × (List (List UInt8)) => mkS [(0, AL 3 (v0.map ePerson)), (2, AS v2), (9, .mp 0), (10, .sl 1 0 s.2.length)] (fo [(1, .row true 1 (s.2.map V.str)), (0, .map (s.1.map (eM Sc.str (Sc.int .i64))))]) 2) hF ?_
  rintro k6 ⟨v1115, v1116⟩ hF
  rw [F_impl_RelationOf_l14] at hF
  try dsimp only
  refine w_seq ?_
  refine ws 2 194 ?_
  refine qp (.sl 1 0 v1116.length) rfl (qp (AI (v1116.length : Int)) rfl (qp (AB (decide ((0 : Int) < (v1116.length : Int)))) rfl ?_))
  refine r_nil ?_
  refine cF hF (fun hF => ?_) fun hF => ?_
  ·
   refine w_skip ?_
   refine thenQ_n ?_
   refine w_seq ?_
   refine w_block ?_
   refine ws 194 386 ?_
   refine qp (AL 3 (v0.map ePerson)) rfl (qp (AI (v0.length : Int)) (ev_len_n rfl) (qp (AI 0) rfl ?_))
   refine r_nil ?_
   refine w_block ?_
   refine wr (l' := [(0, AL 3 (v0.map ePerson)), (2, AS v2), (9, .mp 0), (10, .sl 1 0 v1116.length), (36, AL 3 (v0.map ePerson)), (37, AI (v0.length : Int)), (38, AI 0)]) (L := [(1, .row true 1 (v1116.map V.str)), (0, .map (v1115.map (eM Sc.str (Sc.int .i64))))]) [0, 2, 9, 10, 36, 37, 38] [(1, 1), (0, 0)] 2 ?_
   refine w_loopF (F_impl_RelationOf_l19 v0 k6) (fun s : Int × (List ((List UInt8) × Int)) × (List (List UInt8)) => mkS [(0, AL 3 (v0.map ePerson)), (2, AS v2), (9, .mp 0), (10, .sl 1 0 s.2.2.length), (36, AL 3 (v0.map ePerson)), (37, AI (v0.length : Int)), (38, AI s.1)] (fo [(1, .row true 1 (s.2.2.map V.str)), (0, .map (s.2.1.map (eM Sc.str (Sc.int .i64))))]) 2) hF ?_
   rintro k7 ⟨v1152, v1153, v1154⟩ hF
   rw [F_impl_RelationOf_l19] at hF
   try dsimp only
   refine ws 2 66 ?_
   refine qp (AB (decide (v1152 < (v0.length : Int)))) rfl ?_
   refine r_nil ?_
   refine w_seq ?_
   refine cF hF (fun hF => ?_) fun hF => ?_
   ·
    refine w_skip ?_
    refine thenQ_n ?_
    refine w_seq ?_
    refine w_block ?_
    refine ws 66 322 ?_
    obtain ⟨v1155, e1155, hF⟩ := bind_get hF
    refine qp (.val none (.ptr [.str v1155.1, .int .i64 v1155.2.1, .sl 1 (v1155.2.2.map V.str)])) (ev_iad_n rfl rfl e1155 rfl) (qp (.val none (ePerson v1155)) rfl ?_)
    refine qf (.ptr 194 0 0) [(194, .box [AS [], AI 0, .sl 195 0 0]), (195, .row true 1 (([] : List Int).map vI)), (1, .row true 1 (v1154.map V.str)), (0, .map (v1153.map (eM Sc.str (Sc.int .i64))))] (by simp) ?_
    refine qf0 (.undef) [(194, .box [AS v1155.1, AI v1155.2.1, AL 1 (v1155.2.2.map V.str)]), (194, .box [AS [], AI 0, .sl 195 0 0]), (195, .row true 1 (([] : List Int).map vI)), (1, .row true 1 (v1154.map V.str)), (0, .map (v1153.map (eM Sc.str (Sc.int .i64))))] (by simp) ?_
    refine r_nil ?_
    refine ws 322 898 ?_
    refine qp (.mp 0) rfl (qp (.ptr 194 0 0) rfl (qp (AS v1155.1) rfl (qp (.tup [AI (mgt v1153 v1155.1 (0 : Int)), AB (mhs v1153 v1155.1)]) (ev_mlk1 (ev' := (Sc.int .i64)) (by rfl) (by rfl) keyStr) (qp (.tup [AI (mgt v1153 v1155.1 (0 : Int)), AB (mhs v1153 v1155.1)]) rfl (qp (AI (mgt v1153 v1155.1 (0 : Int))) rfl (qp (AB (mhs v1153 v1155.1)) rfl (qp (AI (mgt v1153 v1155.1 (0 : Int))) rfl ?_)))))))
    refine qp (AB (mhs v1153 v1155.1)) rfl ?_
    refine r_nil ?_
    refine w_meet (fun s' => ∃ (v1162 : Bool), s' = mkS [(0, AL 3 (v0.map ePerson)), (2, AS v2), (9, .mp 0), (10, .sl 1 0 v1154.length), (12, .ptr 2 0 0), (14, AB (mhs v1153 v1155.1)), (15, AB v1162), (36, AL 3 (v0.map ePerson)), (37, AI (v0.length : Int)), (38, AI v1152)] (fo [(2, .box [AS v1155.1, AI v1155.2.1, AL 1 (v1155.2.2.map V.str)]), (1, .row true 1 (v1154.map V.str)), (0, .map (v1153.map (eM Sc.str (Sc.int .i64))))]) 3 ∧ F_impl_RelationOf_j20 v1152 v1153 v1154 v1155 k7 v1162 = some r) ?_ ?_
    ·
     refine w_reg 898 2242 rfl rfl ?_
     refine qp (.ptr 194 0 2) rfl (qp (AL 1 (v1155.2.2.map V.str)) rfl (qp (.sl 1 0 v1154.length) rfl ?_))
     obtain ⟨v1163, e1163, hF⟩ := bind_get hF
     refine qp (.ptr 1 ((0 : Int).toNat) 0) (ev_iad_r rfl (by simp) rfl rfl e1163) (qp (AS v1163) (ev_ld_r rfl rfl (ix_some e1163).2 rfl rfl) ?_)
     obtain ⟨v1164, e1164, hF⟩ := bind_get hF
     refine qc (AB v1164) [(194, .box [AS v1155.1, AI v1155.2.1, AL 1 (v1155.2.2.map V.str)]), (194, .box [AS [], AI 0, .sl 195 0 0]), (195, .row true 1 (([] : List Int).map vI)), (1, .row true 1 (v1154.map V.str)), (0, .map (v1153.map (eM Sc.str (Sc.int .i64))))] false (con_slices_Contains_Sstring_string e1164) c65_ok (by first | rfl | simp) rfl ?_
     refine qp (AB v1164) rfl ?_
     refine q_case 55 hF rfl (fun hF => ?_) (fun hF => ?_)
     ·
      refine qn rfl (qn rfl (qn rfl (qn rfl (qn rfl (qn rfl (qn rfl (qn rfl ?_)))))))
      refine qn rfl (qn rfl (qn rfl (qn rfl (qp (AB true) rfl (qp (AB true) rfl ?_)))))
      refine r_nil ?_
      refine thenQ_n ?_
      refine aw_ren (l' := [(0, AL 3 (v0.map ePerson)), (2, AS v2), (9, .mp 0), (10, .sl 1 0 v1154.length), (12, .ptr 2 0 0), (14, AB (mhs v1153 v1155.1)), (15, AB true), (36, AL 3 (v0.map ePerson)), (37, AI (v0.length : Int)), (38, AI v1152)]) (L := [(2, .box [AS v1155.1, AI v1155.2.1, AL 1 (v1155.2.2.map V.str)]), (1, .row true 1 (v1154.map V.str)), (0, .map (v1153.map (eM Sc.str (Sc.int .i64))))]) [0, 2, 9, 10, 12, 14, 15, 36, 37, 38] [(194, 2), (1, 1), (0, 0)] 3 (by first | rfl | simp) (by first | rfl | simp) (by decide) (by decide) (by decide) ⟨_, rfl, hF⟩
     ·
      refine qg (AL 3 (v0.map ePerson)) rfl rfl (qg (AL 3 (v0.map ePerson)) rfl rfl (qg (.sl 1 0 v1154.length) rfl rfl ?_))
      obtain ⟨v1165, e1165, hF⟩ := bind_get hF
      refine qg (.ptr 1 ((0 : Int).toNat) 0) rfl (ev_iad_r rfl (by simp) rfl rfl e1165) (qg (AS v1165) rfl (ev_ld_r rfl rfl (ix_some e1165).2 rfl rfl) ?_)
      obtain ⟨v1166, e1166, hF⟩ := bind_get hF
      refine qcg (AI v1166) [(194, .box [AS v1155.1, AI v1155.2.1, AL 1 (v1155.2.2.map V.str)]), (194, .box [AS [], AI 0, .sl 195 0 0]), (195, .row true 1 (([] : List Int).map vI)), (1, .row true 1 (v1154.map V.str)), (0, .map (v1153.map (eM Sc.str (Sc.int .i64))))] false rfl (con_impl_personAt e1166) c66_ok (by first | rfl | simp) rfl ?_
      obtain ⟨v1167, e1167, hF⟩ := bind_get hF
      refine qg (.val none (.ptr [.str v1167.1, .int .i64 v1167.2.1, .sl 1 (v1167.2.2.map V.str)])) rfl (ev_iad_n rfl rfl e1167 rfl) (qg (.val none (.ptr [.sl 1 (v1167.2.2.map V.str)])) rfl rfl (qg (AL 1 (v1167.2.2.map V.str)) rfl rfl (qg (.ptr 194 0 0) rfl rfl (qg (AS v1155.1) rfl rfl ?_))))
      obtain ⟨v1168, e1168, hF⟩ := bind_get hF
      refine qcg (AB v1168) [(194, .box [AS v1155.1, AI v1155.2.1, AL 1 (v1155.2.2.map V.str)]), (194, .box [AS [], AI 0, .sl 195 0 0]), (195, .row true 1 (([] : List Int).map vI)), (1, .row true 1 (v1154.map V.str)), (0, .map (v1153.map (eM Sc.str (Sc.int .i64))))] false rfl (con_slices_Contains_Sstring_string e1168) c65_ok (by first | rfl | simp) rfl ?_
      refine qp (AB v1168) rfl (qp (AB v1168) rfl ?_)
      refine r_nil ?_
      refine thenQ_n ?_
      refine aw_ren (l' := [(0, AL 3 (v0.map ePerson)), (2, AS v2), (9, .mp 0), (10, .sl 1 0 v1154.length), (12, .ptr 2 0 0), (14, AB (mhs v1153 v1155.1)), (15, AB v1168), (36, AL 3 (v0.map ePerson)), (37, AI (v0.length : Int)), (38, AI v1152)]) (L := [(2, .box [AS v1155.1, AI v1155.2.1, AL 1 (v1155.2.2.map V.str)]), (1, .row true 1 (v1154.map V.str)), (0, .map (v1153.map (eM Sc.str (Sc.int .i64))))]) [0, 2, 9, 10, 12, 14, 15, 36, 37, 38] [(194, 2), (1, 1), (0, 0)] 3 (by first | rfl | simp) (by first | rfl | simp) (by decide) (by decide) (by decide) ⟨_, rfl, hF⟩
    ·
     rintro s' ⟨v1162, rfl, hF⟩
     unfold F_impl_RelationOf_j20 at hF
     refine w_meet (fun s' => ∃ (v1163 : Bool), s' = mkS [(0, AL 3 (v0.map ePerson)), (2, AS v2), (9, .mp 0), (10, .sl 1 0 v1154.length), (12, .ptr 2 0 0), (36, AL 3 (v0.map ePerson)), (37, AI (v0.length : Int)), (38, AI v1152), (73, AB v1163)] (fo [(2, .box [AS v1155.1, AI v1155.2.1, AL 1 (v1155.2.2.map V.str)]), (1, .row true 1 (v1154.map V.str)), (0, .map (v1153.map (eM Sc.str (Sc.int .i64))))]) 3 ∧ F_impl_RelationOf_j21 v1152 v1153 v1154 v1155 k7 v1163 = some r) ?_ ?_
     ·
      refine w_reg 3 323 rfl rfl ?_
      refine qp (AB v1162) rfl (qp (AB v1162) rfl ?_)
      refine q_case 70 hF rfl (fun hF => ?_) (fun hF => ?_)
      ·
       refine qg (AB (mhs v1153 v1155.1)) rfl rfl (qg (AB (!(mhs v1153 v1155.1))) rfl rfl (qp (AB (!(mhs v1153 v1155.1))) rfl ?_))
       refine r_nil ?_
       refine thenQ_n ?_
       refine aw_ren (l' := [(0, AL 3 (v0.map ePerson)), (2, AS v2), (9, .mp 0), (10, .sl 1 0 v1154.length), (12, .ptr 2 0 0), (36, AL 3 (v0.map ePerson)), (37, AI (v0.length : Int)), (38, AI v1152), (73, AB (!(mhs v1153 v1155.1)))]) (L := [(2, .box [AS v1155.1, AI v1155.2.1, AL 1 (v1155.2.2.map V.str)]), (1, .row true 1 (v1154.map V.str)), (0, .map (v1153.map (eM Sc.str (Sc.int .i64))))]) [0, 2, 9, 10, 12, 36, 37, 38, 73] [(2, 2), (1, 1), (0, 0)] 3 (by first | rfl | simp) (by first | rfl | simp) (by decide) (by decide) (by decide) ⟨_, rfl, hF⟩
      ·
       refine qn rfl (qn rfl (qp (AB false) rfl ?_))
       refine r_nil ?_
       refine thenQ_n ?_
       refine aw_ren (l' := [(0, AL 3 (v0.map ePerson)), (2, AS v2), (9, .mp 0), (10, .sl 1 0 v1154.length), (12, .ptr 2 0 0), (36, AL 3 (v0.map ePerson)), (37, AI (v0.length : Int)), (38, AI v1152), (73, AB false)]) (L := [(2, .box [AS v1155.1, AI v1155.2.1, AL 1 (v1155.2.2.map V.str)]), (1, .row true 1 (v1154.map V.str)), (0, .map (v1153.map (eM Sc.str (Sc.int .i64))))]) [0, 2, 9, 10, 12, 36, 37, 38, 73] [(2, 2), (1, 1), (0, 0)] 3 (by first | rfl | simp) (by first | rfl | simp) (by decide) (by decide) (by decide) ⟨_, rfl, hF⟩
     ·
      rintro s' ⟨v1163, rfl, hF⟩
      unfold F_impl_RelationOf_j21 at hF
      refine cF hF (fun hF => ?_) fun hF => ?_
      ·
       refine ws 3 643 ?_
       refine qp (.mp 0) rfl (qp (.ptr 2 0 0) rfl (qp (AS v1155.1) rfl (qp (.mp 0) rfl (qp (.sl 1 0 v1154.length) rfl ?_))))
       obtain ⟨v1169, e1169, hF⟩ := bind_get hF
       refine qp (.ptr 1 ((0 : Int).toNat) 0) (ev_iad_r rfl (by simp) rfl rfl e1169) (qp (AS v1169) (ev_ld_r rfl rfl (ix_some e1169).2 rfl rfl) (qp (AI (mgt v1153 v1169 (0 : Int))) (ev_mlk0 (ev' := (Sc.int .i64)) (by rfl) (by rfl) keyStr) (qp (AI (w64 ((mgt v1153 v1169 (0 : Int)) + 1))) rfl ?_)))
       refine qf0 (.undef) [(0, .map ((mst v1153 v1155.1 (w64 ((mgt v1153 v1169 (0 : Int)) + 1))).map (eM Sc.str (Sc.int .i64)))), (2, .box [AS v1155.1, AI v1155.2.1, AL 1 (v1155.2.2.map V.str)]), (1, .row true 1 (v1154.map V.str)), (0, .map (v1153.map (eM Sc.str (Sc.int .i64))))] (effT_mpu (M := v1153) (ev' := (Sc.int .i64)) rfl (by rfl) (by rfl) (by rfl) keyStr) ?_
       refine r_nil ?_
       refine w_reg 643 1027 rfl rfl ?_
       refine qp (.sl 1 0 v1154.length) rfl (qp (.ptr 2 0 0) rfl (qp (AS v1155.1) rfl ?_))
       refine qf (.sl 835 0 ([v1155.1].length)) [(835, .row true 1 ([v1155.1].map V.str)), (0, .map ((mst v1153 v1155.1 (w64 ((mgt v1153 v1169 (0 : Int)) + 1))).map (eM Sc.str (Sc.int .i64)))), (2, .box [AS v1155.1, AI v1155.2.1, AL 1 (v1155.2.2.map V.str)]), (1, .row true 1 (v1154.map V.str)), (0, .map (v1153.map (eM Sc.str (Sc.int .i64))))] (by simp [List.take_of_length_le]) ?_
       obtain ⟨g1170, hF⟩ := need_some hF
       refine qf (.sl 899 0 ((v1154 ++ [v1155.1]).length)) [(899, .row true 1 ((v1154 ++ [v1155.1]).map V.str)), (1, .dead), (835, .dead), (835, .row true 1 ([v1155.1].map V.str)), (0, .map ((mst v1153 v1155.1 (w64 ((mgt v1153 v1169 (0 : Int)) + 1))).map (eM Sc.str (Sc.int .i64)))), (2, .box [AS v1155.1, AI v1155.2.1, AL 1 (v1155.2.2.map V.str)]), (1, .row true 1 (v1154.map V.str)), (0, .map (v1153.map (eM Sc.str (Sc.int .i64))))] (effT_app_l rfl (by simp) rfl rfl (by simp) rfl (by decide) g1170 rfl) ?_
       refine qp (.sl 899 0 ((v1154 ++ [v1155.1]).length)) rfl ?_
       refine r_nil ?_
       refine blockQ_n ?_
       refine thenQ_n ?_
       refine w_reg 1027 1155 rfl rfl ?_
       refine qp (AI (w64 (v1152 + 1))) rfl (qp (AI (w64 (v1152 + 1))) rfl ?_)
       refine r_nil ?_
       refine thenQ_n ?_
       refine ar (l' := [(0, AL 3 (v0.map ePerson)), (2, AS v2), (9, .mp 0), (10, .sl 1 0 (v1154 ++ [v1155.1]).length), (36, AL 3 (v0.map ePerson)), (37, AI (v0.length : Int)), (38, AI (w64 (v1152 + 1)))]) (L := [(1, .row true 1 ((v1154 ++ [v1155.1]).map V.str)), (0, .map ((mst v1153 v1155.1 (w64 ((mgt v1153 v1169 (0 : Int)) + 1))).map (eM Sc.str (Sc.int .i64))))]) [0, 2, 9, 10, 36, 37, 38] [(899, 1), (0, 0)] 2 ⟨_, by rfl, hF⟩
      ·
       refine w_skip ?_
       refine blockQ_n ?_
       refine thenQ_n ?_
       refine w_reg 3 131 rfl rfl ?_
       refine qp (AI (w64 (v1152 + 1))) rfl (qp (AI (w64 (v1152 + 1))) rfl ?_)
       refine r_nil ?_
       refine thenQ_n ?_
       refine ar (l' := [(0, AL 3 (v0.map ePerson)), (2, AS v2), (9, .mp 0), (10, .sl 1 0 v1154.length), (36, AL 3 (v0.map ePerson)), (37, AI (v0.length : Int)), (38, AI (w64 (v1152 + 1)))]) (L := [(1, .row true 1 (v1154.map V.str)), (0, .map (v1153.map (eM Sc.str (Sc.int .i64))))]) [0, 2, 9, 10, 36, 37, 38] [(1, 1), (0, 0)] 2 ⟨_, by rfl, hF⟩
   ·
    refine w_exit ?_
    refine thenQ_e ?_
    refine thenQ_e ?_
    refine blockQ_e ?_
    refine blockQ_n ?_
    refine thenQ_n ?_
    refine w_regA 66 258 rfl rfl ?_
    refine qp (.sl 1 0 v1154.length) rfl ?_
    obtain ⟨g1171, hF⟩ := need_some hF
    refine qp (.sl 1 (1 : Int).toNat ((v1154.length : Int).toNat - (1 : Int).toNat)) (ev_slc_r rfl (by simp) rfl rfl rfl g1171) (qp (.sl 1 (1 : Int).toNat ((v1154.length : Int).toNat - (1 : Int).toNat)) rfl ?_)
    refine r_nil ?_
    have g1172 : 0 ≤ (1 : Int) ∧ (1 : Int) ≤ (v1154.length : Int) ∧ (v1154.length : Int) ≤ (v1154.length : Int) := by first | exact g1171 | (have h := g1171; simp only [] at h ⊢; exact h)
    refine aw_drop (l' := [(0, AL 3 (v0.map ePerson)), (2, AS v2), (9, .mp 0), (10, .sl 1 (1 : Int).toNat ((v1154.length : Int).toNat - (1 : Int).toNat)), (34, .sl 1 0 v1154.length), (35, .sl 1 (1 : Int).toNat ((v1154.length : Int).toNat - (1 : Int).toNat)), (36, AL 3 (v0.map ePerson)), (37, AI (v0.length : Int)), (38, AI v1152), (39, AB (decide (v1152 < (v0.length : Int))))]) [0, 2, 9, 10, 34, 35, 36, 37, 38, 39] (by first | rfl | simp) ?_
    refine aw_rebF (l' := [(0, AL 3 (v0.map ePerson)), (2, AS v2), (9, .mp 0), (10, .sl 1 0 ((sub v1154 (1 : Int) (v1154.length : Int)).length)), (34, .bad), (35, .sl 1 0 ((sub v1154 (1 : Int) (v1154.length : Int)).length)), (36, AL 3 (v0.map ePerson)), (37, AI (v0.length : Int)), (38, AI v1152), (39, AB (decide (v1152 < (v0.length : Int))))]) (r := 1) (lo := (1 : Int)) (hi := (v1154.length : Int)) rfl g1172 (RebL.keep rfl (RebL.keep rfl (RebL.keep rfl (RebL.part (sub_len g1172) (RebL.bad (RebL.part (sub_len g1172) (RebL.keep rfl (RebL.keep rfl (RebL.keep rfl (RebL.keep rfl RebL.nil)))))))))) rfl ?_
    refine thenQ_n ?_
    refine ar (l' := [(0, AL 3 (v0.map ePerson)), (2, AS v2), (9, .mp 0), (10, .sl 1 0 (sub v1154 (1 : Int) (v1154.length : Int)).length)]) (L := [(1, .row true 1 ((sub v1154 (1 : Int) (v1154.length : Int)).map V.str)), (0, .map (v1153.map (eM Sc.str (Sc.int .i64))))]) [0, 2, 9, 10] [(1, 1), (0, 0)] 2 ⟨_, by rfl, hF⟩
  ·
   refine w_exit ?_
   refine thenQ_e ?_
   refine thenQ_e ?_
   refine blockQ_e ?_
   refine thenQ_n ?_
   refine ws 194 706 ?_
   refine qp (.mp 0) rfl (qp (AS v2) rfl (qp (.tup [AI (mgt v1115 v2 (0 : Int)), AB (mhs v1115 v2)]) (ev_mlk1 (ev' := (Sc.int .i64)) (by rfl) (by rfl) keyStr) (qp (.tup [AI (mgt v1115 v2 (0 : Int)), AB (mhs v1115 v2)]) rfl (qp (AI (mgt v1115 v2 (0 : Int))) rfl (qp (AB (mhs v1115 v2)) rfl (qp (AI (mgt v1115 v2 (0 : Int))) rfl (qp (AB (mhs v1115 v2)) rfl ?_)))))))
   refine r_nil ?_
   refine w_seq ?_
   refine ws 706 834 ?_
   refine qp (AB (mhs v1115 v2)) rfl (qp (AB (!(mhs v1115 v2))) rfl ?_)
   refine r_nil ?_
   refine cF hF (fun hF => ?_) fun hF => ?_
   ·
    refine ws 834 962 ?_
    refine qp (AI 0) rfl (qp (AI 6) rfl ?_)
    refine r_nil ?_
    refine w_ret ?_
    refine thenQ_r ?_
    cases hF
    exact eR
   ·
    refine w_skip ?_
    refine thenQ_n ?_
    refine ws 834 1026 ?_
    refine qp (AI (mgt v1115 v2 (0 : Int))) rfl (qp (AI (mgt v1115 v2 (0 : Int))) rfl (qp (AI 0) rfl ?_))
    refine r_nil ?_
    refine w_ret ?_
    cases hF
    exact eR

def c39 : MC := (.seq (.reg [rg 4 (.p true (.mv (.c (.bool false))))]) (.seq (.seq (.reg [mvt 6 0, rg 7 (.p true (.len (.t 6))), mvt 8 1, rg 9 (.p true (.len (.t 8))), rg 10 (.p true (.bin .neq (.t 7) (.t 9)))]) (.cond (.t 10) (.seq (.reg [rg 4 (.p true (.mv (.c (.bool false))))]) .ret) .skip)) (.seq (.seq (.reg [rg 5 (.p true (.mv (.c (.int .i64 0))))]) (.block 0 (.loop (.seq (.seq (.reg [mvt 11 5, mvt 12 0, rg 13 (.p true (.len (.t 12))), rg 14 (.p true (.bin .lss (.t 11) (.t 13)))]) (.cond (.t 14) .skip (.exit 0))) (.seq (.block 1 (.seq (.reg [rg 17 (.p false (.mv (.t 0))), rg 18 (.p false (.mv (.t 5))), rg 19 (.p false (.iad (.t 17) (.t 18) 1)), rg 20 (.p false (.ld (.t 19) 1 false)), rg 21 (.p false (.mv (.t 1))), rg 22 (.p false (.mv (.t 5))), rg 23 (.p false (.iad (.t 21) (.t 22) 1)), rg 24 (.p false (.ld (.t 23) 1 false)), rg 25 (.p false (.bin .neq (.t 20) (.t 24)))]) (.cond (.t 25) (.seq (.reg [rg 4 (.p true (.mv (.c (.bool false))))]) .ret) .skip))) (.reg [mvt 15 5, rg 16 (.p true (.bin .add (.t 15) (.c (.int .i64 1)))), mvt 5 16])))))) (.seq (.reg [rg 4 (.p true (.mv (.c (.bool true))))]) .ret))))
theorem c39_is : compFn Try.prog 39 = some (c39, [(.tmp 4)]) := by kernel_rfl
theorem c39_ok : okFn Try.prog 39 = true := by kernel_rfl

noncomputable def F_laws_eqStringS_l0 (v0 : List (List UInt8)) (v1 : List (List UInt8)) (k0 : Int → Option (Bool)) : Int → Option (Bool)
 | v7 => (bif (decide (v7 < (v0.length : Int))) then ((ix v0 v7).bind fun v1000 => ((ix v1 v7).bind fun v1001 => (bif (decide (v1000 ≠ v1001)) then some false
 else k0 (w64 (v7 + 1)))))
 else some true)
noncomputable def F_laws_eqStringS (v0 : List (List UInt8)) (v1 : List (List UInt8)) : Option (Bool) :=
 (bif (decide ((v0.length : Int) ≠ (v1.length : Int))) then some false
 else loop (F_laws_eqStringS_l0 v0 v1) 0)
@[simp] def res_laws_eqStringS (r : Bool) : RV := .one (.one (.val (.bool r)))
theorem con_laws_eqStringS {v0 : List (List UInt8)} {v1 : List (List UInt8)} {r : Bool} (hF : F_laws_eqStringS v0 v1 = some r) : Con Try.prog 39 [.sl 1 (v0.map V.str), .sl 1 (v1.map V.str)] (res_laws_eqStringS r) := by
 unfold F_laws_eqStringS at hF
 refine con_of c39_is fun N => ?_
 refine ws 0 64 ?_
 refine qp (AB false) rfl ?_
 refine r_nil ?_
 refine w_seq ?_
 refine ws 64 384 ?_
 refine qp (AL 1 (v0.map V.str)) rfl (qp (AI (v0.length : Int)) (ev_len_n rfl) (qp (AL 1 (v1.map V.str)) rfl (qp (AI (v1.length : Int)) (ev_len_n rfl) (qp (AB (decide ((v0.length : Int) ≠ (v1.length : Int)))) rfl ?_))))
 refine r_nil ?_
 refine cF hF (fun hF => ?_) fun hF => ?_
 ·
  refine ws 384 448 ?_
  refine qp (AB false) rfl ?_
  refine r_nil ?_
  refine w_ret ?_
  refine thenQ_r ?_
  cases hF
  exact eR
 ·
  refine w_skip ?_
  refine thenQ_n ?_
  refine w_seq ?_
  refine ws 384 448 ?_
  refine qp (AI 0) rfl ?_
  refine r_nil ?_
  refine w_block ?_
  refine wr (l' := [(0, AL 1 (v0.map V.str)), (1, AL 1 (v1.map V.str)), (5, AI 0)]) (L := []) [0, 1, 5] [] 1 ?_
  refine w_loopF (F_laws_eqStringS_l0 v0 v1) (fun s : Int => mkS [(0, AL 1 (v0.map V.str)), (1, AL 1 (v1.map V.str)), (5, AI s)] (fo []) 1) hF ?_
  rintro k0 v7 hF
  rw [F_laws_eqStringS_l0] at hF
  try dsimp only
  refine w_seq ?_
  refine ws 1 257 ?_
  refine qp (AI v7) rfl (qp (AL 1 (v0.map V.str)) rfl (qp (AI (v0.length : Int)) (ev_len_n rfl) (qp (AB (decide (v7 < (v0.length : Int)))) rfl ?_)))
  refine r_nil ?_
  refine cF hF (fun hF => ?_) fun hF => ?_
  ·
   refine w_skip ?_
   refine thenQ_n ?_
   refine w_seq ?_
   refine w_block ?_
   refine ws 257 833 ?_
   refine qp (AL 1 (v0.map V.str)) rfl (qp (AI v7) rfl ?_)
   obtain ⟨v1000, e1000, hF⟩ := bind_get hF
   refine qp (.val none (.ptr [.str v1000])) (ev_iad_n rfl rfl e1000 rfl) (qp (AS v1000) rfl (qp (AL 1 (v1.map V.str)) rfl (qp (AI v7) rfl ?_)))
   obtain ⟨v1001, e1001, hF⟩ := bind_get hF
   refine qp (.val none (.ptr [.str v1001])) (ev_iad_n rfl rfl e1001 rfl) (qp (AS v1001) rfl (qp (AB (decide (v1000 ≠ v1001))) rfl ?_))
   refine r_nil ?_
   refine cF hF (fun hF => ?_) fun hF => ?_
   ·
    refine ws 833 897 ?_
    refine qp (AB false) rfl ?_
    refine r_nil ?_
    refine w_ret ?_
    refine blockQ_r ?_
    refine thenQ_r ?_
    refine thenQ_r ?_
    refine blockQ_r ?_
    refine thenQ_r ?_
    cases hF
    exact eR
   ·
    refine w_skip ?_
    refine blockQ_n ?_
    refine thenQ_n ?_
    refine w_reg 833 1025 rfl rfl ?_
    refine qp (AI v7) rfl (qp (AI (w64 (v7 + 1))) rfl (qp (AI (w64 (v7 + 1))) rfl ?_))
    refine r_nil ?_
    refine thenQ_n ?_
    refine ar (l' := [(0, AL 1 (v0.map V.str)), (1, AL 1 (v1.map V.str)), (5, AI (w64 (v7 + 1)))]) (L := []) [0, 1, 5] [] 1 ⟨_, by rfl, hF⟩
  ·
   refine w_exit ?_
   refine thenQ_e ?_
   refine thenQ_e ?_
   refine blockQ_e ?_
   refine thenQ_n ?_
   refine ws 257 321 ?_
   refine qp (AB true) rfl ?_
   refine r_nil ?_
   refine w_ret ?_
   cases hF
   exact eR

def c24 : MC := (.seq (.reg [rg 2 (.f (.box (.t 0))), rg 3 (.f (.box (.t 1))), rg 4 (.p true (.mv (.c (.bool false))))]) (.seq (.seq (.reg [rg 5 (.p true (.fad (.t 2) 0)), rg 6 (.p true (.ld (.t 5) 1 false)), rg 7 (.p true (.fad (.t 3) 0)), rg 8 (.p true (.ld (.t 7) 1 false)), rg 9 (.p true (.bin .neq (.t 6) (.t 8)))]) (.cond (.t 9) (.seq (.reg [rg 4 (.p true (.mv (.c (.bool false))))]) .ret) .skip)) (.seq (.seq (.reg [rg 10 (.p true (.fad (.t 2) 1)), rg 11 (.p true (.ld (.t 10) 1 false)), rg 12 (.p true (.fad (.t 3) 1)), rg 13 (.p true (.ld (.t 12) 1 false)), rg 14 (.p true (.bin .neq (.t 11) (.t 13)))]) (.cond (.t 14) (.seq (.reg [rg 4 (.p true (.mv (.c (.bool false))))]) .ret) .skip)) (.seq (.seq (.reg [rg 15 (.p true (.fad (.t 2) 2)), rg 16 (.p true (.ld (.t 15) 1 false)), rg 17 (.p true (.fad (.t 3) 2)), rg 18 (.p true (.ld (.t 17) 1 false)), rg 19 (.call true 39 [(.t 16), (.t 18)]), rg 20 (.p true (.not (.t 19)))]) (.cond (.t 20) (.seq (.reg [rg 4 (.p true (.mv (.c (.bool false))))]) .ret) .skip)) (.seq (.reg [rg 4 (.p true (.mv (.c (.bool true))))]) .ret)))))
theorem c24_is : compFn Try.prog 24 = some (c24, [(.tmp 4)]) := by kernel_rfl
theorem c24_ok : okFn Try.prog 24 = true := by kernel_rfl

noncomputable def F_laws_eqPerson (v0 : TPerson) (v1 : TPerson) : Option (Bool) :=
 (bif (decide (v0.1 ≠ v1.1)) then some false
 else (bif (decide (v0.2.1 ≠ v1.2.1)) then some false
 else ((F_laws_eqStringS v0.2.2 v1.2.2).bind fun v1000 => (bif (!v1000) then some false
 else some true))))
@[simp] def res_laws_eqPerson (r : Bool) : RV := .one (.one (.val (.bool r)))
theorem con_laws_eqPerson {v0 : TPerson} {v1 : TPerson} {r : Bool} (hF : F_laws_eqPerson v0 v1 = some r) : Con Try.prog 24 [ePerson v0, ePerson v1] (res_laws_eqPerson r) := by
 unfold F_laws_eqPerson at hF
 refine con_of c24_is fun N => ?_
 refine ws 0 192 ?_
 refine qf (.ptr 0 0 0) [(0, .box [AS v0.1, AI v0.2.1, AL 1 (v0.2.2.map V.str)])] (by simp) ?_
 refine qf (.ptr 64 0 0) [(64, .box [AS v1.1, AI v1.2.1, AL 1 (v1.2.2.map V.str)]), (0, .box [AS v0.1, AI v0.2.1, AL 1 (v0.2.2.map V.str)])] (by simp) ?_
 refine qp (AB false) rfl ?_
 refine r_nil ?_
 refine w_seq ?_
 refine ws 192 512 ?_
 refine qp (.ptr 0 0 0) rfl (qp (AS v0.1) rfl (qp (.ptr 64 0 0) rfl (qp (AS v1.1) rfl (qp (AB (decide (v0.1 ≠ v1.1))) rfl ?_))))
 refine r_nil ?_
 refine cF hF (fun hF => ?_) fun hF => ?_
 ·
  refine ws 512 576 ?_
  refine qp (AB false) rfl ?_
  refine r_nil ?_
  refine w_ret ?_
  refine thenQ_r ?_
  cases hF
  exact eR
 ·
  refine w_skip ?_
  refine thenQ_n ?_
  refine w_seq ?_
  refine ws 512 832 ?_
  refine qp (.ptr 0 0 1) rfl (qp (AI v0.2.1) rfl (qp (.ptr 64 0 1) rfl (qp (AI v1.2.1) rfl (qp (AB (decide (v0.2.1 ≠ v1.2.1))) rfl ?_))))
  refine r_nil ?_
  refine cF hF (fun hF => ?_) fun hF => ?_
  ·
   refine ws 832 896 ?_
   refine qp (AB false) rfl ?_
   refine r_nil ?_
   refine w_ret ?_
   refine thenQ_r ?_
   cases hF
   exact eR
  ·
   refine w_skip ?_
   refine thenQ_n ?_
   refine w_seq ?_
   refine ws 832 1216 ?_
   refine qp (.ptr 0 0 2) rfl (qp (AL 1 (v0.2.2.map V.str)) rfl (qp (.ptr 64 0 2) rfl (qp (AL 1 (v1.2.2.map V.str)) rfl ?_)))
   obtain ⟨v1000, e1000, hF⟩ := bind_get hF
   refine qc (AB v1000) [(64, .box [AS v1.1, AI v1.2.1, AL 1 (v1.2.2.map V.str)]), (0, .box [AS v0.1, AI v0.2.1, AL 1 (v0.2.2.map V.str)])] false (con_laws_eqStringS e1000) c39_ok (by first | rfl | simp) rfl ?_
   refine qp (AB (!v1000)) rfl ?_
   refine r_nil ?_
   refine cF hF (fun hF => ?_) fun hF => ?_
   ·
    refine ws 1216 1280 ?_
    refine qp (AB false) rfl ?_
    refine r_nil ?_
    refine w_ret ?_
    refine thenQ_r ?_
    cases hF
    exact eR
   ·
    refine w_skip ?_
    refine thenQ_n ?_
    refine ws 1216 1280 ?_
    refine qp (AB true) rfl ?_
    refine r_nil ?_
    refine w_ret ?_
    cases hF
    exact eR

def c15 : MC := (.seq (.reg [rg 4 (.p true (.mv (.c (.bool false))))]) (.seq (.seq (.reg [mvt 6 0, rg 7 (.p true (.len (.t 6))), mvt 8 1, rg 9 (.p true (.len (.t 8))), rg 10 (.p true (.bin .neq (.t 7) (.t 9)))]) (.cond (.t 10) (.seq (.reg [rg 4 (.p true (.mv (.c (.bool false))))]) .ret) .skip)) (.seq (.seq (.reg [rg 5 (.p true (.mv (.c (.int .i64 0))))]) (.block 0 (.loop (.seq (.seq (.reg [mvt 11 5, mvt 12 0, rg 13 (.p true (.len (.t 12))), rg 14 (.p true (.bin .lss (.t 11) (.t 13)))]) (.cond (.t 14) .skip (.exit 0))) (.seq (.block 1 (.seq (.reg [rg 17 (.p false (.mv (.t 0))), rg 18 (.p false (.mv (.t 5))), rg 19 (.p false (.iad (.t 17) (.t 18) 3)), rg 20 (.p false (.ld (.t 19) 3 true)), rg 21 (.p false (.mv (.t 1))), rg 22 (.p false (.mv (.t 5))), rg 23 (.p false (.iad (.t 21) (.t 22) 3)), rg 24 (.p false (.ld (.t 23) 3 true)), rg 25 (.call false 24 [(.t 20), (.t 24)]), rg 26 (.p false (.not (.t 25)))]) (.cond (.t 26) (.seq (.reg [rg 4 (.p true (.mv (.c (.bool false))))]) .ret) .skip))) (.reg [mvt 15 5, rg 16 (.p true (.bin .add (.t 15) (.c (.int .i64 1)))), mvt 5 16])))))) (.seq (.reg [rg 4 (.p true (.mv (.c (.bool true))))]) .ret))))
theorem c15_is : compFn Try.prog 15 = some (c15, [(.tmp 4)]) := by kernel_rfl
theorem c15_ok : okFn Try.prog 15 = true := by kernel_rfl

noncomputable def F_laws_eqPersonS_l0 (v0 : List TPerson) (v1 : List TPerson) (k0 : Int → Option (Bool)) : Int → Option (Bool)
 | v9 => (bif (decide (v9 < (v0.length : Int))) then ((ix v0 v9).bind fun v1000 => ((ix v1 v9).bind fun v1001 => ((F_laws_eqPerson v1000 v1001).bind fun v1002 => (bif (!v1002) then some false
 else k0 (w64 (v9 + 1))))))
 else some true)
noncomputable def F_laws_eqPersonS (v0 : List TPerson) (v1 : List TPerson) : Option (Bool) :=
 (bif (decide ((v0.length : Int) ≠ (v1.length : Int))) then some false
 else loop (F_laws_eqPersonS_l0 v0 v1) 0)
@[simp] def res_laws_eqPersonS (r : Bool) : RV := .one (.one (.val (.bool r)))
theorem con_laws_eqPersonS {v0 : List TPerson} {v1 : List TPerson} {r : Bool} (hF : F_laws_eqPersonS v0 v1 = some r) : Con Try.prog 15 [.sl 3 (v0.map ePerson), .sl 3 (v1.map ePerson)] (res_laws_eqPersonS r) := by
 unfold F_laws_eqPersonS at hF
 refine con_of c15_is fun N => ?_
 refine ws 0 64 ?_
 refine qp (AB false) rfl ?_
 refine r_nil ?_
 refine w_seq ?_
 refine ws 64 384 ?_
 refine qp (AL 3 (v0.map ePerson)) rfl (qp (AI (v0.length : Int)) (ev_len_n rfl) (qp (AL 3 (v1.map ePerson)) rfl (qp (AI (v1.length : Int)) (ev_len_n rfl) (qp (AB (decide ((v0.length : Int) ≠ (v1.length : Int)))) rfl ?_))))
 refine r_nil ?_
 refine cF hF (fun hF => ?_) fun hF => ?_
 ·
  refine ws 384 448 ?_
  refine qp (AB false) rfl ?_
  refine r_nil ?_
  refine w_ret ?_
  refine thenQ_r ?_
  cases hF
  exact eR
 ·
  refine w_skip ?_
  refine thenQ_n ?_
  refine w_seq ?_
  refine ws 384 448 ?_
  refine qp (AI 0) rfl ?_
  refine r_nil ?_
  refine w_block ?_
  refine wr (l' := [(0, AL 3 (v0.map ePerson)), (1, AL 3 (v1.map ePerson)), (5, AI 0)]) (L := []) [0, 1, 5] [] 1 ?_
  refine w_loopF (F_laws_eqPersonS_l0 v0 v1) (fun s : Int => mkS [(0, AL 3 (v0.map ePerson)), (1, AL 3 (v1.map ePerson)), (5, AI s)] (fo []) 1) hF ?_
  rintro k0 v9 hF
  rw [F_laws_eqPersonS_l0] at hF
  try dsimp only
  refine w_seq ?_
  refine ws 1 257 ?_
  refine qp (AI v9) rfl (qp (AL 3 (v0.map ePerson)) rfl (qp (AI (v0.length : Int)) (ev_len_n rfl) (qp (AB (decide (v9 < (v0.length : Int)))) rfl ?_)))
  refine r_nil ?_
  refine cF hF (fun hF => ?_) fun hF => ?_
  ·
   refine w_skip ?_
   refine thenQ_n ?_
   refine w_seq ?_
   refine w_block ?_
   refine ws 257 897 ?_
   refine qp (AL 3 (v0.map ePerson)) rfl (qp (AI v9) rfl ?_)
   obtain ⟨v1000, e1000, hF⟩ := bind_get hF
   refine qp (.val none (.ptr [.str v1000.1, .int .i64 v1000.2.1, .sl 1 (v1000.2.2.map V.str)])) (ev_iad_n rfl rfl e1000 rfl) (qp (.val none (ePerson v1000)) rfl (qp (AL 3 (v1.map ePerson)) rfl (qp (AI v9) rfl ?_)))
   obtain ⟨v1001, e1001, hF⟩ := bind_get hF
   refine qp (.val none (.ptr [.str v1001.1, .int .i64 v1001.2.1, .sl 1 (v1001.2.2.map V.str)])) (ev_iad_n rfl rfl e1001 rfl) (qp (.val none (ePerson v1001)) rfl ?_)
   obtain ⟨v1002, e1002, hF⟩ := bind_get hF
   refine qc (AB v1002) [] false (con_laws_eqPerson e1002) c24_ok (by first | rfl | simp) rfl ?_
   refine qp (AB (!v1002)) rfl ?_
   refine r_nil ?_
   refine cF hF (fun hF => ?_) fun hF => ?_
   ·
    refine ws 897 961 ?_
    refine qp (AB false) rfl ?_
    refine r_nil ?_
    refine w_ret ?_
    refine blockQ_r ?_
    refine thenQ_r ?_
    refine thenQ_r ?_
    refine blockQ_r ?_
    refine thenQ_r ?_
    cases hF
    exact eR
   ·
    refine w_skip ?_
    refine blockQ_n ?_
    refine thenQ_n ?_
    refine w_reg 897 1089 rfl rfl ?_
    refine qp (AI v9) rfl (qp (AI (w64 (v9 + 1))) rfl (qp (AI (w64 (v9 + 1))) rfl ?_))
    refine r_nil ?_
    refine thenQ_n ?_
    refine ar (l' := [(0, AL 3 (v0.map ePerson)), (1, AL 3 (v1.map ePerson)), (5, AI (w64 (v9 + 1)))]) (L := []) [0, 1, 5] [] 1 ⟨_, by rfl, hF⟩
  ·
   refine w_exit ?_
   refine thenQ_e ?_
   refine thenQ_e ?_
   refine blockQ_e ?_
   refine thenQ_n ?_
   refine ws 257 321 ?_
   refine qp (AB true) rfl ?_
   refine r_nil ?_
   refine w_ret ?_
   cases hF
   exact eR

def c4 : MC := (.seq (.reg [rg 6 (.p true (.mv (.c (.bool false))))]) (.seq (.seq (.reg [mvt 13 1, rg 14 (.p true (.lens (.t 13))), rg 15 (.p true (.bin .gtr (.t 14) (.c (.int .i64 1048576))))]) (.cond (.t 15) (.seq (.reg [rg 6 (.p true (.mv (.c (.bool true))))]) .ret) .skip)) (.seq (.seq (.reg [mvt 16 2, rg 17 (.p true (.lens (.t 16))), rg 18 (.p true (.bin .gtr (.t 17) (.c (.int .i64 1048576))))]) (.cond (.t 18) (.seq (.reg [rg 6 (.p true (.mv (.c (.bool true))))]) .ret) .skip)) (.seq (.reg [rg 7 (.p true (.mv (.c (.int .i64 1048576))))]) (.seq (.reg [mvt 19 0, mvt 20 7, rg 21 (.call true 11 [(.t 19), (.t 20)]), mvt 7 21]) (.seq (.seq (.reg [mvt 22 7, rg 23 (.p true (.bin .lss (.t 22) (.c (.int .i64 0))))]) (.cond (.t 23) (.seq (.reg [rg 6 (.p true (.mv (.c (.bool true))))]) .ret) .skip)) (.seq (.reg [mvt 25 0, rg 26 (.call true 13 [(.t 25)]), mvt 27 1, mvt 28 2, rg 29 (.call true 16 [(.t 26), (.t 27), (.t 28)]), mvt 24 29, rg 30 (.p true (.ext (.t 24) 0)), rg 31 (.p true (.ext (.t 24) 1)), mvt 8 30, mvt 9 31]) (.seq (.reg [mvt 32 0, rg 33 (.call true 13 [(.t 32)]), mvt 10 33]) (.seq (.reg [mvt 35 10, mvt 36 1, mvt 37 2, rg 38 (.call true 17 [(.t 35), (.t 36), (.t 37)]), mvt 34 38, rg 39 (.p true (.ext (.t 34) 0)), rg 40 (.p true (.ext (.t 34) 1)), mvt 11 39, mvt 12 40]) (.seq (.seq (.reg [mvt 41 11, mvt 42 8, rg 43 (.p true (.bin .neq (.t 41) (.t 42))), mvt 44 43, ⟨(some 45), (some (44, false)), (.p true (.mv (.t 12)))⟩, ⟨(some 46), (some (44, false)), (.p true (.mv (.t 9)))⟩, ⟨(some 47), (some (44, false)), (.p true (.bin .neq (.t 45) (.t 46)))⟩, rg 48 (.p true (.pick (.t 44) (.c (.bool true)) (.t 47)))]) (.cond (.t 48) (.seq (.reg [rg 6 (.p true (.mv (.c (.bool false))))]) .ret) .skip)) (.seq (.seq (.reg [mvt 49 10, mvt 50 0, rg 51 (.call true 13 [(.t 50)]), rg 52 (.call true 15 [(.t 49), (.t 51)]), rg 53 (.p true (.not (.t 52)))]) (.cond (.t 53) (.seq (.reg [rg 6 (.p true (.mv (.c (.bool false))))]) .ret) .skip)) (.seq (.reg [rg 6 (.p true (.mv (.c (.bool true))))]) .ret))))))))))))
theorem c4_is : compFn Try.prog 4 = some (c4, [(.tmp 6)]) := by kernel_rfl
theorem c4_ok : okFn Try.prog 4 = true := by kernel_rfl

noncomputable def F_laws_FnExactRelationOf (v0 : List TPerson) (v1 : List UInt8) (v2 : List UInt8) : Option (Bool) :=
 (bif (decide ((1048576 : Int) < (v1.length : Int))) then some true
 else (bif (decide ((1048576 : Int) < (v2.length : Int))) then some true
 else ((F_laws_szPersonS v0 1048576).bind fun v1000 => (bif (decide (v1000 < (0 : Int))) then some true
 else ((F_laws_toPersonS v0).bind fun v1001 => ((F_spec_RelationOf v1001 v1 v2).bind fun v1002 => ((F_laws_toPersonS v0).bind fun v1003 => ((F_impl_RelationOf v1003 v1 v2).bind fun v1004 => (bif (decide (v1004.1 ≠ v1002.1)) then some false
 else (bif (decide (v1004.2 ≠ v1002.2)) then some false
 else ((F_laws_toPersonS v0).bind fun v1005 => ((F_laws_eqPersonS v1003 v1005).bind fun v1006 => (bif (!v1006) then some false
 else some true)))))))))))))
@[simp] def res_laws_FnExactRelationOf (r : Bool) : RV := .one (.one (.val (.bool r)))
theorem con_laws_FnExactRelationOf {v0 : List TPerson} {v1 : List UInt8} {v2 : List UInt8} {r : Bool} (hF : F_laws_FnExactRelationOf v0 v1 v2 = some r) : Con Try.prog 4 [.sl 3 (v0.map ePerson), .str v1, .str v2] (res_laws_FnExactRelationOf r) := by
 unfold F_laws_FnExactRelationOf at hF
 refine con_of c4_is fun N => ?_
 refine ws 0 64 ?_
 refine qp (AB false) rfl ?_
 refine r_nil ?_
 refine w_seq ?_
 refine ws 64 256 ?_
 refine qp (AS v1) rfl (qp (AI (v1.length : Int)) rfl (qp (AB (decide ((1048576 : Int) < (v1.length : Int)))) rfl ?_))
 refine r_nil ?_
 refine cF hF (fun hF => ?_) fun hF => ?_
 ·
  refine ws 256 320 ?_
  refine qp (AB true) rfl ?_
  refine r_nil ?_
  refine w_ret ?_
  refine thenQ_r ?_
  cases hF
  exact eR
 ·
  refine w_skip ?_
  refine thenQ_n ?_
  refine w_seq ?_
  refine ws 256 448 ?_
  refine qp (AS v2) rfl (qp (AI (v2.length : Int)) rfl (qp (AB (decide ((1048576 : Int) < (v2.length : Int)))) rfl ?_))
  refine r_nil ?_
  refine cF hF (fun hF => ?_) fun hF => ?_
  ·
   refine ws 448 512 ?_
   refine qp (AB true) rfl ?_
   refine r_nil ?_
   refine w_ret ?_
   refine thenQ_r ?_
   cases hF
   exact eR
  ·
   refine w_skip ?_
   refine thenQ_n ?_
   refine ws 448 512 ?_
   refine qp (AI 1048576) rfl ?_
   refine r_nil ?_
   refine ws 512 768 ?_
   refine qp (AL 3 (v0.map ePerson)) rfl (qp (AI 1048576) rfl ?_)
   obtain ⟨v1000, e1000, hF⟩ := bind_get hF
   refine qc (AI v1000) [] false (con_laws_szPersonS e1000) c11_ok (by first | rfl | simp) rfl ?_
   refine qp (AI v1000) rfl ?_
   refine r_nil ?_
   refine w_seq ?_
   refine ws 768 896 ?_
   refine qp (AI v1000) rfl (qp (AB (decide (v1000 < (0 : Int)))) rfl ?_)
   refine r_nil ?_
   refine cF hF (fun hF => ?_) fun hF => ?_
   ·
    refine ws 896 960 ?_
    refine qp (AB true) rfl ?_
    refine r_nil ?_
    refine w_ret ?_
    refine thenQ_r ?_
    cases hF
    exact eR
   ·
    refine w_skip ?_
    refine thenQ_n ?_
    refine ws 896 1536 ?_
    refine qp (AL 3 (v0.map ePerson)) rfl ?_
    obtain ⟨v1001, e1001, hF⟩ := bind_get hF
    refine qc (.sl 960 0 v1001.length) [(960, .row true 3 (v1001.map ePerson))] false (con_laws_toPersonS e1001) c13_ok (by first | rfl | simp) (by simp [res_laws_toPersonS]) ?_
    refine qp (AS v1) rfl (qp (AS v2) rfl ?_)
    obtain ⟨v1002, e1002, hF⟩ := bind_get hF
    refine qc (.tup [AI v1002.1, AI v1002.2]) [(960, .row true 3 (v1001.map ePerson))] true (con_spec_RelationOf e1002) c16_ok (by simp [List.take_of_length_le]) rfl ?_
    refine qp (.tup [AI v1002.1, AI v1002.2]) rfl (qp (AI v1002.1) rfl (qp (AI v1002.2) rfl (qp (AI v1002.1) rfl (qp (AI v1002.2) rfl ?_))))
    refine r_nil ?_
    refine ws 1536 1728 ?_
    refine qp (AL 3 (v0.map ePerson)) rfl ?_
    obtain ⟨v1003, e1003, hF⟩ := bind_get hF
    refine qc (.sl 1600 0 v1003.length) [(1600, .row true 3 (v1003.map ePerson)), (960, .row true 3 (v1001.map ePerson))] false (con_laws_toPersonS e1003) c13_ok (by first | rfl | simp) (by simp [res_laws_toPersonS]) ?_
    refine qp (.sl 1600 0 v1003.length) rfl ?_
    refine r_nil ?_
    refine ws 1728 2304 ?_
    refine qp (.sl 1600 0 v1003.length) rfl (qp (AS v1) rfl (qp (AS v2) rfl ?_))
    obtain ⟨v1004, e1004, hF⟩ := bind_get hF
    refine qc (.tup [AI v1004.1, AI v1004.2]) [(1600, .row true 3 (v1003.map ePerson)), (960, .row true 3 (v1001.map ePerson))] true (con_impl_RelationOf e1004) c17_ok (by simp [List.take_of_length_le]) rfl ?_
    refine qp (.tup [AI v1004.1, AI v1004.2]) rfl (qp (AI v1004.1) rfl (qp (AI v1004.2) rfl (qp (AI v1004.1) rfl (qp (AI v1004.2) rfl ?_))))
    refine r_nil ?_
    refine w_seq ?_
    refine ws 2304 2816 ?_
    refine qp (AI v1004.1) rfl (qp (AI v1002.1) rfl (qp (AB (decide (v1004.1 ≠ v1002.1))) rfl (qp (AB (decide (v1004.1 ≠ v1002.1))) rfl ?_)))
    refine q_case 44 hF rfl (fun hF => ?_) (fun hF => ?_)
    ·
     refine qn rfl (qn rfl (qn rfl (qp (AB true) rfl ?_)))
     refine r_nil ?_
     refine w_true rfl ?_
     refine ws 2816 2880 ?_
     refine qp (AB false) rfl ?_
     refine r_nil ?_
     refine w_ret ?_
     refine thenQ_r ?_
     cases hF
     exact eR
    ·
     refine qg (AI v1004.2) rfl rfl (qg (AI v1002.2) rfl rfl (qg (AB (decide (v1004.2 ≠ v1002.2))) rfl rfl (qp (AB (decide (v1004.2 ≠ v1002.2))) rfl ?_)))
     refine r_nil ?_
     refine cF hF (fun hF => ?_) fun hF => ?_
     ·
      refine ws 2816 2880 ?_
      refine qp (AB false) rfl ?_
      refine r_nil ?_
      refine w_ret ?_
      refine thenQ_r ?_
      cases hF
      exact eR
     ·
      refine w_skip ?_
      refine thenQ_n ?_
      refine w_seq ?_
      refine ws 2816 3136 ?_
      refine qp (.sl 1600 0 v1003.length) rfl (qp (AL 3 (v0.map ePerson)) rfl ?_)
      obtain ⟨v1005, e1005, hF⟩ := bind_get hF
      refine qc (.sl 2944 0 v1005.length) [(2944, .row true 3 (v1005.map ePerson)), (1600, .row true 3 (v1003.map ePerson)), (960, .row true 3 (v1001.map ePerson))] false (con_laws_toPersonS e1005) c13_ok (by first | rfl | simp) (by simp [res_laws_toPersonS]) ?_
      obtain ⟨v1006, e1006, hF⟩ := bind_get hF
      refine qc (AB v1006) [(2944, .row true 3 (v1005.map ePerson)), (1600, .row true 3 (v1003.map ePerson)), (960, .row true 3 (v1001.map ePerson))] true (con_laws_eqPersonS e1006) c15_ok (by simp [List.take_of_length_le]) rfl ?_
      refine qp (AB (!v1006)) rfl ?_
      refine r_nil ?_
      refine cF hF (fun hF => ?_) fun hF => ?_
      ·
       refine ws 3136 3200 ?_
       refine qp (AB false) rfl ?_
       refine r_nil ?_
       refine w_ret ?_
       refine thenQ_r ?_
       cases hF
       exact eR
      ·
       refine w_skip ?_
       refine thenQ_n ?_
       refine ws 3136 3200 ?_
       refine qp (AB true) rfl ?_
       refine r_nil ?_
       refine w_ret ?_
       cases hF
       exact eR

end Go.Ab
