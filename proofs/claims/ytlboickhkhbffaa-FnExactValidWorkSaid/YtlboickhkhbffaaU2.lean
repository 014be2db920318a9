/- Walks (printed by auto.py, a program of this session's own). -/
import Derived.Test.YtlboickhkhbffaaU1
import Derived.Test.YtlboickhkhbffaaProg
import Derived.KernelRfl
import Derived.Test.YtlboickhkhbffaaSQ
set_option linter.unusedVariables false
set_option linter.unusedSimpArgs false
set_option maxRecDepth 8000
set_option maxHeartbeats 8000000
namespace Go.Ab
open Go.RowKit Go.Proofs

def c44 : MC := (.seq (.reg [rg 2 (.p true (.mv (.c (.bool false))))]) (.seq (.seq (.reg [rg 4 (.p false (.mv (.t 0))), rg 5 (.p false (.nck (.t 4))), rg 6 (.p false (.fad (.t 5) 0)), rg 7 (.call false 141 [(.t 6)]), rg 8 (.p false (.not (.t 7))), rg 9 (.p false (.mv (.t 8))), ⟨(some 10), (some (9, false)), (.p false (.mv (.t 0)))⟩, ⟨(some 11), (some (9, false)), (.p false (.nck (.t 10)))⟩, ⟨(some 12), (some (9, false)), (.p false (.fad (.t 11) 6))⟩, ⟨(some 13), (some (9, false)), (.p false (.ld (.t 12) 1 false))⟩, ⟨(some 14), (some (9, false)), (.call false 142 [(.t 13)])⟩, ⟨(some 15), (some (9, false)), (.p false (.not (.t 14)))⟩, rg 16 (.p false (.pick (.t 9) (.c (.bool true)) (.t 15))), rg 17 (.p false (.mv (.t 16))), ⟨(some 18), (some (17, false)), (.p false (.mv (.t 0)))⟩, ⟨(some 19), (some (17, false)), (.p false (.nck (.t 18)))⟩, ⟨(some 20), (some (17, false)), (.p false (.fad (.t 19) 7))⟩, ⟨(some 21), (some (17, false)), (.p false (.ld (.t 20) 1 false))⟩, ⟨(some 22), (some (17, false)), (.p false (.mv (.t 0)))⟩, ⟨(some 23), (some (17, false)), (.p false (.nck (.t 22)))⟩, ⟨(some 24), (some (17, false)), (.p false (.fad (.t 23) 6))⟩, ⟨(some 25), (some (17, false)), (.p false (.ld (.t 24) 1 false))⟩, ⟨(some 26), (some (17, false)), (.call false 93 [(.t 21), (.t 25), (.c (.int .i64 23))])⟩, ⟨(some 27), (some (17, false)), (.p false (.not (.t 26)))⟩, rg 28 (.p false (.pick (.t 17) (.c (.bool true)) (.t 27))), rg 29 (.p false (.mv (.t 28))), ⟨(some 30), (some (29, false)), (.p false (.mv (.t 0)))⟩, ⟨(some 31), (some (29, false)), (.p false (.nck (.t 30)))⟩, ⟨(some 32), (some (29, false)), (.p false (.fad (.t 31) 8))⟩, ⟨(some 33), (some (29, false)), (.p false (.ld (.t 32) 1 false))⟩, ⟨(some 34), (some (29, false)), (.call false 143 [(.t 33)])⟩, ⟨(some 35), (some (29, false)), (.p false (.not (.t 34)))⟩, rg 36 (.p false (.pick (.t 29) (.c (.bool true)) (.t 35))), rg 37 (.p false (.mv (.t 36))), ⟨(some 38), (some (37, false)), (.p false (.mv (.t 0)))⟩, ⟨(some 39), (some (37, false)), (.p false (.nck (.t 38)))⟩, ⟨(some 40), (some (37, false)), (.p false (.fad (.t 39) 17))⟩, ⟨(some 41), (some (37, false)), (.p false (.ld (.t 40) 1 false))⟩, ⟨(some 42), (some (37, false)), (.call false 144 [(.t 41)])⟩, ⟨(some 43), (some (37, false)), (.p false (.not (.t 42)))⟩, rg 44 (.p false (.pick (.t 37) (.c (.bool true)) (.t 43)))]) (.cond (.t 44) (.seq (.reg [rg 2 (.p true (.mv (.c (.bool false))))]) .ret) .skip)) (.seq (.reg [rg 45 (.p false (.mv (.t 0))), rg 46 (.p false (.nck (.t 45))), rg 47 (.p false (.fad (.t 46) 0)), rg 48 (.p false (.mv (.t 0))), rg 49 (.p false (.nck (.t 48))), rg 50 (.p false (.fad (.t 49) 6)), rg 51 (.p false (.ld (.t 50) 1 false)), rg 52 (.p false (.mv (.t 0))), rg 53 (.p false (.nck (.t 52))), rg 54 (.p false (.fad (.t 53) 7)), rg 55 (.p false (.ld (.t 54) 1 false)), rg 56 (.call false 145 [(.t 47), (.t 51), (.t 55)]), rg 3 (.f (.alloc [((.int .i64 0), (0, false)), ((.int .i64 0), (0, false)), ((.sl 0 []), (1, false)), ((.sl 0 []), (3, false))])), ⟨none, none, (.f (.st (.t 3) (.t 56) 4))⟩]) (.seq (.reg [rg 57 (.call false 146 [(.t 3)]), rg 58 (.p false (.mv (.t 57))), ⟨(some 59), (some (58, true)), (.p false (.mv (.t 0)))⟩, ⟨(some 60), (some (58, true)), (.p false (.nck (.t 59)))⟩, ⟨(some 61), (some (58, true)), (.p false (.fad (.t 60) 9))⟩, ⟨(some 62), (some (58, true)), (.p false (.mv (.t 0)))⟩, ⟨(some 63), (some (58, true)), (.p false (.nck (.t 62)))⟩, ⟨(some 64), (some (58, true)), (.p false (.fad (.t 63) 12))⟩, ⟨(some 65), (some (58, true)), (.p false (.ld (.t 64) 1 false))⟩, ⟨(some 66), (some (58, true)), (.p false (.mv (.t 0)))⟩, ⟨(some 67), (some (58, true)), (.p false (.nck (.t 66)))⟩, ⟨(some 68), (some (58, true)), (.p false (.fad (.t 67) 14))⟩, ⟨(some 69), (some (58, true)), (.p false (.ld (.t 68) 1 false))⟩, ⟨(some 70), (some (58, true)), (.call false 147 [(.t 61), (.t 65), (.t 69)])⟩, ⟨(some 71), (some (58, true)), (.p false (.bin .eql (.t 70) (.c (.int .i64 0))))⟩, rg 72 (.p false (.pick (.t 58) (.t 71) (.c (.bool false)))), rg 73 (.p false (.mv (.t 72))), ⟨(some 74), (some (73, true)), (.p false (.mv (.t 0)))⟩, ⟨(some 75), (some (73, true)), (.p false (.nck (.t 74)))⟩, ⟨(some 76), (some (73, true)), (.p false (.fad (.t 75) 15))⟩, ⟨(some 77), (some (73, true)), (.p false (.ld (.t 76) 1 false))⟩, ⟨(some 78), (some (73, true)), (.call false 148 [(.t 77)])⟩, rg 79 (.p false (.pick (.t 73) (.t 78) (.c (.bool false)))), rg 80 (.p false (.mv (.t 79))), ⟨(some 81), (some (80, true)), (.p false (.mv (.t 0)))⟩, ⟨(some 82), (some (80, true)), (.p false (.nck (.t 81)))⟩, ⟨(some 83), (some (80, true)), (.p false (.fad (.t 82) 16))⟩, ⟨(some 84), (some (80, true)), (.p false (.ld (.t 83) 1 false))⟩, ⟨(some 85), (some (80, true)), (.call false 149 [(.t 84)])⟩, rg 86 (.p false (.pick (.t 80) (.t 85) (.c (.bool false)))), rg 2 (.p false (.mv (.t 86)))]) .ret))))
theorem c44_is : compFn Try.prog 44 = some (c44, [(.tmp 2)]) := by kernel_rfl
theorem c44_ok : okFn Try.prog 44 = true := by kernel_rfl

noncomputable def F_spec_l31Ok (v0 : TWork) : Option (Bool) :=
 ((F_spec_l05Ok (v0.1, v0.2.1, v0.2.2.1, v0.2.2.2.1, v0.2.2.2.2.1, v0.2.2.2.2.2.1)).bind fun v1000 => (bif (!v1000) then some false
 else ((F_spec_l03Pitch v0.2.2.2.2.2.2.1).bind fun v1001 => (bif (!v1001) then some false
 else ((F_spec_l00In v0.2.2.2.2.2.2.2.1 v0.2.2.2.2.2.2.1 23).bind fun v1002 => (bif (!v1002) then some false
 else ((F_spec_l09Ok v0.2.2.2.2.2.2.2.2.1).bind fun v1003 => (bif (!v1003) then some false
 else ((F_spec_l23Ok v0.2.2.2.2.2.2.2.2.2.2.2.2.2.2.2.2.2).bind fun v1004 => (bif (!v1004) then some false
 else ((F_spec_l07Of (v0.1, v0.2.1, v0.2.2.1, v0.2.2.2.1, v0.2.2.2.2.1, v0.2.2.2.2.2.1) v0.2.2.2.2.2.2.1 v0.2.2.2.2.2.2.2.1).bind fun v1005 => ((F_spec_l07Ok v1005).bind fun v1006 => (bif v1006 then ((F_spec_l19Start (v0.2.2.2.2.2.2.2.2.2.1, v0.2.2.2.2.2.2.2.2.2.2.1, v0.2.2.2.2.2.2.2.2.2.2.2.1) v0.2.2.2.2.2.2.2.2.2.2.2.2.1 v0.2.2.2.2.2.2.2.2.2.2.2.2.2.2.1).bind fun v1007 => (bif (decide (v1007 = (0 : Int))) then ((F_spec_l19Phrase v0.2.2.2.2.2.2.2.2.2.2.2.2.2.2.2.1).bind fun v1008 => (bif v1008 then ((F_spec_l19Gap v0.2.2.2.2.2.2.2.2.2.2.2.2.2.2.2.2.1).bind fun v1009 => some v1009)
 else some false))
 else some false))
 else some false)))))))))))))
@[simp] def res_spec_l31Ok (r : Bool) : RV := .one (.one (.val (.bool r)))
theorem con_spec_l31Ok {v0 : TWork} {r : Bool} (hF : F_spec_l31Ok v0 = some r) : Con Try.prog 44 [.ptr [.str v0.1, .sl 1 (v0.2.1.map vI), .sl 1 (v0.2.2.1.map vI), .int .i64 v0.2.2.2.1, .int .i64 v0.2.2.2.2.1, .sl 1 (v0.2.2.2.2.2.1.map (eL 1 vI)), .int .i64 v0.2.2.2.2.2.2.1, .int .i64 v0.2.2.2.2.2.2.2.1, .sl 2 (v0.2.2.2.2.2.2.2.2.1.map eNote), .str v0.2.2.2.2.2.2.2.2.2.1, .sl 1 (v0.2.2.2.2.2.2.2.2.2.2.1.map vI), .sl 1 (v0.2.2.2.2.2.2.2.2.2.2.2.1.map vI), .int .i64 v0.2.2.2.2.2.2.2.2.2.2.2.2.1, .str v0.2.2.2.2.2.2.2.2.2.2.2.2.2.1, .int .i64 v0.2.2.2.2.2.2.2.2.2.2.2.2.2.2.1, .int .i64 v0.2.2.2.2.2.2.2.2.2.2.2.2.2.2.2.1, .int .i64 v0.2.2.2.2.2.2.2.2.2.2.2.2.2.2.2.2.1, .sl 3 (v0.2.2.2.2.2.2.2.2.2.2.2.2.2.2.2.2.2.map eTurn)]] (res_spec_l31Ok r) := by
 unfold F_spec_l31Ok at hF
 refine con_of c44_is fun N => ?_
 refine ws 0 64 ?_
 refine qp (AB false) rfl ?_
 refine r_nil ?_
 refine w_seq ?_
 refine ws 64 2688 ?_
 refine qp (.val none (.ptr [.str v0.1, .sl 1 (v0.2.1.map vI), .sl 1 (v0.2.2.1.map vI), .int .i64 v0.2.2.2.1, .int .i64 v0.2.2.2.2.1, .sl 1 (v0.2.2.2.2.2.1.map (eL 1 vI)), .int .i64 v0.2.2.2.2.2.2.1, .int .i64 v0.2.2.2.2.2.2.2.1, .sl 2 (v0.2.2.2.2.2.2.2.2.1.map eNote), .str v0.2.2.2.2.2.2.2.2.2.1, .sl 1 (v0.2.2.2.2.2.2.2.2.2.2.1.map vI), .sl 1 (v0.2.2.2.2.2.2.2.2.2.2.2.1.map vI), .int .i64 v0.2.2.2.2.2.2.2.2.2.2.2.2.1, .str v0.2.2.2.2.2.2.2.2.2.2.2.2.2.1, .int .i64 v0.2.2.2.2.2.2.2.2.2.2.2.2.2.2.1, .int .i64 v0.2.2.2.2.2.2.2.2.2.2.2.2.2.2.2.1, .int .i64 v0.2.2.2.2.2.2.2.2.2.2.2.2.2.2.2.2.1, .sl 3 (v0.2.2.2.2.2.2.2.2.2.2.2.2.2.2.2.2.2.map eTurn)])) rfl (qp (.val none (.ptr [.str v0.1, .sl 1 (v0.2.1.map vI), .sl 1 (v0.2.2.1.map vI), .int .i64 v0.2.2.2.1, .int .i64 v0.2.2.2.2.1, .sl 1 (v0.2.2.2.2.2.1.map (eL 1 vI)), .int .i64 v0.2.2.2.2.2.2.1, .int .i64 v0.2.2.2.2.2.2.2.1, .sl 2 (v0.2.2.2.2.2.2.2.2.1.map eNote), .str v0.2.2.2.2.2.2.2.2.2.1, .sl 1 (v0.2.2.2.2.2.2.2.2.2.2.1.map vI), .sl 1 (v0.2.2.2.2.2.2.2.2.2.2.2.1.map vI), .int .i64 v0.2.2.2.2.2.2.2.2.2.2.2.2.1, .str v0.2.2.2.2.2.2.2.2.2.2.2.2.2.1, .int .i64 v0.2.2.2.2.2.2.2.2.2.2.2.2.2.2.1, .int .i64 v0.2.2.2.2.2.2.2.2.2.2.2.2.2.2.2.1, .int .i64 v0.2.2.2.2.2.2.2.2.2.2.2.2.2.2.2.2.1, .sl 3 (v0.2.2.2.2.2.2.2.2.2.2.2.2.2.2.2.2.2.map eTurn)])) rfl (qp (.val none (.ptr [.str v0.1, .sl 1 (v0.2.1.map vI), .sl 1 (v0.2.2.1.map vI), .int .i64 v0.2.2.2.1, .int .i64 v0.2.2.2.2.1, .sl 1 (v0.2.2.2.2.2.1.map (eL 1 vI)), .int .i64 v0.2.2.2.2.2.2.1, .int .i64 v0.2.2.2.2.2.2.2.1, .sl 2 (v0.2.2.2.2.2.2.2.2.1.map eNote), .str v0.2.2.2.2.2.2.2.2.2.1, .sl 1 (v0.2.2.2.2.2.2.2.2.2.2.1.map vI), .sl 1 (v0.2.2.2.2.2.2.2.2.2.2.2.1.map vI), .int .i64 v0.2.2.2.2.2.2.2.2.2.2.2.2.1, .str v0.2.2.2.2.2.2.2.2.2.2.2.2.2.1, .int .i64 v0.2.2.2.2.2.2.2.2.2.2.2.2.2.2.1, .int .i64 v0.2.2.2.2.2.2.2.2.2.2.2.2.2.2.2.1, .int .i64 v0.2.2.2.2.2.2.2.2.2.2.2.2.2.2.2.2.1, .sl 3 (v0.2.2.2.2.2.2.2.2.2.2.2.2.2.2.2.2.2.map eTurn)])) rfl ?_))
 obtain ⟨v1000, e1000, hF⟩ := bind_get hF
 refine qc (AB v1000) [] false (con_pre0 [.int .i64 v0.2.2.2.2.2.2.1, .int .i64 v0.2.2.2.2.2.2.2.1, .sl 2 (v0.2.2.2.2.2.2.2.2.1.map eNote), .str v0.2.2.2.2.2.2.2.2.2.1, .sl 1 (v0.2.2.2.2.2.2.2.2.2.2.1.map vI), .sl 1 (v0.2.2.2.2.2.2.2.2.2.2.2.1.map vI), .int .i64 v0.2.2.2.2.2.2.2.2.2.2.2.2.1, .str v0.2.2.2.2.2.2.2.2.2.2.2.2.2.1, .int .i64 v0.2.2.2.2.2.2.2.2.2.2.2.2.2.2.1, .int .i64 v0.2.2.2.2.2.2.2.2.2.2.2.2.2.2.2.1, .int .i64 v0.2.2.2.2.2.2.2.2.2.2.2.2.2.2.2.2.1, .sl 3 (v0.2.2.2.2.2.2.2.2.2.2.2.2.2.2.2.2.2.map eTurn)] (con_spec_l05Ok e1000)) c141_ok (by first | rfl | simp) rfl ?_
 refine qp (AB (!v1000)) rfl (qp (AB (!v1000)) rfl ?_)
 refine q_case 9 hF rfl (fun hF => ?_) (fun hF => ?_)
 ·
  refine qn rfl (qn rfl (qn rfl (qn rfl (qn rfl (qn rfl (qp (AB true) rfl (qp (AB true) rfl ?_)))))))
  refine qn rfl (qn rfl (qn rfl (qn rfl (qn rfl (qn rfl (qn rfl (qn rfl ?_)))))))
  refine qn rfl (qn rfl (qp (AB true) rfl (qp (AB true) rfl (qn rfl (qn rfl (qn rfl (qn rfl ?_)))))))
  refine qn rfl (qn rfl (qp (AB true) rfl (qp (AB true) rfl (qn rfl (qn rfl (qn rfl (qn rfl ?_)))))))
  refine qn rfl (qn rfl (qp (AB true) rfl ?_))
  refine r_nil ?_
  refine w_true rfl ?_
  refine ws 2688 2752 ?_
  refine qp (AB false) rfl ?_
  refine r_nil ?_
  refine w_ret ?_
  refine thenQ_r ?_
  cases hF
  exact eR
 ·
  refine qg (.val none (.ptr [.str v0.1, .sl 1 (v0.2.1.map vI), .sl 1 (v0.2.2.1.map vI), .int .i64 v0.2.2.2.1, .int .i64 v0.2.2.2.2.1, .sl 1 (v0.2.2.2.2.2.1.map (eL 1 vI)), .int .i64 v0.2.2.2.2.2.2.1, .int .i64 v0.2.2.2.2.2.2.2.1, .sl 2 (v0.2.2.2.2.2.2.2.2.1.map eNote), .str v0.2.2.2.2.2.2.2.2.2.1, .sl 1 (v0.2.2.2.2.2.2.2.2.2.2.1.map vI), .sl 1 (v0.2.2.2.2.2.2.2.2.2.2.2.1.map vI), .int .i64 v0.2.2.2.2.2.2.2.2.2.2.2.2.1, .str v0.2.2.2.2.2.2.2.2.2.2.2.2.2.1, .int .i64 v0.2.2.2.2.2.2.2.2.2.2.2.2.2.2.1, .int .i64 v0.2.2.2.2.2.2.2.2.2.2.2.2.2.2.2.1, .int .i64 v0.2.2.2.2.2.2.2.2.2.2.2.2.2.2.2.2.1, .sl 3 (v0.2.2.2.2.2.2.2.2.2.2.2.2.2.2.2.2.2.map eTurn)])) rfl rfl (qg (.val none (.ptr [.str v0.1, .sl 1 (v0.2.1.map vI), .sl 1 (v0.2.2.1.map vI), .int .i64 v0.2.2.2.1, .int .i64 v0.2.2.2.2.1, .sl 1 (v0.2.2.2.2.2.1.map (eL 1 vI)), .int .i64 v0.2.2.2.2.2.2.1, .int .i64 v0.2.2.2.2.2.2.2.1, .sl 2 (v0.2.2.2.2.2.2.2.2.1.map eNote), .str v0.2.2.2.2.2.2.2.2.2.1, .sl 1 (v0.2.2.2.2.2.2.2.2.2.2.1.map vI), .sl 1 (v0.2.2.2.2.2.2.2.2.2.2.2.1.map vI), .int .i64 v0.2.2.2.2.2.2.2.2.2.2.2.2.1, .str v0.2.2.2.2.2.2.2.2.2.2.2.2.2.1, .int .i64 v0.2.2.2.2.2.2.2.2.2.2.2.2.2.2.1, .int .i64 v0.2.2.2.2.2.2.2.2.2.2.2.2.2.2.2.1, .int .i64 v0.2.2.2.2.2.2.2.2.2.2.2.2.2.2.2.2.1, .sl 3 (v0.2.2.2.2.2.2.2.2.2.2.2.2.2.2.2.2.2.map eTurn)])) rfl rfl (qg (.val none (.ptr [.int .i64 v0.2.2.2.2.2.2.1, .int .i64 v0.2.2.2.2.2.2.2.1, .sl 2 (v0.2.2.2.2.2.2.2.2.1.map eNote), .str v0.2.2.2.2.2.2.2.2.2.1, .sl 1 (v0.2.2.2.2.2.2.2.2.2.2.1.map vI), .sl 1 (v0.2.2.2.2.2.2.2.2.2.2.2.1.map vI), .int .i64 v0.2.2.2.2.2.2.2.2.2.2.2.2.1, .str v0.2.2.2.2.2.2.2.2.2.2.2.2.2.1, .int .i64 v0.2.2.2.2.2.2.2.2.2.2.2.2.2.2.1, .int .i64 v0.2.2.2.2.2.2.2.2.2.2.2.2.2.2.2.1, .int .i64 v0.2.2.2.2.2.2.2.2.2.2.2.2.2.2.2.2.1, .sl 3 (v0.2.2.2.2.2.2.2.2.2.2.2.2.2.2.2.2.2.map eTurn)])) rfl rfl (qg (AI v0.2.2.2.2.2.2.1) rfl rfl ?_)))
  obtain ⟨v1001, e1001, hF⟩ := bind_get hF
  refine qcg (AB v1001) [] false rfl (con_spec_l03Pitch e1001) c142_ok (by first | rfl | simp) rfl ?_
  refine qg (AB (!v1001)) rfl rfl (qp (AB (!v1001)) rfl (qp (AB (!v1001)) rfl ?_))
  refine q_case 17 hF rfl (fun hF => ?_) (fun hF => ?_)
  ·
   refine qn rfl (qn rfl (qn rfl (qn rfl (qn rfl (qn rfl (qn rfl (qn rfl ?_)))))))
   refine qn rfl (qn rfl (qp (AB true) rfl (qp (AB true) rfl (qn rfl (qn rfl (qn rfl (qn rfl ?_)))))))
   refine qn rfl (qn rfl (qp (AB true) rfl (qp (AB true) rfl (qn rfl (qn rfl (qn rfl (qn rfl ?_)))))))
   refine qn rfl (qn rfl (qp (AB true) rfl ?_))
   refine r_nil ?_
   refine w_true rfl ?_
   refine ws 2688 2752 ?_
   refine qp (AB false) rfl ?_
   refine r_nil ?_
   refine w_ret ?_
   refine thenQ_r ?_
   cases hF
   exact eR
  ·
   refine qg (.val none (.ptr [.str v0.1, .sl 1 (v0.2.1.map vI), .sl 1 (v0.2.2.1.map vI), .int .i64 v0.2.2.2.1, .int .i64 v0.2.2.2.2.1, .sl 1 (v0.2.2.2.2.2.1.map (eL 1 vI)), .int .i64 v0.2.2.2.2.2.2.1, .int .i64 v0.2.2.2.2.2.2.2.1, .sl 2 (v0.2.2.2.2.2.2.2.2.1.map eNote), .str v0.2.2.2.2.2.2.2.2.2.1, .sl 1 (v0.2.2.2.2.2.2.2.2.2.2.1.map vI), .sl 1 (v0.2.2.2.2.2.2.2.2.2.2.2.1.map vI), .int .i64 v0.2.2.2.2.2.2.2.2.2.2.2.2.1, .str v0.2.2.2.2.2.2.2.2.2.2.2.2.2.1, .int .i64 v0.2.2.2.2.2.2.2.2.2.2.2.2.2.2.1, .int .i64 v0.2.2.2.2.2.2.2.2.2.2.2.2.2.2.2.1, .int .i64 v0.2.2.2.2.2.2.2.2.2.2.2.2.2.2.2.2.1, .sl 3 (v0.2.2.2.2.2.2.2.2.2.2.2.2.2.2.2.2.2.map eTurn)])) rfl rfl (qg (.val none (.ptr [.str v0.1, .sl 1 (v0.2.1.map vI), .sl 1 (v0.2.2.1.map vI), .int .i64 v0.2.2.2.1, .int .i64 v0.2.2.2.2.1, .sl 1 (v0.2.2.2.2.2.1.map (eL 1 vI)), .int .i64 v0.2.2.2.2.2.2.1, .int .i64 v0.2.2.2.2.2.2.2.1, .sl 2 (v0.2.2.2.2.2.2.2.2.1.map eNote), .str v0.2.2.2.2.2.2.2.2.2.1, .sl 1 (v0.2.2.2.2.2.2.2.2.2.2.1.map vI), .sl 1 (v0.2.2.2.2.2.2.2.2.2.2.2.1.map vI), .int .i64 v0.2.2.2.2.2.2.2.2.2.2.2.2.1, .str v0.2.2.2.2.2.2.2.2.2.2.2.2.2.1, .int .i64 v0.2.2.2.2.2.2.2.2.2.2.2.2.2.2.1, .int .i64 v0.2.2.2.2.2.2.2.2.2.2.2.2.2.2.2.1, .int .i64 v0.2.2.2.2.2.2.2.2.2.2.2.2.2.2.2.2.1, .sl 3 (v0.2.2.2.2.2.2.2.2.2.2.2.2.2.2.2.2.2.map eTurn)])) rfl rfl (qg (.val none (.ptr [.int .i64 v0.2.2.2.2.2.2.2.1, .sl 2 (v0.2.2.2.2.2.2.2.2.1.map eNote), .str v0.2.2.2.2.2.2.2.2.2.1, .sl 1 (v0.2.2.2.2.2.2.2.2.2.2.1.map vI), .sl 1 (v0.2.2.2.2.2.2.2.2.2.2.2.1.map vI), .int .i64 v0.2.2.2.2.2.2.2.2.2.2.2.2.1, .str v0.2.2.2.2.2.2.2.2.2.2.2.2.2.1, .int .i64 v0.2.2.2.2.2.2.2.2.2.2.2.2.2.2.1, .int .i64 v0.2.2.2.2.2.2.2.2.2.2.2.2.2.2.2.1, .int .i64 v0.2.2.2.2.2.2.2.2.2.2.2.2.2.2.2.2.1, .sl 3 (v0.2.2.2.2.2.2.2.2.2.2.2.2.2.2.2.2.2.map eTurn)])) rfl rfl (qg (AI v0.2.2.2.2.2.2.2.1) rfl rfl (qg (.val none (.ptr [.str v0.1, .sl 1 (v0.2.1.map vI), .sl 1 (v0.2.2.1.map vI), .int .i64 v0.2.2.2.1, .int .i64 v0.2.2.2.2.1, .sl 1 (v0.2.2.2.2.2.1.map (eL 1 vI)), .int .i64 v0.2.2.2.2.2.2.1, .int .i64 v0.2.2.2.2.2.2.2.1, .sl 2 (v0.2.2.2.2.2.2.2.2.1.map eNote), .str v0.2.2.2.2.2.2.2.2.2.1, .sl 1 (v0.2.2.2.2.2.2.2.2.2.2.1.map vI), .sl 1 (v0.2.2.2.2.2.2.2.2.2.2.2.1.map vI), .int .i64 v0.2.2.2.2.2.2.2.2.2.2.2.2.1, .str v0.2.2.2.2.2.2.2.2.2.2.2.2.2.1, .int .i64 v0.2.2.2.2.2.2.2.2.2.2.2.2.2.2.1, .int .i64 v0.2.2.2.2.2.2.2.2.2.2.2.2.2.2.2.1, .int .i64 v0.2.2.2.2.2.2.2.2.2.2.2.2.2.2.2.2.1, .sl 3 (v0.2.2.2.2.2.2.2.2.2.2.2.2.2.2.2.2.2.map eTurn)])) rfl rfl (qg (.val none (.ptr [.str v0.1, .sl 1 (v0.2.1.map vI), .sl 1 (v0.2.2.1.map vI), .int .i64 v0.2.2.2.1, .int .i64 v0.2.2.2.2.1, .sl 1 (v0.2.2.2.2.2.1.map (eL 1 vI)), .int .i64 v0.2.2.2.2.2.2.1, .int .i64 v0.2.2.2.2.2.2.2.1, .sl 2 (v0.2.2.2.2.2.2.2.2.1.map eNote), .str v0.2.2.2.2.2.2.2.2.2.1, .sl 1 (v0.2.2.2.2.2.2.2.2.2.2.1.map vI), .sl 1 (v0.2.2.2.2.2.2.2.2.2.2.2.1.map vI), .int .i64 v0.2.2.2.2.2.2.2.2.2.2.2.2.1, .str v0.2.2.2.2.2.2.2.2.2.2.2.2.2.1, .int .i64 v0.2.2.2.2.2.2.2.2.2.2.2.2.2.2.1, .int .i64 v0.2.2.2.2.2.2.2.2.2.2.2.2.2.2.2.1, .int .i64 v0.2.2.2.2.2.2.2.2.2.2.2.2.2.2.2.2.1, .sl 3 (v0.2.2.2.2.2.2.2.2.2.2.2.2.2.2.2.2.2.map eTurn)])) rfl rfl (qg (.val none (.ptr [.int .i64 v0.2.2.2.2.2.2.1, .int .i64 v0.2.2.2.2.2.2.2.1, .sl 2 (v0.2.2.2.2.2.2.2.2.1.map eNote), .str v0.2.2.2.2.2.2.2.2.2.1, .sl 1 (v0.2.2.2.2.2.2.2.2.2.2.1.map vI), .sl 1 (v0.2.2.2.2.2.2.2.2.2.2.2.1.map vI), .int .i64 v0.2.2.2.2.2.2.2.2.2.2.2.2.1, .str v0.2.2.2.2.2.2.2.2.2.2.2.2.2.1, .int .i64 v0.2.2.2.2.2.2.2.2.2.2.2.2.2.2.1, .int .i64 v0.2.2.2.2.2.2.2.2.2.2.2.2.2.2.2.1, .int .i64 v0.2.2.2.2.2.2.2.2.2.2.2.2.2.2.2.2.1, .sl 3 (v0.2.2.2.2.2.2.2.2.2.2.2.2.2.2.2.2.2.map eTurn)])) rfl rfl (qg (AI v0.2.2.2.2.2.2.1) rfl rfl ?_)))))))
   obtain ⟨v1002, e1002, hF⟩ := bind_get hF
   refine qcg (AB v1002) [] false rfl (con_spec_l00In e1002) c93_ok (by first | rfl | simp) rfl ?_
   refine qg (AB (!v1002)) rfl rfl (qp (AB (!v1002)) rfl (qp (AB (!v1002)) rfl ?_))
   refine q_case 29 hF rfl (fun hF => ?_) (fun hF => ?_)
   ·
    refine qn rfl (qn rfl (qn rfl (qn rfl (qn rfl (qn rfl (qp (AB true) rfl (qp (AB true) rfl ?_)))))))
    refine qn rfl (qn rfl (qn rfl (qn rfl (qn rfl (qn rfl (qp (AB true) rfl ?_))))))
    refine r_nil ?_
    refine w_true rfl ?_
    refine ws 2688 2752 ?_
    refine qp (AB false) rfl ?_
    refine r_nil ?_
    refine w_ret ?_
    refine thenQ_r ?_
    cases hF
    exact eR
   ·
    refine qg (.val none (.ptr [.str v0.1, .sl 1 (v0.2.1.map vI), .sl 1 (v0.2.2.1.map vI), .int .i64 v0.2.2.2.1, .int .i64 v0.2.2.2.2.1, .sl 1 (v0.2.2.2.2.2.1.map (eL 1 vI)), .int .i64 v0.2.2.2.2.2.2.1, .int .i64 v0.2.2.2.2.2.2.2.1, .sl 2 (v0.2.2.2.2.2.2.2.2.1.map eNote), .str v0.2.2.2.2.2.2.2.2.2.1, .sl 1 (v0.2.2.2.2.2.2.2.2.2.2.1.map vI), .sl 1 (v0.2.2.2.2.2.2.2.2.2.2.2.1.map vI), .int .i64 v0.2.2.2.2.2.2.2.2.2.2.2.2.1, .str v0.2.2.2.2.2.2.2.2.2.2.2.2.2.1, .int .i64 v0.2.2.2.2.2.2.2.2.2.2.2.2.2.2.1, .int .i64 v0.2.2.2.2.2.2.2.2.2.2.2.2.2.2.2.1, .int .i64 v0.2.2.2.2.2.2.2.2.2.2.2.2.2.2.2.2.1, .sl 3 (v0.2.2.2.2.2.2.2.2.2.2.2.2.2.2.2.2.2.map eTurn)])) rfl rfl (qg (.val none (.ptr [.str v0.1, .sl 1 (v0.2.1.map vI), .sl 1 (v0.2.2.1.map vI), .int .i64 v0.2.2.2.1, .int .i64 v0.2.2.2.2.1, .sl 1 (v0.2.2.2.2.2.1.map (eL 1 vI)), .int .i64 v0.2.2.2.2.2.2.1, .int .i64 v0.2.2.2.2.2.2.2.1, .sl 2 (v0.2.2.2.2.2.2.2.2.1.map eNote), .str v0.2.2.2.2.2.2.2.2.2.1, .sl 1 (v0.2.2.2.2.2.2.2.2.2.2.1.map vI), .sl 1 (v0.2.2.2.2.2.2.2.2.2.2.2.1.map vI), .int .i64 v0.2.2.2.2.2.2.2.2.2.2.2.2.1, .str v0.2.2.2.2.2.2.2.2.2.2.2.2.2.1, .int .i64 v0.2.2.2.2.2.2.2.2.2.2.2.2.2.2.1, .int .i64 v0.2.2.2.2.2.2.2.2.2.2.2.2.2.2.2.1, .int .i64 v0.2.2.2.2.2.2.2.2.2.2.2.2.2.2.2.2.1, .sl 3 (v0.2.2.2.2.2.2.2.2.2.2.2.2.2.2.2.2.2.map eTurn)])) rfl rfl (qg (.val none (.ptr [.sl 2 (v0.2.2.2.2.2.2.2.2.1.map eNote), .str v0.2.2.2.2.2.2.2.2.2.1, .sl 1 (v0.2.2.2.2.2.2.2.2.2.2.1.map vI), .sl 1 (v0.2.2.2.2.2.2.2.2.2.2.2.1.map vI), .int .i64 v0.2.2.2.2.2.2.2.2.2.2.2.2.1, .str v0.2.2.2.2.2.2.2.2.2.2.2.2.2.1, .int .i64 v0.2.2.2.2.2.2.2.2.2.2.2.2.2.2.1, .int .i64 v0.2.2.2.2.2.2.2.2.2.2.2.2.2.2.2.1, .int .i64 v0.2.2.2.2.2.2.2.2.2.2.2.2.2.2.2.2.1, .sl 3 (v0.2.2.2.2.2.2.2.2.2.2.2.2.2.2.2.2.2.map eTurn)])) rfl rfl (qg (AL 2 (v0.2.2.2.2.2.2.2.2.1.map eNote)) rfl rfl ?_)))
    obtain ⟨v1003, e1003, hF⟩ := bind_get hF
    refine qcg (AB v1003) [] false rfl (con_spec_l09Ok e1003) c143_ok (by first | rfl | simp) rfl ?_
    refine qg (AB (!v1003)) rfl rfl (qp (AB (!v1003)) rfl (qp (AB (!v1003)) rfl ?_))
    refine q_case 37 hF rfl (fun hF => ?_) (fun hF => ?_)
    ·
     refine qn rfl (qn rfl (qn rfl (qn rfl (qn rfl (qn rfl (qp (AB true) rfl ?_))))))
     refine r_nil ?_
     refine w_true rfl ?_
     refine ws 2688 2752 ?_
     refine qp (AB false) rfl ?_
     refine r_nil ?_
     refine w_ret ?_
     refine thenQ_r ?_
     cases hF
     exact eR
    ·
     refine qg (.val none (.ptr [.str v0.1, .sl 1 (v0.2.1.map vI), .sl 1 (v0.2.2.1.map vI), .int .i64 v0.2.2.2.1, .int .i64 v0.2.2.2.2.1, .sl 1 (v0.2.2.2.2.2.1.map (eL 1 vI)), .int .i64 v0.2.2.2.2.2.2.1, .int .i64 v0.2.2.2.2.2.2.2.1, .sl 2 (v0.2.2.2.2.2.2.2.2.1.map eNote), .str v0.2.2.2.2.2.2.2.2.2.1, .sl 1 (v0.2.2.2.2.2.2.2.2.2.2.1.map vI), .sl 1 (v0.2.2.2.2.2.2.2.2.2.2.2.1.map vI), .int .i64 v0.2.2.2.2.2.2.2.2.2.2.2.2.1, .str v0.2.2.2.2.2.2.2.2.2.2.2.2.2.1, .int .i64 v0.2.2.2.2.2.2.2.2.2.2.2.2.2.2.1, .int .i64 v0.2.2.2.2.2.2.2.2.2.2.2.2.2.2.2.1, .int .i64 v0.2.2.2.2.2.2.2.2.2.2.2.2.2.2.2.2.1, .sl 3 (v0.2.2.2.2.2.2.2.2.2.2.2.2.2.2.2.2.2.map eTurn)])) rfl rfl (qg (.val none (.ptr [.str v0.1, .sl 1 (v0.2.1.map vI), .sl 1 (v0.2.2.1.map vI), .int .i64 v0.2.2.2.1, .int .i64 v0.2.2.2.2.1, .sl 1 (v0.2.2.2.2.2.1.map (eL 1 vI)), .int .i64 v0.2.2.2.2.2.2.1, .int .i64 v0.2.2.2.2.2.2.2.1, .sl 2 (v0.2.2.2.2.2.2.2.2.1.map eNote), .str v0.2.2.2.2.2.2.2.2.2.1, .sl 1 (v0.2.2.2.2.2.2.2.2.2.2.1.map vI), .sl 1 (v0.2.2.2.2.2.2.2.2.2.2.2.1.map vI), .int .i64 v0.2.2.2.2.2.2.2.2.2.2.2.2.1, .str v0.2.2.2.2.2.2.2.2.2.2.2.2.2.1, .int .i64 v0.2.2.2.2.2.2.2.2.2.2.2.2.2.2.1, .int .i64 v0.2.2.2.2.2.2.2.2.2.2.2.2.2.2.2.1, .int .i64 v0.2.2.2.2.2.2.2.2.2.2.2.2.2.2.2.2.1, .sl 3 (v0.2.2.2.2.2.2.2.2.2.2.2.2.2.2.2.2.2.map eTurn)])) rfl rfl (qg (.val none (.ptr [.sl 3 (v0.2.2.2.2.2.2.2.2.2.2.2.2.2.2.2.2.2.map eTurn)])) rfl rfl (qg (AL 3 (v0.2.2.2.2.2.2.2.2.2.2.2.2.2.2.2.2.2.map eTurn)) rfl rfl ?_)))
     obtain ⟨v1004, e1004, hF⟩ := bind_get hF
     refine qcg (AB v1004) [] false rfl (con_spec_l23Ok e1004) c144_ok (by first | rfl | simp) rfl ?_
     refine qg (AB (!v1004)) rfl rfl (qp (AB (!v1004)) rfl ?_)
     refine r_nil ?_
     refine cF hF (fun hF => ?_) fun hF => ?_
     ·
      refine ws 2688 2752 ?_
      refine qp (AB false) rfl ?_
      refine r_nil ?_
      refine w_ret ?_
      refine thenQ_r ?_
      cases hF
      exact eR
     ·
      refine w_skip ?_
      refine thenQ_n ?_
      refine ws 2688 3584 ?_
      refine qp (.val none (.ptr [.str v0.1, .sl 1 (v0.2.1.map vI), .sl 1 (v0.2.2.1.map vI), .int .i64 v0.2.2.2.1, .int .i64 v0.2.2.2.2.1, .sl 1 (v0.2.2.2.2.2.1.map (eL 1 vI)), .int .i64 v0.2.2.2.2.2.2.1, .int .i64 v0.2.2.2.2.2.2.2.1, .sl 2 (v0.2.2.2.2.2.2.2.2.1.map eNote), .str v0.2.2.2.2.2.2.2.2.2.1, .sl 1 (v0.2.2.2.2.2.2.2.2.2.2.1.map vI), .sl 1 (v0.2.2.2.2.2.2.2.2.2.2.2.1.map vI), .int .i64 v0.2.2.2.2.2.2.2.2.2.2.2.2.1, .str v0.2.2.2.2.2.2.2.2.2.2.2.2.2.1, .int .i64 v0.2.2.2.2.2.2.2.2.2.2.2.2.2.2.1, .int .i64 v0.2.2.2.2.2.2.2.2.2.2.2.2.2.2.2.1, .int .i64 v0.2.2.2.2.2.2.2.2.2.2.2.2.2.2.2.2.1, .sl 3 (v0.2.2.2.2.2.2.2.2.2.2.2.2.2.2.2.2.2.map eTurn)])) rfl (qp (.val none (.ptr [.str v0.1, .sl 1 (v0.2.1.map vI), .sl 1 (v0.2.2.1.map vI), .int .i64 v0.2.2.2.1, .int .i64 v0.2.2.2.2.1, .sl 1 (v0.2.2.2.2.2.1.map (eL 1 vI)), .int .i64 v0.2.2.2.2.2.2.1, .int .i64 v0.2.2.2.2.2.2.2.1, .sl 2 (v0.2.2.2.2.2.2.2.2.1.map eNote), .str v0.2.2.2.2.2.2.2.2.2.1, .sl 1 (v0.2.2.2.2.2.2.2.2.2.2.1.map vI), .sl 1 (v0.2.2.2.2.2.2.2.2.2.2.2.1.map vI), .int .i64 v0.2.2.2.2.2.2.2.2.2.2.2.2.1, .str v0.2.2.2.2.2.2.2.2.2.2.2.2.2.1, .int .i64 v0.2.2.2.2.2.2.2.2.2.2.2.2.2.2.1, .int .i64 v0.2.2.2.2.2.2.2.2.2.2.2.2.2.2.2.1, .int .i64 v0.2.2.2.2.2.2.2.2.2.2.2.2.2.2.2.2.1, .sl 3 (v0.2.2.2.2.2.2.2.2.2.2.2.2.2.2.2.2.2.map eTurn)])) rfl (qp (.val none (.ptr [.str v0.1, .sl 1 (v0.2.1.map vI), .sl 1 (v0.2.2.1.map vI), .int .i64 v0.2.2.2.1, .int .i64 v0.2.2.2.2.1, .sl 1 (v0.2.2.2.2.2.1.map (eL 1 vI)), .int .i64 v0.2.2.2.2.2.2.1, .int .i64 v0.2.2.2.2.2.2.2.1, .sl 2 (v0.2.2.2.2.2.2.2.2.1.map eNote), .str v0.2.2.2.2.2.2.2.2.2.1, .sl 1 (v0.2.2.2.2.2.2.2.2.2.2.1.map vI), .sl 1 (v0.2.2.2.2.2.2.2.2.2.2.2.1.map vI), .int .i64 v0.2.2.2.2.2.2.2.2.2.2.2.2.1, .str v0.2.2.2.2.2.2.2.2.2.2.2.2.2.1, .int .i64 v0.2.2.2.2.2.2.2.2.2.2.2.2.2.2.1, .int .i64 v0.2.2.2.2.2.2.2.2.2.2.2.2.2.2.2.1, .int .i64 v0.2.2.2.2.2.2.2.2.2.2.2.2.2.2.2.2.1, .sl 3 (v0.2.2.2.2.2.2.2.2.2.2.2.2.2.2.2.2.2.map eTurn)])) rfl (qp (.val none (.ptr [.str v0.1, .sl 1 (v0.2.1.map vI), .sl 1 (v0.2.2.1.map vI), .int .i64 v0.2.2.2.1, .int .i64 v0.2.2.2.2.1, .sl 1 (v0.2.2.2.2.2.1.map (eL 1 vI)), .int .i64 v0.2.2.2.2.2.2.1, .int .i64 v0.2.2.2.2.2.2.2.1, .sl 2 (v0.2.2.2.2.2.2.2.2.1.map eNote), .str v0.2.2.2.2.2.2.2.2.2.1, .sl 1 (v0.2.2.2.2.2.2.2.2.2.2.1.map vI), .sl 1 (v0.2.2.2.2.2.2.2.2.2.2.2.1.map vI), .int .i64 v0.2.2.2.2.2.2.2.2.2.2.2.2.1, .str v0.2.2.2.2.2.2.2.2.2.2.2.2.2.1, .int .i64 v0.2.2.2.2.2.2.2.2.2.2.2.2.2.2.1, .int .i64 v0.2.2.2.2.2.2.2.2.2.2.2.2.2.2.2.1, .int .i64 v0.2.2.2.2.2.2.2.2.2.2.2.2.2.2.2.2.1, .sl 3 (v0.2.2.2.2.2.2.2.2.2.2.2.2.2.2.2.2.2.map eTurn)])) rfl (qp (.val none (.ptr [.str v0.1, .sl 1 (v0.2.1.map vI), .sl 1 (v0.2.2.1.map vI), .int .i64 v0.2.2.2.1, .int .i64 v0.2.2.2.2.1, .sl 1 (v0.2.2.2.2.2.1.map (eL 1 vI)), .int .i64 v0.2.2.2.2.2.2.1, .int .i64 v0.2.2.2.2.2.2.2.1, .sl 2 (v0.2.2.2.2.2.2.2.2.1.map eNote), .str v0.2.2.2.2.2.2.2.2.2.1, .sl 1 (v0.2.2.2.2.2.2.2.2.2.2.1.map vI), .sl 1 (v0.2.2.2.2.2.2.2.2.2.2.2.1.map vI), .int .i64 v0.2.2.2.2.2.2.2.2.2.2.2.2.1, .str v0.2.2.2.2.2.2.2.2.2.2.2.2.2.1, .int .i64 v0.2.2.2.2.2.2.2.2.2.2.2.2.2.2.1, .int .i64 v0.2.2.2.2.2.2.2.2.2.2.2.2.2.2.2.1, .int .i64 v0.2.2.2.2.2.2.2.2.2.2.2.2.2.2.2.2.1, .sl 3 (v0.2.2.2.2.2.2.2.2.2.2.2.2.2.2.2.2.2.map eTurn)])) rfl (qp (.val none (.ptr [.int .i64 v0.2.2.2.2.2.2.1, .int .i64 v0.2.2.2.2.2.2.2.1, .sl 2 (v0.2.2.2.2.2.2.2.2.1.map eNote), .str v0.2.2.2.2.2.2.2.2.2.1, .sl 1 (v0.2.2.2.2.2.2.2.2.2.2.1.map vI), .sl 1 (v0.2.2.2.2.2.2.2.2.2.2.2.1.map vI), .int .i64 v0.2.2.2.2.2.2.2.2.2.2.2.2.1, .str v0.2.2.2.2.2.2.2.2.2.2.2.2.2.1, .int .i64 v0.2.2.2.2.2.2.2.2.2.2.2.2.2.2.1, .int .i64 v0.2.2.2.2.2.2.2.2.2.2.2.2.2.2.2.1, .int .i64 v0.2.2.2.2.2.2.2.2.2.2.2.2.2.2.2.2.1, .sl 3 (v0.2.2.2.2.2.2.2.2.2.2.2.2.2.2.2.2.2.map eTurn)])) rfl (qp (AI v0.2.2.2.2.2.2.1) rfl (qp (.val none (.ptr [.str v0.1, .sl 1 (v0.2.1.map vI), .sl 1 (v0.2.2.1.map vI), .int .i64 v0.2.2.2.1, .int .i64 v0.2.2.2.2.1, .sl 1 (v0.2.2.2.2.2.1.map (eL 1 vI)), .int .i64 v0.2.2.2.2.2.2.1, .int .i64 v0.2.2.2.2.2.2.2.1, .sl 2 (v0.2.2.2.2.2.2.2.2.1.map eNote), .str v0.2.2.2.2.2.2.2.2.2.1, .sl 1 (v0.2.2.2.2.2.2.2.2.2.2.1.map vI), .sl 1 (v0.2.2.2.2.2.2.2.2.2.2.2.1.map vI), .int .i64 v0.2.2.2.2.2.2.2.2.2.2.2.2.1, .str v0.2.2.2.2.2.2.2.2.2.2.2.2.2.1, .int .i64 v0.2.2.2.2.2.2.2.2.2.2.2.2.2.2.1, .int .i64 v0.2.2.2.2.2.2.2.2.2.2.2.2.2.2.2.1, .int .i64 v0.2.2.2.2.2.2.2.2.2.2.2.2.2.2.2.2.1, .sl 3 (v0.2.2.2.2.2.2.2.2.2.2.2.2.2.2.2.2.2.map eTurn)])) rfl ?_)))))))
      refine qp (.val none (.ptr [.str v0.1, .sl 1 (v0.2.1.map vI), .sl 1 (v0.2.2.1.map vI), .int .i64 v0.2.2.2.1, .int .i64 v0.2.2.2.2.1, .sl 1 (v0.2.2.2.2.2.1.map (eL 1 vI)), .int .i64 v0.2.2.2.2.2.2.1, .int .i64 v0.2.2.2.2.2.2.2.1, .sl 2 (v0.2.2.2.2.2.2.2.2.1.map eNote), .str v0.2.2.2.2.2.2.2.2.2.1, .sl 1 (v0.2.2.2.2.2.2.2.2.2.2.1.map vI), .sl 1 (v0.2.2.2.2.2.2.2.2.2.2.2.1.map vI), .int .i64 v0.2.2.2.2.2.2.2.2.2.2.2.2.1, .str v0.2.2.2.2.2.2.2.2.2.2.2.2.2.1, .int .i64 v0.2.2.2.2.2.2.2.2.2.2.2.2.2.2.1, .int .i64 v0.2.2.2.2.2.2.2.2.2.2.2.2.2.2.2.1, .int .i64 v0.2.2.2.2.2.2.2.2.2.2.2.2.2.2.2.2.1, .sl 3 (v0.2.2.2.2.2.2.2.2.2.2.2.2.2.2.2.2.2.map eTurn)])) rfl (qp (.val none (.ptr [.int .i64 v0.2.2.2.2.2.2.2.1, .sl 2 (v0.2.2.2.2.2.2.2.2.1.map eNote), .str v0.2.2.2.2.2.2.2.2.2.1, .sl 1 (v0.2.2.2.2.2.2.2.2.2.2.1.map vI), .sl 1 (v0.2.2.2.2.2.2.2.2.2.2.2.1.map vI), .int .i64 v0.2.2.2.2.2.2.2.2.2.2.2.2.1, .str v0.2.2.2.2.2.2.2.2.2.2.2.2.2.1, .int .i64 v0.2.2.2.2.2.2.2.2.2.2.2.2.2.2.1, .int .i64 v0.2.2.2.2.2.2.2.2.2.2.2.2.2.2.2.1, .int .i64 v0.2.2.2.2.2.2.2.2.2.2.2.2.2.2.2.2.1, .sl 3 (v0.2.2.2.2.2.2.2.2.2.2.2.2.2.2.2.2.2.map eTurn)])) rfl (qp (AI v0.2.2.2.2.2.2.2.1) rfl ?_))
      obtain ⟨v1005, e1005, hF⟩ := bind_get hF
      refine qc (.agg [AI v1005.1, AI v1005.2.1, .sl 3394 0 v1005.2.2.1.length, .sl 3395 0 v1005.2.2.2.length]) [(3395, .row true 3 (v1005.2.2.2.map eArc)), (3394, .row true 1 (v1005.2.2.1.map vI))] false (con_pre0 [.int .i64 v0.2.2.2.2.2.2.1, .int .i64 v0.2.2.2.2.2.2.2.1, .sl 2 (v0.2.2.2.2.2.2.2.2.1.map eNote), .str v0.2.2.2.2.2.2.2.2.2.1, .sl 1 (v0.2.2.2.2.2.2.2.2.2.2.1.map vI), .sl 1 (v0.2.2.2.2.2.2.2.2.2.2.2.1.map vI), .int .i64 v0.2.2.2.2.2.2.2.2.2.2.2.2.1, .str v0.2.2.2.2.2.2.2.2.2.2.2.2.2.1, .int .i64 v0.2.2.2.2.2.2.2.2.2.2.2.2.2.2.1, .int .i64 v0.2.2.2.2.2.2.2.2.2.2.2.2.2.2.2.1, .int .i64 v0.2.2.2.2.2.2.2.2.2.2.2.2.2.2.2.2.1, .sl 3 (v0.2.2.2.2.2.2.2.2.2.2.2.2.2.2.2.2.2.map eTurn)] (con_spec_l07Of e1005)) c145_ok (by first | rfl | simp) (by simp [res_spec_l07Of]) ?_
      refine qf (.ptr 3456 0 0) [(3456, .box [AI 0, AI 0, .sl 3457 0 0, .sl 3458 0 0]), (3458, .row true 3 (([] : List Int).map vI)), (3457, .row true 1 (([] : List Int).map vI)), (3395, .row true 3 (v1005.2.2.2.map eArc)), (3394, .row true 1 (v1005.2.2.1.map vI))] (by simp) ?_
      refine qf0 (.undef) [(3456, .box [AI v1005.1, AI v1005.2.1, .sl 3394 0 v1005.2.2.1.length, .sl 3395 0 v1005.2.2.2.length]), (3456, .box [AI 0, AI 0, .sl 3457 0 0, .sl 3458 0 0]), (3458, .row true 3 (([] : List Int).map vI)), (3457, .row true 1 (([] : List Int).map vI)), (3395, .row true 3 (v1005.2.2.2.map eArc)), (3394, .row true 1 (v1005.2.2.1.map vI))] (by simp) ?_
      refine r_nil ?_
      refine ws 3584 5568 ?_
      obtain ⟨v1006, e1006, hF⟩ := bind_get hF
      refine qc (AB v1006) [(3456, .box [AI v1005.1, AI v1005.2.1, .sl 3394 0 v1005.2.2.1.length, .sl 3395 0 v1005.2.2.2.length]), (3456, .box [AI 0, AI 0, .sl 3457 0 0, .sl 3458 0 0]), (3458, .row true 3 (([] : List Int).map vI)), (3457, .row true 1 (([] : List Int).map vI)), (3395, .row true 3 (v1005.2.2.2.map eArc)), (3394, .row true 1 (v1005.2.2.1.map vI))] true (con_spec_l07Ok e1006) c146_ok (by simp [List.take_of_length_le]) rfl ?_
      refine qp (AB v1006) rfl ?_
      refine q_case 58 hF rfl (fun hF => ?_) (fun hF => ?_)
      ·
       refine qg (.val none (.ptr [.str v0.1, .sl 1 (v0.2.1.map vI), .sl 1 (v0.2.2.1.map vI), .int .i64 v0.2.2.2.1, .int .i64 v0.2.2.2.2.1, .sl 1 (v0.2.2.2.2.2.1.map (eL 1 vI)), .int .i64 v0.2.2.2.2.2.2.1, .int .i64 v0.2.2.2.2.2.2.2.1, .sl 2 (v0.2.2.2.2.2.2.2.2.1.map eNote), .str v0.2.2.2.2.2.2.2.2.2.1, .sl 1 (v0.2.2.2.2.2.2.2.2.2.2.1.map vI), .sl 1 (v0.2.2.2.2.2.2.2.2.2.2.2.1.map vI), .int .i64 v0.2.2.2.2.2.2.2.2.2.2.2.2.1, .str v0.2.2.2.2.2.2.2.2.2.2.2.2.2.1, .int .i64 v0.2.2.2.2.2.2.2.2.2.2.2.2.2.2.1, .int .i64 v0.2.2.2.2.2.2.2.2.2.2.2.2.2.2.2.1, .int .i64 v0.2.2.2.2.2.2.2.2.2.2.2.2.2.2.2.2.1, .sl 3 (v0.2.2.2.2.2.2.2.2.2.2.2.2.2.2.2.2.2.map eTurn)])) rfl rfl (qg (.val none (.ptr [.str v0.1, .sl 1 (v0.2.1.map vI), .sl 1 (v0.2.2.1.map vI), .int .i64 v0.2.2.2.1, .int .i64 v0.2.2.2.2.1, .sl 1 (v0.2.2.2.2.2.1.map (eL 1 vI)), .int .i64 v0.2.2.2.2.2.2.1, .int .i64 v0.2.2.2.2.2.2.2.1, .sl 2 (v0.2.2.2.2.2.2.2.2.1.map eNote), .str v0.2.2.2.2.2.2.2.2.2.1, .sl 1 (v0.2.2.2.2.2.2.2.2.2.2.1.map vI), .sl 1 (v0.2.2.2.2.2.2.2.2.2.2.2.1.map vI), .int .i64 v0.2.2.2.2.2.2.2.2.2.2.2.2.1, .str v0.2.2.2.2.2.2.2.2.2.2.2.2.2.1, .int .i64 v0.2.2.2.2.2.2.2.2.2.2.2.2.2.2.1, .int .i64 v0.2.2.2.2.2.2.2.2.2.2.2.2.2.2.2.1, .int .i64 v0.2.2.2.2.2.2.2.2.2.2.2.2.2.2.2.2.1, .sl 3 (v0.2.2.2.2.2.2.2.2.2.2.2.2.2.2.2.2.2.map eTurn)])) rfl rfl (qg (.val none (.ptr [.str v0.2.2.2.2.2.2.2.2.2.1, .sl 1 (v0.2.2.2.2.2.2.2.2.2.2.1.map vI), .sl 1 (v0.2.2.2.2.2.2.2.2.2.2.2.1.map vI), .int .i64 v0.2.2.2.2.2.2.2.2.2.2.2.2.1, .str v0.2.2.2.2.2.2.2.2.2.2.2.2.2.1, .int .i64 v0.2.2.2.2.2.2.2.2.2.2.2.2.2.2.1, .int .i64 v0.2.2.2.2.2.2.2.2.2.2.2.2.2.2.2.1, .int .i64 v0.2.2.2.2.2.2.2.2.2.2.2.2.2.2.2.2.1, .sl 3 (v0.2.2.2.2.2.2.2.2.2.2.2.2.2.2.2.2.2.map eTurn)])) rfl rfl (qg (.val none (.ptr [.str v0.1, .sl 1 (v0.2.1.map vI), .sl 1 (v0.2.2.1.map vI), .int .i64 v0.2.2.2.1, .int .i64 v0.2.2.2.2.1, .sl 1 (v0.2.2.2.2.2.1.map (eL 1 vI)), .int .i64 v0.2.2.2.2.2.2.1, .int .i64 v0.2.2.2.2.2.2.2.1, .sl 2 (v0.2.2.2.2.2.2.2.2.1.map eNote), .str v0.2.2.2.2.2.2.2.2.2.1, .sl 1 (v0.2.2.2.2.2.2.2.2.2.2.1.map vI), .sl 1 (v0.2.2.2.2.2.2.2.2.2.2.2.1.map vI), .int .i64 v0.2.2.2.2.2.2.2.2.2.2.2.2.1, .str v0.2.2.2.2.2.2.2.2.2.2.2.2.2.1, .int .i64 v0.2.2.2.2.2.2.2.2.2.2.2.2.2.2.1, .int .i64 v0.2.2.2.2.2.2.2.2.2.2.2.2.2.2.2.1, .int .i64 v0.2.2.2.2.2.2.2.2.2.2.2.2.2.2.2.2.1, .sl 3 (v0.2.2.2.2.2.2.2.2.2.2.2.2.2.2.2.2.2.map eTurn)])) rfl rfl (qg (.val none (.ptr [.str v0.1, .sl 1 (v0.2.1.map vI), .sl 1 (v0.2.2.1.map vI), .int .i64 v0.2.2.2.1, .int .i64 v0.2.2.2.2.1, .sl 1 (v0.2.2.2.2.2.1.map (eL 1 vI)), .int .i64 v0.2.2.2.2.2.2.1, .int .i64 v0.2.2.2.2.2.2.2.1, .sl 2 (v0.2.2.2.2.2.2.2.2.1.map eNote), .str v0.2.2.2.2.2.2.2.2.2.1, .sl 1 (v0.2.2.2.2.2.2.2.2.2.2.1.map vI), .sl 1 (v0.2.2.2.2.2.2.2.2.2.2.2.1.map vI), .int .i64 v0.2.2.2.2.2.2.2.2.2.2.2.2.1, .str v0.2.2.2.2.2.2.2.2.2.2.2.2.2.1, .int .i64 v0.2.2.2.2.2.2.2.2.2.2.2.2.2.2.1, .int .i64 v0.2.2.2.2.2.2.2.2.2.2.2.2.2.2.2.1, .int .i64 v0.2.2.2.2.2.2.2.2.2.2.2.2.2.2.2.2.1, .sl 3 (v0.2.2.2.2.2.2.2.2.2.2.2.2.2.2.2.2.2.map eTurn)])) rfl rfl (qg (.val none (.ptr [.int .i64 v0.2.2.2.2.2.2.2.2.2.2.2.2.1, .str v0.2.2.2.2.2.2.2.2.2.2.2.2.2.1, .int .i64 v0.2.2.2.2.2.2.2.2.2.2.2.2.2.2.1, .int .i64 v0.2.2.2.2.2.2.2.2.2.2.2.2.2.2.2.1, .int .i64 v0.2.2.2.2.2.2.2.2.2.2.2.2.2.2.2.2.1, .sl 3 (v0.2.2.2.2.2.2.2.2.2.2.2.2.2.2.2.2.2.map eTurn)])) rfl rfl (qg (AI v0.2.2.2.2.2.2.2.2.2.2.2.2.1) rfl rfl (qg (.val none (.ptr [.str v0.1, .sl 1 (v0.2.1.map vI), .sl 1 (v0.2.2.1.map vI), .int .i64 v0.2.2.2.1, .int .i64 v0.2.2.2.2.1, .sl 1 (v0.2.2.2.2.2.1.map (eL 1 vI)), .int .i64 v0.2.2.2.2.2.2.1, .int .i64 v0.2.2.2.2.2.2.2.1, .sl 2 (v0.2.2.2.2.2.2.2.2.1.map eNote), .str v0.2.2.2.2.2.2.2.2.2.1, .sl 1 (v0.2.2.2.2.2.2.2.2.2.2.1.map vI), .sl 1 (v0.2.2.2.2.2.2.2.2.2.2.2.1.map vI), .int .i64 v0.2.2.2.2.2.2.2.2.2.2.2.2.1, .str v0.2.2.2.2.2.2.2.2.2.2.2.2.2.1, .int .i64 v0.2.2.2.2.2.2.2.2.2.2.2.2.2.2.1, .int .i64 v0.2.2.2.2.2.2.2.2.2.2.2.2.2.2.2.1, .int .i64 v0.2.2.2.2.2.2.2.2.2.2.2.2.2.2.2.2.1, .sl 3 (v0.2.2.2.2.2.2.2.2.2.2.2.2.2.2.2.2.2.map eTurn)])) rfl rfl ?_)))))))
       refine qg (.val none (.ptr [.str v0.1, .sl 1 (v0.2.1.map vI), .sl 1 (v0.2.2.1.map vI), .int .i64 v0.2.2.2.1, .int .i64 v0.2.2.2.2.1, .sl 1 (v0.2.2.2.2.2.1.map (eL 1 vI)), .int .i64 v0.2.2.2.2.2.2.1, .int .i64 v0.2.2.2.2.2.2.2.1, .sl 2 (v0.2.2.2.2.2.2.2.2.1.map eNote), .str v0.2.2.2.2.2.2.2.2.2.1, .sl 1 (v0.2.2.2.2.2.2.2.2.2.2.1.map vI), .sl 1 (v0.2.2.2.2.2.2.2.2.2.2.2.1.map vI), .int .i64 v0.2.2.2.2.2.2.2.2.2.2.2.2.1, .str v0.2.2.2.2.2.2.2.2.2.2.2.2.2.1, .int .i64 v0.2.2.2.2.2.2.2.2.2.2.2.2.2.2.1, .int .i64 v0.2.2.2.2.2.2.2.2.2.2.2.2.2.2.2.1, .int .i64 v0.2.2.2.2.2.2.2.2.2.2.2.2.2.2.2.2.1, .sl 3 (v0.2.2.2.2.2.2.2.2.2.2.2.2.2.2.2.2.2.map eTurn)])) rfl rfl (qg (.val none (.ptr [.int .i64 v0.2.2.2.2.2.2.2.2.2.2.2.2.2.2.1, .int .i64 v0.2.2.2.2.2.2.2.2.2.2.2.2.2.2.2.1, .int .i64 v0.2.2.2.2.2.2.2.2.2.2.2.2.2.2.2.2.1, .sl 3 (v0.2.2.2.2.2.2.2.2.2.2.2.2.2.2.2.2.2.map eTurn)])) rfl rfl (qg (AI v0.2.2.2.2.2.2.2.2.2.2.2.2.2.2.1) rfl rfl ?_))
       obtain ⟨v1007, e1007, hF⟩ := bind_get hF
       refine qcg (AI v1007) [(3456, .box [AI v1005.1, AI v1005.2.1, .sl 3394 0 v1005.2.2.1.length, .sl 3395 0 v1005.2.2.2.length]), (3456, .box [AI 0, AI 0, .sl 3457 0 0, .sl 3458 0 0]), (3458, .row true 3 (([] : List Int).map vI)), (3457, .row true 1 (([] : List Int).map vI)), (3395, .row true 3 (v1005.2.2.2.map eArc)), (3394, .row true 1 (v1005.2.2.1.map vI))] false rfl (con_pre0 [.int .i64 v0.2.2.2.2.2.2.2.2.2.2.2.2.1, .str v0.2.2.2.2.2.2.2.2.2.2.2.2.2.1, .int .i64 v0.2.2.2.2.2.2.2.2.2.2.2.2.2.2.1, .int .i64 v0.2.2.2.2.2.2.2.2.2.2.2.2.2.2.2.1, .int .i64 v0.2.2.2.2.2.2.2.2.2.2.2.2.2.2.2.2.1, .sl 3 (v0.2.2.2.2.2.2.2.2.2.2.2.2.2.2.2.2.2.map eTurn)] (con_spec_l19Start e1007)) c147_ok (by first | rfl | simp) rfl ?_
       refine qg (AB (decide (v1007 = (0 : Int)))) rfl rfl (qp (AB (decide (v1007 = (0 : Int)))) rfl (qp (AB (decide (v1007 = (0 : Int)))) rfl ?_))
       refine q_case 73 hF rfl (fun hF => ?_) (fun hF => ?_)
       ·
        refine qg (.val none (.ptr [.str v0.1, .sl 1 (v0.2.1.map vI), .sl 1 (v0.2.2.1.map vI), .int .i64 v0.2.2.2.1, .int .i64 v0.2.2.2.2.1, .sl 1 (v0.2.2.2.2.2.1.map (eL 1 vI)), .int .i64 v0.2.2.2.2.2.2.1, .int .i64 v0.2.2.2.2.2.2.2.1, .sl 2 (v0.2.2.2.2.2.2.2.2.1.map eNote), .str v0.2.2.2.2.2.2.2.2.2.1, .sl 1 (v0.2.2.2.2.2.2.2.2.2.2.1.map vI), .sl 1 (v0.2.2.2.2.2.2.2.2.2.2.2.1.map vI), .int .i64 v0.2.2.2.2.2.2.2.2.2.2.2.2.1, .str v0.2.2.2.2.2.2.2.2.2.2.2.2.2.1, .int .i64 v0.2.2.2.2.2.2.2.2.2.2.2.2.2.2.1, .int .i64 v0.2.2.2.2.2.2.2.2.2.2.2.2.2.2.2.1, .int .i64 v0.2.2.2.2.2.2.2.2.2.2.2.2.2.2.2.2.1, .sl 3 (v0.2.2.2.2.2.2.2.2.2.2.2.2.2.2.2.2.2.map eTurn)])) rfl rfl (qg (.val none (.ptr [.str v0.1, .sl 1 (v0.2.1.map vI), .sl 1 (v0.2.2.1.map vI), .int .i64 v0.2.2.2.1, .int .i64 v0.2.2.2.2.1, .sl 1 (v0.2.2.2.2.2.1.map (eL 1 vI)), .int .i64 v0.2.2.2.2.2.2.1, .int .i64 v0.2.2.2.2.2.2.2.1, .sl 2 (v0.2.2.2.2.2.2.2.2.1.map eNote), .str v0.2.2.2.2.2.2.2.2.2.1, .sl 1 (v0.2.2.2.2.2.2.2.2.2.2.1.map vI), .sl 1 (v0.2.2.2.2.2.2.2.2.2.2.2.1.map vI), .int .i64 v0.2.2.2.2.2.2.2.2.2.2.2.2.1, .str v0.2.2.2.2.2.2.2.2.2.2.2.2.2.1, .int .i64 v0.2.2.2.2.2.2.2.2.2.2.2.2.2.2.1, .int .i64 v0.2.2.2.2.2.2.2.2.2.2.2.2.2.2.2.1, .int .i64 v0.2.2.2.2.2.2.2.2.2.2.2.2.2.2.2.2.1, .sl 3 (v0.2.2.2.2.2.2.2.2.2.2.2.2.2.2.2.2.2.map eTurn)])) rfl rfl (qg (.val none (.ptr [.int .i64 v0.2.2.2.2.2.2.2.2.2.2.2.2.2.2.2.1, .int .i64 v0.2.2.2.2.2.2.2.2.2.2.2.2.2.2.2.2.1, .sl 3 (v0.2.2.2.2.2.2.2.2.2.2.2.2.2.2.2.2.2.map eTurn)])) rfl rfl (qg (AI v0.2.2.2.2.2.2.2.2.2.2.2.2.2.2.2.1) rfl rfl ?_)))
        obtain ⟨v1008, e1008, hF⟩ := bind_get hF
        refine qcg (AB v1008) [(3456, .box [AI v1005.1, AI v1005.2.1, .sl 3394 0 v1005.2.2.1.length, .sl 3395 0 v1005.2.2.2.length]), (3456, .box [AI 0, AI 0, .sl 3457 0 0, .sl 3458 0 0]), (3458, .row true 3 (([] : List Int).map vI)), (3457, .row true 1 (([] : List Int).map vI)), (3395, .row true 3 (v1005.2.2.2.map eArc)), (3394, .row true 1 (v1005.2.2.1.map vI))] false rfl (con_spec_l19Phrase e1008) c148_ok (by first | rfl | simp) rfl ?_
        refine qp (AB v1008) rfl (qp (AB v1008) rfl ?_)
        refine q_case 80 hF rfl (fun hF => ?_) (fun hF => ?_)
        ·
         refine qg (.val none (.ptr [.str v0.1, .sl 1 (v0.2.1.map vI), .sl 1 (v0.2.2.1.map vI), .int .i64 v0.2.2.2.1, .int .i64 v0.2.2.2.2.1, .sl 1 (v0.2.2.2.2.2.1.map (eL 1 vI)), .int .i64 v0.2.2.2.2.2.2.1, .int .i64 v0.2.2.2.2.2.2.2.1, .sl 2 (v0.2.2.2.2.2.2.2.2.1.map eNote), .str v0.2.2.2.2.2.2.2.2.2.1, .sl 1 (v0.2.2.2.2.2.2.2.2.2.2.1.map vI), .sl 1 (v0.2.2.2.2.2.2.2.2.2.2.2.1.map vI), .int .i64 v0.2.2.2.2.2.2.2.2.2.2.2.2.1, .str v0.2.2.2.2.2.2.2.2.2.2.2.2.2.1, .int .i64 v0.2.2.2.2.2.2.2.2.2.2.2.2.2.2.1, .int .i64 v0.2.2.2.2.2.2.2.2.2.2.2.2.2.2.2.1, .int .i64 v0.2.2.2.2.2.2.2.2.2.2.2.2.2.2.2.2.1, .sl 3 (v0.2.2.2.2.2.2.2.2.2.2.2.2.2.2.2.2.2.map eTurn)])) rfl rfl (qg (.val none (.ptr [.str v0.1, .sl 1 (v0.2.1.map vI), .sl 1 (v0.2.2.1.map vI), .int .i64 v0.2.2.2.1, .int .i64 v0.2.2.2.2.1, .sl 1 (v0.2.2.2.2.2.1.map (eL 1 vI)), .int .i64 v0.2.2.2.2.2.2.1, .int .i64 v0.2.2.2.2.2.2.2.1, .sl 2 (v0.2.2.2.2.2.2.2.2.1.map eNote), .str v0.2.2.2.2.2.2.2.2.2.1, .sl 1 (v0.2.2.2.2.2.2.2.2.2.2.1.map vI), .sl 1 (v0.2.2.2.2.2.2.2.2.2.2.2.1.map vI), .int .i64 v0.2.2.2.2.2.2.2.2.2.2.2.2.1, .str v0.2.2.2.2.2.2.2.2.2.2.2.2.2.1, .int .i64 v0.2.2.2.2.2.2.2.2.2.2.2.2.2.2.1, .int .i64 v0.2.2.2.2.2.2.2.2.2.2.2.2.2.2.2.1, .int .i64 v0.2.2.2.2.2.2.2.2.2.2.2.2.2.2.2.2.1, .sl 3 (v0.2.2.2.2.2.2.2.2.2.2.2.2.2.2.2.2.2.map eTurn)])) rfl rfl (qg (.val none (.ptr [.int .i64 v0.2.2.2.2.2.2.2.2.2.2.2.2.2.2.2.2.1, .sl 3 (v0.2.2.2.2.2.2.2.2.2.2.2.2.2.2.2.2.2.map eTurn)])) rfl rfl (qg (AI v0.2.2.2.2.2.2.2.2.2.2.2.2.2.2.2.2.1) rfl rfl ?_)))
         obtain ⟨v1009, e1009, hF⟩ := bind_get hF
         refine qcg (AB v1009) [(3456, .box [AI v1005.1, AI v1005.2.1, .sl 3394 0 v1005.2.2.1.length, .sl 3395 0 v1005.2.2.2.length]), (3456, .box [AI 0, AI 0, .sl 3457 0 0, .sl 3458 0 0]), (3458, .row true 3 (([] : List Int).map vI)), (3457, .row true 1 (([] : List Int).map vI)), (3395, .row true 3 (v1005.2.2.2.map eArc)), (3394, .row true 1 (v1005.2.2.1.map vI))] false rfl (con_spec_l19Gap e1009) c149_ok (by first | rfl | simp) rfl ?_
         refine qp (AB v1009) rfl (qp (AB v1009) rfl ?_)
         refine r_nil ?_
         refine w_ret ?_
         cases hF
         exact eR
        ·
         refine qn rfl (qn rfl (qn rfl (qn rfl (qn rfl (qp (AB false) rfl (qp (AB false) rfl ?_))))))
         refine r_nil ?_
         refine w_ret ?_
         cases hF
         exact eR
       ·
        refine qn rfl (qn rfl (qn rfl (qn rfl (qn rfl (qp (AB false) rfl (qp (AB false) rfl (qn rfl ?_)))))))
        refine qn rfl (qn rfl (qn rfl (qn rfl (qp (AB false) rfl (qp (AB false) rfl ?_)))))
        refine r_nil ?_
        refine w_ret ?_
        cases hF
        exact eR
      ·
       refine qn rfl (qn rfl (qn rfl (qn rfl (qn rfl (qn rfl (qn rfl (qn rfl ?_)))))))
       refine qn rfl (qn rfl (qn rfl (qn rfl (qn rfl (qp (AB false) rfl (qp (AB false) rfl (qn rfl ?_)))))))
       refine qn rfl (qn rfl (qn rfl (qn rfl (qp (AB false) rfl (qp (AB false) rfl (qn rfl (qn rfl ?_)))))))
       refine qn rfl (qn rfl (qn rfl (qp (AB false) rfl (qp (AB false) rfl ?_))))
       refine r_nil ?_
       refine w_ret ?_
       cases hF
       exact eR

def c9 : MC := (.seq (.reg [rg 1 (.f (.box (.t 0))), rg 2 (.p true (.mv (.c (.bool false))))]) (.seq (.reg [rg 3 (.call true 44 [(.t 1)]), mvt 2 3]) .ret))
theorem c9_is : compFn Try.prog 9 = some (c9, [(.tmp 2)]) := by kernel_rfl
theorem c9_ok : okFn Try.prog 9 = true := by kernel_rfl

noncomputable def F_spec_ValidWork (v0 : TWork) : Option (Bool) :=
 ((F_spec_l31Ok v0).bind fun v1000 => some v1000)
@[simp] def res_spec_ValidWork (r : Bool) : RV := .one (.one (.val (.bool r)))
theorem con_spec_ValidWork {v0 : TWork} {r : Bool} (hF : F_spec_ValidWork v0 = some r) : Con Try.prog 9 [eWork v0] (res_spec_ValidWork r) := by
 unfold F_spec_ValidWork at hF
 refine con_of c9_is fun N => ?_
 refine ws 0 128 ?_
 refine qf (.ptr 0 0 0) [(0, .box [AS v0.1, AL 1 (v0.2.1.map vI), AL 1 (v0.2.2.1.map vI), AI v0.2.2.2.1, AI v0.2.2.2.2.1, AL 1 (v0.2.2.2.2.2.1.map (eL 1 vI)), AI v0.2.2.2.2.2.2.1, AI v0.2.2.2.2.2.2.2.1, AL 2 (v0.2.2.2.2.2.2.2.2.1.map eNote), AS v0.2.2.2.2.2.2.2.2.2.1, AL 1 (v0.2.2.2.2.2.2.2.2.2.2.1.map vI), AL 1 (v0.2.2.2.2.2.2.2.2.2.2.2.1.map vI), AI v0.2.2.2.2.2.2.2.2.2.2.2.2.1, AS v0.2.2.2.2.2.2.2.2.2.2.2.2.2.1, AI v0.2.2.2.2.2.2.2.2.2.2.2.2.2.2.1, AI v0.2.2.2.2.2.2.2.2.2.2.2.2.2.2.2.1, AI v0.2.2.2.2.2.2.2.2.2.2.2.2.2.2.2.2.1, AL 3 (v0.2.2.2.2.2.2.2.2.2.2.2.2.2.2.2.2.2.map eTurn)])] (by simp) ?_
 refine qp (AB false) rfl ?_
 refine r_nil ?_
 refine ws 128 256 ?_
 obtain ⟨v1000, e1000, hF⟩ := bind_get hF
 refine qc (AB v1000) [(0, .box [AS v0.1, AL 1 (v0.2.1.map vI), AL 1 (v0.2.2.1.map vI), AI v0.2.2.2.1, AI v0.2.2.2.2.1, AL 1 (v0.2.2.2.2.2.1.map (eL 1 vI)), AI v0.2.2.2.2.2.2.1, AI v0.2.2.2.2.2.2.2.1, AL 2 (v0.2.2.2.2.2.2.2.2.1.map eNote), AS v0.2.2.2.2.2.2.2.2.2.1, AL 1 (v0.2.2.2.2.2.2.2.2.2.2.1.map vI), AL 1 (v0.2.2.2.2.2.2.2.2.2.2.2.1.map vI), AI v0.2.2.2.2.2.2.2.2.2.2.2.2.1, AS v0.2.2.2.2.2.2.2.2.2.2.2.2.2.1, AI v0.2.2.2.2.2.2.2.2.2.2.2.2.2.2.1, AI v0.2.2.2.2.2.2.2.2.2.2.2.2.2.2.2.1, AI v0.2.2.2.2.2.2.2.2.2.2.2.2.2.2.2.2.1, AL 3 (v0.2.2.2.2.2.2.2.2.2.2.2.2.2.2.2.2.2.map eTurn)])] true (con_spec_l31Ok e1000) c44_ok (by simp [List.take_of_length_le]) rfl ?_
 refine qp (AB v1000) rfl ?_
 refine r_nil ?_
 refine w_ret ?_
 cases hF
 exact eR

def c244 : MC := (.seq (.reg [rg 2 (.p true (.mv (.c (.bool false))))]) (.seq (.seq (.reg [mvt 5 0, rg 6 (.p true (.lens (.t 5))), rg 7 (.p true (.mv (.c (.int .i64 0))))]) (.block 0 (.loop (.seq (.reg [rg 8 (.p true (.bin .lss (.t 7) (.t 6)))]) (.seq (.cond (.t 8) .skip (.exit 0)) (.seq (.block 1 (.seq (.reg [mvt 9 7, mvt 3 9]) (.seq (.reg [mvt 10 0, mvt 11 3, rg 12 (.p true (.ixs (.t 10) (.t 11))), mvt 4 12]) (.seq (.reg [mvt 13 4, rg 14 (.p true (.bin .lss (.t 13) (.c (.int .u8 97)))), mvt 15 14, ⟨(some 16), (some (15, false)), (.p true (.mv (.t 4)))⟩, ⟨(some 17), (some (15, false)), (.p true (.bin .gtr (.t 16) (.c (.int .u8 122))))⟩, rg 18 (.p true (.pick (.t 15) (.c (.bool true)) (.t 17))), mvt 19 18, ⟨(some 20), (some (19, true)), (.p true (.mv (.t 4)))⟩, ⟨(some 21), (some (19, true)), (.p true (.bin .lss (.t 20) (.c (.int .u8 48))))⟩, ⟨(some 22), (some (19, true)), (.p true (.mv (.t 21)))⟩, ⟨(some 23), (some (22, false)), (.p true (.mv (.t 4)))⟩, ⟨(some 24), (some (22, false)), (.p true (.bin .gtr (.t 23) (.c (.int .u8 57))))⟩, ⟨(some 25), (some (19, true)), (.p true (.pick (.t 22) (.c (.bool true)) (.t 24)))⟩, rg 26 (.p true (.pick (.t 19) (.t 25) (.c (.bool false))))]) (.cond (.t 26) (.seq (.reg [rg 2 (.p true (.mv (.c (.bool false))))]) .ret) .skip))))) (.reg [rg 27 (.p true (.bin .add (.t 7) (.c (.int .i64 1)))), mvt 7 27]))))))) (.seq (.reg [rg 2 (.p true (.mv (.c (.bool true))))]) .ret)))
theorem c244_is : compFn Try.prog 244 = some (c244, [(.tmp 2)]) := by kernel_rfl
theorem c244_ok : okFn Try.prog 244 = true := by kernel_rfl

noncomputable def F_impl_onlyNameBytes_l0 (v0 : List UInt8) (k0 : Int → Option (Bool)) : Int → Option (Bool)
 | v4 => (bif (decide (v4 < (v0.length : Int))) then ((ix v0 v4).bind fun v1000 => (bif (decide ((v1000.toNat : Int) < (97 : Int))) then (bif (decide ((v1000.toNat : Int) < (48 : Int))) then some false
 else (bif (decide ((57 : Int) < (v1000.toNat : Int))) then some false
 else k0 (w64 (v4 + 1))))
 else (bif (decide ((122 : Int) < (v1000.toNat : Int))) then (bif (decide ((v1000.toNat : Int) < (48 : Int))) then some false
 else (bif (decide ((57 : Int) < (v1000.toNat : Int))) then some false
 else k0 (w64 (v4 + 1))))
 else k0 (w64 (v4 + 1)))))
 else some true)
noncomputable def F_impl_onlyNameBytes (v0 : List UInt8) : Option (Bool) :=
 loop (F_impl_onlyNameBytes_l0 v0) 0
@[simp] def res_impl_onlyNameBytes (r : Bool) : RV := .one (.one (.val (.bool r)))
theorem con_impl_onlyNameBytes {v0 : List UInt8} {r : Bool} (hF : F_impl_onlyNameBytes v0 = some r) : Con Try.prog 244 [.str v0] (res_impl_onlyNameBytes r) := by
 unfold F_impl_onlyNameBytes at hF
 refine con_of c244_is fun N => ?_
 refine ws 0 64 ?_
 refine qp (AB false) rfl ?_
 refine r_nil ?_
 refine w_seq ?_
 refine ws 64 256 ?_
 refine qp (AS v0) rfl (qp (AI (v0.length : Int)) rfl (qp (AI 0) rfl ?_))
 refine r_nil ?_
 refine w_block ?_
 refine wr (l' := [(0, AS v0), (6, AI (v0.length : Int)), (7, AI 0)]) (L := []) [0, 6, 7] [] 1 ?_
 refine w_loopF (F_impl_onlyNameBytes_l0 v0) (fun s : Int => mkS [(0, AS v0), (6, AI (v0.length : Int)), (7, AI s)] (fo []) 1) hF ?_
 rintro k0 v4 hF
 rw [F_impl_onlyNameBytes_l0] at hF
 try dsimp only
 refine ws 1 65 ?_
 refine qp (AB (decide (v4 < (v0.length : Int)))) rfl ?_
 refine r_nil ?_
 refine w_seq ?_
 refine cF hF (fun hF => ?_) fun hF => ?_
 ·
  refine w_skip ?_
  refine thenQ_n ?_
  refine w_seq ?_
  refine w_block ?_
  refine ws 65 193 ?_
  refine qp (AI v4) rfl (qp (AI v4) rfl ?_)
  refine r_nil ?_
  refine ws 193 449 ?_
  refine qp (AS v0) rfl (qp (AI v4) rfl ?_)
  obtain ⟨v1000, e1000, hF⟩ := bind_get hF
  refine qp (.val none (.int .u8 (v1000.toNat : Int))) (ev_ixs rfl rfl e1000) (qp (.val none (.int .u8 (v1000.toNat : Int))) rfl ?_)
  refine r_nil ?_
  refine ws 449 1345 ?_
  refine qp (.val none (.int .u8 (v1000.toNat : Int))) rfl (qp (AB (decide ((v1000.toNat : Int) < (97 : Int)))) rfl (qp (AB (decide ((v1000.toNat : Int) < (97 : Int)))) rfl ?_))
  refine q_case 15 hF rfl (fun hF => ?_) (fun hF => ?_)
  ·
   refine qn rfl (qn rfl (qp (AB true) rfl (qp (AB true) rfl (qg (.val none (.int .u8 (v1000.toNat : Int))) rfl rfl (qg (AB (decide ((v1000.toNat : Int) < (48 : Int)))) rfl rfl (qg (AB (decide ((v1000.toNat : Int) < (48 : Int)))) rfl rfl ?_))))))
   refine q_case 22 hF rfl (fun hF => ?_) (fun hF => ?_)
   ·
    refine qn rfl (qn rfl (qg (AB true) rfl rfl (qp (AB true) rfl ?_)))
    refine r_nil ?_
    refine w_true rfl ?_
    refine ws 1345 1409 ?_
    refine qp (AB false) rfl ?_
    refine r_nil ?_
    refine w_ret ?_
    refine blockQ_r ?_
    refine thenQ_r ?_
    refine thenQ_r ?_
    refine blockQ_r ?_
    refine thenQ_r ?_
    cases hF
    exact eR
   ·
    refine qg (.val none (.int .u8 (v1000.toNat : Int))) rfl rfl (qg (AB (decide ((57 : Int) < (v1000.toNat : Int)))) rfl rfl (qg (AB (decide ((57 : Int) < (v1000.toNat : Int)))) rfl rfl (qp (AB (decide ((57 : Int) < (v1000.toNat : Int)))) rfl ?_)))
    refine r_nil ?_
    refine cF hF (fun hF => ?_) fun hF => ?_
    ·
     refine ws 1345 1409 ?_
     refine qp (AB false) rfl ?_
     refine r_nil ?_
     refine w_ret ?_
     refine blockQ_r ?_
     refine thenQ_r ?_
     refine thenQ_r ?_
     refine blockQ_r ?_
     refine thenQ_r ?_
     cases hF
     exact eR
    ·
     refine w_skip ?_
     refine blockQ_n ?_
     refine thenQ_n ?_
     refine w_reg 1345 1473 rfl rfl ?_
     refine qp (AI (w64 (v4 + 1))) rfl (qp (AI (w64 (v4 + 1))) rfl ?_)
     refine r_nil ?_
     refine thenQ_n ?_
     refine ar (l' := [(0, AS v0), (6, AI (v0.length : Int)), (7, AI (w64 (v4 + 1)))]) (L := []) [0, 6, 7] [] 1 ⟨_, by rfl, hF⟩
  ·
   refine qg (.val none (.int .u8 (v1000.toNat : Int))) rfl rfl (qg (AB (decide ((122 : Int) < (v1000.toNat : Int)))) rfl rfl (qp (AB (decide ((122 : Int) < (v1000.toNat : Int)))) rfl (qp (AB (decide ((122 : Int) < (v1000.toNat : Int)))) rfl ?_)))
   refine q_case 19 hF rfl (fun hF => ?_) (fun hF => ?_)
   ·
    refine qg (.val none (.int .u8 (v1000.toNat : Int))) rfl rfl (qg (AB (decide ((v1000.toNat : Int) < (48 : Int)))) rfl rfl (qg (AB (decide ((v1000.toNat : Int) < (48 : Int)))) rfl rfl ?_))
    refine q_case 22 hF rfl (fun hF => ?_) (fun hF => ?_)
    ·
     refine qn rfl (qn rfl (qg (AB true) rfl rfl (qp (AB true) rfl ?_)))
     refine r_nil ?_
     refine w_true rfl ?_
     refine ws 1345 1409 ?_
     refine qp (AB false) rfl ?_
     refine r_nil ?_
     refine w_ret ?_
     refine blockQ_r ?_
     refine thenQ_r ?_
     refine thenQ_r ?_
     refine blockQ_r ?_
     refine thenQ_r ?_
     cases hF
     exact eR
    ·
     refine qg (.val none (.int .u8 (v1000.toNat : Int))) rfl rfl (qg (AB (decide ((57 : Int) < (v1000.toNat : Int)))) rfl rfl (qg (AB (decide ((57 : Int) < (v1000.toNat : Int)))) rfl rfl (qp (AB (decide ((57 : Int) < (v1000.toNat : Int)))) rfl ?_)))
     refine r_nil ?_
     refine cF hF (fun hF => ?_) fun hF => ?_
     ·
      refine ws 1345 1409 ?_
      refine qp (AB false) rfl ?_
      refine r_nil ?_
      refine w_ret ?_
      refine blockQ_r ?_
      refine thenQ_r ?_
      refine thenQ_r ?_
      refine blockQ_r ?_
      refine thenQ_r ?_
      cases hF
      exact eR
     ·
      refine w_skip ?_
      refine blockQ_n ?_
      refine thenQ_n ?_
      refine w_reg 1345 1473 rfl rfl ?_
      refine qp (AI (w64 (v4 + 1))) rfl (qp (AI (w64 (v4 + 1))) rfl ?_)
      refine r_nil ?_
      refine thenQ_n ?_
      refine ar (l' := [(0, AS v0), (6, AI (v0.length : Int)), (7, AI (w64 (v4 + 1)))]) (L := []) [0, 6, 7] [] 1 ⟨_, by rfl, hF⟩
   ·
    refine qn rfl (qn rfl (qn rfl (qu rfl (qu rfl (qn rfl (qp (AB false) rfl ?_))))))
    refine r_nil ?_
    refine w_false rfl ?_
    refine w_skip ?_
    refine blockQ_n ?_
    refine thenQ_n ?_
    refine w_reg 1345 1473 rfl rfl ?_
    refine qp (AI (w64 (v4 + 1))) rfl (qp (AI (w64 (v4 + 1))) rfl ?_)
    refine r_nil ?_
    refine thenQ_n ?_
    refine ar (l' := [(0, AS v0), (6, AI (v0.length : Int)), (7, AI (w64 (v4 + 1)))]) (L := []) [0, 6, 7] [] 1 ⟨_, by rfl, hF⟩
 ·
  refine w_exit ?_
  refine thenQ_e ?_
  refine thenQ_e ?_
  refine blockQ_e ?_
  refine thenQ_n ?_
  refine ws 65 129 ?_
  refine qp (AB true) rfl ?_
  refine r_nil ?_
  refine w_ret ?_
  cases hF
  exact eR

def c189 : MC := (.seq (.reg [rg 2 (.p true (.mv (.c (.bool false))))]) (.seq (.seq (.reg [mvt 3 0, rg 4 (.p true (.lens (.t 3))), rg 5 (.p true (.bin .lss (.t 4) (.c (.int .i64 1)))), mvt 6 5, ⟨(some 7), (some (6, false)), (.p true (.mv (.t 0)))⟩, ⟨(some 8), (some (6, false)), (.p true (.lens (.t 7)))⟩, ⟨(some 9), (some (6, false)), (.p true (.bin .gtr (.t 8) (.c (.int .i64 10))))⟩, rg 10 (.p true (.pick (.t 6) (.c (.bool true)) (.t 9))), mvt 11 10, ⟨(some 12), (some (11, false)), (.p true (.mv (.t 0)))⟩, ⟨(some 13), (some (11, false)), (.p true (.ixs (.t 12) (.c (.int .i64 0))))⟩, ⟨(some 14), (some (11, false)), (.p true (.bin .lss (.t 13) (.c (.int .u8 97))))⟩, rg 15 (.p true (.pick (.t 11) (.c (.bool true)) (.t 14))), mvt 16 15, ⟨(some 17), (some (16, false)), (.p true (.mv (.t 0)))⟩, ⟨(some 18), (some (16, false)), (.p true (.ixs (.t 17) (.c (.int .i64 0))))⟩, ⟨(some 19), (some (16, false)), (.p true (.bin .gtr (.t 18) (.c (.int .u8 122))))⟩, rg 20 (.p true (.pick (.t 16) (.c (.bool true)) (.t 19)))]) (.cond (.t 20) (.seq (.reg [rg 2 (.p true (.mv (.c (.bool false))))]) .ret) .skip)) (.seq (.reg [mvt 21 0, rg 22 (.call true 244 [(.t 21)]), mvt 2 22]) .ret)))
theorem c189_is : compFn Try.prog 189 = some (c189, [(.tmp 2)]) := by kernel_rfl
theorem c189_ok : okFn Try.prog 189 = true := by kernel_rfl

noncomputable def F_impl_IsName (v0 : List UInt8) : Option (Bool) :=
 (bif (decide ((v0.length : Int) < (1 : Int))) then some false
 else (bif (decide ((10 : Int) < (v0.length : Int))) then some false
 else ((ix v0 0).bind fun v1000 => (bif (decide ((v1000.toNat : Int) < (97 : Int))) then some false
 else ((ix v0 0).bind fun v1001 => (bif (decide ((122 : Int) < (v1001.toNat : Int))) then some false
 else ((F_impl_onlyNameBytes v0).bind fun v1002 => some v1002)))))))
@[simp] def res_impl_IsName (r : Bool) : RV := .one (.one (.val (.bool r)))
theorem con_impl_IsName {v0 : List UInt8} {r : Bool} (hF : F_impl_IsName v0 = some r) : Con Try.prog 189 [.str v0] (res_impl_IsName r) := by
 unfold F_impl_IsName at hF
 refine con_of c189_is fun N => ?_
 refine ws 0 64 ?_
 refine qp (AB false) rfl ?_
 refine r_nil ?_
 refine w_seq ?_
 refine ws 64 1216 ?_
 refine qp (AS v0) rfl (qp (AI (v0.length : Int)) rfl (qp (AB (decide ((v0.length : Int) < (1 : Int)))) rfl (qp (AB (decide ((v0.length : Int) < (1 : Int)))) rfl ?_)))
 refine q_case 6 hF rfl (fun hF => ?_) (fun hF => ?_)
 ·
  refine qn rfl (qn rfl (qn rfl (qp (AB true) rfl (qp (AB true) rfl (qn rfl (qn rfl (qn rfl ?_)))))))
  refine qp (AB true) rfl (qp (AB true) rfl (qn rfl (qn rfl (qn rfl (qp (AB true) rfl ?_)))))
  refine r_nil ?_
  refine w_true rfl ?_
  refine ws 1216 1280 ?_
  refine qp (AB false) rfl ?_
  refine r_nil ?_
  refine w_ret ?_
  refine thenQ_r ?_
  cases hF
  exact eR
 ·
  refine qg (AS v0) rfl rfl (qg (AI (v0.length : Int)) rfl rfl (qg (AB (decide ((10 : Int) < (v0.length : Int)))) rfl rfl (qp (AB (decide ((10 : Int) < (v0.length : Int)))) rfl (qp (AB (decide ((10 : Int) < (v0.length : Int)))) rfl ?_))))
  refine q_case 11 hF rfl (fun hF => ?_) (fun hF => ?_)
  ·
   refine qn rfl (qn rfl (qn rfl (qp (AB true) rfl (qp (AB true) rfl (qn rfl (qn rfl (qn rfl ?_)))))))
   refine qp (AB true) rfl ?_
   refine r_nil ?_
   refine w_true rfl ?_
   refine ws 1216 1280 ?_
   refine qp (AB false) rfl ?_
   refine r_nil ?_
   refine w_ret ?_
   refine thenQ_r ?_
   cases hF
   exact eR
  ·
   refine qg (AS v0) rfl rfl ?_
   obtain ⟨v1000, e1000, hF⟩ := bind_get hF
   refine qg (.val none (.int .u8 (v1000.toNat : Int))) rfl (ev_ixs rfl rfl e1000) (qg (AB (decide ((v1000.toNat : Int) < (97 : Int)))) rfl rfl (qp (AB (decide ((v1000.toNat : Int) < (97 : Int)))) rfl (qp (AB (decide ((v1000.toNat : Int) < (97 : Int)))) rfl ?_)))
   refine q_case 16 hF rfl (fun hF => ?_) (fun hF => ?_)
   ·
    refine qn rfl (qn rfl (qn rfl (qp (AB true) rfl ?_)))
    refine r_nil ?_
    refine w_true rfl ?_
    refine ws 1216 1280 ?_
    refine qp (AB false) rfl ?_
    refine r_nil ?_
    refine w_ret ?_
    refine thenQ_r ?_
    cases hF
    exact eR
   ·
    refine qg (AS v0) rfl rfl ?_
    obtain ⟨v1001, e1001, hF⟩ := bind_get hF
    refine qg (.val none (.int .u8 (v1001.toNat : Int))) rfl (ev_ixs rfl rfl e1001) (qg (AB (decide ((122 : Int) < (v1001.toNat : Int)))) rfl rfl (qp (AB (decide ((122 : Int) < (v1001.toNat : Int)))) rfl ?_))
    refine r_nil ?_
    refine cF hF (fun hF => ?_) fun hF => ?_
    ·
     refine ws 1216 1280 ?_
     refine qp (AB false) rfl ?_
     refine r_nil ?_
     refine w_ret ?_
     refine thenQ_r ?_
     cases hF
     exact eR
    ·
     refine w_skip ?_
     refine thenQ_n ?_
     refine ws 1216 1408 ?_
     refine qp (AS v0) rfl ?_
     obtain ⟨v1002, e1002, hF⟩ := bind_get hF
     refine qc (AB v1002) [] false (con_impl_onlyNameBytes e1002) c244_ok (by first | rfl | simp) rfl ?_
     refine qp (AB v1002) rfl ?_
     refine r_nil ?_
     refine w_ret ?_
     cases hF
     exact eR

def c274 : MC := (.seq (.reg [rg 2 (.p true (.mv (.c (.bool false))))]) (.seq (.seq (.reg [rg 3 (.p true (.mv (.c (.int .i64 1))))]) (.block 0 (.loop (.seq (.seq (.reg [mvt 4 3, mvt 5 0, rg 6 (.p true (.len (.t 5))), rg 7 (.p true (.bin .lss (.t 4) (.t 6)))]) (.cond (.t 7) .skip (.exit 0))) (.seq (.block 1 (.seq (.reg [rg 10 (.p false (.mv (.t 0))), rg 11 (.p false (.mv (.t 3))), rg 12 (.p false (.iad (.t 10) (.t 11) 1)), rg 13 (.p false (.ld (.t 12) 1 false)), rg 14 (.p false (.mv (.t 0))), rg 15 (.p false (.mv (.t 3))), rg 16 (.p false (.bin .sub (.t 15) (.c (.int .i64 1)))), rg 17 (.p false (.iad (.t 14) (.t 16) 1)), rg 18 (.p false (.ld (.t 17) 1 false)), rg 19 (.p false (.bin .leq (.t 13) (.t 18)))]) (.cond (.t 19) (.seq (.reg [rg 2 (.p true (.mv (.c (.bool false))))]) .ret) .skip))) (.reg [mvt 8 3, rg 9 (.p true (.bin .add (.t 8) (.c (.int .i64 1)))), mvt 3 9])))))) (.seq (.reg [rg 2 (.p true (.mv (.c (.bool true))))]) .ret)))
theorem c274_is : compFn Try.prog 274 = some (c274, [(.tmp 2)]) := by kernel_rfl
theorem c274_ok : okFn Try.prog 274 = true := by kernel_rfl

noncomputable def F_impl_increasing_l0 (v0 : List Int) (k0 : Int → Option (Bool)) : Int → Option (Bool)
 | v6 => (bif (decide (v6 < (v0.length : Int))) then ((ix v0 v6).bind fun v1000 => ((ix v0 (w64 (v6 - 1))).bind fun v1001 => (bif (decide (v1000 ≤ v1001)) then some false
 else k0 (w64 (v6 + 1)))))
 else some true)
noncomputable def F_impl_increasing (v0 : List Int) : Option (Bool) :=
 loop (F_impl_increasing_l0 v0) 1
@[simp] def res_impl_increasing (r : Bool) : RV := .one (.one (.val (.bool r)))
theorem con_impl_increasing {v0 : List Int} {r : Bool} (hF : F_impl_increasing v0 = some r) : Con Try.prog 274 [.sl 1 (v0.map vI)] (res_impl_increasing r) := by
 unfold F_impl_increasing at hF
 refine con_of c274_is fun N => ?_
 refine ws 0 64 ?_
 refine qp (AB false) rfl ?_
 refine r_nil ?_
 refine w_seq ?_
 refine ws 64 128 ?_
 refine qp (AI 1) rfl ?_
 refine r_nil ?_
 refine w_block ?_
 refine wr (l' := [(0, AL 1 (v0.map vI)), (3, AI 1)]) (L := []) [0, 3] [] 1 ?_
 refine w_loopF (F_impl_increasing_l0 v0) (fun s : Int => mkS [(0, AL 1 (v0.map vI)), (3, AI s)] (fo []) 1) hF ?_
 rintro k0 v6 hF
 rw [F_impl_increasing_l0] at hF
 try dsimp only
 refine w_seq ?_
 refine ws 1 257 ?_
 refine qp (AI v6) rfl (qp (AL 1 (v0.map vI)) rfl (qp (AI (v0.length : Int)) (ev_len_n rfl) (qp (AB (decide (v6 < (v0.length : Int)))) rfl ?_)))
 refine r_nil ?_
 refine cF hF (fun hF => ?_) fun hF => ?_
 ·
  refine w_skip ?_
  refine thenQ_n ?_
  refine w_seq ?_
  refine w_block ?_
  refine ws 257 897 ?_
  refine qp (AL 1 (v0.map vI)) rfl (qp (AI v6) rfl ?_)
  obtain ⟨v1000, e1000, hF⟩ := bind_get hF
  refine qp (.val none (.ptr [.int .i64 v1000])) (ev_iad_n rfl rfl e1000 rfl) (qp (AI v1000) rfl (qp (AL 1 (v0.map vI)) rfl (qp (AI v6) rfl (qp (AI (w64 (v6 - 1))) rfl ?_))))
  obtain ⟨v1001, e1001, hF⟩ := bind_get hF
  refine qp (.val none (.ptr [.int .i64 v1001])) (ev_iad_n rfl rfl e1001 rfl) (qp (AI v1001) rfl (qp (AB (decide (v1000 ≤ v1001))) rfl ?_))
  refine r_nil ?_
  refine cF hF (fun hF => ?_) fun hF => ?_
  ·
   refine ws 897 961 ?_
   refine qp (AB false) rfl ?_
   refine r_nil ?_
   refine w_ret ?_
   refine blockQ_r ?_
   refine thenQ_r ?_
   refine thenQ_r ?_
   refine blockQ_r ?_
   refine thenQ_r ?_
   cases hF
   exact eR
  ·
   refine w_skip ?_
   refine blockQ_n ?_
   refine thenQ_n ?_
   refine w_reg 897 1089 rfl rfl ?_
   refine qp (AI v6) rfl (qp (AI (w64 (v6 + 1))) rfl (qp (AI (w64 (v6 + 1))) rfl ?_))
   refine r_nil ?_
   refine thenQ_n ?_
   refine ar (l' := [(0, AL 1 (v0.map vI)), (3, AI (w64 (v6 + 1)))]) (L := []) [0, 3] [] 1 ⟨_, by rfl, hF⟩
 ·
  refine w_exit ?_
  refine thenQ_e ?_
  refine thenQ_e ?_
  refine blockQ_e ?_
  refine thenQ_n ?_
  refine ws 257 321 ?_
  refine qp (AB true) rfl ?_
  refine r_nil ?_
  refine w_ret ?_
  cases hF
  exact eR

def c233 : MC := (.seq (.reg [rg 2 (.p true (.mv (.c (.bool false))))]) (.seq (.reg [mvt 3 0, rg 4 (.p true (.len (.t 3))), rg 5 (.p true (.bin .geq (.t 4) (.c (.int .i64 5)))), mvt 6 5, ⟨(some 7), (some (6, true)), (.p true (.mv (.t 0)))⟩, ⟨(some 8), (some (6, true)), (.p true (.iad (.t 7) (.c (.int .i64 0)) 1))⟩, ⟨(some 9), (some (6, true)), (.p true (.ld (.t 8) 1 false))⟩, ⟨(some 10), (some (6, true)), (.p true (.bin .eql (.t 9) (.c (.int .i64 0))))⟩, rg 11 (.p true (.pick (.t 6) (.t 10) (.c (.bool false)))), mvt 12 11, ⟨(some 13), (some (12, true)), (.p true (.mv (.t 0)))⟩, ⟨(some 14), (some (12, true)), (.call true 274 [(.t 13)])⟩, rg 15 (.p true (.pick (.t 12) (.t 14) (.c (.bool false)))), mvt 16 15, ⟨(some 17), (some (16, true)), (.p true (.mv (.t 0)))⟩, ⟨(some 18), (some (16, true)), (.p true (.mv (.t 0)))⟩, ⟨(some 19), (some (16, true)), (.p true (.len (.t 18)))⟩, ⟨(some 20), (some (16, true)), (.p true (.bin .sub (.t 19) (.c (.int .i64 1))))⟩, ⟨(some 21), (some (16, true)), (.p true (.iad (.t 17) (.t 20) 1))⟩, ⟨(some 22), (some (16, true)), (.p true (.ld (.t 21) 1 false))⟩, ⟨(some 23), (some (16, true)), (.p true (.bin .lss (.t 22) (.c (.int .i64 12))))⟩, rg 24 (.p true (.pick (.t 16) (.t 23) (.c (.bool false)))), mvt 2 24]) .ret))
theorem c233_is : compFn Try.prog 233 = some (c233, [(.tmp 2)]) := by kernel_rfl
theorem c233_ok : okFn Try.prog 233 = true := by kernel_rfl

noncomputable def F_impl_ValidScale (v0 : List Int) : Option (Bool) :=
 (bif (decide ((5 : Int) ≤ (v0.length : Int))) then ((ix v0 0).bind fun v1000 => (bif (decide (v1000 = (0 : Int))) then ((F_impl_increasing v0).bind fun v1001 => (bif v1001 then ((ix v0 (w64 ((v0.length : Int) - 1))).bind fun v1002 => some (decide (v1002 < (12 : Int))))
 else some false))
 else some false))
 else some false)
@[simp] def res_impl_ValidScale (r : Bool) : RV := .one (.one (.val (.bool r)))
theorem con_impl_ValidScale {v0 : List Int} {r : Bool} (hF : F_impl_ValidScale v0 = some r) : Con Try.prog 233 [.sl 1 (v0.map vI)] (res_impl_ValidScale r) := by
 unfold F_impl_ValidScale at hF
 refine con_of c233_is fun N => ?_
 refine ws 0 64 ?_
 refine qp (AB false) rfl ?_
 refine r_nil ?_
 refine ws 64 1536 ?_
 refine qp (AL 1 (v0.map vI)) rfl (qp (AI (v0.length : Int)) (ev_len_n rfl) (qp (AB (decide ((5 : Int) ≤ (v0.length : Int)))) rfl (qp (AB (decide ((5 : Int) ≤ (v0.length : Int)))) rfl ?_)))
 refine q_case 6 hF rfl (fun hF => ?_) (fun hF => ?_)
 ·
  refine qg (AL 1 (v0.map vI)) rfl rfl ?_
  obtain ⟨v1000, e1000, hF⟩ := bind_get hF
  refine qg (.val none (.ptr [.int .i64 v1000])) rfl (ev_iad_n rfl rfl e1000 rfl) (qg (AI v1000) rfl rfl (qg (AB (decide (v1000 = (0 : Int)))) rfl rfl (qp (AB (decide (v1000 = (0 : Int)))) rfl (qp (AB (decide (v1000 = (0 : Int)))) rfl ?_))))
  refine q_case 12 hF rfl (fun hF => ?_) (fun hF => ?_)
  ·
   refine qg (AL 1 (v0.map vI)) rfl rfl ?_
   obtain ⟨v1001, e1001, hF⟩ := bind_get hF
   refine qcg (AB v1001) [] false rfl (con_impl_increasing e1001) c274_ok (by first | rfl | simp) rfl ?_
   refine qp (AB v1001) rfl (qp (AB v1001) rfl ?_)
   refine q_case 16 hF rfl (fun hF => ?_) (fun hF => ?_)
   ·
    refine qg (AL 1 (v0.map vI)) rfl rfl (qg (AL 1 (v0.map vI)) rfl rfl (qg (AI (v0.length : Int)) rfl (ev_len_n rfl) (qg (AI (w64 ((v0.length : Int) - 1))) rfl rfl ?_)))
    obtain ⟨v1002, e1002, hF⟩ := bind_get hF
    refine qg (.val none (.ptr [.int .i64 v1002])) rfl (ev_iad_n rfl rfl e1002 rfl) (qg (AI v1002) rfl rfl (qg (AB (decide (v1002 < (12 : Int)))) rfl rfl (qp (AB (decide (v1002 < (12 : Int)))) rfl (qp (AB (decide (v1002 < (12 : Int)))) rfl ?_))))
    refine r_nil ?_
    refine w_ret ?_
    cases hF
    exact eR
   ·
    refine qn rfl (qn rfl (qn rfl (qn rfl (qn rfl (qn rfl (qn rfl (qp (AB false) rfl ?_)))))))
    refine qp (AB false) rfl ?_
    refine r_nil ?_
    refine w_ret ?_
    cases hF
    exact eR
  ·
   refine qn rfl (qn rfl (qp (AB false) rfl (qp (AB false) rfl (qn rfl (qn rfl (qn rfl (qn rfl ?_)))))))
   refine qn rfl (qn rfl (qn rfl (qp (AB false) rfl (qp (AB false) rfl ?_))))
   refine r_nil ?_
   refine w_ret ?_
   cases hF
   exact eR
 ·
  refine qn rfl (qn rfl (qn rfl (qn rfl (qp (AB false) rfl (qp (AB false) rfl (qn rfl (qn rfl ?_)))))))
  refine qp (AB false) rfl (qp (AB false) rfl (qn rfl (qn rfl (qn rfl (qn rfl (qn rfl (qn rfl ?_)))))))
  refine qn rfl (qp (AB false) rfl (qp (AB false) rfl ?_))
  refine r_nil ?_
  refine w_ret ?_
  cases hF
  exact eR

def c269 : MC := (.seq (.reg [rg 4 (.p true (.mv (.c (.int .i64 0))))]) (.seq (.seq (.reg [mvt 6 0, rg 7 (.p true (.len (.t 6))), rg 8 (.p true (.mv (.c (.int .i64 0))))]) (.block 0 (.loop (.seq (.reg [rg 9 (.p true (.bin .lss (.t 8) (.t 7)))]) (.seq (.cond (.t 9) .skip (.exit 0)) (.seq (.block 1 (.seq (.reg [mvt 10 8, mvt 5 10]) (.seq (.reg [mvt 11 1, mvt 12 0, mvt 13 5, rg 14 (.p true (.iad (.t 12) (.t 13) 1)), rg 15 (.p true (.ld (.t 14) 1 false)), rg 16 (.p true (.bin .eql (.t 11) (.t 15)))]) (.cond (.t 16) (.seq (.reg [mvt 17 5, mvt 4 17]) .ret) .skip)))) (.reg [rg 18 (.p true (.bin .add (.t 8) (.c (.int .i64 1)))), mvt 8 18]))))))) (.seq (.reg [rg 4 (.p true (.mv (.c (.int .i64 (-1)))))]) .ret)))
theorem c269_is : compFn Try.prog 269 = some (c269, [(.tmp 4)]) := by kernel_rfl
theorem c269_ok : okFn Try.prog 269 = true := by kernel_rfl

noncomputable def F_slices_Index_Sint64_int64_l0 (v0 : List Int) (v1 : Int) (k0 : Int → Option (Int)) : Int → Option (Int)
 | v5 => (bif (decide (v5 < (v0.length : Int))) then ((ix v0 v5).bind fun v1000 => (bif (decide (v1 = v1000)) then some v5
 else k0 (w64 (v5 + 1))))
 else some (-1))
noncomputable def F_slices_Index_Sint64_int64 (v0 : List Int) (v1 : Int) : Option (Int) :=
 loop (F_slices_Index_Sint64_int64_l0 v0 v1) 0
@[simp] def res_slices_Index_Sint64_int64 (r : Int) : RV := .one (.one (.val (.int .i64 r)))
theorem con_slices_Index_Sint64_int64 {v0 : List Int} {v1 : Int} {r : Int} (hF : F_slices_Index_Sint64_int64 v0 v1 = some r) : Con Try.prog 269 [.sl 1 (v0.map vI), .int .i64 v1] (res_slices_Index_Sint64_int64 r) := by
 unfold F_slices_Index_Sint64_int64 at hF
 refine con_of c269_is fun N => ?_
 refine ws 0 64 ?_
 refine qp (AI 0) rfl ?_
 refine r_nil ?_
 refine w_seq ?_
 refine ws 64 256 ?_
 refine qp (AL 1 (v0.map vI)) rfl (qp (AI (v0.length : Int)) (ev_len_n rfl) (qp (AI 0) rfl ?_))
 refine r_nil ?_
 refine w_block ?_
 refine wr (l' := [(0, AL 1 (v0.map vI)), (1, AI v1), (7, AI (v0.length : Int)), (8, AI 0)]) (L := []) [0, 1, 7, 8] [] 1 ?_
 refine w_loopF (F_slices_Index_Sint64_int64_l0 v0 v1) (fun s : Int => mkS [(0, AL 1 (v0.map vI)), (1, AI v1), (7, AI (v0.length : Int)), (8, AI s)] (fo []) 1) hF ?_
 rintro k0 v5 hF
 rw [F_slices_Index_Sint64_int64_l0] at hF
 try dsimp only
 refine ws 1 65 ?_
 refine qp (AB (decide (v5 < (v0.length : Int)))) rfl ?_
 refine r_nil ?_
 refine w_seq ?_
 refine cF hF (fun hF => ?_) fun hF => ?_
 ·
  refine w_skip ?_
  refine thenQ_n ?_
  refine w_seq ?_
  refine w_block ?_
  refine ws 65 193 ?_
  refine qp (AI v5) rfl (qp (AI v5) rfl ?_)
  refine r_nil ?_
  refine ws 193 577 ?_
  refine qp (AI v1) rfl (qp (AL 1 (v0.map vI)) rfl (qp (AI v5) rfl ?_))
  obtain ⟨v1000, e1000, hF⟩ := bind_get hF
  refine qp (.val none (.ptr [.int .i64 v1000])) (ev_iad_n rfl rfl e1000 rfl) (qp (AI v1000) rfl (qp (AB (decide (v1 = v1000))) rfl ?_))
  refine r_nil ?_
  refine cF hF (fun hF => ?_) fun hF => ?_
  ·
   refine ws 577 705 ?_
   refine qp (AI v5) rfl (qp (AI v5) rfl ?_)
   refine r_nil ?_
   refine w_ret ?_
   refine blockQ_r ?_
   refine thenQ_r ?_
   refine thenQ_r ?_
   refine blockQ_r ?_
   refine thenQ_r ?_
   cases hF
   exact eR
  ·
   refine w_skip ?_
   refine blockQ_n ?_
   refine thenQ_n ?_
   refine w_reg 577 705 rfl rfl ?_
   refine qp (AI (w64 (v5 + 1))) rfl (qp (AI (w64 (v5 + 1))) rfl ?_)
   refine r_nil ?_
   refine thenQ_n ?_
   refine ar (l' := [(0, AL 1 (v0.map vI)), (1, AI v1), (7, AI (v0.length : Int)), (8, AI (w64 (v5 + 1)))]) (L := []) [0, 1, 7, 8] [] 1 ⟨_, by rfl, hF⟩
 ·
  refine w_exit ?_
  refine thenQ_e ?_
  refine thenQ_e ?_
  refine blockQ_e ?_
  refine thenQ_n ?_
  refine ws 65 129 ?_
  refine qp (AI (-1)) rfl ?_
  refine r_nil ?_
  refine w_ret ?_
  cases hF
  exact eR

def c218 : MC := (.seq (.reg [rg 4 (.p true (.mv (.c (.bool false))))]) (.seq (.reg [mvt 5 0, mvt 6 1, rg 7 (.call true 269 [(.t 5), (.t 6)]), rg 8 (.p true (.bin .geq (.t 7) (.c (.int .i64 0)))), mvt 4 8]) .ret))
theorem c218_is : compFn Try.prog 218 = some (c218, [(.tmp 4)]) := by kernel_rfl
theorem c218_ok : okFn Try.prog 218 = true := by kernel_rfl

noncomputable def F_slices_Contains_Sint64_int64 (v0 : List Int) (v1 : Int) : Option (Bool) :=
 ((F_slices_Index_Sint64_int64 v0 v1).bind fun v1000 => some (decide ((0 : Int) ≤ v1000)))
@[simp] def res_slices_Contains_Sint64_int64 (r : Bool) : RV := .one (.one (.val (.bool r)))
theorem con_slices_Contains_Sint64_int64 {v0 : List Int} {v1 : Int} {r : Bool} (hF : F_slices_Contains_Sint64_int64 v0 v1 = some r) : Con Try.prog 218 [.sl 1 (v0.map vI), .int .i64 v1] (res_slices_Contains_Sint64_int64 r) := by
 unfold F_slices_Contains_Sint64_int64 at hF
 refine con_of c218_is fun N => ?_
 refine ws 0 64 ?_
 refine qp (AB false) rfl ?_
 refine r_nil ?_
 refine ws 64 384 ?_
 refine qp (AL 1 (v0.map vI)) rfl (qp (AI v1) rfl ?_)
 obtain ⟨v1000, e1000, hF⟩ := bind_get hF
 refine qc (AI v1000) [] false (con_slices_Index_Sint64_int64 e1000) c269_ok (by first | rfl | simp) rfl ?_
 refine qp (AB (decide ((0 : Int) ≤ v1000))) rfl (qp (AB (decide ((0 : Int) ≤ v1000))) rfl ?_)
 refine r_nil ?_
 refine w_ret ?_
 cases hF
 exact eR

def c155 : MC := (.seq (.reg [rg 2 (.f (.box (.t 0))), rg 4 (.p true (.mv (.c (.bool false))))]) (.seq (.reg [rg 5 (.p true (.fad (.t 2) 1)), rg 6 (.p true (.ld (.t 5) 1 false)), mvt 7 1, rg 8 (.call true 218 [(.t 6), (.t 7)]), mvt 9 8, ⟨(some 10), (some (9, false)), (.p true (.fad (.t 2) 2))⟩, ⟨(some 11), (some (9, false)), (.p true (.ld (.t 10) 1 false))⟩, ⟨(some 12), (some (9, false)), (.p true (.mv (.t 1)))⟩, ⟨(some 13), (some (9, false)), (.call true 218 [(.t 11), (.t 12)])⟩, rg 14 (.p true (.pick (.t 9) (.c (.bool true)) (.t 13))), mvt 4 14]) .ret))
theorem c155_is : compFn Try.prog 155 = some (c155, [(.tmp 4)]) := by kernel_rfl
theorem c155_ok : okFn Try.prog 155 = true := by kernel_rfl

noncomputable def F_impl_Raga_hasTone (v0 : TRaga) (v1 : Int) : Option (Bool) :=
 ((F_slices_Contains_Sint64_int64 v0.2.1 v1).bind fun v1000 => (bif v1000 then some true
 else ((F_slices_Contains_Sint64_int64 v0.2.2.1 v1).bind fun v1001 => some v1001)))
@[simp] def res_impl_Raga_hasTone (r : Bool) : RV := .one (.one (.val (.bool r)))
theorem con_impl_Raga_hasTone {v0 : TRaga} {v1 : Int} {r : Bool} (hF : F_impl_Raga_hasTone v0 v1 = some r) : Con Try.prog 155 [eRaga v0, .int .i64 v1] (res_impl_Raga_hasTone r) := by
 unfold F_impl_Raga_hasTone at hF
 refine con_of c155_is fun N => ?_
 refine ws 0 128 ?_
 refine qf (.ptr 0 0 0) [(0, .box [AS v0.1, AL 1 (v0.2.1.map vI), AL 1 (v0.2.2.1.map vI), AI v0.2.2.2.1, AI v0.2.2.2.2.1, AL 1 (v0.2.2.2.2.2.map (eL 1 vI))])] (by simp) ?_
 refine qp (AB false) rfl ?_
 refine r_nil ?_
 refine ws 128 832 ?_
 refine qp (.ptr 0 0 1) rfl (qp (AL 1 (v0.2.1.map vI)) rfl (qp (AI v1) rfl ?_))
 obtain ⟨v1000, e1000, hF⟩ := bind_get hF
 refine qc (AB v1000) [(0, .box [AS v0.1, AL 1 (v0.2.1.map vI), AL 1 (v0.2.2.1.map vI), AI v0.2.2.2.1, AI v0.2.2.2.2.1, AL 1 (v0.2.2.2.2.2.map (eL 1 vI))])] false (con_slices_Contains_Sint64_int64 e1000) c218_ok (by first | rfl | simp) rfl ?_
 refine qp (AB v1000) rfl ?_
 refine q_case 9 hF rfl (fun hF => ?_) (fun hF => ?_)
 ·
  refine qn rfl (qn rfl (qn rfl (qn rfl (qp (AB true) rfl (qp (AB true) rfl ?_)))))
  refine r_nil ?_
  refine w_ret ?_
  cases hF
  exact eR
 ·
  refine qg (.ptr 0 0 2) rfl rfl (qg (AL 1 (v0.2.2.1.map vI)) rfl rfl (qg (AI v1) rfl rfl ?_))
  obtain ⟨v1001, e1001, hF⟩ := bind_get hF
  refine qcg (AB v1001) [(0, .box [AS v0.1, AL 1 (v0.2.1.map vI), AL 1 (v0.2.2.1.map vI), AI v0.2.2.2.1, AI v0.2.2.2.2.1, AL 1 (v0.2.2.2.2.2.map (eL 1 vI))])] false rfl (con_slices_Contains_Sint64_int64 e1001) c218_ok (by first | rfl | simp) rfl ?_
  refine qp (AB v1001) rfl (qp (AB v1001) rfl ?_)
  refine r_nil ?_
  refine w_ret ?_
  cases hF
  exact eR

def c103 : MC := (.seq (.reg [rg 6 (.p true (.mv (.c (.bool false))))]) (.seq (.reg [mvt 7 0, mvt 8 1, rg 9 (.p true (.bin .geq (.t 7) (.t 8))), mvt 10 9, ⟨(some 11), (some (10, true)), (.p true (.mv (.t 0)))⟩, ⟨(some 12), (some (10, true)), (.p true (.mv (.t 2)))⟩, ⟨(some 13), (some (10, true)), (.p true (.bin .leq (.t 11) (.t 12)))⟩, rg 14 (.p true (.pick (.t 10) (.t 13) (.c (.bool false)))), mvt 6 14]) .ret))
theorem c103_is : compFn Try.prog 103 = some (c103, [(.tmp 6)]) := by kernel_rfl
theorem c103_ok : okFn Try.prog 103 = true := by kernel_rfl

noncomputable def F_impl_within (v0 : Int) (v1 : Int) (v2 : Int) : Option (Bool) :=
 (bif (decide (v1 ≤ v0)) then some (decide (v0 ≤ v2))
 else some false)
@[simp] def res_impl_within (r : Bool) : RV := .one (.one (.val (.bool r)))
theorem con_impl_within {v0 : Int} {v1 : Int} {v2 : Int} {r : Bool} (hF : F_impl_within v0 v1 v2 = some r) : Con Try.prog 103 [.int .i64 v0, .int .i64 v1, .int .i64 v2] (res_impl_within r) := by
 unfold F_impl_within at hF
 refine con_of c103_is fun N => ?_
 refine ws 0 64 ?_
 refine qp (AB false) rfl ?_
 refine r_nil ?_
 refine ws 64 640 ?_
 refine qp (AI v0) rfl (qp (AI v1) rfl (qp (AB (decide (v1 ≤ v0))) rfl (qp (AB (decide (v1 ≤ v0))) rfl ?_)))
 refine q_case 10 hF rfl (fun hF => ?_) (fun hF => ?_)
 ·
  refine qg (AI v0) rfl rfl (qg (AI v2) rfl rfl (qg (AB (decide (v0 ≤ v2))) rfl rfl (qp (AB (decide (v0 ≤ v2))) rfl (qp (AB (decide (v0 ≤ v2))) rfl ?_))))
  refine r_nil ?_
  refine w_ret ?_
  cases hF
  exact eR
 ·
  refine qn rfl (qn rfl (qn rfl (qp (AB false) rfl (qp (AB false) rfl ?_))))
  refine r_nil ?_
  refine w_ret ?_
  cases hF
  exact eR

def c234 : MC := (.seq (.reg [rg 2 (.p true (.mv (.c (.bool false))))]) (.seq (.reg [mvt 3 0, rg 4 (.call true 103 [(.t 3), (.c (.int .i64 0)), (.c (.int .i64 11))]), mvt 2 4]) .ret))
theorem c234_is : compFn Try.prog 234 = some (c234, [(.tmp 2)]) := by kernel_rfl
theorem c234_ok : okFn Try.prog 234 = true := by kernel_rfl

noncomputable def F_impl_toneOk (v0 : Int) : Option (Bool) :=
 ((F_impl_within v0 0 11).bind fun v1000 => some v1000)
@[simp] def res_impl_toneOk (r : Bool) : RV := .one (.one (.val (.bool r)))
theorem con_impl_toneOk {v0 : Int} {r : Bool} (hF : F_impl_toneOk v0 = some r) : Con Try.prog 234 [.int .i64 v0] (res_impl_toneOk r) := by
 unfold F_impl_toneOk at hF
 refine con_of c234_is fun N => ?_
 refine ws 0 64 ?_
 refine qp (AB false) rfl ?_
 refine r_nil ?_
 refine ws 64 256 ?_
 refine qp (AI v0) rfl ?_
 obtain ⟨v1000, e1000, hF⟩ := bind_get hF
 refine qc (AB v1000) [] false (con_impl_within e1000) c103_ok (by first | rfl | simp) rfl ?_
 refine qp (AB v1000) rfl ?_
 refine r_nil ?_
 refine w_ret ?_
 cases hF
 exact eR

def c200 : MC := (.seq (.reg [rg 2 (.p true (.mv (.c (.bool false))))]) (.seq (.reg [mvt 3 0, mvt 4 0, rg 5 (.p true (.bin .neq (.t 3) (.t 4))), mvt 2 5]) .ret))
theorem c200_is : compFn Try.prog 200 = some (c200, [(.tmp 2)]) := by kernel_rfl
theorem c200_ok : okFn Try.prog 200 = true := by kernel_rfl

noncomputable def F_cmp_isNaN_int64 (v0 : Int) : Option (Bool) :=
 some (decide (v0 ≠ v0))
@[simp] def res_cmp_isNaN_int64 (r : Bool) : RV := .one (.one (.val (.bool r)))
theorem con_cmp_isNaN_int64 {v0 : Int} {r : Bool} (hF : F_cmp_isNaN_int64 v0 = some r) : Con Try.prog 200 [.int .i64 v0] (res_cmp_isNaN_int64 r) := by
 unfold F_cmp_isNaN_int64 at hF
 refine con_of c200_is fun N => ?_
 refine ws 0 64 ?_
 refine qp (AB false) rfl ?_
 refine r_nil ?_
 refine ws 64 320 ?_
 refine qp (AI v0) rfl (qp (AI v0) rfl (qp (AB (decide (v0 ≠ v0))) rfl (qp (AB (decide (v0 ≠ v0))) rfl ?_)))
 refine r_nil ?_
 refine w_ret ?_
 cases hF
 exact eR

def c120 : MC := (.seq (.reg [rg 4 (.p true (.mv (.c (.int .i64 0))))]) (.seq (.reg [mvt 7 0, rg 8 (.call true 200 [(.t 7)]), mvt 5 8]) (.seq (.reg [mvt 9 1, rg 10 (.call true 200 [(.t 9)]), mvt 6 10]) (.seq (.seq (.reg [mvt 11 5]) (.cond (.t 11) (.seq (.seq (.reg [mvt 12 6]) (.cond (.t 12) (.seq (.reg [rg 4 (.p true (.mv (.c (.int .i64 0))))]) .ret) .skip)) (.seq (.reg [rg 4 (.p true (.mv (.c (.int .i64 (-1)))))]) .ret)) .skip)) (.seq (.seq (.reg [mvt 13 6]) (.cond (.t 13) (.seq (.reg [rg 4 (.p true (.mv (.c (.int .i64 1))))]) .ret) .skip)) (.seq (.seq (.reg [mvt 14 0, mvt 15 1, rg 16 (.p true (.bin .lss (.t 14) (.t 15)))]) (.cond (.t 16) (.seq (.reg [rg 4 (.p true (.mv (.c (.int .i64 (-1)))))]) .ret) .skip)) (.seq (.seq (.reg [mvt 17 0, mvt 18 1, rg 19 (.p true (.bin .gtr (.t 17) (.t 18)))]) (.cond (.t 19) (.seq (.reg [rg 4 (.p true (.mv (.c (.int .i64 1))))]) .ret) .skip)) (.seq (.reg [rg 4 (.p true (.mv (.c (.int .i64 0))))]) .ret))))))))
theorem c120_is : compFn Try.prog 120 = some (c120, [(.tmp 4)]) := by kernel_rfl
theorem c120_ok : okFn Try.prog 120 = true := by kernel_rfl

noncomputable def F_cmp_Compare_int64 (v0 : Int) (v1 : Int) : Option (Int) :=
 ((F_cmp_isNaN_int64 v0).bind fun v1000 => ((F_cmp_isNaN_int64 v1).bind fun v1001 => (bif v1000 then (bif v1001 then some 0
 else some (-1))
 else (bif v1001 then some 1
 else (bif (decide (v0 < v1)) then some (-1)
 else (bif (decide (v1 < v0)) then some 1
 else some 0))))))
@[simp] def res_cmp_Compare_int64 (r : Int) : RV := .one (.one (.val (.int .i64 r)))
theorem con_cmp_Compare_int64 {v0 : Int} {v1 : Int} {r : Int} (hF : F_cmp_Compare_int64 v0 v1 = some r) : Con Try.prog 120 [.int .i64 v0, .int .i64 v1] (res_cmp_Compare_int64 r) := by
 unfold F_cmp_Compare_int64 at hF
 refine con_of c120_is fun N => ?_
 refine ws 0 64 ?_
 refine qp (AI 0) rfl ?_
 refine r_nil ?_
 refine ws 64 256 ?_
 refine qp (AI v0) rfl ?_
 obtain ⟨v1000, e1000, hF⟩ := bind_get hF
 refine qc (AB v1000) [] false (con_cmp_isNaN_int64 e1000) c200_ok (by first | rfl | simp) rfl ?_
 refine qp (AB v1000) rfl ?_
 refine r_nil ?_
 refine ws 256 448 ?_
 refine qp (AI v1) rfl ?_
 obtain ⟨v1001, e1001, hF⟩ := bind_get hF
 refine qc (AB v1001) [] false (con_cmp_isNaN_int64 e1001) c200_ok (by first | rfl | simp) rfl ?_
 refine qp (AB v1001) rfl ?_
 refine r_nil ?_
 refine w_seq ?_
 refine ws 448 512 ?_
 refine qp (AB v1000) rfl ?_
 refine r_nil ?_
 refine cF hF (fun hF => ?_) fun hF => ?_
 ·
  refine w_seq ?_
  refine ws 512 576 ?_
  refine qp (AB v1001) rfl ?_
  refine r_nil ?_
  refine cF hF (fun hF => ?_) fun hF => ?_
  ·
   refine ws 576 640 ?_
   refine qp (AI 0) rfl ?_
   refine r_nil ?_
   refine w_ret ?_
   refine thenQ_r ?_
   refine thenQ_r ?_
   cases hF
   exact eR
  ·
   refine w_skip ?_
   refine thenQ_n ?_
   refine ws 576 640 ?_
   refine qp (AI (-1)) rfl ?_
   refine r_nil ?_
   refine w_ret ?_
   refine thenQ_r ?_
   cases hF
   exact eR
 ·
  refine w_skip ?_
  refine thenQ_n ?_
  refine w_seq ?_
  refine ws 512 576 ?_
  refine qp (AB v1001) rfl ?_
  refine r_nil ?_
  refine cF hF (fun hF => ?_) fun hF => ?_
  ·
   refine ws 576 640 ?_
   refine qp (AI 1) rfl ?_
   refine r_nil ?_
   refine w_ret ?_
   refine thenQ_r ?_
   cases hF
   exact eR
  ·
   refine w_skip ?_
   refine thenQ_n ?_
   refine w_seq ?_
   refine ws 576 768 ?_
   refine qp (AI v0) rfl (qp (AI v1) rfl (qp (AB (decide (v0 < v1))) rfl ?_))
   refine r_nil ?_
   refine cF hF (fun hF => ?_) fun hF => ?_
   ·
    refine ws 768 832 ?_
    refine qp (AI (-1)) rfl ?_
    refine r_nil ?_
    refine w_ret ?_
    refine thenQ_r ?_
    cases hF
    exact eR
   ·
    refine w_skip ?_
    refine thenQ_n ?_
    refine w_seq ?_
    refine ws 768 960 ?_
    refine qp (AI v0) rfl (qp (AI v1) rfl (qp (AB (decide (v1 < v0))) rfl ?_))
    refine r_nil ?_
    refine cF hF (fun hF => ?_) fun hF => ?_
    ·
     refine ws 960 1024 ?_
     refine qp (AI 1) rfl ?_
     refine r_nil ?_
     refine w_ret ?_
     refine thenQ_r ?_
     cases hF
     exact eR
    ·
     refine w_skip ?_
     refine thenQ_n ?_
     refine ws 960 1024 ?_
     refine qp (AI 0) rfl ?_
     refine r_nil ?_
     refine w_ret ?_
     cases hF
     exact eR

def c235 : MC := (.seq (.reg [rg 4 (.p true (.mv (.c (.int .i64 0))))]) (.seq (.seq (.reg [mvt 9 0, rg 10 (.p true (.len (.t 9))), rg 11 (.p true (.mv (.c (.int .i64 0))))]) (.block 0 (.loop (.seq (.reg [rg 12 (.p true (.bin .lss (.t 11) (.t 10)))]) (.seq (.cond (.t 12) .skip (.exit 0)) (.seq (.block 1 (.seq (.reg [mvt 13 11, rg 14 (.p true (.iad (.t 9) (.t 11) 1)), rg 15 (.p true (.ld (.t 14) 1 false)), mvt 5 13, mvt 6 15]) (.seq (.seq (.reg [mvt 16 5, mvt 17 1, rg 18 (.p true (.len (.t 17))), rg 19 (.p true (.bin .geq (.t 16) (.t 18)))]) (.cond (.t 19) (.seq (.reg [rg 4 (.p true (.mv (.c (.int .i64 1))))]) .ret) .skip)) (.seq (.reg [mvt 20 1, mvt 21 5, rg 22 (.p true (.iad (.t 20) (.t 21) 1)), rg 23 (.p true (.ld (.t 22) 1 false)), mvt 7 23]) (.seq (.reg [mvt 24 6, mvt 25 7, rg 26 (.call true 120 [(.t 24), (.t 25)]), mvt 8 26]) (.seq (.reg [mvt 27 8, rg 28 (.p true (.bin .neq (.t 27) (.c (.int .i64 0))))]) (.cond (.t 28) (.seq (.reg [mvt 29 8, mvt 4 29]) .ret) .skip))))))) (.reg [rg 30 (.p true (.bin .add (.t 11) (.c (.int .i64 1)))), mvt 11 30]))))))) (.seq (.seq (.reg [mvt 31 0, rg 32 (.p true (.len (.t 31))), mvt 33 1, rg 34 (.p true (.len (.t 33))), rg 35 (.p true (.bin .lss (.t 32) (.t 34)))]) (.cond (.t 35) (.seq (.reg [rg 4 (.p true (.mv (.c (.int .i64 (-1)))))]) .ret) .skip)) (.seq (.reg [rg 4 (.p true (.mv (.c (.int .i64 0))))]) .ret))))
theorem c235_is : compFn Try.prog 235 = some (c235, [(.tmp 4)]) := by kernel_rfl
theorem c235_ok : okFn Try.prog 235 = true := by kernel_rfl

noncomputable def F_slices_Compare_Sint64_int64_l0 (v0 : List Int) (v1 : List Int) (k0 : Int → Option (Int)) : Int → Option (Int)
 | v9 => (bif (decide (v9 < (v0.length : Int))) then ((ix v0 v9).bind fun v1000 => (bif (decide ((v1.length : Int) ≤ v9)) then some 1
 else ((ix v1 v9).bind fun v1001 => ((F_cmp_Compare_int64 v1000 v1001).bind fun v1002 => (bif (decide (v1002 ≠ (0 : Int))) then some v1002
 else k0 (w64 (v9 + 1)))))))
 else (bif (decide ((v0.length : Int) < (v1.length : Int))) then some (-1)
 else some 0))
noncomputable def F_slices_Compare_Sint64_int64 (v0 : List Int) (v1 : List Int) : Option (Int) :=
 loop (F_slices_Compare_Sint64_int64_l0 v0 v1) 0
@[simp] def res_slices_Compare_Sint64_int64 (r : Int) : RV := .one (.one (.val (.int .i64 r)))
theorem con_slices_Compare_Sint64_int64 {v0 : List Int} {v1 : List Int} {r : Int} (hF : F_slices_Compare_Sint64_int64 v0 v1 = some r) : Con Try.prog 235 [.sl 1 (v0.map vI), .sl 1 (v1.map vI)] (res_slices_Compare_Sint64_int64 r) := by
 unfold F_slices_Compare_Sint64_int64 at hF
 refine con_of c235_is fun N => ?_
 refine ws 0 64 ?_
 refine qp (AI 0) rfl ?_
 refine r_nil ?_
 refine w_seq ?_
 refine ws 64 256 ?_
 refine qp (AL 1 (v0.map vI)) rfl (qp (AI (v0.length : Int)) (ev_len_n rfl) (qp (AI 0) rfl ?_))
 refine r_nil ?_
 refine w_block ?_
 refine wr (l' := [(0, AL 1 (v0.map vI)), (1, AL 1 (v1.map vI)), (9, AL 1 (v0.map vI)), (10, AI (v0.length : Int)), (11, AI 0)]) (L := []) [0, 1, 9, 10, 11] [] 1 ?_
 refine w_loopF (F_slices_Compare_Sint64_int64_l0 v0 v1) (fun s : Int => mkS [(0, AL 1 (v0.map vI)), (1, AL 1 (v1.map vI)), (9, AL 1 (v0.map vI)), (10, AI (v0.length : Int)), (11, AI s)] (fo []) 1) hF ?_
 rintro k0 v9 hF
 rw [F_slices_Compare_Sint64_int64_l0] at hF
 try dsimp only
 refine ws 1 65 ?_
 refine qp (AB (decide (v9 < (v0.length : Int)))) rfl ?_
 refine r_nil ?_
 refine w_seq ?_
 refine cF hF (fun hF => ?_) fun hF => ?_
 ·
  refine w_skip ?_
  refine thenQ_n ?_
  refine w_seq ?_
  refine w_block ?_
  refine ws 65 385 ?_
  refine qp (AI v9) rfl ?_
  obtain ⟨v1000, e1000, hF⟩ := bind_get hF
  refine qp (.val none (.ptr [.int .i64 v1000])) (ev_iad_n rfl rfl e1000 rfl) (qp (AI v1000) rfl (qp (AI v9) rfl (qp (AI v1000) rfl ?_)))
  refine r_nil ?_
  refine w_seq ?_
  refine ws 385 641 ?_
  refine qp (AI v9) rfl (qp (AL 1 (v1.map vI)) rfl (qp (AI (v1.length : Int)) (ev_len_n rfl) (qp (AB (decide ((v1.length : Int) ≤ v9))) rfl ?_)))
  refine r_nil ?_
  refine cF hF (fun hF => ?_) fun hF => ?_
  ·
   refine ws 641 705 ?_
   refine qp (AI 1) rfl ?_
   refine r_nil ?_
   refine w_ret ?_
   refine thenQ_r ?_
   refine blockQ_r ?_
   refine thenQ_r ?_
   refine thenQ_r ?_
   refine blockQ_r ?_
   refine thenQ_r ?_
   cases hF
   exact eR
  ·
   refine w_skip ?_
   refine thenQ_n ?_
   refine ws 641 961 ?_
   refine qp (AL 1 (v1.map vI)) rfl (qp (AI v9) rfl ?_)
   obtain ⟨v1001, e1001, hF⟩ := bind_get hF
   refine qp (.val none (.ptr [.int .i64 v1001])) (ev_iad_n rfl rfl e1001 rfl) (qp (AI v1001) rfl (qp (AI v1001) rfl ?_))
   refine r_nil ?_
   refine ws 961 1217 ?_
   refine qp (AI v1000) rfl (qp (AI v1001) rfl ?_)
   obtain ⟨v1002, e1002, hF⟩ := bind_get hF
   refine qc (AI v1002) [] false (con_cmp_Compare_int64 e1002) c120_ok (by first | rfl | simp) rfl ?_
   refine qp (AI v1002) rfl ?_
   refine r_nil ?_
   refine ws 1217 1345 ?_
   refine qp (AI v1002) rfl (qp (AB (decide (v1002 ≠ (0 : Int)))) rfl ?_)
   refine r_nil ?_
   refine cF hF (fun hF => ?_) fun hF => ?_
   ·
    refine ws 1345 1473 ?_
    refine qp (AI v1002) rfl (qp (AI v1002) rfl ?_)
    refine r_nil ?_
    refine w_ret ?_
    refine blockQ_r ?_
    refine thenQ_r ?_
    refine thenQ_r ?_
    refine blockQ_r ?_
    refine thenQ_r ?_
    cases hF
    exact eR
   ·
    refine w_skip ?_
    refine blockQ_n ?_
    refine thenQ_n ?_
    refine w_reg 1345 1473 rfl rfl ?_
    refine qp (AI (w64 (v9 + 1))) rfl (qp (AI (w64 (v9 + 1))) rfl ?_)
    refine r_nil ?_
    refine thenQ_n ?_
    refine ar (l' := [(0, AL 1 (v0.map vI)), (1, AL 1 (v1.map vI)), (9, AL 1 (v0.map vI)), (10, AI (v0.length : Int)), (11, AI (w64 (v9 + 1)))]) (L := []) [0, 1, 9, 10, 11] [] 1 ⟨_, by rfl, hF⟩
 ·
  refine w_exit ?_
  refine thenQ_e ?_
  refine thenQ_e ?_
  refine blockQ_e ?_
  refine thenQ_n ?_
  refine w_seq ?_
  refine ws 65 385 ?_
  refine qp (AL 1 (v0.map vI)) rfl (qp (AI (v0.length : Int)) (ev_len_n rfl) (qp (AL 1 (v1.map vI)) rfl (qp (AI (v1.length : Int)) (ev_len_n rfl) (qp (AB (decide ((v0.length : Int) < (v1.length : Int)))) rfl ?_))))
  refine r_nil ?_
  refine cF hF (fun hF => ?_) fun hF => ?_
  ·
   refine ws 385 449 ?_
   refine qp (AI (-1)) rfl ?_
   refine r_nil ?_
   refine w_ret ?_
   refine thenQ_r ?_
   cases hF
   exact eR
  ·
   refine w_skip ?_
   refine thenQ_n ?_
   refine ws 385 449 ?_
   refine qp (AI 0) rfl ?_
   refine r_nil ?_
   refine w_ret ?_
   cases hF
   exact eR

def c153 : MC := (.seq (.reg [rg 1 (.f (.box (.t 0))), rg 2 (.p true (.mv (.c (.bool false))))]) (.seq (.seq (.reg [rg 5 (.p true (.fad (.t 1) 0)), rg 6 (.p true (.ld (.t 5) 1 false)), rg 7 (.call true 189 [(.t 6)]), rg 8 (.p true (.not (.t 7))), mvt 9 8, ⟨(some 10), (some (9, false)), (.p true (.fad (.t 1) 1))⟩, ⟨(some 11), (some (9, false)), (.p true (.ld (.t 10) 1 false))⟩, ⟨(some 12), (some (9, false)), (.call true 233 [(.t 11)])⟩, ⟨(some 13), (some (9, false)), (.p true (.not (.t 12)))⟩, rg 14 (.p true (.pick (.t 9) (.c (.bool true)) (.t 13))), mvt 15 14, ⟨(some 16), (some (15, false)), (.p true (.fad (.t 1) 2))⟩, ⟨(some 17), (some (15, false)), (.p true (.ld (.t 16) 1 false))⟩, ⟨(some 18), (some (15, false)), (.call true 233 [(.t 17)])⟩, ⟨(some 19), (some (15, false)), (.p true (.not (.t 18)))⟩, rg 20 (.p true (.pick (.t 15) (.c (.bool true)) (.t 19))), mvt 21 20, ⟨(some 22), (some (21, false)), (.p true (.fad (.t 1) 3))⟩, ⟨(some 23), (some (21, false)), (.p true (.ld (.t 22) 1 false))⟩, ⟨(some 24), (some (21, false)), (.p true (.fad (.t 1) 4))⟩, ⟨(some 25), (some (21, false)), (.p true (.ld (.t 24) 1 false))⟩, ⟨(some 26), (some (21, false)), (.p true (.bin .eql (.t 23) (.t 25)))⟩, rg 27 (.p true (.pick (.t 21) (.c (.bool true)) (.t 26))), mvt 28 27, ⟨(some 29), (some (28, false)), (.p true (.ld (.t 1) 6 true))⟩, ⟨(some 30), (some (28, false)), (.p true (.fad (.t 1) 3))⟩, ⟨(some 31), (some (28, false)), (.p true (.ld (.t 30) 1 false))⟩, ⟨(some 32), (some (28, false)), (.call true 155 [(.t 29), (.t 31)])⟩, ⟨(some 33), (some (28, false)), (.p true (.not (.t 32)))⟩, rg 34 (.p true (.pick (.t 28) (.c (.bool true)) (.t 33))), mvt 35 34, ⟨(some 36), (some (35, false)), (.p true (.ld (.t 1) 6 true))⟩, ⟨(some 37), (some (35, false)), (.p true (.fad (.t 1) 4))⟩, ⟨(some 38), (some (35, false)), (.p true (.ld (.t 37) 1 false))⟩, ⟨(some 39), (some (35, false)), (.call true 155 [(.t 36), (.t 38)])⟩, ⟨(some 40), (some (35, false)), (.p true (.not (.t 39)))⟩, rg 41 (.p true (.pick (.t 35) (.c (.bool true)) (.t 40))), mvt 42 41, ⟨(some 43), (some (42, false)), (.p true (.fad (.t 1) 5))⟩, ⟨(some 44), (some (42, false)), (.p true (.ld (.t 43) 1 false))⟩, ⟨(some 45), (some (42, false)), (.p true (.len (.t 44)))⟩, ⟨(some 46), (some (42, false)), (.p true (.bin .gtr (.t 45) (.c (.int .i64 8))))⟩, rg 47 (.p true (.pick (.t 42) (.c (.bool true)) (.t 46)))]) (.cond (.t 47) (.seq (.reg [rg 2 (.p true (.mv (.c (.bool false))))]) .ret) .skip)) (.seq (.seq (.reg [rg 48 (.p true (.fad (.t 1) 5)), rg 49 (.p true (.ld (.t 48) 1 false)), rg 50 (.p true (.len (.t 49))), rg 51 (.p true (.mv (.c (.int .i64 0))))]) (.block 0 (.loop (.seq (.reg [rg 52 (.p true (.bin .lss (.t 51) (.t 50)))]) (.seq (.cond (.t 52) .skip (.exit 0)) (.seq (.block 1 (.seq (.reg [mvt 53 51, rg 54 (.p true (.iad (.t 49) (.t 51) 1)), rg 55 (.p true (.ld (.t 54) 1 false)), mvt 3 53, mvt 4 55]) (.seq (.reg [rg 56 (.p false (.mv (.t 4))), rg 57 (.p false (.len (.t 56))), rg 58 (.p false (.bin .neq (.t 57) (.c (.int .i64 2)))), rg 59 (.p false (.mv (.t 58))), ⟨(some 60), (some (59, false)), (.p false (.mv (.t 4)))⟩, ⟨(some 61), (some (59, false)), (.p false (.iad (.t 60) (.c (.int .i64 0)) 1))⟩, ⟨(some 62), (some (59, false)), (.p false (.ld (.t 61) 1 false))⟩, ⟨(some 63), (some (59, false)), (.call false 234 [(.t 62)])⟩, ⟨(some 64), (some (59, false)), (.p false (.not (.t 63)))⟩, rg 65 (.p false (.pick (.t 59) (.c (.bool true)) (.t 64))), rg 66 (.p false (.mv (.t 65))), ⟨(some 67), (some (66, false)), (.p false (.mv (.t 4)))⟩, ⟨(some 68), (some (66, false)), (.p false (.iad (.t 67) (.c (.int .i64 1)) 1))⟩, ⟨(some 69), (some (66, false)), (.p false (.ld (.t 68) 1 false))⟩, ⟨(some 70), (some (66, false)), (.call false 234 [(.t 69)])⟩, ⟨(some 71), (some (66, false)), (.p false (.not (.t 70)))⟩, rg 72 (.p false (.pick (.t 66) (.c (.bool true)) (.t 71))), rg 73 (.p false (.mv (.t 72))), ⟨(some 74), (some (73, false)), (.p false (.mv (.t 4)))⟩, ⟨(some 75), (some (73, false)), (.p false (.iad (.t 74) (.c (.int .i64 0)) 1))⟩, ⟨(some 76), (some (73, false)), (.p false (.ld (.t 75) 1 false))⟩, ⟨(some 77), (some (73, false)), (.p false (.mv (.t 4)))⟩, ⟨(some 78), (some (73, false)), (.p false (.iad (.t 77) (.c (.int .i64 1)) 1))⟩, ⟨(some 79), (some (73, false)), (.p false (.ld (.t 78) 1 false))⟩, ⟨(some 80), (some (73, false)), (.p false (.bin .eql (.t 76) (.t 79)))⟩, rg 81 (.p false (.pick (.t 73) (.c (.bool true)) (.t 80))), rg 82 (.p false (.mv (.t 81))), ⟨(some 83), (some (82, false)), (.p false (.mv (.t 3)))⟩, ⟨(some 84), (some (82, false)), (.p false (.bin .gtr (.t 83) (.c (.int .i64 0))))⟩, ⟨(some 85), (some (82, false)), (.p false (.mv (.t 84)))⟩, ⟨(some 86), (some (85, true)), (.p false (.fad (.t 1) 5))⟩, ⟨(some 87), (some (85, true)), (.p false (.ld (.t 86) 1 false))⟩, ⟨(some 88), (some (85, true)), (.p false (.mv (.t 3)))⟩, ⟨(some 89), (some (85, true)), (.p false (.bin .sub (.t 88) (.c (.int .i64 1))))⟩, ⟨(some 90), (some (85, true)), (.p false (.iad (.t 87) (.t 89) 1))⟩, ⟨(some 91), (some (85, true)), (.p false (.ld (.t 90) 1 false))⟩, ⟨(some 92), (some (85, true)), (.p false (.mv (.t 4)))⟩, ⟨(some 93), (some (85, true)), (.call false 235 [(.t 91), (.t 92)])⟩, ⟨(some 94), (some (85, true)), (.p false (.bin .geq (.t 93) (.c (.int .i64 0))))⟩, ⟨(some 95), (some (82, false)), (.p false (.pick (.t 85) (.t 94) (.c (.bool false))))⟩, rg 96 (.p false (.pick (.t 82) (.c (.bool true)) (.t 95)))]) (.cond (.t 96) (.seq (.reg [rg 2 (.p true (.mv (.c (.bool false))))]) .ret) .skip)))) (.reg [rg 97 (.p true (.bin .add (.t 51) (.c (.int .i64 1)))), mvt 51 97]))))))) (.seq (.reg [rg 2 (.p true (.mv (.c (.bool true))))]) .ret))))
theorem c153_is : compFn Try.prog 153 = some (c153, [(.tmp 2)]) := by kernel_rfl
theorem c153_ok : okFn Try.prog 153 = true := by kernel_rfl

noncomputable def F_impl_ValidRaga_l0 (v0 : TRaga) (k1 : Int → Option (Bool)) : Int → Option (Bool)
 | v1024 => (bif (decide (v1024 < (v0.2.2.2.2.2.length : Int))) then ((ix v0.2.2.2.2.2 v1024).bind fun v1025 => (bif (decide ((v1025.length : Int) ≠ (2 : Int))) then some false
 else ((ix v1025 0).bind fun v1026 => ((F_impl_toneOk v1026).bind fun v1027 => (bif (!v1027) then some false
 else ((ix v1025 1).bind fun v1028 => ((F_impl_toneOk v1028).bind fun v1029 => (bif (!v1029) then some false
 else ((ix v1025 0).bind fun v1030 => ((ix v1025 1).bind fun v1031 => (bif (decide (v1030 = v1031)) then some false
 else (bif (decide ((0 : Int) < v1024)) then ((ix v0.2.2.2.2.2 (w64 (v1024 - 1))).bind fun v1032 => ((F_slices_Compare_Sint64_int64 v1032 v1025).bind fun v1033 => (bif (decide ((0 : Int) ≤ v1033)) then some false
 else k1 (w64 (v1024 + 1)))))
 else k1 (w64 (v1024 + 1))))))))))))))
 else some true)
noncomputable def F_impl_ValidRaga (v0 : TRaga) : Option (Bool) :=
 ((F_impl_IsName v0.1).bind fun v1000 => (bif (!v1000) then some false
 else ((F_impl_ValidScale v0.2.1).bind fun v1001 => (bif (!v1001) then some false
 else ((F_impl_ValidScale v0.2.2.1).bind fun v1002 => (bif (!v1002) then some false
 else (bif (decide (v0.2.2.2.1 = v0.2.2.2.2.1)) then some false
 else ((F_impl_Raga_hasTone v0 v0.2.2.2.1).bind fun v1003 => (bif (!v1003) then some false
 else ((F_impl_Raga_hasTone v0 v0.2.2.2.2.1).bind fun v1004 => (bif (!v1004) then some false
 else (bif (decide ((8 : Int) < (v0.2.2.2.2.2.length : Int))) then some false
 else loop (F_impl_ValidRaga_l0 v0) 0))))))))))))
@[simp] def res_impl_ValidRaga (r : Bool) : RV := .one (.one (.val (.bool r)))
theorem con_impl_ValidRaga {v0 : TRaga} {r : Bool} (hF : F_impl_ValidRaga v0 = some r) : Con Try.prog 153 [eRaga v0] (res_impl_ValidRaga r) := by
 unfold F_impl_ValidRaga at hF
 refine con_of c153_is fun N => ?_
 refine ws 0 128 ?_
 refine qf (.ptr 0 0 0) [(0, .box [AS v0.1, AL 1 (v0.2.1.map vI), AL 1 (v0.2.2.1.map vI), AI v0.2.2.2.1, AI v0.2.2.2.2.1, AL 1 (v0.2.2.2.2.2.map (eL 1 vI))])] (by simp) ?_
 refine qp (AB false) rfl ?_
 refine r_nil ?_
 refine w_seq ?_
 refine ws 128 2880 ?_
 refine qp (.ptr 0 0 0) rfl (qp (AS v0.1) rfl ?_)
 obtain ⟨v1000, e1000, hF⟩ := bind_get hF
 refine qc (AB v1000) [(0, .box [AS v0.1, AL 1 (v0.2.1.map vI), AL 1 (v0.2.2.1.map vI), AI v0.2.2.2.1, AI v0.2.2.2.2.1, AL 1 (v0.2.2.2.2.2.map (eL 1 vI))])] false (con_impl_IsName e1000) c189_ok (by first | rfl | simp) rfl ?_
 refine qp (AB (!v1000)) rfl (qp (AB (!v1000)) rfl ?_)
 refine q_case 9 hF rfl (fun hF => ?_) (fun hF => ?_)
 ·
  refine qn rfl (qn rfl (qn rfl (qn rfl (qp (AB true) rfl (qp (AB true) rfl (qn rfl (qn rfl ?_)))))))
  refine qn rfl (qn rfl (qp (AB true) rfl (qp (AB true) rfl (qn rfl (qn rfl (qn rfl (qn rfl ?_)))))))
  refine qn rfl (qp (AB true) rfl (qp (AB true) rfl (qn rfl (qn rfl (qn rfl (qn rfl (qn rfl ?_)))))))
  refine qp (AB true) rfl (qp (AB true) rfl (qn rfl (qn rfl (qn rfl (qn rfl (qn rfl (qp (AB true) rfl ?_)))))))
  refine qp (AB true) rfl (qn rfl (qn rfl (qn rfl (qn rfl (qp (AB true) rfl ?_)))))
  refine r_nil ?_
  refine w_true rfl ?_
  refine ws 2880 2944 ?_
  refine qp (AB false) rfl ?_
  refine r_nil ?_
  refine w_ret ?_
  refine thenQ_r ?_
  cases hF
  exact eR
 ·
  refine qg (.ptr 0 0 1) rfl rfl (qg (AL 1 (v0.2.1.map vI)) rfl rfl ?_)
  obtain ⟨v1001, e1001, hF⟩ := bind_get hF
  refine qcg (AB v1001) [(0, .box [AS v0.1, AL 1 (v0.2.1.map vI), AL 1 (v0.2.2.1.map vI), AI v0.2.2.2.1, AI v0.2.2.2.2.1, AL 1 (v0.2.2.2.2.2.map (eL 1 vI))])] false rfl (con_impl_ValidScale e1001) c233_ok (by first | rfl | simp) rfl ?_
  refine qg (AB (!v1001)) rfl rfl (qp (AB (!v1001)) rfl (qp (AB (!v1001)) rfl ?_))
  refine q_case 15 hF rfl (fun hF => ?_) (fun hF => ?_)
  ·
   refine qn rfl (qn rfl (qn rfl (qn rfl (qp (AB true) rfl (qp (AB true) rfl (qn rfl (qn rfl ?_)))))))
   refine qn rfl (qn rfl (qn rfl (qp (AB true) rfl (qp (AB true) rfl (qn rfl (qn rfl (qn rfl ?_)))))))
   refine qn rfl (qn rfl (qp (AB true) rfl (qp (AB true) rfl (qn rfl (qn rfl (qn rfl (qn rfl ?_)))))))
   refine qn rfl (qp (AB true) rfl (qp (AB true) rfl (qn rfl (qn rfl (qn rfl (qn rfl (qp (AB true) rfl ?_)))))))
   refine r_nil ?_
   refine w_true rfl ?_
   refine ws 2880 2944 ?_
   refine qp (AB false) rfl ?_
   refine r_nil ?_
   refine w_ret ?_
   refine thenQ_r ?_
   cases hF
   exact eR
  ·
   refine qg (.ptr 0 0 2) rfl rfl (qg (AL 1 (v0.2.2.1.map vI)) rfl rfl ?_)
   obtain ⟨v1002, e1002, hF⟩ := bind_get hF
   refine qcg (AB v1002) [(0, .box [AS v0.1, AL 1 (v0.2.1.map vI), AL 1 (v0.2.2.1.map vI), AI v0.2.2.2.1, AI v0.2.2.2.2.1, AL 1 (v0.2.2.2.2.2.map (eL 1 vI))])] false rfl (con_impl_ValidScale e1002) c233_ok (by first | rfl | simp) rfl ?_
   refine qg (AB (!v1002)) rfl rfl (qp (AB (!v1002)) rfl (qp (AB (!v1002)) rfl ?_))
   refine q_case 21 hF rfl (fun hF => ?_) (fun hF => ?_)
   ·
    refine qn rfl (qn rfl (qn rfl (qn rfl (qn rfl (qp (AB true) rfl (qp (AB true) rfl (qn rfl ?_)))))))
    refine qn rfl (qn rfl (qn rfl (qn rfl (qp (AB true) rfl (qp (AB true) rfl (qn rfl (qn rfl ?_)))))))
    refine qn rfl (qn rfl (qn rfl (qp (AB true) rfl (qp (AB true) rfl (qn rfl (qn rfl (qn rfl ?_)))))))
    refine qn rfl (qp (AB true) rfl ?_)
    refine r_nil ?_
    refine w_true rfl ?_
    refine ws 2880 2944 ?_
    refine qp (AB false) rfl ?_
    refine r_nil ?_
    refine w_ret ?_
    refine thenQ_r ?_
    cases hF
    exact eR
   ·
    refine qg (.ptr 0 0 3) rfl rfl (qg (AI v0.2.2.2.1) rfl rfl (qg (.ptr 0 0 4) rfl rfl (qg (AI v0.2.2.2.2.1) rfl rfl (qg (AB (decide (v0.2.2.2.1 = v0.2.2.2.2.1))) rfl rfl (qp (AB (decide (v0.2.2.2.1 = v0.2.2.2.2.1))) rfl (qp (AB (decide (v0.2.2.2.1 = v0.2.2.2.2.1))) rfl ?_))))))
    refine q_case 28 hF rfl (fun hF => ?_) (fun hF => ?_)
    ·
     refine qn rfl (qn rfl (qn rfl (qn rfl (qn rfl (qp (AB true) rfl (qp (AB true) rfl (qn rfl ?_)))))))
     refine qn rfl (qn rfl (qn rfl (qn rfl (qp (AB true) rfl (qp (AB true) rfl (qn rfl (qn rfl ?_)))))))
     refine qn rfl (qn rfl (qp (AB true) rfl ?_))
     refine r_nil ?_
     refine w_true rfl ?_
     refine ws 2880 2944 ?_
     refine qp (AB false) rfl ?_
     refine r_nil ?_
     refine w_ret ?_
     refine thenQ_r ?_
     cases hF
     exact eR
    ·
     refine qg (.agg [AS v0.1, AL 1 (v0.2.1.map vI), AL 1 (v0.2.2.1.map vI), AI v0.2.2.2.1, AI v0.2.2.2.2.1, AL 1 (v0.2.2.2.2.2.map (eL 1 vI))]) rfl rfl (qg (.ptr 0 0 3) rfl rfl (qg (AI v0.2.2.2.1) rfl rfl ?_))
     obtain ⟨v1003, e1003, hF⟩ := bind_get hF
     refine qcg (AB v1003) [(0, .box [AS v0.1, AL 1 (v0.2.1.map vI), AL 1 (v0.2.2.1.map vI), AI v0.2.2.2.1, AI v0.2.2.2.2.1, AL 1 (v0.2.2.2.2.2.map (eL 1 vI))])] false rfl (con_impl_Raga_hasTone e1003) c155_ok (by first | rfl | simp) rfl ?_
     refine qg (AB (!v1003)) rfl rfl (qp (AB (!v1003)) rfl (qp (AB (!v1003)) rfl ?_))
     refine q_case 35 hF rfl (fun hF => ?_) (fun hF => ?_)
     ·
      refine qn rfl (qn rfl (qn rfl (qn rfl (qn rfl (qp (AB true) rfl (qp (AB true) rfl (qn rfl ?_)))))))
      refine qn rfl (qn rfl (qn rfl (qp (AB true) rfl ?_)))
      refine r_nil ?_
      refine w_true rfl ?_
      refine ws 2880 2944 ?_
      refine qp (AB false) rfl ?_
      refine r_nil ?_
      refine w_ret ?_
      refine thenQ_r ?_
      cases hF
      exact eR
     ·
      refine qg (.agg [AS v0.1, AL 1 (v0.2.1.map vI), AL 1 (v0.2.2.1.map vI), AI v0.2.2.2.1, AI v0.2.2.2.2.1, AL 1 (v0.2.2.2.2.2.map (eL 1 vI))]) rfl rfl (qg (.ptr 0 0 4) rfl rfl (qg (AI v0.2.2.2.2.1) rfl rfl ?_))
      obtain ⟨v1004, e1004, hF⟩ := bind_get hF
      refine qcg (AB v1004) [(0, .box [AS v0.1, AL 1 (v0.2.1.map vI), AL 1 (v0.2.2.1.map vI), AI v0.2.2.2.1, AI v0.2.2.2.2.1, AL 1 (v0.2.2.2.2.2.map (eL 1 vI))])] false rfl (con_impl_Raga_hasTone e1004) c155_ok (by first | rfl | simp) rfl ?_
      refine qg (AB (!v1004)) rfl rfl (qp (AB (!v1004)) rfl (qp (AB (!v1004)) rfl ?_))
      refine q_case 42 hF rfl (fun hF => ?_) (fun hF => ?_)
      ·
       refine qn rfl (qn rfl (qn rfl (qn rfl (qp (AB true) rfl ?_))))
       refine r_nil ?_
       refine w_true rfl ?_
       refine ws 2880 2944 ?_
       refine qp (AB false) rfl ?_
       refine r_nil ?_
       refine w_ret ?_
       refine thenQ_r ?_
       cases hF
       exact eR
      ·
       refine qg (.ptr 0 0 5) rfl rfl (qg (AL 1 (v0.2.2.2.2.2.map (eL 1 vI))) rfl rfl (qg (AI (v0.2.2.2.2.2.length : Int)) rfl (ev_len_n rfl) (qg (AB (decide ((8 : Int) < (v0.2.2.2.2.2.length : Int)))) rfl rfl (qp (AB (decide ((8 : Int) < (v0.2.2.2.2.2.length : Int)))) rfl ?_))))
       refine r_nil ?_
       refine cF hF (fun hF => ?_) fun hF => ?_
       ·
        refine ws 2880 2944 ?_
        refine qp (AB false) rfl ?_
        refine r_nil ?_
        refine w_ret ?_
        refine thenQ_r ?_
        cases hF
        exact eR
       ·
        refine w_skip ?_
        refine thenQ_n ?_
        refine w_seq ?_
        refine ws 2880 3136 ?_
        refine qp (.ptr 0 0 5) rfl (qp (AL 1 (v0.2.2.2.2.2.map (eL 1 vI))) rfl (qp (AI (v0.2.2.2.2.2.length : Int)) (ev_len_n rfl) (qp (AI 0) rfl ?_)))
        refine r_nil ?_
        refine w_block ?_
        refine wr (l' := [(1, .ptr 0 0 0), (49, AL 1 (v0.2.2.2.2.2.map (eL 1 vI))), (50, AI (v0.2.2.2.2.2.length : Int)), (51, AI 0)]) (L := [(0, .box [AS v0.1, AL 1 (v0.2.1.map vI), AL 1 (v0.2.2.1.map vI), AI v0.2.2.2.1, AI v0.2.2.2.2.1, AL 1 (v0.2.2.2.2.2.map (eL 1 vI))])]) [1, 49, 50, 51] [(0, 0)] 1 ?_
        refine w_loopF (F_impl_ValidRaga_l0 v0) (fun s : Int => mkS [(1, .ptr 0 0 0), (49, AL 1 (v0.2.2.2.2.2.map (eL 1 vI))), (50, AI (v0.2.2.2.2.2.length : Int)), (51, AI s)] (fo [(0, .box [AS v0.1, AL 1 (v0.2.1.map vI), AL 1 (v0.2.2.1.map vI), AI v0.2.2.2.1, AI v0.2.2.2.2.1, AL 1 (v0.2.2.2.2.2.map (eL 1 vI))])]) 1) hF ?_
        rintro k1 v1024 hF
        rw [F_impl_ValidRaga_l0] at hF
        try dsimp only
        refine ws 1 65 ?_
        refine qp (AB (decide (v1024 < (v0.2.2.2.2.2.length : Int)))) rfl ?_
        refine r_nil ?_
        refine w_seq ?_
        refine cF hF (fun hF => ?_) fun hF => ?_
        ·
         refine w_skip ?_
         refine thenQ_n ?_
         refine w_seq ?_
         refine w_block ?_
         refine ws 65 385 ?_
         refine qp (AI v1024) rfl ?_
         obtain ⟨v1025, e1025, hF⟩ := bind_get hF
         refine qp (.val none (.ptr [.sl 1 (v1025.map vI)])) (ev_iad_n rfl rfl e1025 rfl) (qp (AL 1 (v1025.map vI)) rfl (qp (AI v1024) rfl (qp (AL 1 (v1025.map vI)) rfl ?_)))
         refine r_nil ?_
         refine ws 385 3009 ?_
         refine qp (AL 1 (v1025.map vI)) rfl (qp (AI (v1025.length : Int)) (ev_len_n rfl) (qp (AB (decide ((v1025.length : Int) ≠ (2 : Int)))) rfl (qp (AB (decide ((v1025.length : Int) ≠ (2 : Int)))) rfl ?_)))
         refine q_case 59 hF rfl (fun hF => ?_) (fun hF => ?_)
         ·
          refine qn rfl (qn rfl (qn rfl (qn rfl (qn rfl (qp (AB true) rfl (qp (AB true) rfl (qn rfl ?_)))))))
          refine qn rfl (qn rfl (qn rfl (qn rfl (qp (AB true) rfl (qp (AB true) rfl (qn rfl (qn rfl ?_)))))))
          refine qn rfl (qn rfl (qn rfl (qn rfl (qn rfl (qp (AB true) rfl (qp (AB true) rfl (qn rfl ?_)))))))
          refine qn rfl (qn rfl (qu rfl (qu rfl (qu rfl (qu rfl (qu rfl (qu rfl ?_)))))))
          refine qu rfl (qu rfl (qu rfl (qn rfl (qp (AB true) rfl ?_))))
          refine r_nil ?_
          refine w_true rfl ?_
          refine ws 3009 3073 ?_
          refine qp (AB false) rfl ?_
          refine r_nil ?_
          refine w_ret ?_
          refine blockQ_r ?_
          refine thenQ_r ?_
          refine thenQ_r ?_
          refine blockQ_r ?_
          refine thenQ_r ?_
          cases hF
          exact eR
         ·
          refine qg (AL 1 (v1025.map vI)) rfl rfl ?_
          obtain ⟨v1026, e1026, hF⟩ := bind_get hF
          refine qg (.val none (.ptr [.int .i64 v1026])) rfl (ev_iad_n rfl rfl e1026 rfl) (qg (AI v1026) rfl rfl ?_)
          obtain ⟨v1027, e1027, hF⟩ := bind_get hF
          refine qcg (AB v1027) [(0, .box [AS v0.1, AL 1 (v0.2.1.map vI), AL 1 (v0.2.2.1.map vI), AI v0.2.2.2.1, AI v0.2.2.2.2.1, AL 1 (v0.2.2.2.2.2.map (eL 1 vI))])] false rfl (con_impl_toneOk e1027) c234_ok (by first | rfl | simp) rfl ?_
          refine qg (AB (!v1027)) rfl rfl (qp (AB (!v1027)) rfl (qp (AB (!v1027)) rfl ?_))
          refine q_case 66 hF rfl (fun hF => ?_) (fun hF => ?_)
          ·
           refine qn rfl (qn rfl (qn rfl (qn rfl (qn rfl (qp (AB true) rfl (qp (AB true) rfl (qn rfl ?_)))))))
           refine qn rfl (qn rfl (qn rfl (qn rfl (qn rfl (qn rfl (qp (AB true) rfl (qp (AB true) rfl ?_)))))))
           refine qn rfl (qn rfl (qn rfl (qu rfl (qu rfl (qu rfl (qu rfl (qu rfl ?_)))))))
           refine qu rfl (qu rfl (qu rfl (qu rfl (qn rfl (qp (AB true) rfl ?_)))))
           refine r_nil ?_
           refine w_true rfl ?_
           refine ws 3009 3073 ?_
           refine qp (AB false) rfl ?_
           refine r_nil ?_
           refine w_ret ?_
           refine blockQ_r ?_
           refine thenQ_r ?_
           refine thenQ_r ?_
           refine blockQ_r ?_
           refine thenQ_r ?_
           cases hF
           exact eR
          ·
           refine qg (AL 1 (v1025.map vI)) rfl rfl ?_
           obtain ⟨v1028, e1028, hF⟩ := bind_get hF
           refine qg (.val none (.ptr [.int .i64 v1028])) rfl (ev_iad_n rfl rfl e1028 rfl) (qg (AI v1028) rfl rfl ?_)
           obtain ⟨v1029, e1029, hF⟩ := bind_get hF
           refine qcg (AB v1029) [(0, .box [AS v0.1, AL 1 (v0.2.1.map vI), AL 1 (v0.2.2.1.map vI), AI v0.2.2.2.1, AI v0.2.2.2.2.1, AL 1 (v0.2.2.2.2.2.map (eL 1 vI))])] false rfl (con_impl_toneOk e1029) c234_ok (by first | rfl | simp) rfl ?_
           refine qg (AB (!v1029)) rfl rfl (qp (AB (!v1029)) rfl (qp (AB (!v1029)) rfl ?_))
           refine q_case 73 hF rfl (fun hF => ?_) (fun hF => ?_)
           ·
            refine qn rfl (qn rfl (qn rfl (qn rfl (qn rfl (qn rfl (qn rfl (qp (AB true) rfl ?_)))))))
            refine qp (AB true) rfl (qn rfl (qn rfl (qn rfl (qu rfl (qu rfl (qu rfl (qu rfl ?_)))))))
            refine qu rfl (qu rfl (qu rfl (qu rfl (qu rfl (qn rfl (qp (AB true) rfl ?_))))))
            refine r_nil ?_
            refine w_true rfl ?_
            refine ws 3009 3073 ?_
            refine qp (AB false) rfl ?_
            refine r_nil ?_
            refine w_ret ?_
            refine blockQ_r ?_
            refine thenQ_r ?_
            refine thenQ_r ?_
            refine blockQ_r ?_
            refine thenQ_r ?_
            cases hF
            exact eR
           ·
            refine qg (AL 1 (v1025.map vI)) rfl rfl ?_
            obtain ⟨v1030, e1030, hF⟩ := bind_get hF
            refine qg (.val none (.ptr [.int .i64 v1030])) rfl (ev_iad_n rfl rfl e1030 rfl) (qg (AI v1030) rfl rfl (qg (AL 1 (v1025.map vI)) rfl rfl ?_))
            obtain ⟨v1031, e1031, hF⟩ := bind_get hF
            refine qg (.val none (.ptr [.int .i64 v1031])) rfl (ev_iad_n rfl rfl e1031 rfl) (qg (AI v1031) rfl rfl (qg (AB (decide (v1030 = v1031))) rfl rfl (qp (AB (decide (v1030 = v1031))) rfl (qp (AB (decide (v1030 = v1031))) rfl ?_))))
            refine q_case 82 hF rfl (fun hF => ?_) (fun hF => ?_)
            ·
             refine qn rfl (qn rfl (qn rfl (qu rfl (qu rfl (qu rfl (qu rfl (qu rfl ?_)))))))
             refine qu rfl (qu rfl (qu rfl (qu rfl (qn rfl (qp (AB true) rfl ?_)))))
             refine r_nil ?_
             refine w_true rfl ?_
             refine ws 3009 3073 ?_
             refine qp (AB false) rfl ?_
             refine r_nil ?_
             refine w_ret ?_
             refine blockQ_r ?_
             refine thenQ_r ?_
             refine thenQ_r ?_
             refine blockQ_r ?_
             refine thenQ_r ?_
             cases hF
             exact eR
            ·
             refine qg (AI v1024) rfl rfl (qg (AB (decide ((0 : Int) < v1024))) rfl rfl (qg (AB (decide ((0 : Int) < v1024))) rfl rfl ?_))
             refine q_case 85 hF rfl (fun hF => ?_) (fun hF => ?_)
             ·
              refine qg (.ptr 0 0 5) rfl rfl (qg (AL 1 (v0.2.2.2.2.2.map (eL 1 vI))) rfl rfl (qg (AI v1024) rfl rfl (qg (AI (w64 (v1024 - 1))) rfl rfl ?_)))
              obtain ⟨v1032, e1032, hF⟩ := bind_get hF
              refine qg (.val none (.ptr [.sl 1 (v1032.map vI)])) rfl (ev_iad_n rfl rfl e1032 rfl) (qg (AL 1 (v1032.map vI)) rfl rfl (qg (AL 1 (v1025.map vI)) rfl rfl ?_))
              obtain ⟨v1033, e1033, hF⟩ := bind_get hF
              refine qcg (AI v1033) [(0, .box [AS v0.1, AL 1 (v0.2.1.map vI), AL 1 (v0.2.2.1.map vI), AI v0.2.2.2.1, AI v0.2.2.2.2.1, AL 1 (v0.2.2.2.2.2.map (eL 1 vI))])] false rfl (con_slices_Compare_Sint64_int64 e1033) c235_ok (by first | rfl | simp) rfl ?_
              refine qg (AB (decide ((0 : Int) ≤ v1033))) rfl rfl (qg (AB (decide ((0 : Int) ≤ v1033))) rfl rfl (qp (AB (decide ((0 : Int) ≤ v1033))) rfl ?_))
              refine r_nil ?_
              refine cF hF (fun hF => ?_) fun hF => ?_
              ·
               refine ws 3009 3073 ?_
               refine qp (AB false) rfl ?_
               refine r_nil ?_
               refine w_ret ?_
               refine blockQ_r ?_
               refine thenQ_r ?_
               refine thenQ_r ?_
               refine blockQ_r ?_
               refine thenQ_r ?_
               cases hF
               exact eR
              ·
               refine w_skip ?_
               refine blockQ_n ?_
               refine thenQ_n ?_
               refine w_reg 3009 3137 rfl rfl ?_
               refine qp (AI (w64 (v1024 + 1))) rfl (qp (AI (w64 (v1024 + 1))) rfl ?_)
               refine r_nil ?_
               refine thenQ_n ?_
               refine ar (l' := [(1, .ptr 0 0 0), (49, AL 1 (v0.2.2.2.2.2.map (eL 1 vI))), (50, AI (v0.2.2.2.2.2.length : Int)), (51, AI (w64 (v1024 + 1)))]) (L := [(0, .box [AS v0.1, AL 1 (v0.2.1.map vI), AL 1 (v0.2.2.1.map vI), AI v0.2.2.2.1, AI v0.2.2.2.2.1, AL 1 (v0.2.2.2.2.2.map (eL 1 vI))])]) [1, 49, 50, 51] [(0, 0)] 1 ⟨_, by rfl, hF⟩
             ·
              refine qn rfl (qn rfl (qn rfl (qn rfl (qn rfl (qn rfl (qn rfl (qn rfl ?_)))))))
              refine qn rfl (qg (AB false) rfl rfl (qp (AB false) rfl ?_))
              refine r_nil ?_
              refine w_false rfl ?_
              refine w_skip ?_
              refine blockQ_n ?_
              refine thenQ_n ?_
              refine w_reg 3009 3137 rfl rfl ?_
              refine qp (AI (w64 (v1024 + 1))) rfl (qp (AI (w64 (v1024 + 1))) rfl ?_)
              refine r_nil ?_
              refine thenQ_n ?_
              refine ar (l' := [(1, .ptr 0 0 0), (49, AL 1 (v0.2.2.2.2.2.map (eL 1 vI))), (50, AI (v0.2.2.2.2.2.length : Int)), (51, AI (w64 (v1024 + 1)))]) (L := [(0, .box [AS v0.1, AL 1 (v0.2.1.map vI), AL 1 (v0.2.2.1.map vI), AI v0.2.2.2.1, AI v0.2.2.2.2.1, AL 1 (v0.2.2.2.2.2.map (eL 1 vI))])]) [1, 49, 50, 51] [(0, 0)] 1 ⟨_, by rfl, hF⟩
        ·
         refine w_exit ?_
         refine thenQ_e ?_
         refine thenQ_e ?_
         refine blockQ_e ?_
         refine thenQ_n ?_
         refine ws 65 129 ?_
         refine qp (AB true) rfl ?_
         refine r_nil ?_
         refine w_ret ?_
         cases hF
         exact eR

def c154 : MC := (.seq (.reg [rg 2 (.p true (.mv (.c (.bool false))))]) (.seq (.reg [mvt 3 0, rg 4 (.call true 103 [(.t 3), (.c (.int .i64 (-12))), (.c (.int .i64 23))]), mvt 2 4]) .ret))
theorem c154_is : compFn Try.prog 154 = some (c154, [(.tmp 2)]) := by kernel_rfl
theorem c154_ok : okFn Try.prog 154 = true := by kernel_rfl

noncomputable def F_impl_pitchOk (v0 : Int) : Option (Bool) :=
 ((F_impl_within v0 (-12) 23).bind fun v1000 => some v1000)
@[simp] def res_impl_pitchOk (r : Bool) : RV := .one (.one (.val (.bool r)))
theorem con_impl_pitchOk {v0 : Int} {r : Bool} (hF : F_impl_pitchOk v0 = some r) : Con Try.prog 154 [.int .i64 v0] (res_impl_pitchOk r) := by
 unfold F_impl_pitchOk at hF
 refine con_of c154_is fun N => ?_
 refine ws 0 64 ?_
 refine qp (AB false) rfl ?_
 refine r_nil ?_
 refine ws 64 256 ?_
 refine qp (AI v0) rfl ?_
 obtain ⟨v1000, e1000, hF⟩ := bind_get hF
 refine qc (AB v1000) [] false (con_impl_within e1000) c103_ok (by first | rfl | simp) rfl ?_
 refine qp (AB v1000) rfl ?_
 refine r_nil ?_
 refine w_ret ?_
 cases hF
 exact eR

def c156 : MC := (.seq (.reg [rg 2 (.p true (.mv (.c (.int .i64 0))))]) (.seq (.reg [mvt 3 0, rg 4 (.p true (.bin .rem (.t 3) (.c (.int .i64 12)))), rg 5 (.p true (.bin .add (.t 4) (.c (.int .i64 12)))), rg 6 (.p true (.bin .rem (.t 5) (.c (.int .i64 12)))), mvt 2 6]) .ret))
theorem c156_is : compFn Try.prog 156 = some (c156, [(.tmp 2)]) := by kernel_rfl
theorem c156_ok : okFn Try.prog 156 = true := by kernel_rfl

noncomputable def F_impl_ToneOf (v0 : Int) : Option (Int) :=
 some (Int.tmod (w64 ((Int.tmod v0 12) + 12)) 12)
@[simp] def res_impl_ToneOf (r : Int) : RV := .one (.one (.val (.int .i64 r)))
theorem con_impl_ToneOf {v0 : Int} {r : Int} (hF : F_impl_ToneOf v0 = some r) : Con Try.prog 156 [.int .i64 v0] (res_impl_ToneOf r) := by
 unfold F_impl_ToneOf at hF
 refine con_of c156_is fun N => ?_
 refine ws 0 64 ?_
 refine qp (AI 0) rfl ?_
 refine r_nil ?_
 refine ws 64 384 ?_
 refine qp (AI v0) rfl (qp (AI (Int.tmod v0 12)) (ev_rem rfl rfl (by decide)) (qp (AI (w64 ((Int.tmod v0 12) + 12))) rfl (qp (AI (Int.tmod (w64 ((Int.tmod v0 12) + 12)) 12)) (ev_rem rfl rfl (by decide)) (qp (AI (Int.tmod (w64 ((Int.tmod v0 12) + 12)) 12)) rfl ?_))))
 refine r_nil ?_
 refine w_ret ?_
 cases hF
 exact eR

def c236 : MC := (.seq (.reg [rg 2 (.p true (.mv (.c (.int .i64 0))))]) (.seq (.reg [mvt 3 0, mvt 4 0, rg 5 (.p true (.neg (.t 4))), rg 6 (.p true (.mnx true (.t 3) (.t 5))), mvt 2 6]) .ret))
theorem c236_is : compFn Try.prog 236 = some (c236, [(.tmp 2)]) := by kernel_rfl
theorem c236_ok : okFn Try.prog 236 = true := by kernel_rfl

noncomputable def F_impl_abs (v0 : Int) : Option (Int) :=
 some (if w64 (0 - v0) > v0 then w64 (0 - v0) else v0)
@[simp] def res_impl_abs (r : Int) : RV := .one (.one (.val (.int .i64 r)))
theorem con_impl_abs {v0 : Int} {r : Int} (hF : F_impl_abs v0 = some r) : Con Try.prog 236 [.int .i64 v0] (res_impl_abs r) := by
 unfold F_impl_abs at hF
 refine con_of c236_is fun N => ?_
 refine ws 0 64 ?_
 refine qp (AI 0) rfl ?_
 refine r_nil ?_
 refine ws 64 384 ?_
 refine qp (AI v0) rfl (qp (AI v0) rfl (qp (AI (w64 (0 - v0))) rfl (qp (AI (if w64 (0 - v0) > v0 then w64 (0 - v0) else v0)) rfl (qp (AI (if w64 (0 - v0) > v0 then w64 (0 - v0) else v0)) rfl ?_))))
 refine r_nil ?_
 refine w_ret ?_
 cases hF
 exact eR

def c238 : MC := (.seq (.reg [rg 4 (.p true (.mv (.c (.bool false))))]) (.seq (.reg [rg 5 (.p false (.mv (.t 0))), rg 6 (.p false (.iad (.t 5) (.c (.int .i64 0)) 1)), rg 7 (.p false (.ld (.t 6) 1 false)), rg 8 (.p false (.ld (.t 1) 1 false)), rg 9 (.p false (.bin .eql (.t 7) (.t 8))), rg 10 (.p false (.mv (.t 9))), ⟨(some 11), (some (10, true)), (.p false (.mv (.t 0)))⟩, ⟨(some 12), (some (10, true)), (.p false (.iad (.t 11) (.c (.int .i64 1)) 1))⟩, ⟨(some 13), (some (10, true)), (.p false (.ld (.t 12) 1 false))⟩, ⟨(some 14), (some (10, true)), (.p false (.ld (.t 2) 1 false))⟩, ⟨(some 15), (some (10, true)), (.p false (.bin .eql (.t 13) (.t 14)))⟩, rg 16 (.p false (.pick (.t 10) (.t 15) (.c (.bool false)))), rg 4 (.p false (.mv (.t 16)))]) .ret))
theorem c238_is : compFn Try.prog 238 = some (c238, [(.tmp 4)]) := by kernel_rfl
theorem c238_ok : okFn Try.prog 238 = true := by kernel_rfl

noncomputable def F_impl_Raga_reason_1 (v0 : List Int) (v1 : Int) (v2 : Int) : Option (Bool) :=
 ((ix v0 0).bind fun v1000 => (bif (decide (v1000 = v1)) then ((ix v0 1).bind fun v1001 => some (decide (v1001 = v2)))
 else some false))
@[simp] def res_impl_Raga_reason_1 (r : Bool) : RV := .one (.one (.val (.bool r)))
theorem con_impl_Raga_reason_1 {v0 : List Int} {v1 : Int} {v2 : Int} {r : Bool} (hF : F_impl_Raga_reason_1 v0 v1 v2 = some r) : Con Try.prog 238 [.sl 1 (v0.map vI), .ptr [.int .i64 v1], .ptr [.int .i64 v2]] (res_impl_Raga_reason_1 r) := by
 unfold F_impl_Raga_reason_1 at hF
 refine con_of c238_is fun N => ?_
 refine ws 0 64 ?_
 refine qp (AB false) rfl ?_
 refine r_nil ?_
 refine ws 64 896 ?_
 refine qp (AL 1 (v0.map vI)) rfl ?_
 obtain ⟨v1000, e1000, hF⟩ := bind_get hF
 refine qp (.val none (.ptr [.int .i64 v1000])) (ev_iad_n rfl rfl e1000 rfl) (qp (AI v1000) rfl (qp (AI v1) rfl (qp (AB (decide (v1000 = v1))) rfl (qp (AB (decide (v1000 = v1))) rfl ?_))))
 refine q_case 10 hF rfl (fun hF => ?_) (fun hF => ?_)
 ·
  refine qg (AL 1 (v0.map vI)) rfl rfl ?_
  obtain ⟨v1001, e1001, hF⟩ := bind_get hF
  refine qg (.val none (.ptr [.int .i64 v1001])) rfl (ev_iad_n rfl rfl e1001 rfl) (qg (AI v1001) rfl rfl (qg (AI v2) rfl rfl (qg (AB (decide (v1001 = v2))) rfl rfl (qp (AB (decide (v1001 = v2))) rfl (qp (AB (decide (v1001 = v2))) rfl ?_)))))
  refine r_nil ?_
  refine w_ret ?_
  cases hF
  exact eR
 ·
  refine qn rfl (qn rfl (qn rfl (qn rfl (qn rfl (qp (AB false) rfl (qp (AB false) rfl ?_))))))
  refine r_nil ?_
  refine w_ret ?_
  cases hF
  exact eR

def c275 : MC := (.seq (.reg [rg 4 (.p true (.mv (.c (.int .i64 0))))]) (.seq (.seq (.reg [mvt 6 0, rg 7 (.p true (.len (.t 6))), rg 8 (.p true (.mv (.c (.int .i64 0))))]) (.block 0 (.loop (.seq (.reg [rg 9 (.p true (.bin .lss (.t 8) (.t 7)))]) (.seq (.cond (.t 9) .skip (.exit 0)) (.seq (.block 1 (.seq (.reg [mvt 10 8, mvt 5 10]) (.seq (.reg [mvt 11 1, mvt 12 0, mvt 13 5, rg 14 (.p true (.iad (.t 12) (.t 13) 1)), rg 15 (.p true (.ld (.t 14) 1 false)), rg 16 (.callv (.t 11) [(.t 15)])]) (.cond (.t 16) (.seq (.reg [mvt 17 5, mvt 4 17]) .ret) .skip)))) (.reg [rg 18 (.p true (.bin .add (.t 8) (.c (.int .i64 1)))), mvt 8 18]))))))) (.seq (.reg [rg 4 (.p true (.mv (.c (.int .i64 (-1)))))]) .ret)))
theorem c275_is : compFn Try.prog 275 = some (c275, [(.tmp 4)]) := by kernel_rfl
theorem c275_ok : okFn Try.prog 275 = true := by kernel_rfl

noncomputable def F_slices_IndexFunc_SSint64_Sint64_l0 (v0 : List (List Int)) (v1 : Int) (v2 : Int) (k0 : Int → Option (Int)) : Int → Option (Int)
 | v8 => (bif (decide (v8 < (v0.length : Int))) then ((ix v0 v8).bind fun v1000 => ((F_impl_Raga_reason_1 v1000 v1 v2).bind fun v1001 => (bif v1001 then some v8
 else k0 (w64 (v8 + 1)))))
 else some (-1))
noncomputable def F_slices_IndexFunc_SSint64_Sint64 (v0 : List (List Int)) (v1 : Int) (v2 : Int) : Option (Int) :=
 loop (F_slices_IndexFunc_SSint64_Sint64_l0 v0 v1 v2) 0
@[simp] def res_slices_IndexFunc_SSint64_Sint64 (r : Int) : RV := .one (.one (.val (.int .i64 r)))
theorem con_slices_IndexFunc_SSint64_Sint64 {v0 : List (List Int)} {v1 : Int} {v2 : Int} {r : Int} (hF : F_slices_IndexFunc_SSint64_Sint64 v0 v1 v2 = some r) : Con Try.prog 275 [.sl 1 (v0.map (eL 1 vI)), .fn 238 [.ptr [.int .i64 v1], .ptr [.int .i64 v2]]] (res_slices_IndexFunc_SSint64_Sint64 r) := by
 unfold F_slices_IndexFunc_SSint64_Sint64 at hF
 refine con_of c275_is fun N => ?_
 refine ws 0 64 ?_
 refine qp (AI 0) rfl ?_
 refine r_nil ?_
 refine w_seq ?_
 refine ws 64 256 ?_
 refine qp (AL 1 (v0.map (eL 1 vI))) rfl (qp (AI (v0.length : Int)) (ev_len_n rfl) (qp (AI 0) rfl ?_))
 refine r_nil ?_
 refine w_block ?_
 refine wr (l' := [(0, AL 1 (v0.map (eL 1 vI))), (1, .val none (.fn 238 [.ptr [.int .i64 v1], .ptr [.int .i64 v2]])), (7, AI (v0.length : Int)), (8, AI 0)]) (L := []) [0, 1, 7, 8] [] 1 ?_
 refine w_loopF (F_slices_IndexFunc_SSint64_Sint64_l0 v0 v1 v2) (fun s : Int => mkS [(0, AL 1 (v0.map (eL 1 vI))), (1, .val none (.fn 238 [.ptr [.int .i64 v1], .ptr [.int .i64 v2]])), (7, AI (v0.length : Int)), (8, AI s)] (fo []) 1) hF ?_
 rintro k0 v8 hF
 rw [F_slices_IndexFunc_SSint64_Sint64_l0] at hF
 try dsimp only
 refine ws 1 65 ?_
 refine qp (AB (decide (v8 < (v0.length : Int)))) rfl ?_
 refine r_nil ?_
 refine w_seq ?_
 refine cF hF (fun hF => ?_) fun hF => ?_
 ·
  refine w_skip ?_
  refine thenQ_n ?_
  refine w_seq ?_
  refine w_block ?_
  refine ws 65 193 ?_
  refine qp (AI v8) rfl (qp (AI v8) rfl ?_)
  refine r_nil ?_
  refine ws 193 577 ?_
  refine qp (.val none (.fn 238 [.ptr [.int .i64 v1], .ptr [.int .i64 v2]])) rfl (qp (AL 1 (v0.map (eL 1 vI))) rfl (qp (AI v8) rfl ?_))
  obtain ⟨v1000, e1000, hF⟩ := bind_get hF
  refine qp (.val none (.ptr [.sl 1 (v1000.map vI)])) (ev_iad_n rfl rfl e1000 rfl) (qp (AL 1 (v1000.map vI)) rfl ?_)
  obtain ⟨v1001, e1001, hF⟩ := bind_get hF
  refine qcv (AB v1001) [] false rfl (con_impl_Raga_reason_1 e1001) c238_ok (by first | rfl | simp) rfl ?_
  refine r_nil ?_
  refine cF hF (fun hF => ?_) fun hF => ?_
  ·
   refine ws 577 705 ?_
   refine qp (AI v8) rfl (qp (AI v8) rfl ?_)
   refine r_nil ?_
   refine w_ret ?_
   refine blockQ_r ?_
   refine thenQ_r ?_
   refine thenQ_r ?_
   refine blockQ_r ?_
   refine thenQ_r ?_
   cases hF
   exact eR
  ·
   refine w_skip ?_
   refine blockQ_n ?_
   refine thenQ_n ?_
   refine w_reg 577 705 rfl rfl ?_
   refine qp (AI (w64 (v8 + 1))) rfl (qp (AI (w64 (v8 + 1))) rfl ?_)
   refine r_nil ?_
   refine thenQ_n ?_
   refine ar (l' := [(0, AL 1 (v0.map (eL 1 vI))), (1, .val none (.fn 238 [.ptr [.int .i64 v1], .ptr [.int .i64 v2]])), (7, AI (v0.length : Int)), (8, AI (w64 (v8 + 1)))]) (L := []) [0, 1, 7, 8] [] 1 ⟨_, by rfl, hF⟩
 ·
  refine w_exit ?_
  refine thenQ_e ?_
  refine thenQ_e ?_
  refine blockQ_e ?_
  refine thenQ_n ?_
  refine ws 65 129 ?_
  refine qp (AI (-1)) rfl ?_
  refine r_nil ?_
  refine w_ret ?_
  cases hF
  exact eR

def c237 : MC := (.seq (.reg [rg 4 (.p true (.mv (.c (.bool false))))]) (.seq (.reg [mvt 5 0, mvt 6 1, rg 7 (.call true 275 [(.t 5), (.t 6)]), rg 8 (.p true (.bin .geq (.t 7) (.c (.int .i64 0)))), mvt 4 8]) .ret))
theorem c237_is : compFn Try.prog 237 = some (c237, [(.tmp 4)]) := by kernel_rfl
theorem c237_ok : okFn Try.prog 237 = true := by kernel_rfl

noncomputable def F_slices_ContainsFunc_SSint64_Sint64 (v0 : List (List Int)) (v1 : Int) (v2 : Int) : Option (Bool) :=
 ((F_slices_IndexFunc_SSint64_Sint64 v0 v1 v2).bind fun v1000 => some (decide ((0 : Int) ≤ v1000)))
@[simp] def res_slices_ContainsFunc_SSint64_Sint64 (r : Bool) : RV := .one (.one (.val (.bool r)))
theorem con_slices_ContainsFunc_SSint64_Sint64 {v0 : List (List Int)} {v1 : Int} {v2 : Int} {r : Bool} (hF : F_slices_ContainsFunc_SSint64_Sint64 v0 v1 v2 = some r) : Con Try.prog 237 [.sl 1 (v0.map (eL 1 vI)), .fn 238 [.ptr [.int .i64 v1], .ptr [.int .i64 v2]]] (res_slices_ContainsFunc_SSint64_Sint64 r) := by
 unfold F_slices_ContainsFunc_SSint64_Sint64 at hF
 refine con_of c237_is fun N => ?_
 refine ws 0 64 ?_
 refine qp (AB false) rfl ?_
 refine r_nil ?_
 refine ws 64 384 ?_
 refine qp (AL 1 (v0.map (eL 1 vI))) rfl (qp (.val none (.fn 238 [.ptr [.int .i64 v1], .ptr [.int .i64 v2]])) rfl ?_)
 obtain ⟨v1000, e1000, hF⟩ := bind_get hF
 refine qc (AI v1000) [] false (con_slices_IndexFunc_SSint64_Sint64 e1000) c275_ok (by first | rfl | simp) rfl ?_
 refine qp (AB (decide ((0 : Int) ≤ v1000))) rfl (qp (AB (decide ((0 : Int) ≤ v1000))) rfl ?_)
 refine r_nil ?_
 refine w_ret ?_
 cases hF
 exact eR

def c157 : MC := (.seq (.reg [rg 3 (.f (.box (.t 0))), rg 6 (.p true (.mv (.c (.int .i64 0))))]) (.seq (.reg [mvt 9 1, rg 10 (.call true 156 [(.t 9)]), mvt 11 2, rg 12 (.call true 156 [(.t 11)]), rg 7 (.f (.alloc [((.int .i64 0), (0, false))])), rg 8 (.f (.alloc [((.int .i64 0), (0, false))])), ⟨none, none, (.f (.st (.t 7) (.t 10) 1))⟩, ⟨none, none, (.f (.st (.t 8) (.t 12) 1))⟩]) (.seq (.block 0 (.seq (.reg [rg 14 (.p true (.ld (.t 3) 6 true)), rg 15 (.p true (.ld (.t 7) 1 false)), rg 16 (.call true 155 [(.t 14), (.t 15)]), rg 17 (.p true (.not (.t 16))), mvt 18 17, ⟨(some 19), (some (18, false)), (.p true (.ld (.t 3) 6 true))⟩, ⟨(some 20), (some (18, false)), (.p true (.ld (.t 8) 1 false))⟩, ⟨(some 21), (some (18, false)), (.call true 155 [(.t 19), (.t 20)])⟩, ⟨(some 22), (some (18, false)), (.p true (.not (.t 21)))⟩, rg 23 (.p true (.pick (.t 18) (.c (.bool true)) (.t 22))), mvt 13 23]) (.cond (.t 13) (.seq (.reg [rg 6 (.p true (.mv (.c (.int .i64 1))))]) .ret) (.seq (.reg [mvt 25 1, mvt 26 2, rg 27 (.p true (.bin .sub (.t 25) (.t 26))), rg 28 (.call true 236 [(.t 27)]), rg 29 (.p true (.bin .gtr (.t 28) (.c (.int .i64 12)))), mvt 24 29]) (.cond (.t 24) (.seq (.reg [rg 6 (.p true (.mv (.c (.int .i64 2))))]) .ret) (.seq (.reg [mvt 31 2, mvt 32 1, rg 33 (.p true (.bin .gtr (.t 31) (.t 32))), mvt 34 33, ⟨(some 35), (some (34, true)), (.p true (.fad (.t 3) 1))⟩, ⟨(some 36), (some (34, true)), (.p true (.ld (.t 35) 1 false))⟩, ⟨(some 37), (some (34, true)), (.p true (.ld (.t 8) 1 false))⟩, ⟨(some 38), (some (34, true)), (.call true 218 [(.t 36), (.t 37)])⟩, ⟨(some 39), (some (34, true)), (.p true (.not (.t 38)))⟩, rg 40 (.p true (.pick (.t 34) (.t 39) (.c (.bool false)))), mvt 30 40]) (.cond (.t 30) (.seq (.reg [rg 6 (.p true (.mv (.c (.int .i64 3))))]) .ret) (.seq (.reg [mvt 42 2, mvt 43 1, rg 44 (.p true (.bin .lss (.t 42) (.t 43))), mvt 45 44, ⟨(some 46), (some (45, true)), (.p true (.fad (.t 3) 2))⟩, ⟨(some 47), (some (45, true)), (.p true (.ld (.t 46) 1 false))⟩, ⟨(some 48), (some (45, true)), (.p true (.ld (.t 8) 1 false))⟩, ⟨(some 49), (some (45, true)), (.call true 218 [(.t 47), (.t 48)])⟩, ⟨(some 50), (some (45, true)), (.p true (.not (.t 49)))⟩, rg 51 (.p true (.pick (.t 45) (.t 50) (.c (.bool false)))), mvt 41 51]) (.cond (.t 41) (.seq (.reg [rg 6 (.p true (.mv (.c (.int .i64 4))))]) .ret) (.seq (.reg [rg 53 (.p true (.fad (.t 3) 5)), rg 54 (.p true (.ld (.t 53) 1 false)), rg 55 (.p true (.mkf 238 [(.t 7), (.t 8)])), rg 56 (.call true 237 [(.t 54), (.t 55)]), mvt 52 56]) (.cond (.t 52) (.seq (.reg [rg 6 (.p true (.mv (.c (.int .i64 5))))]) .ret) .skip))))))))))) (.seq (.reg [rg 6 (.p true (.mv (.c (.int .i64 0))))]) .ret))))
theorem c157_is : compFn Try.prog 157 = some (c157, [(.tmp 6)]) := by kernel_rfl
theorem c157_ok : okFn Try.prog 157 = true := by kernel_rfl

noncomputable def F_impl_Raga_reason_j2 (v0 : TRaga) (v1000 : Int) (v1001 : Int) (v1011 : Bool) : Option (Int) :=
 (bif v1011 then some 4
 else ((F_slices_ContainsFunc_SSint64_Sint64 v0.2.2.2.2.2 v1000 v1001).bind fun v1012 => (bif v1012 then some 5
 else some 0)))
noncomputable def F_impl_Raga_reason_j1 (v0 : TRaga) (v1 : Int) (v2 : Int) (v1000 : Int) (v1001 : Int) (v1009 : Bool) : Option (Int) :=
 (bif v1009 then some 3
 else (bif (decide (v2 < v1)) then ((F_slices_Contains_Sint64_int64 v0.2.2.1 v1001).bind fun v1011 => F_impl_Raga_reason_j2 v0 v1000 v1001 (!v1011))
 else F_impl_Raga_reason_j2 v0 v1000 v1001 false))
noncomputable def F_impl_Raga_reason_j0 (v0 : TRaga) (v1 : Int) (v2 : Int) (v1000 : Int) (v1001 : Int) (v1004 : Bool) : Option (Int) :=
 (bif v1004 then some 1
 else ((F_impl_abs (w64 (v1 - v2))).bind fun v1007 => (bif (decide ((12 : Int) < v1007)) then some 2
 else (bif (decide (v1 < v2)) then ((F_slices_Contains_Sint64_int64 v0.2.1 v1001).bind fun v1010 => F_impl_Raga_reason_j1 v0 v1 v2 v1000 v1001 (!v1010))
 else F_impl_Raga_reason_j1 v0 v1 v2 v1000 v1001 false))))
noncomputable def F_impl_Raga_reason (v0 : TRaga) (v1 : Int) (v2 : Int) : Option (Int) :=
 ((F_impl_ToneOf v1).bind fun v1000 => ((F_impl_ToneOf v2).bind fun v1001 => ((F_impl_Raga_hasTone v0 v1000).bind fun v1005 => (bif (!v1005) then F_impl_Raga_reason_j0 v0 v1 v2 v1000 v1001 true
 else ((F_impl_Raga_hasTone v0 v1001).bind fun v1006 => F_impl_Raga_reason_j0 v0 v1 v2 v1000 v1001 (!v1006))))))
@[simp] def res_impl_Raga_reason (r : Int) : RV := .one (.one (.val (.int .i64 r)))
theorem con_impl_Raga_reason {v0 : TRaga} {v1 : Int} {v2 : Int} {r : Int} (hF : F_impl_Raga_reason v0 v1 v2 = some r) : Con Try.prog 157 [eRaga v0, .int .i64 v1, .int .i64 v2] (res_impl_Raga_reason r) := by
 unfold F_impl_Raga_reason at hF
 refine con_of c157_is fun N => ?_
 refine ws 0 128 ?_
 refine qf (.ptr 0 0 0) [(0, .box [AS v0.1, AL 1 (v0.2.1.map vI), AL 1 (v0.2.2.1.map vI), AI v0.2.2.2.1, AI v0.2.2.2.2.1, AL 1 (v0.2.2.2.2.2.map (eL 1 vI))])] (by simp) ?_
 refine qp (AI 0) rfl ?_
 refine r_nil ?_
 refine ws 128 640 ?_
 refine qp (AI v1) rfl ?_
 obtain ⟨v1000, e1000, hF⟩ := bind_get hF
 refine qc (AI v1000) [(0, .box [AS v0.1, AL 1 (v0.2.1.map vI), AL 1 (v0.2.2.1.map vI), AI v0.2.2.2.1, AI v0.2.2.2.2.1, AL 1 (v0.2.2.2.2.2.map (eL 1 vI))])] false (con_impl_ToneOf e1000) c156_ok (by first | rfl | simp) rfl ?_
 refine qp (AI v2) rfl ?_
 obtain ⟨v1001, e1001, hF⟩ := bind_get hF
 refine qc (AI v1001) [(0, .box [AS v0.1, AL 1 (v0.2.1.map vI), AL 1 (v0.2.2.1.map vI), AI v0.2.2.2.1, AI v0.2.2.2.2.1, AL 1 (v0.2.2.2.2.2.map (eL 1 vI))])] false (con_impl_ToneOf e1001) c156_ok (by first | rfl | simp) rfl ?_
 refine qf (.ptr 384 0 0) [(384, .box [AI 0]), (0, .box [AS v0.1, AL 1 (v0.2.1.map vI), AL 1 (v0.2.2.1.map vI), AI v0.2.2.2.1, AI v0.2.2.2.2.1, AL 1 (v0.2.2.2.2.2.map (eL 1 vI))])] (by simp) ?_
 refine qf (.ptr 448 0 0) [(448, .box [AI 0]), (384, .box [AI 0]), (0, .box [AS v0.1, AL 1 (v0.2.1.map vI), AL 1 (v0.2.2.1.map vI), AI v0.2.2.2.1, AI v0.2.2.2.2.1, AL 1 (v0.2.2.2.2.2.map (eL 1 vI))])] (by simp) ?_
 refine qf0 (.undef) [(384, .box [AI v1000]), (448, .box [AI 0]), (384, .box [AI 0]), (0, .box [AS v0.1, AL 1 (v0.2.1.map vI), AL 1 (v0.2.2.1.map vI), AI v0.2.2.2.1, AI v0.2.2.2.2.1, AL 1 (v0.2.2.2.2.2.map (eL 1 vI))])] (by simp) ?_
 refine qf0 (.undef) [(448, .box [AI v1001]), (384, .box [AI v1000]), (448, .box [AI 0]), (384, .box [AI 0]), (0, .box [AS v0.1, AL 1 (v0.2.1.map vI), AL 1 (v0.2.2.1.map vI), AI v0.2.2.2.1, AI v0.2.2.2.2.1, AL 1 (v0.2.2.2.2.2.map (eL 1 vI))])] (by simp) ?_
 refine r_nil ?_
 refine w_seq ?_
 refine w_block ?_
 refine w_meet (fun s' => ∃ (v1004 : Bool), s' = mkS [(1, AI v1), (2, AI v2), (3, .ptr 0 0 0), (7, .ptr 1 0 0), (8, .ptr 2 0 0), (13, AB v1004)] (fo [(2, .box [AI v1001]), (1, .box [AI v1000]), (0, .box [AS v0.1, AL 1 (v0.2.1.map vI), AL 1 (v0.2.2.1.map vI), AI v0.2.2.2.1, AI v0.2.2.2.2.1, AL 1 (v0.2.2.2.2.2.map (eL 1 vI))])]) 3 ∧ F_impl_Raga_reason_j0 v0 v1 v2 v1000 v1001 v1004 = some r) ?_ ?_
 ·
  refine w_reg 640 1344 rfl rfl ?_
  refine qp (.agg [AS v0.1, AL 1 (v0.2.1.map vI), AL 1 (v0.2.2.1.map vI), AI v0.2.2.2.1, AI v0.2.2.2.2.1, AL 1 (v0.2.2.2.2.2.map (eL 1 vI))]) rfl (qp (AI v1000) rfl ?_)
  obtain ⟨v1005, e1005, hF⟩ := bind_get hF
  refine qc (AB v1005) [(448, .box [AI v1001]), (384, .box [AI v1000]), (448, .box [AI 0]), (384, .box [AI 0]), (0, .box [AS v0.1, AL 1 (v0.2.1.map vI), AL 1 (v0.2.2.1.map vI), AI v0.2.2.2.1, AI v0.2.2.2.2.1, AL 1 (v0.2.2.2.2.2.map (eL 1 vI))])] false (con_impl_Raga_hasTone e1005) c155_ok (by first | rfl | simp) rfl ?_
  refine qp (AB (!v1005)) rfl (qp (AB (!v1005)) rfl ?_)
  refine q_case 18 hF rfl (fun hF => ?_) (fun hF => ?_)
  ·
   refine qn rfl (qn rfl (qn rfl (qn rfl (qp (AB true) rfl (qp (AB true) rfl ?_)))))
   refine r_nil ?_
   refine thenQ_n ?_
   refine aw_ren (l' := [(1, AI v1), (2, AI v2), (3, .ptr 0 0 0), (7, .ptr 1 0 0), (8, .ptr 2 0 0), (13, AB true)]) (L := [(2, .box [AI v1001]), (1, .box [AI v1000]), (0, .box [AS v0.1, AL 1 (v0.2.1.map vI), AL 1 (v0.2.2.1.map vI), AI v0.2.2.2.1, AI v0.2.2.2.2.1, AL 1 (v0.2.2.2.2.2.map (eL 1 vI))])]) [1, 2, 3, 7, 8, 13] [(448, 2), (384, 1), (0, 0)] 3 (by first | rfl | simp) (by first | rfl | simp) (by decide) (by decide) (by decide) ⟨_, rfl, hF⟩
  ·
   refine qg (.agg [AS v0.1, AL 1 (v0.2.1.map vI), AL 1 (v0.2.2.1.map vI), AI v0.2.2.2.1, AI v0.2.2.2.2.1, AL 1 (v0.2.2.2.2.2.map (eL 1 vI))]) rfl rfl (qg (AI v1001) rfl rfl ?_)
   obtain ⟨v1006, e1006, hF⟩ := bind_get hF
   refine qcg (AB v1006) [(448, .box [AI v1001]), (384, .box [AI v1000]), (448, .box [AI 0]), (384, .box [AI 0]), (0, .box [AS v0.1, AL 1 (v0.2.1.map vI), AL 1 (v0.2.2.1.map vI), AI v0.2.2.2.1, AI v0.2.2.2.2.1, AL 1 (v0.2.2.2.2.2.map (eL 1 vI))])] false rfl (con_impl_Raga_hasTone e1006) c155_ok (by first | rfl | simp) rfl ?_
   refine qg (AB (!v1006)) rfl rfl (qp (AB (!v1006)) rfl (qp (AB (!v1006)) rfl ?_))
   refine r_nil ?_
   refine thenQ_n ?_
   refine aw_ren (l' := [(1, AI v1), (2, AI v2), (3, .ptr 0 0 0), (7, .ptr 1 0 0), (8, .ptr 2 0 0), (13, AB (!v1006))]) (L := [(2, .box [AI v1001]), (1, .box [AI v1000]), (0, .box [AS v0.1, AL 1 (v0.2.1.map vI), AL 1 (v0.2.2.1.map vI), AI v0.2.2.2.1, AI v0.2.2.2.2.1, AL 1 (v0.2.2.2.2.2.map (eL 1 vI))])]) [1, 2, 3, 7, 8, 13] [(448, 2), (384, 1), (0, 0)] 3 (by first | rfl | simp) (by first | rfl | simp) (by decide) (by decide) (by decide) ⟨_, rfl, hF⟩
 ·
  rintro s' ⟨v1004, rfl, hF⟩
  unfold F_impl_Raga_reason_j0 at hF
  refine cF hF (fun hF => ?_) fun hF => ?_
  ·
   refine ws 3 67 ?_
   refine qp (AI 1) rfl ?_
   refine r_nil ?_
   refine w_ret ?_
   refine blockQ_r ?_
   refine thenQ_r ?_
   cases hF
   exact eR
  ·
   refine ws 3 387 ?_
   refine qp (AI v1) rfl (qp (AI v2) rfl (qp (AI (w64 (v1 - v2))) rfl ?_))
   obtain ⟨v1007, e1007, hF⟩ := bind_get hF
   refine qc (AI v1007) [(2, .box [AI v1001]), (1, .box [AI v1000]), (0, .box [AS v0.1, AL 1 (v0.2.1.map vI), AL 1 (v0.2.2.1.map vI), AI v0.2.2.2.1, AI v0.2.2.2.2.1, AL 1 (v0.2.2.2.2.2.map (eL 1 vI))])] false (con_impl_abs e1007) c236_ok (by first | rfl | simp) rfl ?_
   refine qp (AB (decide ((12 : Int) < v1007))) rfl (qp (AB (decide ((12 : Int) < v1007))) rfl ?_)
   refine r_nil ?_
   refine cF hF (fun hF => ?_) fun hF => ?_
   ·
    refine ws 387 451 ?_
    refine qp (AI 2) rfl ?_
    refine r_nil ?_
    refine w_ret ?_
    refine blockQ_r ?_
    refine thenQ_r ?_
    cases hF
    exact eR
   ·
    refine w_meet (fun s' => ∃ (v1009 : Bool), s' = mkS [(1, AI v1), (2, AI v2), (3, .ptr 0 0 0), (7, .ptr 1 0 0), (8, .ptr 2 0 0), (30, AB v1009)] (fo [(2, .box [AI v1001]), (1, .box [AI v1000]), (0, .box [AS v0.1, AL 1 (v0.2.1.map vI), AL 1 (v0.2.2.1.map vI), AI v0.2.2.2.1, AI v0.2.2.2.2.1, AL 1 (v0.2.2.2.2.2.map (eL 1 vI))])]) 3 ∧ F_impl_Raga_reason_j1 v0 v1 v2 v1000 v1001 v1009 = some r) ?_ ?_
    ·
     refine w_reg 387 1091 rfl rfl ?_
     refine qp (AI v2) rfl (qp (AI v1) rfl (qp (AB (decide (v1 < v2))) rfl (qp (AB (decide (v1 < v2))) rfl ?_)))
     refine q_case 34 hF rfl (fun hF => ?_) (fun hF => ?_)
     ·
      refine qg (.ptr 0 0 1) rfl rfl (qg (AL 1 (v0.2.1.map vI)) rfl rfl (qg (AI v1001) rfl rfl ?_))
      obtain ⟨v1010, e1010, hF⟩ := bind_get hF
      refine qcg (AB v1010) [(2, .box [AI v1001]), (1, .box [AI v1000]), (0, .box [AS v0.1, AL 1 (v0.2.1.map vI), AL 1 (v0.2.2.1.map vI), AI v0.2.2.2.1, AI v0.2.2.2.2.1, AL 1 (v0.2.2.2.2.2.map (eL 1 vI))])] false rfl (con_slices_Contains_Sint64_int64 e1010) c218_ok (by first | rfl | simp) rfl ?_
      refine qg (AB (!v1010)) rfl rfl (qp (AB (!v1010)) rfl (qp (AB (!v1010)) rfl ?_))
      refine r_nil ?_
      refine thenQ_n ?_
      refine aw_ren (l' := [(1, AI v1), (2, AI v2), (3, .ptr 0 0 0), (7, .ptr 1 0 0), (8, .ptr 2 0 0), (30, AB (!v1010))]) (L := [(2, .box [AI v1001]), (1, .box [AI v1000]), (0, .box [AS v0.1, AL 1 (v0.2.1.map vI), AL 1 (v0.2.2.1.map vI), AI v0.2.2.2.1, AI v0.2.2.2.2.1, AL 1 (v0.2.2.2.2.2.map (eL 1 vI))])]) [1, 2, 3, 7, 8, 30] [(2, 2), (1, 1), (0, 0)] 3 (by first | rfl | simp) (by first | rfl | simp) (by decide) (by decide) (by decide) ⟨_, rfl, hF⟩
     ·
      refine qn rfl (qn rfl (qn rfl (qn rfl (qn rfl (qp (AB false) rfl (qp (AB false) rfl ?_))))))
      refine r_nil ?_
      refine thenQ_n ?_
      refine aw_ren (l' := [(1, AI v1), (2, AI v2), (3, .ptr 0 0 0), (7, .ptr 1 0 0), (8, .ptr 2 0 0), (30, AB false)]) (L := [(2, .box [AI v1001]), (1, .box [AI v1000]), (0, .box [AS v0.1, AL 1 (v0.2.1.map vI), AL 1 (v0.2.2.1.map vI), AI v0.2.2.2.1, AI v0.2.2.2.2.1, AL 1 (v0.2.2.2.2.2.map (eL 1 vI))])]) [1, 2, 3, 7, 8, 30] [(2, 2), (1, 1), (0, 0)] 3 (by first | rfl | simp) (by first | rfl | simp) (by decide) (by decide) (by decide) ⟨_, rfl, hF⟩
    ·
     rintro s' ⟨v1009, rfl, hF⟩
     unfold F_impl_Raga_reason_j1 at hF
     refine cF hF (fun hF => ?_) fun hF => ?_
     ·
      refine ws 3 67 ?_
      refine qp (AI 3) rfl ?_
      refine r_nil ?_
      refine w_ret ?_
      refine blockQ_r ?_
      refine thenQ_r ?_
      cases hF
      exact eR
     ·
      refine w_meet (fun s' => ∃ (v1011 : Bool), s' = mkS [(3, .ptr 0 0 0), (7, .ptr 1 0 0), (8, .ptr 2 0 0), (41, AB v1011)] (fo [(2, .box [AI v1001]), (1, .box [AI v1000]), (0, .box [AS v0.1, AL 1 (v0.2.1.map vI), AL 1 (v0.2.2.1.map vI), AI v0.2.2.2.1, AI v0.2.2.2.2.1, AL 1 (v0.2.2.2.2.2.map (eL 1 vI))])]) 3 ∧ F_impl_Raga_reason_j2 v0 v1000 v1001 v1011 = some r) ?_ ?_
      ·
       refine w_reg 3 707 rfl rfl ?_
       refine qp (AI v2) rfl (qp (AI v1) rfl (qp (AB (decide (v2 < v1))) rfl (qp (AB (decide (v2 < v1))) rfl ?_)))
       refine q_case 45 hF rfl (fun hF => ?_) (fun hF => ?_)
       ·
        refine qg (.ptr 0 0 2) rfl rfl (qg (AL 1 (v0.2.2.1.map vI)) rfl rfl (qg (AI v1001) rfl rfl ?_))
        obtain ⟨v1011, e1011, hF⟩ := bind_get hF
        refine qcg (AB v1011) [(2, .box [AI v1001]), (1, .box [AI v1000]), (0, .box [AS v0.1, AL 1 (v0.2.1.map vI), AL 1 (v0.2.2.1.map vI), AI v0.2.2.2.1, AI v0.2.2.2.2.1, AL 1 (v0.2.2.2.2.2.map (eL 1 vI))])] false rfl (con_slices_Contains_Sint64_int64 e1011) c218_ok (by first | rfl | simp) rfl ?_
        refine qg (AB (!v1011)) rfl rfl (qp (AB (!v1011)) rfl (qp (AB (!v1011)) rfl ?_))
        refine r_nil ?_
        refine thenQ_n ?_
        refine aw_ren (l' := [(3, .ptr 0 0 0), (7, .ptr 1 0 0), (8, .ptr 2 0 0), (41, AB (!v1011))]) (L := [(2, .box [AI v1001]), (1, .box [AI v1000]), (0, .box [AS v0.1, AL 1 (v0.2.1.map vI), AL 1 (v0.2.2.1.map vI), AI v0.2.2.2.1, AI v0.2.2.2.2.1, AL 1 (v0.2.2.2.2.2.map (eL 1 vI))])]) [3, 7, 8, 41] [(2, 2), (1, 1), (0, 0)] 3 (by first | rfl | simp) (by first | rfl | simp) (by decide) (by decide) (by decide) ⟨_, rfl, hF⟩
       ·
        refine qn rfl (qn rfl (qn rfl (qn rfl (qn rfl (qp (AB false) rfl (qp (AB false) rfl ?_))))))
        refine r_nil ?_
        refine thenQ_n ?_
        refine aw_ren (l' := [(3, .ptr 0 0 0), (7, .ptr 1 0 0), (8, .ptr 2 0 0), (41, AB false)]) (L := [(2, .box [AI v1001]), (1, .box [AI v1000]), (0, .box [AS v0.1, AL 1 (v0.2.1.map vI), AL 1 (v0.2.2.1.map vI), AI v0.2.2.2.1, AI v0.2.2.2.2.1, AL 1 (v0.2.2.2.2.2.map (eL 1 vI))])]) [3, 7, 8, 41] [(2, 2), (1, 1), (0, 0)] 3 (by first | rfl | simp) (by first | rfl | simp) (by decide) (by decide) (by decide) ⟨_, rfl, hF⟩
      ·
       rintro s' ⟨v1011, rfl, hF⟩
       unfold F_impl_Raga_reason_j2 at hF
       refine cF hF (fun hF => ?_) fun hF => ?_
       ·
        refine ws 3 67 ?_
        refine qp (AI 4) rfl ?_
        refine r_nil ?_
        refine w_ret ?_
        refine blockQ_r ?_
        refine thenQ_r ?_
        cases hF
        exact eR
       ·
        refine ws 3 323 ?_
        refine qp (.ptr 0 0 5) rfl (qp (AL 1 (v0.2.2.2.2.2.map (eL 1 vI))) rfl (qp (.fn 238 [.ptr 1 0 0, .ptr 2 0 0]) rfl ?_))
        obtain ⟨v1012, e1012, hF⟩ := bind_get hF
        refine qc (AB v1012) [(2, .box [AI v1001]), (1, .box [AI v1000]), (0, .box [AS v0.1, AL 1 (v0.2.1.map vI), AL 1 (v0.2.2.1.map vI), AI v0.2.2.2.1, AI v0.2.2.2.2.1, AL 1 (v0.2.2.2.2.2.map (eL 1 vI))])] true (con_slices_ContainsFunc_SSint64_Sint64 e1012) c237_ok (by simp [List.take_of_length_le]) rfl ?_
        refine qp (AB v1012) rfl ?_
        refine r_nil ?_
        refine cF hF (fun hF => ?_) fun hF => ?_
        ·
         refine ws 323 387 ?_
         refine qp (AI 5) rfl ?_
         refine r_nil ?_
         refine w_ret ?_
         refine blockQ_r ?_
         refine thenQ_r ?_
         cases hF
         exact eR
        ·
         refine w_skip ?_
         refine blockQ_n ?_
         refine thenQ_n ?_
         refine ws 323 387 ?_
         refine qp (AI 0) rfl ?_
         refine r_nil ?_
         refine w_ret ?_
         cases hF
         exact eR

end Go.Ab
