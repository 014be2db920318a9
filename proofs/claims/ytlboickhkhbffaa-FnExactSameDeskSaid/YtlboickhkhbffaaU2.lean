/- Walks (printed by auto.py, a program of this session's own). -/
import Derived.Test.YtlboickhkhbffaaU1
import Derived.Test.YtlboickhkhbffaaProg
import Derived.KernelRfl
import Derived.Test.YtlboickhkhbffaaSQ
set_option linter.unusedVariables false
set_option linter.unusedSimpArgs false
set_option maxRecDepth 8000
set_option maxHeartbeats 8000000
namespace Go.Ab
open Go.RowKit Go.Proofs

def c14 : MC := (.seq (.reg [rg 2 (.f (.box (.t 0))), rg 3 (.f (.box (.t 1))), rg 4 (.p true (.mv (.c (.bool false))))]) (.seq (.seq (.reg [rg 10 (.p true (.fad (.t 2) 0)), rg 11 (.p true (.ld (.t 10) 6 true)), rg 12 (.p true (.fad (.t 3) 0)), rg 13 (.p true (.ld (.t 12) 6 true)), rg 14 (.call true 63 [(.t 11), (.t 13)]), rg 15 (.p true (.not (.t 14))), rg 16 (.p true (.mv (.t 15))), ⟨(some 17), (some (16, false)), (.p true (.fad (.t 2) 6))⟩, ⟨(some 18), (some (16, false)), (.p true (.ld (.t 17) 1 false))⟩, ⟨(some 19), (some (16, false)), (.p true (.fad (.t 3) 6))⟩, ⟨(some 20), (some (16, false)), (.p true (.ld (.t 19) 1 false))⟩, ⟨(some 21), (some (16, false)), (.call true 64 [(.t 18), (.t 20)])⟩, ⟨(some 22), (some (16, false)), (.p true (.not (.t 21)))⟩, rg 23 (.p true (.pick (.t 16) (.c (.bool true)) (.t 22))), rg 24 (.p true (.mv (.t 23))), ⟨(some 25), (some (24, false)), (.p true (.fad (.t 2) 7))⟩, ⟨(some 26), (some (24, false)), (.p true (.ld (.t 25) 2 true))⟩, ⟨(some 27), (some (24, false)), (.p true (.fad (.t 3) 7))⟩, ⟨(some 28), (some (24, false)), (.p true (.ld (.t 27) 2 true))⟩, ⟨(some 29), (some (24, false)), (.call true 65 [(.t 26), (.t 28)])⟩, ⟨(some 30), (some (24, false)), (.p true (.not (.t 29)))⟩, rg 31 (.p true (.pick (.t 24) (.c (.bool true)) (.t 30))), rg 32 (.p true (.mv (.t 31))), ⟨(some 33), (some (32, false)), (.p true (.fad (.t 2) 14))⟩, ⟨(some 34), (some (32, false)), (.p true (.ld (.t 33) 1 false))⟩, ⟨(some 35), (some (32, false)), (.p true (.fad (.t 3) 14))⟩, ⟨(some 36), (some (32, false)), (.p true (.ld (.t 35) 1 false))⟩, ⟨(some 37), (some (32, false)), (.call true 66 [(.t 34), (.t 36)])⟩, ⟨(some 38), (some (32, false)), (.p true (.not (.t 37)))⟩, rg 39 (.p true (.pick (.t 32) (.c (.bool true)) (.t 38)))]) (.cond (.t 39) (.seq (.reg [rg 4 (.p true (.mv (.c (.bool false))))]) .ret) .skip)) (.seq (.seq (.reg [rg 40 (.p true (.fad (.t 2) 9)), rg 41 (.p true (.ld (.t 40) 1 false)), rg 42 (.p true (.len (.t 41))), rg 43 (.p true (.fad (.t 3) 9)), rg 44 (.p true (.ld (.t 43) 1 false)), rg 45 (.p true (.len (.t 44))), rg 46 (.p true (.bin .neq (.t 42) (.t 45))), rg 47 (.p true (.mv (.t 46))), ⟨(some 48), (some (47, false)), (.p true (.fad (.t 2) 10))⟩, ⟨(some 49), (some (47, false)), (.p true (.ld (.t 48) 1 false))⟩, ⟨(some 50), (some (47, false)), (.p true (.len (.t 49)))⟩, ⟨(some 51), (some (47, false)), (.p true (.fad (.t 3) 10))⟩, ⟨(some 52), (some (47, false)), (.p true (.ld (.t 51) 1 false))⟩, ⟨(some 53), (some (47, false)), (.p true (.len (.t 52)))⟩, ⟨(some 54), (some (47, false)), (.p true (.bin .neq (.t 50) (.t 53)))⟩, rg 55 (.p true (.pick (.t 47) (.c (.bool true)) (.t 54))), rg 56 (.p true (.mv (.t 55))), ⟨(some 57), (some (56, false)), (.p true (.fad (.t 2) 11))⟩, ⟨(some 58), (some (56, false)), (.p true (.ld (.t 57) 1 false))⟩, ⟨(some 59), (some (56, false)), (.p true (.len (.t 58)))⟩, ⟨(some 60), (some (56, false)), (.p true (.fad (.t 3) 11))⟩, ⟨(some 61), (some (56, false)), (.p true (.ld (.t 60) 1 false))⟩, ⟨(some 62), (some (56, false)), (.p true (.len (.t 61)))⟩, ⟨(some 63), (some (56, false)), (.p true (.bin .neq (.t 59) (.t 62)))⟩, rg 64 (.p true (.pick (.t 56) (.c (.bool true)) (.t 63))), rg 65 (.p true (.mv (.t 64))), ⟨(some 66), (some (65, false)), (.p true (.fad (.t 2) 12))⟩, ⟨(some 67), (some (65, false)), (.p true (.ld (.t 66) 1 false))⟩, ⟨(some 68), (some (65, false)), (.p true (.len (.t 67)))⟩, ⟨(some 69), (some (65, false)), (.p true (.fad (.t 3) 12))⟩, ⟨(some 70), (some (65, false)), (.p true (.ld (.t 69) 1 false))⟩, ⟨(some 71), (some (65, false)), (.p true (.len (.t 70)))⟩, ⟨(some 72), (some (65, false)), (.p true (.bin .neq (.t 68) (.t 71)))⟩, rg 73 (.p true (.pick (.t 65) (.c (.bool true)) (.t 72))), rg 74 (.p true (.mv (.t 73))), ⟨(some 75), (some (74, false)), (.p true (.fad (.t 2) 13))⟩, ⟨(some 76), (some (74, false)), (.p true (.ld (.t 75) 1 false))⟩, ⟨(some 77), (some (74, false)), (.p true (.len (.t 76)))⟩, ⟨(some 78), (some (74, false)), (.p true (.fad (.t 3) 13))⟩, ⟨(some 79), (some (74, false)), (.p true (.ld (.t 78) 1 false))⟩, ⟨(some 80), (some (74, false)), (.p true (.len (.t 79)))⟩, ⟨(some 81), (some (74, false)), (.p true (.bin .neq (.t 77) (.t 80)))⟩, rg 82 (.p true (.pick (.t 74) (.c (.bool true)) (.t 81)))]) (.cond (.t 82) (.seq (.reg [rg 4 (.p true (.mv (.c (.bool false))))]) .ret) .skip)) (.seq (.seq (.reg [rg 5 (.p true (.mv (.c (.int .i64 0))))]) (.block 0 (.loop (.seq (.seq (.reg [rg 83 (.p true (.mv (.t 5))), rg 84 (.p true (.fad (.t 2) 9)), rg 85 (.p true (.ld (.t 84) 1 false)), rg 86 (.p true (.len (.t 85))), rg 87 (.p true (.bin .lss (.t 83) (.t 86)))]) (.cond (.t 87) .skip (.exit 0))) (.seq (.block 1 (.seq (.reg [rg 90 (.p false (.fad (.t 2) 9)), rg 91 (.p false (.ld (.t 90) 1 false)), rg 92 (.p false (.mv (.t 5))), rg 93 (.p false (.iad (.t 91) (.t 92) 1)), rg 94 (.p false (.ld (.t 93) 1 false)), rg 95 (.p false (.fad (.t 3) 9)), rg 96 (.p false (.ld (.t 95) 1 false)), rg 97 (.p false (.mv (.t 5))), rg 98 (.p false (.iad (.t 96) (.t 97) 1)), rg 99 (.p false (.ld (.t 98) 1 false)), rg 100 (.call false 67 [(.t 94), (.t 99)]), rg 101 (.p false (.not (.t 100)))]) (.cond (.t 101) (.seq (.reg [rg 4 (.p true (.mv (.c (.bool false))))]) .ret) .skip))) (.reg [rg 88 (.p true (.mv (.t 5))), rg 89 (.p true (.bin .add (.t 88) (.c (.int .i64 1)))), rg 5 (.p true (.mv (.t 89)))])))))) (.seq (.seq (.reg [rg 6 (.p true (.mv (.c (.int .i64 0))))]) (.block 2 (.loop (.seq (.seq (.reg [rg 102 (.p true (.mv (.t 6))), rg 103 (.p true (.fad (.t 2) 10)), rg 104 (.p true (.ld (.t 103) 1 false)), rg 105 (.p true (.len (.t 104))), rg 106 (.p true (.bin .lss (.t 102) (.t 105)))]) (.cond (.t 106) .skip (.exit 2))) (.seq (.block 3 (.seq (.reg [rg 109 (.p false (.fad (.t 2) 10)), rg 110 (.p false (.ld (.t 109) 1 false)), rg 111 (.p false (.mv (.t 6))), rg 112 (.p false (.iad (.t 110) (.t 111) 3)), rg 113 (.p false (.ld (.t 112) 3 true)), rg 114 (.p false (.fad (.t 3) 10)), rg 115 (.p false (.ld (.t 114) 1 false)), rg 116 (.p false (.mv (.t 6))), rg 117 (.p false (.iad (.t 115) (.t 116) 3)), rg 118 (.p false (.ld (.t 117) 3 true)), rg 119 (.p false (.eqs true [2, 0, 0] (.t 113) (.t 118)))]) (.cond (.t 119) (.seq (.reg [rg 4 (.p true (.mv (.c (.bool false))))]) .ret) .skip))) (.reg [rg 107 (.p true (.mv (.t 6))), rg 108 (.p true (.bin .add (.t 107) (.c (.int .i64 1)))), rg 6 (.p true (.mv (.t 108)))])))))) (.seq (.seq (.reg [rg 7 (.p true (.mv (.c (.int .i64 0))))]) (.block 4 (.loop (.seq (.seq (.reg [rg 120 (.p true (.mv (.t 7))), rg 121 (.p true (.fad (.t 2) 11)), rg 122 (.p true (.ld (.t 121) 1 false)), rg 123 (.p true (.len (.t 122))), rg 124 (.p true (.bin .lss (.t 120) (.t 123)))]) (.cond (.t 124) .skip (.exit 4))) (.seq (.block 5 (.seq (.reg [rg 127 (.p false (.fad (.t 2) 11)), rg 128 (.p false (.ld (.t 127) 1 false)), rg 129 (.p false (.mv (.t 7))), rg 130 (.p false (.iad (.t 128) (.t 129) 2)), rg 131 (.p false (.ld (.t 130) 2 true)), rg 132 (.p false (.fad (.t 3) 11)), rg 133 (.p false (.ld (.t 132) 1 false)), rg 134 (.p false (.mv (.t 7))), rg 135 (.p false (.iad (.t 133) (.t 134) 2)), rg 136 (.p false (.ld (.t 135) 2 true)), rg 137 (.p false (.eqs true [0, 0] (.t 131) (.t 136)))]) (.cond (.t 137) (.seq (.reg [rg 4 (.p true (.mv (.c (.bool false))))]) .ret) .skip))) (.reg [rg 125 (.p true (.mv (.t 7))), rg 126 (.p true (.bin .add (.t 125) (.c (.int .i64 1)))), rg 7 (.p true (.mv (.t 126)))])))))) (.seq (.seq (.reg [rg 8 (.p true (.mv (.c (.int .i64 0))))]) (.block 6 (.loop (.seq (.seq (.reg [rg 138 (.p true (.mv (.t 8))), rg 139 (.p true (.fad (.t 2) 12)), rg 140 (.p true (.ld (.t 139) 1 false)), rg 141 (.p true (.len (.t 140))), rg 142 (.p true (.bin .lss (.t 138) (.t 141)))]) (.cond (.t 142) .skip (.exit 6))) (.seq (.block 7 (.seq (.reg [rg 145 (.p false (.fad (.t 2) 12)), rg 146 (.p false (.ld (.t 145) 1 false)), rg 147 (.p false (.mv (.t 8))), rg 148 (.p false (.iad (.t 146) (.t 147) 6)), rg 149 (.p false (.ld (.t 148) 6 true)), rg 150 (.p false (.fad (.t 3) 12)), rg 151 (.p false (.ld (.t 150) 1 false)), rg 152 (.p false (.mv (.t 8))), rg 153 (.p false (.iad (.t 151) (.t 152) 6)), rg 154 (.p false (.ld (.t 153) 6 true)), rg 155 (.p false (.eqs true [2, 0, 0, 0, 0, 0] (.t 149) (.t 154)))]) (.cond (.t 155) (.seq (.reg [rg 4 (.p true (.mv (.c (.bool false))))]) .ret) .skip))) (.reg [rg 143 (.p true (.mv (.t 8))), rg 144 (.p true (.bin .add (.t 143) (.c (.int .i64 1)))), rg 8 (.p true (.mv (.t 144)))])))))) (.seq (.seq (.reg [rg 9 (.p true (.mv (.c (.int .i64 0))))]) (.block 8 (.loop (.seq (.seq (.reg [rg 156 (.p true (.mv (.t 9))), rg 157 (.p true (.fad (.t 2) 13)), rg 158 (.p true (.ld (.t 157) 1 false)), rg 159 (.p true (.len (.t 158))), rg 160 (.p true (.bin .lss (.t 156) (.t 159)))]) (.cond (.t 160) .skip (.exit 8))) (.seq (.block 9 (.seq (.reg [rg 163 (.p false (.fad (.t 2) 13)), rg 164 (.p false (.ld (.t 163) 1 false)), rg 165 (.p false (.mv (.t 9))), rg 166 (.p false (.iad (.t 164) (.t 165) 5)), rg 167 (.p false (.ld (.t 166) 5 true)), rg 168 (.p false (.fad (.t 3) 13)), rg 169 (.p false (.ld (.t 168) 1 false)), rg 170 (.p false (.mv (.t 9))), rg 171 (.p false (.iad (.t 169) (.t 170) 5)), rg 172 (.p false (.ld (.t 171) 5 true)), rg 173 (.p false (.eqs true [0, 2, 2, 0, 0] (.t 167) (.t 172)))]) (.cond (.t 173) (.seq (.reg [rg 4 (.p true (.mv (.c (.bool false))))]) .ret) .skip))) (.reg [rg 161 (.p true (.mv (.t 9))), rg 162 (.p true (.bin .add (.t 161) (.c (.int .i64 1)))), rg 9 (.p true (.mv (.t 162)))])))))) (.seq (.reg [rg 4 (.p true (.mv (.c (.bool true))))]) .ret)))))))))
theorem c14_is : compFn Try.prog 14 = some (c14, [(.tmp 4)]) := by kernel_rfl
theorem c14_ok : okFn Try.prog 14 = true := by kernel_rfl

noncomputable def F_spec_SameDesk_l4 (v0 : TDesk) (v1 : TDesk) (k9 : Int → Option (Bool)) : Int → Option (Bool)
 | v1044 => (bif (decide (v1044 < (v0.2.2.2.2.2.2.2.2.2.2.2.2.2.1.length : Int))) then ((ix v0.2.2.2.2.2.2.2.2.2.2.2.2.2.1 v1044).bind fun v1045 => ((ix v1.2.2.2.2.2.2.2.2.2.2.2.2.2.1 v1044).bind fun v1046 => (bif (!(decide (v1045.1 = v1046.1) && (decide (v1045.2.1 = v1046.2.1) && (decide (v1045.2.2.1 = v1046.2.2.1) && (decide (v1045.2.2.2.1 = v1046.2.2.2.1) && (decide (v1045.2.2.2.2 = v1046.2.2.2.2) && true)))))) then some false
 else k9 (w64 (v1044 + 1)))))
 else some true)
noncomputable def F_spec_SameDesk_l3 (v0 : TDesk) (v1 : TDesk) (k8 : Int → Option (Bool)) : Int → Option (Bool)
 | v1036 => (bif (decide (v1036 < (v0.2.2.2.2.2.2.2.2.2.2.2.2.1.length : Int))) then ((ix v0.2.2.2.2.2.2.2.2.2.2.2.2.1 v1036).bind fun v1037 => ((ix v1.2.2.2.2.2.2.2.2.2.2.2.2.1 v1036).bind fun v1038 => (bif (!(decide (v1037.1 = v1038.1) && (decide (v1037.2.1 = v1038.2.1) && (decide (v1037.2.2.1 = v1038.2.2.1) && (decide (v1037.2.2.2.1 = v1038.2.2.2.1) && (decide (v1037.2.2.2.2.1 = v1038.2.2.2.2.1) && (decide (v1037.2.2.2.2.2 = v1038.2.2.2.2.2) && true))))))) then some false
 else k8 (w64 (v1036 + 1)))))
 else loop (F_spec_SameDesk_l4 v0 v1) 0)
noncomputable def F_spec_SameDesk_l2 (v0 : TDesk) (v1 : TDesk) (k7 : Int → Option (Bool)) : Int → Option (Bool)
 | v1028 => (bif (decide (v1028 < (v0.2.2.2.2.2.2.2.2.2.2.2.1.length : Int))) then ((ix v0.2.2.2.2.2.2.2.2.2.2.2.1 v1028).bind fun v1029 => ((ix v1.2.2.2.2.2.2.2.2.2.2.2.1 v1028).bind fun v1030 => (bif (!(decide (v1029.1 = v1030.1) && (decide (v1029.2 = v1030.2) && true))) then some false
 else k7 (w64 (v1028 + 1)))))
 else loop (F_spec_SameDesk_l3 v0 v1) 0)
noncomputable def F_spec_SameDesk_l1 (v0 : TDesk) (v1 : TDesk) (k6 : Int → Option (Bool)) : Int → Option (Bool)
 | v1020 => (bif (decide (v1020 < (v0.2.2.2.2.2.2.2.2.2.2.1.length : Int))) then ((ix v0.2.2.2.2.2.2.2.2.2.2.1 v1020).bind fun v1021 => ((ix v1.2.2.2.2.2.2.2.2.2.2.1 v1020).bind fun v1022 => (bif (!(decide (v1021.1 = v1022.1) && (decide (v1021.2.1 = v1022.2.1) && (decide (v1021.2.2 = v1022.2.2) && true)))) then some false
 else k6 (w64 (v1020 + 1)))))
 else loop (F_spec_SameDesk_l2 v0 v1) 0)
noncomputable def F_spec_SameDesk_l0 (v0 : TDesk) (v1 : TDesk) (k5 : Int → Option (Bool)) : Int → Option (Bool)
 | v1011 => (bif (decide (v1011 < (v0.2.2.2.2.2.2.2.2.2.1.length : Int))) then ((ix v0.2.2.2.2.2.2.2.2.2.1 v1011).bind fun v1012 => ((ix v1.2.2.2.2.2.2.2.2.2.1 v1011).bind fun v1013 => ((F_spec_l00Same v1012 v1013).bind fun v1014 => (bif (!v1014) then some false
 else k5 (w64 (v1011 + 1))))))
 else loop (F_spec_SameDesk_l1 v0 v1) 0)
noncomputable def F_spec_SameDesk (v0 : TDesk) (v1 : TDesk) : Option (Bool) :=
 ((F_spec_SameRaga (v0.1, v0.2.1, v0.2.2.1, v0.2.2.2.1, v0.2.2.2.2.1, v0.2.2.2.2.2.1) (v1.1, v1.2.1, v1.2.2.1, v1.2.2.2.1, v1.2.2.2.2.1, v1.2.2.2.2.2.1)).bind fun v1000 => (bif (!v1000) then some false
 else ((F_spec_SameMelody v0.2.2.2.2.2.2.1 v1.2.2.2.2.2.2.1).bind fun v1001 => (bif (!v1001) then some false
 else ((F_spec_SameTuning (v0.2.2.2.2.2.2.2.1, v0.2.2.2.2.2.2.2.2.1) (v1.2.2.2.2.2.2.2.1, v1.2.2.2.2.2.2.2.2.1)).bind fun v1002 => (bif (!v1002) then some false
 else ((F_spec_SamePersons v0.2.2.2.2.2.2.2.2.2.2.2.2.2.2 v1.2.2.2.2.2.2.2.2.2.2.2.2.2.2).bind fun v1003 => (bif (!v1003) then some false
 else (bif (decide ((v0.2.2.2.2.2.2.2.2.2.1.length : Int) ≠ (v1.2.2.2.2.2.2.2.2.2.1.length : Int))) then some false
 else (bif (decide ((v0.2.2.2.2.2.2.2.2.2.2.1.length : Int) ≠ (v1.2.2.2.2.2.2.2.2.2.2.1.length : Int))) then some false
 else (bif (decide ((v0.2.2.2.2.2.2.2.2.2.2.2.1.length : Int) ≠ (v1.2.2.2.2.2.2.2.2.2.2.2.1.length : Int))) then some false
 else (bif (decide ((v0.2.2.2.2.2.2.2.2.2.2.2.2.1.length : Int) ≠ (v1.2.2.2.2.2.2.2.2.2.2.2.2.1.length : Int))) then some false
 else (bif (decide ((v0.2.2.2.2.2.2.2.2.2.2.2.2.2.1.length : Int) ≠ (v1.2.2.2.2.2.2.2.2.2.2.2.2.2.1.length : Int))) then some false
 else loop (F_spec_SameDesk_l0 v0 v1) 0)))))))))))))
@[simp] def res_spec_SameDesk (r : Bool) : RV := .one (.one (.val (.bool r)))
theorem con_spec_SameDesk {v0 : TDesk} {v1 : TDesk} {r : Bool} (hF : F_spec_SameDesk v0 v1 = some r) : Con Try.prog 14 [eDesk v0, eDesk v1] (res_spec_SameDesk r) := by
 unfold F_spec_SameDesk at hF
 refine con_of c14_is fun N => ?_
 refine ws 0 192 ?_
 refine qf (.ptr 0 0 0) [(0, .box [AS v0.1, AL 1 (v0.2.1.map (V.int .i64)), AL 1 (v0.2.2.1.map (V.int .i64)), AI v0.2.2.2.1, AI v0.2.2.2.2.1, AL 1 (v0.2.2.2.2.2.1.map (eL 1 (V.int .i64))), AL 2 (v0.2.2.2.2.2.2.1.map eNote), AS v0.2.2.2.2.2.2.2.1, AL 2 (v0.2.2.2.2.2.2.2.2.1.map eNote), AL 1 (v0.2.2.2.2.2.2.2.2.2.1.map (eL 1 (V.int .i64))), AL 3 (v0.2.2.2.2.2.2.2.2.2.2.1.map eSyllable), AL 2 (v0.2.2.2.2.2.2.2.2.2.2.2.1.map eNote), AL 6 (v0.2.2.2.2.2.2.2.2.2.2.2.2.1.map eItem), AL 5 (v0.2.2.2.2.2.2.2.2.2.2.2.2.2.1.map eLesson), AL 3 (v0.2.2.2.2.2.2.2.2.2.2.2.2.2.2.map ePerson)])] (by simp) ?_
 refine qf (.ptr 64 0 0) [(64, .box [AS v1.1, AL 1 (v1.2.1.map (V.int .i64)), AL 1 (v1.2.2.1.map (V.int .i64)), AI v1.2.2.2.1, AI v1.2.2.2.2.1, AL 1 (v1.2.2.2.2.2.1.map (eL 1 (V.int .i64))), AL 2 (v1.2.2.2.2.2.2.1.map eNote), AS v1.2.2.2.2.2.2.2.1, AL 2 (v1.2.2.2.2.2.2.2.2.1.map eNote), AL 1 (v1.2.2.2.2.2.2.2.2.2.1.map (eL 1 (V.int .i64))), AL 3 (v1.2.2.2.2.2.2.2.2.2.2.1.map eSyllable), AL 2 (v1.2.2.2.2.2.2.2.2.2.2.2.1.map eNote), AL 6 (v1.2.2.2.2.2.2.2.2.2.2.2.2.1.map eItem), AL 5 (v1.2.2.2.2.2.2.2.2.2.2.2.2.2.1.map eLesson), AL 3 (v1.2.2.2.2.2.2.2.2.2.2.2.2.2.2.map ePerson)]), (0, .box [AS v0.1, AL 1 (v0.2.1.map (V.int .i64)), AL 1 (v0.2.2.1.map (V.int .i64)), AI v0.2.2.2.1, AI v0.2.2.2.2.1, AL 1 (v0.2.2.2.2.2.1.map (eL 1 (V.int .i64))), AL 2 (v0.2.2.2.2.2.2.1.map eNote), AS v0.2.2.2.2.2.2.2.1, AL 2 (v0.2.2.2.2.2.2.2.2.1.map eNote), AL 1 (v0.2.2.2.2.2.2.2.2.2.1.map (eL 1 (V.int .i64))), AL 3 (v0.2.2.2.2.2.2.2.2.2.2.1.map eSyllable), AL 2 (v0.2.2.2.2.2.2.2.2.2.2.2.1.map eNote), AL 6 (v0.2.2.2.2.2.2.2.2.2.2.2.2.1.map eItem), AL 5 (v0.2.2.2.2.2.2.2.2.2.2.2.2.2.1.map eLesson), AL 3 (v0.2.2.2.2.2.2.2.2.2.2.2.2.2.2.map ePerson)])] (by simp) ?_
 refine qp (AB false) rfl ?_
 refine r_nil ?_
 refine w_seq ?_
 refine ws 192 2112 ?_
 refine qp (.ptr 0 0 0) rfl (qp (.agg [AS v0.1, AL 1 (v0.2.1.map (V.int .i64)), AL 1 (v0.2.2.1.map (V.int .i64)), AI v0.2.2.2.1, AI v0.2.2.2.2.1, AL 1 (v0.2.2.2.2.2.1.map (eL 1 (V.int .i64)))]) rfl (qp (.ptr 64 0 0) rfl (qp (.agg [AS v1.1, AL 1 (v1.2.1.map (V.int .i64)), AL 1 (v1.2.2.1.map (V.int .i64)), AI v1.2.2.2.1, AI v1.2.2.2.2.1, AL 1 (v1.2.2.2.2.2.1.map (eL 1 (V.int .i64)))]) rfl ?_)))
 obtain ⟨v1000, e1000, hF⟩ := bind_get hF
 refine qc (AB v1000) [(64, .box [AS v1.1, AL 1 (v1.2.1.map (V.int .i64)), AL 1 (v1.2.2.1.map (V.int .i64)), AI v1.2.2.2.1, AI v1.2.2.2.2.1, AL 1 (v1.2.2.2.2.2.1.map (eL 1 (V.int .i64))), AL 2 (v1.2.2.2.2.2.2.1.map eNote), AS v1.2.2.2.2.2.2.2.1, AL 2 (v1.2.2.2.2.2.2.2.2.1.map eNote), AL 1 (v1.2.2.2.2.2.2.2.2.2.1.map (eL 1 (V.int .i64))), AL 3 (v1.2.2.2.2.2.2.2.2.2.2.1.map eSyllable), AL 2 (v1.2.2.2.2.2.2.2.2.2.2.2.1.map eNote), AL 6 (v1.2.2.2.2.2.2.2.2.2.2.2.2.1.map eItem), AL 5 (v1.2.2.2.2.2.2.2.2.2.2.2.2.2.1.map eLesson), AL 3 (v1.2.2.2.2.2.2.2.2.2.2.2.2.2.2.map ePerson)]), (0, .box [AS v0.1, AL 1 (v0.2.1.map (V.int .i64)), AL 1 (v0.2.2.1.map (V.int .i64)), AI v0.2.2.2.1, AI v0.2.2.2.2.1, AL 1 (v0.2.2.2.2.2.1.map (eL 1 (V.int .i64))), AL 2 (v0.2.2.2.2.2.2.1.map eNote), AS v0.2.2.2.2.2.2.2.1, AL 2 (v0.2.2.2.2.2.2.2.2.1.map eNote), AL 1 (v0.2.2.2.2.2.2.2.2.2.1.map (eL 1 (V.int .i64))), AL 3 (v0.2.2.2.2.2.2.2.2.2.2.1.map eSyllable), AL 2 (v0.2.2.2.2.2.2.2.2.2.2.2.1.map eNote), AL 6 (v0.2.2.2.2.2.2.2.2.2.2.2.2.1.map eItem), AL 5 (v0.2.2.2.2.2.2.2.2.2.2.2.2.2.1.map eLesson), AL 3 (v0.2.2.2.2.2.2.2.2.2.2.2.2.2.2.map ePerson)])] false (con_spec_SameRaga e1000) c63_ok (by first | rfl | simp) rfl ?_
 refine qp (AB (!v1000)) rfl (qp (AB (!v1000)) rfl ?_)
 refine q_case 16 hF rfl (fun hF => ?_) (fun hF => ?_)
 ·
  refine qn rfl (qn rfl (qn rfl (qn rfl (qn rfl (qn rfl (qp (AB true) rfl (qp (AB true) rfl ?_)))))))
  refine qn rfl (qn rfl (qn rfl (qn rfl (qn rfl (qn rfl (qp (AB true) rfl (qp (AB true) rfl ?_)))))))
  refine qn rfl (qn rfl (qn rfl (qn rfl (qn rfl (qn rfl (qp (AB true) rfl ?_))))))
  refine r_nil ?_
  refine w_true rfl ?_
  refine ws 2112 2176 ?_
  refine qp (AB false) rfl ?_
  refine r_nil ?_
  refine w_ret ?_
  refine thenQ_r ?_
  cases hF
  exact eR
 ·
  refine qg (.ptr 0 0 6) rfl rfl (qg (AL 2 (v0.2.2.2.2.2.2.1.map eNote)) rfl rfl (qg (.ptr 64 0 6) rfl rfl (qg (AL 2 (v1.2.2.2.2.2.2.1.map eNote)) rfl rfl ?_)))
  obtain ⟨v1001, e1001, hF⟩ := bind_get hF
  refine qcg (AB v1001) [(64, .box [AS v1.1, AL 1 (v1.2.1.map (V.int .i64)), AL 1 (v1.2.2.1.map (V.int .i64)), AI v1.2.2.2.1, AI v1.2.2.2.2.1, AL 1 (v1.2.2.2.2.2.1.map (eL 1 (V.int .i64))), AL 2 (v1.2.2.2.2.2.2.1.map eNote), AS v1.2.2.2.2.2.2.2.1, AL 2 (v1.2.2.2.2.2.2.2.2.1.map eNote), AL 1 (v1.2.2.2.2.2.2.2.2.2.1.map (eL 1 (V.int .i64))), AL 3 (v1.2.2.2.2.2.2.2.2.2.2.1.map eSyllable), AL 2 (v1.2.2.2.2.2.2.2.2.2.2.2.1.map eNote), AL 6 (v1.2.2.2.2.2.2.2.2.2.2.2.2.1.map eItem), AL 5 (v1.2.2.2.2.2.2.2.2.2.2.2.2.2.1.map eLesson), AL 3 (v1.2.2.2.2.2.2.2.2.2.2.2.2.2.2.map ePerson)]), (0, .box [AS v0.1, AL 1 (v0.2.1.map (V.int .i64)), AL 1 (v0.2.2.1.map (V.int .i64)), AI v0.2.2.2.1, AI v0.2.2.2.2.1, AL 1 (v0.2.2.2.2.2.1.map (eL 1 (V.int .i64))), AL 2 (v0.2.2.2.2.2.2.1.map eNote), AS v0.2.2.2.2.2.2.2.1, AL 2 (v0.2.2.2.2.2.2.2.2.1.map eNote), AL 1 (v0.2.2.2.2.2.2.2.2.2.1.map (eL 1 (V.int .i64))), AL 3 (v0.2.2.2.2.2.2.2.2.2.2.1.map eSyllable), AL 2 (v0.2.2.2.2.2.2.2.2.2.2.2.1.map eNote), AL 6 (v0.2.2.2.2.2.2.2.2.2.2.2.2.1.map eItem), AL 5 (v0.2.2.2.2.2.2.2.2.2.2.2.2.2.1.map eLesson), AL 3 (v0.2.2.2.2.2.2.2.2.2.2.2.2.2.2.map ePerson)])] false rfl (con_spec_SameMelody e1001) c64_ok (by first | rfl | simp) rfl ?_
  refine qg (AB (!v1001)) rfl rfl (qp (AB (!v1001)) rfl (qp (AB (!v1001)) rfl ?_))
  refine q_case 24 hF rfl (fun hF => ?_) (fun hF => ?_)
  ·
   refine qn rfl (qn rfl (qn rfl (qn rfl (qn rfl (qn rfl (qp (AB true) rfl (qp (AB true) rfl ?_)))))))
   refine qn rfl (qn rfl (qn rfl (qn rfl (qn rfl (qn rfl (qp (AB true) rfl ?_))))))
   refine r_nil ?_
   refine w_true rfl ?_
   refine ws 2112 2176 ?_
   refine qp (AB false) rfl ?_
   refine r_nil ?_
   refine w_ret ?_
   refine thenQ_r ?_
   cases hF
   exact eR
  ·
   refine qg (.ptr 0 0 7) rfl rfl (qg (.agg [AS v0.2.2.2.2.2.2.2.1, AL 2 (v0.2.2.2.2.2.2.2.2.1.map eNote)]) rfl rfl (qg (.ptr 64 0 7) rfl rfl (qg (.agg [AS v1.2.2.2.2.2.2.2.1, AL 2 (v1.2.2.2.2.2.2.2.2.1.map eNote)]) rfl rfl ?_)))
   obtain ⟨v1002, e1002, hF⟩ := bind_get hF
   refine qcg (AB v1002) [(64, .box [AS v1.1, AL 1 (v1.2.1.map (V.int .i64)), AL 1 (v1.2.2.1.map (V.int .i64)), AI v1.2.2.2.1, AI v1.2.2.2.2.1, AL 1 (v1.2.2.2.2.2.1.map (eL 1 (V.int .i64))), AL 2 (v1.2.2.2.2.2.2.1.map eNote), AS v1.2.2.2.2.2.2.2.1, AL 2 (v1.2.2.2.2.2.2.2.2.1.map eNote), AL 1 (v1.2.2.2.2.2.2.2.2.2.1.map (eL 1 (V.int .i64))), AL 3 (v1.2.2.2.2.2.2.2.2.2.2.1.map eSyllable), AL 2 (v1.2.2.2.2.2.2.2.2.2.2.2.1.map eNote), AL 6 (v1.2.2.2.2.2.2.2.2.2.2.2.2.1.map eItem), AL 5 (v1.2.2.2.2.2.2.2.2.2.2.2.2.2.1.map eLesson), AL 3 (v1.2.2.2.2.2.2.2.2.2.2.2.2.2.2.map ePerson)]), (0, .box [AS v0.1, AL 1 (v0.2.1.map (V.int .i64)), AL 1 (v0.2.2.1.map (V.int .i64)), AI v0.2.2.2.1, AI v0.2.2.2.2.1, AL 1 (v0.2.2.2.2.2.1.map (eL 1 (V.int .i64))), AL 2 (v0.2.2.2.2.2.2.1.map eNote), AS v0.2.2.2.2.2.2.2.1, AL 2 (v0.2.2.2.2.2.2.2.2.1.map eNote), AL 1 (v0.2.2.2.2.2.2.2.2.2.1.map (eL 1 (V.int .i64))), AL 3 (v0.2.2.2.2.2.2.2.2.2.2.1.map eSyllable), AL 2 (v0.2.2.2.2.2.2.2.2.2.2.2.1.map eNote), AL 6 (v0.2.2.2.2.2.2.2.2.2.2.2.2.1.map eItem), AL 5 (v0.2.2.2.2.2.2.2.2.2.2.2.2.2.1.map eLesson), AL 3 (v0.2.2.2.2.2.2.2.2.2.2.2.2.2.2.map ePerson)])] false rfl (con_spec_SameTuning e1002) c65_ok (by first | rfl | simp) rfl ?_
   refine qg (AB (!v1002)) rfl rfl (qp (AB (!v1002)) rfl (qp (AB (!v1002)) rfl ?_))
   refine q_case 32 hF rfl (fun hF => ?_) (fun hF => ?_)
   ·
    refine qn rfl (qn rfl (qn rfl (qn rfl (qn rfl (qn rfl (qp (AB true) rfl ?_))))))
    refine r_nil ?_
    refine w_true rfl ?_
    refine ws 2112 2176 ?_
    refine qp (AB false) rfl ?_
    refine r_nil ?_
    refine w_ret ?_
    refine thenQ_r ?_
    cases hF
    exact eR
   ·
    refine qg (.ptr 0 0 14) rfl rfl (qg (AL 3 (v0.2.2.2.2.2.2.2.2.2.2.2.2.2.2.map ePerson)) rfl rfl (qg (.ptr 64 0 14) rfl rfl (qg (AL 3 (v1.2.2.2.2.2.2.2.2.2.2.2.2.2.2.map ePerson)) rfl rfl ?_)))
    obtain ⟨v1003, e1003, hF⟩ := bind_get hF
    refine qcg (AB v1003) [(64, .box [AS v1.1, AL 1 (v1.2.1.map (V.int .i64)), AL 1 (v1.2.2.1.map (V.int .i64)), AI v1.2.2.2.1, AI v1.2.2.2.2.1, AL 1 (v1.2.2.2.2.2.1.map (eL 1 (V.int .i64))), AL 2 (v1.2.2.2.2.2.2.1.map eNote), AS v1.2.2.2.2.2.2.2.1, AL 2 (v1.2.2.2.2.2.2.2.2.1.map eNote), AL 1 (v1.2.2.2.2.2.2.2.2.2.1.map (eL 1 (V.int .i64))), AL 3 (v1.2.2.2.2.2.2.2.2.2.2.1.map eSyllable), AL 2 (v1.2.2.2.2.2.2.2.2.2.2.2.1.map eNote), AL 6 (v1.2.2.2.2.2.2.2.2.2.2.2.2.1.map eItem), AL 5 (v1.2.2.2.2.2.2.2.2.2.2.2.2.2.1.map eLesson), AL 3 (v1.2.2.2.2.2.2.2.2.2.2.2.2.2.2.map ePerson)]), (0, .box [AS v0.1, AL 1 (v0.2.1.map (V.int .i64)), AL 1 (v0.2.2.1.map (V.int .i64)), AI v0.2.2.2.1, AI v0.2.2.2.2.1, AL 1 (v0.2.2.2.2.2.1.map (eL 1 (V.int .i64))), AL 2 (v0.2.2.2.2.2.2.1.map eNote), AS v0.2.2.2.2.2.2.2.1, AL 2 (v0.2.2.2.2.2.2.2.2.1.map eNote), AL 1 (v0.2.2.2.2.2.2.2.2.2.1.map (eL 1 (V.int .i64))), AL 3 (v0.2.2.2.2.2.2.2.2.2.2.1.map eSyllable), AL 2 (v0.2.2.2.2.2.2.2.2.2.2.2.1.map eNote), AL 6 (v0.2.2.2.2.2.2.2.2.2.2.2.2.1.map eItem), AL 5 (v0.2.2.2.2.2.2.2.2.2.2.2.2.2.1.map eLesson), AL 3 (v0.2.2.2.2.2.2.2.2.2.2.2.2.2.2.map ePerson)])] false rfl (con_spec_SamePersons e1003) c66_ok (by first | rfl | simp) rfl ?_
    refine qg (AB (!v1003)) rfl rfl (qp (AB (!v1003)) rfl ?_)
    refine r_nil ?_
    refine cF hF (fun hF => ?_) fun hF => ?_
    ·
     refine ws 2112 2176 ?_
     refine qp (AB false) rfl ?_
     refine r_nil ?_
     refine w_ret ?_
     refine thenQ_r ?_
     cases hF
     exact eR
    ·
     refine w_skip ?_
     refine thenQ_n ?_
     refine w_seq ?_
     refine ws 2112 4864 ?_
     refine qp (.ptr 0 0 9) rfl (qp (AL 1 (v0.2.2.2.2.2.2.2.2.2.1.map (eL 1 (V.int .i64)))) rfl (qp (AI (v0.2.2.2.2.2.2.2.2.2.1.length : Int)) (ev_len_n rfl) (qp (.ptr 64 0 9) rfl (qp (AL 1 (v1.2.2.2.2.2.2.2.2.2.1.map (eL 1 (V.int .i64)))) rfl (qp (AI (v1.2.2.2.2.2.2.2.2.2.1.length : Int)) (ev_len_n rfl) (qp (AB (decide ((v0.2.2.2.2.2.2.2.2.2.1.length : Int) ≠ (v1.2.2.2.2.2.2.2.2.2.1.length : Int)))) rfl (qp (AB (decide ((v0.2.2.2.2.2.2.2.2.2.1.length : Int) ≠ (v1.2.2.2.2.2.2.2.2.2.1.length : Int)))) rfl ?_)))))))
     refine q_case 47 hF rfl (fun hF => ?_) (fun hF => ?_)
     ·
      refine qn rfl (qn rfl (qn rfl (qn rfl (qn rfl (qn rfl (qn rfl (qp (AB true) rfl ?_)))))))
      refine qp (AB true) rfl (qn rfl (qn rfl (qn rfl (qn rfl (qn rfl (qn rfl (qn rfl ?_)))))))
      refine qp (AB true) rfl (qp (AB true) rfl (qn rfl (qn rfl (qn rfl (qn rfl (qn rfl (qn rfl ?_)))))))
      refine qn rfl (qp (AB true) rfl (qp (AB true) rfl (qn rfl (qn rfl (qn rfl (qn rfl (qn rfl ?_)))))))
      refine qn rfl (qn rfl (qp (AB true) rfl ?_))
      refine r_nil ?_
      refine w_true rfl ?_
      refine ws 4864 4928 ?_
      refine qp (AB false) rfl ?_
      refine r_nil ?_
      refine w_ret ?_
      refine thenQ_r ?_
      cases hF
      exact eR
     ·
      refine qg (.ptr 0 0 10) rfl rfl (qg (AL 3 (v0.2.2.2.2.2.2.2.2.2.2.1.map eSyllable)) rfl rfl (qg (AI (v0.2.2.2.2.2.2.2.2.2.2.1.length : Int)) rfl (ev_len_n rfl) (qg (.ptr 64 0 10) rfl rfl (qg (AL 3 (v1.2.2.2.2.2.2.2.2.2.2.1.map eSyllable)) rfl rfl (qg (AI (v1.2.2.2.2.2.2.2.2.2.2.1.length : Int)) rfl (ev_len_n rfl) (qg (AB (decide ((v0.2.2.2.2.2.2.2.2.2.2.1.length : Int) ≠ (v1.2.2.2.2.2.2.2.2.2.2.1.length : Int)))) rfl rfl (qp (AB (decide ((v0.2.2.2.2.2.2.2.2.2.2.1.length : Int) ≠ (v1.2.2.2.2.2.2.2.2.2.2.1.length : Int)))) rfl ?_)))))))
      refine qp (AB (decide ((v0.2.2.2.2.2.2.2.2.2.2.1.length : Int) ≠ (v1.2.2.2.2.2.2.2.2.2.2.1.length : Int)))) rfl ?_
      refine q_case 56 hF rfl (fun hF => ?_) (fun hF => ?_)
      ·
       refine qn rfl (qn rfl (qn rfl (qn rfl (qn rfl (qn rfl (qn rfl (qp (AB true) rfl ?_)))))))
       refine qp (AB true) rfl (qn rfl (qn rfl (qn rfl (qn rfl (qn rfl (qn rfl (qn rfl ?_)))))))
       refine qp (AB true) rfl (qp (AB true) rfl (qn rfl (qn rfl (qn rfl (qn rfl (qn rfl (qn rfl ?_)))))))
       refine qn rfl (qp (AB true) rfl ?_)
       refine r_nil ?_
       refine w_true rfl ?_
       refine ws 4864 4928 ?_
       refine qp (AB false) rfl ?_
       refine r_nil ?_
       refine w_ret ?_
       refine thenQ_r ?_
       cases hF
       exact eR
      ·
       refine qg (.ptr 0 0 11) rfl rfl (qg (AL 2 (v0.2.2.2.2.2.2.2.2.2.2.2.1.map eNote)) rfl rfl (qg (AI (v0.2.2.2.2.2.2.2.2.2.2.2.1.length : Int)) rfl (ev_len_n rfl) (qg (.ptr 64 0 11) rfl rfl (qg (AL 2 (v1.2.2.2.2.2.2.2.2.2.2.2.1.map eNote)) rfl rfl (qg (AI (v1.2.2.2.2.2.2.2.2.2.2.2.1.length : Int)) rfl (ev_len_n rfl) (qg (AB (decide ((v0.2.2.2.2.2.2.2.2.2.2.2.1.length : Int) ≠ (v1.2.2.2.2.2.2.2.2.2.2.2.1.length : Int)))) rfl rfl (qp (AB (decide ((v0.2.2.2.2.2.2.2.2.2.2.2.1.length : Int) ≠ (v1.2.2.2.2.2.2.2.2.2.2.2.1.length : Int)))) rfl ?_)))))))
       refine qp (AB (decide ((v0.2.2.2.2.2.2.2.2.2.2.2.1.length : Int) ≠ (v1.2.2.2.2.2.2.2.2.2.2.2.1.length : Int)))) rfl ?_
       refine q_case 65 hF rfl (fun hF => ?_) (fun hF => ?_)
       ·
        refine qn rfl (qn rfl (qn rfl (qn rfl (qn rfl (qn rfl (qn rfl (qp (AB true) rfl ?_)))))))
        refine qp (AB true) rfl (qn rfl (qn rfl (qn rfl (qn rfl (qn rfl (qn rfl (qn rfl ?_)))))))
        refine qp (AB true) rfl ?_
        refine r_nil ?_
        refine w_true rfl ?_
        refine ws 4864 4928 ?_
        refine qp (AB false) rfl ?_
        refine r_nil ?_
        refine w_ret ?_
        refine thenQ_r ?_
        cases hF
        exact eR
       ·
        refine qg (.ptr 0 0 12) rfl rfl (qg (AL 6 (v0.2.2.2.2.2.2.2.2.2.2.2.2.1.map eItem)) rfl rfl (qg (AI (v0.2.2.2.2.2.2.2.2.2.2.2.2.1.length : Int)) rfl (ev_len_n rfl) (qg (.ptr 64 0 12) rfl rfl (qg (AL 6 (v1.2.2.2.2.2.2.2.2.2.2.2.2.1.map eItem)) rfl rfl (qg (AI (v1.2.2.2.2.2.2.2.2.2.2.2.2.1.length : Int)) rfl (ev_len_n rfl) (qg (AB (decide ((v0.2.2.2.2.2.2.2.2.2.2.2.2.1.length : Int) ≠ (v1.2.2.2.2.2.2.2.2.2.2.2.2.1.length : Int)))) rfl rfl (qp (AB (decide ((v0.2.2.2.2.2.2.2.2.2.2.2.2.1.length : Int) ≠ (v1.2.2.2.2.2.2.2.2.2.2.2.2.1.length : Int)))) rfl ?_)))))))
        refine qp (AB (decide ((v0.2.2.2.2.2.2.2.2.2.2.2.2.1.length : Int) ≠ (v1.2.2.2.2.2.2.2.2.2.2.2.2.1.length : Int)))) rfl ?_
        refine q_case 74 hF rfl (fun hF => ?_) (fun hF => ?_)
        ·
         refine qn rfl (qn rfl (qn rfl (qn rfl (qn rfl (qn rfl (qn rfl (qp (AB true) rfl ?_)))))))
         refine r_nil ?_
         refine w_true rfl ?_
         refine ws 4864 4928 ?_
         refine qp (AB false) rfl ?_
         refine r_nil ?_
         refine w_ret ?_
         refine thenQ_r ?_
         cases hF
         exact eR
        ·
         refine qg (.ptr 0 0 13) rfl rfl (qg (AL 5 (v0.2.2.2.2.2.2.2.2.2.2.2.2.2.1.map eLesson)) rfl rfl (qg (AI (v0.2.2.2.2.2.2.2.2.2.2.2.2.2.1.length : Int)) rfl (ev_len_n rfl) (qg (.ptr 64 0 13) rfl rfl (qg (AL 5 (v1.2.2.2.2.2.2.2.2.2.2.2.2.2.1.map eLesson)) rfl rfl (qg (AI (v1.2.2.2.2.2.2.2.2.2.2.2.2.2.1.length : Int)) rfl (ev_len_n rfl) (qg (AB (decide ((v0.2.2.2.2.2.2.2.2.2.2.2.2.2.1.length : Int) ≠ (v1.2.2.2.2.2.2.2.2.2.2.2.2.2.1.length : Int)))) rfl rfl (qp (AB (decide ((v0.2.2.2.2.2.2.2.2.2.2.2.2.2.1.length : Int) ≠ (v1.2.2.2.2.2.2.2.2.2.2.2.2.2.1.length : Int)))) rfl ?_)))))))
         refine r_nil ?_
         refine cF hF (fun hF => ?_) fun hF => ?_
         ·
          refine ws 4864 4928 ?_
          refine qp (AB false) rfl ?_
          refine r_nil ?_
          refine w_ret ?_
          refine thenQ_r ?_
          cases hF
          exact eR
         ·
          refine w_skip ?_
          refine thenQ_n ?_
          refine w_seq ?_
          refine ws 4864 4928 ?_
          refine qp (AI 0) rfl ?_
          refine r_nil ?_
          refine w_block ?_
          refine wr (l' := [(2, .ptr 0 0 0), (3, .ptr 1 0 0), (5, AI 0)]) (L := [(1, .box [AS v1.1, AL 1 (v1.2.1.map (V.int .i64)), AL 1 (v1.2.2.1.map (V.int .i64)), AI v1.2.2.2.1, AI v1.2.2.2.2.1, AL 1 (v1.2.2.2.2.2.1.map (eL 1 (V.int .i64))), AL 2 (v1.2.2.2.2.2.2.1.map eNote), AS v1.2.2.2.2.2.2.2.1, AL 2 (v1.2.2.2.2.2.2.2.2.1.map eNote), AL 1 (v1.2.2.2.2.2.2.2.2.2.1.map (eL 1 (V.int .i64))), AL 3 (v1.2.2.2.2.2.2.2.2.2.2.1.map eSyllable), AL 2 (v1.2.2.2.2.2.2.2.2.2.2.2.1.map eNote), AL 6 (v1.2.2.2.2.2.2.2.2.2.2.2.2.1.map eItem), AL 5 (v1.2.2.2.2.2.2.2.2.2.2.2.2.2.1.map eLesson), AL 3 (v1.2.2.2.2.2.2.2.2.2.2.2.2.2.2.map ePerson)]), (0, .box [AS v0.1, AL 1 (v0.2.1.map (V.int .i64)), AL 1 (v0.2.2.1.map (V.int .i64)), AI v0.2.2.2.1, AI v0.2.2.2.2.1, AL 1 (v0.2.2.2.2.2.1.map (eL 1 (V.int .i64))), AL 2 (v0.2.2.2.2.2.2.1.map eNote), AS v0.2.2.2.2.2.2.2.1, AL 2 (v0.2.2.2.2.2.2.2.2.1.map eNote), AL 1 (v0.2.2.2.2.2.2.2.2.2.1.map (eL 1 (V.int .i64))), AL 3 (v0.2.2.2.2.2.2.2.2.2.2.1.map eSyllable), AL 2 (v0.2.2.2.2.2.2.2.2.2.2.2.1.map eNote), AL 6 (v0.2.2.2.2.2.2.2.2.2.2.2.2.1.map eItem), AL 5 (v0.2.2.2.2.2.2.2.2.2.2.2.2.2.1.map eLesson), AL 3 (v0.2.2.2.2.2.2.2.2.2.2.2.2.2.2.map ePerson)])]) [2, 3, 5] [(64, 1), (0, 0)] 2 ?_
          refine w_loopF (F_spec_SameDesk_l0 v0 v1) (fun s : Int => mkS [(2, .ptr 0 0 0), (3, .ptr 1 0 0), (5, AI s)] (fo [(1, .box [AS v1.1, AL 1 (v1.2.1.map (V.int .i64)), AL 1 (v1.2.2.1.map (V.int .i64)), AI v1.2.2.2.1, AI v1.2.2.2.2.1, AL 1 (v1.2.2.2.2.2.1.map (eL 1 (V.int .i64))), AL 2 (v1.2.2.2.2.2.2.1.map eNote), AS v1.2.2.2.2.2.2.2.1, AL 2 (v1.2.2.2.2.2.2.2.2.1.map eNote), AL 1 (v1.2.2.2.2.2.2.2.2.2.1.map (eL 1 (V.int .i64))), AL 3 (v1.2.2.2.2.2.2.2.2.2.2.1.map eSyllable), AL 2 (v1.2.2.2.2.2.2.2.2.2.2.2.1.map eNote), AL 6 (v1.2.2.2.2.2.2.2.2.2.2.2.2.1.map eItem), AL 5 (v1.2.2.2.2.2.2.2.2.2.2.2.2.2.1.map eLesson), AL 3 (v1.2.2.2.2.2.2.2.2.2.2.2.2.2.2.map ePerson)]), (0, .box [AS v0.1, AL 1 (v0.2.1.map (V.int .i64)), AL 1 (v0.2.2.1.map (V.int .i64)), AI v0.2.2.2.1, AI v0.2.2.2.2.1, AL 1 (v0.2.2.2.2.2.1.map (eL 1 (V.int .i64))), AL 2 (v0.2.2.2.2.2.2.1.map eNote), AS v0.2.2.2.2.2.2.2.1, AL 2 (v0.2.2.2.2.2.2.2.2.1.map eNote), AL 1 (v0.2.2.2.2.2.2.2.2.2.1.map (eL 1 (V.int .i64))), AL 3 (v0.2.2.2.2.2.2.2.2.2.2.1.map eSyllable), AL 2 (v0.2.2.2.2.2.2.2.2.2.2.2.1.map eNote), AL 6 (v0.2.2.2.2.2.2.2.2.2.2.2.2.1.map eItem), AL 5 (v0.2.2.2.2.2.2.2.2.2.2.2.2.2.1.map eLesson), AL 3 (v0.2.2.2.2.2.2.2.2.2.2.2.2.2.2.map ePerson)])]) 2) hF ?_
          rintro k5 v1011 hF
          rw [F_spec_SameDesk_l0] at hF
          try dsimp only
          refine w_seq ?_
          refine ws 2 322 ?_
          refine qp (AI v1011) rfl (qp (.ptr 0 0 9) rfl (qp (AL 1 (v0.2.2.2.2.2.2.2.2.2.1.map (eL 1 (V.int .i64)))) rfl (qp (AI (v0.2.2.2.2.2.2.2.2.2.1.length : Int)) (ev_len_n rfl) (qp (AB (decide (v1011 < (v0.2.2.2.2.2.2.2.2.2.1.length : Int)))) rfl ?_))))
          refine r_nil ?_
          refine cF hF (fun hF => ?_) fun hF => ?_
          ·
           refine w_skip ?_
           refine thenQ_n ?_
           refine w_seq ?_
           refine w_block ?_
           refine ws 322 1090 ?_
           refine qp (.ptr 0 0 9) rfl (qp (AL 1 (v0.2.2.2.2.2.2.2.2.2.1.map (eL 1 (V.int .i64)))) rfl (qp (AI v1011) rfl ?_))
           obtain ⟨v1012, e1012, hF⟩ := bind_get hF
           refine qp (.val none (.ptr [.sl 1 (v1012.map (V.int .i64))])) (ev_iad_n rfl rfl e1012 rfl) (qp (AL 1 (v1012.map (V.int .i64))) rfl (qp (.ptr 1 0 9) rfl (qp (AL 1 (v1.2.2.2.2.2.2.2.2.2.1.map (eL 1 (V.int .i64)))) rfl (qp (AI v1011) rfl ?_))))
           obtain ⟨v1013, e1013, hF⟩ := bind_get hF
           refine qp (.val none (.ptr [.sl 1 (v1013.map (V.int .i64))])) (ev_iad_n rfl rfl e1013 rfl) (qp (AL 1 (v1013.map (V.int .i64))) rfl ?_)
           obtain ⟨v1014, e1014, hF⟩ := bind_get hF
           refine qc (AB v1014) [(1, .box [AS v1.1, AL 1 (v1.2.1.map (V.int .i64)), AL 1 (v1.2.2.1.map (V.int .i64)), AI v1.2.2.2.1, AI v1.2.2.2.2.1, AL 1 (v1.2.2.2.2.2.1.map (eL 1 (V.int .i64))), AL 2 (v1.2.2.2.2.2.2.1.map eNote), AS v1.2.2.2.2.2.2.2.1, AL 2 (v1.2.2.2.2.2.2.2.2.1.map eNote), AL 1 (v1.2.2.2.2.2.2.2.2.2.1.map (eL 1 (V.int .i64))), AL 3 (v1.2.2.2.2.2.2.2.2.2.2.1.map eSyllable), AL 2 (v1.2.2.2.2.2.2.2.2.2.2.2.1.map eNote), AL 6 (v1.2.2.2.2.2.2.2.2.2.2.2.2.1.map eItem), AL 5 (v1.2.2.2.2.2.2.2.2.2.2.2.2.2.1.map eLesson), AL 3 (v1.2.2.2.2.2.2.2.2.2.2.2.2.2.2.map ePerson)]), (0, .box [AS v0.1, AL 1 (v0.2.1.map (V.int .i64)), AL 1 (v0.2.2.1.map (V.int .i64)), AI v0.2.2.2.1, AI v0.2.2.2.2.1, AL 1 (v0.2.2.2.2.2.1.map (eL 1 (V.int .i64))), AL 2 (v0.2.2.2.2.2.2.1.map eNote), AS v0.2.2.2.2.2.2.2.1, AL 2 (v0.2.2.2.2.2.2.2.2.1.map eNote), AL 1 (v0.2.2.2.2.2.2.2.2.2.1.map (eL 1 (V.int .i64))), AL 3 (v0.2.2.2.2.2.2.2.2.2.2.1.map eSyllable), AL 2 (v0.2.2.2.2.2.2.2.2.2.2.2.1.map eNote), AL 6 (v0.2.2.2.2.2.2.2.2.2.2.2.2.1.map eItem), AL 5 (v0.2.2.2.2.2.2.2.2.2.2.2.2.2.1.map eLesson), AL 3 (v0.2.2.2.2.2.2.2.2.2.2.2.2.2.2.map ePerson)])] false (con_spec_l00Same e1014) c67_ok (by first | rfl | simp) rfl ?_
           refine qp (AB (!v1014)) rfl ?_
           refine r_nil ?_
           refine cF hF (fun hF => ?_) fun hF => ?_
           ·
            refine ws 1090 1154 ?_
            refine qp (AB false) rfl ?_
            refine r_nil ?_
            refine w_ret ?_
            refine blockQ_r ?_
            refine thenQ_r ?_
            refine thenQ_r ?_
            refine blockQ_r ?_
            refine thenQ_r ?_
            cases hF
            exact eR
           ·
            refine w_skip ?_
            refine blockQ_n ?_
            refine thenQ_n ?_
            refine w_reg 1090 1282 rfl rfl ?_
            refine qp (AI v1011) rfl (qp (AI (w64 (v1011 + 1))) rfl (qp (AI (w64 (v1011 + 1))) rfl ?_))
            refine r_nil ?_
            refine thenQ_n ?_
            refine ar (l' := [(2, .ptr 0 0 0), (3, .ptr 1 0 0), (5, AI (w64 (v1011 + 1)))]) (L := [(1, .box [AS v1.1, AL 1 (v1.2.1.map (V.int .i64)), AL 1 (v1.2.2.1.map (V.int .i64)), AI v1.2.2.2.1, AI v1.2.2.2.2.1, AL 1 (v1.2.2.2.2.2.1.map (eL 1 (V.int .i64))), AL 2 (v1.2.2.2.2.2.2.1.map eNote), AS v1.2.2.2.2.2.2.2.1, AL 2 (v1.2.2.2.2.2.2.2.2.1.map eNote), AL 1 (v1.2.2.2.2.2.2.2.2.2.1.map (eL 1 (V.int .i64))), AL 3 (v1.2.2.2.2.2.2.2.2.2.2.1.map eSyllable), AL 2 (v1.2.2.2.2.2.2.2.2.2.2.2.1.map eNote), AL 6 (v1.2.2.2.2.2.2.2.2.2.2.2.2.1.map eItem), AL 5 (v1.2.2.2.2.2.2.2.2.2.2.2.2.2.1.map eLesson), AL 3 (v1.2.2.2.2.2.2.2.2.2.2.2.2.2.2.map ePerson)]), (0, .box [AS v0.1, AL 1 (v0.2.1.map (V.int .i64)), AL 1 (v0.2.2.1.map (V.int .i64)), AI v0.2.2.2.1, AI v0.2.2.2.2.1, AL 1 (v0.2.2.2.2.2.1.map (eL 1 (V.int .i64))), AL 2 (v0.2.2.2.2.2.2.1.map eNote), AS v0.2.2.2.2.2.2.2.1, AL 2 (v0.2.2.2.2.2.2.2.2.1.map eNote), AL 1 (v0.2.2.2.2.2.2.2.2.2.1.map (eL 1 (V.int .i64))), AL 3 (v0.2.2.2.2.2.2.2.2.2.2.1.map eSyllable), AL 2 (v0.2.2.2.2.2.2.2.2.2.2.2.1.map eNote), AL 6 (v0.2.2.2.2.2.2.2.2.2.2.2.2.1.map eItem), AL 5 (v0.2.2.2.2.2.2.2.2.2.2.2.2.2.1.map eLesson), AL 3 (v0.2.2.2.2.2.2.2.2.2.2.2.2.2.2.map ePerson)])]) [2, 3, 5] [(1, 1), (0, 0)] 2 ⟨_, by rfl, hF⟩
          ·
           refine w_exit ?_
           refine thenQ_e ?_
           refine thenQ_e ?_
           refine blockQ_e ?_
           refine thenQ_n ?_
           refine w_seq ?_
           refine ws 322 386 ?_
           refine qp (AI 0) rfl ?_
           refine r_nil ?_
           refine w_block ?_
           refine wr (l' := [(2, .ptr 0 0 0), (3, .ptr 1 0 0), (6, AI 0)]) (L := [(1, .box [AS v1.1, AL 1 (v1.2.1.map (V.int .i64)), AL 1 (v1.2.2.1.map (V.int .i64)), AI v1.2.2.2.1, AI v1.2.2.2.2.1, AL 1 (v1.2.2.2.2.2.1.map (eL 1 (V.int .i64))), AL 2 (v1.2.2.2.2.2.2.1.map eNote), AS v1.2.2.2.2.2.2.2.1, AL 2 (v1.2.2.2.2.2.2.2.2.1.map eNote), AL 1 (v1.2.2.2.2.2.2.2.2.2.1.map (eL 1 (V.int .i64))), AL 3 (v1.2.2.2.2.2.2.2.2.2.2.1.map eSyllable), AL 2 (v1.2.2.2.2.2.2.2.2.2.2.2.1.map eNote), AL 6 (v1.2.2.2.2.2.2.2.2.2.2.2.2.1.map eItem), AL 5 (v1.2.2.2.2.2.2.2.2.2.2.2.2.2.1.map eLesson), AL 3 (v1.2.2.2.2.2.2.2.2.2.2.2.2.2.2.map ePerson)]), (0, .box [AS v0.1, AL 1 (v0.2.1.map (V.int .i64)), AL 1 (v0.2.2.1.map (V.int .i64)), AI v0.2.2.2.1, AI v0.2.2.2.2.1, AL 1 (v0.2.2.2.2.2.1.map (eL 1 (V.int .i64))), AL 2 (v0.2.2.2.2.2.2.1.map eNote), AS v0.2.2.2.2.2.2.2.1, AL 2 (v0.2.2.2.2.2.2.2.2.1.map eNote), AL 1 (v0.2.2.2.2.2.2.2.2.2.1.map (eL 1 (V.int .i64))), AL 3 (v0.2.2.2.2.2.2.2.2.2.2.1.map eSyllable), AL 2 (v0.2.2.2.2.2.2.2.2.2.2.2.1.map eNote), AL 6 (v0.2.2.2.2.2.2.2.2.2.2.2.2.1.map eItem), AL 5 (v0.2.2.2.2.2.2.2.2.2.2.2.2.2.1.map eLesson), AL 3 (v0.2.2.2.2.2.2.2.2.2.2.2.2.2.2.map ePerson)])]) [2, 3, 6] [(1, 1), (0, 0)] 2 ?_
           refine w_loopF (F_spec_SameDesk_l1 v0 v1) (fun s : Int => mkS [(2, .ptr 0 0 0), (3, .ptr 1 0 0), (6, AI s)] (fo [(1, .box [AS v1.1, AL 1 (v1.2.1.map (V.int .i64)), AL 1 (v1.2.2.1.map (V.int .i64)), AI v1.2.2.2.1, AI v1.2.2.2.2.1, AL 1 (v1.2.2.2.2.2.1.map (eL 1 (V.int .i64))), AL 2 (v1.2.2.2.2.2.2.1.map eNote), AS v1.2.2.2.2.2.2.2.1, AL 2 (v1.2.2.2.2.2.2.2.2.1.map eNote), AL 1 (v1.2.2.2.2.2.2.2.2.2.1.map (eL 1 (V.int .i64))), AL 3 (v1.2.2.2.2.2.2.2.2.2.2.1.map eSyllable), AL 2 (v1.2.2.2.2.2.2.2.2.2.2.2.1.map eNote), AL 6 (v1.2.2.2.2.2.2.2.2.2.2.2.2.1.map eItem), AL 5 (v1.2.2.2.2.2.2.2.2.2.2.2.2.2.1.map eLesson), AL 3 (v1.2.2.2.2.2.2.2.2.2.2.2.2.2.2.map ePerson)]), (0, .box [AS v0.1, AL 1 (v0.2.1.map (V.int .i64)), AL 1 (v0.2.2.1.map (V.int .i64)), AI v0.2.2.2.1, AI v0.2.2.2.2.1, AL 1 (v0.2.2.2.2.2.1.map (eL 1 (V.int .i64))), AL 2 (v0.2.2.2.2.2.2.1.map eNote), AS v0.2.2.2.2.2.2.2.1, AL 2 (v0.2.2.2.2.2.2.2.2.1.map eNote), AL 1 (v0.2.2.2.2.2.2.2.2.2.1.map (eL 1 (V.int .i64))), AL 3 (v0.2.2.2.2.2.2.2.2.2.2.1.map eSyllable), AL 2 (v0.2.2.2.2.2.2.2.2.2.2.2.1.map eNote), AL 6 (v0.2.2.2.2.2.2.2.2.2.2.2.2.1.map eItem), AL 5 (v0.2.2.2.2.2.2.2.2.2.2.2.2.2.1.map eLesson), AL 3 (v0.2.2.2.2.2.2.2.2.2.2.2.2.2.2.map ePerson)])]) 2) hF ?_
           rintro k6 v1020 hF
           rw [F_spec_SameDesk_l1] at hF
           try dsimp only
           refine w_seq ?_
           refine ws 2 322 ?_
           refine qp (AI v1020) rfl (qp (.ptr 0 0 10) rfl (qp (AL 3 (v0.2.2.2.2.2.2.2.2.2.2.1.map eSyllable)) rfl (qp (AI (v0.2.2.2.2.2.2.2.2.2.2.1.length : Int)) (ev_len_n rfl) (qp (AB (decide (v1020 < (v0.2.2.2.2.2.2.2.2.2.2.1.length : Int)))) rfl ?_))))
           refine r_nil ?_
           refine cF hF (fun hF => ?_) fun hF => ?_
           ·
            refine w_skip ?_
            refine thenQ_n ?_
            refine w_seq ?_
            refine w_block ?_
            refine ws 322 1026 ?_
            refine qp (.ptr 0 0 10) rfl (qp (AL 3 (v0.2.2.2.2.2.2.2.2.2.2.1.map eSyllable)) rfl (qp (AI v1020) rfl ?_))
            obtain ⟨v1021, e1021, hF⟩ := bind_get hF
            refine qp (.val none (.ptr [.str v1021.1, .int .i64 v1021.2.1, .int .i64 v1021.2.2])) (ev_iad_n rfl rfl e1021 rfl) (qp (.val none (eSyllable v1021)) rfl (qp (.ptr 1 0 10) rfl (qp (AL 3 (v1.2.2.2.2.2.2.2.2.2.2.1.map eSyllable)) rfl (qp (AI v1020) rfl ?_))))
            obtain ⟨v1022, e1022, hF⟩ := bind_get hF
            refine qp (.val none (.ptr [.str v1022.1, .int .i64 v1022.2.1, .int .i64 v1022.2.2])) (ev_iad_n rfl rfl e1022 rfl) (qp (.val none (eSyllable v1022)) rfl (qp (AB (!(decide (v1021.1 = v1022.1) && (decide (v1021.2.1 = v1022.2.1) && (decide (v1021.2.2 = v1022.2.2) && true))))) rfl ?_))
            refine r_nil ?_
            refine cF hF (fun hF => ?_) fun hF => ?_
            ·
             refine ws 1026 1090 ?_
             refine qp (AB false) rfl ?_
             refine r_nil ?_
             refine w_ret ?_
             refine blockQ_r ?_
             refine thenQ_r ?_
             refine thenQ_r ?_
             refine blockQ_r ?_
             refine thenQ_r ?_
             cases hF
             exact eR
            ·
             refine w_skip ?_
             refine blockQ_n ?_
             refine thenQ_n ?_
             refine w_reg 1026 1218 rfl rfl ?_
             refine qp (AI v1020) rfl (qp (AI (w64 (v1020 + 1))) rfl (qp (AI (w64 (v1020 + 1))) rfl ?_))
             refine r_nil ?_
             refine thenQ_n ?_
             refine ar (l' := [(2, .ptr 0 0 0), (3, .ptr 1 0 0), (6, AI (w64 (v1020 + 1)))]) (L := [(1, .box [AS v1.1, AL 1 (v1.2.1.map (V.int .i64)), AL 1 (v1.2.2.1.map (V.int .i64)), AI v1.2.2.2.1, AI v1.2.2.2.2.1, AL 1 (v1.2.2.2.2.2.1.map (eL 1 (V.int .i64))), AL 2 (v1.2.2.2.2.2.2.1.map eNote), AS v1.2.2.2.2.2.2.2.1, AL 2 (v1.2.2.2.2.2.2.2.2.1.map eNote), AL 1 (v1.2.2.2.2.2.2.2.2.2.1.map (eL 1 (V.int .i64))), AL 3 (v1.2.2.2.2.2.2.2.2.2.2.1.map eSyllable), AL 2 (v1.2.2.2.2.2.2.2.2.2.2.2.1.map eNote), AL 6 (v1.2.2.2.2.2.2.2.2.2.2.2.2.1.map eItem), AL 5 (v1.2.2.2.2.2.2.2.2.2.2.2.2.2.1.map eLesson), AL 3 (v1.2.2.2.2.2.2.2.2.2.2.2.2.2.2.map ePerson)]), (0, .box [AS v0.1, AL 1 (v0.2.1.map (V.int .i64)), AL 1 (v0.2.2.1.map (V.int .i64)), AI v0.2.2.2.1, AI v0.2.2.2.2.1, AL 1 (v0.2.2.2.2.2.1.map (eL 1 (V.int .i64))), AL 2 (v0.2.2.2.2.2.2.1.map eNote), AS v0.2.2.2.2.2.2.2.1, AL 2 (v0.2.2.2.2.2.2.2.2.1.map eNote), AL 1 (v0.2.2.2.2.2.2.2.2.2.1.map (eL 1 (V.int .i64))), AL 3 (v0.2.2.2.2.2.2.2.2.2.2.1.map eSyllable), AL 2 (v0.2.2.2.2.2.2.2.2.2.2.2.1.map eNote), AL 6 (v0.2.2.2.2.2.2.2.2.2.2.2.2.1.map eItem), AL 5 (v0.2.2.2.2.2.2.2.2.2.2.2.2.2.1.map eLesson), AL 3 (v0.2.2.2.2.2.2.2.2.2.2.2.2.2.2.map ePerson)])]) [2, 3, 6] [(1, 1), (0, 0)] 2 ⟨_, by rfl, hF⟩
           ·
            refine w_exit ?_
            refine thenQ_e ?_
            refine thenQ_e ?_
            refine blockQ_e ?_
            refine thenQ_n ?_
            refine w_seq ?_
            refine ws 322 386 ?_
            refine qp (AI 0) rfl ?_
            refine r_nil ?_
            refine w_block ?_
            refine wr (l' := [(2, .ptr 0 0 0), (3, .ptr 1 0 0), (7, AI 0)]) (L := [(1, .box [AS v1.1, AL 1 (v1.2.1.map (V.int .i64)), AL 1 (v1.2.2.1.map (V.int .i64)), AI v1.2.2.2.1, AI v1.2.2.2.2.1, AL 1 (v1.2.2.2.2.2.1.map (eL 1 (V.int .i64))), AL 2 (v1.2.2.2.2.2.2.1.map eNote), AS v1.2.2.2.2.2.2.2.1, AL 2 (v1.2.2.2.2.2.2.2.2.1.map eNote), AL 1 (v1.2.2.2.2.2.2.2.2.2.1.map (eL 1 (V.int .i64))), AL 3 (v1.2.2.2.2.2.2.2.2.2.2.1.map eSyllable), AL 2 (v1.2.2.2.2.2.2.2.2.2.2.2.1.map eNote), AL 6 (v1.2.2.2.2.2.2.2.2.2.2.2.2.1.map eItem), AL 5 (v1.2.2.2.2.2.2.2.2.2.2.2.2.2.1.map eLesson), AL 3 (v1.2.2.2.2.2.2.2.2.2.2.2.2.2.2.map ePerson)]), (0, .box [AS v0.1, AL 1 (v0.2.1.map (V.int .i64)), AL 1 (v0.2.2.1.map (V.int .i64)), AI v0.2.2.2.1, AI v0.2.2.2.2.1, AL 1 (v0.2.2.2.2.2.1.map (eL 1 (V.int .i64))), AL 2 (v0.2.2.2.2.2.2.1.map eNote), AS v0.2.2.2.2.2.2.2.1, AL 2 (v0.2.2.2.2.2.2.2.2.1.map eNote), AL 1 (v0.2.2.2.2.2.2.2.2.2.1.map (eL 1 (V.int .i64))), AL 3 (v0.2.2.2.2.2.2.2.2.2.2.1.map eSyllable), AL 2 (v0.2.2.2.2.2.2.2.2.2.2.2.1.map eNote), AL 6 (v0.2.2.2.2.2.2.2.2.2.2.2.2.1.map eItem), AL 5 (v0.2.2.2.2.2.2.2.2.2.2.2.2.2.1.map eLesson), AL 3 (v0.2.2.2.2.2.2.2.2.2.2.2.2.2.2.map ePerson)])]) [2, 3, 7] [(1, 1), (0, 0)] 2 ?_
            refine w_loopF (F_spec_SameDesk_l2 v0 v1) (fun s : Int => mkS [(2, .ptr 0 0 0), (3, .ptr 1 0 0), (7, AI s)] (fo [(1, .box [AS v1.1, AL 1 (v1.2.1.map (V.int .i64)), AL 1 (v1.2.2.1.map (V.int .i64)), AI v1.2.2.2.1, AI v1.2.2.2.2.1, AL 1 (v1.2.2.2.2.2.1.map (eL 1 (V.int .i64))), AL 2 (v1.2.2.2.2.2.2.1.map eNote), AS v1.2.2.2.2.2.2.2.1, AL 2 (v1.2.2.2.2.2.2.2.2.1.map eNote), AL 1 (v1.2.2.2.2.2.2.2.2.2.1.map (eL 1 (V.int .i64))), AL 3 (v1.2.2.2.2.2.2.2.2.2.2.1.map eSyllable), AL 2 (v1.2.2.2.2.2.2.2.2.2.2.2.1.map eNote), AL 6 (v1.2.2.2.2.2.2.2.2.2.2.2.2.1.map eItem), AL 5 (v1.2.2.2.2.2.2.2.2.2.2.2.2.2.1.map eLesson), AL 3 (v1.2.2.2.2.2.2.2.2.2.2.2.2.2.2.map ePerson)]), (0, .box [AS v0.1, AL 1 (v0.2.1.map (V.int .i64)), AL 1 (v0.2.2.1.map (V.int .i64)), AI v0.2.2.2.1, AI v0.2.2.2.2.1, AL 1 (v0.2.2.2.2.2.1.map (eL 1 (V.int .i64))), AL 2 (v0.2.2.2.2.2.2.1.map eNote), AS v0.2.2.2.2.2.2.2.1, AL 2 (v0.2.2.2.2.2.2.2.2.1.map eNote), AL 1 (v0.2.2.2.2.2.2.2.2.2.1.map (eL 1 (V.int .i64))), AL 3 (v0.2.2.2.2.2.2.2.2.2.2.1.map eSyllable), AL 2 (v0.2.2.2.2.2.2.2.2.2.2.2.1.map eNote), AL 6 (v0.2.2.2.2.2.2.2.2.2.2.2.2.1.map eItem), AL 5 (v0.2.2.2.2.2.2.2.2.2.2.2.2.2.1.map eLesson), AL 3 (v0.2.2.2.2.2.2.2.2.2.2.2.2.2.2.map ePerson)])]) 2) hF ?_
            rintro k7 v1028 hF
            rw [F_spec_SameDesk_l2] at hF
            try dsimp only
            refine w_seq ?_
            refine ws 2 322 ?_
            refine qp (AI v1028) rfl (qp (.ptr 0 0 11) rfl (qp (AL 2 (v0.2.2.2.2.2.2.2.2.2.2.2.1.map eNote)) rfl (qp (AI (v0.2.2.2.2.2.2.2.2.2.2.2.1.length : Int)) (ev_len_n rfl) (qp (AB (decide (v1028 < (v0.2.2.2.2.2.2.2.2.2.2.2.1.length : Int)))) rfl ?_))))
            refine r_nil ?_
            refine cF hF (fun hF => ?_) fun hF => ?_
            ·
             refine w_skip ?_
             refine thenQ_n ?_
             refine w_seq ?_
             refine w_block ?_
             refine ws 322 1026 ?_
             refine qp (.ptr 0 0 11) rfl (qp (AL 2 (v0.2.2.2.2.2.2.2.2.2.2.2.1.map eNote)) rfl (qp (AI v1028) rfl ?_))
             obtain ⟨v1029, e1029, hF⟩ := bind_get hF
             refine qp (.val none (.ptr [.int .i64 v1029.1, .int .i64 v1029.2])) (ev_iad_n rfl rfl e1029 rfl) (qp (.val none (eNote v1029)) rfl (qp (.ptr 1 0 11) rfl (qp (AL 2 (v1.2.2.2.2.2.2.2.2.2.2.2.1.map eNote)) rfl (qp (AI v1028) rfl ?_))))
             obtain ⟨v1030, e1030, hF⟩ := bind_get hF
             refine qp (.val none (.ptr [.int .i64 v1030.1, .int .i64 v1030.2])) (ev_iad_n rfl rfl e1030 rfl) (qp (.val none (eNote v1030)) rfl (qp (AB (!(decide (v1029.1 = v1030.1) && (decide (v1029.2 = v1030.2) && true)))) rfl ?_))
             refine r_nil ?_
             refine cF hF (fun hF => ?_) fun hF => ?_
             ·
              refine ws 1026 1090 ?_
              refine qp (AB false) rfl ?_
              refine r_nil ?_
              refine w_ret ?_
              refine blockQ_r ?_
              refine thenQ_r ?_
              refine thenQ_r ?_
              refine blockQ_r ?_
              refine thenQ_r ?_
              cases hF
              exact eR
             ·
              refine w_skip ?_
              refine blockQ_n ?_
              refine thenQ_n ?_
              refine w_reg 1026 1218 rfl rfl ?_
              refine qp (AI v1028) rfl (qp (AI (w64 (v1028 + 1))) rfl (qp (AI (w64 (v1028 + 1))) rfl ?_))
              refine r_nil ?_
              refine thenQ_n ?_
              refine ar (l' := [(2, .ptr 0 0 0), (3, .ptr 1 0 0), (7, AI (w64 (v1028 + 1)))]) (L := [(1, .box [AS v1.1, AL 1 (v1.2.1.map (V.int .i64)), AL 1 (v1.2.2.1.map (V.int .i64)), AI v1.2.2.2.1, AI v1.2.2.2.2.1, AL 1 (v1.2.2.2.2.2.1.map (eL 1 (V.int .i64))), AL 2 (v1.2.2.2.2.2.2.1.map eNote), AS v1.2.2.2.2.2.2.2.1, AL 2 (v1.2.2.2.2.2.2.2.2.1.map eNote), AL 1 (v1.2.2.2.2.2.2.2.2.2.1.map (eL 1 (V.int .i64))), AL 3 (v1.2.2.2.2.2.2.2.2.2.2.1.map eSyllable), AL 2 (v1.2.2.2.2.2.2.2.2.2.2.2.1.map eNote), AL 6 (v1.2.2.2.2.2.2.2.2.2.2.2.2.1.map eItem), AL 5 (v1.2.2.2.2.2.2.2.2.2.2.2.2.2.1.map eLesson), AL 3 (v1.2.2.2.2.2.2.2.2.2.2.2.2.2.2.map ePerson)]), (0, .box [AS v0.1, AL 1 (v0.2.1.map (V.int .i64)), AL 1 (v0.2.2.1.map (V.int .i64)), AI v0.2.2.2.1, AI v0.2.2.2.2.1, AL 1 (v0.2.2.2.2.2.1.map (eL 1 (V.int .i64))), AL 2 (v0.2.2.2.2.2.2.1.map eNote), AS v0.2.2.2.2.2.2.2.1, AL 2 (v0.2.2.2.2.2.2.2.2.1.map eNote), AL 1 (v0.2.2.2.2.2.2.2.2.2.1.map (eL 1 (V.int .i64))), AL 3 (v0.2.2.2.2.2.2.2.2.2.2.1.map eSyllable), AL 2 (v0.2.2.2.2.2.2.2.2.2.2.2.1.map eNote), AL 6 (v0.2.2.2.2.2.2.2.2.2.2.2.2.1.map eItem), AL 5 (v0.2.2.2.2.2.2.2.2.2.2.2.2.2.1.map eLesson), AL 3 (v0.2.2.2.2.2.2.2.2.2.2.2.2.2.2.map ePerson)])]) [2, 3, 7] [(1, 1), (0, 0)] 2 ⟨_, by rfl, hF⟩
            ·
             refine w_exit ?_
             refine thenQ_e ?_
             refine thenQ_e ?_
             refine blockQ_e ?_
             refine thenQ_n ?_
             refine w_seq ?_
             refine ws 322 386 ?_
             refine qp (AI 0) rfl ?_
             refine r_nil ?_
             refine w_block ?_
             refine wr (l' := [(2, .ptr 0 0 0), (3, .ptr 1 0 0), (8, AI 0)]) (L := [(1, .box [AS v1.1, AL 1 (v1.2.1.map (V.int .i64)), AL 1 (v1.2.2.1.map (V.int .i64)), AI v1.2.2.2.1, AI v1.2.2.2.2.1, AL 1 (v1.2.2.2.2.2.1.map (eL 1 (V.int .i64))), AL 2 (v1.2.2.2.2.2.2.1.map eNote), AS v1.2.2.2.2.2.2.2.1, AL 2 (v1.2.2.2.2.2.2.2.2.1.map eNote), AL 1 (v1.2.2.2.2.2.2.2.2.2.1.map (eL 1 (V.int .i64))), AL 3 (v1.2.2.2.2.2.2.2.2.2.2.1.map eSyllable), AL 2 (v1.2.2.2.2.2.2.2.2.2.2.2.1.map eNote), AL 6 (v1.2.2.2.2.2.2.2.2.2.2.2.2.1.map eItem), AL 5 (v1.2.2.2.2.2.2.2.2.2.2.2.2.2.1.map eLesson), AL 3 (v1.2.2.2.2.2.2.2.2.2.2.2.2.2.2.map ePerson)]), (0, .box [AS v0.1, AL 1 (v0.2.1.map (V.int .i64)), AL 1 (v0.2.2.1.map (V.int .i64)), AI v0.2.2.2.1, AI v0.2.2.2.2.1, AL 1 (v0.2.2.2.2.2.1.map (eL 1 (V.int .i64))), AL 2 (v0.2.2.2.2.2.2.1.map eNote), AS v0.2.2.2.2.2.2.2.1, AL 2 (v0.2.2.2.2.2.2.2.2.1.map eNote), AL 1 (v0.2.2.2.2.2.2.2.2.2.1.map (eL 1 (V.int .i64))), AL 3 (v0.2.2.2.2.2.2.2.2.2.2.1.map eSyllable), AL 2 (v0.2.2.2.2.2.2.2.2.2.2.2.1.map eNote), AL 6 (v0.2.2.2.2.2.2.2.2.2.2.2.2.1.map eItem), AL 5 (v0.2.2.2.2.2.2.2.2.2.2.2.2.2.1.map eLesson), AL 3 (v0.2.2.2.2.2.2.2.2.2.2.2.2.2.2.map ePerson)])]) [2, 3, 8] [(1, 1), (0, 0)] 2 ?_
             refine w_loopF (F_spec_SameDesk_l3 v0 v1) (fun s : Int => mkS [(2, .ptr 0 0 0), (3, .ptr 1 0 0), (8, AI s)] (fo [(1, .box [AS v1.1, AL 1 (v1.2.1.map (V.int .i64)), AL 1 (v1.2.2.1.map (V.int .i64)), AI v1.2.2.2.1, AI v1.2.2.2.2.1, AL 1 (v1.2.2.2.2.2.1.map (eL 1 (V.int .i64))), AL 2 (v1.2.2.2.2.2.2.1.map eNote), AS v1.2.2.2.2.2.2.2.1, AL 2 (v1.2.2.2.2.2.2.2.2.1.map eNote), AL 1 (v1.2.2.2.2.2.2.2.2.2.1.map (eL 1 (V.int .i64))), AL 3 (v1.2.2.2.2.2.2.2.2.2.2.1.map eSyllable), AL 2 (v1.2.2.2.2.2.2.2.2.2.2.2.1.map eNote), AL 6 (v1.2.2.2.2.2.2.2.2.2.2.2.2.1.map eItem), AL 5 (v1.2.2.2.2.2.2.2.2.2.2.2.2.2.1.map eLesson), AL 3 (v1.2.2.2.2.2.2.2.2.2.2.2.2.2.2.map ePerson)]), (0, .box [AS v0.1, AL 1 (v0.2.1.map (V.int .i64)), AL 1 (v0.2.2.1.map (V.int .i64)), AI v0.2.2.2.1, AI v0.2.2.2.2.1, AL 1 (v0.2.2.2.2.2.1.map (eL 1 (V.int .i64))), AL 2 (v0.2.2.2.2.2.2.1.map eNote), AS v0.2.2.2.2.2.2.2.1, AL 2 (v0.2.2.2.2.2.2.2.2.1.map eNote), AL 1 (v0.2.2.2.2.2.2.2.2.2.1.map (eL 1 (V.int .i64))), AL 3 (v0.2.2.2.2.2.2.2.2.2.2.1.map eSyllable), AL 2 (v0.2.2.2.2.2.2.2.2.2.2.2.1.map eNote), AL 6 (v0.2.2.2.2.2.2.2.2.2.2.2.2.1.map eItem), AL 5 (v0.2.2.2.2.2.2.2.2.2.2.2.2.2.1.map eLesson), AL 3 (v0.2.2.2.2.2.2.2.2.2.2.2.2.2.2.map ePerson)])]) 2) hF ?_
             rintro k8 v1036 hF
             rw [F_spec_SameDesk_l3] at hF
             try dsimp only
             refine w_seq ?_
             refine ws 2 322 ?_
             refine qp (AI v1036) rfl (qp (.ptr 0 0 12) rfl (qp (AL 6 (v0.2.2.2.2.2.2.2.2.2.2.2.2.1.map eItem)) rfl (qp (AI (v0.2.2.2.2.2.2.2.2.2.2.2.2.1.length : Int)) (ev_len_n rfl) (qp (AB (decide (v1036 < (v0.2.2.2.2.2.2.2.2.2.2.2.2.1.length : Int)))) rfl ?_))))
             refine r_nil ?_
             refine cF hF (fun hF => ?_) fun hF => ?_
             ·
              refine w_skip ?_
              refine thenQ_n ?_
              refine w_seq ?_
              refine w_block ?_
              refine ws 322 1026 ?_
              refine qp (.ptr 0 0 12) rfl (qp (AL 6 (v0.2.2.2.2.2.2.2.2.2.2.2.2.1.map eItem)) rfl (qp (AI v1036) rfl ?_))
              obtain ⟨v1037, e1037, hF⟩ := bind_get hF
              refine qp (.val none (.ptr [.str v1037.1, .int .i64 v1037.2.1, .int .i64 v1037.2.2.1, .int .i64 v1037.2.2.2.1, .int .i64 v1037.2.2.2.2.1, .int .i64 v1037.2.2.2.2.2])) (ev_iad_n rfl rfl e1037 rfl) (qp (.val none (eItem v1037)) rfl (qp (.ptr 1 0 12) rfl (qp (AL 6 (v1.2.2.2.2.2.2.2.2.2.2.2.2.1.map eItem)) rfl (qp (AI v1036) rfl ?_))))
              obtain ⟨v1038, e1038, hF⟩ := bind_get hF
              refine qp (.val none (.ptr [.str v1038.1, .int .i64 v1038.2.1, .int .i64 v1038.2.2.1, .int .i64 v1038.2.2.2.1, .int .i64 v1038.2.2.2.2.1, .int .i64 v1038.2.2.2.2.2])) (ev_iad_n rfl rfl e1038 rfl) (qp (.val none (eItem v1038)) rfl (qp (AB (!(decide (v1037.1 = v1038.1) && (decide (v1037.2.1 = v1038.2.1) && (decide (v1037.2.2.1 = v1038.2.2.1) && (decide (v1037.2.2.2.1 = v1038.2.2.2.1) && (decide (v1037.2.2.2.2.1 = v1038.2.2.2.2.1) && (decide (v1037.2.2.2.2.2 = v1038.2.2.2.2.2) && true)))))))) rfl ?_))
              refine r_nil ?_
              refine cF hF (fun hF => ?_) fun hF => ?_
              ·
               refine ws 1026 1090 ?_
               refine qp (AB false) rfl ?_
               refine r_nil ?_
               refine w_ret ?_
               refine blockQ_r ?_
               refine thenQ_r ?_
               refine thenQ_r ?_
               refine blockQ_r ?_
               refine thenQ_r ?_
               cases hF
               exact eR
              ·
               refine w_skip ?_
               refine blockQ_n ?_
               refine thenQ_n ?_
               refine w_reg 1026 1218 rfl rfl ?_
               refine qp (AI v1036) rfl (qp (AI (w64 (v1036 + 1))) rfl (qp (AI (w64 (v1036 + 1))) rfl ?_))
               refine r_nil ?_
               refine thenQ_n ?_
               refine ar (l' := [(2, .ptr 0 0 0), (3, .ptr 1 0 0), (8, AI (w64 (v1036 + 1)))]) (L := [(1, .box [AS v1.1, AL 1 (v1.2.1.map (V.int .i64)), AL 1 (v1.2.2.1.map (V.int .i64)), AI v1.2.2.2.1, AI v1.2.2.2.2.1, AL 1 (v1.2.2.2.2.2.1.map (eL 1 (V.int .i64))), AL 2 (v1.2.2.2.2.2.2.1.map eNote), AS v1.2.2.2.2.2.2.2.1, AL 2 (v1.2.2.2.2.2.2.2.2.1.map eNote), AL 1 (v1.2.2.2.2.2.2.2.2.2.1.map (eL 1 (V.int .i64))), AL 3 (v1.2.2.2.2.2.2.2.2.2.2.1.map eSyllable), AL 2 (v1.2.2.2.2.2.2.2.2.2.2.2.1.map eNote), AL 6 (v1.2.2.2.2.2.2.2.2.2.2.2.2.1.map eItem), AL 5 (v1.2.2.2.2.2.2.2.2.2.2.2.2.2.1.map eLesson), AL 3 (v1.2.2.2.2.2.2.2.2.2.2.2.2.2.2.map ePerson)]), (0, .box [AS v0.1, AL 1 (v0.2.1.map (V.int .i64)), AL 1 (v0.2.2.1.map (V.int .i64)), AI v0.2.2.2.1, AI v0.2.2.2.2.1, AL 1 (v0.2.2.2.2.2.1.map (eL 1 (V.int .i64))), AL 2 (v0.2.2.2.2.2.2.1.map eNote), AS v0.2.2.2.2.2.2.2.1, AL 2 (v0.2.2.2.2.2.2.2.2.1.map eNote), AL 1 (v0.2.2.2.2.2.2.2.2.2.1.map (eL 1 (V.int .i64))), AL 3 (v0.2.2.2.2.2.2.2.2.2.2.1.map eSyllable), AL 2 (v0.2.2.2.2.2.2.2.2.2.2.2.1.map eNote), AL 6 (v0.2.2.2.2.2.2.2.2.2.2.2.2.1.map eItem), AL 5 (v0.2.2.2.2.2.2.2.2.2.2.2.2.2.1.map eLesson), AL 3 (v0.2.2.2.2.2.2.2.2.2.2.2.2.2.2.map ePerson)])]) [2, 3, 8] [(1, 1), (0, 0)] 2 ⟨_, by rfl, hF⟩
             ·
              refine w_exit ?_
              refine thenQ_e ?_
              refine thenQ_e ?_
              refine blockQ_e ?_
              refine thenQ_n ?_
              refine w_seq ?_
              refine ws 322 386 ?_
              refine qp (AI 0) rfl ?_
              refine r_nil ?_
              refine w_block ?_
              refine wr (l' := [(2, .ptr 0 0 0), (3, .ptr 1 0 0), (9, AI 0)]) (L := [(1, .box [AS v1.1, AL 1 (v1.2.1.map (V.int .i64)), AL 1 (v1.2.2.1.map (V.int .i64)), AI v1.2.2.2.1, AI v1.2.2.2.2.1, AL 1 (v1.2.2.2.2.2.1.map (eL 1 (V.int .i64))), AL 2 (v1.2.2.2.2.2.2.1.map eNote), AS v1.2.2.2.2.2.2.2.1, AL 2 (v1.2.2.2.2.2.2.2.2.1.map eNote), AL 1 (v1.2.2.2.2.2.2.2.2.2.1.map (eL 1 (V.int .i64))), AL 3 (v1.2.2.2.2.2.2.2.2.2.2.1.map eSyllable), AL 2 (v1.2.2.2.2.2.2.2.2.2.2.2.1.map eNote), AL 6 (v1.2.2.2.2.2.2.2.2.2.2.2.2.1.map eItem), AL 5 (v1.2.2.2.2.2.2.2.2.2.2.2.2.2.1.map eLesson), AL 3 (v1.2.2.2.2.2.2.2.2.2.2.2.2.2.2.map ePerson)]), (0, .box [AS v0.1, AL 1 (v0.2.1.map (V.int .i64)), AL 1 (v0.2.2.1.map (V.int .i64)), AI v0.2.2.2.1, AI v0.2.2.2.2.1, AL 1 (v0.2.2.2.2.2.1.map (eL 1 (V.int .i64))), AL 2 (v0.2.2.2.2.2.2.1.map eNote), AS v0.2.2.2.2.2.2.2.1, AL 2 (v0.2.2.2.2.2.2.2.2.1.map eNote), AL 1 (v0.2.2.2.2.2.2.2.2.2.1.map (eL 1 (V.int .i64))), AL 3 (v0.2.2.2.2.2.2.2.2.2.2.1.map eSyllable), AL 2 (v0.2.2.2.2.2.2.2.2.2.2.2.1.map eNote), AL 6 (v0.2.2.2.2.2.2.2.2.2.2.2.2.1.map eItem), AL 5 (v0.2.2.2.2.2.2.2.2.2.2.2.2.2.1.map eLesson), AL 3 (v0.2.2.2.2.2.2.2.2.2.2.2.2.2.2.map ePerson)])]) [2, 3, 9] [(1, 1), (0, 0)] 2 ?_
              refine w_loopF (F_spec_SameDesk_l4 v0 v1) (fun s : Int => mkS [(2, .ptr 0 0 0), (3, .ptr 1 0 0), (9, AI s)] (fo [(1, .box [AS v1.1, AL 1 (v1.2.1.map (V.int .i64)), AL 1 (v1.2.2.1.map (V.int .i64)), AI v1.2.2.2.1, AI v1.2.2.2.2.1, AL 1 (v1.2.2.2.2.2.1.map (eL 1 (V.int .i64))), AL 2 (v1.2.2.2.2.2.2.1.map eNote), AS v1.2.2.2.2.2.2.2.1, AL 2 (v1.2.2.2.2.2.2.2.2.1.map eNote), AL 1 (v1.2.2.2.2.2.2.2.2.2.1.map (eL 1 (V.int .i64))), AL 3 (v1.2.2.2.2.2.2.2.2.2.2.1.map eSyllable), AL 2 (v1.2.2.2.2.2.2.2.2.2.2.2.1.map eNote), AL 6 (v1.2.2.2.2.2.2.2.2.2.2.2.2.1.map eItem), AL 5 (v1.2.2.2.2.2.2.2.2.2.2.2.2.2.1.map eLesson), AL 3 (v1.2.2.2.2.2.2.2.2.2.2.2.2.2.2.map ePerson)]), (0, .box [AS v0.1, AL 1 (v0.2.1.map (V.int .i64)), AL 1 (v0.2.2.1.map (V.int .i64)), AI v0.2.2.2.1, AI v0.2.2.2.2.1, AL 1 (v0.2.2.2.2.2.1.map (eL 1 (V.int .i64))), AL 2 (v0.2.2.2.2.2.2.1.map eNote), AS v0.2.2.2.2.2.2.2.1, AL 2 (v0.2.2.2.2.2.2.2.2.1.map eNote), AL 1 (v0.2.2.2.2.2.2.2.2.2.1.map (eL 1 (V.int .i64))), AL 3 (v0.2.2.2.2.2.2.2.2.2.2.1.map eSyllable), AL 2 (v0.2.2.2.2.2.2.2.2.2.2.2.1.map eNote), AL 6 (v0.2.2.2.2.2.2.2.2.2.2.2.2.1.map eItem), AL 5 (v0.2.2.2.2.2.2.2.2.2.2.2.2.2.1.map eLesson), AL 3 (v0.2.2.2.2.2.2.2.2.2.2.2.2.2.2.map ePerson)])]) 2) hF ?_
              rintro k9 v1044 hF
              rw [F_spec_SameDesk_l4] at hF
              try dsimp only
              refine w_seq ?_
              refine ws 2 322 ?_
              refine qp (AI v1044) rfl (qp (.ptr 0 0 13) rfl (qp (AL 5 (v0.2.2.2.2.2.2.2.2.2.2.2.2.2.1.map eLesson)) rfl (qp (AI (v0.2.2.2.2.2.2.2.2.2.2.2.2.2.1.length : Int)) (ev_len_n rfl) (qp (AB (decide (v1044 < (v0.2.2.2.2.2.2.2.2.2.2.2.2.2.1.length : Int)))) rfl ?_))))
              refine r_nil ?_
              refine cF hF (fun hF => ?_) fun hF => ?_
              ·
               refine w_skip ?_
               refine thenQ_n ?_
               refine w_seq ?_
               refine w_block ?_
               refine ws 322 1026 ?_
               refine qp (.ptr 0 0 13) rfl (qp (AL 5 (v0.2.2.2.2.2.2.2.2.2.2.2.2.2.1.map eLesson)) rfl (qp (AI v1044) rfl ?_))
               obtain ⟨v1045, e1045, hF⟩ := bind_get hF
               refine qp (.val none (.ptr [.int .i64 v1045.1, .str v1045.2.1, .str v1045.2.2.1, .int .i64 v1045.2.2.2.1, .int .i64 v1045.2.2.2.2])) (ev_iad_n rfl rfl e1045 rfl) (qp (.val none (eLesson v1045)) rfl (qp (.ptr 1 0 13) rfl (qp (AL 5 (v1.2.2.2.2.2.2.2.2.2.2.2.2.2.1.map eLesson)) rfl (qp (AI v1044) rfl ?_))))
               obtain ⟨v1046, e1046, hF⟩ := bind_get hF
               refine qp (.val none (.ptr [.int .i64 v1046.1, .str v1046.2.1, .str v1046.2.2.1, .int .i64 v1046.2.2.2.1, .int .i64 v1046.2.2.2.2])) (ev_iad_n rfl rfl e1046 rfl) (qp (.val none (eLesson v1046)) rfl (qp (AB (!(decide (v1045.1 = v1046.1) && (decide (v1045.2.1 = v1046.2.1) && (decide (v1045.2.2.1 = v1046.2.2.1) && (decide (v1045.2.2.2.1 = v1046.2.2.2.1) && (decide (v1045.2.2.2.2 = v1046.2.2.2.2) && true))))))) rfl ?_))
               refine r_nil ?_
               refine cF hF (fun hF => ?_) fun hF => ?_
               ·
                refine ws 1026 1090 ?_
                refine qp (AB false) rfl ?_
                refine r_nil ?_
                refine w_ret ?_
                refine blockQ_r ?_
                refine thenQ_r ?_
                refine thenQ_r ?_
                refine blockQ_r ?_
                refine thenQ_r ?_
                cases hF
                exact eR
               ·
                refine w_skip ?_
                refine blockQ_n ?_
                refine thenQ_n ?_
                refine w_reg 1026 1218 rfl rfl ?_
                refine qp (AI v1044) rfl (qp (AI (w64 (v1044 + 1))) rfl (qp (AI (w64 (v1044 + 1))) rfl ?_))
                refine r_nil ?_
                refine thenQ_n ?_
                refine ar (l' := [(2, .ptr 0 0 0), (3, .ptr 1 0 0), (9, AI (w64 (v1044 + 1)))]) (L := [(1, .box [AS v1.1, AL 1 (v1.2.1.map (V.int .i64)), AL 1 (v1.2.2.1.map (V.int .i64)), AI v1.2.2.2.1, AI v1.2.2.2.2.1, AL 1 (v1.2.2.2.2.2.1.map (eL 1 (V.int .i64))), AL 2 (v1.2.2.2.2.2.2.1.map eNote), AS v1.2.2.2.2.2.2.2.1, AL 2 (v1.2.2.2.2.2.2.2.2.1.map eNote), AL 1 (v1.2.2.2.2.2.2.2.2.2.1.map (eL 1 (V.int .i64))), AL 3 (v1.2.2.2.2.2.2.2.2.2.2.1.map eSyllable), AL 2 (v1.2.2.2.2.2.2.2.2.2.2.2.1.map eNote), AL 6 (v1.2.2.2.2.2.2.2.2.2.2.2.2.1.map eItem), AL 5 (v1.2.2.2.2.2.2.2.2.2.2.2.2.2.1.map eLesson), AL 3 (v1.2.2.2.2.2.2.2.2.2.2.2.2.2.2.map ePerson)]), (0, .box [AS v0.1, AL 1 (v0.2.1.map (V.int .i64)), AL 1 (v0.2.2.1.map (V.int .i64)), AI v0.2.2.2.1, AI v0.2.2.2.2.1, AL 1 (v0.2.2.2.2.2.1.map (eL 1 (V.int .i64))), AL 2 (v0.2.2.2.2.2.2.1.map eNote), AS v0.2.2.2.2.2.2.2.1, AL 2 (v0.2.2.2.2.2.2.2.2.1.map eNote), AL 1 (v0.2.2.2.2.2.2.2.2.2.1.map (eL 1 (V.int .i64))), AL 3 (v0.2.2.2.2.2.2.2.2.2.2.1.map eSyllable), AL 2 (v0.2.2.2.2.2.2.2.2.2.2.2.1.map eNote), AL 6 (v0.2.2.2.2.2.2.2.2.2.2.2.2.1.map eItem), AL 5 (v0.2.2.2.2.2.2.2.2.2.2.2.2.2.1.map eLesson), AL 3 (v0.2.2.2.2.2.2.2.2.2.2.2.2.2.2.map ePerson)])]) [2, 3, 9] [(1, 1), (0, 0)] 2 ⟨_, by rfl, hF⟩
              ·
               refine w_exit ?_
               refine thenQ_e ?_
               refine thenQ_e ?_
               refine blockQ_e ?_
               refine thenQ_n ?_
               refine ws 322 386 ?_
               refine qp (AB true) rfl ?_
               refine r_nil ?_
               refine w_ret ?_
               cases hF
               exact eR

def c78 : MC := (.seq (.reg [rg 4 (.p true (.mv (.c (.bool false))))]) (.seq (.seq (.reg [rg 6 (.p true (.mv (.t 0))), rg 7 (.p true (.len (.t 6))), rg 8 (.p true (.mv (.t 1))), rg 9 (.p true (.len (.t 8))), rg 10 (.p true (.bin .neq (.t 7) (.t 9)))]) (.cond (.t 10) (.seq (.reg [rg 4 (.p true (.mv (.c (.bool false))))]) .ret) .skip)) (.seq (.seq (.reg [rg 11 (.p true (.mv (.t 0))), rg 12 (.p true (.len (.t 11))), rg 13 (.p true (.mv (.c (.int .i64 0))))]) (.block 0 (.loop (.seq (.reg [rg 14 (.p true (.bin .lss (.t 13) (.t 12)))]) (.seq (.cond (.t 14) .skip (.exit 0)) (.seq (.block 1 (.seq (.reg [rg 15 (.p true (.mv (.t 13))), rg 5 (.p true (.mv (.t 15)))]) (.seq (.reg [rg 16 (.p false (.mv (.t 0))), rg 17 (.p false (.mv (.t 5))), rg 18 (.p false (.iad (.t 16) (.t 17) 1)), rg 19 (.p false (.ld (.t 18) 1 false)), rg 20 (.p false (.mv (.t 1))), rg 21 (.p false (.mv (.t 5))), rg 22 (.p false (.iad (.t 20) (.t 21) 1)), rg 23 (.p false (.ld (.t 22) 1 false)), rg 24 (.p false (.bin .neq (.t 19) (.t 23)))]) (.cond (.t 24) (.seq (.reg [rg 4 (.p true (.mv (.c (.bool false))))]) .ret) .skip)))) (.reg [rg 25 (.p true (.bin .add (.t 13) (.c (.int .i64 1)))), rg 13 (.p true (.mv (.t 25)))]))))))) (.seq (.reg [rg 4 (.p true (.mv (.c (.bool true))))]) .ret))))
theorem c78_is : compFn Try.prog 78 = some (c78, [(.tmp 4)]) := by kernel_rfl
theorem c78_ok : okFn Try.prog 78 = true := by kernel_rfl

noncomputable def F_slices_Equal_Sint64_int64_l0 (v0 : List Int) (v1 : List Int) (k0 : Int → Option (Bool)) : Int → Option (Bool)
 | v7 => (bif (decide (v7 < (v0.length : Int))) then ((ix v0 v7).bind fun v1000 => ((ix v1 v7).bind fun v1001 => (bif (decide (v1000 ≠ v1001)) then some false
 else k0 (w64 (v7 + 1)))))
 else some true)
noncomputable def F_slices_Equal_Sint64_int64 (v0 : List Int) (v1 : List Int) : Option (Bool) :=
 (bif (decide ((v0.length : Int) ≠ (v1.length : Int))) then some false
 else loop (F_slices_Equal_Sint64_int64_l0 v0 v1) 0)
@[simp] def res_slices_Equal_Sint64_int64 (r : Bool) : RV := .one (.one (.val (.bool r)))
theorem con_slices_Equal_Sint64_int64 {v0 : List Int} {v1 : List Int} {r : Bool} (hF : F_slices_Equal_Sint64_int64 v0 v1 = some r) : Con Try.prog 78 [.sl 1 (v0.map (V.int .i64)), .sl 1 (v1.map (V.int .i64))] (res_slices_Equal_Sint64_int64 r) := by
 unfold F_slices_Equal_Sint64_int64 at hF
 refine con_of c78_is fun N => ?_
 refine ws 0 64 ?_
 refine qp (AB false) rfl ?_
 refine r_nil ?_
 refine w_seq ?_
 refine ws 64 384 ?_
 refine qp (AL 1 (v0.map (V.int .i64))) rfl (qp (AI (v0.length : Int)) (ev_len_n rfl) (qp (AL 1 (v1.map (V.int .i64))) rfl (qp (AI (v1.length : Int)) (ev_len_n rfl) (qp (AB (decide ((v0.length : Int) ≠ (v1.length : Int)))) rfl ?_))))
 refine r_nil ?_
 refine cF hF (fun hF => ?_) fun hF => ?_
 ·
  refine ws 384 448 ?_
  refine qp (AB false) rfl ?_
  refine r_nil ?_
  refine w_ret ?_
  refine thenQ_r ?_
  cases hF
  exact eR
 ·
  refine w_skip ?_
  refine thenQ_n ?_
  refine w_seq ?_
  refine ws 384 576 ?_
  refine qp (AL 1 (v0.map (V.int .i64))) rfl (qp (AI (v0.length : Int)) (ev_len_n rfl) (qp (AI 0) rfl ?_))
  refine r_nil ?_
  refine w_block ?_
  refine wr (l' := [(0, AL 1 (v0.map (V.int .i64))), (1, AL 1 (v1.map (V.int .i64))), (12, AI (v0.length : Int)), (13, AI 0)]) (L := []) [0, 1, 12, 13] [] 1 ?_
  refine w_loopF (F_slices_Equal_Sint64_int64_l0 v0 v1) (fun s : Int => mkS [(0, AL 1 (v0.map (V.int .i64))), (1, AL 1 (v1.map (V.int .i64))), (12, AI (v0.length : Int)), (13, AI s)] (fo []) 1) hF ?_
  rintro k0 v7 hF
  rw [F_slices_Equal_Sint64_int64_l0] at hF
  try dsimp only
  refine ws 1 65 ?_
  refine qp (AB (decide (v7 < (v0.length : Int)))) rfl ?_
  refine r_nil ?_
  refine w_seq ?_
  refine cF hF (fun hF => ?_) fun hF => ?_
  ·
   refine w_skip ?_
   refine thenQ_n ?_
   refine w_seq ?_
   refine w_block ?_
   refine ws 65 193 ?_
   refine qp (AI v7) rfl (qp (AI v7) rfl ?_)
   refine r_nil ?_
   refine ws 193 769 ?_
   refine qp (AL 1 (v0.map (V.int .i64))) rfl (qp (AI v7) rfl ?_)
   obtain ⟨v1000, e1000, hF⟩ := bind_get hF
   refine qp (.val none (.ptr [.int .i64 v1000])) (ev_iad_n rfl rfl e1000 rfl) (qp (AI v1000) rfl (qp (AL 1 (v1.map (V.int .i64))) rfl (qp (AI v7) rfl ?_)))
   obtain ⟨v1001, e1001, hF⟩ := bind_get hF
   refine qp (.val none (.ptr [.int .i64 v1001])) (ev_iad_n rfl rfl e1001 rfl) (qp (AI v1001) rfl (qp (AB (decide (v1000 ≠ v1001))) rfl ?_))
   refine r_nil ?_
   refine cF hF (fun hF => ?_) fun hF => ?_
   ·
    refine ws 769 833 ?_
    refine qp (AB false) rfl ?_
    refine r_nil ?_
    refine w_ret ?_
    refine blockQ_r ?_
    refine thenQ_r ?_
    refine thenQ_r ?_
    refine blockQ_r ?_
    refine thenQ_r ?_
    cases hF
    exact eR
   ·
    refine w_skip ?_
    refine blockQ_n ?_
    refine thenQ_n ?_
    refine w_reg 769 897 rfl rfl ?_
    refine qp (AI (w64 (v7 + 1))) rfl (qp (AI (w64 (v7 + 1))) rfl ?_)
    refine r_nil ?_
    refine thenQ_n ?_
    refine ar (l' := [(0, AL 1 (v0.map (V.int .i64))), (1, AL 1 (v1.map (V.int .i64))), (12, AI (v0.length : Int)), (13, AI (w64 (v7 + 1)))]) (L := []) [0, 1, 12, 13] [] 1 ⟨_, by rfl, hF⟩
  ·
   refine w_exit ?_
   refine thenQ_e ?_
   refine thenQ_e ?_
   refine blockQ_e ?_
   refine thenQ_n ?_
   refine ws 65 129 ?_
   refine qp (AB true) rfl ?_
   refine r_nil ?_
   refine w_ret ?_
   cases hF
   exact eR

def c77 : MC := (.seq (.reg [rg 6 (.p true (.mv (.c (.bool false))))]) (.seq (.seq (.reg [rg 10 (.p true (.mv (.t 0))), rg 11 (.p true (.len (.t 10))), rg 12 (.p true (.mv (.t 1))), rg 13 (.p true (.len (.t 12))), rg 14 (.p true (.bin .neq (.t 11) (.t 13)))]) (.cond (.t 14) (.seq (.reg [rg 6 (.p true (.mv (.c (.bool false))))]) .ret) .skip)) (.seq (.seq (.reg [rg 15 (.p true (.mv (.t 0))), rg 16 (.p true (.len (.t 15))), rg 17 (.p true (.mv (.c (.int .i64 0))))]) (.block 0 (.loop (.seq (.reg [rg 18 (.p true (.bin .lss (.t 17) (.t 16)))]) (.seq (.cond (.t 18) .skip (.exit 0)) (.seq (.block 1 (.seq (.reg [rg 19 (.p true (.mv (.t 17))), rg 20 (.p true (.iad (.t 15) (.t 17) 1)), rg 21 (.p true (.ld (.t 20) 1 false)), rg 7 (.p true (.mv (.t 19))), rg 8 (.p true (.mv (.t 21)))]) (.seq (.reg [rg 22 (.p true (.mv (.t 1))), rg 23 (.p true (.mv (.t 7))), rg 24 (.p true (.iad (.t 22) (.t 23) 1)), rg 25 (.p true (.ld (.t 24) 1 false)), rg 9 (.p true (.mv (.t 25)))]) (.seq (.reg [rg 26 (.p true (.mv (.t 2))), rg 27 (.p true (.mv (.t 8))), rg 28 (.p true (.mv (.t 9))), rg 29 (.callv (.t 26) [(.t 27), (.t 28)]), rg 30 (.p true (.not (.t 29)))]) (.cond (.t 30) (.seq (.reg [rg 6 (.p true (.mv (.c (.bool false))))]) .ret) .skip))))) (.reg [rg 31 (.p true (.bin .add (.t 17) (.c (.int .i64 1)))), rg 17 (.p true (.mv (.t 31)))]))))))) (.seq (.reg [rg 6 (.p true (.mv (.c (.bool true))))]) .ret))))
theorem c77_is : compFn Try.prog 77 = some (c77, [(.tmp 6)]) := by kernel_rfl
theorem c77_ok : okFn Try.prog 77 = true := by kernel_rfl

noncomputable def F_slices_EqualFunc_SSint64_Sint64_l0 (v0 : List (List Int)) (v1 : List (List Int)) (k0 : Int → Option (Bool)) : Int → Option (Bool)
 | v9 => (bif (decide (v9 < (v0.length : Int))) then ((ix v0 v9).bind fun v1000 => ((ix v1 v9).bind fun v1001 => ((F_slices_Equal_Sint64_int64 v1000 v1001).bind fun v1002 => (bif (!v1002) then some false
 else k0 (w64 (v9 + 1))))))
 else some true)
noncomputable def F_slices_EqualFunc_SSint64_Sint64 (v0 : List (List Int)) (v1 : List (List Int)) : Option (Bool) :=
 (bif (decide ((v0.length : Int) ≠ (v1.length : Int))) then some false
 else loop (F_slices_EqualFunc_SSint64_Sint64_l0 v0 v1) 0)
@[simp] def res_slices_EqualFunc_SSint64_Sint64 (r : Bool) : RV := .one (.one (.val (.bool r)))
theorem con_slices_EqualFunc_SSint64_Sint64 {v0 : List (List Int)} {v1 : List (List Int)} {r : Bool} (hF : F_slices_EqualFunc_SSint64_Sint64 v0 v1 = some r) : Con Try.prog 77 [.sl 1 (v0.map (eL 1 (V.int .i64))), .sl 1 (v1.map (eL 1 (V.int .i64))), .fn 78 []] (res_slices_EqualFunc_SSint64_Sint64 r) := by
 unfold F_slices_EqualFunc_SSint64_Sint64 at hF
 refine con_of c77_is fun N => ?_
 refine ws 0 64 ?_
 refine qp (AB false) rfl ?_
 refine r_nil ?_
 refine w_seq ?_
 refine ws 64 384 ?_
 refine qp (AL 1 (v0.map (eL 1 (V.int .i64)))) rfl (qp (AI (v0.length : Int)) (ev_len_n rfl) (qp (AL 1 (v1.map (eL 1 (V.int .i64)))) rfl (qp (AI (v1.length : Int)) (ev_len_n rfl) (qp (AB (decide ((v0.length : Int) ≠ (v1.length : Int)))) rfl ?_))))
 refine r_nil ?_
 refine cF hF (fun hF => ?_) fun hF => ?_
 ·
  refine ws 384 448 ?_
  refine qp (AB false) rfl ?_
  refine r_nil ?_
  refine w_ret ?_
  refine thenQ_r ?_
  cases hF
  exact eR
 ·
  refine w_skip ?_
  refine thenQ_n ?_
  refine w_seq ?_
  refine ws 384 576 ?_
  refine qp (AL 1 (v0.map (eL 1 (V.int .i64)))) rfl (qp (AI (v0.length : Int)) (ev_len_n rfl) (qp (AI 0) rfl ?_))
  refine r_nil ?_
  refine w_block ?_
  refine wr (l' := [(1, AL 1 (v1.map (eL 1 (V.int .i64)))), (2, .val none (.fn 78 [])), (15, AL 1 (v0.map (eL 1 (V.int .i64)))), (16, AI (v0.length : Int)), (17, AI 0)]) (L := []) [1, 2, 15, 16, 17] [] 1 ?_
  refine w_loopF (F_slices_EqualFunc_SSint64_Sint64_l0 v0 v1) (fun s : Int => mkS [(1, AL 1 (v1.map (eL 1 (V.int .i64)))), (2, .val none (.fn 78 [])), (15, AL 1 (v0.map (eL 1 (V.int .i64)))), (16, AI (v0.length : Int)), (17, AI s)] (fo []) 1) hF ?_
  rintro k0 v9 hF
  rw [F_slices_EqualFunc_SSint64_Sint64_l0] at hF
  try dsimp only
  refine ws 1 65 ?_
  refine qp (AB (decide (v9 < (v0.length : Int)))) rfl ?_
  refine r_nil ?_
  refine w_seq ?_
  refine cF hF (fun hF => ?_) fun hF => ?_
  ·
   refine w_skip ?_
   refine thenQ_n ?_
   refine w_seq ?_
   refine w_block ?_
   refine ws 65 385 ?_
   refine qp (AI v9) rfl ?_
   obtain ⟨v1000, e1000, hF⟩ := bind_get hF
   refine qp (.val none (.ptr [.sl 1 (v1000.map (V.int .i64))])) (ev_iad_n rfl rfl e1000 rfl) (qp (AL 1 (v1000.map (V.int .i64))) rfl (qp (AI v9) rfl (qp (AL 1 (v1000.map (V.int .i64))) rfl ?_)))
   refine r_nil ?_
   refine ws 385 705 ?_
   refine qp (AL 1 (v1.map (eL 1 (V.int .i64)))) rfl (qp (AI v9) rfl ?_)
   obtain ⟨v1001, e1001, hF⟩ := bind_get hF
   refine qp (.val none (.ptr [.sl 1 (v1001.map (V.int .i64))])) (ev_iad_n rfl rfl e1001 rfl) (qp (AL 1 (v1001.map (V.int .i64))) rfl (qp (AL 1 (v1001.map (V.int .i64))) rfl ?_))
   refine r_nil ?_
   refine ws 705 1025 ?_
   refine qp (.val none (.fn 78 [])) rfl (qp (AL 1 (v1000.map (V.int .i64))) rfl (qp (AL 1 (v1001.map (V.int .i64))) rfl ?_))
   obtain ⟨v1002, e1002, hF⟩ := bind_get hF
   refine qcv (AB v1002) [] false rfl (con_slices_Equal_Sint64_int64 e1002) c78_ok (by first | rfl | simp) rfl ?_
   refine qp (AB (!v1002)) rfl ?_
   refine r_nil ?_
   refine cF hF (fun hF => ?_) fun hF => ?_
   ·
    refine ws 1025 1089 ?_
    refine qp (AB false) rfl ?_
    refine r_nil ?_
    refine w_ret ?_
    refine blockQ_r ?_
    refine thenQ_r ?_
    refine thenQ_r ?_
    refine blockQ_r ?_
    refine thenQ_r ?_
    cases hF
    exact eR
   ·
    refine w_skip ?_
    refine blockQ_n ?_
    refine thenQ_n ?_
    refine w_reg 1025 1153 rfl rfl ?_
    refine qp (AI (w64 (v9 + 1))) rfl (qp (AI (w64 (v9 + 1))) rfl ?_)
    refine r_nil ?_
    refine thenQ_n ?_
    refine ar (l' := [(1, AL 1 (v1.map (eL 1 (V.int .i64)))), (2, .val none (.fn 78 [])), (15, AL 1 (v0.map (eL 1 (V.int .i64)))), (16, AI (v0.length : Int)), (17, AI (w64 (v9 + 1)))]) (L := []) [1, 2, 15, 16, 17] [] 1 ⟨_, by rfl, hF⟩
  ·
   refine w_exit ?_
   refine thenQ_e ?_
   refine thenQ_e ?_
   refine blockQ_e ?_
   refine thenQ_n ?_
   refine ws 65 129 ?_
   refine qp (AB true) rfl ?_
   refine r_nil ?_
   refine w_ret ?_
   cases hF
   exact eR

def c74 : MC := (.seq (.reg [rg 2 (.f (.box (.t 0))), rg 3 (.f (.box (.t 1))), rg 4 (.p true (.mv (.c (.bool false))))]) (.seq (.reg [rg 5 (.p true (.fad (.t 2) 0)), rg 6 (.p true (.ld (.t 5) 1 false)), rg 7 (.p true (.fad (.t 3) 0)), rg 8 (.p true (.ld (.t 7) 1 false)), rg 9 (.p true (.bin .eql (.t 6) (.t 8))), rg 10 (.p true (.mv (.t 9))), ⟨(some 11), (some (10, true)), (.p true (.fad (.t 2) 1))⟩, ⟨(some 12), (some (10, true)), (.p true (.ld (.t 11) 1 false))⟩, ⟨(some 13), (some (10, true)), (.p true (.fad (.t 3) 1))⟩, ⟨(some 14), (some (10, true)), (.p true (.ld (.t 13) 1 false))⟩, ⟨(some 15), (some (10, true)), (.call true 78 [(.t 12), (.t 14)])⟩, rg 16 (.p true (.pick (.t 10) (.t 15) (.c (.bool false)))), rg 17 (.p true (.mv (.t 16))), ⟨(some 18), (some (17, true)), (.p true (.fad (.t 2) 2))⟩, ⟨(some 19), (some (17, true)), (.p true (.ld (.t 18) 1 false))⟩, ⟨(some 20), (some (17, true)), (.p true (.fad (.t 3) 2))⟩, ⟨(some 21), (some (17, true)), (.p true (.ld (.t 20) 1 false))⟩, ⟨(some 22), (some (17, true)), (.call true 78 [(.t 19), (.t 21)])⟩, rg 23 (.p true (.pick (.t 17) (.t 22) (.c (.bool false)))), rg 24 (.p true (.mv (.t 23))), ⟨(some 25), (some (24, true)), (.p true (.fad (.t 2) 3))⟩, ⟨(some 26), (some (24, true)), (.p true (.ld (.t 25) 1 false))⟩, ⟨(some 27), (some (24, true)), (.p true (.fad (.t 3) 3))⟩, ⟨(some 28), (some (24, true)), (.p true (.ld (.t 27) 1 false))⟩, ⟨(some 29), (some (24, true)), (.p true (.bin .eql (.t 26) (.t 28)))⟩, rg 30 (.p true (.pick (.t 24) (.t 29) (.c (.bool false)))), rg 31 (.p true (.mv (.t 30))), ⟨(some 32), (some (31, true)), (.p true (.fad (.t 2) 4))⟩, ⟨(some 33), (some (31, true)), (.p true (.ld (.t 32) 1 false))⟩, ⟨(some 34), (some (31, true)), (.p true (.fad (.t 3) 4))⟩, ⟨(some 35), (some (31, true)), (.p true (.ld (.t 34) 1 false))⟩, ⟨(some 36), (some (31, true)), (.p true (.bin .eql (.t 33) (.t 35)))⟩, rg 37 (.p true (.pick (.t 31) (.t 36) (.c (.bool false)))), rg 38 (.p true (.mv (.t 37))), ⟨(some 39), (some (38, true)), (.p true (.fad (.t 2) 5))⟩, ⟨(some 40), (some (38, true)), (.p true (.ld (.t 39) 1 false))⟩, ⟨(some 41), (some (38, true)), (.p true (.fad (.t 3) 5))⟩, ⟨(some 42), (some (38, true)), (.p true (.ld (.t 41) 1 false))⟩, ⟨(some 43), (some (38, true)), (.call true 77 [(.t 40), (.t 42), (.f 78)])⟩, rg 44 (.p true (.pick (.t 38) (.t 43) (.c (.bool false)))), rg 4 (.p true (.mv (.t 44)))]) .ret))
theorem c74_is : compFn Try.prog 74 = some (c74, [(.tmp 4)]) := by kernel_rfl
theorem c74_ok : okFn Try.prog 74 = true := by kernel_rfl

noncomputable def F_impl_SameRaga (v0 : TRaga) (v1 : TRaga) : Option (Bool) :=
 (bif (decide (v0.1 = v1.1)) then ((F_slices_Equal_Sint64_int64 v0.2.1 v1.2.1).bind fun v1000 => (bif v1000 then ((F_slices_Equal_Sint64_int64 v0.2.2.1 v1.2.2.1).bind fun v1001 => (bif v1001 then (bif (decide (v0.2.2.2.1 = v1.2.2.2.1)) then (bif (decide (v0.2.2.2.2.1 = v1.2.2.2.2.1)) then ((F_slices_EqualFunc_SSint64_Sint64 v0.2.2.2.2.2 v1.2.2.2.2.2).bind fun v1002 => some v1002)
 else some false)
 else some false)
 else some false))
 else some false))
 else some false)
@[simp] def res_impl_SameRaga (r : Bool) : RV := .one (.one (.val (.bool r)))
theorem con_impl_SameRaga {v0 : TRaga} {v1 : TRaga} {r : Bool} (hF : F_impl_SameRaga v0 v1 = some r) : Con Try.prog 74 [eRaga v0, eRaga v1] (res_impl_SameRaga r) := by
 unfold F_impl_SameRaga at hF
 refine con_of c74_is fun N => ?_
 refine ws 0 192 ?_
 refine qf (.ptr 0 0 0) [(0, .box [AS v0.1, AL 1 (v0.2.1.map (V.int .i64)), AL 1 (v0.2.2.1.map (V.int .i64)), AI v0.2.2.2.1, AI v0.2.2.2.2.1, AL 1 (v0.2.2.2.2.2.map (eL 1 (V.int .i64)))])] (by simp) ?_
 refine qf (.ptr 64 0 0) [(64, .box [AS v1.1, AL 1 (v1.2.1.map (V.int .i64)), AL 1 (v1.2.2.1.map (V.int .i64)), AI v1.2.2.2.1, AI v1.2.2.2.2.1, AL 1 (v1.2.2.2.2.2.map (eL 1 (V.int .i64)))]), (0, .box [AS v0.1, AL 1 (v0.2.1.map (V.int .i64)), AL 1 (v0.2.2.1.map (V.int .i64)), AI v0.2.2.2.1, AI v0.2.2.2.2.1, AL 1 (v0.2.2.2.2.2.map (eL 1 (V.int .i64)))])] (by simp) ?_
 refine qp (AB false) rfl ?_
 refine r_nil ?_
 refine ws 192 2816 ?_
 refine qp (.ptr 0 0 0) rfl (qp (AS v0.1) rfl (qp (.ptr 64 0 0) rfl (qp (AS v1.1) rfl (qp (AB (decide (v0.1 = v1.1))) rfl (qp (AB (decide (v0.1 = v1.1))) rfl ?_)))))
 refine q_case 10 hF rfl (fun hF => ?_) (fun hF => ?_)
 ·
  refine qg (.ptr 0 0 1) rfl rfl (qg (AL 1 (v0.2.1.map (V.int .i64))) rfl rfl (qg (.ptr 64 0 1) rfl rfl (qg (AL 1 (v1.2.1.map (V.int .i64))) rfl rfl ?_)))
  obtain ⟨v1000, e1000, hF⟩ := bind_get hF
  refine qcg (AB v1000) [(64, .box [AS v1.1, AL 1 (v1.2.1.map (V.int .i64)), AL 1 (v1.2.2.1.map (V.int .i64)), AI v1.2.2.2.1, AI v1.2.2.2.2.1, AL 1 (v1.2.2.2.2.2.map (eL 1 (V.int .i64)))]), (0, .box [AS v0.1, AL 1 (v0.2.1.map (V.int .i64)), AL 1 (v0.2.2.1.map (V.int .i64)), AI v0.2.2.2.1, AI v0.2.2.2.2.1, AL 1 (v0.2.2.2.2.2.map (eL 1 (V.int .i64)))])] false rfl (con_slices_Equal_Sint64_int64 e1000) c78_ok (by first | rfl | simp) rfl ?_
  refine qp (AB v1000) rfl (qp (AB v1000) rfl ?_)
  refine q_case 17 hF rfl (fun hF => ?_) (fun hF => ?_)
  ·
   refine qg (.ptr 0 0 2) rfl rfl (qg (AL 1 (v0.2.2.1.map (V.int .i64))) rfl rfl (qg (.ptr 64 0 2) rfl rfl (qg (AL 1 (v1.2.2.1.map (V.int .i64))) rfl rfl ?_)))
   obtain ⟨v1001, e1001, hF⟩ := bind_get hF
   refine qcg (AB v1001) [(64, .box [AS v1.1, AL 1 (v1.2.1.map (V.int .i64)), AL 1 (v1.2.2.1.map (V.int .i64)), AI v1.2.2.2.1, AI v1.2.2.2.2.1, AL 1 (v1.2.2.2.2.2.map (eL 1 (V.int .i64)))]), (0, .box [AS v0.1, AL 1 (v0.2.1.map (V.int .i64)), AL 1 (v0.2.2.1.map (V.int .i64)), AI v0.2.2.2.1, AI v0.2.2.2.2.1, AL 1 (v0.2.2.2.2.2.map (eL 1 (V.int .i64)))])] false rfl (con_slices_Equal_Sint64_int64 e1001) c78_ok (by first | rfl | simp) rfl ?_
   refine qp (AB v1001) rfl (qp (AB v1001) rfl ?_)
   refine q_case 24 hF rfl (fun hF => ?_) (fun hF => ?_)
   ·
    refine qg (.ptr 0 0 3) rfl rfl (qg (AI v0.2.2.2.1) rfl rfl (qg (.ptr 64 0 3) rfl rfl (qg (AI v1.2.2.2.1) rfl rfl (qg (AB (decide (v0.2.2.2.1 = v1.2.2.2.1))) rfl rfl (qp (AB (decide (v0.2.2.2.1 = v1.2.2.2.1))) rfl (qp (AB (decide (v0.2.2.2.1 = v1.2.2.2.1))) rfl ?_))))))
    refine q_case 31 hF rfl (fun hF => ?_) (fun hF => ?_)
    ·
     refine qg (.ptr 0 0 4) rfl rfl (qg (AI v0.2.2.2.2.1) rfl rfl (qg (.ptr 64 0 4) rfl rfl (qg (AI v1.2.2.2.2.1) rfl rfl (qg (AB (decide (v0.2.2.2.2.1 = v1.2.2.2.2.1))) rfl rfl (qp (AB (decide (v0.2.2.2.2.1 = v1.2.2.2.2.1))) rfl (qp (AB (decide (v0.2.2.2.2.1 = v1.2.2.2.2.1))) rfl ?_))))))
     refine q_case 38 hF rfl (fun hF => ?_) (fun hF => ?_)
     ·
      refine qg (.ptr 0 0 5) rfl rfl (qg (AL 1 (v0.2.2.2.2.2.map (eL 1 (V.int .i64)))) rfl rfl (qg (.ptr 64 0 5) rfl rfl (qg (AL 1 (v1.2.2.2.2.2.map (eL 1 (V.int .i64)))) rfl rfl ?_)))
      obtain ⟨v1002, e1002, hF⟩ := bind_get hF
      refine qcg (AB v1002) [(64, .box [AS v1.1, AL 1 (v1.2.1.map (V.int .i64)), AL 1 (v1.2.2.1.map (V.int .i64)), AI v1.2.2.2.1, AI v1.2.2.2.2.1, AL 1 (v1.2.2.2.2.2.map (eL 1 (V.int .i64)))]), (0, .box [AS v0.1, AL 1 (v0.2.1.map (V.int .i64)), AL 1 (v0.2.2.1.map (V.int .i64)), AI v0.2.2.2.1, AI v0.2.2.2.2.1, AL 1 (v0.2.2.2.2.2.map (eL 1 (V.int .i64)))])] false rfl (con_slices_EqualFunc_SSint64_Sint64 e1002) c77_ok (by first | rfl | simp) rfl ?_
      refine qp (AB v1002) rfl (qp (AB v1002) rfl ?_)
      refine r_nil ?_
      refine w_ret ?_
      cases hF
      exact eR
     ·
      refine qn rfl (qn rfl (qn rfl (qn rfl (qn rfl (qp (AB false) rfl (qp (AB false) rfl ?_))))))
      refine r_nil ?_
      refine w_ret ?_
      cases hF
      exact eR
    ·
     refine qn rfl (qn rfl (qn rfl (qn rfl (qn rfl (qp (AB false) rfl (qp (AB false) rfl (qn rfl ?_)))))))
     refine qn rfl (qn rfl (qn rfl (qn rfl (qp (AB false) rfl (qp (AB false) rfl ?_)))))
     refine r_nil ?_
     refine w_ret ?_
     cases hF
     exact eR
   ·
    refine qn rfl (qn rfl (qn rfl (qn rfl (qn rfl (qp (AB false) rfl (qp (AB false) rfl (qn rfl ?_)))))))
    refine qn rfl (qn rfl (qn rfl (qn rfl (qp (AB false) rfl (qp (AB false) rfl (qn rfl (qn rfl ?_)))))))
    refine qn rfl (qn rfl (qn rfl (qp (AB false) rfl (qp (AB false) rfl ?_))))
    refine r_nil ?_
    refine w_ret ?_
    cases hF
    exact eR
  ·
   refine qn rfl (qn rfl (qn rfl (qn rfl (qn rfl (qp (AB false) rfl (qp (AB false) rfl (qn rfl ?_)))))))
   refine qn rfl (qn rfl (qn rfl (qn rfl (qp (AB false) rfl (qp (AB false) rfl (qn rfl (qn rfl ?_)))))))
   refine qn rfl (qn rfl (qn rfl (qp (AB false) rfl (qp (AB false) rfl (qn rfl (qn rfl (qn rfl ?_)))))))
   refine qn rfl (qn rfl (qp (AB false) rfl (qp (AB false) rfl ?_)))
   refine r_nil ?_
   refine w_ret ?_
   cases hF
   exact eR
 ·
  refine qn rfl (qn rfl (qn rfl (qn rfl (qn rfl (qp (AB false) rfl (qp (AB false) rfl (qn rfl ?_)))))))
  refine qn rfl (qn rfl (qn rfl (qn rfl (qp (AB false) rfl (qp (AB false) rfl (qn rfl (qn rfl ?_)))))))
  refine qn rfl (qn rfl (qn rfl (qp (AB false) rfl (qp (AB false) rfl (qn rfl (qn rfl (qn rfl ?_)))))))
  refine qn rfl (qn rfl (qp (AB false) rfl (qp (AB false) rfl (qn rfl (qn rfl (qn rfl (qn rfl ?_)))))))
  refine qn rfl (qp (AB false) rfl (qp (AB false) rfl ?_))
  refine r_nil ?_
  refine w_ret ?_
  cases hF
  exact eR

def c75 : MC := (.seq (.reg [rg 4 (.p true (.mv (.c (.bool false))))]) (.seq (.seq (.reg [rg 6 (.p true (.mv (.t 0))), rg 7 (.p true (.len (.t 6))), rg 8 (.p true (.mv (.t 1))), rg 9 (.p true (.len (.t 8))), rg 10 (.p true (.bin .neq (.t 7) (.t 9)))]) (.cond (.t 10) (.seq (.reg [rg 4 (.p true (.mv (.c (.bool false))))]) .ret) .skip)) (.seq (.seq (.reg [rg 11 (.p true (.mv (.t 0))), rg 12 (.p true (.len (.t 11))), rg 13 (.p true (.mv (.c (.int .i64 0))))]) (.block 0 (.loop (.seq (.reg [rg 14 (.p true (.bin .lss (.t 13) (.t 12)))]) (.seq (.cond (.t 14) .skip (.exit 0)) (.seq (.block 1 (.seq (.reg [rg 15 (.p true (.mv (.t 13))), rg 5 (.p true (.mv (.t 15)))]) (.seq (.reg [rg 16 (.p false (.mv (.t 0))), rg 17 (.p false (.mv (.t 5))), rg 18 (.p false (.iad (.t 16) (.t 17) 2)), rg 19 (.p false (.ld (.t 18) 2 true)), rg 20 (.p false (.mv (.t 1))), rg 21 (.p false (.mv (.t 5))), rg 22 (.p false (.iad (.t 20) (.t 21) 2)), rg 23 (.p false (.ld (.t 22) 2 true)), rg 24 (.p false (.eqs true [0, 0] (.t 19) (.t 23)))]) (.cond (.t 24) (.seq (.reg [rg 4 (.p true (.mv (.c (.bool false))))]) .ret) .skip)))) (.reg [rg 25 (.p true (.bin .add (.t 13) (.c (.int .i64 1)))), rg 13 (.p true (.mv (.t 25)))]))))))) (.seq (.reg [rg 4 (.p true (.mv (.c (.bool true))))]) .ret))))
theorem c75_is : compFn Try.prog 75 = some (c75, [(.tmp 4)]) := by kernel_rfl
theorem c75_ok : okFn Try.prog 75 = true := by kernel_rfl

noncomputable def F_slices_Equal_SNote_Note_l0 (v0 : List TNote) (v1 : List TNote) (k0 : Int → Option (Bool)) : Int → Option (Bool)
 | v7 => (bif (decide (v7 < (v0.length : Int))) then ((ix v0 v7).bind fun v1000 => ((ix v1 v7).bind fun v1001 => (bif (!(decide (v1000.1 = v1001.1) && (decide (v1000.2 = v1001.2) && true))) then some false
 else k0 (w64 (v7 + 1)))))
 else some true)
noncomputable def F_slices_Equal_SNote_Note (v0 : List TNote) (v1 : List TNote) : Option (Bool) :=
 (bif (decide ((v0.length : Int) ≠ (v1.length : Int))) then some false
 else loop (F_slices_Equal_SNote_Note_l0 v0 v1) 0)
@[simp] def res_slices_Equal_SNote_Note (r : Bool) : RV := .one (.one (.val (.bool r)))
theorem con_slices_Equal_SNote_Note {v0 : List TNote} {v1 : List TNote} {r : Bool} (hF : F_slices_Equal_SNote_Note v0 v1 = some r) : Con Try.prog 75 [.sl 2 (v0.map eNote), .sl 2 (v1.map eNote)] (res_slices_Equal_SNote_Note r) := by
 unfold F_slices_Equal_SNote_Note at hF
 refine con_of c75_is fun N => ?_
 refine ws 0 64 ?_
 refine qp (AB false) rfl ?_
 refine r_nil ?_
 refine w_seq ?_
 refine ws 64 384 ?_
 refine qp (AL 2 (v0.map eNote)) rfl (qp (AI (v0.length : Int)) (ev_len_n rfl) (qp (AL 2 (v1.map eNote)) rfl (qp (AI (v1.length : Int)) (ev_len_n rfl) (qp (AB (decide ((v0.length : Int) ≠ (v1.length : Int)))) rfl ?_))))
 refine r_nil ?_
 refine cF hF (fun hF => ?_) fun hF => ?_
 ·
  refine ws 384 448 ?_
  refine qp (AB false) rfl ?_
  refine r_nil ?_
  refine w_ret ?_
  refine thenQ_r ?_
  cases hF
  exact eR
 ·
  refine w_skip ?_
  refine thenQ_n ?_
  refine w_seq ?_
  refine ws 384 576 ?_
  refine qp (AL 2 (v0.map eNote)) rfl (qp (AI (v0.length : Int)) (ev_len_n rfl) (qp (AI 0) rfl ?_))
  refine r_nil ?_
  refine w_block ?_
  refine wr (l' := [(0, AL 2 (v0.map eNote)), (1, AL 2 (v1.map eNote)), (12, AI (v0.length : Int)), (13, AI 0)]) (L := []) [0, 1, 12, 13] [] 1 ?_
  refine w_loopF (F_slices_Equal_SNote_Note_l0 v0 v1) (fun s : Int => mkS [(0, AL 2 (v0.map eNote)), (1, AL 2 (v1.map eNote)), (12, AI (v0.length : Int)), (13, AI s)] (fo []) 1) hF ?_
  rintro k0 v7 hF
  rw [F_slices_Equal_SNote_Note_l0] at hF
  try dsimp only
  refine ws 1 65 ?_
  refine qp (AB (decide (v7 < (v0.length : Int)))) rfl ?_
  refine r_nil ?_
  refine w_seq ?_
  refine cF hF (fun hF => ?_) fun hF => ?_
  ·
   refine w_skip ?_
   refine thenQ_n ?_
   refine w_seq ?_
   refine w_block ?_
   refine ws 65 193 ?_
   refine qp (AI v7) rfl (qp (AI v7) rfl ?_)
   refine r_nil ?_
   refine ws 193 769 ?_
   refine qp (AL 2 (v0.map eNote)) rfl (qp (AI v7) rfl ?_)
   obtain ⟨v1000, e1000, hF⟩ := bind_get hF
   refine qp (.val none (.ptr [.int .i64 v1000.1, .int .i64 v1000.2])) (ev_iad_n rfl rfl e1000 rfl) (qp (.val none (eNote v1000)) rfl (qp (AL 2 (v1.map eNote)) rfl (qp (AI v7) rfl ?_)))
   obtain ⟨v1001, e1001, hF⟩ := bind_get hF
   refine qp (.val none (.ptr [.int .i64 v1001.1, .int .i64 v1001.2])) (ev_iad_n rfl rfl e1001 rfl) (qp (.val none (eNote v1001)) rfl (qp (AB (!(decide (v1000.1 = v1001.1) && (decide (v1000.2 = v1001.2) && true)))) rfl ?_))
   refine r_nil ?_
   refine cF hF (fun hF => ?_) fun hF => ?_
   ·
    refine ws 769 833 ?_
    refine qp (AB false) rfl ?_
    refine r_nil ?_
    refine w_ret ?_
    refine blockQ_r ?_
    refine thenQ_r ?_
    refine thenQ_r ?_
    refine blockQ_r ?_
    refine thenQ_r ?_
    cases hF
    exact eR
   ·
    refine w_skip ?_
    refine blockQ_n ?_
    refine thenQ_n ?_
    refine w_reg 769 897 rfl rfl ?_
    refine qp (AI (w64 (v7 + 1))) rfl (qp (AI (w64 (v7 + 1))) rfl ?_)
    refine r_nil ?_
    refine thenQ_n ?_
    refine ar (l' := [(0, AL 2 (v0.map eNote)), (1, AL 2 (v1.map eNote)), (12, AI (v0.length : Int)), (13, AI (w64 (v7 + 1)))]) (L := []) [0, 1, 12, 13] [] 1 ⟨_, by rfl, hF⟩
  ·
   refine w_exit ?_
   refine thenQ_e ?_
   refine thenQ_e ?_
   refine blockQ_e ?_
   refine thenQ_n ?_
   refine ws 65 129 ?_
   refine qp (AB true) rfl ?_
   refine r_nil ?_
   refine w_ret ?_
   cases hF
   exact eR

def c176 : MC := (.seq (.reg [rg 4 (.p true (.mv (.c (.bool false))))]) (.seq (.seq (.reg [rg 6 (.p true (.mv (.t 0))), rg 7 (.p true (.len (.t 6))), rg 8 (.p true (.mv (.t 1))), rg 9 (.p true (.len (.t 8))), rg 10 (.p true (.bin .neq (.t 7) (.t 9)))]) (.cond (.t 10) (.seq (.reg [rg 4 (.p true (.mv (.c (.bool false))))]) .ret) .skip)) (.seq (.seq (.reg [rg 11 (.p true (.mv (.t 0))), rg 12 (.p true (.len (.t 11))), rg 13 (.p true (.mv (.c (.int .i64 0))))]) (.block 0 (.loop (.seq (.reg [rg 14 (.p true (.bin .lss (.t 13) (.t 12)))]) (.seq (.cond (.t 14) .skip (.exit 0)) (.seq (.block 1 (.seq (.reg [rg 15 (.p true (.mv (.t 13))), rg 5 (.p true (.mv (.t 15)))]) (.seq (.reg [rg 16 (.p false (.mv (.t 0))), rg 17 (.p false (.mv (.t 5))), rg 18 (.p false (.iad (.t 16) (.t 17) 2)), rg 19 (.p false (.ld (.t 18) 2 true)), rg 20 (.p false (.mv (.t 1))), rg 21 (.p false (.mv (.t 5))), rg 22 (.p false (.iad (.t 20) (.t 21) 2)), rg 23 (.p false (.ld (.t 22) 2 true)), rg 24 (.p false (.eqs true [0, 0] (.t 19) (.t 23)))]) (.cond (.t 24) (.seq (.reg [rg 4 (.p true (.mv (.c (.bool false))))]) .ret) .skip)))) (.reg [rg 25 (.p true (.bin .add (.t 13) (.c (.int .i64 1)))), rg 13 (.p true (.mv (.t 25)))]))))))) (.seq (.reg [rg 4 (.p true (.mv (.c (.bool true))))]) .ret))))
theorem c176_is : compFn Try.prog 176 = some (c176, [(.tmp 4)]) := by kernel_rfl
theorem c176_ok : okFn Try.prog 176 = true := by kernel_rfl

noncomputable def F_slices_Equal_SRatio_Ratio_l0 (v0 : List TNote) (v1 : List TNote) (k0 : Int → Option (Bool)) : Int → Option (Bool)
 | v7 => (bif (decide (v7 < (v0.length : Int))) then ((ix v0 v7).bind fun v1000 => ((ix v1 v7).bind fun v1001 => (bif (!(decide (v1000.1 = v1001.1) && (decide (v1000.2 = v1001.2) && true))) then some false
 else k0 (w64 (v7 + 1)))))
 else some true)
noncomputable def F_slices_Equal_SRatio_Ratio (v0 : List TNote) (v1 : List TNote) : Option (Bool) :=
 (bif (decide ((v0.length : Int) ≠ (v1.length : Int))) then some false
 else loop (F_slices_Equal_SRatio_Ratio_l0 v0 v1) 0)
@[simp] def res_slices_Equal_SRatio_Ratio (r : Bool) : RV := .one (.one (.val (.bool r)))
theorem con_slices_Equal_SRatio_Ratio {v0 : List TNote} {v1 : List TNote} {r : Bool} (hF : F_slices_Equal_SRatio_Ratio v0 v1 = some r) : Con Try.prog 176 [.sl 2 (v0.map eNote), .sl 2 (v1.map eNote)] (res_slices_Equal_SRatio_Ratio r) := by
 unfold F_slices_Equal_SRatio_Ratio at hF
 refine con_of c176_is fun N => ?_
 refine ws 0 64 ?_
 refine qp (AB false) rfl ?_
 refine r_nil ?_
 refine w_seq ?_
 refine ws 64 384 ?_
 refine qp (AL 2 (v0.map eNote)) rfl (qp (AI (v0.length : Int)) (ev_len_n rfl) (qp (AL 2 (v1.map eNote)) rfl (qp (AI (v1.length : Int)) (ev_len_n rfl) (qp (AB (decide ((v0.length : Int) ≠ (v1.length : Int)))) rfl ?_))))
 refine r_nil ?_
 refine cF hF (fun hF => ?_) fun hF => ?_
 ·
  refine ws 384 448 ?_
  refine qp (AB false) rfl ?_
  refine r_nil ?_
  refine w_ret ?_
  refine thenQ_r ?_
  cases hF
  exact eR
 ·
  refine w_skip ?_
  refine thenQ_n ?_
  refine w_seq ?_
  refine ws 384 576 ?_
  refine qp (AL 2 (v0.map eNote)) rfl (qp (AI (v0.length : Int)) (ev_len_n rfl) (qp (AI 0) rfl ?_))
  refine r_nil ?_
  refine w_block ?_
  refine wr (l' := [(0, AL 2 (v0.map eNote)), (1, AL 2 (v1.map eNote)), (12, AI (v0.length : Int)), (13, AI 0)]) (L := []) [0, 1, 12, 13] [] 1 ?_
  refine w_loopF (F_slices_Equal_SRatio_Ratio_l0 v0 v1) (fun s : Int => mkS [(0, AL 2 (v0.map eNote)), (1, AL 2 (v1.map eNote)), (12, AI (v0.length : Int)), (13, AI s)] (fo []) 1) hF ?_
  rintro k0 v7 hF
  rw [F_slices_Equal_SRatio_Ratio_l0] at hF
  try dsimp only
  refine ws 1 65 ?_
  refine qp (AB (decide (v7 < (v0.length : Int)))) rfl ?_
  refine r_nil ?_
  refine w_seq ?_
  refine cF hF (fun hF => ?_) fun hF => ?_
  ·
   refine w_skip ?_
   refine thenQ_n ?_
   refine w_seq ?_
   refine w_block ?_
   refine ws 65 193 ?_
   refine qp (AI v7) rfl (qp (AI v7) rfl ?_)
   refine r_nil ?_
   refine ws 193 769 ?_
   refine qp (AL 2 (v0.map eNote)) rfl (qp (AI v7) rfl ?_)
   obtain ⟨v1000, e1000, hF⟩ := bind_get hF
   refine qp (.val none (.ptr [.int .i64 v1000.1, .int .i64 v1000.2])) (ev_iad_n rfl rfl e1000 rfl) (qp (.val none (eNote v1000)) rfl (qp (AL 2 (v1.map eNote)) rfl (qp (AI v7) rfl ?_)))
   obtain ⟨v1001, e1001, hF⟩ := bind_get hF
   refine qp (.val none (.ptr [.int .i64 v1001.1, .int .i64 v1001.2])) (ev_iad_n rfl rfl e1001 rfl) (qp (.val none (eNote v1001)) rfl (qp (AB (!(decide (v1000.1 = v1001.1) && (decide (v1000.2 = v1001.2) && true)))) rfl ?_))
   refine r_nil ?_
   refine cF hF (fun hF => ?_) fun hF => ?_
   ·
    refine ws 769 833 ?_
    refine qp (AB false) rfl ?_
    refine r_nil ?_
    refine w_ret ?_
    refine blockQ_r ?_
    refine thenQ_r ?_
    refine thenQ_r ?_
    refine blockQ_r ?_
    refine thenQ_r ?_
    cases hF
    exact eR
   ·
    refine w_skip ?_
    refine blockQ_n ?_
    refine thenQ_n ?_
    refine w_reg 769 897 rfl rfl ?_
    refine qp (AI (w64 (v7 + 1))) rfl (qp (AI (w64 (v7 + 1))) rfl ?_)
    refine r_nil ?_
    refine thenQ_n ?_
    refine ar (l' := [(0, AL 2 (v0.map eNote)), (1, AL 2 (v1.map eNote)), (12, AI (v0.length : Int)), (13, AI (w64 (v7 + 1)))]) (L := []) [0, 1, 12, 13] [] 1 ⟨_, by rfl, hF⟩
  ·
   refine w_exit ?_
   refine thenQ_e ?_
   refine thenQ_e ?_
   refine blockQ_e ?_
   refine thenQ_n ?_
   refine ws 65 129 ?_
   refine qp (AB true) rfl ?_
   refine r_nil ?_
   refine w_ret ?_
   cases hF
   exact eR

def c76 : MC := (.seq (.reg [rg 2 (.f (.box (.t 0))), rg 3 (.f (.box (.t 1))), rg 4 (.p true (.mv (.c (.bool false))))]) (.seq (.reg [rg 5 (.p true (.fad (.t 2) 0)), rg 6 (.p true (.ld (.t 5) 1 false)), rg 7 (.p true (.fad (.t 3) 0)), rg 8 (.p true (.ld (.t 7) 1 false)), rg 9 (.p true (.bin .eql (.t 6) (.t 8))), rg 10 (.p true (.mv (.t 9))), ⟨(some 11), (some (10, true)), (.p true (.fad (.t 2) 1))⟩, ⟨(some 12), (some (10, true)), (.p true (.ld (.t 11) 1 false))⟩, ⟨(some 13), (some (10, true)), (.p true (.fad (.t 3) 1))⟩, ⟨(some 14), (some (10, true)), (.p true (.ld (.t 13) 1 false))⟩, ⟨(some 15), (some (10, true)), (.call true 176 [(.t 12), (.t 14)])⟩, rg 16 (.p true (.pick (.t 10) (.t 15) (.c (.bool false)))), rg 4 (.p true (.mv (.t 16)))]) .ret))
theorem c76_is : compFn Try.prog 76 = some (c76, [(.tmp 4)]) := by kernel_rfl
theorem c76_ok : okFn Try.prog 76 = true := by kernel_rfl

noncomputable def F_impl_SameTuning (v0 : TTuning) (v1 : TTuning) : Option (Bool) :=
 (bif (decide (v0.1 = v1.1)) then ((F_slices_Equal_SRatio_Ratio v0.2 v1.2).bind fun v1000 => some v1000)
 else some false)
@[simp] def res_impl_SameTuning (r : Bool) : RV := .one (.one (.val (.bool r)))
theorem con_impl_SameTuning {v0 : TTuning} {v1 : TTuning} {r : Bool} (hF : F_impl_SameTuning v0 v1 = some r) : Con Try.prog 76 [eTuning v0, eTuning v1] (res_impl_SameTuning r) := by
 unfold F_impl_SameTuning at hF
 refine con_of c76_is fun N => ?_
 refine ws 0 192 ?_
 refine qf (.ptr 0 0 0) [(0, .box [AS v0.1, AL 2 (v0.2.map eNote)])] (by simp) ?_
 refine qf (.ptr 64 0 0) [(64, .box [AS v1.1, AL 2 (v1.2.map eNote)]), (0, .box [AS v0.1, AL 2 (v0.2.map eNote)])] (by simp) ?_
 refine qp (AB false) rfl ?_
 refine r_nil ?_
 refine ws 192 1024 ?_
 refine qp (.ptr 0 0 0) rfl (qp (AS v0.1) rfl (qp (.ptr 64 0 0) rfl (qp (AS v1.1) rfl (qp (AB (decide (v0.1 = v1.1))) rfl (qp (AB (decide (v0.1 = v1.1))) rfl ?_)))))
 refine q_case 10 hF rfl (fun hF => ?_) (fun hF => ?_)
 ·
  refine qg (.ptr 0 0 1) rfl rfl (qg (AL 2 (v0.2.map eNote)) rfl rfl (qg (.ptr 64 0 1) rfl rfl (qg (AL 2 (v1.2.map eNote)) rfl rfl ?_)))
  obtain ⟨v1000, e1000, hF⟩ := bind_get hF
  refine qcg (AB v1000) [(64, .box [AS v1.1, AL 2 (v1.2.map eNote)]), (0, .box [AS v0.1, AL 2 (v0.2.map eNote)])] false rfl (con_slices_Equal_SRatio_Ratio e1000) c176_ok (by first | rfl | simp) rfl ?_
  refine qp (AB v1000) rfl (qp (AB v1000) rfl ?_)
  refine r_nil ?_
  refine w_ret ?_
  cases hF
  exact eR
 ·
  refine qn rfl (qn rfl (qn rfl (qn rfl (qn rfl (qp (AB false) rfl (qp (AB false) rfl ?_))))))
  refine r_nil ?_
  refine w_ret ?_
  cases hF
  exact eR

def c79 : MC := (.seq (.reg [rg 4 (.p true (.mv (.c (.bool false))))]) (.seq (.seq (.reg [rg 6 (.p true (.mv (.t 0))), rg 7 (.p true (.len (.t 6))), rg 8 (.p true (.mv (.t 1))), rg 9 (.p true (.len (.t 8))), rg 10 (.p true (.bin .neq (.t 7) (.t 9)))]) (.cond (.t 10) (.seq (.reg [rg 4 (.p true (.mv (.c (.bool false))))]) .ret) .skip)) (.seq (.seq (.reg [rg 11 (.p true (.mv (.t 0))), rg 12 (.p true (.len (.t 11))), rg 13 (.p true (.mv (.c (.int .i64 0))))]) (.block 0 (.loop (.seq (.reg [rg 14 (.p true (.bin .lss (.t 13) (.t 12)))]) (.seq (.cond (.t 14) .skip (.exit 0)) (.seq (.block 1 (.seq (.reg [rg 15 (.p true (.mv (.t 13))), rg 5 (.p true (.mv (.t 15)))]) (.seq (.reg [rg 16 (.p false (.mv (.t 0))), rg 17 (.p false (.mv (.t 5))), rg 18 (.p false (.iad (.t 16) (.t 17) 3)), rg 19 (.p false (.ld (.t 18) 3 true)), rg 20 (.p false (.mv (.t 1))), rg 21 (.p false (.mv (.t 5))), rg 22 (.p false (.iad (.t 20) (.t 21) 3)), rg 23 (.p false (.ld (.t 22) 3 true)), rg 24 (.p false (.eqs true [2, 0, 0] (.t 19) (.t 23)))]) (.cond (.t 24) (.seq (.reg [rg 4 (.p true (.mv (.c (.bool false))))]) .ret) .skip)))) (.reg [rg 25 (.p true (.bin .add (.t 13) (.c (.int .i64 1)))), rg 13 (.p true (.mv (.t 25)))]))))))) (.seq (.reg [rg 4 (.p true (.mv (.c (.bool true))))]) .ret))))
theorem c79_is : compFn Try.prog 79 = some (c79, [(.tmp 4)]) := by kernel_rfl
theorem c79_ok : okFn Try.prog 79 = true := by kernel_rfl

noncomputable def F_slices_Equal_SSyllable_Syllable_l0 (v0 : List TSyllable) (v1 : List TSyllable) (k0 : Int → Option (Bool)) : Int → Option (Bool)
 | v7 => (bif (decide (v7 < (v0.length : Int))) then ((ix v0 v7).bind fun v1000 => ((ix v1 v7).bind fun v1001 => (bif (!(decide (v1000.1 = v1001.1) && (decide (v1000.2.1 = v1001.2.1) && (decide (v1000.2.2 = v1001.2.2) && true)))) then some false
 else k0 (w64 (v7 + 1)))))
 else some true)
noncomputable def F_slices_Equal_SSyllable_Syllable (v0 : List TSyllable) (v1 : List TSyllable) : Option (Bool) :=
 (bif (decide ((v0.length : Int) ≠ (v1.length : Int))) then some false
 else loop (F_slices_Equal_SSyllable_Syllable_l0 v0 v1) 0)
@[simp] def res_slices_Equal_SSyllable_Syllable (r : Bool) : RV := .one (.one (.val (.bool r)))
theorem con_slices_Equal_SSyllable_Syllable {v0 : List TSyllable} {v1 : List TSyllable} {r : Bool} (hF : F_slices_Equal_SSyllable_Syllable v0 v1 = some r) : Con Try.prog 79 [.sl 3 (v0.map eSyllable), .sl 3 (v1.map eSyllable)] (res_slices_Equal_SSyllable_Syllable r) := by
 unfold F_slices_Equal_SSyllable_Syllable at hF
 refine con_of c79_is fun N => ?_
 refine ws 0 64 ?_
 refine qp (AB false) rfl ?_
 refine r_nil ?_
 refine w_seq ?_
 refine ws 64 384 ?_
 refine qp (AL 3 (v0.map eSyllable)) rfl (qp (AI (v0.length : Int)) (ev_len_n rfl) (qp (AL 3 (v1.map eSyllable)) rfl (qp (AI (v1.length : Int)) (ev_len_n rfl) (qp (AB (decide ((v0.length : Int) ≠ (v1.length : Int)))) rfl ?_))))
 refine r_nil ?_
 refine cF hF (fun hF => ?_) fun hF => ?_
 ·
  refine ws 384 448 ?_
  refine qp (AB false) rfl ?_
  refine r_nil ?_
  refine w_ret ?_
  refine thenQ_r ?_
  cases hF
  exact eR
 ·
  refine w_skip ?_
  refine thenQ_n ?_
  refine w_seq ?_
  refine ws 384 576 ?_
  refine qp (AL 3 (v0.map eSyllable)) rfl (qp (AI (v0.length : Int)) (ev_len_n rfl) (qp (AI 0) rfl ?_))
  refine r_nil ?_
  refine w_block ?_
  refine wr (l' := [(0, AL 3 (v0.map eSyllable)), (1, AL 3 (v1.map eSyllable)), (12, AI (v0.length : Int)), (13, AI 0)]) (L := []) [0, 1, 12, 13] [] 1 ?_
  refine w_loopF (F_slices_Equal_SSyllable_Syllable_l0 v0 v1) (fun s : Int => mkS [(0, AL 3 (v0.map eSyllable)), (1, AL 3 (v1.map eSyllable)), (12, AI (v0.length : Int)), (13, AI s)] (fo []) 1) hF ?_
  rintro k0 v7 hF
  rw [F_slices_Equal_SSyllable_Syllable_l0] at hF
  try dsimp only
  refine ws 1 65 ?_
  refine qp (AB (decide (v7 < (v0.length : Int)))) rfl ?_
  refine r_nil ?_
  refine w_seq ?_
  refine cF hF (fun hF => ?_) fun hF => ?_
  ·
   refine w_skip ?_
   refine thenQ_n ?_
   refine w_seq ?_
   refine w_block ?_
   refine ws 65 193 ?_
   refine qp (AI v7) rfl (qp (AI v7) rfl ?_)
   refine r_nil ?_
   refine ws 193 769 ?_
   refine qp (AL 3 (v0.map eSyllable)) rfl (qp (AI v7) rfl ?_)
   obtain ⟨v1000, e1000, hF⟩ := bind_get hF
   refine qp (.val none (.ptr [.str v1000.1, .int .i64 v1000.2.1, .int .i64 v1000.2.2])) (ev_iad_n rfl rfl e1000 rfl) (qp (.val none (eSyllable v1000)) rfl (qp (AL 3 (v1.map eSyllable)) rfl (qp (AI v7) rfl ?_)))
   obtain ⟨v1001, e1001, hF⟩ := bind_get hF
   refine qp (.val none (.ptr [.str v1001.1, .int .i64 v1001.2.1, .int .i64 v1001.2.2])) (ev_iad_n rfl rfl e1001 rfl) (qp (.val none (eSyllable v1001)) rfl (qp (AB (!(decide (v1000.1 = v1001.1) && (decide (v1000.2.1 = v1001.2.1) && (decide (v1000.2.2 = v1001.2.2) && true))))) rfl ?_))
   refine r_nil ?_
   refine cF hF (fun hF => ?_) fun hF => ?_
   ·
    refine ws 769 833 ?_
    refine qp (AB false) rfl ?_
    refine r_nil ?_
    refine w_ret ?_
    refine blockQ_r ?_
    refine thenQ_r ?_
    refine thenQ_r ?_
    refine blockQ_r ?_
    refine thenQ_r ?_
    cases hF
    exact eR
   ·
    refine w_skip ?_
    refine blockQ_n ?_
    refine thenQ_n ?_
    refine w_reg 769 897 rfl rfl ?_
    refine qp (AI (w64 (v7 + 1))) rfl (qp (AI (w64 (v7 + 1))) rfl ?_)
    refine r_nil ?_
    refine thenQ_n ?_
    refine ar (l' := [(0, AL 3 (v0.map eSyllable)), (1, AL 3 (v1.map eSyllable)), (12, AI (v0.length : Int)), (13, AI (w64 (v7 + 1)))]) (L := []) [0, 1, 12, 13] [] 1 ⟨_, by rfl, hF⟩
  ·
   refine w_exit ?_
   refine thenQ_e ?_
   refine thenQ_e ?_
   refine blockQ_e ?_
   refine thenQ_n ?_
   refine ws 65 129 ?_
   refine qp (AB true) rfl ?_
   refine r_nil ?_
   refine w_ret ?_
   cases hF
   exact eR

def c80 : MC := (.seq (.reg [rg 4 (.p true (.mv (.c (.bool false))))]) (.seq (.seq (.reg [rg 6 (.p true (.mv (.t 0))), rg 7 (.p true (.len (.t 6))), rg 8 (.p true (.mv (.t 1))), rg 9 (.p true (.len (.t 8))), rg 10 (.p true (.bin .neq (.t 7) (.t 9)))]) (.cond (.t 10) (.seq (.reg [rg 4 (.p true (.mv (.c (.bool false))))]) .ret) .skip)) (.seq (.seq (.reg [rg 11 (.p true (.mv (.t 0))), rg 12 (.p true (.len (.t 11))), rg 13 (.p true (.mv (.c (.int .i64 0))))]) (.block 0 (.loop (.seq (.reg [rg 14 (.p true (.bin .lss (.t 13) (.t 12)))]) (.seq (.cond (.t 14) .skip (.exit 0)) (.seq (.block 1 (.seq (.reg [rg 15 (.p true (.mv (.t 13))), rg 5 (.p true (.mv (.t 15)))]) (.seq (.reg [rg 16 (.p false (.mv (.t 0))), rg 17 (.p false (.mv (.t 5))), rg 18 (.p false (.iad (.t 16) (.t 17) 2)), rg 19 (.p false (.ld (.t 18) 2 true)), rg 20 (.p false (.mv (.t 1))), rg 21 (.p false (.mv (.t 5))), rg 22 (.p false (.iad (.t 20) (.t 21) 2)), rg 23 (.p false (.ld (.t 22) 2 true)), rg 24 (.p false (.eqs true [0, 0] (.t 19) (.t 23)))]) (.cond (.t 24) (.seq (.reg [rg 4 (.p true (.mv (.c (.bool false))))]) .ret) .skip)))) (.reg [rg 25 (.p true (.bin .add (.t 13) (.c (.int .i64 1)))), rg 13 (.p true (.mv (.t 25)))]))))))) (.seq (.reg [rg 4 (.p true (.mv (.c (.bool true))))]) .ret))))
theorem c80_is : compFn Try.prog 80 = some (c80, [(.tmp 4)]) := by kernel_rfl
theorem c80_ok : okFn Try.prog 80 = true := by kernel_rfl

noncomputable def F_slices_Equal_STempoMark_TempoMark_l0 (v0 : List TNote) (v1 : List TNote) (k0 : Int → Option (Bool)) : Int → Option (Bool)
 | v7 => (bif (decide (v7 < (v0.length : Int))) then ((ix v0 v7).bind fun v1000 => ((ix v1 v7).bind fun v1001 => (bif (!(decide (v1000.1 = v1001.1) && (decide (v1000.2 = v1001.2) && true))) then some false
 else k0 (w64 (v7 + 1)))))
 else some true)
noncomputable def F_slices_Equal_STempoMark_TempoMark (v0 : List TNote) (v1 : List TNote) : Option (Bool) :=
 (bif (decide ((v0.length : Int) ≠ (v1.length : Int))) then some false
 else loop (F_slices_Equal_STempoMark_TempoMark_l0 v0 v1) 0)
@[simp] def res_slices_Equal_STempoMark_TempoMark (r : Bool) : RV := .one (.one (.val (.bool r)))
theorem con_slices_Equal_STempoMark_TempoMark {v0 : List TNote} {v1 : List TNote} {r : Bool} (hF : F_slices_Equal_STempoMark_TempoMark v0 v1 = some r) : Con Try.prog 80 [.sl 2 (v0.map eNote), .sl 2 (v1.map eNote)] (res_slices_Equal_STempoMark_TempoMark r) := by
 unfold F_slices_Equal_STempoMark_TempoMark at hF
 refine con_of c80_is fun N => ?_
 refine ws 0 64 ?_
 refine qp (AB false) rfl ?_
 refine r_nil ?_
 refine w_seq ?_
 refine ws 64 384 ?_
 refine qp (AL 2 (v0.map eNote)) rfl (qp (AI (v0.length : Int)) (ev_len_n rfl) (qp (AL 2 (v1.map eNote)) rfl (qp (AI (v1.length : Int)) (ev_len_n rfl) (qp (AB (decide ((v0.length : Int) ≠ (v1.length : Int)))) rfl ?_))))
 refine r_nil ?_
 refine cF hF (fun hF => ?_) fun hF => ?_
 ·
  refine ws 384 448 ?_
  refine qp (AB false) rfl ?_
  refine r_nil ?_
  refine w_ret ?_
  refine thenQ_r ?_
  cases hF
  exact eR
 ·
  refine w_skip ?_
  refine thenQ_n ?_
  refine w_seq ?_
  refine ws 384 576 ?_
  refine qp (AL 2 (v0.map eNote)) rfl (qp (AI (v0.length : Int)) (ev_len_n rfl) (qp (AI 0) rfl ?_))
  refine r_nil ?_
  refine w_block ?_
  refine wr (l' := [(0, AL 2 (v0.map eNote)), (1, AL 2 (v1.map eNote)), (12, AI (v0.length : Int)), (13, AI 0)]) (L := []) [0, 1, 12, 13] [] 1 ?_
  refine w_loopF (F_slices_Equal_STempoMark_TempoMark_l0 v0 v1) (fun s : Int => mkS [(0, AL 2 (v0.map eNote)), (1, AL 2 (v1.map eNote)), (12, AI (v0.length : Int)), (13, AI s)] (fo []) 1) hF ?_
  rintro k0 v7 hF
  rw [F_slices_Equal_STempoMark_TempoMark_l0] at hF
  try dsimp only
  refine ws 1 65 ?_
  refine qp (AB (decide (v7 < (v0.length : Int)))) rfl ?_
  refine r_nil ?_
  refine w_seq ?_
  refine cF hF (fun hF => ?_) fun hF => ?_
  ·
   refine w_skip ?_
   refine thenQ_n ?_
   refine w_seq ?_
   refine w_block ?_
   refine ws 65 193 ?_
   refine qp (AI v7) rfl (qp (AI v7) rfl ?_)
   refine r_nil ?_
   refine ws 193 769 ?_
   refine qp (AL 2 (v0.map eNote)) rfl (qp (AI v7) rfl ?_)
   obtain ⟨v1000, e1000, hF⟩ := bind_get hF
   refine qp (.val none (.ptr [.int .i64 v1000.1, .int .i64 v1000.2])) (ev_iad_n rfl rfl e1000 rfl) (qp (.val none (eNote v1000)) rfl (qp (AL 2 (v1.map eNote)) rfl (qp (AI v7) rfl ?_)))
   obtain ⟨v1001, e1001, hF⟩ := bind_get hF
   refine qp (.val none (.ptr [.int .i64 v1001.1, .int .i64 v1001.2])) (ev_iad_n rfl rfl e1001 rfl) (qp (.val none (eNote v1001)) rfl (qp (AB (!(decide (v1000.1 = v1001.1) && (decide (v1000.2 = v1001.2) && true)))) rfl ?_))
   refine r_nil ?_
   refine cF hF (fun hF => ?_) fun hF => ?_
   ·
    refine ws 769 833 ?_
    refine qp (AB false) rfl ?_
    refine r_nil ?_
    refine w_ret ?_
    refine blockQ_r ?_
    refine thenQ_r ?_
    refine thenQ_r ?_
    refine blockQ_r ?_
    refine thenQ_r ?_
    cases hF
    exact eR
   ·
    refine w_skip ?_
    refine blockQ_n ?_
    refine thenQ_n ?_
    refine w_reg 769 897 rfl rfl ?_
    refine qp (AI (w64 (v7 + 1))) rfl (qp (AI (w64 (v7 + 1))) rfl ?_)
    refine r_nil ?_
    refine thenQ_n ?_
    refine ar (l' := [(0, AL 2 (v0.map eNote)), (1, AL 2 (v1.map eNote)), (12, AI (v0.length : Int)), (13, AI (w64 (v7 + 1)))]) (L := []) [0, 1, 12, 13] [] 1 ⟨_, by rfl, hF⟩
  ·
   refine w_exit ?_
   refine thenQ_e ?_
   refine thenQ_e ?_
   refine blockQ_e ?_
   refine thenQ_n ?_
   refine ws 65 129 ?_
   refine qp (AB true) rfl ?_
   refine r_nil ?_
   refine w_ret ?_
   cases hF
   exact eR

def c81 : MC := (.seq (.reg [rg 4 (.p true (.mv (.c (.bool false))))]) (.seq (.seq (.reg [rg 6 (.p true (.mv (.t 0))), rg 7 (.p true (.len (.t 6))), rg 8 (.p true (.mv (.t 1))), rg 9 (.p true (.len (.t 8))), rg 10 (.p true (.bin .neq (.t 7) (.t 9)))]) (.cond (.t 10) (.seq (.reg [rg 4 (.p true (.mv (.c (.bool false))))]) .ret) .skip)) (.seq (.seq (.reg [rg 11 (.p true (.mv (.t 0))), rg 12 (.p true (.len (.t 11))), rg 13 (.p true (.mv (.c (.int .i64 0))))]) (.block 0 (.loop (.seq (.reg [rg 14 (.p true (.bin .lss (.t 13) (.t 12)))]) (.seq (.cond (.t 14) .skip (.exit 0)) (.seq (.block 1 (.seq (.reg [rg 15 (.p true (.mv (.t 13))), rg 5 (.p true (.mv (.t 15)))]) (.seq (.reg [rg 16 (.p false (.mv (.t 0))), rg 17 (.p false (.mv (.t 5))), rg 18 (.p false (.iad (.t 16) (.t 17) 6)), rg 19 (.p false (.ld (.t 18) 6 true)), rg 20 (.p false (.mv (.t 1))), rg 21 (.p false (.mv (.t 5))), rg 22 (.p false (.iad (.t 20) (.t 21) 6)), rg 23 (.p false (.ld (.t 22) 6 true)), rg 24 (.p false (.eqs true [2, 0, 0, 0, 0, 0] (.t 19) (.t 23)))]) (.cond (.t 24) (.seq (.reg [rg 4 (.p true (.mv (.c (.bool false))))]) .ret) .skip)))) (.reg [rg 25 (.p true (.bin .add (.t 13) (.c (.int .i64 1)))), rg 13 (.p true (.mv (.t 25)))]))))))) (.seq (.reg [rg 4 (.p true (.mv (.c (.bool true))))]) .ret))))
theorem c81_is : compFn Try.prog 81 = some (c81, [(.tmp 4)]) := by kernel_rfl
theorem c81_ok : okFn Try.prog 81 = true := by kernel_rfl

noncomputable def F_slices_Equal_SItem_Item_l0 (v0 : List TItem) (v1 : List TItem) (k0 : Int → Option (Bool)) : Int → Option (Bool)
 | v7 => (bif (decide (v7 < (v0.length : Int))) then ((ix v0 v7).bind fun v1000 => ((ix v1 v7).bind fun v1001 => (bif (!(decide (v1000.1 = v1001.1) && (decide (v1000.2.1 = v1001.2.1) && (decide (v1000.2.2.1 = v1001.2.2.1) && (decide (v1000.2.2.2.1 = v1001.2.2.2.1) && (decide (v1000.2.2.2.2.1 = v1001.2.2.2.2.1) && (decide (v1000.2.2.2.2.2 = v1001.2.2.2.2.2) && true))))))) then some false
 else k0 (w64 (v7 + 1)))))
 else some true)
noncomputable def F_slices_Equal_SItem_Item (v0 : List TItem) (v1 : List TItem) : Option (Bool) :=
 (bif (decide ((v0.length : Int) ≠ (v1.length : Int))) then some false
 else loop (F_slices_Equal_SItem_Item_l0 v0 v1) 0)
@[simp] def res_slices_Equal_SItem_Item (r : Bool) : RV := .one (.one (.val (.bool r)))
theorem con_slices_Equal_SItem_Item {v0 : List TItem} {v1 : List TItem} {r : Bool} (hF : F_slices_Equal_SItem_Item v0 v1 = some r) : Con Try.prog 81 [.sl 6 (v0.map eItem), .sl 6 (v1.map eItem)] (res_slices_Equal_SItem_Item r) := by
 unfold F_slices_Equal_SItem_Item at hF
 refine con_of c81_is fun N => ?_
 refine ws 0 64 ?_
 refine qp (AB false) rfl ?_
 refine r_nil ?_
 refine w_seq ?_
 refine ws 64 384 ?_
 refine qp (AL 6 (v0.map eItem)) rfl (qp (AI (v0.length : Int)) (ev_len_n rfl) (qp (AL 6 (v1.map eItem)) rfl (qp (AI (v1.length : Int)) (ev_len_n rfl) (qp (AB (decide ((v0.length : Int) ≠ (v1.length : Int)))) rfl ?_))))
 refine r_nil ?_
 refine cF hF (fun hF => ?_) fun hF => ?_
 ·
  refine ws 384 448 ?_
  refine qp (AB false) rfl ?_
  refine r_nil ?_
  refine w_ret ?_
  refine thenQ_r ?_
  cases hF
  exact eR
 ·
  refine w_skip ?_
  refine thenQ_n ?_
  refine w_seq ?_
  refine ws 384 576 ?_
  refine qp (AL 6 (v0.map eItem)) rfl (qp (AI (v0.length : Int)) (ev_len_n rfl) (qp (AI 0) rfl ?_))
  refine r_nil ?_
  refine w_block ?_
  refine wr (l' := [(0, AL 6 (v0.map eItem)), (1, AL 6 (v1.map eItem)), (12, AI (v0.length : Int)), (13, AI 0)]) (L := []) [0, 1, 12, 13] [] 1 ?_
  refine w_loopF (F_slices_Equal_SItem_Item_l0 v0 v1) (fun s : Int => mkS [(0, AL 6 (v0.map eItem)), (1, AL 6 (v1.map eItem)), (12, AI (v0.length : Int)), (13, AI s)] (fo []) 1) hF ?_
  rintro k0 v7 hF
  rw [F_slices_Equal_SItem_Item_l0] at hF
  try dsimp only
  refine ws 1 65 ?_
  refine qp (AB (decide (v7 < (v0.length : Int)))) rfl ?_
  refine r_nil ?_
  refine w_seq ?_
  refine cF hF (fun hF => ?_) fun hF => ?_
  ·
   refine w_skip ?_
   refine thenQ_n ?_
   refine w_seq ?_
   refine w_block ?_
   refine ws 65 193 ?_
   refine qp (AI v7) rfl (qp (AI v7) rfl ?_)
   refine r_nil ?_
   refine ws 193 769 ?_
   refine qp (AL 6 (v0.map eItem)) rfl (qp (AI v7) rfl ?_)
   obtain ⟨v1000, e1000, hF⟩ := bind_get hF
   refine qp (.val none (.ptr [.str v1000.1, .int .i64 v1000.2.1, .int .i64 v1000.2.2.1, .int .i64 v1000.2.2.2.1, .int .i64 v1000.2.2.2.2.1, .int .i64 v1000.2.2.2.2.2])) (ev_iad_n rfl rfl e1000 rfl) (qp (.val none (eItem v1000)) rfl (qp (AL 6 (v1.map eItem)) rfl (qp (AI v7) rfl ?_)))
   obtain ⟨v1001, e1001, hF⟩ := bind_get hF
   refine qp (.val none (.ptr [.str v1001.1, .int .i64 v1001.2.1, .int .i64 v1001.2.2.1, .int .i64 v1001.2.2.2.1, .int .i64 v1001.2.2.2.2.1, .int .i64 v1001.2.2.2.2.2])) (ev_iad_n rfl rfl e1001 rfl) (qp (.val none (eItem v1001)) rfl (qp (AB (!(decide (v1000.1 = v1001.1) && (decide (v1000.2.1 = v1001.2.1) && (decide (v1000.2.2.1 = v1001.2.2.1) && (decide (v1000.2.2.2.1 = v1001.2.2.2.1) && (decide (v1000.2.2.2.2.1 = v1001.2.2.2.2.1) && (decide (v1000.2.2.2.2.2 = v1001.2.2.2.2.2) && true)))))))) rfl ?_))
   refine r_nil ?_
   refine cF hF (fun hF => ?_) fun hF => ?_
   ·
    refine ws 769 833 ?_
    refine qp (AB false) rfl ?_
    refine r_nil ?_
    refine w_ret ?_
    refine blockQ_r ?_
    refine thenQ_r ?_
    refine thenQ_r ?_
    refine blockQ_r ?_
    refine thenQ_r ?_
    cases hF
    exact eR
   ·
    refine w_skip ?_
    refine blockQ_n ?_
    refine thenQ_n ?_
    refine w_reg 769 897 rfl rfl ?_
    refine qp (AI (w64 (v7 + 1))) rfl (qp (AI (w64 (v7 + 1))) rfl ?_)
    refine r_nil ?_
    refine thenQ_n ?_
    refine ar (l' := [(0, AL 6 (v0.map eItem)), (1, AL 6 (v1.map eItem)), (12, AI (v0.length : Int)), (13, AI (w64 (v7 + 1)))]) (L := []) [0, 1, 12, 13] [] 1 ⟨_, by rfl, hF⟩
  ·
   refine w_exit ?_
   refine thenQ_e ?_
   refine thenQ_e ?_
   refine blockQ_e ?_
   refine thenQ_n ?_
   refine ws 65 129 ?_
   refine qp (AB true) rfl ?_
   refine r_nil ?_
   refine w_ret ?_
   cases hF
   exact eR

def c82 : MC := (.seq (.reg [rg 4 (.p true (.mv (.c (.bool false))))]) (.seq (.seq (.reg [rg 6 (.p true (.mv (.t 0))), rg 7 (.p true (.len (.t 6))), rg 8 (.p true (.mv (.t 1))), rg 9 (.p true (.len (.t 8))), rg 10 (.p true (.bin .neq (.t 7) (.t 9)))]) (.cond (.t 10) (.seq (.reg [rg 4 (.p true (.mv (.c (.bool false))))]) .ret) .skip)) (.seq (.seq (.reg [rg 11 (.p true (.mv (.t 0))), rg 12 (.p true (.len (.t 11))), rg 13 (.p true (.mv (.c (.int .i64 0))))]) (.block 0 (.loop (.seq (.reg [rg 14 (.p true (.bin .lss (.t 13) (.t 12)))]) (.seq (.cond (.t 14) .skip (.exit 0)) (.seq (.block 1 (.seq (.reg [rg 15 (.p true (.mv (.t 13))), rg 5 (.p true (.mv (.t 15)))]) (.seq (.reg [rg 16 (.p false (.mv (.t 0))), rg 17 (.p false (.mv (.t 5))), rg 18 (.p false (.iad (.t 16) (.t 17) 5)), rg 19 (.p false (.ld (.t 18) 5 true)), rg 20 (.p false (.mv (.t 1))), rg 21 (.p false (.mv (.t 5))), rg 22 (.p false (.iad (.t 20) (.t 21) 5)), rg 23 (.p false (.ld (.t 22) 5 true)), rg 24 (.p false (.eqs true [0, 2, 2, 0, 0] (.t 19) (.t 23)))]) (.cond (.t 24) (.seq (.reg [rg 4 (.p true (.mv (.c (.bool false))))]) .ret) .skip)))) (.reg [rg 25 (.p true (.bin .add (.t 13) (.c (.int .i64 1)))), rg 13 (.p true (.mv (.t 25)))]))))))) (.seq (.reg [rg 4 (.p true (.mv (.c (.bool true))))]) .ret))))
theorem c82_is : compFn Try.prog 82 = some (c82, [(.tmp 4)]) := by kernel_rfl
theorem c82_ok : okFn Try.prog 82 = true := by kernel_rfl

noncomputable def F_slices_Equal_SLesson_Lesson_l0 (v0 : List TLesson) (v1 : List TLesson) (k0 : Int → Option (Bool)) : Int → Option (Bool)
 | v7 => (bif (decide (v7 < (v0.length : Int))) then ((ix v0 v7).bind fun v1000 => ((ix v1 v7).bind fun v1001 => (bif (!(decide (v1000.1 = v1001.1) && (decide (v1000.2.1 = v1001.2.1) && (decide (v1000.2.2.1 = v1001.2.2.1) && (decide (v1000.2.2.2.1 = v1001.2.2.2.1) && (decide (v1000.2.2.2.2 = v1001.2.2.2.2) && true)))))) then some false
 else k0 (w64 (v7 + 1)))))
 else some true)
noncomputable def F_slices_Equal_SLesson_Lesson (v0 : List TLesson) (v1 : List TLesson) : Option (Bool) :=
 (bif (decide ((v0.length : Int) ≠ (v1.length : Int))) then some false
 else loop (F_slices_Equal_SLesson_Lesson_l0 v0 v1) 0)
@[simp] def res_slices_Equal_SLesson_Lesson (r : Bool) : RV := .one (.one (.val (.bool r)))
theorem con_slices_Equal_SLesson_Lesson {v0 : List TLesson} {v1 : List TLesson} {r : Bool} (hF : F_slices_Equal_SLesson_Lesson v0 v1 = some r) : Con Try.prog 82 [.sl 5 (v0.map eLesson), .sl 5 (v1.map eLesson)] (res_slices_Equal_SLesson_Lesson r) := by
 unfold F_slices_Equal_SLesson_Lesson at hF
 refine con_of c82_is fun N => ?_
 refine ws 0 64 ?_
 refine qp (AB false) rfl ?_
 refine r_nil ?_
 refine w_seq ?_
 refine ws 64 384 ?_
 refine qp (AL 5 (v0.map eLesson)) rfl (qp (AI (v0.length : Int)) (ev_len_n rfl) (qp (AL 5 (v1.map eLesson)) rfl (qp (AI (v1.length : Int)) (ev_len_n rfl) (qp (AB (decide ((v0.length : Int) ≠ (v1.length : Int)))) rfl ?_))))
 refine r_nil ?_
 refine cF hF (fun hF => ?_) fun hF => ?_
 ·
  refine ws 384 448 ?_
  refine qp (AB false) rfl ?_
  refine r_nil ?_
  refine w_ret ?_
  refine thenQ_r ?_
  cases hF
  exact eR
 ·
  refine w_skip ?_
  refine thenQ_n ?_
  refine w_seq ?_
  refine ws 384 576 ?_
  refine qp (AL 5 (v0.map eLesson)) rfl (qp (AI (v0.length : Int)) (ev_len_n rfl) (qp (AI 0) rfl ?_))
  refine r_nil ?_
  refine w_block ?_
  refine wr (l' := [(0, AL 5 (v0.map eLesson)), (1, AL 5 (v1.map eLesson)), (12, AI (v0.length : Int)), (13, AI 0)]) (L := []) [0, 1, 12, 13] [] 1 ?_
  refine w_loopF (F_slices_Equal_SLesson_Lesson_l0 v0 v1) (fun s : Int => mkS [(0, AL 5 (v0.map eLesson)), (1, AL 5 (v1.map eLesson)), (12, AI (v0.length : Int)), (13, AI s)] (fo []) 1) hF ?_
  rintro k0 v7 hF
  rw [F_slices_Equal_SLesson_Lesson_l0] at hF
  try dsimp only
  refine ws 1 65 ?_
  refine qp (AB (decide (v7 < (v0.length : Int)))) rfl ?_
  refine r_nil ?_
  refine w_seq ?_
  refine cF hF (fun hF => ?_) fun hF => ?_
  ·
   refine w_skip ?_
   refine thenQ_n ?_
   refine w_seq ?_
   refine w_block ?_
   refine ws 65 193 ?_
   refine qp (AI v7) rfl (qp (AI v7) rfl ?_)
   refine r_nil ?_
   refine ws 193 769 ?_
   refine qp (AL 5 (v0.map eLesson)) rfl (qp (AI v7) rfl ?_)
   obtain ⟨v1000, e1000, hF⟩ := bind_get hF
   refine qp (.val none (.ptr [.int .i64 v1000.1, .str v1000.2.1, .str v1000.2.2.1, .int .i64 v1000.2.2.2.1, .int .i64 v1000.2.2.2.2])) (ev_iad_n rfl rfl e1000 rfl) (qp (.val none (eLesson v1000)) rfl (qp (AL 5 (v1.map eLesson)) rfl (qp (AI v7) rfl ?_)))
   obtain ⟨v1001, e1001, hF⟩ := bind_get hF
   refine qp (.val none (.ptr [.int .i64 v1001.1, .str v1001.2.1, .str v1001.2.2.1, .int .i64 v1001.2.2.2.1, .int .i64 v1001.2.2.2.2])) (ev_iad_n rfl rfl e1001 rfl) (qp (.val none (eLesson v1001)) rfl (qp (AB (!(decide (v1000.1 = v1001.1) && (decide (v1000.2.1 = v1001.2.1) && (decide (v1000.2.2.1 = v1001.2.2.1) && (decide (v1000.2.2.2.1 = v1001.2.2.2.1) && (decide (v1000.2.2.2.2 = v1001.2.2.2.2) && true))))))) rfl ?_))
   refine r_nil ?_
   refine cF hF (fun hF => ?_) fun hF => ?_
   ·
    refine ws 769 833 ?_
    refine qp (AB false) rfl ?_
    refine r_nil ?_
    refine w_ret ?_
    refine blockQ_r ?_
    refine thenQ_r ?_
    refine thenQ_r ?_
    refine blockQ_r ?_
    refine thenQ_r ?_
    cases hF
    exact eR
   ·
    refine w_skip ?_
    refine blockQ_n ?_
    refine thenQ_n ?_
    refine w_reg 769 897 rfl rfl ?_
    refine qp (AI (w64 (v7 + 1))) rfl (qp (AI (w64 (v7 + 1))) rfl ?_)
    refine r_nil ?_
    refine thenQ_n ?_
    refine ar (l' := [(0, AL 5 (v0.map eLesson)), (1, AL 5 (v1.map eLesson)), (12, AI (v0.length : Int)), (13, AI (w64 (v7 + 1)))]) (L := []) [0, 1, 12, 13] [] 1 ⟨_, by rfl, hF⟩
  ·
   refine w_exit ?_
   refine thenQ_e ?_
   refine thenQ_e ?_
   refine blockQ_e ?_
   refine thenQ_n ?_
   refine ws 65 129 ?_
   refine qp (AB true) rfl ?_
   refine r_nil ?_
   refine w_ret ?_
   cases hF
   exact eR

def c179 : MC := (.seq (.reg [rg 4 (.p true (.mv (.c (.bool false))))]) (.seq (.seq (.reg [rg 6 (.p true (.mv (.t 0))), rg 7 (.p true (.len (.t 6))), rg 8 (.p true (.mv (.t 1))), rg 9 (.p true (.len (.t 8))), rg 10 (.p true (.bin .neq (.t 7) (.t 9)))]) (.cond (.t 10) (.seq (.reg [rg 4 (.p true (.mv (.c (.bool false))))]) .ret) .skip)) (.seq (.seq (.reg [rg 11 (.p true (.mv (.t 0))), rg 12 (.p true (.len (.t 11))), rg 13 (.p true (.mv (.c (.int .i64 0))))]) (.block 0 (.loop (.seq (.reg [rg 14 (.p true (.bin .lss (.t 13) (.t 12)))]) (.seq (.cond (.t 14) .skip (.exit 0)) (.seq (.block 1 (.seq (.reg [rg 15 (.p true (.mv (.t 13))), rg 5 (.p true (.mv (.t 15)))]) (.seq (.reg [rg 16 (.p false (.mv (.t 0))), rg 17 (.p false (.mv (.t 5))), rg 18 (.p false (.iad (.t 16) (.t 17) 1)), rg 19 (.p false (.ld (.t 18) 1 false)), rg 20 (.p false (.mv (.t 1))), rg 21 (.p false (.mv (.t 5))), rg 22 (.p false (.iad (.t 20) (.t 21) 1)), rg 23 (.p false (.ld (.t 22) 1 false)), rg 24 (.p false (.bin .neq (.t 19) (.t 23)))]) (.cond (.t 24) (.seq (.reg [rg 4 (.p true (.mv (.c (.bool false))))]) .ret) .skip)))) (.reg [rg 25 (.p true (.bin .add (.t 13) (.c (.int .i64 1)))), rg 13 (.p true (.mv (.t 25)))]))))))) (.seq (.reg [rg 4 (.p true (.mv (.c (.bool true))))]) .ret))))
theorem c179_is : compFn Try.prog 179 = some (c179, [(.tmp 4)]) := by kernel_rfl
theorem c179_ok : okFn Try.prog 179 = true := by kernel_rfl

noncomputable def F_slices_Equal_Sstring_string_l0 (v0 : List (List UInt8)) (v1 : List (List UInt8)) (k0 : Int → Option (Bool)) : Int → Option (Bool)
 | v7 => (bif (decide (v7 < (v0.length : Int))) then ((ix v0 v7).bind fun v1000 => ((ix v1 v7).bind fun v1001 => (bif (decide (v1000 ≠ v1001)) then some false
 else k0 (w64 (v7 + 1)))))
 else some true)
noncomputable def F_slices_Equal_Sstring_string (v0 : List (List UInt8)) (v1 : List (List UInt8)) : Option (Bool) :=
 (bif (decide ((v0.length : Int) ≠ (v1.length : Int))) then some false
 else loop (F_slices_Equal_Sstring_string_l0 v0 v1) 0)
@[simp] def res_slices_Equal_Sstring_string (r : Bool) : RV := .one (.one (.val (.bool r)))
theorem con_slices_Equal_Sstring_string {v0 : List (List UInt8)} {v1 : List (List UInt8)} {r : Bool} (hF : F_slices_Equal_Sstring_string v0 v1 = some r) : Con Try.prog 179 [.sl 1 (v0.map V.str), .sl 1 (v1.map V.str)] (res_slices_Equal_Sstring_string r) := by
 unfold F_slices_Equal_Sstring_string at hF
 refine con_of c179_is fun N => ?_
 refine ws 0 64 ?_
 refine qp (AB false) rfl ?_
 refine r_nil ?_
 refine w_seq ?_
 refine ws 64 384 ?_
 refine qp (AL 1 (v0.map V.str)) rfl (qp (AI (v0.length : Int)) (ev_len_n rfl) (qp (AL 1 (v1.map V.str)) rfl (qp (AI (v1.length : Int)) (ev_len_n rfl) (qp (AB (decide ((v0.length : Int) ≠ (v1.length : Int)))) rfl ?_))))
 refine r_nil ?_
 refine cF hF (fun hF => ?_) fun hF => ?_
 ·
  refine ws 384 448 ?_
  refine qp (AB false) rfl ?_
  refine r_nil ?_
  refine w_ret ?_
  refine thenQ_r ?_
  cases hF
  exact eR
 ·
  refine w_skip ?_
  refine thenQ_n ?_
  refine w_seq ?_
  refine ws 384 576 ?_
  refine qp (AL 1 (v0.map V.str)) rfl (qp (AI (v0.length : Int)) (ev_len_n rfl) (qp (AI 0) rfl ?_))
  refine r_nil ?_
  refine w_block ?_
  refine wr (l' := [(0, AL 1 (v0.map V.str)), (1, AL 1 (v1.map V.str)), (12, AI (v0.length : Int)), (13, AI 0)]) (L := []) [0, 1, 12, 13] [] 1 ?_
  refine w_loopF (F_slices_Equal_Sstring_string_l0 v0 v1) (fun s : Int => mkS [(0, AL 1 (v0.map V.str)), (1, AL 1 (v1.map V.str)), (12, AI (v0.length : Int)), (13, AI s)] (fo []) 1) hF ?_
  rintro k0 v7 hF
  rw [F_slices_Equal_Sstring_string_l0] at hF
  try dsimp only
  refine ws 1 65 ?_
  refine qp (AB (decide (v7 < (v0.length : Int)))) rfl ?_
  refine r_nil ?_
  refine w_seq ?_
  refine cF hF (fun hF => ?_) fun hF => ?_
  ·
   refine w_skip ?_
   refine thenQ_n ?_
   refine w_seq ?_
   refine w_block ?_
   refine ws 65 193 ?_
   refine qp (AI v7) rfl (qp (AI v7) rfl ?_)
   refine r_nil ?_
   refine ws 193 769 ?_
   refine qp (AL 1 (v0.map V.str)) rfl (qp (AI v7) rfl ?_)
   obtain ⟨v1000, e1000, hF⟩ := bind_get hF
   refine qp (.val none (.ptr [.str v1000])) (ev_iad_n rfl rfl e1000 rfl) (qp (AS v1000) rfl (qp (AL 1 (v1.map V.str)) rfl (qp (AI v7) rfl ?_)))
   obtain ⟨v1001, e1001, hF⟩ := bind_get hF
   refine qp (.val none (.ptr [.str v1001])) (ev_iad_n rfl rfl e1001 rfl) (qp (AS v1001) rfl (qp (AB (decide (v1000 ≠ v1001))) rfl ?_))
   refine r_nil ?_
   refine cF hF (fun hF => ?_) fun hF => ?_
   ·
    refine ws 769 833 ?_
    refine qp (AB false) rfl ?_
    refine r_nil ?_
    refine w_ret ?_
    refine blockQ_r ?_
    refine thenQ_r ?_
    refine thenQ_r ?_
    refine blockQ_r ?_
    refine thenQ_r ?_
    cases hF
    exact eR
   ·
    refine w_skip ?_
    refine blockQ_n ?_
    refine thenQ_n ?_
    refine w_reg 769 897 rfl rfl ?_
    refine qp (AI (w64 (v7 + 1))) rfl (qp (AI (w64 (v7 + 1))) rfl ?_)
    refine r_nil ?_
    refine thenQ_n ?_
    refine ar (l' := [(0, AL 1 (v0.map V.str)), (1, AL 1 (v1.map V.str)), (12, AI (v0.length : Int)), (13, AI (w64 (v7 + 1)))]) (L := []) [0, 1, 12, 13] [] 1 ⟨_, by rfl, hF⟩
  ·
   refine w_exit ?_
   refine thenQ_e ?_
   refine thenQ_e ?_
   refine blockQ_e ?_
   refine thenQ_n ?_
   refine ws 65 129 ?_
   refine qp (AB true) rfl ?_
   refine r_nil ?_
   refine w_ret ?_
   cases hF
   exact eR

def c178 : MC := (.seq (.reg [rg 2 (.f (.box (.t 0))), rg 3 (.f (.box (.t 1))), rg 4 (.p true (.mv (.c (.bool false))))]) (.seq (.reg [rg 5 (.p true (.fad (.t 2) 0)), rg 6 (.p true (.ld (.t 5) 1 false)), rg 7 (.p true (.fad (.t 3) 0)), rg 8 (.p true (.ld (.t 7) 1 false)), rg 9 (.p true (.bin .eql (.t 6) (.t 8))), rg 10 (.p true (.mv (.t 9))), ⟨(some 11), (some (10, true)), (.p true (.fad (.t 2) 1))⟩, ⟨(some 12), (some (10, true)), (.p true (.ld (.t 11) 1 false))⟩, ⟨(some 13), (some (10, true)), (.p true (.fad (.t 3) 1))⟩, ⟨(some 14), (some (10, true)), (.p true (.ld (.t 13) 1 false))⟩, ⟨(some 15), (some (10, true)), (.p true (.bin .eql (.t 12) (.t 14)))⟩, rg 16 (.p true (.pick (.t 10) (.t 15) (.c (.bool false)))), rg 17 (.p true (.mv (.t 16))), ⟨(some 18), (some (17, true)), (.p true (.fad (.t 2) 2))⟩, ⟨(some 19), (some (17, true)), (.p true (.ld (.t 18) 1 false))⟩, ⟨(some 20), (some (17, true)), (.p true (.fad (.t 3) 2))⟩, ⟨(some 21), (some (17, true)), (.p true (.ld (.t 20) 1 false))⟩, ⟨(some 22), (some (17, true)), (.call true 179 [(.t 19), (.t 21)])⟩, rg 23 (.p true (.pick (.t 17) (.t 22) (.c (.bool false)))), rg 4 (.p true (.mv (.t 23)))]) .ret))
theorem c178_is : compFn Try.prog 178 = some (c178, [(.tmp 4)]) := by kernel_rfl
theorem c178_ok : okFn Try.prog 178 = true := by kernel_rfl

noncomputable def F_impl_SamePersons_1 (v0 : TPerson) (v1 : TPerson) : Option (Bool) :=
 (bif (decide (v0.1 = v1.1)) then (bif (decide (v0.2.1 = v1.2.1)) then ((F_slices_Equal_Sstring_string v0.2.2 v1.2.2).bind fun v1000 => some v1000)
 else some false)
 else some false)
@[simp] def res_impl_SamePersons_1 (r : Bool) : RV := .one (.one (.val (.bool r)))
theorem con_impl_SamePersons_1 {v0 : TPerson} {v1 : TPerson} {r : Bool} (hF : F_impl_SamePersons_1 v0 v1 = some r) : Con Try.prog 178 [ePerson v0, ePerson v1] (res_impl_SamePersons_1 r) := by
 unfold F_impl_SamePersons_1 at hF
 refine con_of c178_is fun N => ?_
 refine ws 0 192 ?_
 refine qf (.ptr 0 0 0) [(0, .box [AS v0.1, AI v0.2.1, AL 1 (v0.2.2.map V.str)])] (by simp) ?_
 refine qf (.ptr 64 0 0) [(64, .box [AS v1.1, AI v1.2.1, AL 1 (v1.2.2.map V.str)]), (0, .box [AS v0.1, AI v0.2.1, AL 1 (v0.2.2.map V.str)])] (by simp) ?_
 refine qp (AB false) rfl ?_
 refine r_nil ?_
 refine ws 192 1472 ?_
 refine qp (.ptr 0 0 0) rfl (qp (AS v0.1) rfl (qp (.ptr 64 0 0) rfl (qp (AS v1.1) rfl (qp (AB (decide (v0.1 = v1.1))) rfl (qp (AB (decide (v0.1 = v1.1))) rfl ?_)))))
 refine q_case 10 hF rfl (fun hF => ?_) (fun hF => ?_)
 ·
  refine qg (.ptr 0 0 1) rfl rfl (qg (AI v0.2.1) rfl rfl (qg (.ptr 64 0 1) rfl rfl (qg (AI v1.2.1) rfl rfl (qg (AB (decide (v0.2.1 = v1.2.1))) rfl rfl (qp (AB (decide (v0.2.1 = v1.2.1))) rfl (qp (AB (decide (v0.2.1 = v1.2.1))) rfl ?_))))))
  refine q_case 17 hF rfl (fun hF => ?_) (fun hF => ?_)
  ·
   refine qg (.ptr 0 0 2) rfl rfl (qg (AL 1 (v0.2.2.map V.str)) rfl rfl (qg (.ptr 64 0 2) rfl rfl (qg (AL 1 (v1.2.2.map V.str)) rfl rfl ?_)))
   obtain ⟨v1000, e1000, hF⟩ := bind_get hF
   refine qcg (AB v1000) [(64, .box [AS v1.1, AI v1.2.1, AL 1 (v1.2.2.map V.str)]), (0, .box [AS v0.1, AI v0.2.1, AL 1 (v0.2.2.map V.str)])] false rfl (con_slices_Equal_Sstring_string e1000) c179_ok (by first | rfl | simp) rfl ?_
   refine qp (AB v1000) rfl (qp (AB v1000) rfl ?_)
   refine r_nil ?_
   refine w_ret ?_
   cases hF
   exact eR
  ·
   refine qn rfl (qn rfl (qn rfl (qn rfl (qn rfl (qp (AB false) rfl (qp (AB false) rfl ?_))))))
   refine r_nil ?_
   refine w_ret ?_
   cases hF
   exact eR
 ·
  refine qn rfl (qn rfl (qn rfl (qn rfl (qn rfl (qp (AB false) rfl (qp (AB false) rfl (qn rfl ?_)))))))
  refine qn rfl (qn rfl (qn rfl (qn rfl (qp (AB false) rfl (qp (AB false) rfl ?_)))))
  refine r_nil ?_
  refine w_ret ?_
  cases hF
  exact eR

def c177 : MC := (.seq (.reg [rg 6 (.p true (.mv (.c (.bool false))))]) (.seq (.seq (.reg [rg 10 (.p true (.mv (.t 0))), rg 11 (.p true (.len (.t 10))), rg 12 (.p true (.mv (.t 1))), rg 13 (.p true (.len (.t 12))), rg 14 (.p true (.bin .neq (.t 11) (.t 13)))]) (.cond (.t 14) (.seq (.reg [rg 6 (.p true (.mv (.c (.bool false))))]) .ret) .skip)) (.seq (.seq (.reg [rg 15 (.p true (.mv (.t 0))), rg 16 (.p true (.len (.t 15))), rg 17 (.p true (.mv (.c (.int .i64 0))))]) (.block 0 (.loop (.seq (.reg [rg 18 (.p true (.bin .lss (.t 17) (.t 16)))]) (.seq (.cond (.t 18) .skip (.exit 0)) (.seq (.block 1 (.seq (.reg [rg 19 (.p true (.mv (.t 17))), rg 20 (.p true (.iad (.t 15) (.t 17) 3)), rg 21 (.p true (.ld (.t 20) 3 true)), rg 8 (.f (.alloc [((.str []), (0, false)), ((.int .i64 0), (0, false)), ((.sl 0 []), (1, false))])), rg 7 (.p true (.mv (.t 19))), ⟨none, none, (.f (.st (.t 8) (.t 21) 3))⟩]) (.seq (.reg [rg 22 (.p true (.mv (.t 1))), rg 23 (.p true (.mv (.t 7))), rg 24 (.p true (.iad (.t 22) (.t 23) 3)), rg 25 (.p true (.ld (.t 24) 3 true)), rg 9 (.f (.alloc [((.str []), (0, false)), ((.int .i64 0), (0, false)), ((.sl 0 []), (1, false))])), ⟨none, none, (.f (.st (.t 9) (.t 25) 3))⟩]) (.seq (.reg [rg 26 (.p true (.mv (.t 2))), rg 27 (.p true (.ld (.t 8) 3 true)), rg 28 (.p true (.ld (.t 9) 3 true)), rg 29 (.callv (.t 26) [(.t 27), (.t 28)]), rg 30 (.p true (.not (.t 29)))]) (.cond (.t 30) (.seq (.reg [rg 6 (.p true (.mv (.c (.bool false))))]) .ret) .skip))))) (.reg [rg 31 (.p true (.bin .add (.t 17) (.c (.int .i64 1)))), rg 17 (.p true (.mv (.t 31)))]))))))) (.seq (.reg [rg 6 (.p true (.mv (.c (.bool true))))]) .ret))))
theorem c177_is : compFn Try.prog 177 = some (c177, [(.tmp 6)]) := by kernel_rfl
theorem c177_ok : okFn Try.prog 177 = true := by kernel_rfl

noncomputable def F_slices_EqualFunc_SPerson_Person_l0 (v0 : List TPerson) (v1 : List TPerson) (k0 : Int → Option (Bool)) : Int → Option (Bool)
 | v9 => (bif (decide (v9 < (v0.length : Int))) then ((ix v0 v9).bind fun v1000 => ((ix v1 v9).bind fun v1001 => ((F_impl_SamePersons_1 v1000 v1001).bind fun v1002 => (bif (!v1002) then some false
 else k0 (w64 (v9 + 1))))))
 else some true)
noncomputable def F_slices_EqualFunc_SPerson_Person (v0 : List TPerson) (v1 : List TPerson) : Option (Bool) :=
 (bif (decide ((v0.length : Int) ≠ (v1.length : Int))) then some false
 else loop (F_slices_EqualFunc_SPerson_Person_l0 v0 v1) 0)
@[simp] def res_slices_EqualFunc_SPerson_Person (r : Bool) : RV := .one (.one (.val (.bool r)))
theorem con_slices_EqualFunc_SPerson_Person {v0 : List TPerson} {v1 : List TPerson} {r : Bool} (hF : F_slices_EqualFunc_SPerson_Person v0 v1 = some r) : Con Try.prog 177 [.sl 3 (v0.map ePerson), .sl 3 (v1.map ePerson), .fn 178 []] (res_slices_EqualFunc_SPerson_Person r) := by
 unfold F_slices_EqualFunc_SPerson_Person at hF
 refine con_of c177_is fun N => ?_
 refine ws 0 64 ?_
 refine qp (AB false) rfl ?_
 refine r_nil ?_
 refine w_seq ?_
 refine ws 64 384 ?_
 refine qp (AL 3 (v0.map ePerson)) rfl (qp (AI (v0.length : Int)) (ev_len_n rfl) (qp (AL 3 (v1.map ePerson)) rfl (qp (AI (v1.length : Int)) (ev_len_n rfl) (qp (AB (decide ((v0.length : Int) ≠ (v1.length : Int)))) rfl ?_))))
 refine r_nil ?_
 refine cF hF (fun hF => ?_) fun hF => ?_
 ·
  refine ws 384 448 ?_
  refine qp (AB false) rfl ?_
  refine r_nil ?_
  refine w_ret ?_
  refine thenQ_r ?_
  cases hF
  exact eR
 ·
  refine w_skip ?_
  refine thenQ_n ?_
  refine w_seq ?_
  refine ws 384 576 ?_
  refine qp (AL 3 (v0.map ePerson)) rfl (qp (AI (v0.length : Int)) (ev_len_n rfl) (qp (AI 0) rfl ?_))
  refine r_nil ?_
  refine w_block ?_
  refine wr (l' := [(1, AL 3 (v1.map ePerson)), (2, .val none (.fn 178 [])), (15, AL 3 (v0.map ePerson)), (16, AI (v0.length : Int)), (17, AI 0)]) (L := []) [1, 2, 15, 16, 17] [] 1 ?_
  refine w_loopF (F_slices_EqualFunc_SPerson_Person_l0 v0 v1) (fun s : Int => mkS [(1, AL 3 (v1.map ePerson)), (2, .val none (.fn 178 [])), (15, AL 3 (v0.map ePerson)), (16, AI (v0.length : Int)), (17, AI s)] (fo []) 1) hF ?_
  rintro k0 v9 hF
  rw [F_slices_EqualFunc_SPerson_Person_l0] at hF
  try dsimp only
  refine ws 1 65 ?_
  refine qp (AB (decide (v9 < (v0.length : Int)))) rfl ?_
  refine r_nil ?_
  refine w_seq ?_
  refine cF hF (fun hF => ?_) fun hF => ?_
  ·
   refine w_skip ?_
   refine thenQ_n ?_
   refine w_seq ?_
   refine w_block ?_
   refine ws 65 449 ?_
   refine qp (AI v9) rfl ?_
   obtain ⟨v1000, e1000, hF⟩ := bind_get hF
   refine qp (.val none (.ptr [.str v1000.1, .int .i64 v1000.2.1, .sl 1 (v1000.2.2.map V.str)])) (ev_iad_n rfl rfl e1000 rfl) (qp (.val none (ePerson v1000)) rfl ?_)
   refine qf (.ptr 257 0 0) [(257, .box [AS [], AI 0, .sl 258 0 0]), (258, .row true 1 (([] : List Int).map (V.int .i64)))] (by simp) ?_
   refine qp (AI v9) rfl ?_
   refine qf0 (.undef) [(257, .box [AS v1000.1, AI v1000.2.1, AL 1 (v1000.2.2.map V.str)]), (257, .box [AS [], AI 0, .sl 258 0 0]), (258, .row true 1 (([] : List Int).map (V.int .i64)))] (by simp) ?_
   refine r_nil ?_
   refine ws 449 833 ?_
   refine qp (AL 3 (v1.map ePerson)) rfl (qp (AI v9) rfl ?_)
   obtain ⟨v1001, e1001, hF⟩ := bind_get hF
   refine qp (.val none (.ptr [.str v1001.1, .int .i64 v1001.2.1, .sl 1 (v1001.2.2.map V.str)])) (ev_iad_n rfl rfl e1001 rfl) (qp (.val none (ePerson v1001)) rfl ?_)
   refine qf (.ptr 705 0 0) [(705, .box [AS [], AI 0, .sl 706 0 0]), (706, .row true 1 (([] : List Int).map (V.int .i64))), (257, .box [AS v1000.1, AI v1000.2.1, AL 1 (v1000.2.2.map V.str)]), (257, .box [AS [], AI 0, .sl 258 0 0]), (258, .row true 1 (([] : List Int).map (V.int .i64)))] (by simp) ?_
   refine qf0 (.undef) [(705, .box [AS v1001.1, AI v1001.2.1, AL 1 (v1001.2.2.map V.str)]), (705, .box [AS [], AI 0, .sl 706 0 0]), (706, .row true 1 (([] : List Int).map (V.int .i64))), (257, .box [AS v1000.1, AI v1000.2.1, AL 1 (v1000.2.2.map V.str)]), (257, .box [AS [], AI 0, .sl 258 0 0]), (258, .row true 1 (([] : List Int).map (V.int .i64)))] (by simp) ?_
   refine r_nil ?_
   refine ws 833 1153 ?_
   refine qp (.val none (.fn 178 [])) rfl (qp (.agg [AS v1000.1, AI v1000.2.1, AL 1 (v1000.2.2.map V.str)]) rfl (qp (.agg [AS v1001.1, AI v1001.2.1, AL 1 (v1001.2.2.map V.str)]) rfl ?_))
   obtain ⟨v1002, e1002, hF⟩ := bind_get hF
   refine qcv (AB v1002) [(705, .box [AS v1001.1, AI v1001.2.1, AL 1 (v1001.2.2.map V.str)]), (705, .box [AS [], AI 0, .sl 706 0 0]), (706, .row true 1 (([] : List Int).map (V.int .i64))), (257, .box [AS v1000.1, AI v1000.2.1, AL 1 (v1000.2.2.map V.str)]), (257, .box [AS [], AI 0, .sl 258 0 0]), (258, .row true 1 (([] : List Int).map (V.int .i64)))] false rfl (con_impl_SamePersons_1 e1002) c178_ok (by first | rfl | simp) rfl ?_
   refine qp (AB (!v1002)) rfl ?_
   refine r_nil ?_
   refine cF hF (fun hF => ?_) fun hF => ?_
   ·
    refine ws 1153 1217 ?_
    refine qp (AB false) rfl ?_
    refine r_nil ?_
    refine w_ret ?_
    refine blockQ_r ?_
    refine thenQ_r ?_
    refine thenQ_r ?_
    refine blockQ_r ?_
    refine thenQ_r ?_
    cases hF
    exact eR
   ·
    refine w_skip ?_
    refine blockQ_n ?_
    refine thenQ_n ?_
    refine w_reg 1153 1281 rfl rfl ?_
    refine qp (AI (w64 (v9 + 1))) rfl (qp (AI (w64 (v9 + 1))) rfl ?_)
    refine r_nil ?_
    refine thenQ_n ?_
    refine ar (l' := [(1, AL 3 (v1.map ePerson)), (2, .val none (.fn 178 [])), (15, AL 3 (v0.map ePerson)), (16, AI (v0.length : Int)), (17, AI (w64 (v9 + 1)))]) (L := []) [1, 2, 15, 16, 17] [] 1 ⟨_, by rfl, hF⟩
  ·
   refine w_exit ?_
   refine thenQ_e ?_
   refine thenQ_e ?_
   refine blockQ_e ?_
   refine thenQ_n ?_
   refine ws 65 129 ?_
   refine qp (AB true) rfl ?_
   refine r_nil ?_
   refine w_ret ?_
   cases hF
   exact eR

def c83 : MC := (.seq (.reg [rg 4 (.p true (.mv (.c (.bool false))))]) (.seq (.reg [rg 5 (.p true (.mv (.t 0))), rg 6 (.p true (.mv (.t 1))), rg 7 (.call true 177 [(.t 5), (.t 6), (.f 178)]), rg 4 (.p true (.mv (.t 7)))]) .ret))
theorem c83_is : compFn Try.prog 83 = some (c83, [(.tmp 4)]) := by kernel_rfl
theorem c83_ok : okFn Try.prog 83 = true := by kernel_rfl

noncomputable def F_impl_SamePersons (v0 : List TPerson) (v1 : List TPerson) : Option (Bool) :=
 ((F_slices_EqualFunc_SPerson_Person v0 v1).bind fun v1000 => some v1000)
@[simp] def res_impl_SamePersons (r : Bool) : RV := .one (.one (.val (.bool r)))
theorem con_impl_SamePersons {v0 : List TPerson} {v1 : List TPerson} {r : Bool} (hF : F_impl_SamePersons v0 v1 = some r) : Con Try.prog 83 [.sl 3 (v0.map ePerson), .sl 3 (v1.map ePerson)] (res_impl_SamePersons r) := by
 unfold F_impl_SamePersons at hF
 refine con_of c83_is fun N => ?_
 refine ws 0 64 ?_
 refine qp (AB false) rfl ?_
 refine r_nil ?_
 refine ws 64 320 ?_
 refine qp (AL 3 (v0.map ePerson)) rfl (qp (AL 3 (v1.map ePerson)) rfl ?_)
 obtain ⟨v1000, e1000, hF⟩ := bind_get hF
 refine qc (AB v1000) [] false (con_slices_EqualFunc_SPerson_Person e1000) c177_ok (by first | rfl | simp) rfl ?_
 refine qp (AB v1000) rfl ?_
 refine r_nil ?_
 refine w_ret ?_
 cases hF
 exact eR

def c16 : MC := (.seq (.reg [rg 2 (.f (.box (.t 0))), rg 3 (.f (.box (.t 1))), rg 4 (.p true (.mv (.c (.bool false))))]) (.seq (.reg [rg 5 (.p true (.fad (.t 2) 0)), rg 6 (.p true (.ld (.t 5) 6 true)), rg 7 (.p true (.fad (.t 3) 0)), rg 8 (.p true (.ld (.t 7) 6 true)), rg 9 (.call true 74 [(.t 6), (.t 8)]), rg 10 (.p true (.mv (.t 9))), ⟨(some 11), (some (10, true)), (.p true (.fad (.t 2) 6))⟩, ⟨(some 12), (some (10, true)), (.p true (.ld (.t 11) 1 false))⟩, ⟨(some 13), (some (10, true)), (.p true (.fad (.t 3) 6))⟩, ⟨(some 14), (some (10, true)), (.p true (.ld (.t 13) 1 false))⟩, ⟨(some 15), (some (10, true)), (.call true 75 [(.t 12), (.t 14)])⟩, rg 16 (.p true (.pick (.t 10) (.t 15) (.c (.bool false)))), rg 17 (.p true (.mv (.t 16))), ⟨(some 18), (some (17, true)), (.p true (.fad (.t 2) 7))⟩, ⟨(some 19), (some (17, true)), (.p true (.ld (.t 18) 2 true))⟩, ⟨(some 20), (some (17, true)), (.p true (.fad (.t 3) 7))⟩, ⟨(some 21), (some (17, true)), (.p true (.ld (.t 20) 2 true))⟩, ⟨(some 22), (some (17, true)), (.call true 76 [(.t 19), (.t 21)])⟩, rg 23 (.p true (.pick (.t 17) (.t 22) (.c (.bool false)))), rg 24 (.p true (.mv (.t 23))), ⟨(some 25), (some (24, true)), (.p true (.fad (.t 2) 9))⟩, ⟨(some 26), (some (24, true)), (.p true (.ld (.t 25) 1 false))⟩, ⟨(some 27), (some (24, true)), (.p true (.fad (.t 3) 9))⟩, ⟨(some 28), (some (24, true)), (.p true (.ld (.t 27) 1 false))⟩, ⟨(some 29), (some (24, true)), (.call true 77 [(.t 26), (.t 28), (.f 78)])⟩, rg 30 (.p true (.pick (.t 24) (.t 29) (.c (.bool false)))), rg 31 (.p true (.mv (.t 30))), ⟨(some 32), (some (31, true)), (.p true (.fad (.t 2) 10))⟩, ⟨(some 33), (some (31, true)), (.p true (.ld (.t 32) 1 false))⟩, ⟨(some 34), (some (31, true)), (.p true (.fad (.t 3) 10))⟩, ⟨(some 35), (some (31, true)), (.p true (.ld (.t 34) 1 false))⟩, ⟨(some 36), (some (31, true)), (.call true 79 [(.t 33), (.t 35)])⟩, rg 37 (.p true (.pick (.t 31) (.t 36) (.c (.bool false)))), rg 38 (.p true (.mv (.t 37))), ⟨(some 39), (some (38, true)), (.p true (.fad (.t 2) 11))⟩, ⟨(some 40), (some (38, true)), (.p true (.ld (.t 39) 1 false))⟩, ⟨(some 41), (some (38, true)), (.p true (.fad (.t 3) 11))⟩, ⟨(some 42), (some (38, true)), (.p true (.ld (.t 41) 1 false))⟩, ⟨(some 43), (some (38, true)), (.call true 80 [(.t 40), (.t 42)])⟩, rg 44 (.p true (.pick (.t 38) (.t 43) (.c (.bool false)))), rg 45 (.p true (.mv (.t 44))), ⟨(some 46), (some (45, true)), (.p true (.fad (.t 2) 12))⟩, ⟨(some 47), (some (45, true)), (.p true (.ld (.t 46) 1 false))⟩, ⟨(some 48), (some (45, true)), (.p true (.fad (.t 3) 12))⟩, ⟨(some 49), (some (45, true)), (.p true (.ld (.t 48) 1 false))⟩, ⟨(some 50), (some (45, true)), (.call true 81 [(.t 47), (.t 49)])⟩, rg 51 (.p true (.pick (.t 45) (.t 50) (.c (.bool false)))), rg 52 (.p true (.mv (.t 51))), ⟨(some 53), (some (52, true)), (.p true (.fad (.t 2) 13))⟩, ⟨(some 54), (some (52, true)), (.p true (.ld (.t 53) 1 false))⟩, ⟨(some 55), (some (52, true)), (.p true (.fad (.t 3) 13))⟩, ⟨(some 56), (some (52, true)), (.p true (.ld (.t 55) 1 false))⟩, ⟨(some 57), (some (52, true)), (.call true 82 [(.t 54), (.t 56)])⟩, rg 58 (.p true (.pick (.t 52) (.t 57) (.c (.bool false)))), rg 59 (.p true (.mv (.t 58))), ⟨(some 60), (some (59, true)), (.p true (.fad (.t 2) 14))⟩, ⟨(some 61), (some (59, true)), (.p true (.ld (.t 60) 1 false))⟩, ⟨(some 62), (some (59, true)), (.p true (.fad (.t 3) 14))⟩, ⟨(some 63), (some (59, true)), (.p true (.ld (.t 62) 1 false))⟩, ⟨(some 64), (some (59, true)), (.call true 83 [(.t 61), (.t 63)])⟩, rg 65 (.p true (.pick (.t 59) (.t 64) (.c (.bool false)))), rg 4 (.p true (.mv (.t 65)))]) .ret))
theorem c16_is : compFn Try.prog 16 = some (c16, [(.tmp 4)]) := by kernel_rfl
theorem c16_ok : okFn Try.prog 16 = true := by kernel_rfl

noncomputable def F_impl_SameDesk (v0 : TDesk) (v1 : TDesk) : Option (Bool) :=
 ((F_impl_SameRaga (v0.1, v0.2.1, v0.2.2.1, v0.2.2.2.1, v0.2.2.2.2.1, v0.2.2.2.2.2.1) (v1.1, v1.2.1, v1.2.2.1, v1.2.2.2.1, v1.2.2.2.2.1, v1.2.2.2.2.2.1)).bind fun v1000 => (bif v1000 then ((F_slices_Equal_SNote_Note v0.2.2.2.2.2.2.1 v1.2.2.2.2.2.2.1).bind fun v1001 => (bif v1001 then ((F_impl_SameTuning (v0.2.2.2.2.2.2.2.1, v0.2.2.2.2.2.2.2.2.1) (v1.2.2.2.2.2.2.2.1, v1.2.2.2.2.2.2.2.2.1)).bind fun v1002 => (bif v1002 then ((F_slices_EqualFunc_SSint64_Sint64 v0.2.2.2.2.2.2.2.2.2.1 v1.2.2.2.2.2.2.2.2.2.1).bind fun v1003 => (bif v1003 then ((F_slices_Equal_SSyllable_Syllable v0.2.2.2.2.2.2.2.2.2.2.1 v1.2.2.2.2.2.2.2.2.2.2.1).bind fun v1004 => (bif v1004 then ((F_slices_Equal_STempoMark_TempoMark v0.2.2.2.2.2.2.2.2.2.2.2.1 v1.2.2.2.2.2.2.2.2.2.2.2.1).bind fun v1005 => (bif v1005 then ((F_slices_Equal_SItem_Item v0.2.2.2.2.2.2.2.2.2.2.2.2.1 v1.2.2.2.2.2.2.2.2.2.2.2.2.1).bind fun v1006 => (bif v1006 then ((F_slices_Equal_SLesson_Lesson v0.2.2.2.2.2.2.2.2.2.2.2.2.2.1 v1.2.2.2.2.2.2.2.2.2.2.2.2.2.1).bind fun v1007 => (bif v1007 then ((F_impl_SamePersons v0.2.2.2.2.2.2.2.2.2.2.2.2.2.2 v1.2.2.2.2.2.2.2.2.2.2.2.2.2.2).bind fun v1008 => some v1008)
 else some false))
 else some false))
 else some false))
 else some false))
 else some false))
 else some false))
 else some false))
 else some false))
@[simp] def res_impl_SameDesk (r : Bool) : RV := .one (.one (.val (.bool r)))
theorem con_impl_SameDesk {v0 : TDesk} {v1 : TDesk} {r : Bool} (hF : F_impl_SameDesk v0 v1 = some r) : Con Try.prog 16 [eDesk v0, eDesk v1] (res_impl_SameDesk r) := by
 unfold F_impl_SameDesk at hF
 refine con_of c16_is fun N => ?_
 refine ws 0 192 ?_
 refine qf (.ptr 0 0 0) [(0, .box [AS v0.1, AL 1 (v0.2.1.map (V.int .i64)), AL 1 (v0.2.2.1.map (V.int .i64)), AI v0.2.2.2.1, AI v0.2.2.2.2.1, AL 1 (v0.2.2.2.2.2.1.map (eL 1 (V.int .i64))), AL 2 (v0.2.2.2.2.2.2.1.map eNote), AS v0.2.2.2.2.2.2.2.1, AL 2 (v0.2.2.2.2.2.2.2.2.1.map eNote), AL 1 (v0.2.2.2.2.2.2.2.2.2.1.map (eL 1 (V.int .i64))), AL 3 (v0.2.2.2.2.2.2.2.2.2.2.1.map eSyllable), AL 2 (v0.2.2.2.2.2.2.2.2.2.2.2.1.map eNote), AL 6 (v0.2.2.2.2.2.2.2.2.2.2.2.2.1.map eItem), AL 5 (v0.2.2.2.2.2.2.2.2.2.2.2.2.2.1.map eLesson), AL 3 (v0.2.2.2.2.2.2.2.2.2.2.2.2.2.2.map ePerson)])] (by simp) ?_
 refine qf (.ptr 64 0 0) [(64, .box [AS v1.1, AL 1 (v1.2.1.map (V.int .i64)), AL 1 (v1.2.2.1.map (V.int .i64)), AI v1.2.2.2.1, AI v1.2.2.2.2.1, AL 1 (v1.2.2.2.2.2.1.map (eL 1 (V.int .i64))), AL 2 (v1.2.2.2.2.2.2.1.map eNote), AS v1.2.2.2.2.2.2.2.1, AL 2 (v1.2.2.2.2.2.2.2.2.1.map eNote), AL 1 (v1.2.2.2.2.2.2.2.2.2.1.map (eL 1 (V.int .i64))), AL 3 (v1.2.2.2.2.2.2.2.2.2.2.1.map eSyllable), AL 2 (v1.2.2.2.2.2.2.2.2.2.2.2.1.map eNote), AL 6 (v1.2.2.2.2.2.2.2.2.2.2.2.2.1.map eItem), AL 5 (v1.2.2.2.2.2.2.2.2.2.2.2.2.2.1.map eLesson), AL 3 (v1.2.2.2.2.2.2.2.2.2.2.2.2.2.2.map ePerson)]), (0, .box [AS v0.1, AL 1 (v0.2.1.map (V.int .i64)), AL 1 (v0.2.2.1.map (V.int .i64)), AI v0.2.2.2.1, AI v0.2.2.2.2.1, AL 1 (v0.2.2.2.2.2.1.map (eL 1 (V.int .i64))), AL 2 (v0.2.2.2.2.2.2.1.map eNote), AS v0.2.2.2.2.2.2.2.1, AL 2 (v0.2.2.2.2.2.2.2.2.1.map eNote), AL 1 (v0.2.2.2.2.2.2.2.2.2.1.map (eL 1 (V.int .i64))), AL 3 (v0.2.2.2.2.2.2.2.2.2.2.1.map eSyllable), AL 2 (v0.2.2.2.2.2.2.2.2.2.2.2.1.map eNote), AL 6 (v0.2.2.2.2.2.2.2.2.2.2.2.2.1.map eItem), AL 5 (v0.2.2.2.2.2.2.2.2.2.2.2.2.2.1.map eLesson), AL 3 (v0.2.2.2.2.2.2.2.2.2.2.2.2.2.2.map ePerson)])] (by simp) ?_
 refine qp (AB false) rfl ?_
 refine r_nil ?_
 refine ws 192 4160 ?_
 refine qp (.ptr 0 0 0) rfl (qp (.agg [AS v0.1, AL 1 (v0.2.1.map (V.int .i64)), AL 1 (v0.2.2.1.map (V.int .i64)), AI v0.2.2.2.1, AI v0.2.2.2.2.1, AL 1 (v0.2.2.2.2.2.1.map (eL 1 (V.int .i64)))]) rfl (qp (.ptr 64 0 0) rfl (qp (.agg [AS v1.1, AL 1 (v1.2.1.map (V.int .i64)), AL 1 (v1.2.2.1.map (V.int .i64)), AI v1.2.2.2.1, AI v1.2.2.2.2.1, AL 1 (v1.2.2.2.2.2.1.map (eL 1 (V.int .i64)))]) rfl ?_)))
 obtain ⟨v1000, e1000, hF⟩ := bind_get hF
 refine qc (AB v1000) [(64, .box [AS v1.1, AL 1 (v1.2.1.map (V.int .i64)), AL 1 (v1.2.2.1.map (V.int .i64)), AI v1.2.2.2.1, AI v1.2.2.2.2.1, AL 1 (v1.2.2.2.2.2.1.map (eL 1 (V.int .i64))), AL 2 (v1.2.2.2.2.2.2.1.map eNote), AS v1.2.2.2.2.2.2.2.1, AL 2 (v1.2.2.2.2.2.2.2.2.1.map eNote), AL 1 (v1.2.2.2.2.2.2.2.2.2.1.map (eL 1 (V.int .i64))), AL 3 (v1.2.2.2.2.2.2.2.2.2.2.1.map eSyllable), AL 2 (v1.2.2.2.2.2.2.2.2.2.2.2.1.map eNote), AL 6 (v1.2.2.2.2.2.2.2.2.2.2.2.2.1.map eItem), AL 5 (v1.2.2.2.2.2.2.2.2.2.2.2.2.2.1.map eLesson), AL 3 (v1.2.2.2.2.2.2.2.2.2.2.2.2.2.2.map ePerson)]), (0, .box [AS v0.1, AL 1 (v0.2.1.map (V.int .i64)), AL 1 (v0.2.2.1.map (V.int .i64)), AI v0.2.2.2.1, AI v0.2.2.2.2.1, AL 1 (v0.2.2.2.2.2.1.map (eL 1 (V.int .i64))), AL 2 (v0.2.2.2.2.2.2.1.map eNote), AS v0.2.2.2.2.2.2.2.1, AL 2 (v0.2.2.2.2.2.2.2.2.1.map eNote), AL 1 (v0.2.2.2.2.2.2.2.2.2.1.map (eL 1 (V.int .i64))), AL 3 (v0.2.2.2.2.2.2.2.2.2.2.1.map eSyllable), AL 2 (v0.2.2.2.2.2.2.2.2.2.2.2.1.map eNote), AL 6 (v0.2.2.2.2.2.2.2.2.2.2.2.2.1.map eItem), AL 5 (v0.2.2.2.2.2.2.2.2.2.2.2.2.2.1.map eLesson), AL 3 (v0.2.2.2.2.2.2.2.2.2.2.2.2.2.2.map ePerson)])] false (con_impl_SameRaga e1000) c74_ok (by first | rfl | simp) rfl ?_
 refine qp (AB v1000) rfl ?_
 refine q_case 10 hF rfl (fun hF => ?_) (fun hF => ?_)
 ·
  refine qg (.ptr 0 0 6) rfl rfl (qg (AL 2 (v0.2.2.2.2.2.2.1.map eNote)) rfl rfl (qg (.ptr 64 0 6) rfl rfl (qg (AL 2 (v1.2.2.2.2.2.2.1.map eNote)) rfl rfl ?_)))
  obtain ⟨v1001, e1001, hF⟩ := bind_get hF
  refine qcg (AB v1001) [(64, .box [AS v1.1, AL 1 (v1.2.1.map (V.int .i64)), AL 1 (v1.2.2.1.map (V.int .i64)), AI v1.2.2.2.1, AI v1.2.2.2.2.1, AL 1 (v1.2.2.2.2.2.1.map (eL 1 (V.int .i64))), AL 2 (v1.2.2.2.2.2.2.1.map eNote), AS v1.2.2.2.2.2.2.2.1, AL 2 (v1.2.2.2.2.2.2.2.2.1.map eNote), AL 1 (v1.2.2.2.2.2.2.2.2.2.1.map (eL 1 (V.int .i64))), AL 3 (v1.2.2.2.2.2.2.2.2.2.2.1.map eSyllable), AL 2 (v1.2.2.2.2.2.2.2.2.2.2.2.1.map eNote), AL 6 (v1.2.2.2.2.2.2.2.2.2.2.2.2.1.map eItem), AL 5 (v1.2.2.2.2.2.2.2.2.2.2.2.2.2.1.map eLesson), AL 3 (v1.2.2.2.2.2.2.2.2.2.2.2.2.2.2.map ePerson)]), (0, .box [AS v0.1, AL 1 (v0.2.1.map (V.int .i64)), AL 1 (v0.2.2.1.map (V.int .i64)), AI v0.2.2.2.1, AI v0.2.2.2.2.1, AL 1 (v0.2.2.2.2.2.1.map (eL 1 (V.int .i64))), AL 2 (v0.2.2.2.2.2.2.1.map eNote), AS v0.2.2.2.2.2.2.2.1, AL 2 (v0.2.2.2.2.2.2.2.2.1.map eNote), AL 1 (v0.2.2.2.2.2.2.2.2.2.1.map (eL 1 (V.int .i64))), AL 3 (v0.2.2.2.2.2.2.2.2.2.2.1.map eSyllable), AL 2 (v0.2.2.2.2.2.2.2.2.2.2.2.1.map eNote), AL 6 (v0.2.2.2.2.2.2.2.2.2.2.2.2.1.map eItem), AL 5 (v0.2.2.2.2.2.2.2.2.2.2.2.2.2.1.map eLesson), AL 3 (v0.2.2.2.2.2.2.2.2.2.2.2.2.2.2.map ePerson)])] false rfl (con_slices_Equal_SNote_Note e1001) c75_ok (by first | rfl | simp) rfl ?_
  refine qp (AB v1001) rfl (qp (AB v1001) rfl ?_)
  refine q_case 17 hF rfl (fun hF => ?_) (fun hF => ?_)
  ·
   refine qg (.ptr 0 0 7) rfl rfl (qg (.agg [AS v0.2.2.2.2.2.2.2.1, AL 2 (v0.2.2.2.2.2.2.2.2.1.map eNote)]) rfl rfl (qg (.ptr 64 0 7) rfl rfl (qg (.agg [AS v1.2.2.2.2.2.2.2.1, AL 2 (v1.2.2.2.2.2.2.2.2.1.map eNote)]) rfl rfl ?_)))
   obtain ⟨v1002, e1002, hF⟩ := bind_get hF
   refine qcg (AB v1002) [(64, .box [AS v1.1, AL 1 (v1.2.1.map (V.int .i64)), AL 1 (v1.2.2.1.map (V.int .i64)), AI v1.2.2.2.1, AI v1.2.2.2.2.1, AL 1 (v1.2.2.2.2.2.1.map (eL 1 (V.int .i64))), AL 2 (v1.2.2.2.2.2.2.1.map eNote), AS v1.2.2.2.2.2.2.2.1, AL 2 (v1.2.2.2.2.2.2.2.2.1.map eNote), AL 1 (v1.2.2.2.2.2.2.2.2.2.1.map (eL 1 (V.int .i64))), AL 3 (v1.2.2.2.2.2.2.2.2.2.2.1.map eSyllable), AL 2 (v1.2.2.2.2.2.2.2.2.2.2.2.1.map eNote), AL 6 (v1.2.2.2.2.2.2.2.2.2.2.2.2.1.map eItem), AL 5 (v1.2.2.2.2.2.2.2.2.2.2.2.2.2.1.map eLesson), AL 3 (v1.2.2.2.2.2.2.2.2.2.2.2.2.2.2.map ePerson)]), (0, .box [AS v0.1, AL 1 (v0.2.1.map (V.int .i64)), AL 1 (v0.2.2.1.map (V.int .i64)), AI v0.2.2.2.1, AI v0.2.2.2.2.1, AL 1 (v0.2.2.2.2.2.1.map (eL 1 (V.int .i64))), AL 2 (v0.2.2.2.2.2.2.1.map eNote), AS v0.2.2.2.2.2.2.2.1, AL 2 (v0.2.2.2.2.2.2.2.2.1.map eNote), AL 1 (v0.2.2.2.2.2.2.2.2.2.1.map (eL 1 (V.int .i64))), AL 3 (v0.2.2.2.2.2.2.2.2.2.2.1.map eSyllable), AL 2 (v0.2.2.2.2.2.2.2.2.2.2.2.1.map eNote), AL 6 (v0.2.2.2.2.2.2.2.2.2.2.2.2.1.map eItem), AL 5 (v0.2.2.2.2.2.2.2.2.2.2.2.2.2.1.map eLesson), AL 3 (v0.2.2.2.2.2.2.2.2.2.2.2.2.2.2.map ePerson)])] false rfl (con_impl_SameTuning e1002) c76_ok (by first | rfl | simp) rfl ?_
   refine qp (AB v1002) rfl (qp (AB v1002) rfl ?_)
   refine q_case 24 hF rfl (fun hF => ?_) (fun hF => ?_)
   ·
    refine qg (.ptr 0 0 9) rfl rfl (qg (AL 1 (v0.2.2.2.2.2.2.2.2.2.1.map (eL 1 (V.int .i64)))) rfl rfl (qg (.ptr 64 0 9) rfl rfl (qg (AL 1 (v1.2.2.2.2.2.2.2.2.2.1.map (eL 1 (V.int .i64)))) rfl rfl ?_)))
    obtain ⟨v1003, e1003, hF⟩ := bind_get hF
    refine qcg (AB v1003) [(64, .box [AS v1.1, AL 1 (v1.2.1.map (V.int .i64)), AL 1 (v1.2.2.1.map (V.int .i64)), AI v1.2.2.2.1, AI v1.2.2.2.2.1, AL 1 (v1.2.2.2.2.2.1.map (eL 1 (V.int .i64))), AL 2 (v1.2.2.2.2.2.2.1.map eNote), AS v1.2.2.2.2.2.2.2.1, AL 2 (v1.2.2.2.2.2.2.2.2.1.map eNote), AL 1 (v1.2.2.2.2.2.2.2.2.2.1.map (eL 1 (V.int .i64))), AL 3 (v1.2.2.2.2.2.2.2.2.2.2.1.map eSyllable), AL 2 (v1.2.2.2.2.2.2.2.2.2.2.2.1.map eNote), AL 6 (v1.2.2.2.2.2.2.2.2.2.2.2.2.1.map eItem), AL 5 (v1.2.2.2.2.2.2.2.2.2.2.2.2.2.1.map eLesson), AL 3 (v1.2.2.2.2.2.2.2.2.2.2.2.2.2.2.map ePerson)]), (0, .box [AS v0.1, AL 1 (v0.2.1.map (V.int .i64)), AL 1 (v0.2.2.1.map (V.int .i64)), AI v0.2.2.2.1, AI v0.2.2.2.2.1, AL 1 (v0.2.2.2.2.2.1.map (eL 1 (V.int .i64))), AL 2 (v0.2.2.2.2.2.2.1.map eNote), AS v0.2.2.2.2.2.2.2.1, AL 2 (v0.2.2.2.2.2.2.2.2.1.map eNote), AL 1 (v0.2.2.2.2.2.2.2.2.2.1.map (eL 1 (V.int .i64))), AL 3 (v0.2.2.2.2.2.2.2.2.2.2.1.map eSyllable), AL 2 (v0.2.2.2.2.2.2.2.2.2.2.2.1.map eNote), AL 6 (v0.2.2.2.2.2.2.2.2.2.2.2.2.1.map eItem), AL 5 (v0.2.2.2.2.2.2.2.2.2.2.2.2.2.1.map eLesson), AL 3 (v0.2.2.2.2.2.2.2.2.2.2.2.2.2.2.map ePerson)])] false rfl (con_slices_EqualFunc_SSint64_Sint64 e1003) c77_ok (by first | rfl | simp) rfl ?_
    refine qp (AB v1003) rfl (qp (AB v1003) rfl ?_)
    refine q_case 31 hF rfl (fun hF => ?_) (fun hF => ?_)
    ·
     refine qg (.ptr 0 0 10) rfl rfl (qg (AL 3 (v0.2.2.2.2.2.2.2.2.2.2.1.map eSyllable)) rfl rfl (qg (.ptr 64 0 10) rfl rfl (qg (AL 3 (v1.2.2.2.2.2.2.2.2.2.2.1.map eSyllable)) rfl rfl ?_)))
     obtain ⟨v1004, e1004, hF⟩ := bind_get hF
     refine qcg (AB v1004) [(64, .box [AS v1.1, AL 1 (v1.2.1.map (V.int .i64)), AL 1 (v1.2.2.1.map (V.int .i64)), AI v1.2.2.2.1, AI v1.2.2.2.2.1, AL 1 (v1.2.2.2.2.2.1.map (eL 1 (V.int .i64))), AL 2 (v1.2.2.2.2.2.2.1.map eNote), AS v1.2.2.2.2.2.2.2.1, AL 2 (v1.2.2.2.2.2.2.2.2.1.map eNote), AL 1 (v1.2.2.2.2.2.2.2.2.2.1.map (eL 1 (V.int .i64))), AL 3 (v1.2.2.2.2.2.2.2.2.2.2.1.map eSyllable), AL 2 (v1.2.2.2.2.2.2.2.2.2.2.2.1.map eNote), AL 6 (v1.2.2.2.2.2.2.2.2.2.2.2.2.1.map eItem), AL 5 (v1.2.2.2.2.2.2.2.2.2.2.2.2.2.1.map eLesson), AL 3 (v1.2.2.2.2.2.2.2.2.2.2.2.2.2.2.map ePerson)]), (0, .box [AS v0.1, AL 1 (v0.2.1.map (V.int .i64)), AL 1 (v0.2.2.1.map (V.int .i64)), AI v0.2.2.2.1, AI v0.2.2.2.2.1, AL 1 (v0.2.2.2.2.2.1.map (eL 1 (V.int .i64))), AL 2 (v0.2.2.2.2.2.2.1.map eNote), AS v0.2.2.2.2.2.2.2.1, AL 2 (v0.2.2.2.2.2.2.2.2.1.map eNote), AL 1 (v0.2.2.2.2.2.2.2.2.2.1.map (eL 1 (V.int .i64))), AL 3 (v0.2.2.2.2.2.2.2.2.2.2.1.map eSyllable), AL 2 (v0.2.2.2.2.2.2.2.2.2.2.2.1.map eNote), AL 6 (v0.2.2.2.2.2.2.2.2.2.2.2.2.1.map eItem), AL 5 (v0.2.2.2.2.2.2.2.2.2.2.2.2.2.1.map eLesson), AL 3 (v0.2.2.2.2.2.2.2.2.2.2.2.2.2.2.map ePerson)])] false rfl (con_slices_Equal_SSyllable_Syllable e1004) c79_ok (by first | rfl | simp) rfl ?_
     refine qp (AB v1004) rfl (qp (AB v1004) rfl ?_)
     refine q_case 38 hF rfl (fun hF => ?_) (fun hF => ?_)
     ·
      refine qg (.ptr 0 0 11) rfl rfl (qg (AL 2 (v0.2.2.2.2.2.2.2.2.2.2.2.1.map eNote)) rfl rfl (qg (.ptr 64 0 11) rfl rfl (qg (AL 2 (v1.2.2.2.2.2.2.2.2.2.2.2.1.map eNote)) rfl rfl ?_)))
      obtain ⟨v1005, e1005, hF⟩ := bind_get hF
      refine qcg (AB v1005) [(64, .box [AS v1.1, AL 1 (v1.2.1.map (V.int .i64)), AL 1 (v1.2.2.1.map (V.int .i64)), AI v1.2.2.2.1, AI v1.2.2.2.2.1, AL 1 (v1.2.2.2.2.2.1.map (eL 1 (V.int .i64))), AL 2 (v1.2.2.2.2.2.2.1.map eNote), AS v1.2.2.2.2.2.2.2.1, AL 2 (v1.2.2.2.2.2.2.2.2.1.map eNote), AL 1 (v1.2.2.2.2.2.2.2.2.2.1.map (eL 1 (V.int .i64))), AL 3 (v1.2.2.2.2.2.2.2.2.2.2.1.map eSyllable), AL 2 (v1.2.2.2.2.2.2.2.2.2.2.2.1.map eNote), AL 6 (v1.2.2.2.2.2.2.2.2.2.2.2.2.1.map eItem), AL 5 (v1.2.2.2.2.2.2.2.2.2.2.2.2.2.1.map eLesson), AL 3 (v1.2.2.2.2.2.2.2.2.2.2.2.2.2.2.map ePerson)]), (0, .box [AS v0.1, AL 1 (v0.2.1.map (V.int .i64)), AL 1 (v0.2.2.1.map (V.int .i64)), AI v0.2.2.2.1, AI v0.2.2.2.2.1, AL 1 (v0.2.2.2.2.2.1.map (eL 1 (V.int .i64))), AL 2 (v0.2.2.2.2.2.2.1.map eNote), AS v0.2.2.2.2.2.2.2.1, AL 2 (v0.2.2.2.2.2.2.2.2.1.map eNote), AL 1 (v0.2.2.2.2.2.2.2.2.2.1.map (eL 1 (V.int .i64))), AL 3 (v0.2.2.2.2.2.2.2.2.2.2.1.map eSyllable), AL 2 (v0.2.2.2.2.2.2.2.2.2.2.2.1.map eNote), AL 6 (v0.2.2.2.2.2.2.2.2.2.2.2.2.1.map eItem), AL 5 (v0.2.2.2.2.2.2.2.2.2.2.2.2.2.1.map eLesson), AL 3 (v0.2.2.2.2.2.2.2.2.2.2.2.2.2.2.map ePerson)])] false rfl (con_slices_Equal_STempoMark_TempoMark e1005) c80_ok (by first | rfl | simp) rfl ?_
      refine qp (AB v1005) rfl (qp (AB v1005) rfl ?_)
      refine q_case 45 hF rfl (fun hF => ?_) (fun hF => ?_)
      ·
       refine qg (.ptr 0 0 12) rfl rfl (qg (AL 6 (v0.2.2.2.2.2.2.2.2.2.2.2.2.1.map eItem)) rfl rfl (qg (.ptr 64 0 12) rfl rfl (qg (AL 6 (v1.2.2.2.2.2.2.2.2.2.2.2.2.1.map eItem)) rfl rfl ?_)))
       obtain ⟨v1006, e1006, hF⟩ := bind_get hF
       refine qcg (AB v1006) [(64, .box [AS v1.1, AL 1 (v1.2.1.map (V.int .i64)), AL 1 (v1.2.2.1.map (V.int .i64)), AI v1.2.2.2.1, AI v1.2.2.2.2.1, AL 1 (v1.2.2.2.2.2.1.map (eL 1 (V.int .i64))), AL 2 (v1.2.2.2.2.2.2.1.map eNote), AS v1.2.2.2.2.2.2.2.1, AL 2 (v1.2.2.2.2.2.2.2.2.1.map eNote), AL 1 (v1.2.2.2.2.2.2.2.2.2.1.map (eL 1 (V.int .i64))), AL 3 (v1.2.2.2.2.2.2.2.2.2.2.1.map eSyllable), AL 2 (v1.2.2.2.2.2.2.2.2.2.2.2.1.map eNote), AL 6 (v1.2.2.2.2.2.2.2.2.2.2.2.2.1.map eItem), AL 5 (v1.2.2.2.2.2.2.2.2.2.2.2.2.2.1.map eLesson), AL 3 (v1.2.2.2.2.2.2.2.2.2.2.2.2.2.2.map ePerson)]), (0, .box [AS v0.1, AL 1 (v0.2.1.map (V.int .i64)), AL 1 (v0.2.2.1.map (V.int .i64)), AI v0.2.2.2.1, AI v0.2.2.2.2.1, AL 1 (v0.2.2.2.2.2.1.map (eL 1 (V.int .i64))), AL 2 (v0.2.2.2.2.2.2.1.map eNote), AS v0.2.2.2.2.2.2.2.1, AL 2 (v0.2.2.2.2.2.2.2.2.1.map eNote), AL 1 (v0.2.2.2.2.2.2.2.2.2.1.map (eL 1 (V.int .i64))), AL 3 (v0.2.2.2.2.2.2.2.2.2.2.1.map eSyllable), AL 2 (v0.2.2.2.2.2.2.2.2.2.2.2.1.map eNote), AL 6 (v0.2.2.2.2.2.2.2.2.2.2.2.2.1.map eItem), AL 5 (v0.2.2.2.2.2.2.2.2.2.2.2.2.2.1.map eLesson), AL 3 (v0.2.2.2.2.2.2.2.2.2.2.2.2.2.2.map ePerson)])] false rfl (con_slices_Equal_SItem_Item e1006) c81_ok (by first | rfl | simp) rfl ?_
       refine qp (AB v1006) rfl (qp (AB v1006) rfl ?_)
       refine q_case 52 hF rfl (fun hF => ?_) (fun hF => ?_)
       ·
        refine qg (.ptr 0 0 13) rfl rfl (qg (AL 5 (v0.2.2.2.2.2.2.2.2.2.2.2.2.2.1.map eLesson)) rfl rfl (qg (.ptr 64 0 13) rfl rfl (qg (AL 5 (v1.2.2.2.2.2.2.2.2.2.2.2.2.2.1.map eLesson)) rfl rfl ?_)))
        obtain ⟨v1007, e1007, hF⟩ := bind_get hF
        refine qcg (AB v1007) [(64, .box [AS v1.1, AL 1 (v1.2.1.map (V.int .i64)), AL 1 (v1.2.2.1.map (V.int .i64)), AI v1.2.2.2.1, AI v1.2.2.2.2.1, AL 1 (v1.2.2.2.2.2.1.map (eL 1 (V.int .i64))), AL 2 (v1.2.2.2.2.2.2.1.map eNote), AS v1.2.2.2.2.2.2.2.1, AL 2 (v1.2.2.2.2.2.2.2.2.1.map eNote), AL 1 (v1.2.2.2.2.2.2.2.2.2.1.map (eL 1 (V.int .i64))), AL 3 (v1.2.2.2.2.2.2.2.2.2.2.1.map eSyllable), AL 2 (v1.2.2.2.2.2.2.2.2.2.2.2.1.map eNote), AL 6 (v1.2.2.2.2.2.2.2.2.2.2.2.2.1.map eItem), AL 5 (v1.2.2.2.2.2.2.2.2.2.2.2.2.2.1.map eLesson), AL 3 (v1.2.2.2.2.2.2.2.2.2.2.2.2.2.2.map ePerson)]), (0, .box [AS v0.1, AL 1 (v0.2.1.map (V.int .i64)), AL 1 (v0.2.2.1.map (V.int .i64)), AI v0.2.2.2.1, AI v0.2.2.2.2.1, AL 1 (v0.2.2.2.2.2.1.map (eL 1 (V.int .i64))), AL 2 (v0.2.2.2.2.2.2.1.map eNote), AS v0.2.2.2.2.2.2.2.1, AL 2 (v0.2.2.2.2.2.2.2.2.1.map eNote), AL 1 (v0.2.2.2.2.2.2.2.2.2.1.map (eL 1 (V.int .i64))), AL 3 (v0.2.2.2.2.2.2.2.2.2.2.1.map eSyllable), AL 2 (v0.2.2.2.2.2.2.2.2.2.2.2.1.map eNote), AL 6 (v0.2.2.2.2.2.2.2.2.2.2.2.2.1.map eItem), AL 5 (v0.2.2.2.2.2.2.2.2.2.2.2.2.2.1.map eLesson), AL 3 (v0.2.2.2.2.2.2.2.2.2.2.2.2.2.2.map ePerson)])] false rfl (con_slices_Equal_SLesson_Lesson e1007) c82_ok (by first | rfl | simp) rfl ?_
        refine qp (AB v1007) rfl (qp (AB v1007) rfl ?_)
        refine q_case 59 hF rfl (fun hF => ?_) (fun hF => ?_)
        ·
         refine qg (.ptr 0 0 14) rfl rfl (qg (AL 3 (v0.2.2.2.2.2.2.2.2.2.2.2.2.2.2.map ePerson)) rfl rfl (qg (.ptr 64 0 14) rfl rfl (qg (AL 3 (v1.2.2.2.2.2.2.2.2.2.2.2.2.2.2.map ePerson)) rfl rfl ?_)))
         obtain ⟨v1008, e1008, hF⟩ := bind_get hF
         refine qcg (AB v1008) [(64, .box [AS v1.1, AL 1 (v1.2.1.map (V.int .i64)), AL 1 (v1.2.2.1.map (V.int .i64)), AI v1.2.2.2.1, AI v1.2.2.2.2.1, AL 1 (v1.2.2.2.2.2.1.map (eL 1 (V.int .i64))), AL 2 (v1.2.2.2.2.2.2.1.map eNote), AS v1.2.2.2.2.2.2.2.1, AL 2 (v1.2.2.2.2.2.2.2.2.1.map eNote), AL 1 (v1.2.2.2.2.2.2.2.2.2.1.map (eL 1 (V.int .i64))), AL 3 (v1.2.2.2.2.2.2.2.2.2.2.1.map eSyllable), AL 2 (v1.2.2.2.2.2.2.2.2.2.2.2.1.map eNote), AL 6 (v1.2.2.2.2.2.2.2.2.2.2.2.2.1.map eItem), AL 5 (v1.2.2.2.2.2.2.2.2.2.2.2.2.2.1.map eLesson), AL 3 (v1.2.2.2.2.2.2.2.2.2.2.2.2.2.2.map ePerson)]), (0, .box [AS v0.1, AL 1 (v0.2.1.map (V.int .i64)), AL 1 (v0.2.2.1.map (V.int .i64)), AI v0.2.2.2.1, AI v0.2.2.2.2.1, AL 1 (v0.2.2.2.2.2.1.map (eL 1 (V.int .i64))), AL 2 (v0.2.2.2.2.2.2.1.map eNote), AS v0.2.2.2.2.2.2.2.1, AL 2 (v0.2.2.2.2.2.2.2.2.1.map eNote), AL 1 (v0.2.2.2.2.2.2.2.2.2.1.map (eL 1 (V.int .i64))), AL 3 (v0.2.2.2.2.2.2.2.2.2.2.1.map eSyllable), AL 2 (v0.2.2.2.2.2.2.2.2.2.2.2.1.map eNote), AL 6 (v0.2.2.2.2.2.2.2.2.2.2.2.2.1.map eItem), AL 5 (v0.2.2.2.2.2.2.2.2.2.2.2.2.2.1.map eLesson), AL 3 (v0.2.2.2.2.2.2.2.2.2.2.2.2.2.2.map ePerson)])] false rfl (con_impl_SamePersons e1008) c83_ok (by first | rfl | simp) rfl ?_
         refine qp (AB v1008) rfl (qp (AB v1008) rfl ?_)
         refine r_nil ?_
         refine w_ret ?_
         cases hF
         exact eR
        ·
         refine qn rfl (qn rfl (qn rfl (qn rfl (qn rfl (qp (AB false) rfl (qp (AB false) rfl ?_))))))
         refine r_nil ?_
         refine w_ret ?_
         cases hF
         exact eR
       ·
        refine qn rfl (qn rfl (qn rfl (qn rfl (qn rfl (qp (AB false) rfl (qp (AB false) rfl (qn rfl ?_)))))))
        refine qn rfl (qn rfl (qn rfl (qn rfl (qp (AB false) rfl (qp (AB false) rfl ?_)))))
        refine r_nil ?_
        refine w_ret ?_
        cases hF
        exact eR
      ·
       refine qn rfl (qn rfl (qn rfl (qn rfl (qn rfl (qp (AB false) rfl (qp (AB false) rfl (qn rfl ?_)))))))
       refine qn rfl (qn rfl (qn rfl (qn rfl (qp (AB false) rfl (qp (AB false) rfl (qn rfl (qn rfl ?_)))))))
       refine qn rfl (qn rfl (qn rfl (qp (AB false) rfl (qp (AB false) rfl ?_))))
       refine r_nil ?_
       refine w_ret ?_
       cases hF
       exact eR
     ·
      refine qn rfl (qn rfl (qn rfl (qn rfl (qn rfl (qp (AB false) rfl (qp (AB false) rfl (qn rfl ?_)))))))
      refine qn rfl (qn rfl (qn rfl (qn rfl (qp (AB false) rfl (qp (AB false) rfl (qn rfl (qn rfl ?_)))))))
      refine qn rfl (qn rfl (qn rfl (qp (AB false) rfl (qp (AB false) rfl (qn rfl (qn rfl (qn rfl ?_)))))))
      refine qn rfl (qn rfl (qp (AB false) rfl (qp (AB false) rfl ?_)))
      refine r_nil ?_
      refine w_ret ?_
      cases hF
      exact eR
    ·
     refine qn rfl (qn rfl (qn rfl (qn rfl (qn rfl (qp (AB false) rfl (qp (AB false) rfl (qn rfl ?_)))))))
     refine qn rfl (qn rfl (qn rfl (qn rfl (qp (AB false) rfl (qp (AB false) rfl (qn rfl (qn rfl ?_)))))))
     refine qn rfl (qn rfl (qn rfl (qp (AB false) rfl (qp (AB false) rfl (qn rfl (qn rfl (qn rfl ?_)))))))
     refine qn rfl (qn rfl (qp (AB false) rfl (qp (AB false) rfl (qn rfl (qn rfl (qn rfl (qn rfl ?_)))))))
     refine qn rfl (qp (AB false) rfl (qp (AB false) rfl ?_))
     refine r_nil ?_
     refine w_ret ?_
     cases hF
     exact eR
   ·
    refine qn rfl (qn rfl (qn rfl (qn rfl (qn rfl (qp (AB false) rfl (qp (AB false) rfl (qn rfl ?_)))))))
    refine qn rfl (qn rfl (qn rfl (qn rfl (qp (AB false) rfl (qp (AB false) rfl (qn rfl (qn rfl ?_)))))))
    refine qn rfl (qn rfl (qn rfl (qp (AB false) rfl (qp (AB false) rfl (qn rfl (qn rfl (qn rfl ?_)))))))
    refine qn rfl (qn rfl (qp (AB false) rfl (qp (AB false) rfl (qn rfl (qn rfl (qn rfl (qn rfl ?_)))))))
    refine qn rfl (qp (AB false) rfl (qp (AB false) rfl (qn rfl (qn rfl (qn rfl (qn rfl (qn rfl ?_)))))))
    refine qp (AB false) rfl (qp (AB false) rfl ?_)
    refine r_nil ?_
    refine w_ret ?_
    cases hF
    exact eR
  ·
   refine qn rfl (qn rfl (qn rfl (qn rfl (qn rfl (qp (AB false) rfl (qp (AB false) rfl (qn rfl ?_)))))))
   refine qn rfl (qn rfl (qn rfl (qn rfl (qp (AB false) rfl (qp (AB false) rfl (qn rfl (qn rfl ?_)))))))
   refine qn rfl (qn rfl (qn rfl (qp (AB false) rfl (qp (AB false) rfl (qn rfl (qn rfl (qn rfl ?_)))))))
   refine qn rfl (qn rfl (qp (AB false) rfl (qp (AB false) rfl (qn rfl (qn rfl (qn rfl (qn rfl ?_)))))))
   refine qn rfl (qp (AB false) rfl (qp (AB false) rfl (qn rfl (qn rfl (qn rfl (qn rfl (qn rfl ?_)))))))
   refine qp (AB false) rfl (qp (AB false) rfl (qn rfl (qn rfl (qn rfl (qn rfl (qn rfl (qp (AB false) rfl ?_)))))))
   refine qp (AB false) rfl ?_
   refine r_nil ?_
   refine w_ret ?_
   cases hF
   exact eR
 ·
  refine qn rfl (qn rfl (qn rfl (qn rfl (qn rfl (qp (AB false) rfl (qp (AB false) rfl (qn rfl ?_)))))))
  refine qn rfl (qn rfl (qn rfl (qn rfl (qp (AB false) rfl (qp (AB false) rfl (qn rfl (qn rfl ?_)))))))
  refine qn rfl (qn rfl (qn rfl (qp (AB false) rfl (qp (AB false) rfl (qn rfl (qn rfl (qn rfl ?_)))))))
  refine qn rfl (qn rfl (qp (AB false) rfl (qp (AB false) rfl (qn rfl (qn rfl (qn rfl (qn rfl ?_)))))))
  refine qn rfl (qp (AB false) rfl (qp (AB false) rfl (qn rfl (qn rfl (qn rfl (qn rfl (qn rfl ?_)))))))
  refine qp (AB false) rfl (qp (AB false) rfl (qn rfl (qn rfl (qn rfl (qn rfl (qn rfl (qp (AB false) rfl ?_)))))))
  refine qp (AB false) rfl (qn rfl (qn rfl (qn rfl (qn rfl (qn rfl (qp (AB false) rfl (qp (AB false) rfl ?_)))))))
  refine r_nil ?_
  refine w_ret ?_
  cases hF
  exact eR

def c163 : MC := (.seq (.reg [rg 4 (.p true (.mv (.c (.bool false))))]) (.seq (.seq (.reg [rg 6 (.p true (.mv (.t 0))), rg 7 (.p true (.len (.t 6))), rg 8 (.p true (.mv (.t 1))), rg 9 (.p true (.len (.t 8))), rg 10 (.p true (.bin .neq (.t 7) (.t 9)))]) (.cond (.t 10) (.seq (.reg [rg 4 (.p true (.mv (.c (.bool false))))]) .ret) .skip)) (.seq (.seq (.reg [rg 5 (.p true (.mv (.c (.int .i64 0))))]) (.block 0 (.loop (.seq (.seq (.reg [rg 11 (.p true (.mv (.t 5))), rg 12 (.p true (.mv (.t 0))), rg 13 (.p true (.len (.t 12))), rg 14 (.p true (.bin .lss (.t 11) (.t 13)))]) (.cond (.t 14) .skip (.exit 0))) (.seq (.block 1 (.seq (.reg [rg 17 (.p false (.mv (.t 0))), rg 18 (.p false (.mv (.t 5))), rg 19 (.p false (.iad (.t 17) (.t 18) 1)), rg 20 (.p false (.ld (.t 19) 1 false)), rg 21 (.p false (.mv (.t 1))), rg 22 (.p false (.mv (.t 5))), rg 23 (.p false (.iad (.t 21) (.t 22) 1)), rg 24 (.p false (.ld (.t 23) 1 false)), rg 25 (.p false (.bin .neq (.t 20) (.t 24)))]) (.cond (.t 25) (.seq (.reg [rg 4 (.p true (.mv (.c (.bool false))))]) .ret) .skip))) (.reg [rg 15 (.p true (.mv (.t 5))), rg 16 (.p true (.bin .add (.t 15) (.c (.int .i64 1)))), rg 5 (.p true (.mv (.t 16)))])))))) (.seq (.reg [rg 4 (.p true (.mv (.c (.bool true))))]) .ret))))
theorem c163_is : compFn Try.prog 163 = some (c163, [(.tmp 4)]) := by kernel_rfl
theorem c163_ok : okFn Try.prog 163 = true := by kernel_rfl

noncomputable def F_laws_eqInt64S_l0 (v0 : List Int) (v1 : List Int) (k0 : Int → Option (Bool)) : Int → Option (Bool)
 | v7 => (bif (decide (v7 < (v0.length : Int))) then ((ix v0 v7).bind fun v1000 => ((ix v1 v7).bind fun v1001 => (bif (decide (v1000 ≠ v1001)) then some false
 else k0 (w64 (v7 + 1)))))
 else some true)
noncomputable def F_laws_eqInt64S (v0 : List Int) (v1 : List Int) : Option (Bool) :=
 (bif (decide ((v0.length : Int) ≠ (v1.length : Int))) then some false
 else loop (F_laws_eqInt64S_l0 v0 v1) 0)
@[simp] def res_laws_eqInt64S (r : Bool) : RV := .one (.one (.val (.bool r)))
theorem con_laws_eqInt64S {v0 : List Int} {v1 : List Int} {r : Bool} (hF : F_laws_eqInt64S v0 v1 = some r) : Con Try.prog 163 [.sl 1 (v0.map (V.int .i64)), .sl 1 (v1.map (V.int .i64))] (res_laws_eqInt64S r) := by
 unfold F_laws_eqInt64S at hF
 refine con_of c163_is fun N => ?_
 refine ws 0 64 ?_
 refine qp (AB false) rfl ?_
 refine r_nil ?_
 refine w_seq ?_
 refine ws 64 384 ?_
 refine qp (AL 1 (v0.map (V.int .i64))) rfl (qp (AI (v0.length : Int)) (ev_len_n rfl) (qp (AL 1 (v1.map (V.int .i64))) rfl (qp (AI (v1.length : Int)) (ev_len_n rfl) (qp (AB (decide ((v0.length : Int) ≠ (v1.length : Int)))) rfl ?_))))
 refine r_nil ?_
 refine cF hF (fun hF => ?_) fun hF => ?_
 ·
  refine ws 384 448 ?_
  refine qp (AB false) rfl ?_
  refine r_nil ?_
  refine w_ret ?_
  refine thenQ_r ?_
  cases hF
  exact eR
 ·
  refine w_skip ?_
  refine thenQ_n ?_
  refine w_seq ?_
  refine ws 384 448 ?_
  refine qp (AI 0) rfl ?_
  refine r_nil ?_
  refine w_block ?_
  refine wr (l' := [(0, AL 1 (v0.map (V.int .i64))), (1, AL 1 (v1.map (V.int .i64))), (5, AI 0)]) (L := []) [0, 1, 5] [] 1 ?_
  refine w_loopF (F_laws_eqInt64S_l0 v0 v1) (fun s : Int => mkS [(0, AL 1 (v0.map (V.int .i64))), (1, AL 1 (v1.map (V.int .i64))), (5, AI s)] (fo []) 1) hF ?_
  rintro k0 v7 hF
  rw [F_laws_eqInt64S_l0] at hF
  try dsimp only
  refine w_seq ?_
  refine ws 1 257 ?_
  refine qp (AI v7) rfl (qp (AL 1 (v0.map (V.int .i64))) rfl (qp (AI (v0.length : Int)) (ev_len_n rfl) (qp (AB (decide (v7 < (v0.length : Int)))) rfl ?_)))
  refine r_nil ?_
  refine cF hF (fun hF => ?_) fun hF => ?_
  ·
   refine w_skip ?_
   refine thenQ_n ?_
   refine w_seq ?_
   refine w_block ?_
   refine ws 257 833 ?_
   refine qp (AL 1 (v0.map (V.int .i64))) rfl (qp (AI v7) rfl ?_)
   obtain ⟨v1000, e1000, hF⟩ := bind_get hF
   refine qp (.val none (.ptr [.int .i64 v1000])) (ev_iad_n rfl rfl e1000 rfl) (qp (AI v1000) rfl (qp (AL 1 (v1.map (V.int .i64))) rfl (qp (AI v7) rfl ?_)))
   obtain ⟨v1001, e1001, hF⟩ := bind_get hF
   refine qp (.val none (.ptr [.int .i64 v1001])) (ev_iad_n rfl rfl e1001 rfl) (qp (AI v1001) rfl (qp (AB (decide (v1000 ≠ v1001))) rfl ?_))
   refine r_nil ?_
   refine cF hF (fun hF => ?_) fun hF => ?_
   ·
    refine ws 833 897 ?_
    refine qp (AB false) rfl ?_
    refine r_nil ?_
    refine w_ret ?_
    refine blockQ_r ?_
    refine thenQ_r ?_
    refine thenQ_r ?_
    refine blockQ_r ?_
    refine thenQ_r ?_
    cases hF
    exact eR
   ·
    refine w_skip ?_
    refine blockQ_n ?_
    refine thenQ_n ?_
    refine w_reg 833 1025 rfl rfl ?_
    refine qp (AI v7) rfl (qp (AI (w64 (v7 + 1))) rfl (qp (AI (w64 (v7 + 1))) rfl ?_))
    refine r_nil ?_
    refine thenQ_n ?_
    refine ar (l' := [(0, AL 1 (v0.map (V.int .i64))), (1, AL 1 (v1.map (V.int .i64))), (5, AI (w64 (v7 + 1)))]) (L := []) [0, 1, 5] [] 1 ⟨_, by rfl, hF⟩
  ·
   refine w_exit ?_
   refine thenQ_e ?_
   refine thenQ_e ?_
   refine blockQ_e ?_
   refine thenQ_n ?_
   refine ws 257 321 ?_
   refine qp (AB true) rfl ?_
   refine r_nil ?_
   refine w_ret ?_
   cases hF
   exact eR

def c85 : MC := (.seq (.reg [rg 4 (.p true (.mv (.c (.bool false))))]) (.seq (.seq (.reg [rg 6 (.p true (.mv (.t 0))), rg 7 (.p true (.len (.t 6))), rg 8 (.p true (.mv (.t 1))), rg 9 (.p true (.len (.t 8))), rg 10 (.p true (.bin .neq (.t 7) (.t 9)))]) (.cond (.t 10) (.seq (.reg [rg 4 (.p true (.mv (.c (.bool false))))]) .ret) .skip)) (.seq (.seq (.reg [rg 5 (.p true (.mv (.c (.int .i64 0))))]) (.block 0 (.loop (.seq (.seq (.reg [rg 11 (.p true (.mv (.t 5))), rg 12 (.p true (.mv (.t 0))), rg 13 (.p true (.len (.t 12))), rg 14 (.p true (.bin .lss (.t 11) (.t 13)))]) (.cond (.t 14) .skip (.exit 0))) (.seq (.block 1 (.seq (.reg [rg 17 (.p false (.mv (.t 0))), rg 18 (.p false (.mv (.t 5))), rg 19 (.p false (.iad (.t 17) (.t 18) 1)), rg 20 (.p false (.ld (.t 19) 1 false)), rg 21 (.p false (.mv (.t 1))), rg 22 (.p false (.mv (.t 5))), rg 23 (.p false (.iad (.t 21) (.t 22) 1)), rg 24 (.p false (.ld (.t 23) 1 false)), rg 25 (.call false 163 [(.t 20), (.t 24)]), rg 26 (.p false (.not (.t 25)))]) (.cond (.t 26) (.seq (.reg [rg 4 (.p true (.mv (.c (.bool false))))]) .ret) .skip))) (.reg [rg 15 (.p true (.mv (.t 5))), rg 16 (.p true (.bin .add (.t 15) (.c (.int .i64 1)))), rg 5 (.p true (.mv (.t 16)))])))))) (.seq (.reg [rg 4 (.p true (.mv (.c (.bool true))))]) .ret))))
theorem c85_is : compFn Try.prog 85 = some (c85, [(.tmp 4)]) := by kernel_rfl
theorem c85_ok : okFn Try.prog 85 = true := by kernel_rfl

noncomputable def F_laws_eqInt64SS_l0 (v0 : List (List Int)) (v1 : List (List Int)) (k0 : Int → Option (Bool)) : Int → Option (Bool)
 | v9 => (bif (decide (v9 < (v0.length : Int))) then ((ix v0 v9).bind fun v1000 => ((ix v1 v9).bind fun v1001 => ((F_laws_eqInt64S v1000 v1001).bind fun v1002 => (bif (!v1002) then some false
 else k0 (w64 (v9 + 1))))))
 else some true)
noncomputable def F_laws_eqInt64SS (v0 : List (List Int)) (v1 : List (List Int)) : Option (Bool) :=
 (bif (decide ((v0.length : Int) ≠ (v1.length : Int))) then some false
 else loop (F_laws_eqInt64SS_l0 v0 v1) 0)
@[simp] def res_laws_eqInt64SS (r : Bool) : RV := .one (.one (.val (.bool r)))
theorem con_laws_eqInt64SS {v0 : List (List Int)} {v1 : List (List Int)} {r : Bool} (hF : F_laws_eqInt64SS v0 v1 = some r) : Con Try.prog 85 [.sl 1 (v0.map (eL 1 (V.int .i64))), .sl 1 (v1.map (eL 1 (V.int .i64)))] (res_laws_eqInt64SS r) := by
 unfold F_laws_eqInt64SS at hF
 refine con_of c85_is fun N => ?_
 refine ws 0 64 ?_
 refine qp (AB false) rfl ?_
 refine r_nil ?_
 refine w_seq ?_
 refine ws 64 384 ?_
 refine qp (AL 1 (v0.map (eL 1 (V.int .i64)))) rfl (qp (AI (v0.length : Int)) (ev_len_n rfl) (qp (AL 1 (v1.map (eL 1 (V.int .i64)))) rfl (qp (AI (v1.length : Int)) (ev_len_n rfl) (qp (AB (decide ((v0.length : Int) ≠ (v1.length : Int)))) rfl ?_))))
 refine r_nil ?_
 refine cF hF (fun hF => ?_) fun hF => ?_
 ·
  refine ws 384 448 ?_
  refine qp (AB false) rfl ?_
  refine r_nil ?_
  refine w_ret ?_
  refine thenQ_r ?_
  cases hF
  exact eR
 ·
  refine w_skip ?_
  refine thenQ_n ?_
  refine w_seq ?_
  refine ws 384 448 ?_
  refine qp (AI 0) rfl ?_
  refine r_nil ?_
  refine w_block ?_
  refine wr (l' := [(0, AL 1 (v0.map (eL 1 (V.int .i64)))), (1, AL 1 (v1.map (eL 1 (V.int .i64)))), (5, AI 0)]) (L := []) [0, 1, 5] [] 1 ?_
  refine w_loopF (F_laws_eqInt64SS_l0 v0 v1) (fun s : Int => mkS [(0, AL 1 (v0.map (eL 1 (V.int .i64)))), (1, AL 1 (v1.map (eL 1 (V.int .i64)))), (5, AI s)] (fo []) 1) hF ?_
  rintro k0 v9 hF
  rw [F_laws_eqInt64SS_l0] at hF
  try dsimp only
  refine w_seq ?_
  refine ws 1 257 ?_
  refine qp (AI v9) rfl (qp (AL 1 (v0.map (eL 1 (V.int .i64)))) rfl (qp (AI (v0.length : Int)) (ev_len_n rfl) (qp (AB (decide (v9 < (v0.length : Int)))) rfl ?_)))
  refine r_nil ?_
  refine cF hF (fun hF => ?_) fun hF => ?_
  ·
   refine w_skip ?_
   refine thenQ_n ?_
   refine w_seq ?_
   refine w_block ?_
   refine ws 257 897 ?_
   refine qp (AL 1 (v0.map (eL 1 (V.int .i64)))) rfl (qp (AI v9) rfl ?_)
   obtain ⟨v1000, e1000, hF⟩ := bind_get hF
   refine qp (.val none (.ptr [.sl 1 (v1000.map (V.int .i64))])) (ev_iad_n rfl rfl e1000 rfl) (qp (AL 1 (v1000.map (V.int .i64))) rfl (qp (AL 1 (v1.map (eL 1 (V.int .i64)))) rfl (qp (AI v9) rfl ?_)))
   obtain ⟨v1001, e1001, hF⟩ := bind_get hF
   refine qp (.val none (.ptr [.sl 1 (v1001.map (V.int .i64))])) (ev_iad_n rfl rfl e1001 rfl) (qp (AL 1 (v1001.map (V.int .i64))) rfl ?_)
   obtain ⟨v1002, e1002, hF⟩ := bind_get hF
   refine qc (AB v1002) [] false (con_laws_eqInt64S e1002) c163_ok (by first | rfl | simp) rfl ?_
   refine qp (AB (!v1002)) rfl ?_
   refine r_nil ?_
   refine cF hF (fun hF => ?_) fun hF => ?_
   ·
    refine ws 897 961 ?_
    refine qp (AB false) rfl ?_
    refine r_nil ?_
    refine w_ret ?_
    refine blockQ_r ?_
    refine thenQ_r ?_
    refine thenQ_r ?_
    refine blockQ_r ?_
    refine thenQ_r ?_
    cases hF
    exact eR
   ·
    refine w_skip ?_
    refine blockQ_n ?_
    refine thenQ_n ?_
    refine w_reg 897 1089 rfl rfl ?_
    refine qp (AI v9) rfl (qp (AI (w64 (v9 + 1))) rfl (qp (AI (w64 (v9 + 1))) rfl ?_))
    refine r_nil ?_
    refine thenQ_n ?_
    refine ar (l' := [(0, AL 1 (v0.map (eL 1 (V.int .i64)))), (1, AL 1 (v1.map (eL 1 (V.int .i64)))), (5, AI (w64 (v9 + 1)))]) (L := []) [0, 1, 5] [] 1 ⟨_, by rfl, hF⟩
  ·
   refine w_exit ?_
   refine thenQ_e ?_
   refine thenQ_e ?_
   refine blockQ_e ?_
   refine thenQ_n ?_
   refine ws 257 321 ?_
   refine qp (AB true) rfl ?_
   refine r_nil ?_
   refine w_ret ?_
   cases hF
   exact eR

end Go.Ab
