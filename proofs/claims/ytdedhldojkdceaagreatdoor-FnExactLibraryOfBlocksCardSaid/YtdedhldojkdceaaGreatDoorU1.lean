/- Walks (printed by auto.py, a program of this session's own). -/
import Derived.Test.YtdedhldojkdceaaGreatDoorU0
import Derived.Test.YtdedhldojkdceaaGreatDoorProg
import Derived.KernelRfl
import Derived.Test.YtdedhldojkdceaaGreatDoorSQ
set_option linter.unusedVariables false
set_option linter.unusedSimpArgs false
set_option maxRecDepth 8000
set_option maxHeartbeats 8000000
namespace Go.Ab
open Go.RowKit Go.Proofs

def c188 : MC := (.seq (.reg [pT 2 (.mv cf)]) (.seq (.reg [mvt 3 0, rg 4 (.call true 137 [t3, (ci 0), (ci 11)]), mvt 2 4]) .ret))
theorem c188_is : compFn Tryz.prog 188 = some (c188, [(.tmp 2)]) := by kernel_rfl
theorem c188_ok : okFn Tryz.prog 188 = true := by kernel_rfl

noncomputable def F_impl_toneOk (v0 : Int) : Option (Bool) :=
 ((F_impl_within v0 0 11).bind fun v1000 => some v1000)
@[simp] def res_impl_toneOk (r : Bool) : RV := .one (.one (.val (.bool r)))
theorem con_impl_toneOk {v0 : Int} {r : Bool} (hF : F_impl_toneOk v0 = some r) : Con Tryz.prog 188 [.int .i64 v0] (res_impl_toneOk r) := by
 unfold F_impl_toneOk at hF
 refine con_of c188_is fun N => ?_
 refine ws 0 64 ?_
 refine qp (AB false) rfl ?_
 refine r_nil ?_
 refine ws 64 256 ?_
 refine qp (AI v0) rfl ?_
 obtain ⟨v1000, e1000, hF⟩ := bind_get hF
 refine qc (AB v1000) [] false (con_impl_within e1000) c137_ok (by first | rfl | simp) rfl ?_
 refine qp (AB v1000) rfl ?_
 exact rR hF

def c153 : MC := (.seq (.reg [pT 2 (.mv (.c (.str [])))]) (.seq (.seq (.reg [mvt 3 0, rg 4 (.call true 188 [t3]), pT 5 (.not t4)]) (.cond t5 (.seq (.reg [pT 2 (.mv (.c (.str [])))]) .ret) .skip)) (.seq (.reg [mvt 6 0, mvt 7 0, pT 8 (.bin .add t7 (ci 1)), pT 9 (.slcs (.c (.str [83, 114, 82, 103, 71, 109, 77, 80, 100, 68, 110, 78])) (some t6) (some t8)), mvt 2 9]) .ret)))
theorem c153_is : compFn Tryz.prog 153 = some (c153, [(.tmp 2)]) := by kernel_rfl
theorem c153_ok : okFn Tryz.prog 153 = true := by kernel_rfl

noncomputable def F_impl_ToneName (v0 : Int) : Option (List UInt8) :=
 ((F_impl_toneOk v0).bind fun v1000 => (bif (!v1000) then some []
 else (need (0 ≤ v0 ∧ v0 ≤ w64 (v0 + 1) ∧ w64 (v0 + 1) ≤ ([83, 114, 82, 103, 71, 109, 77, 80, 100, 68, 110, 78].length : Int)) (some (sub [83, 114, 82, 103, 71, 109, 77, 80, 100, 68, 110, 78] v0 (w64 (v0 + 1)))))))
@[simp] def res_impl_ToneName (r : List UInt8) : RV := .one (.one (.val (.str r)))
theorem con_impl_ToneName {v0 : Int} {r : List UInt8} (hF : F_impl_ToneName v0 = some r) : Con Tryz.prog 153 [.int .i64 v0] (res_impl_ToneName r) := by
 unfold F_impl_ToneName at hF
 refine con_of c153_is fun N => ?_
 refine ws 0 64 ?_
 refine qp (AS []) rfl ?_
 refine r_nil ?_
 refine w_seq ?_
 refine ws 64 256 ?_
 refine qp (AI v0) rfl ?_
 obtain ⟨v1000, e1000, hF⟩ := bind_get hF
 refine qc (AB v1000) [] false (con_impl_toneOk e1000) c188_ok (by first | rfl | simp) rfl ?_
 refine qp (AB (!v1000)) rfl ?_
 refine r_nil ?_
 refine cF hF (fun hF => ?_) fun hF => ?_
 ·
  refine ws 256 320 ?_
  refine qp (AS []) rfl ?_
  refine r_nil ?_
  refine w_ret ?_
  refine thenQ_r ?_
  cases hF
  exact eR
 ·
  refine w_skip ?_
  refine thenQ_n ?_
  refine ws 256 576 ?_
  refine qp (AI v0) rfl (qp (AI v0) rfl (qp (AI (w64 (v0 + 1))) rfl ?_))
  obtain ⟨g1001, hF⟩ := need_some hF
  refine qp (AS (sub [83, 114, 82, 103, 71, 109, 77, 80, 100, 68, 110, 78] v0 (w64 (v0 + 1)))) (ev_slcs rfl (bnd_some rfl g1001.1) (bnd_some rfl (Int.le_trans g1001.1 g1001.2.1)) g1001) (qp (AS (sub [83, 114, 82, 103, 71, 109, 77, 80, 100, 68, 110, 78] v0 (w64 (v0 + 1)))) rfl ?_)
  exact rR hF

def c154 : MC := (.seq (.reg [pT 2 (.mv (ci 0))]) (.seq (.reg [mvt 3 0, mvt 4 0, rg 5 (.call true 132 [t4]), pT 6 (.bin .sub t3 t5), pT 7 (.bin .quo t6 (ci 12)), mvt 2 7]) .ret))
theorem c154_is : compFn Tryz.prog 154 = some (c154, [(.tmp 2)]) := by kernel_rfl
theorem c154_ok : okFn Tryz.prog 154 = true := by kernel_rfl

noncomputable def F_impl_octaveOf (v0 : Int) : Option (Int) :=
 ((F_impl_ToneOf v0).bind fun v1000 => some (w64 (Int.tdiv (w64 (v0 - v1000)) 12)))
@[simp] def res_impl_octaveOf (r : Int) : RV := .one (.one (.val (.int .i64 r)))
theorem con_impl_octaveOf {v0 : Int} {r : Int} (hF : F_impl_octaveOf v0 = some r) : Con Tryz.prog 154 [.int .i64 v0] (res_impl_octaveOf r) := by
 unfold F_impl_octaveOf at hF
 refine con_of c154_is fun N => ?_
 refine ws 0 64 ?_
 refine qp (AI 0) rfl ?_
 refine r_nil ?_
 refine ws 64 448 ?_
 refine qp (AI v0) rfl (qp (AI v0) rfl ?_)
 obtain ⟨v1000, e1000, hF⟩ := bind_get hF
 refine qc (AI v1000) [] false (con_impl_ToneOf e1000) c132_ok (by first | rfl | simp) rfl ?_
 refine qp (AI (w64 (v0 - v1000))) rfl (qp (AI (w64 (Int.tdiv (w64 (v0 - v1000)) 12))) (ev_quo rfl rfl (by decide)) (qp (AI (w64 (Int.tdiv (w64 (v0 - v1000)) 12))) rfl ?_))
 exact rR hF

def c104 : MC := (.seq (.reg [pT 2 (.mv (.c (.str [])))]) (.seq (.reg [mvt 3 0, rg 4 (.call true 132 [t3]), rg 5 (.call true 153 [t4]), rg 6 (.f (.bld [((.str []), (0, true)), ((.str []), (0, true)), ((.str []), (0, true))] [(0, (1, (.c (.str [44])))), (1, (1, (.c (.str [])))), (2, (1, (.c (.str [39]))))])), mvt 7 0, rg 8 (.call true 154 [t7]), pT 9 (.bin .add t8 (ci 1)), pT 10 (.ixa t6 t9 3 1 false), pT 11 (.bin .add t5 t10), mvt 2 11]) .ret))
theorem c104_is : compFn Tryz.prog 104 = some (c104, [(.tmp 2)]) := by kernel_rfl
theorem c104_ok : okFn Tryz.prog 104 = true := by kernel_rfl

noncomputable def F_impl_pitchText (v0 : Int) : Option (List UInt8) :=
 ((F_impl_ToneOf v0).bind fun v1000 => ((F_impl_ToneName v1000).bind fun v1001 => ((F_impl_octaveOf v0).bind fun v1002 => ((ix [[44], [], [39]] (w64 (v1002 + 1))).bind fun v1003 => (need (v1001.length + v1003.length < 9223372036854775808) (some (v1001 ++ v1003)))))))
@[simp] def res_impl_pitchText (r : List UInt8) : RV := .one (.one (.val (.str r)))
theorem con_impl_pitchText {v0 : Int} {r : List UInt8} (hF : F_impl_pitchText v0 = some r) : Con Tryz.prog 104 [.int .i64 v0] (res_impl_pitchText r) := by
 unfold F_impl_pitchText at hF
 refine con_of c104_is fun N => ?_
 refine ws 0 64 ?_
 refine qp (AS []) rfl ?_
 refine r_nil ?_
 refine ws 64 704 ?_
 refine qp (AI v0) rfl ?_
 obtain ⟨v1000, e1000, hF⟩ := bind_get hF
 refine qc (AI v1000) [] false (con_impl_ToneOf e1000) c132_ok (by first | rfl | simp) rfl ?_
 obtain ⟨v1001, e1001, hF⟩ := bind_get hF
 refine qc (AS v1001) [] false (con_impl_ToneName e1001) c153_ok (by first | rfl | simp) rfl ?_
 refine qf (.agg [AS [44], AS [], AS [39]]) [] (by simp) ?_
 refine qp (AI v0) rfl ?_
 obtain ⟨v1002, e1002, hF⟩ := bind_get hF
 refine qc (AI v1002) [] false (con_impl_octaveOf e1002) c154_ok (by first | rfl | simp) rfl ?_
 refine qp (AI (w64 (v1002 + 1))) rfl ?_
 obtain ⟨v1003, e1003, hF⟩ := bind_get hF
 refine qp (AS v1003) (ev_ixa_a (f := AS) rfl rfl rfl e1003) ?_
 obtain ⟨g1004, hF⟩ := need_some hF
 refine qp (AS (v1001 ++ v1003)) (ev_add_s rfl rfl g1004) (qp (AS (v1001 ++ v1003)) rfl ?_)
 exact rR hF

def c103 : MC := (.seq (.reg [pT 3 (.mv cf)]) (.seq (.reg [mP 4 t0, rg 5 (.call false 104 [t4]), pF 6 (.ld t1 1 false), pF 7 (.bin .eql t5 t6), mP 3 t7]) .ret))
theorem c103_is : compFn Tryz.prog 103 = some (c103, [(.tmp 3)]) := by kernel_rfl
theorem c103_ok : okFn Tryz.prog 103 = true := by kernel_rfl

noncomputable def F_impl_pitchNamed_1 (v0 : Int) (v1 : List UInt8) : Option (Bool) :=
 ((F_impl_pitchText v0).bind fun v1000 => some (decide (v1000 = v1)))
@[simp] def res_impl_pitchNamed_1 (r : Bool) : RV := .one (.one (.val (.bool r)))
theorem con_impl_pitchNamed_1 {v0 : Int} {v1 : List UInt8} {r : Bool} (hF : F_impl_pitchNamed_1 v0 v1 = some r) : Con Tryz.prog 103 [.int .i64 v0, .ptr [.str v1]] (res_impl_pitchNamed_1 r) := by
 unfold F_impl_pitchNamed_1 at hF
 refine con_of c103_is fun N => ?_
 refine ws 0 64 ?_
 refine qp (AB false) rfl ?_
 refine r_nil ?_
 refine ws 64 384 ?_
 refine qp (AI v0) rfl ?_
 obtain ⟨v1000, e1000, hF⟩ := bind_get hF
 refine qc (AS v1000) [] false (con_impl_pitchText e1000) c104_ok (by first | rfl | simp) rfl ?_
 refine qp (AS v1) rfl (qp (AB (decide (v1000 = v1))) rfl (qp (AB (decide (v1000 = v1))) rfl ?_))
 exact rR hF

def c102 : MC := (.seq (.reg [pT 6 (.mv (ci 0)), pT 7 (.mv cf)]) (.seq (.seq (.reg [mvt 9 0, mvt 8 9]) (.block 0 (.loop (.seq (.seq (.reg [mvt 10 8, mvt 11 1, pT 12 (.bin .leq t10 t11)]) (.cond t12 .skip (.exit 0))) (.seq (.block 1 (.seq (.reg [mvt 15 2, mvt 16 8, rg 17 (.callv t15 [t16])]) (.cond t17 (.seq (.reg [mvt 18 8, mvt 6 18, pT 7 (.mv ct)]) .ret) .skip))) (.reg [mvt 13 8, pT 14 (.bin .add t13 (ci 1)), mvt 8 14])))))) (.seq (.reg [pT 6 (.mv (ci 0)), pT 7 (.mv cf)]) .ret)))
theorem c102_is : compFn Tryz.prog 102 = some (c102, [(.tmp 6), (.tmp 7)]) := by kernel_rfl
theorem c102_ok : okFn Tryz.prog 102 = true := by kernel_rfl

noncomputable def F_impl_least_l0 (v1 : Int) (v2 : List UInt8) (k0 : Int → Option (Int × Bool)) : Int → Option (Int × Bool)
 | v50001 => (bif (decide (v50001 ≤ v1)) then ((F_impl_pitchNamed_1 v50001 v2).bind fun v1000 => (bif v1000 then some (v50001, true)
 else k0 (w64 (v50001 + 1))))
 else some (0, false))
noncomputable def F_impl_least (v0 : Int) (v1 : Int) (v2 : List UInt8) : Option (Int × Bool) :=
 loop (F_impl_least_l0 v1 v2) v0
@[simp] def res_impl_least (r : Int × Bool) : RV := .tup [.one (.val (.int .i64 r.1)), .one (.val (.bool r.2))]
theorem con_impl_least {v0 : Int} {v1 : Int} {v2 : List UInt8} {r : Int × Bool} (hF : F_impl_least v0 v1 v2 = some r) : Con Tryz.prog 102 [.int .i64 v0, .int .i64 v1, .fn 103 [.ptr [.str v2]]] (res_impl_least r) := by
 unfold F_impl_least at hF
 refine con_of c102_is fun N => ?_
 refine ws 0 128 ?_
 refine qp (AI 0) rfl (qp (AB false) rfl ?_)
 refine r_nil ?_
 refine w_seq ?_
 refine ws 128 256 ?_
 refine qp (AI v0) rfl (qp (AI v0) rfl ?_)
 refine r_nil ?_
 refine w_block ?_
 refine wr (l' := [(1, AI v1), (2, .val none (.fn 103 [.ptr [.str v2]])), (8, AI v0)]) (L := []) [1, 2, 8] [] 1 ?_
 refine w_loopF (F_impl_least_l0 v1 v2) (fun s : Int => mkS [(1, AI v1), (2, .val none (.fn 103 [.ptr [.str v2]])), (8, AI s)] (fo []) 1) hF ?_
 rintro k0 v50001 hF
 rw [F_impl_least_l0] at hF
 try dsimp only
 refine w_seq ?_
 refine ws 1 193 ?_
 refine qp (AI v50001) rfl (qp (AI v1) rfl (qp (AB (decide (v50001 ≤ v1))) rfl ?_))
 refine r_nil ?_
 refine cF hF (fun hF => ?_) fun hF => ?_
 ·
  refine w_skip ?_
  refine thenQ_n ?_
  refine w_seq ?_
  refine w_block ?_
  refine ws 193 385 ?_
  refine qp (.val none (.fn 103 [.ptr [.str v2]])) rfl (qp (AI v50001) rfl ?_)
  obtain ⟨v1000, e1000, hF⟩ := bind_get hF
  refine qcv (AB v1000) [] false rfl (con_impl_pitchNamed_1 e1000) c103_ok (by first | rfl | simp) rfl ?_
  refine r_nil ?_
  refine cF hF (fun hF => ?_) fun hF => ?_
  ·
   refine ws 385 577 ?_
   refine qp (AI v50001) rfl (qp (AI v50001) rfl (qp (AB true) rfl ?_))
   refine r_nil ?_
   refine w_ret ?_
   refine blockQ_r ?_
   refine thenQ_r ?_
   refine thenQ_r ?_
   refine blockQ_r ?_
   refine thenQ_r ?_
   cases hF
   exact eR
  ·
   refine w_skip ?_
   refine blockQ_n ?_
   refine thenQ_n ?_
   refine w_reg 385 577 rfl rfl ?_
   refine qp (AI v50001) rfl (qp (AI (w64 (v50001 + 1))) rfl (qp (AI (w64 (v50001 + 1))) rfl ?_))
   refine r_nil ?_
   refine thenQ_n ?_
   refine ar (l' := [(1, AI v1), (2, .val none (.fn 103 [.ptr [.str v2]])), (8, AI (w64 (v50001 + 1)))]) (L := []) [1, 2, 8] [] 1 ⟨_, by rfl, hF⟩
 ·
  refine w_exit ?_
  refine thenQ_e ?_
  refine thenQ_e ?_
  refine blockQ_e ?_
  refine thenQ_n ?_
  refine ws 193 321 ?_
  refine qp (AI 0) rfl (qp (AB false) rfl ?_)
  exact rR hF

def c62 : MC := (.seq (.reg [rg 1 (.f (.box t0)), pT 2 (.mv (ci 0)), pT 3 (.mv cf)]) (.seq (.reg [pT 4 (.mkf 103 [t1]), rg 5 (.call true 102 [(ci (-12)), (ci 23), t4]), pT 6 (.ext t5 0), pT 7 (.ext t5 1), mvt 2 6, mvt 3 7]) .ret))
theorem c62_is : compFn Tryz.prog 62 = some (c62, [(.tmp 2), (.tmp 3)]) := by kernel_rfl
theorem c62_ok : okFn Tryz.prog 62 = true := by kernel_rfl

noncomputable def F_impl_pitchNamed (v0 : List UInt8) : Option (Int × Bool) :=
 ((F_impl_least (-12) 23 v0).bind fun v1000 => some (v1000.1, v1000.2))
@[simp] def res_impl_pitchNamed (r : Int × Bool) : RV := .tup [.one (.val (.int .i64 r.1)), .one (.val (.bool r.2))]
theorem con_impl_pitchNamed {v0 : List UInt8} {r : Int × Bool} (hF : F_impl_pitchNamed v0 = some r) : Con Tryz.prog 62 [.str v0] (res_impl_pitchNamed r) := by
 unfold F_impl_pitchNamed at hF
 refine con_of c62_is fun N => ?_
 refine ws 0 192 ?_
 refine qf (.ptr 0 0 0) [(0, .box [AS v0])] (by simp) ?_
 refine qp (AI 0) rfl (qp (AB false) rfl ?_)
 refine r_nil ?_
 refine ws 192 576 ?_
 refine qp (.fn 103 [.ptr 0 0 0]) rfl ?_
 obtain ⟨v1000, e1000, hF⟩ := bind_get hF
 refine qc (.tup [AI v1000.1, AB v1000.2]) [(0, .box [AS v0])] true (con_impl_least e1000) c102_ok (by simp [List.take_of_length_le]) rfl ?_
 refine qp (AI v1000.1) rfl (qp (AB v1000.2) rfl (qp (AI v1000.1) rfl (qp (AB v1000.2) rfl ?_)))
 exact rR hF

theorem c63_ok : okFn Tryz.prog 63 = true := by kernel_rfl




def c136 : MC := (.seq (.reg [pT 2 (.mv cf)]) (.seq (.reg [mvt 3 0, rg 4 (.call true 137 [t3, (ci (-12)), (ci 23)]), mvt 2 4]) .ret))
theorem c136_is : compFn Tryz.prog 136 = some (c136, [(.tmp 2)]) := by kernel_rfl
theorem c136_ok : okFn Tryz.prog 136 = true := by kernel_rfl

noncomputable def F_impl_pitchOk (v0 : Int) : Option (Bool) :=
 ((F_impl_within v0 (-12) 23).bind fun v1000 => some v1000)
@[simp] def res_impl_pitchOk (r : Bool) : RV := .one (.one (.val (.bool r)))
theorem con_impl_pitchOk {v0 : Int} {r : Bool} (hF : F_impl_pitchOk v0 = some r) : Con Tryz.prog 136 [.int .i64 v0] (res_impl_pitchOk r) := by
 unfold F_impl_pitchOk at hF
 refine con_of c136_is fun N => ?_
 refine ws 0 64 ?_
 refine qp (AB false) rfl ?_
 refine r_nil ?_
 refine ws 64 256 ?_
 refine qp (AI v0) rfl ?_
 obtain ⟨v1000, e1000, hF⟩ := bind_get hF
 refine qc (AB v1000) [] false (con_impl_within e1000) c137_ok (by first | rfl | simp) rfl ?_
 refine qp (AB v1000) rfl ?_
 exact rR hF

def c158 : MC := (.seq (.reg [pT 2 (.mv cf)]) (.seq (.reg [mvt 3 0, rg 4 (.call true 137 [t3, (ci 1), (ci 64)]), mvt 2 4]) .ret))
theorem c158_is : compFn Tryz.prog 158 = some (c158, [(.tmp 2)]) := by kernel_rfl
theorem c158_ok : okFn Tryz.prog 158 = true := by kernel_rfl

noncomputable def F_impl_lengthOk (v0 : Int) : Option (Bool) :=
 ((F_impl_within v0 1 64).bind fun v1000 => some v1000)
@[simp] def res_impl_lengthOk (r : Bool) : RV := .one (.one (.val (.bool r)))
theorem con_impl_lengthOk {v0 : Int} {r : Bool} (hF : F_impl_lengthOk v0 = some r) : Con Tryz.prog 158 [.int .i64 v0] (res_impl_lengthOk r) := by
 unfold F_impl_lengthOk at hF
 refine con_of c158_is fun N => ?_
 refine ws 0 64 ?_
 refine qp (AB false) rfl ?_
 refine r_nil ?_
 refine ws 64 256 ?_
 refine qp (AI v0) rfl ?_
 obtain ⟨v1000, e1000, hF⟩ := bind_get hF
 refine qc (AB v1000) [] false (con_impl_within e1000) c137_ok (by first | rfl | simp) rfl ?_
 refine qp (AB v1000) rfl ?_
 exact rR hF

def c107 : MC := (.seq (.reg [pT 2 (.mv cf)]) (.seq (.seq (.reg [mvt 5 0, pT 6 (.len t5), pT 7 (.bin .gtr t6 (ci 48))]) (.cond t7 (.seq (.reg [pT 2 (.mv cf)]) .ret) .skip)) (.seq (.seq (.reg [mvt 8 0, pT 9 (.len t8), pT 10 (.mv (ci 0))]) (.block 0 (.loop (.seq (.reg [pT 11 (.bin .lss t10 t9)]) (.seq (.cond t11 .skip (.exit 0)) (.seq (.block 1 (.seq (.reg [pT 12 (.iad t8 t10 2), pT 13 (.ld t12 2 true), rg 4 (.f (.alloc [((.int .i64 0), (0, false)), ((.int .i64 0), (0, false))])), ⟨none, none, (.f (.st t4 t13 2))⟩]) (.seq (.reg [pT 14 (.fad t4 0), pT 15 (.ld t14 1 false), rg 16 (.call true 136 [t15]), pT 17 (.not t16), mvt 18 17, kF 19 18 (.fad t4 1), kF 20 18 (.ld t19 1 false), ⟨(some 21), (some (18, false)), (.call true 158 [t20])⟩, kF 22 18 (.not t21), pT 23 (.pick t18 ct t22)]) (.cond t23 (.seq (.reg [pT 2 (.mv cf)]) .ret) .skip)))) (.reg [pT 24 (.bin .add t10 (ci 1)), mvt 10 24]))))))) (.seq (.reg [pT 2 (.mv ct)]) .ret))))
theorem c107_is : compFn Tryz.prog 107 = some (c107, [(.tmp 2)]) := by kernel_rfl
theorem c107_ok : okFn Tryz.prog 107 = true := by kernel_rfl

noncomputable def F_impl_ValidMelody_l0 (v0 : List TNote) (k0 : Int → Option (Bool)) : Int → Option (Bool)
 | v50001 => (bif (decide (v50001 < (v0.length : Int))) then ((ix v0 v50001).bind fun v1000 => ((F_impl_pitchOk v1000.1).bind fun v1001 => (bif (!v1001) then some false
 else ((F_impl_lengthOk v1000.2).bind fun v1002 => (bif (!v1002) then some false
 else k0 (w64 (v50001 + 1)))))))
 else some true)
noncomputable def F_impl_ValidMelody (v0 : List TNote) : Option (Bool) :=
 (bif (decide ((48 : Int) < (v0.length : Int))) then some false
 else loop (F_impl_ValidMelody_l0 v0) 0)
@[simp] abbrev K13 (v1000 : TNote) : List (Nat × Root) := [(193, .box [AI v1000.1, AI v1000.2]), (193, .box [AI 0, AI 0])]
@[simp] def res_impl_ValidMelody (r : Bool) : RV := .one (.one (.val (.bool r)))
theorem con_impl_ValidMelody {v0 : List TNote} {r : Bool} (hF : F_impl_ValidMelody v0 = some r) : Con Tryz.prog 107 [.sl 2 (v0.map eNote)] (res_impl_ValidMelody r) := by
 unfold F_impl_ValidMelody at hF
 refine con_of c107_is fun N => ?_
 refine ws 0 64 ?_
 refine qp (AB false) rfl ?_
 refine r_nil ?_
 refine w_seq ?_
 refine ws 64 256 ?_
 refine qp (AL 2 (v0.map eNote)) rfl (qp (AI (v0.length : Int)) (ev_len_n rfl) (qp (AB (decide ((48 : Int) < (v0.length : Int)))) rfl ?_))
 refine r_nil ?_
 refine cF hF (fun hF => ?_) fun hF => ?_
 ·
  refine ws 256 320 ?_
  refine qp (AB false) rfl ?_
  refine r_nil ?_
  refine w_ret ?_
  refine thenQ_r ?_
  cases hF
  exact eR
 ·
  refine w_skip ?_
  refine thenQ_n ?_
  refine w_seq ?_
  refine ws 256 448 ?_
  refine qp (AL 2 (v0.map eNote)) rfl (qp (AI (v0.length : Int)) (ev_len_n rfl) (qp (AI 0) rfl ?_))
  refine r_nil ?_
  refine w_block ?_
  refine wr (l' := [(8, AL 2 (v0.map eNote)), (9, AI (v0.length : Int)), (10, AI 0)]) (L := []) [8, 9, 10] [] 1 ?_
  refine w_loopF (F_impl_ValidMelody_l0 v0) (fun s : Int => mkS [(8, AL 2 (v0.map eNote)), (9, AI (v0.length : Int)), (10, AI s)] (fo []) 1) hF ?_
  rintro k0 v50001 hF
  rw [F_impl_ValidMelody_l0] at hF
  try dsimp only
  refine ws 1 65 ?_
  refine qp (AB (decide (v50001 < (v0.length : Int)))) rfl ?_
  refine r_nil ?_
  refine w_seq ?_
  refine cF hF (fun hF => ?_) fun hF => ?_
  ·
   refine w_skip ?_
   refine thenQ_n ?_
   refine w_seq ?_
   refine w_block ?_
   refine ws 65 321 ?_
   obtain ⟨v1000, e1000, hF⟩ := bind_get hF
   refine qp (.val none (.ptr [.int .i64 v1000.1, .int .i64 v1000.2])) (ev_iad_n rfl rfl e1000 rfl) (qp (.val none (eNote v1000)) rfl ?_)
   refine qf (.ptr 193 0 0) [(193, .box [AI 0, AI 0])] (by simp) ?_
   refine qf0 (.undef) (K13 v1000) (by simp) ?_
   refine r_nil ?_
   refine ws 321 961 ?_
   refine qp (.ptr 193 0 0) rfl (qp (AI v1000.1) rfl ?_)
   obtain ⟨v1001, e1001, hF⟩ := bind_get hF
   refine qc (AB v1001) (K13 v1000) false (con_impl_pitchOk e1001) c136_ok (by first | rfl | simp) rfl ?_
   refine qp (AB (!v1001)) rfl (qp (AB (!v1001)) rfl ?_)
   refine q_case 18 hF rfl (fun hF => ?_) (fun hF => ?_)
   ·
    refine qn4 (qp (AB true) rfl ?_)
    refine r_nil ?_
    refine w_true rfl ?_
    refine ws 961 1025 ?_
    refine qp (AB false) rfl ?_
    refine r_nil ?_
    refine w_ret ?_
    refine blockQ_r ?_
    refine thenQ_r ?_
    refine thenQ_r ?_
    refine blockQ_r ?_
    refine thenQ_r ?_
    cases hF
    exact eR
   ·
    refine qg (.ptr 193 0 1) rfl rfl (qg (AI v1000.2) rfl rfl ?_)
    obtain ⟨v1002, e1002, hF⟩ := bind_get hF
    refine qcg (AB v1002) (K13 v1000) false rfl (con_impl_lengthOk e1002) c158_ok (by first | rfl | simp) rfl ?_
    refine qg (AB (!v1002)) rfl rfl (qp (AB (!v1002)) rfl ?_)
    refine r_nil ?_
    refine cF hF (fun hF => ?_) fun hF => ?_
    ·
     refine ws 961 1025 ?_
     refine qp (AB false) rfl ?_
     refine r_nil ?_
     refine w_ret ?_
     refine blockQ_r ?_
     refine thenQ_r ?_
     refine thenQ_r ?_
     refine blockQ_r ?_
     refine thenQ_r ?_
     cases hF
     exact eR
    ·
     refine w_skip ?_
     refine blockQ_n ?_
     refine thenQ_n ?_
     refine w_reg 961 1089 rfl rfl ?_
     refine qp (AI (w64 (v50001 + 1))) rfl (qp (AI (w64 (v50001 + 1))) rfl ?_)
     refine r_nil ?_
     refine thenQ_n ?_
     refine ar (l' := [(8, AL 2 (v0.map eNote)), (9, AI (v0.length : Int)), (10, AI (w64 (v50001 + 1)))]) (L := []) [8, 9, 10] [] 1 ⟨_, by rfl, hF⟩
  ·
   refine w_exit ?_
   refine thenQ_e ?_
   refine thenQ_e ?_
   refine blockQ_e ?_
   refine thenQ_n ?_
   refine ws 65 129 ?_
   refine qp (AB true) rfl ?_
   exact rR hF

theorem c134_ok : okFn Tryz.prog 134 = true := by kernel_rfl




def c79 : MC := (.seq (.reg [pT 2 (.mv (.c (.str [])))]) (.seq (.reg [mvt 3 0, rg 4 (.call true 134 [t3, (ci 10)]), mvt 2 4]) .ret))
theorem c79_is : compFn Tryz.prog 79 = some (c79, [(.tmp 2)]) := by kernel_rfl
theorem c79_ok : okFn Tryz.prog 79 = true := by kernel_rfl

noncomputable def F_impl_Decimal (v0 : Int) : Option (List UInt8) :=
 ((F_formatInt v0 10).bind fun v1000 => some v1000)
@[simp] def res_impl_Decimal (r : List UInt8) : RV := .one (.one (.val (.str r)))
theorem con_impl_Decimal {v0 : Int} {r : List UInt8} (hF : F_impl_Decimal v0 = some r) : Con Tryz.prog 79 [.int .i64 v0] (res_impl_Decimal r) := by
 unfold F_impl_Decimal at hF
 refine con_of c79_is fun N => ?_
 refine ws 0 64 ?_
 refine qp (AS []) rfl ?_
 refine r_nil ?_
 refine ws 64 256 ?_
 refine qp (AI v0) rfl ?_
 obtain ⟨v1000, e1000, hF⟩ := bind_get hF
 refine qc (AS v1000) [] false (con_formatInt e1000) c134_ok (by first | rfl | simp) rfl ?_
 refine qp (AS v1000) rfl ?_
 exact rR hF

theorem c108_ok : okFn Tryz.prog 108 = true := by kernel_rfl




def c64 : MC := (.seq (.reg [pT 2 (.mv (.c (.str [])))]) (.seq (.block 0 (.seq (.reg [mvt 8 0, rg 9 (.call true 107 [t8]), pT 10 (.not t9), mvt 7 10]) (.cond t7 (.seq (.reg [pT 2 (.mv (.c (.str [])))]) .ret) (.seq (.reg [mvt 12 0, pT 13 (.len t12), pT 14 (.bin .eql t13 (ci 0)), mvt 11 14]) (.cond t11 (.seq (.reg [pT 2 (.mv (.c (.str [45])))]) .ret) .skip))))) (.seq (.reg [rg 3 (.f (.nilrow 1))]) (.seq (.seq (.reg [mvt 15 0, pT 16 (.len t15), pT 17 (.mv (ci 0))]) (.block 1 (.loop (.seq (.reg [pT 18 (.bin .lss t17 t16)]) (.seq (.cond t18 .skip (.exit 1)) (.seq (.block 2 (.seq (.reg [pT 19 (.iad t15 t17 2), pT 20 (.ld t19 2 true), rg 5 (.f (.alloc [((.int .i64 0), (0, false)), ((.int .i64 0), (0, false))])), ⟨none, none, (.f (.st t5 t20 2))⟩]) (.seq (.reg [pT 21 (.fad t5 0), pT 22 (.ld t21 1 false), rg 23 (.call true 104 [t22]), mvt 6 23]) (.seq (.seq (.reg [pT 24 (.fad t5 1), pT 25 (.ld t24 1 false), pT 26 (.bin .neq t25 (ci 1))]) (.cond t26 (.reg [mvt 27 6, pT 28 (.fad t5 1), pT 29 (.ld t28 1 false), rg 30 (.call true 79 [t29]), pT 31 (.bin .add t27 t30), mvt 6 31]) .skip)) (.reg [mvt 32 3, mvt 33 6, rg 34 (.f (.bsl 1 [t33])), rg 35 (.f (.app t32 t34 1 16 true)), mvt 3 35]))))) (.reg [pT 36 (.bin .add t17 (ci 1)), mvt 17 36]))))))) (.seq (.reg [mvt 37 3, rg 38 (.call true 108 [t37, (.c (.str [32]))]), mvt 2 38]) .ret)))))
theorem c64_is : compFn Tryz.prog 64 = some (c64, [(.tmp 2)]) := by kernel_rfl
theorem c64_ok : okFn Tryz.prog 64 = true := by kernel_rfl

noncomputable def F_impl_MelodyText_l0 (v0 : List TNote) (k1 : Int × (List (List UInt8)) → Option (List UInt8)) : Int × (List (List UInt8)) → Option (List UInt8)
 | (v50006, v50007) => (bif (decide (v50006 < (v0.length : Int))) then ((ix v0 v50006).bind fun v1013 => ((F_impl_pitchText v1013.1).bind fun v1014 => (bif (decide (v1013.2 ≠ (1 : Int))) then ((F_impl_Decimal v1013.2).bind fun v1015 => (need (v1014.length + v1015.length < 9223372036854775808) ((need (room (v50007.length + [v1014 ++ v1015].length) 16) (k1 (w64 (v50006 + 1), v50007 ++ [v1014 ++ v1015]))))))
 else (need (room (v50007.length + [v1014].length) 16) (k1 (w64 (v50006 + 1), v50007 ++ [v1014]))))))
 else ((F_join v50007 [32]).bind fun v1019 => some v1019))
noncomputable def F_impl_MelodyText (v0 : List TNote) : Option (List UInt8) :=
 ((F_impl_ValidMelody v0).bind fun v1000 => (bif (!v1000) then some []
 else (bif (decide ((v0.length : Int) = (0 : Int))) then some [45]
 else loop (F_impl_MelodyText_l0 v0) (0, []))))
@[simp] abbrev K14 (v50007 : List (List UInt8)) : List (Nat × Root) := [(193, .box [AI 0, AI 0]), (0, .row true 1 (v50007.map V.str))]
@[simp] abbrev K15 (v1013 : TNote) (v50007 : List (List UInt8)) : List (Nat × Root) := ((193, .box [AI v1013.1, AI v1013.2]) :: (K14 v50007))
@[simp] abbrev K16 (v1014 : List UInt8) (v1015 : List UInt8) (v1013 : TNote) (v50007 : List (List UInt8)) : List (Nat × Root) := ((1281, .row true 1 ([v1014 ++ v1015].map V.str)) :: (K15 v1013 v50007))
@[simp] abbrev K17 (v1014 : List UInt8) (v1013 : TNote) (v50007 : List (List UInt8)) : List (Nat × Root) := ((897, .row true 1 ([v1014].map V.str)) :: (K15 v1013 v50007))
@[simp] def res_impl_MelodyText (r : List UInt8) : RV := .one (.one (.val (.str r)))
theorem con_impl_MelodyText {v0 : List TNote} {r : List UInt8} (hF : F_impl_MelodyText v0 = some r) : Con Tryz.prog 64 [.sl 2 (v0.map eNote)] (res_impl_MelodyText r) := by
 unfold F_impl_MelodyText at hF
 refine con_of c64_is fun N => ?_
 refine ws 0 64 ?_
 refine qp (AS []) rfl ?_
 refine r_nil ?_
 refine w_seq ?_
 refine w_block ?_
 refine ws 64 320 ?_
 refine qp (AL 2 (v0.map eNote)) rfl ?_
 obtain ⟨v1000, e1000, hF⟩ := bind_get hF
 refine qc (AB v1000) [] false (con_impl_ValidMelody e1000) c107_ok (by first | rfl | simp) rfl ?_
 refine qp (AB (!v1000)) rfl (qp (AB (!v1000)) rfl ?_)
 refine r_nil ?_
 refine cF hF (fun hF => ?_) fun hF => ?_
 ·
  refine ws 320 384 ?_
  refine qp (AS []) rfl ?_
  refine r_nil ?_
  refine w_ret ?_
  refine blockQ_r ?_
  refine thenQ_r ?_
  cases hF
  exact eR
 ·
  refine ws 320 576 ?_
  refine qp (AL 2 (v0.map eNote)) rfl (qp (AI (v0.length : Int)) (ev_len_n rfl) (qp (AB (decide ((v0.length : Int) = (0 : Int)))) rfl (qp (AB (decide ((v0.length : Int) = (0 : Int)))) rfl ?_)))
  refine r_nil ?_
  refine cF hF (fun hF => ?_) fun hF => ?_
  ·
   refine ws 576 640 ?_
   refine qp (AS [45]) rfl ?_
   refine r_nil ?_
   refine w_ret ?_
   refine blockQ_r ?_
   refine thenQ_r ?_
   cases hF
   exact eR
  ·
   refine w_skip ?_
   refine blockQ_n ?_
   refine thenQ_n ?_
   refine ws 576 640 ?_
   refine qf (.sl 576 0 0) [(576, .row true 1 (([] : List (List UInt8)).map V.str))] (by simp) ?_
   refine r_nil ?_
   refine w_seq ?_
   refine ws 640 832 ?_
   refine qp (AL 2 (v0.map eNote)) rfl (qp (AI (v0.length : Int)) (ev_len_n rfl) (qp (AI 0) rfl ?_))
   refine r_nil ?_
   refine w_block ?_
   refine wr (l' := [(3, .sl 0 0 0), (15, AL 2 (v0.map eNote)), (16, AI (v0.length : Int)), (17, AI 0)]) (L := [(0, .row true 1 (([] : List (List UInt8)).map V.str))]) [3, 15, 16, 17] [(576, 0)] 1 ?_
   refine w_loopF (F_impl_MelodyText_l0 v0) (fun s : Int × (List (List UInt8)) => mkS [(3, .sl 0 0 s.2.length), (15, AL 2 (v0.map eNote)), (16, AI (v0.length : Int)), (17, AI s.1)] (fo [(0, .row true 1 (s.2.map V.str))]) 1) hF ?_
   rintro k1 ⟨v50006, v50007⟩ hF
   rw [F_impl_MelodyText_l0] at hF
   try dsimp only
   refine ws 1 65 ?_
   refine qp (AB (decide (v50006 < (v0.length : Int)))) rfl ?_
   refine r_nil ?_
   refine w_seq ?_
   refine cF hF (fun hF => ?_) fun hF => ?_
   ·
    refine w_skip ?_
    refine thenQ_n ?_
    refine w_seq ?_
    refine w_block ?_
    refine ws 65 321 ?_
    obtain ⟨v1013, e1013, hF⟩ := bind_get hF
    refine qp (.val none (.ptr [.int .i64 v1013.1, .int .i64 v1013.2])) (ev_iad_n rfl rfl e1013 rfl) (qp (.val none (eNote v1013)) rfl ?_)
    refine qf (.ptr 193 0 0) (K14 v50007) (by simp) ?_
    refine qf0 (.undef) (K15 v1013 v50007) (by simp) ?_
    refine r_nil ?_
    refine ws 321 577 ?_
    refine qp (.ptr 193 0 0) rfl (qp (AI v1013.1) rfl ?_)
    obtain ⟨v1014, e1014, hF⟩ := bind_get hF
    refine qc (AS v1014) (K15 v1013 v50007) false (con_impl_pitchText e1014) c104_ok (by first | rfl | simp) rfl ?_
    refine qp (AS v1014) rfl ?_
    refine r_nil ?_
    refine w_seq ?_
    refine ws 577 769 ?_
    refine qp (.ptr 193 0 1) rfl (qp (AI v1013.2) rfl (qp (AB (decide (v1013.2 ≠ (1 : Int)))) rfl ?_))
    refine r_nil ?_
    refine cF hF (fun hF => ?_) fun hF => ?_
    ·
     refine w_reg 769 1153 rfl rfl ?_
     refine qp (AS v1014) rfl (qp (.ptr 193 0 1) rfl (qp (AI v1013.2) rfl ?_))
     obtain ⟨v1015, e1015, hF⟩ := bind_get hF
     refine qc (AS v1015) (K15 v1013 v50007) false (con_impl_Decimal e1015) c79_ok (by first | rfl | simp) rfl ?_
     obtain ⟨g1016, hF⟩ := need_some hF
     refine qp (AS (v1014 ++ v1015)) (ev_add_s rfl rfl g1016) (qp (AS (v1014 ++ v1015)) rfl ?_)
     refine r_nil ?_
     refine thenQ_n ?_
     refine w_reg 1153 1473 rfl rfl ?_
     refine qp (.sl 0 0 v50007.length) rfl (qp (AS (v1014 ++ v1015)) rfl ?_)
     refine qf (.sl 1281 0 ([v1014 ++ v1015].length)) (K16 v1014 v1015 v1013 v50007) (by simp [List.take_of_length_le]) ?_
     obtain ⟨g1017, hF⟩ := need_some hF
     refine qf (.sl 1345 0 ((v50007 ++ [v1014 ++ v1015]).length)) ((1345, .row true 1 ((v50007 ++ [v1014 ++ v1015]).map V.str)) :: (0, .dead) :: (1281, .dead) :: (K16 v1014 v1015 v1013 v50007)) (effT_app_l rfl (by simp) rfl rfl (by simp) rfl (by decide) g1017 rfl) ?_
     refine qp (.sl 1345 0 ((v50007 ++ [v1014 ++ v1015]).length)) rfl ?_
     refine r_nil ?_
     refine blockQ_n ?_
     refine thenQ_n ?_
     refine w_reg 1473 1601 rfl rfl ?_
     refine qp (AI (w64 (v50006 + 1))) rfl (qp (AI (w64 (v50006 + 1))) rfl ?_)
     refine r_nil ?_
     refine thenQ_n ?_
     refine ar (l' := [(3, .sl 0 0 (v50007 ++ [v1014 ++ v1015]).length), (15, AL 2 (v0.map eNote)), (16, AI (v0.length : Int)), (17, AI (w64 (v50006 + 1)))]) (L := [(0, .row true 1 ((v50007 ++ [v1014 ++ v1015]).map V.str))]) [3, 15, 16, 17] [(1345, 0)] 1 ⟨_, by rfl, hF⟩
    ·
     refine w_skip ?_
     refine thenQ_n ?_
     refine w_reg 769 1089 rfl rfl ?_
     refine qp (.sl 0 0 v50007.length) rfl (qp (AS v1014) rfl ?_)
     refine qf (.sl 897 0 ([v1014].length)) (K17 v1014 v1013 v50007) (by simp [List.take_of_length_le]) ?_
     obtain ⟨g1018, hF⟩ := need_some hF
     refine qf (.sl 961 0 ((v50007 ++ [v1014]).length)) ((961, .row true 1 ((v50007 ++ [v1014]).map V.str)) :: (0, .dead) :: (897, .dead) :: (K17 v1014 v1013 v50007)) (effT_app_l rfl (by simp) rfl rfl (by simp) rfl (by decide) g1018 rfl) ?_
     refine qp (.sl 961 0 ((v50007 ++ [v1014]).length)) rfl ?_
     refine r_nil ?_
     refine blockQ_n ?_
     refine thenQ_n ?_
     refine w_reg 1089 1217 rfl rfl ?_
     refine qp (AI (w64 (v50006 + 1))) rfl (qp (AI (w64 (v50006 + 1))) rfl ?_)
     refine r_nil ?_
     refine thenQ_n ?_
     refine ar (l' := [(3, .sl 0 0 (v50007 ++ [v1014]).length), (15, AL 2 (v0.map eNote)), (16, AI (v0.length : Int)), (17, AI (w64 (v50006 + 1)))]) (L := [(0, .row true 1 ((v50007 ++ [v1014]).map V.str))]) [3, 15, 16, 17] [(961, 0)] 1 ⟨_, by rfl, hF⟩
   ·
    refine w_exit ?_
    refine thenQ_e ?_
    refine thenQ_e ?_
    refine blockQ_e ?_
    refine thenQ_n ?_
    refine ws 65 257 ?_
    refine qp (.sl 0 0 v50007.length) rfl ?_
    obtain ⟨v1019, e1019, hF⟩ := bind_get hF
    refine qc (AS v1019) [(0, .row true 1 (v50007.map V.str))] true (con_join e1019) c108_ok (by simp [List.take_of_length_le]) rfl ?_
    refine qp (AS v1019) rfl ?_
    exact rR hF

def c28 : MC := (.seq (.reg [rg 2 (.f (.nilrow 2)), pT 3 (.mv cf)]) (.seq (.seq (.reg [mvt 11 0, pT 12 (.bin .eql t11 (.c (.str [45])))]) (.cond t12 (.seq (.reg [rg 2 (.f (.nilrow 2)), pT 3 (.mv ct)]) .ret) .skip)) (.seq (.reg [rg 4 (.f (.nilrow 2))]) (.seq (.seq (.reg [mvt 13 0, rg 14 (.call true 60 [t13, (.c (.str [32])), (ci 49)]), pT 15 (.len t14), pT 16 (.mv (ci 0))]) (.block 0 (.loop (.seq (.reg [pT 17 (.bin .lss t16 t15)]) (.seq (.cond t17 .skip (.exit 0)) (.seq (.block 1 (.seq (.reg [pT 18 (.iad t14 t16 1), pT 19 (.ld t18 1 false), mvt 6 19]) (.seq (.reg [mvt 20 6, rg 21 (.call true 61 [t20, (.c (.str [48, 49, 50, 51, 52, 53, 54, 55, 56, 57]))]), mvt 7 21]) (.seq (.reg [mvt 23 7, rg 24 (.call true 62 [t23]), mvt 22 24, pT 25 (.ext t22 0), pT 26 (.ext t22 1), mvt 8 25, mvt 9 26]) (.seq (.reg [pT 10 (.mv (ci 1))]) (.seq (.seq (.reg [mvt 27 7, mvt 28 6, pT 29 (.bin .neq t27 t28)]) (.cond t29 (.reg [mvt 31 6, mvt 32 7, pT 33 (.lens t32), pT 34 (.slcs t31 (some t33) none), rg 35 (.call true 63 [t34]), mvt 30 35, pT 36 (.ext t30 0), pT 37 (.ext t30 1), mvt 10 36]) .skip)) (.seq (.seq (.reg [mvt 38 9, pT 39 (.not t38)]) (.cond t39 (.seq (.reg [rg 2 (.f (.nilrow 2)), pT 3 (.mv cf)]) .ret) .skip)) (.reg [mvt 40 4, mvt 41 8, mvt 42 10, rg 43 (.f (.bld [((.int .i64 0), (0, true)), ((.int .i64 0), (0, true))] [(0, (1, t41)), (1, (1, t42))])), rg 44 (.f (.bsl 2 [t43])), rg 45 (.f (.app t40 t44 2 16 true)), mvt 4 45])))))))) (.reg [pT 46 (.bin .add t16 (ci 1)), mvt 16 46]))))))) (.seq (.seq (.reg [mvt 47 4, rg 48 (.call true 64 [t47]), mvt 49 0, pT 50 (.bin .neq t48 t49)]) (.cond t50 (.seq (.reg [rg 2 (.f (.nilrow 2)), pT 3 (.mv cf)]) .ret) .skip)) (.seq (.reg [mvt 51 4, mvt 2 51, pT 3 (.mv ct)]) .ret))))))
theorem c28_is : compFn Tryz.prog 28 = some (c28, [(.tmp 2), (.tmp 3)]) := by kernel_rfl
theorem c28_ok : okFn Tryz.prog 28 = true := by kernel_rfl

noncomputable def F_impl_ReadMelody_j3 (v1019 : Int × Bool) (v50011 : Int) (v50012 : List TNote) (k1 : Int × (List TNote) → Option ((List TNote) × Bool)) (v50013 : Int) : Option ((List TNote) × Bool) :=
 (bif (!v1019.2) then some ([], false)
 else (need (room (v50012.length + [(v1019.1, v50013)].length) 16) (k1 (w64 (v50011 + 1), v50012 ++ [(v1019.1, v50013)]))))
noncomputable def F_impl_ReadMelody_l2 (v0 : List UInt8) (v1000 : List (List UInt8)) (k1 : Int × (List TNote) → Option ((List TNote) × Bool)) : Int × (List TNote) → Option ((List TNote) × Bool)
 | (v50011, v50012) => (bif (decide (v50011 < (v1000.length : Int))) then ((ix v1000 v50011).bind fun v1017 => ((F_trimRight v1017 [48, 49, 50, 51, 52, 53, 54, 55, 56, 57]).bind fun v1018 => ((F_impl_pitchNamed v1018).bind fun v1019 => (bif (decide (v1018 ≠ v1017)) then (need (0 ≤ (v1018.length : Int) ∧ (v1018.length : Int) ≤ (v1017.length : Int) ∧ (v1017.length : Int) ≤ (v1017.length : Int)) (((F_readDec (sub v1017 (v1018.length : Int) (v1017.length : Int))).bind fun v1023 => F_impl_ReadMelody_j3 v1019 v50011 v50012 k1 v1023.1)))
 else F_impl_ReadMelody_j3 v1019 v50011 v50012 k1 1))))
 else ((F_impl_MelodyText v50012).bind fun v1025 => (bif (decide (v1025 ≠ v0)) then some ([], false)
 else some (v50012, true))))
noncomputable def F_impl_ReadMelody (v0 : List UInt8) : Option ((List TNote) × Bool) :=
 (bif (decide (v0 = [45])) then some ([], true)
 else ((F_splitN v0 [32] 49).bind fun v1000 => loop (F_impl_ReadMelody_l2 v0 v1000) (0, [])))
@[simp] abbrev K18 : List (Nat × Root) := [(0, .row true 2 (([] : List Int).map vI))]
@[simp] abbrev K19 : List (Nat × Root) := ((256, .row true 2 (([] : List TNote).map eNote)) :: K18)
@[simp] abbrev K1a (v1000 : List (List UInt8)) (v50012 : List TNote) : List (Nat × Root) := [(1, .row true 1 (v1000.map V.str)), (0, .row true 2 (v50012.map eNote))]
@[simp] abbrev K1b (v1019 : Int × Bool) (v50013 : Int) (v1000 : List (List UInt8)) (v50012 : List TNote) : List (Nat × Root) := ((386, .row true 2 ([(v1019.1, v50013)].map eNote)) :: (K1a v1000 v50012))
@[simp] def res_impl_ReadMelody (r : (List TNote) × Bool) : RV := .tup [.one (.row true 2 (r.1.map eNote)), .one (.val (.bool r.2))]
theorem con_impl_ReadMelody {v0 : List UInt8} {r : (List TNote) × Bool} (hF : F_impl_ReadMelody v0 = some r) : Con Tryz.prog 28 [.str v0] (res_impl_ReadMelody r) := by
 unfold F_impl_ReadMelody at hF
 refine con_of c28_is fun N => ?_
 refine ws 0 128 ?_
 refine qf (.sl 0 0 0) K18 (by simp) ?_
 refine qp (AB false) rfl ?_
 refine r_nil ?_
 refine w_seq ?_
 refine ws 128 256 ?_
 refine qp (AS v0) rfl (qp (AB (decide (v0 = [45]))) rfl ?_)
 refine r_nil ?_
 refine cF hF (fun hF => ?_) fun hF => ?_
 ·
  refine ws 256 384 ?_
  refine qf (.sl 256 0 0) K19 (by simp) ?_
  refine qp (AB true) rfl ?_
  refine r_nil ?_
  refine w_ret ?_
  refine thenQ_r ?_
  cases hF
  exact eR
 ·
  refine w_skip ?_
  refine thenQ_n ?_
  refine ws 256 320 ?_
  refine qf (.sl 256 0 0) K19 (by simp) ?_
  refine r_nil ?_
  refine w_seq ?_
  refine ws 320 576 ?_
  refine qp (AS v0) rfl ?_
  obtain ⟨v1000, e1000, hF⟩ := bind_get hF
  refine qc (.sl 384 0 v1000.length) ((384, .row true 1 (v1000.map V.str)) :: K19) false (con_splitN e1000) c60_ok (by first | rfl | simp) (by simp [res_splitN]) ?_
  refine qp (AI (v1000.length : Int)) rfl (qp (AI 0) rfl ?_)
  refine r_nil ?_
  refine w_block ?_
  refine wr (l' := [(0, AS v0), (4, .sl 0 0 0), (14, .sl 1 0 v1000.length), (15, AI (v1000.length : Int)), (16, AI 0)]) (L := [(1, .row true 1 (v1000.map V.str)), (0, .row true 2 (([] : List TNote).map eNote))]) [0, 4, 14, 15, 16] [(384, 1), (256, 0)] 2 ?_
  refine w_loopF (F_impl_ReadMelody_l2 v0 v1000) (fun s : Int × (List TNote) => mkS [(0, AS v0), (4, .sl 0 0 s.2.length), (14, .sl 1 0 v1000.length), (15, AI (v1000.length : Int)), (16, AI s.1)] (fo [(1, .row true 1 (v1000.map V.str)), (0, .row true 2 (s.2.map eNote))]) 2) hF ?_
  rintro k1 ⟨v50011, v50012⟩ hF
  rw [F_impl_ReadMelody_l2] at hF
  try dsimp only
  refine ws 2 66 ?_
  refine qp (AB (decide (v50011 < (v1000.length : Int)))) rfl ?_
  refine r_nil ?_
  refine w_seq ?_
  refine cF hF (fun hF => ?_) fun hF => ?_
  ·
   refine w_skip ?_
   refine thenQ_n ?_
   refine w_seq ?_
   refine w_block ?_
   refine ws 66 258 ?_
   obtain ⟨v1017, e1017, hF⟩ := bind_get hF
   refine qp (.ptr 1 v50011.toNat 0) (ev_iad_r rfl (by simp) rfl rfl e1017) (qp (AS v1017) (ev_ld_r rfl rfl (ix_some e1017).2 rfl rfl) (qp (AS v1017) rfl ?_))
   refine r_nil ?_
   refine ws 258 450 ?_
   refine qp (AS v1017) rfl ?_
   obtain ⟨v1018, e1018, hF⟩ := bind_get hF
   refine qc (AS v1018) (K1a v1000 v50012) false (con_trimRight e1018) c61_ok (by first | rfl | simp) rfl ?_
   refine qp (AS v1018) rfl ?_
   refine r_nil ?_
   refine ws 450 898 ?_
   refine qp (AS v1018) rfl ?_
   obtain ⟨v1019, e1019, hF⟩ := bind_get hF
   refine qc (.tup [AI v1019.1, AB v1019.2]) (K1a v1000 v50012) false (con_impl_pitchNamed e1019) c62_ok (by first | rfl | simp) rfl ?_
   refine qp (.tup [AI v1019.1, AB v1019.2]) rfl (qp (AI v1019.1) rfl (qp (AB v1019.2) rfl (qp (AI v1019.1) rfl (qp (AB v1019.2) rfl ?_))))
   refine r_nil ?_
   refine ws 898 962 ?_
   refine qp (AI 1) rfl ?_
   refine r_nil ?_
   refine w_meet (fun s' => ∃ (v50013 : Int), s' = mkS [(0, AS v0), (4, .sl 0 0 v50012.length), (8, AI v1019.1), (9, AB v1019.2), (10, AI v50013), (14, .sl 1 0 v1000.length), (15, AI (v1000.length : Int)), (16, AI v50011)] (fo (K1a v1000 v50012)) 2 ∧ F_impl_ReadMelody_j3 v1019 v50011 v50012 k1 v50013 = some r) ?_ ?_
   ·
    refine ws 962 1154 ?_
    refine qp (AS v1018) rfl (qp (AS v1017) rfl (qp (AB (decide (v1018 ≠ v1017))) rfl ?_))
    refine r_nil ?_
    refine cF hF (fun hF => ?_) fun hF => ?_
    ·
     refine w_reg 1154 1730 rfl rfl ?_
     refine qp (AS v1017) rfl (qp (AS v1018) rfl (qp (AI (v1018.length : Int)) rfl ?_))
     obtain ⟨g1022, hF⟩ := need_some hF
     refine qp (AS (sub v1017 (v1018.length : Int) (v1017.length : Int))) (ev_slcs rfl (bnd_some rfl g1022.1) rfl g1022) ?_
     obtain ⟨v1023, e1023, hF⟩ := bind_get hF
     refine qc (.tup [AI v1023.1, AB v1023.2]) (K1a v1000 v50012) false (con_readDec e1023) c63_ok (by first | rfl | simp) rfl ?_
     refine qp (.tup [AI v1023.1, AB v1023.2]) rfl (qp (AI v1023.1) rfl (qp (AB v1023.2) rfl (qp (AI v1023.1) rfl ?_)))
     refine r_nil ?_
     refine thenQ_n ?_
     refine aw_ren (l' := [(0, AS v0), (4, .sl 0 0 v50012.length), (8, AI v1019.1), (9, AB v1019.2), (10, AI v1023.1), (14, .sl 1 0 v1000.length), (15, AI (v1000.length : Int)), (16, AI v50011)]) (L := (K1a v1000 v50012)) [0, 4, 8, 9, 10, 14, 15, 16] [(1, 1), (0, 0)] 2 (by first | rfl | simp) (by first | rfl | simp) (by decide) (by decide) (by decide) ⟨_, rfl, hF⟩
    ·
     refine w_skip ?_
     refine thenQ_n ?_
     refine aw_ren (l' := [(0, AS v0), (4, .sl 0 0 v50012.length), (8, AI v1019.1), (9, AB v1019.2), (10, AI 1), (14, .sl 1 0 v1000.length), (15, AI (v1000.length : Int)), (16, AI v50011)]) (L := (K1a v1000 v50012)) [0, 4, 8, 9, 10, 14, 15, 16] [(1, 1), (0, 0)] 2 (by first | rfl | simp) (by first | rfl | simp) (by decide) (by decide) (by decide) ⟨_, rfl, hF⟩
   ·
    rintro s' ⟨v50013, rfl, hF⟩
    unfold F_impl_ReadMelody_j3 at hF
    refine w_seq ?_
    refine ws 2 130 ?_
    refine qp (AB v1019.2) rfl (qp (AB (!v1019.2)) rfl ?_)
    refine r_nil ?_
    refine cF hF (fun hF => ?_) fun hF => ?_
    ·
     refine ws 130 258 ?_
     refine qf (.sl 130 0 0) ((130, .row true 2 (([] : List TNote).map eNote)) :: (K1a v1000 v50012)) (by simp) ?_
     refine qp (AB false) rfl ?_
     refine r_nil ?_
     refine w_ret ?_
     refine thenQ_r ?_
     refine blockQ_r ?_
     refine thenQ_r ?_
     refine thenQ_r ?_
     refine blockQ_r ?_
     refine thenQ_r ?_
     cases hF
     exact eR
    ·
     refine w_skip ?_
     refine thenQ_n ?_
     refine w_reg 130 578 rfl rfl ?_
     refine qp (.sl 0 0 v50012.length) rfl (qp (AI v1019.1) rfl (qp (AI v50013) rfl ?_))
     refine qf (.agg [AI v1019.1, AI v50013]) (K1a v1000 v50012) (by simp) ?_
     refine qf (.sl 386 0 ([(v1019.1, v50013)].length)) (K1b v1019 v50013 v1000 v50012) (by simp [List.take_of_length_le]) ?_
     obtain ⟨g1024, hF⟩ := need_some hF
     refine qf (.sl 450 0 ((v50012 ++ [(v1019.1, v50013)]).length)) ((450, .row true 2 ((v50012 ++ [(v1019.1, v50013)]).map eNote)) :: (0, .dead) :: (386, .dead) :: (K1b v1019 v50013 v1000 v50012)) (effT_app_l rfl (by simp) rfl rfl (by simp) rfl (by decide) g1024 rfl) ?_
     refine qp (.sl 450 0 ((v50012 ++ [(v1019.1, v50013)]).length)) rfl ?_
     refine r_nil ?_
     refine blockQ_n ?_
     refine thenQ_n ?_
     refine w_reg 578 706 rfl rfl ?_
     refine qp (AI (w64 (v50011 + 1))) rfl (qp (AI (w64 (v50011 + 1))) rfl ?_)
     refine r_nil ?_
     refine thenQ_n ?_
     refine ar (l' := [(0, AS v0), (4, .sl 0 0 (v50012 ++ [(v1019.1, v50013)]).length), (14, .sl 1 0 v1000.length), (15, AI (v1000.length : Int)), (16, AI (w64 (v50011 + 1)))]) (L := [(1, .row true 1 (v1000.map V.str)), (0, .row true 2 ((v50012 ++ [(v1019.1, v50013)]).map eNote))]) [0, 4, 14, 15, 16] [(1, 1), (450, 0)] 2 ⟨_, by rfl, hF⟩
  ·
   refine w_exit ?_
   refine thenQ_e ?_
   refine thenQ_e ?_
   refine blockQ_e ?_
   refine thenQ_n ?_
   refine w_seq ?_
   refine ws 66 322 ?_
   refine qp (.sl 0 0 v50012.length) rfl ?_
   obtain ⟨v1025, e1025, hF⟩ := bind_get hF
   refine qc (AS v1025) (K1a v1000 v50012) true (con_impl_MelodyText e1025) c64_ok (by simp [List.take_of_length_le]) rfl ?_
   refine qp (AS v0) rfl (qp (AB (decide (v1025 ≠ v0))) rfl ?_)
   refine r_nil ?_
   refine cF hF (fun hF => ?_) fun hF => ?_
   ·
    refine ws 322 450 ?_
    refine qf (.sl 322 0 0) ((322, .row true 2 (([] : List TNote).map eNote)) :: (K1a v1000 v50012)) (by simp) ?_
    refine qp (AB false) rfl ?_
    refine r_nil ?_
    refine w_ret ?_
    refine thenQ_r ?_
    cases hF
    exact eR
   ·
    refine w_skip ?_
    refine thenQ_n ?_
    refine ws 322 514 ?_
    refine qp (.sl 0 0 v50012.length) rfl (qp (.sl 0 0 v50012.length) rfl (qp (AB true) rfl ?_))
    exact rR hF

def c8 : MC := (.seq (.reg [rg 2 (.f (.nilrow 2)), pT 3 (.mv (ci 0))]) (.seq (.seq (.reg [mvt 9 0, rg 10 (.call true 27 [t9]), pT 11 (.not t10)]) (.cond t11 (.seq (.reg [rg 2 (.f (.nilrow 2)), pT 3 (.mv (ci 1))]) .ret) .skip)) (.seq (.reg [rg 4 (.f (.nilrow 2))]) (.seq (.seq (.reg [mvt 12 0, pT 13 (.len t12), pT 14 (.mv (ci 0))]) (.block 0 (.loop (.seq (.reg [pT 15 (.bin .lss t14 t13)]) (.seq (.cond t15 .skip (.exit 0)) (.seq (.block 1 (.seq (.reg [pT 16 (.iad t12 t14 3), pT 17 (.ld t16 3 true), rg 6 (.f (.alloc [((.str []), (0, false)), ((.str []), (0, false)), ((.str []), (0, false))])), ⟨none, none, (.f (.st t6 t17 3))⟩]) (.seq (.seq (.reg [pT 18 (.fad t6 0), pT 19 (.ld t18 1 false), pT 20 (.bin .neq t19 (.c (.str [109, 101, 108, 111, 100, 121])))]) (.cond t20 (.exit 1) .skip)) (.seq (.reg [pT 22 (.fad t6 2), pT 23 (.ld t22 1 false), rg 24 (.call true 28 [t23]), mvt 21 24, pT 25 (.ext t21 0), pT 26 (.ext t21 1), mvt 7 25, mvt 8 26]) (.seq (.seq (.reg [mvt 27 8, pT 28 (.not t27)]) (.cond t28 (.seq (.reg [rg 2 (.f (.nilrow 2)), pT 3 (.mv (ci 9))]) .ret) .skip)) (.reg [mvt 29 4, pT 30 (.fad t6 1), pT 31 (.ld t30 1 false), mvt 32 7, rg 33 (.f (.bld [((.str []), (0, true)), ((.sl 0 []), (2, true))] [(0, (1, t31)), (1, (1, t32))])), rg 34 (.f (.bsl 2 [t33])), rg 35 (.f (.app t29 t34 2 40 true)), mvt 4 35])))))) (.reg [pT 36 (.bin .add t14 (ci 1)), mvt 14 36]))))))) (.seq (.seq (.reg [mvt 37 4, pT 38 (.len t37), pT 39 (.bin .gtr t38 (ci 12))]) (.cond t39 (.seq (.reg [rg 2 (.f (.nilrow 2)), pT 3 (.mv (ci 5))]) .ret) .skip)) (.seq (.reg [mvt 40 4, mvt 2 40, pT 3 (.mv (ci 0))]) .ret))))))
theorem c8_is : compFn Tryz.prog 8 = some (c8, [(.tmp 2), (.tmp 3)]) := by kernel_rfl
theorem c8_ok : okFn Tryz.prog 8 = true := by kernel_rfl

noncomputable def F_impl_LibraryOfBlocks_l0 (v0 : List TBlock) (k1 : Int × (List TNamedMelody) → Option ((List TNamedMelody) × Int)) : Int × (List TNamedMelody) → Option ((List TNamedMelody) × Int)
 | (v50006, v50007) => (bif (decide (v50006 < (v0.length : Int))) then ((ix v0 v50006).bind fun v1007 => (bif (decide (v1007.1 ≠ [109, 101, 108, 111, 100, 121])) then k1 (w64 (v50006 + 1), v50007)
 else ((F_impl_ReadMelody v1007.2.2).bind fun v1008 => (bif (!v1008.2) then some ([], 9)
 else (need (room (v50007.length + [(v1007.2.1, v1008.1)].length) 40) (k1 (w64 (v50006 + 1), v50007 ++ [(v1007.2.1, v1008.1)])))))))
 else (bif (decide ((12 : Int) < (v50007.length : Int))) then some ([], 5)
 else some (v50007, 0)))
noncomputable def F_impl_LibraryOfBlocks (v0 : List TBlock) : Option ((List TNamedMelody) × Int) :=
 ((F_impl_ValidBlocks v0).bind fun v1000 => (bif (!v1000) then some ([], 1)
 else loop (F_impl_LibraryOfBlocks_l0 v0) (0, [])))
@[simp] abbrev K1c : List (Nat × Root) := [(0, .row true 2 (([] : List Int).map vI))]
@[simp] abbrev K1d : List (Nat × Root) := ((320, .row true 2 (([] : List TNamedMelody).map eNamedMelody)) :: K1c)
@[simp] abbrev K1e (v50007 : List TNamedMelody) : List (Nat × Root) := [(193, .box [AS [], AS [], AS []]), (0, .row true 2 (v50007.map eNamedMelody))]
@[simp] abbrev K1f (v1007 : TBlock) (v50007 : List TNamedMelody) : List (Nat × Root) := ((193, .box [AS v1007.1, AS v1007.2.1, AS v1007.2.2]) :: (K1e v50007))
@[simp] abbrev K1g (v1008 : (List TNote) × Bool) (v1007 : TBlock) (v50007 : List TNamedMelody) : List (Nat × Root) := ((641, .row true 2 (v1008.1.map eNote)) :: (K1f v1007 v50007))
@[simp] abbrev K1h (v1007 : TBlock) (v1008 : (List TNote) × Bool) (v50007 : List TNamedMelody) : List (Nat × Root) := ((1473, .row true 2 ([(v1007.2.1, v1008.1)].map eNamedMelody)) :: (641, .dead) :: (K1g v1008 v1007 v50007))
@[simp] def res_impl_LibraryOfBlocks (r : (List TNamedMelody) × Int) : RV := .tup [.one (.row true 2 (r.1.map eNamedMelody)), .one (.val (.int .i64 r.2))]
theorem con_impl_LibraryOfBlocks {v0 : List TBlock} {r : (List TNamedMelody) × Int} (hF : F_impl_LibraryOfBlocks v0 = some r) : Con Tryz.prog 8 [.sl 3 (v0.map eBlock)] (res_impl_LibraryOfBlocks r) := by
 unfold F_impl_LibraryOfBlocks at hF
 refine con_of c8_is fun N => ?_
 refine ws 0 128 ?_
 refine qf (.sl 0 0 0) K1c (by simp) ?_
 refine qp (AI 0) rfl ?_
 refine r_nil ?_
 refine w_seq ?_
 refine ws 128 320 ?_
 refine qp (AL 3 (v0.map eBlock)) rfl ?_
 obtain ⟨v1000, e1000, hF⟩ := bind_get hF
 refine qc (AB v1000) K1c false (con_impl_ValidBlocks e1000) c27_ok (by first | rfl | simp) rfl ?_
 refine qp (AB (!v1000)) rfl ?_
 refine r_nil ?_
 refine cF hF (fun hF => ?_) fun hF => ?_
 ·
  refine ws 320 448 ?_
  refine qf (.sl 320 0 0) K1d (by simp) ?_
  refine qp (AI 1) rfl ?_
  refine r_nil ?_
  refine w_ret ?_
  refine thenQ_r ?_
  cases hF
  exact eR
 ·
  refine w_skip ?_
  refine thenQ_n ?_
  refine ws 320 384 ?_
  refine qf (.sl 320 0 0) K1d (by simp) ?_
  refine r_nil ?_
  refine w_seq ?_
  refine ws 384 576 ?_
  refine qp (AL 3 (v0.map eBlock)) rfl (qp (AI (v0.length : Int)) (ev_len_n rfl) (qp (AI 0) rfl ?_))
  refine r_nil ?_
  refine w_block ?_
  refine wr (l' := [(4, .sl 0 0 0), (12, AL 3 (v0.map eBlock)), (13, AI (v0.length : Int)), (14, AI 0)]) (L := [(0, .row true 2 (([] : List TNamedMelody).map eNamedMelody))]) [4, 12, 13, 14] [(320, 0)] 1 ?_
  refine w_loopF (F_impl_LibraryOfBlocks_l0 v0) (fun s : Int × (List TNamedMelody) => mkS [(4, .sl 0 0 s.2.length), (12, AL 3 (v0.map eBlock)), (13, AI (v0.length : Int)), (14, AI s.1)] (fo [(0, .row true 2 (s.2.map eNamedMelody))]) 1) hF ?_
  rintro k1 ⟨v50006, v50007⟩ hF
  rw [F_impl_LibraryOfBlocks_l0] at hF
  try dsimp only
  refine ws 1 65 ?_
  refine qp (AB (decide (v50006 < (v0.length : Int)))) rfl ?_
  refine r_nil ?_
  refine w_seq ?_
  refine cF hF (fun hF => ?_) fun hF => ?_
  ·
   refine w_skip ?_
   refine thenQ_n ?_
   refine w_seq ?_
   refine w_block ?_
   refine ws 65 321 ?_
   obtain ⟨v1007, e1007, hF⟩ := bind_get hF
   refine qp (.val none (.ptr [.str v1007.1, .str v1007.2.1, .str v1007.2.2])) (ev_iad_n rfl rfl e1007 rfl) (qp (.val none (eBlock v1007)) rfl ?_)
   refine qf (.ptr 193 0 0) (K1e v50007) (by simp) ?_
   refine qf0 (.undef) (K1f v1007 v50007) (by simp) ?_
   refine r_nil ?_
   refine w_seq ?_
   refine ws 321 513 ?_
   refine qp (.ptr 193 0 0) rfl (qp (AS v1007.1) rfl (qp (AB (decide (v1007.1 ≠ [109, 101, 108, 111, 100, 121]))) rfl ?_))
   refine r_nil ?_
   refine cF hF (fun hF => ?_) fun hF => ?_
   ·
    refine w_exit ?_
    refine thenQ_e ?_
    refine blockQ_e ?_
    refine thenQ_n ?_
    refine w_reg 513 641 rfl rfl ?_
    refine qp (AI (w64 (v50006 + 1))) rfl (qp (AI (w64 (v50006 + 1))) rfl ?_)
    refine r_nil ?_
    refine thenQ_n ?_
    refine ar (l' := [(4, .sl 0 0 v50007.length), (12, AL 3 (v0.map eBlock)), (13, AI (v0.length : Int)), (14, AI (w64 (v50006 + 1)))]) (L := [(0, .row true 2 (v50007.map eNamedMelody))]) [4, 12, 13, 14] [(0, 0)] 1 ⟨_, by rfl, hF⟩
   ·
    refine w_skip ?_
    refine thenQ_n ?_
    refine ws 513 1025 ?_
    refine qp (.ptr 193 0 2) rfl (qp (AS v1007.2.2) rfl ?_)
    obtain ⟨v1008, e1008, hF⟩ := bind_get hF
    refine qc (.tup [.sl 641 0 v1008.1.length, AB v1008.2]) (K1g v1008 v1007 v50007) false (con_impl_ReadMelody e1008) c28_ok (by first | rfl | simp) (by simp [res_impl_ReadMelody]) ?_
    refine qp (.tup [.sl 641 0 v1008.1.length, AB v1008.2]) rfl (qp (.sl 641 0 v1008.1.length) rfl (qp (AB v1008.2) rfl (qp (.sl 641 0 v1008.1.length) rfl (qp (AB v1008.2) rfl ?_))))
    refine r_nil ?_
    refine w_seq ?_
    refine ws 1025 1153 ?_
    refine qp (AB v1008.2) rfl (qp (AB (!v1008.2)) rfl ?_)
    refine r_nil ?_
    refine cF hF (fun hF => ?_) fun hF => ?_
    ·
     refine ws 1153 1281 ?_
     refine qf (.sl 1153 0 0) ((1153, .row true 2 (([] : List TNamedMelody).map eNamedMelody)) :: (K1g v1008 v1007 v50007)) (by simp) ?_
     refine qp (AI 9) rfl ?_
     refine r_nil ?_
     refine w_ret ?_
     refine thenQ_r ?_
     refine blockQ_r ?_
     refine thenQ_r ?_
     refine thenQ_r ?_
     refine blockQ_r ?_
     refine thenQ_r ?_
     cases hF
     exact eR
    ·
     refine w_skip ?_
     refine thenQ_n ?_
     refine w_reg 1153 1665 rfl rfl ?_
     refine qp (.sl 0 0 v50007.length) rfl (qp (.ptr 193 0 1) rfl (qp (AS v1007.2.1) rfl (qp (.sl 641 0 v1008.1.length) rfl ?_)))
     refine qf (.agg [AS v1007.2.1, .sl 641 0 v1008.1.length]) (K1g v1008 v1007 v50007) (by simp) ?_
     refine qf (.sl 1473 0 ([(v1007.2.1, v1008.1)].length)) (K1h v1007 v1008 v50007) (by simp [List.take_of_length_le]) ?_
     obtain ⟨g1009, hF⟩ := need_some hF
     refine qf (.sl 1537 0 ((v50007 ++ [(v1007.2.1, v1008.1)]).length)) ((1537, .row true 2 ((v50007 ++ [(v1007.2.1, v1008.1)]).map eNamedMelody)) :: (0, .dead) :: (1473, .dead) :: (K1h v1007 v1008 v50007)) (effT_app_l rfl (by simp) rfl rfl (by simp) rfl (by decide) g1009 rfl) ?_
     refine qp (.sl 1537 0 ((v50007 ++ [(v1007.2.1, v1008.1)]).length)) rfl ?_
     refine r_nil ?_
     refine blockQ_n ?_
     refine thenQ_n ?_
     refine w_reg 1665 1793 rfl rfl ?_
     refine qp (AI (w64 (v50006 + 1))) rfl (qp (AI (w64 (v50006 + 1))) rfl ?_)
     refine r_nil ?_
     refine thenQ_n ?_
     refine ar (l' := [(4, .sl 0 0 (v50007 ++ [(v1007.2.1, v1008.1)]).length), (12, AL 3 (v0.map eBlock)), (13, AI (v0.length : Int)), (14, AI (w64 (v50006 + 1)))]) (L := [(0, .row true 2 ((v50007 ++ [(v1007.2.1, v1008.1)]).map eNamedMelody))]) [4, 12, 13, 14] [(1537, 0)] 1 ⟨_, by rfl, hF⟩
  ·
   refine w_exit ?_
   refine thenQ_e ?_
   refine thenQ_e ?_
   refine blockQ_e ?_
   refine thenQ_n ?_
   refine w_seq ?_
   refine ws 65 257 ?_
   refine qp (.sl 0 0 v50007.length) rfl (qp (AI (v50007.length : Int)) rfl (qp (AB (decide ((12 : Int) < (v50007.length : Int)))) rfl ?_))
   refine r_nil ?_
   refine cF hF (fun hF => ?_) fun hF => ?_
   ·
    refine ws 257 385 ?_
    refine qf (.sl 257 0 0) [(257, .row true 2 (([] : List TNamedMelody).map eNamedMelody)), (0, .row true 2 (v50007.map eNamedMelody))] (by simp) ?_
    refine qp (AI 5) rfl ?_
    refine r_nil ?_
    refine w_ret ?_
    refine thenQ_r ?_
    cases hF
    exact eR
   ·
    refine w_skip ?_
    refine thenQ_n ?_
    refine ws 257 449 ?_
    refine qp (.sl 0 0 v50007.length) rfl (qp (.sl 0 0 v50007.length) rfl (qp (AI 0) rfl ?_))
    exact rR hF

def c84 : MC := (.seq (.reg [rg 2 (.f (.box t0)), rg 3 (.f (.box t1)), pT 4 (.mv cf)]) (.seq (.seq (.reg [pT 5 (.fad t2 0), pT 6 (.ld t5 1 false), pT 7 (.fad t3 0), pT 8 (.ld t7 1 false), pT 9 (.bin .neq t6 t8)]) (.cond t9 (.seq (.reg [pT 4 (.mv cf)]) .ret) .skip)) (.seq (.seq (.reg [pT 10 (.fad t2 1), pT 11 (.ld t10 1 false), pT 12 (.fad t3 1), pT 13 (.ld t12 1 false), pT 14 (.bin .neq t11 t13)]) (.cond t14 (.seq (.reg [pT 4 (.mv cf)]) .ret) .skip)) (.seq (.reg [pT 4 (.mv ct)]) .ret))))
theorem c84_is : compFn Tryz.prog 84 = some (c84, [(.tmp 4)]) := by kernel_rfl
theorem c84_ok : okFn Tryz.prog 84 = true := by kernel_rfl

noncomputable def F_laws_eqNote (v0 : TNote) (v1 : TNote) : Option (Bool) :=
 (bif (decide (v0.1 ≠ v1.1)) then some false
 else (bif (decide (v0.2 ≠ v1.2)) then some false
 else some true))
@[simp] def res_laws_eqNote (r : Bool) : RV := .one (.one (.val (.bool r)))
theorem con_laws_eqNote {v0 : TNote} {v1 : TNote} {r : Bool} (hF : F_laws_eqNote v0 v1 = some r) : Con Tryz.prog 84 [eNote v0, eNote v1] (res_laws_eqNote r) := by
 unfold F_laws_eqNote at hF
 refine con_of c84_is fun N => ?_
 refine ws 0 192 ?_
 refine qf (.ptr 0 0 0) [(0, .box [AI v0.1, AI v0.2])] (by simp) ?_
 refine qf (.ptr 64 0 0) [(64, .box [AI v1.1, AI v1.2]), (0, .box [AI v0.1, AI v0.2])] (by simp) ?_
 refine qp (AB false) rfl ?_
 refine r_nil ?_
 refine w_seq ?_
 refine ws 192 512 ?_
 refine qp (.ptr 0 0 0) rfl (qp (AI v0.1) rfl (qp (.ptr 64 0 0) rfl (qp (AI v1.1) rfl (qp (AB (decide (v0.1 ≠ v1.1))) rfl ?_))))
 refine r_nil ?_
 refine cF hF (fun hF => ?_) fun hF => ?_
 ·
  refine ws 512 576 ?_
  refine qp (AB false) rfl ?_
  refine r_nil ?_
  refine w_ret ?_
  refine thenQ_r ?_
  cases hF
  exact eR
 ·
  refine w_skip ?_
  refine thenQ_n ?_
  refine w_seq ?_
  refine ws 512 832 ?_
  refine qp (.ptr 0 0 1) rfl (qp (AI v0.2) rfl (qp (.ptr 64 0 1) rfl (qp (AI v1.2) rfl (qp (AB (decide (v0.2 ≠ v1.2))) rfl ?_))))
  refine r_nil ?_
  refine cF hF (fun hF => ?_) fun hF => ?_
  ·
   refine ws 832 896 ?_
   refine qp (AB false) rfl ?_
   refine r_nil ?_
   refine w_ret ?_
   refine thenQ_r ?_
   cases hF
   exact eR
  ·
   refine w_skip ?_
   refine thenQ_n ?_
   refine ws 832 896 ?_
   refine qp (AB true) rfl ?_
   exact rR hF

def c47 : MC := (.seq (.reg [pT 4 (.mv cf)]) (.seq (.seq (.reg [mvt 6 0, pT 7 (.len t6), mvt 8 1, pT 9 (.len t8), pT 10 (.bin .neq t7 t9)]) (.cond t10 (.seq (.reg [pT 4 (.mv cf)]) .ret) .skip)) (.seq (.seq (.reg [pT 5 (.mv (ci 0))]) (.block 0 (.loop (.seq (.seq (.reg [mvt 11 5, mvt 12 0, pT 13 (.len t12), pT 14 (.bin .lss t11 t13)]) (.cond t14 .skip (.exit 0))) (.seq (.block 1 (.seq (.reg [mP 17 t0, mP 18 t5, pF 19 (.iad t17 t18 2), pF 20 (.ld t19 2 true), mP 21 t1, mP 22 t5, pF 23 (.iad t21 t22 2), pF 24 (.ld t23 2 true), rg 25 (.call false 84 [t20, t24]), pF 26 (.not t25)]) (.cond t26 (.seq (.reg [pT 4 (.mv cf)]) .ret) .skip))) (.reg [mvt 15 5, pT 16 (.bin .add t15 (ci 1)), mvt 5 16])))))) (.seq (.reg [pT 4 (.mv ct)]) .ret))))
theorem c47_is : compFn Tryz.prog 47 = some (c47, [(.tmp 4)]) := by kernel_rfl
theorem c47_ok : okFn Tryz.prog 47 = true := by kernel_rfl

noncomputable def F_laws_eqNoteS_l0 (v0 : List TNote) (v1 : List TNote) (k0 : Int → Option (Bool)) : Int → Option (Bool)
 | v50001 => (bif (decide (v50001 < (v0.length : Int))) then ((ix v0 v50001).bind fun v1000 => ((ix v1 v50001).bind fun v1001 => ((F_laws_eqNote v1000 v1001).bind fun v1002 => (bif (!v1002) then some false
 else k0 (w64 (v50001 + 1))))))
 else some true)
noncomputable def F_laws_eqNoteS (v0 : List TNote) (v1 : List TNote) : Option (Bool) :=
 (bif (decide ((v0.length : Int) ≠ (v1.length : Int))) then some false
 else loop (F_laws_eqNoteS_l0 v0 v1) 0)
@[simp] def res_laws_eqNoteS (r : Bool) : RV := .one (.one (.val (.bool r)))
theorem con_laws_eqNoteS {v0 : List TNote} {v1 : List TNote} {r : Bool} (hF : F_laws_eqNoteS v0 v1 = some r) : Con Tryz.prog 47 [.sl 2 (v0.map eNote), .sl 2 (v1.map eNote)] (res_laws_eqNoteS r) := by
 unfold F_laws_eqNoteS at hF
 refine con_of c47_is fun N => ?_
 refine ws 0 64 ?_
 refine qp (AB false) rfl ?_
 refine r_nil ?_
 refine w_seq ?_
 refine ws 64 384 ?_
 refine qp (AL 2 (v0.map eNote)) rfl (qp (AI (v0.length : Int)) (ev_len_n rfl) (qp (AL 2 (v1.map eNote)) rfl (qp (AI (v1.length : Int)) (ev_len_n rfl) (qp (AB (decide ((v0.length : Int) ≠ (v1.length : Int)))) rfl ?_))))
 refine r_nil ?_
 refine cF hF (fun hF => ?_) fun hF => ?_
 ·
  refine ws 384 448 ?_
  refine qp (AB false) rfl ?_
  refine r_nil ?_
  refine w_ret ?_
  refine thenQ_r ?_
  cases hF
  exact eR
 ·
  refine w_skip ?_
  refine thenQ_n ?_
  refine w_seq ?_
  refine ws 384 448 ?_
  refine qp (AI 0) rfl ?_
  refine r_nil ?_
  refine w_block ?_
  refine wr (l' := [(0, AL 2 (v0.map eNote)), (1, AL 2 (v1.map eNote)), (5, AI 0)]) (L := []) [0, 1, 5] [] 1 ?_
  refine w_loopF (F_laws_eqNoteS_l0 v0 v1) (fun s : Int => mkS [(0, AL 2 (v0.map eNote)), (1, AL 2 (v1.map eNote)), (5, AI s)] (fo []) 1) hF ?_
  rintro k0 v50001 hF
  rw [F_laws_eqNoteS_l0] at hF
  try dsimp only
  refine w_seq ?_
  refine ws 1 257 ?_
  refine qp (AI v50001) rfl (qp (AL 2 (v0.map eNote)) rfl (qp (AI (v0.length : Int)) (ev_len_n rfl) (qp (AB (decide (v50001 < (v0.length : Int)))) rfl ?_)))
  refine r_nil ?_
  refine cF hF (fun hF => ?_) fun hF => ?_
  ·
   refine w_skip ?_
   refine thenQ_n ?_
   refine w_seq ?_
   refine w_block ?_
   refine ws 257 897 ?_
   refine qp (AL 2 (v0.map eNote)) rfl (qp (AI v50001) rfl ?_)
   obtain ⟨v1000, e1000, hF⟩ := bind_get hF
   refine qp (.val none (.ptr [.int .i64 v1000.1, .int .i64 v1000.2])) (ev_iad_n rfl rfl e1000 rfl) (qp (.val none (eNote v1000)) rfl (qp (AL 2 (v1.map eNote)) rfl (qp (AI v50001) rfl ?_)))
   obtain ⟨v1001, e1001, hF⟩ := bind_get hF
   refine qp (.val none (.ptr [.int .i64 v1001.1, .int .i64 v1001.2])) (ev_iad_n rfl rfl e1001 rfl) (qp (.val none (eNote v1001)) rfl ?_)
   obtain ⟨v1002, e1002, hF⟩ := bind_get hF
   refine qc (AB v1002) [] false (con_laws_eqNote e1002) c84_ok (by first | rfl | simp) rfl ?_
   refine qp (AB (!v1002)) rfl ?_
   refine r_nil ?_
   refine cF hF (fun hF => ?_) fun hF => ?_
   ·
    refine ws 897 961 ?_
    refine qp (AB false) rfl ?_
    refine r_nil ?_
    refine w_ret ?_
    refine blockQ_r ?_
    refine thenQ_r ?_
    refine thenQ_r ?_
    refine blockQ_r ?_
    refine thenQ_r ?_
    cases hF
    exact eR
   ·
    refine w_skip ?_
    refine blockQ_n ?_
    refine thenQ_n ?_
    refine w_reg 897 1089 rfl rfl ?_
    refine qp (AI v50001) rfl (qp (AI (w64 (v50001 + 1))) rfl (qp (AI (w64 (v50001 + 1))) rfl ?_))
    refine r_nil ?_
    refine thenQ_n ?_
    refine ar (l' := [(0, AL 2 (v0.map eNote)), (1, AL 2 (v1.map eNote)), (5, AI (w64 (v50001 + 1)))]) (L := []) [0, 1, 5] [] 1 ⟨_, by rfl, hF⟩
  ·
   refine w_exit ?_
   refine thenQ_e ?_
   refine thenQ_e ?_
   refine blockQ_e ?_
   refine thenQ_n ?_
   refine ws 257 321 ?_
   refine qp (AB true) rfl ?_
   exact rR hF

def c29 : MC := (.seq (.reg [rg 2 (.f (.box t0)), rg 3 (.f (.box t1)), pT 4 (.mv cf)]) (.seq (.seq (.reg [pT 5 (.fad t2 0), pT 6 (.ld t5 1 false), pT 7 (.fad t3 0), pT 8 (.ld t7 1 false), pT 9 (.bin .neq t6 t8)]) (.cond t9 (.seq (.reg [pT 4 (.mv cf)]) .ret) .skip)) (.seq (.seq (.reg [pT 10 (.fad t2 1), pT 11 (.ld t10 1 false), pT 12 (.fad t3 1), pT 13 (.ld t12 1 false), rg 14 (.call true 47 [t11, t13]), pT 15 (.not t14)]) (.cond t15 (.seq (.reg [pT 4 (.mv cf)]) .ret) .skip)) (.seq (.reg [pT 4 (.mv ct)]) .ret))))
theorem c29_is : compFn Tryz.prog 29 = some (c29, [(.tmp 4)]) := by kernel_rfl
theorem c29_ok : okFn Tryz.prog 29 = true := by kernel_rfl

noncomputable def F_laws_eqNamedMelody (v0 : TNamedMelody) (v1 : TNamedMelody) : Option (Bool) :=
 (bif (decide (v0.1 ≠ v1.1)) then some false
 else ((F_laws_eqNoteS v0.2 v1.2).bind fun v1000 => (bif (!v1000) then some false
 else some true)))
@[simp] abbrev K1i (v0 : TNamedMelody) : List (Nat × Root) := [(0, .box [AS v0.1, AL 2 (v0.2.map eNote)])]
@[simp] abbrev K1j (v1 : TNamedMelody) (v0 : TNamedMelody) : List (Nat × Root) := ((64, .box [AS v1.1, AL 2 (v1.2.map eNote)]) :: (K1i v0))
@[simp] def res_laws_eqNamedMelody (r : Bool) : RV := .one (.one (.val (.bool r)))
theorem con_laws_eqNamedMelody {v0 : TNamedMelody} {v1 : TNamedMelody} {r : Bool} (hF : F_laws_eqNamedMelody v0 v1 = some r) : Con Tryz.prog 29 [eNamedMelody v0, eNamedMelody v1] (res_laws_eqNamedMelody r) := by
 unfold F_laws_eqNamedMelody at hF
 refine con_of c29_is fun N => ?_
 refine ws 0 192 ?_
 refine qf (.ptr 0 0 0) (K1i v0) (by simp) ?_
 refine qf (.ptr 64 0 0) (K1j v1 v0) (by simp) ?_
 refine qp (AB false) rfl ?_
 refine r_nil ?_
 refine w_seq ?_
 refine ws 192 512 ?_
 refine qp (.ptr 0 0 0) rfl (qp (AS v0.1) rfl (qp (.ptr 64 0 0) rfl (qp (AS v1.1) rfl (qp (AB (decide (v0.1 ≠ v1.1))) rfl ?_))))
 refine r_nil ?_
 refine cF hF (fun hF => ?_) fun hF => ?_
 ·
  refine ws 512 576 ?_
  refine qp (AB false) rfl ?_
  refine r_nil ?_
  refine w_ret ?_
  refine thenQ_r ?_
  cases hF
  exact eR
 ·
  refine w_skip ?_
  refine thenQ_n ?_
  refine w_seq ?_
  refine ws 512 896 ?_
  refine qp (.ptr 0 0 1) rfl (qp (AL 2 (v0.2.map eNote)) rfl (qp (.ptr 64 0 1) rfl (qp (AL 2 (v1.2.map eNote)) rfl ?_)))
  obtain ⟨v1000, e1000, hF⟩ := bind_get hF
  refine qc (AB v1000) (K1j v1 v0) false (con_laws_eqNoteS e1000) c47_ok (by first | rfl | simp) rfl ?_
  refine qp (AB (!v1000)) rfl ?_
  refine r_nil ?_
  refine cF hF (fun hF => ?_) fun hF => ?_
  ·
   refine ws 896 960 ?_
   refine qp (AB false) rfl ?_
   refine r_nil ?_
   refine w_ret ?_
   refine thenQ_r ?_
   cases hF
   exact eR
  ·
   refine w_skip ?_
   refine thenQ_n ?_
   refine ws 896 960 ?_
   refine qp (AB true) rfl ?_
   exact rR hF

def c9 : MC := (.seq (.reg [pT 4 (.mv cf)]) (.seq (.seq (.reg [mvt 6 0, pT 7 (.len t6), mvt 8 1, pT 9 (.len t8), pT 10 (.bin .neq t7 t9)]) (.cond t10 (.seq (.reg [pT 4 (.mv cf)]) .ret) .skip)) (.seq (.seq (.reg [pT 5 (.mv (ci 0))]) (.block 0 (.loop (.seq (.seq (.reg [mvt 11 5, mvt 12 0, pT 13 (.len t12), pT 14 (.bin .lss t11 t13)]) (.cond t14 .skip (.exit 0))) (.seq (.block 1 (.seq (.reg [mP 17 t0, mP 18 t5, pF 19 (.iad t17 t18 2), pF 20 (.ld t19 2 true), mP 21 t1, mP 22 t5, pF 23 (.iad t21 t22 2), pF 24 (.ld t23 2 true), rg 25 (.call false 29 [t20, t24]), pF 26 (.not t25)]) (.cond t26 (.seq (.reg [pT 4 (.mv cf)]) .ret) .skip))) (.reg [mvt 15 5, pT 16 (.bin .add t15 (ci 1)), mvt 5 16])))))) (.seq (.reg [pT 4 (.mv ct)]) .ret))))
theorem c9_is : compFn Tryz.prog 9 = some (c9, [(.tmp 4)]) := by kernel_rfl
theorem c9_ok : okFn Tryz.prog 9 = true := by kernel_rfl

noncomputable def F_laws_eqNamedMelodyS_l0 (v0 : List TNamedMelody) (v1 : List TNamedMelody) (k0 : Int → Option (Bool)) : Int → Option (Bool)
 | v50001 => (bif (decide (v50001 < (v0.length : Int))) then ((ix v0 v50001).bind fun v1000 => ((ix v1 v50001).bind fun v1001 => ((F_laws_eqNamedMelody v1000 v1001).bind fun v1002 => (bif (!v1002) then some false
 else k0 (w64 (v50001 + 1))))))
 else some true)
noncomputable def F_laws_eqNamedMelodyS (v0 : List TNamedMelody) (v1 : List TNamedMelody) : Option (Bool) :=
 (bif (decide ((v0.length : Int) ≠ (v1.length : Int))) then some false
 else loop (F_laws_eqNamedMelodyS_l0 v0 v1) 0)
@[simp] abbrev K1k (v0 : List TNamedMelody) : V := .sl 2 (v0.map eNamedMelody)
@[simp] def res_laws_eqNamedMelodyS (r : Bool) : RV := .one (.one (.val (.bool r)))
theorem con_laws_eqNamedMelodyS {v0 : List TNamedMelody} {v1 : List TNamedMelody} {r : Bool} (hF : F_laws_eqNamedMelodyS v0 v1 = some r) : Con Tryz.prog 9 [.sl 2 (v0.map eNamedMelody), .sl 2 (v1.map eNamedMelody)] (res_laws_eqNamedMelodyS r) := by
 unfold F_laws_eqNamedMelodyS at hF
 refine con_of c9_is fun N => ?_
 refine ws 0 64 ?_
 refine qp (AB false) rfl ?_
 refine r_nil ?_
 refine w_seq ?_
 refine ws 64 384 ?_
 refine qp (.val none (K1k v0)) rfl (qp (AI (v0.length : Int)) (ev_len_n rfl) (qp (AL 2 (v1.map eNamedMelody)) rfl (qp (AI (v1.length : Int)) (ev_len_n rfl) (qp (AB (decide ((v0.length : Int) ≠ (v1.length : Int)))) rfl ?_))))
 refine r_nil ?_
 refine cF hF (fun hF => ?_) fun hF => ?_
 ·
  refine ws 384 448 ?_
  refine qp (AB false) rfl ?_
  refine r_nil ?_
  refine w_ret ?_
  refine thenQ_r ?_
  cases hF
  exact eR
 ·
  refine w_skip ?_
  refine thenQ_n ?_
  refine w_seq ?_
  refine ws 384 448 ?_
  refine qp (AI 0) rfl ?_
  refine r_nil ?_
  refine w_block ?_
  refine wr (l' := [(0, .val none (K1k v0)), (1, AL 2 (v1.map eNamedMelody)), (5, AI 0)]) (L := []) [0, 1, 5] [] 1 ?_
  refine w_loopF (F_laws_eqNamedMelodyS_l0 v0 v1) (fun s : Int => mkS [(0, .val none (K1k v0)), (1, AL 2 (v1.map eNamedMelody)), (5, AI s)] (fo []) 1) hF ?_
  rintro k0 v50001 hF
  rw [F_laws_eqNamedMelodyS_l0] at hF
  try dsimp only
  refine w_seq ?_
  refine ws 1 257 ?_
  refine qp (AI v50001) rfl (qp (.val none (K1k v0)) rfl (qp (AI (v0.length : Int)) (ev_len_n rfl) (qp (AB (decide (v50001 < (v0.length : Int)))) rfl ?_)))
  refine r_nil ?_
  refine cF hF (fun hF => ?_) fun hF => ?_
  ·
   refine w_skip ?_
   refine thenQ_n ?_
   refine w_seq ?_
   refine w_block ?_
   refine ws 257 897 ?_
   refine qp (.val none (K1k v0)) rfl (qp (AI v50001) rfl ?_)
   obtain ⟨v1000, e1000, hF⟩ := bind_get hF
   refine qp (.val none (.ptr [.str v1000.1, .sl 2 (v1000.2.map eNote)])) (ev_iad_n rfl rfl e1000 rfl) (qp (.val none (eNamedMelody v1000)) rfl (qp (AL 2 (v1.map eNamedMelody)) rfl (qp (AI v50001) rfl ?_)))
   obtain ⟨v1001, e1001, hF⟩ := bind_get hF
   refine qp (.val none (.ptr [.str v1001.1, .sl 2 (v1001.2.map eNote)])) (ev_iad_n rfl rfl e1001 rfl) (qp (.val none (eNamedMelody v1001)) rfl ?_)
   obtain ⟨v1002, e1002, hF⟩ := bind_get hF
   refine qc (AB v1002) [] false (con_laws_eqNamedMelody e1002) c29_ok (by first | rfl | simp) rfl ?_
   refine qp (AB (!v1002)) rfl ?_
   refine r_nil ?_
   refine cF hF (fun hF => ?_) fun hF => ?_
   ·
    refine ws 897 961 ?_
    refine qp (AB false) rfl ?_
    refine r_nil ?_
    refine w_ret ?_
    refine blockQ_r ?_
    refine thenQ_r ?_
    refine thenQ_r ?_
    refine blockQ_r ?_
    refine thenQ_r ?_
    cases hF
    exact eR
   ·
    refine w_skip ?_
    refine blockQ_n ?_
    refine thenQ_n ?_
    refine w_reg 897 1089 rfl rfl ?_
    refine qp (AI v50001) rfl (qp (AI (w64 (v50001 + 1))) rfl (qp (AI (w64 (v50001 + 1))) rfl ?_))
    refine r_nil ?_
    refine thenQ_n ?_
    refine ar (l' := [(0, .val none (K1k v0)), (1, AL 2 (v1.map eNamedMelody)), (5, AI (w64 (v50001 + 1)))]) (L := []) [0, 1, 5] [] 1 ⟨_, by rfl, hF⟩
  ·
   refine w_exit ?_
   refine thenQ_e ?_
   refine thenQ_e ?_
   refine blockQ_e ?_
   refine thenQ_n ?_
   refine ws 257 321 ?_
   refine qp (AB true) rfl ?_
   exact rR hF

def c30 : MC := (.seq (.reg [rg 2 (.f (.box t0)), rg 3 (.f (.box t1)), pT 4 (.mv cf)]) (.seq (.seq (.reg [pT 5 (.fad t2 0), pT 6 (.ld t5 1 false), pT 7 (.fad t3 0), pT 8 (.ld t7 1 false), pT 9 (.bin .neq t6 t8)]) (.cond t9 (.seq (.reg [pT 4 (.mv cf)]) .ret) .skip)) (.seq (.seq (.reg [pT 10 (.fad t2 1), pT 11 (.ld t10 1 false), pT 12 (.fad t3 1), pT 13 (.ld t12 1 false), pT 14 (.bin .neq t11 t13)]) (.cond t14 (.seq (.reg [pT 4 (.mv cf)]) .ret) .skip)) (.seq (.seq (.reg [pT 15 (.fad t2 2), pT 16 (.ld t15 1 false), pT 17 (.fad t3 2), pT 18 (.ld t17 1 false), pT 19 (.bin .neq t16 t18)]) (.cond t19 (.seq (.reg [pT 4 (.mv cf)]) .ret) .skip)) (.seq (.reg [pT 4 (.mv ct)]) .ret)))))
theorem c30_is : compFn Tryz.prog 30 = some (c30, [(.tmp 4)]) := by kernel_rfl
theorem c30_ok : okFn Tryz.prog 30 = true := by kernel_rfl

noncomputable def F_laws_eqBlock (v0 : TBlock) (v1 : TBlock) : Option (Bool) :=
 (bif (decide (v0.1 ≠ v1.1)) then some false
 else (bif (decide (v0.2.1 ≠ v1.2.1)) then some false
 else (bif (decide (v0.2.2 ≠ v1.2.2)) then some false
 else some true)))
@[simp] def res_laws_eqBlock (r : Bool) : RV := .one (.one (.val (.bool r)))
theorem con_laws_eqBlock {v0 : TBlock} {v1 : TBlock} {r : Bool} (hF : F_laws_eqBlock v0 v1 = some r) : Con Tryz.prog 30 [eBlock v0, eBlock v1] (res_laws_eqBlock r) := by
 unfold F_laws_eqBlock at hF
 refine con_of c30_is fun N => ?_
 refine ws 0 192 ?_
 refine qf (.ptr 0 0 0) [(0, .box [AS v0.1, AS v0.2.1, AS v0.2.2])] (by simp) ?_
 refine qf (.ptr 64 0 0) [(64, .box [AS v1.1, AS v1.2.1, AS v1.2.2]), (0, .box [AS v0.1, AS v0.2.1, AS v0.2.2])] (by simp) ?_
 refine qp (AB false) rfl ?_
 refine r_nil ?_
 refine w_seq ?_
 refine ws 192 512 ?_
 refine qp (.ptr 0 0 0) rfl (qp (AS v0.1) rfl (qp (.ptr 64 0 0) rfl (qp (AS v1.1) rfl (qp (AB (decide (v0.1 ≠ v1.1))) rfl ?_))))
 refine r_nil ?_
 refine cF hF (fun hF => ?_) fun hF => ?_
 ·
  refine ws 512 576 ?_
  refine qp (AB false) rfl ?_
  refine r_nil ?_
  refine w_ret ?_
  refine thenQ_r ?_
  cases hF
  exact eR
 ·
  refine w_skip ?_
  refine thenQ_n ?_
  refine w_seq ?_
  refine ws 512 832 ?_
  refine qp (.ptr 0 0 1) rfl (qp (AS v0.2.1) rfl (qp (.ptr 64 0 1) rfl (qp (AS v1.2.1) rfl (qp (AB (decide (v0.2.1 ≠ v1.2.1))) rfl ?_))))
  refine r_nil ?_
  refine cF hF (fun hF => ?_) fun hF => ?_
  ·
   refine ws 832 896 ?_
   refine qp (AB false) rfl ?_
   refine r_nil ?_
   refine w_ret ?_
   refine thenQ_r ?_
   cases hF
   exact eR
  ·
   refine w_skip ?_
   refine thenQ_n ?_
   refine w_seq ?_
   refine ws 832 1152 ?_
   refine qp (.ptr 0 0 2) rfl (qp (AS v0.2.2) rfl (qp (.ptr 64 0 2) rfl (qp (AS v1.2.2) rfl (qp (AB (decide (v0.2.2 ≠ v1.2.2))) rfl ?_))))
   refine r_nil ?_
   refine cF hF (fun hF => ?_) fun hF => ?_
   ·
    refine ws 1152 1216 ?_
    refine qp (AB false) rfl ?_
    refine r_nil ?_
    refine w_ret ?_
    refine thenQ_r ?_
    cases hF
    exact eR
   ·
    refine w_skip ?_
    refine thenQ_n ?_
    refine ws 1152 1216 ?_
    refine qp (AB true) rfl ?_
    exact rR hF

def c10 : MC := (.seq (.reg [pT 4 (.mv cf)]) (.seq (.seq (.reg [mvt 6 0, pT 7 (.len t6), mvt 8 1, pT 9 (.len t8), pT 10 (.bin .neq t7 t9)]) (.cond t10 (.seq (.reg [pT 4 (.mv cf)]) .ret) .skip)) (.seq (.seq (.reg [pT 5 (.mv (ci 0))]) (.block 0 (.loop (.seq (.seq (.reg [mvt 11 5, mvt 12 0, pT 13 (.len t12), pT 14 (.bin .lss t11 t13)]) (.cond t14 .skip (.exit 0))) (.seq (.block 1 (.seq (.reg [mP 17 t0, mP 18 t5, pF 19 (.iad t17 t18 3), pF 20 (.ld t19 3 true), mP 21 t1, mP 22 t5, pF 23 (.iad t21 t22 3), pF 24 (.ld t23 3 true), rg 25 (.call false 30 [t20, t24]), pF 26 (.not t25)]) (.cond t26 (.seq (.reg [pT 4 (.mv cf)]) .ret) .skip))) (.reg [mvt 15 5, pT 16 (.bin .add t15 (ci 1)), mvt 5 16])))))) (.seq (.reg [pT 4 (.mv ct)]) .ret))))
theorem c10_is : compFn Tryz.prog 10 = some (c10, [(.tmp 4)]) := by kernel_rfl
theorem c10_ok : okFn Tryz.prog 10 = true := by kernel_rfl

noncomputable def F_laws_eqBlockS_l0 (v0 : List TBlock) (v1 : List TBlock) (k0 : Int → Option (Bool)) : Int → Option (Bool)
 | v50001 => (bif (decide (v50001 < (v0.length : Int))) then ((ix v0 v50001).bind fun v1000 => ((ix v1 v50001).bind fun v1001 => ((F_laws_eqBlock v1000 v1001).bind fun v1002 => (bif (!v1002) then some false
 else k0 (w64 (v50001 + 1))))))
 else some true)
noncomputable def F_laws_eqBlockS (v0 : List TBlock) (v1 : List TBlock) : Option (Bool) :=
 (bif (decide ((v0.length : Int) ≠ (v1.length : Int))) then some false
 else loop (F_laws_eqBlockS_l0 v0 v1) 0)
@[simp] def res_laws_eqBlockS (r : Bool) : RV := .one (.one (.val (.bool r)))
theorem con_laws_eqBlockS {v0 : List TBlock} {v1 : List TBlock} {r : Bool} (hF : F_laws_eqBlockS v0 v1 = some r) : Con Tryz.prog 10 [.sl 3 (v0.map eBlock), .sl 3 (v1.map eBlock)] (res_laws_eqBlockS r) := by
 unfold F_laws_eqBlockS at hF
 refine con_of c10_is fun N => ?_
 refine ws 0 64 ?_
 refine qp (AB false) rfl ?_
 refine r_nil ?_
 refine w_seq ?_
 refine ws 64 384 ?_
 refine qp (AL 3 (v0.map eBlock)) rfl (qp (AI (v0.length : Int)) (ev_len_n rfl) (qp (AL 3 (v1.map eBlock)) rfl (qp (AI (v1.length : Int)) (ev_len_n rfl) (qp (AB (decide ((v0.length : Int) ≠ (v1.length : Int)))) rfl ?_))))
 refine r_nil ?_
 refine cF hF (fun hF => ?_) fun hF => ?_
 ·
  refine ws 384 448 ?_
  refine qp (AB false) rfl ?_
  refine r_nil ?_
  refine w_ret ?_
  refine thenQ_r ?_
  cases hF
  exact eR
 ·
  refine w_skip ?_
  refine thenQ_n ?_
  refine w_seq ?_
  refine ws 384 448 ?_
  refine qp (AI 0) rfl ?_
  refine r_nil ?_
  refine w_block ?_
  refine wr (l' := [(0, AL 3 (v0.map eBlock)), (1, AL 3 (v1.map eBlock)), (5, AI 0)]) (L := []) [0, 1, 5] [] 1 ?_
  refine w_loopF (F_laws_eqBlockS_l0 v0 v1) (fun s : Int => mkS [(0, AL 3 (v0.map eBlock)), (1, AL 3 (v1.map eBlock)), (5, AI s)] (fo []) 1) hF ?_
  rintro k0 v50001 hF
  rw [F_laws_eqBlockS_l0] at hF
  try dsimp only
  refine w_seq ?_
  refine ws 1 257 ?_
  refine qp (AI v50001) rfl (qp (AL 3 (v0.map eBlock)) rfl (qp (AI (v0.length : Int)) (ev_len_n rfl) (qp (AB (decide (v50001 < (v0.length : Int)))) rfl ?_)))
  refine r_nil ?_
  refine cF hF (fun hF => ?_) fun hF => ?_
  ·
   refine w_skip ?_
   refine thenQ_n ?_
   refine w_seq ?_
   refine w_block ?_
   refine ws 257 897 ?_
   refine qp (AL 3 (v0.map eBlock)) rfl (qp (AI v50001) rfl ?_)
   obtain ⟨v1000, e1000, hF⟩ := bind_get hF
   refine qp (.val none (.ptr [.str v1000.1, .str v1000.2.1, .str v1000.2.2])) (ev_iad_n rfl rfl e1000 rfl) (qp (.val none (eBlock v1000)) rfl (qp (AL 3 (v1.map eBlock)) rfl (qp (AI v50001) rfl ?_)))
   obtain ⟨v1001, e1001, hF⟩ := bind_get hF
   refine qp (.val none (.ptr [.str v1001.1, .str v1001.2.1, .str v1001.2.2])) (ev_iad_n rfl rfl e1001 rfl) (qp (.val none (eBlock v1001)) rfl ?_)
   obtain ⟨v1002, e1002, hF⟩ := bind_get hF
   refine qc (AB v1002) [] false (con_laws_eqBlock e1002) c30_ok (by first | rfl | simp) rfl ?_
   refine qp (AB (!v1002)) rfl ?_
   refine r_nil ?_
   refine cF hF (fun hF => ?_) fun hF => ?_
   ·
    refine ws 897 961 ?_
    refine qp (AB false) rfl ?_
    refine r_nil ?_
    refine w_ret ?_
    refine blockQ_r ?_
    refine thenQ_r ?_
    refine thenQ_r ?_
    refine blockQ_r ?_
    refine thenQ_r ?_
    cases hF
    exact eR
   ·
    refine w_skip ?_
    refine blockQ_n ?_
    refine thenQ_n ?_
    refine w_reg 897 1089 rfl rfl ?_
    refine qp (AI v50001) rfl (qp (AI (w64 (v50001 + 1))) rfl (qp (AI (w64 (v50001 + 1))) rfl ?_))
    refine r_nil ?_
    refine thenQ_n ?_
    refine ar (l' := [(0, AL 3 (v0.map eBlock)), (1, AL 3 (v1.map eBlock)), (5, AI (w64 (v50001 + 1)))]) (L := []) [0, 1, 5] [] 1 ⟨_, by rfl, hF⟩
  ·
   refine w_exit ?_
   refine thenQ_e ?_
   refine thenQ_e ?_
   refine blockQ_e ?_
   refine thenQ_n ?_
   refine ws 257 321 ?_
   refine qp (AB true) rfl ?_
   exact rR hF

def c31 : MC := (.seq (.reg [pT 2 (.mv (.c (.str [])))]) (.seq (.seq (.reg [mvt 4 0, pT 5 (.bin .leq t4 (ci 0))]) (.cond t5 (.seq (.reg [pT 2 (.mv (.c (.str [109, 48])))]) .ret) .skip)) (.seq (.reg [pT 3 (.mv (.c (.str [])))]) (.seq (.block 0 (.loop (.seq (.seq (.reg [mvt 6 0, pT 7 (.bin .gtr t6 (ci 0))]) (.cond t7 .skip (.exit 0))) (.block 1 (.seq (.reg [mvt 8 0, pT 9 (.bin .rem t8 (ci 10)), pT 10 (.bin .add (ci 48) t9), pT 11 (.conv .u8 t10), rg 12 (.f (.bsl 1 [t11])), pT 13 (.bts t12), mvt 14 3, pT 15 (.bin .add t13 t14), mvt 3 15]) (.reg [mvt 16 0, pT 17 (.bin .quo t16 (ci 10)), mvt 0 17])))))) (.seq (.reg [mvt 18 3, pT 19 (.bin .add (.c (.str [109])) t18), mvt 2 19]) .ret)))))
theorem c31_is : compFn Tryz.prog 31 = some (c31, [(.tmp 2)]) := by kernel_rfl
theorem c31_ok : okFn Tryz.prog 31 = true := by kernel_rfl

noncomputable def F_laws_markText_l0 (k0 : Int × (List UInt8) → Option (List UInt8)) : Int × (List UInt8) → Option (List UInt8)
 | (v50002, v50003) => (bif (decide ((0 : Int) < v50002)) then (need ((bytesI ([IntKind.wrap .u8 (w64 (48 + (Int.tmod v50002 10)))] : List Int)).length + v50003.length < 9223372036854775808) (k0 (w64 (Int.tdiv v50002 10), (bytesI ([IntKind.wrap .u8 (w64 (48 + (Int.tmod v50002 10)))] : List Int)) ++ v50003)))
 else (need ([109].length + v50003.length < 9223372036854775808) (some ([109] ++ v50003))))
noncomputable def F_laws_markText (v0 : Int) : Option (List UInt8) :=
 (bif (decide (v0 ≤ (0 : Int))) then some [109, 48]
 else loop (F_laws_markText_l0) (v0, []))
@[simp] def res_laws_markText (r : List UInt8) : RV := .one (.one (.val (.str r)))
theorem con_laws_markText {v0 : Int} {r : List UInt8} (hF : F_laws_markText v0 = some r) : Con Tryz.prog 31 [.int .i64 v0] (res_laws_markText r) := by
 unfold F_laws_markText at hF
 refine con_of c31_is fun N => ?_
 refine ws 0 64 ?_
 refine qp (AS []) rfl ?_
 refine r_nil ?_
 refine w_seq ?_
 refine ws 64 192 ?_
 refine qp (AI v0) rfl (qp (AB (decide (v0 ≤ (0 : Int)))) rfl ?_)
 refine r_nil ?_
 refine cF hF (fun hF => ?_) fun hF => ?_
 ·
  refine ws 192 256 ?_
  refine qp (AS [109, 48]) rfl ?_
  refine r_nil ?_
  refine w_ret ?_
  refine thenQ_r ?_
  cases hF
  exact eR
 ·
  refine w_skip ?_
  refine thenQ_n ?_
  refine ws 192 256 ?_
  refine qp (AS []) rfl ?_
  refine r_nil ?_
  refine w_seq ?_
  refine w_block ?_
  refine wr (l' := [(0, AI v0), (3, AS ([] : List UInt8))]) (L := []) [0, 3] [] 1 ?_
  refine w_loopF (F_laws_markText_l0) (fun s : Int × (List UInt8) => mkS [(0, AI s.1), (3, AS s.2)] (fo []) 1) hF ?_
  rintro k0 ⟨v50002, v50003⟩ hF
  rw [F_laws_markText_l0] at hF
  try dsimp only
  refine w_seq ?_
  refine ws 1 129 ?_
  refine qp (AI v50002) rfl (qp (AB (decide ((0 : Int) < v50002))) rfl ?_)
  refine r_nil ?_
  refine cF hF (fun hF => ?_) fun hF => ?_
  ·
   refine w_skip ?_
   refine thenQ_n ?_
   refine w_block ?_
   refine ws 129 705 ?_
   refine qp (AI v50002) rfl (qp (AI (Int.tmod v50002 10)) (ev_rem rfl rfl (by decide)) (qp (AI (w64 (48 + (Int.tmod v50002 10)))) rfl (qp (.val none (.int .u8 (IntKind.wrap .u8 (w64 (48 + (Int.tmod v50002 10)))))) rfl ?_)))
   refine qf (.sl 385 0 (([IntKind.wrap .u8 (w64 (48 + (Int.tmod v50002 10)))] : List Int).length)) [(385, .row true 1 (([IntKind.wrap .u8 (w64 (48 + (Int.tmod v50002 10)))] : List Int).map (V.int .u8)))] (by simp [List.take_of_length_le]) ?_
   refine qp (AS (bytesI ([IntKind.wrap .u8 (w64 (48 + (Int.tmod v50002 10)))] : List Int))) (ev_bts_r rfl (by simp) rfl) (qp (AS v50003) rfl ?_)
   obtain ⟨g1000, hF⟩ := need_some hF
   refine qp (AS ((bytesI ([IntKind.wrap .u8 (w64 (48 + (Int.tmod v50002 10)))] : List Int)) ++ v50003)) (ev_add_s rfl rfl g1000) (qp (AS ((bytesI ([IntKind.wrap .u8 (w64 (48 + (Int.tmod v50002 10)))] : List Int)) ++ v50003)) rfl ?_)
   refine r_nil ?_
   refine w_reg 705 897 rfl rfl ?_
   refine qp (AI v50002) rfl (qp (AI (w64 (Int.tdiv v50002 10))) (ev_quo rfl rfl (by decide)) (qp (AI (w64 (Int.tdiv v50002 10))) rfl ?_))
   refine r_nil ?_
   refine blockQ_n ?_
   refine thenQ_n ?_
   refine ar (l' := [(0, AI (w64 (Int.tdiv v50002 10))), (3, AS ((bytesI ([IntKind.wrap .u8 (w64 (48 + (Int.tmod v50002 10)))] : List Int)) ++ v50003))]) (L := []) [0, 3] [] 1 ⟨_, by rfl, hF⟩
  ·
   refine w_exit ?_
   refine thenQ_e ?_
   refine thenQ_e ?_
   refine blockQ_e ?_
   refine thenQ_n ?_
   refine ws 129 321 ?_
   refine qp (AS v50003) rfl ?_
   obtain ⟨g1001, hF⟩ := need_some hF
   refine qp (AS ([109] ++ v50003)) (ev_add_s rfl rfl g1001) (qp (AS ([109] ++ v50003)) rfl ?_)
   exact rR hF

def c11 : MC := (.seq (.reg [pT 4 (.mv (ci 0))]) (.seq (.seq (.reg [pT 5 (.mv (ci 0))]) (.block 0 (.loop (.seq (.seq (.reg [mvt 6 5, mvt 7 0, pT 8 (.len t7), pT 9 (.bin .lss t6 t8)]) (.cond t9 .skip (.exit 0))) (.seq (.block 1 (.seq (.reg [mvt 12 0, mvt 13 5, mvt 14 1, rg 15 (.call true 31 [t14]), pT 16 (.iad t12 t13 3), pT 17 (.fad t16 0), ⟨none, none, (.f (.st t17 t15 1))⟩]) (.seq (.reg [mvt 18 1, pT 19 (.bin .add t18 (ci 1)), mvt 1 19]) (.seq (.reg [mvt 20 0, mvt 21 5, mvt 22 1, rg 23 (.call true 31 [t22]), pT 24 (.iad t20 t21 3), pT 25 (.fad t24 1), ⟨none, none, (.f (.st t25 t23 1))⟩]) (.seq (.reg [mvt 26 1, pT 27 (.bin .add t26 (ci 1)), mvt 1 27]) (.seq (.reg [mvt 28 0, mvt 29 5, mvt 30 1, rg 31 (.call true 31 [t30]), pT 32 (.iad t28 t29 3), pT 33 (.fad t32 2), ⟨none, none, (.f (.st t33 t31 1))⟩]) (.reg [mvt 34 1, pT 35 (.bin .add t34 (ci 1)), mvt 1 35]))))))) (.reg [mvt 10 5, pT 11 (.bin .add t10 (ci 1)), mvt 5 11])))))) (.seq (.reg [mvt 36 1, mvt 4 36]) .ret)))
theorem c11_is : compFnM Tryz.prog 11 = some (c11, [(.tmp 4)]) := by kernel_rfl
theorem c11_ok : okFn Tryz.prog 11 = true := by kernel_rfl

noncomputable def F_laws_markBlockS_l0 (k0 : Int × Int × (List TBlock) → Option ((List TBlock) × Int)) : Int × Int × (List TBlock) → Option ((List TBlock) × Int)
 | (v50003, v50004, v50005) => (bif (decide (v50004 < (v50005.length : Int))) then ((F_laws_markText v50003).bind fun v1000 => ((ix v50005 v50004).bind fun v1001 => ((F_laws_markText (w64 (v50003 + 1))).bind fun v1002 => ((ix (List.set v50005 v50004.toNat (v1000, v1001.2.1, v1001.2.2)) v50004).bind fun v1003 => ((F_laws_markText (w64 ((w64 (v50003 + 1)) + 1))).bind fun v1004 => ((ix (List.set (List.set v50005 v50004.toNat (v1000, v1001.2.1, v1001.2.2)) v50004.toNat (v1003.1, v1002, v1003.2.2)) v50004).bind fun v1005 => k0 (w64 ((w64 ((w64 (v50003 + 1)) + 1)) + 1), w64 (v50004 + 1), List.set (List.set (List.set v50005 v50004.toNat (v1000, v1001.2.1, v1001.2.2)) v50004.toNat (v1003.1, v1002, v1003.2.2)) v50004.toNat (v1005.1, v1005.2.1, v1004))))))))
 else some (v50005, v50003))
noncomputable def F_laws_markBlockS (v0 : List TBlock) (v1 : Int) : Option ((List TBlock) × Int) :=
 loop (F_laws_markBlockS_l0) (v1, 0, v0)
@[simp] abbrev K1l (v50005 : List TBlock) (v50004 : Int) (v1000 : List UInt8) (v1001 : TBlock) : List (Nat × Root) := [(0, .row true 3 ((List.set v50005 v50004.toNat (v1000, v1001.2.1, v1001.2.2)).map eBlock)), (0, .row true 3 (v50005.map eBlock))]
@[simp] abbrev K1m (v50005 : List TBlock) (v50004 : Int) (v1000 : List UInt8) (v1001 : TBlock) (v1003 : TBlock) (v1002 : List UInt8) : List (Nat × Root) := ((0, .row true 3 ((List.set (List.set v50005 v50004.toNat (v1000, v1001.2.1, v1001.2.2)) v50004.toNat (v1003.1, v1002, v1003.2.2)).map eBlock)) :: (K1l v50005 v50004 v1000 v1001))
theorem con_laws_markBlockS {v0 : List TBlock} {v1 : Int} {r : (List TBlock) × Int} (hF : F_laws_markBlockS v0 v1 = some r) : ConM Tryz.prog 11 (.one (.row true 3 (v0.map eBlock))) (.one (.row true 3 (r.1.map eBlock))) [.int .i64 v1] (.int .i64 r.2) := by
 unfold F_laws_markBlockS at hF
 refine conM_of (av := .sl 0 0 v0.length) (L := [(0, .row true 3 (v0.map eBlock))]) c11_is rfl rfl rfl (by simp) fun N => ?_
 refine ws 64 128 ?_
 refine qp (AI 0) rfl ?_
 refine r_nil ?_
 refine w_seq ?_
 refine ws 128 192 ?_
 refine qp (AI 0) rfl ?_
 refine r_nil ?_
 refine w_block ?_
 refine wr (l' := [(0, .sl 0 0 v0.length), (1, AI v1), (5, AI 0)]) (L := [(0, .row true 3 (v0.map eBlock))]) [0, 1, 5] [(0, 0)] 1 ?_
 refine w_loopF (F_laws_markBlockS_l0) (fun s : Int × Int × (List TBlock) => mkS [(0, .sl 0 0 s.2.2.length), (1, AI s.1), (5, AI s.2.1)] (fo [(0, .row true 3 (s.2.2.map eBlock))]) 1) hF ?_
 rintro k0 ⟨v50003, v50004, v50005⟩ hF
 rw [F_laws_markBlockS_l0] at hF
 try dsimp only
 refine w_seq ?_
 refine ws 1 257 ?_
 refine qp (AI v50004) rfl (qp (.sl 0 0 v50005.length) rfl (qp (AI (v50005.length : Int)) rfl (qp (AB (decide (v50004 < (v50005.length : Int)))) rfl ?_)))
 refine r_nil ?_
 refine cF hF (fun hF => ?_) fun hF => ?_
 ·
  refine w_skip ?_
  refine thenQ_n ?_
  refine w_seq ?_
  refine w_block ?_
  refine ws 257 705 ?_
  refine qp (.sl 0 0 v50005.length) rfl (qp (AI v50004) rfl (qp (AI v50003) rfl ?_))
  obtain ⟨v1000, e1000, hF⟩ := bind_get hF
  refine qc (AS v1000) [(0, .row true 3 (v50005.map eBlock))] false (con_laws_markText e1000) c31_ok (by first | rfl | simp) rfl ?_
  obtain ⟨v1001, e1001, hF⟩ := bind_get hF
  refine qp (.ptr 0 v50004.toNat 0) (ev_iad_r rfl (by simp) rfl rfl e1001) (qp (.ptr 0 v50004.toNat 0) rfl ?_)
  refine qf0 (.undef) (K1l v50005 v50004 v1000 v1001) (effT_st rfl rfl (ix_some e1001).2 rfl rfl (by rfl) (by first | rfl | simp [patch, reb, List.take_of_length_le]) (by rfl) rfl) ?_
  refine r_nil ?_
  refine ws 705 897 ?_
  refine qp (AI v50003) rfl (qp (AI (w64 (v50003 + 1))) rfl (qp (AI (w64 (v50003 + 1))) rfl ?_))
  refine r_nil ?_
  refine ws 897 1345 ?_
  refine qp (.sl 0 0 v50005.length) rfl (qp (AI v50004) rfl (qp (AI (w64 (v50003 + 1))) rfl ?_))
  obtain ⟨v1002, e1002, hF⟩ := bind_get hF
  refine qc (AS v1002) (K1l v50005 v50004 v1000 v1001) false (con_laws_markText e1002) c31_ok (by first | rfl | simp) rfl ?_
  obtain ⟨v1003, e1003, hF⟩ := bind_get hF
  refine qp (.ptr 0 v50004.toNat 0) (ev_iad_r rfl (by simp) rfl rfl e1003) (qp (.ptr 0 v50004.toNat 1) rfl ?_)
  refine qf0 (.undef) (K1m v50005 v50004 v1000 v1001 v1003 v1002) (effT_st rfl rfl (ix_some e1003).2 rfl rfl (by rfl) (by first | rfl | simp [patch, reb, List.take_of_length_le]) (by rfl) rfl) ?_
  refine r_nil ?_
  refine ws 1345 1537 ?_
  refine qp (AI (w64 (v50003 + 1))) rfl (qp (AI (w64 ((w64 (v50003 + 1)) + 1))) rfl (qp (AI (w64 ((w64 (v50003 + 1)) + 1))) rfl ?_))
  refine r_nil ?_
  refine ws 1537 1985 ?_
  refine qp (.sl 0 0 v50005.length) rfl (qp (AI v50004) rfl (qp (AI (w64 ((w64 (v50003 + 1)) + 1))) rfl ?_))
  obtain ⟨v1004, e1004, hF⟩ := bind_get hF
  refine qc (AS v1004) (K1m v50005 v50004 v1000 v1001 v1003 v1002) false (con_laws_markText e1004) c31_ok (by first | rfl | simp) rfl ?_
  obtain ⟨v1005, e1005, hF⟩ := bind_get hF
  refine qp (.ptr 0 v50004.toNat 0) (ev_iad_r rfl (by simp) rfl rfl e1005) (qp (.ptr 0 v50004.toNat 2) rfl ?_)
  refine qf0 (.undef) ((0, .row true 3 ((List.set (List.set (List.set v50005 v50004.toNat (v1000, v1001.2.1, v1001.2.2)) v50004.toNat (v1003.1, v1002, v1003.2.2)) v50004.toNat (v1005.1, v1005.2.1, v1004)).map eBlock)) :: (K1m v50005 v50004 v1000 v1001 v1003 v1002)) (effT_st rfl rfl (ix_some e1005).2 rfl rfl (by rfl) (by first | rfl | simp [patch, reb, List.take_of_length_le]) (by rfl) rfl) ?_
  refine r_nil ?_
  refine w_reg 1985 2177 rfl rfl ?_
  refine qp (AI (w64 ((w64 (v50003 + 1)) + 1))) rfl (qp (AI (w64 ((w64 ((w64 (v50003 + 1)) + 1)) + 1))) rfl (qp (AI (w64 ((w64 ((w64 (v50003 + 1)) + 1)) + 1))) rfl ?_))
  refine r_nil ?_
  refine blockQ_n ?_
  refine thenQ_n ?_
  refine w_reg 2177 2369 rfl rfl ?_
  refine qp (AI v50004) rfl (qp (AI (w64 (v50004 + 1))) rfl (qp (AI (w64 (v50004 + 1))) rfl ?_))
  refine r_nil ?_
  refine thenQ_n ?_
  refine ar (l' := [(0, .sl 0 0 (List.set (List.set (List.set v50005 v50004.toNat (v1000, v1001.2.1, v1001.2.2)) v50004.toNat (v1003.1, v1002, v1003.2.2)) v50004.toNat (v1005.1, v1005.2.1, v1004)).length), (1, AI (w64 ((w64 ((w64 (v50003 + 1)) + 1)) + 1))), (5, AI (w64 (v50004 + 1)))]) (L := [(0, .row true 3 ((List.set (List.set (List.set v50005 v50004.toNat (v1000, v1001.2.1, v1001.2.2)) v50004.toNat (v1003.1, v1002, v1003.2.2)) v50004.toNat (v1005.1, v1005.2.1, v1004)).map eBlock))]) [0, 1, 5] [(0, 0)] 1 ⟨_, by rfl, hF⟩
 ·
  refine w_exit ?_
  refine thenQ_e ?_
  refine thenQ_e ?_
  refine blockQ_e ?_
  refine thenQ_n ?_
  refine ws 257 385 ?_
  refine qp (AI v50003) rfl (qp (AI v50003) rfl ?_)
  refine r_nil ?_
  refine w_ret ?_
  cases hF
  exact endM_r rfl rfl (by first | rfl | (simp [List.take_of_length_le]; first | exact ⟨rfl, rfl⟩ | rfl)) (by simp)

def c32 : MC := (.seq (.reg [pT 4 (.mv (ci 0))]) (.seq (.seq (.reg [pT 5 (.mv (ci 0))]) (.block 0 (.loop (.seq (.seq (.reg [mvt 6 5, mvt 7 0, pT 8 (.len t7), pT 9 (.bin .lss t6 t8)]) (.cond t9 .skip (.exit 0))) (.seq (.block 1 (.seq (.reg [mvt 12 0, mvt 13 5, mvt 14 1, pT 15 (.iad t12 t13 2), pT 16 (.fad t15 0), ⟨none, none, (.f (.st t16 t14 1))⟩]) (.seq (.reg [mvt 17 1, pT 18 (.bin .add t17 (ci 1)), mvt 1 18]) (.seq (.reg [mvt 19 0, mvt 20 5, mvt 21 1, pT 22 (.iad t19 t20 2), pT 23 (.fad t22 1), ⟨none, none, (.f (.st t23 t21 1))⟩]) (.reg [mvt 24 1, pT 25 (.bin .add t24 (ci 1)), mvt 1 25]))))) (.reg [mvt 10 5, pT 11 (.bin .add t10 (ci 1)), mvt 5 11])))))) (.seq (.reg [mvt 26 1, mvt 4 26]) .ret)))
theorem c32_is : compFnM Tryz.prog 32 = some (c32, [(.tmp 4)]) := by kernel_rfl
theorem c32_ok : okFn Tryz.prog 32 = true := by kernel_rfl

noncomputable def F_laws_markNoteS_l0 (k0 : Int × Int × (List TNote) → Option ((List TNote) × Int)) : Int × Int × (List TNote) → Option ((List TNote) × Int)
 | (v50003, v50004, v50005) => (bif (decide (v50004 < (v50005.length : Int))) then ((ix v50005 v50004).bind fun v1000 => ((ix (List.set v50005 v50004.toNat (v50003, v1000.2)) v50004).bind fun v1001 => k0 (w64 ((w64 (v50003 + 1)) + 1), w64 (v50004 + 1), List.set (List.set v50005 v50004.toNat (v50003, v1000.2)) v50004.toNat (v1001.1, w64 (v50003 + 1)))))
 else some (v50005, v50003))
noncomputable def F_laws_markNoteS (v0 : List TNote) (v1 : Int) : Option ((List TNote) × Int) :=
 loop (F_laws_markNoteS_l0) (v1, 0, v0)
@[simp] abbrev K1n (v50005 : List TNote) (v50004 : Int) (v50003 : Int) (v1000 : TNote) : List (Nat × Root) := [(0, .row true 2 ((List.set v50005 v50004.toNat (v50003, v1000.2)).map eNote)), (0, .row true 2 (v50005.map eNote))]
theorem con_laws_markNoteS {v0 : List TNote} {v1 : Int} {r : (List TNote) × Int} (hF : F_laws_markNoteS v0 v1 = some r) : ConM Tryz.prog 32 (.one (.row true 2 (v0.map eNote))) (.one (.row true 2 (r.1.map eNote))) [.int .i64 v1] (.int .i64 r.2) := by
 unfold F_laws_markNoteS at hF
 refine conM_of (av := .sl 0 0 v0.length) (L := [(0, .row true 2 (v0.map eNote))]) c32_is rfl rfl rfl (by simp) fun N => ?_
 refine ws 64 128 ?_
 refine qp (AI 0) rfl ?_
 refine r_nil ?_
 refine w_seq ?_
 refine ws 128 192 ?_
 refine qp (AI 0) rfl ?_
 refine r_nil ?_
 refine w_block ?_
 refine wr (l' := [(0, .sl 0 0 v0.length), (1, AI v1), (5, AI 0)]) (L := [(0, .row true 2 (v0.map eNote))]) [0, 1, 5] [(0, 0)] 1 ?_
 refine w_loopF (F_laws_markNoteS_l0) (fun s : Int × Int × (List TNote) => mkS [(0, .sl 0 0 s.2.2.length), (1, AI s.1), (5, AI s.2.1)] (fo [(0, .row true 2 (s.2.2.map eNote))]) 1) hF ?_
 rintro k0 ⟨v50003, v50004, v50005⟩ hF
 rw [F_laws_markNoteS_l0] at hF
 try dsimp only
 refine w_seq ?_
 refine ws 1 257 ?_
 refine qp (AI v50004) rfl (qp (.sl 0 0 v50005.length) rfl (qp (AI (v50005.length : Int)) rfl (qp (AB (decide (v50004 < (v50005.length : Int)))) rfl ?_)))
 refine r_nil ?_
 refine cF hF (fun hF => ?_) fun hF => ?_
 ·
  refine w_skip ?_
  refine thenQ_n ?_
  refine w_seq ?_
  refine w_block ?_
  refine ws 257 641 ?_
  refine qp (.sl 0 0 v50005.length) rfl (qp (AI v50004) rfl (qp (AI v50003) rfl ?_))
  obtain ⟨v1000, e1000, hF⟩ := bind_get hF
  refine qp (.ptr 0 v50004.toNat 0) (ev_iad_r rfl (by simp) rfl rfl e1000) (qp (.ptr 0 v50004.toNat 0) rfl ?_)
  refine qf0 (.undef) (K1n v50005 v50004 v50003 v1000) (effT_st rfl rfl (ix_some e1000).2 rfl rfl (by rfl) (by first | rfl | simp [patch, reb, List.take_of_length_le]) (by rfl) rfl) ?_
  refine r_nil ?_
  refine ws 641 833 ?_
  refine qp (AI v50003) rfl (qp (AI (w64 (v50003 + 1))) rfl (qp (AI (w64 (v50003 + 1))) rfl ?_))
  refine r_nil ?_
  refine ws 833 1217 ?_
  refine qp (.sl 0 0 v50005.length) rfl (qp (AI v50004) rfl (qp (AI (w64 (v50003 + 1))) rfl ?_))
  obtain ⟨v1001, e1001, hF⟩ := bind_get hF
  refine qp (.ptr 0 v50004.toNat 0) (ev_iad_r rfl (by simp) rfl rfl e1001) (qp (.ptr 0 v50004.toNat 1) rfl ?_)
  refine qf0 (.undef) ((0, .row true 2 ((List.set (List.set v50005 v50004.toNat (v50003, v1000.2)) v50004.toNat (v1001.1, w64 (v50003 + 1))).map eNote)) :: (K1n v50005 v50004 v50003 v1000)) (effT_st rfl rfl (ix_some e1001).2 rfl rfl (by rfl) (by first | rfl | simp [patch, reb, List.take_of_length_le]) (by rfl) rfl) ?_
  refine r_nil ?_
  refine w_reg 1217 1409 rfl rfl ?_
  refine qp (AI (w64 (v50003 + 1))) rfl (qp (AI (w64 ((w64 (v50003 + 1)) + 1))) rfl (qp (AI (w64 ((w64 (v50003 + 1)) + 1))) rfl ?_))
  refine r_nil ?_
  refine blockQ_n ?_
  refine thenQ_n ?_
  refine w_reg 1409 1601 rfl rfl ?_
  refine qp (AI v50004) rfl (qp (AI (w64 (v50004 + 1))) rfl (qp (AI (w64 (v50004 + 1))) rfl ?_))
  refine r_nil ?_
  refine thenQ_n ?_
  refine ar (l' := [(0, .sl 0 0 (List.set (List.set v50005 v50004.toNat (v50003, v1000.2)) v50004.toNat (v1001.1, w64 (v50003 + 1))).length), (1, AI (w64 ((w64 (v50003 + 1)) + 1))), (5, AI (w64 (v50004 + 1)))]) (L := [(0, .row true 2 ((List.set (List.set v50005 v50004.toNat (v50003, v1000.2)) v50004.toNat (v1001.1, w64 (v50003 + 1))).map eNote))]) [0, 1, 5] [(0, 0)] 1 ⟨_, by rfl, hF⟩
 ·
  refine w_exit ?_
  refine thenQ_e ?_
  refine thenQ_e ?_
  refine blockQ_e ?_
  refine thenQ_n ?_
  refine ws 257 385 ?_
  refine qp (AI v50003) rfl (qp (AI v50003) rfl ?_)
  refine r_nil ?_
  refine w_ret ?_
  cases hF
  exact endM_r rfl rfl (by first | rfl | (simp [List.take_of_length_le]; first | exact ⟨rfl, rfl⟩ | rfl)) (by simp)

def c12 : MC := (.seq (.reg [pT 4 (.mv (ci 0))]) (.seq (.seq (.reg [pT 5 (.mv (ci 0))]) (.block 0 (.loop (.seq (.seq (.reg [mvt 6 5, mvt 7 0, pT 8 (.len t7), pT 9 (.bin .lss t6 t8)]) (.cond t9 .skip (.exit 0))) (.seq (.block 1 (.seq (.reg [mvt 12 0, mvt 13 5, mvt 14 1, rg 15 (.call true 31 [t14]), pT 16 (.iad t12 t13 2), pT 17 (.fad t16 0), ⟨none, none, (.f (.st t17 t15 1))⟩]) (.seq (.reg [mvt 18 1, pT 19 (.bin .add t18 (ci 1)), mvt 1 19]) (.reg [mvt 20 0, mvt 21 5, pT 22 (.iad t20 t21 2), pT 23 (.fad t22 1), pT 24 (.ld t23 1 false), mvt 25 1, rg 26 (.call true 32 [t24, t25]), mvt 1 26])))) (.reg [mvt 10 5, pT 11 (.bin .add t10 (ci 1)), mvt 5 11])))))) (.seq (.reg [mvt 27 1, mvt 4 27]) .ret)))
theorem c12_is : compFnM Tryz.prog 12 = some (c12, [(.tmp 4)]) := by kernel_rfl
theorem c12_ok : okFn Tryz.prog 12 = true := by kernel_rfl

noncomputable def F_laws_markNamedMelodyS_l0 (k0 : Int × Int × (List TNamedMelody) → Option ((List TNamedMelody) × Int)) : Int × Int × (List TNamedMelody) → Option ((List TNamedMelody) × Int)
 | (v50003, v50004, v50005) => (bif (decide (v50004 < (v50005.length : Int))) then ((F_laws_markText v50003).bind fun v1000 => ((ix v50005 v50004).bind fun v1001 => ((ix (List.set v50005 v50004.toNat (v1000, v1001.2)) v50004).bind fun v1002 => ((F_laws_markNoteS v1002.2 (w64 (v50003 + 1))).bind fun v1003 => need (v1003.1.length = v1002.2.length) (k0 (v1003.2, w64 (v50004 + 1), List.set (List.set v50005 v50004.toNat (v1000, v1001.2)) v50004.toNat (v1002.1, v1003.1)))))))
 else some (v50005, v50003))
noncomputable def F_laws_markNamedMelodyS (v0 : List TNamedMelody) (v1 : Int) : Option ((List TNamedMelody) × Int) :=
 loop (F_laws_markNamedMelodyS_l0) (v1, 0, v0)
@[simp] abbrev K1o (v50005 : List TNamedMelody) (v50004 : Int) (v1000 : List UInt8) (v1001 : TNamedMelody) : List (Nat × Root) := [(0, .row true 2 ((List.set v50005 v50004.toNat (v1000, v1001.2)).map eNamedMelody)), (0, .row true 2 (v50005.map eNamedMelody))]
theorem con_laws_markNamedMelodyS {v0 : List TNamedMelody} {v1 : Int} {r : (List TNamedMelody) × Int} (hF : F_laws_markNamedMelodyS v0 v1 = some r) : ConM Tryz.prog 12 (.one (.row true 2 (v0.map eNamedMelody))) (.one (.row true 2 (r.1.map eNamedMelody))) [.int .i64 v1] (.int .i64 r.2) := by
 unfold F_laws_markNamedMelodyS at hF
 refine conM_of (av := .sl 0 0 v0.length) (L := [(0, .row true 2 (v0.map eNamedMelody))]) c12_is rfl rfl rfl (by simp) fun N => ?_
 refine ws 64 128 ?_
 refine qp (AI 0) rfl ?_
 refine r_nil ?_
 refine w_seq ?_
 refine ws 128 192 ?_
 refine qp (AI 0) rfl ?_
 refine r_nil ?_
 refine w_block ?_
 refine wr (l' := [(0, .sl 0 0 v0.length), (1, AI v1), (5, AI 0)]) (L := [(0, .row true 2 (v0.map eNamedMelody))]) [0, 1, 5] [(0, 0)] 1 ?_
 refine w_loopF (F_laws_markNamedMelodyS_l0) (fun s : Int × Int × (List TNamedMelody) => mkS [(0, .sl 0 0 s.2.2.length), (1, AI s.1), (5, AI s.2.1)] (fo [(0, .row true 2 (s.2.2.map eNamedMelody))]) 1) hF ?_
 rintro k0 ⟨v50003, v50004, v50005⟩ hF
 rw [F_laws_markNamedMelodyS_l0] at hF
 try dsimp only
 refine w_seq ?_
 refine ws 1 257 ?_
 refine qp (AI v50004) rfl (qp (.sl 0 0 v50005.length) rfl (qp (AI (v50005.length : Int)) rfl (qp (AB (decide (v50004 < (v50005.length : Int)))) rfl ?_)))
 refine r_nil ?_
 refine cF hF (fun hF => ?_) fun hF => ?_
 ·
  refine w_skip ?_
  refine thenQ_n ?_
  refine w_seq ?_
  refine w_block ?_
  refine ws 257 705 ?_
  refine qp (.sl 0 0 v50005.length) rfl (qp (AI v50004) rfl (qp (AI v50003) rfl ?_))
  obtain ⟨v1000, e1000, hF⟩ := bind_get hF
  refine qc (AS v1000) [(0, .row true 2 (v50005.map eNamedMelody))] false (con_laws_markText e1000) c31_ok (by first | rfl | simp) rfl ?_
  obtain ⟨v1001, e1001, hF⟩ := bind_get hF
  refine qp (.ptr 0 v50004.toNat 0) (ev_iad_r rfl (by simp) rfl rfl e1001) (qp (.ptr 0 v50004.toNat 0) rfl ?_)
  refine qf0 (.undef) (K1o v50005 v50004 v1000 v1001) (effT_st rfl rfl (ix_some e1001).2 rfl rfl (by rfl) (by first | rfl | simp [patch, reb, List.take_of_length_le]) (by rfl) rfl) ?_
  refine r_nil ?_
  refine ws 705 897 ?_
  refine qp (AI v50003) rfl (qp (AI (w64 (v50003 + 1))) rfl (qp (AI (w64 (v50003 + 1))) rfl ?_))
  refine r_nil ?_
  refine w_reg 897 1409 rfl rfl ?_
  refine qp (.sl 0 0 v50005.length) rfl (qp (AI v50004) rfl ?_)
  obtain ⟨v1002, e1002, hF⟩ := bind_get hF
  refine qp (.ptr 0 v50004.toNat 0) (ev_iad_r rfl (by simp) rfl rfl e1002) (qp (.ptr 0 v50004.toNat 1) rfl ?_)
  obtain ⟨v1003, e1003, hF⟩ := bind_get hF
  obtain ⟨g1004, hF⟩ := need_some hF
  refine qm_l ((0, .row true 2 ((List.set (List.set v50005 v50004.toNat (v1000, v1001.2)) v50004.toNat (v1002.1, v1003.1)).map eNamedMelody)) :: (K1o v50005 v50004 v1000 v1001)) rfl rfl (map_get (ix_some e1002).2) rfl rfl rfl (con_laws_markNoteS e1003) c32_ok (by simp [g1004]) rfl rfl rfl (by simp [scrO_fo, scrR, scrA, scrAs, patch, reb, List.map_set]) ?_
  refine qp (AI v1003.2) rfl ?_
  refine r_nil ?_
  refine blockQ_n ?_
  refine thenQ_n ?_
  refine w_reg 1409 1601 rfl rfl ?_
  refine qp (AI v50004) rfl (qp (AI (w64 (v50004 + 1))) rfl (qp (AI (w64 (v50004 + 1))) rfl ?_))
  refine r_nil ?_
  refine thenQ_n ?_
  refine ar (l' := [(0, .sl 0 0 (List.set (List.set v50005 v50004.toNat (v1000, v1001.2)) v50004.toNat (v1002.1, v1003.1)).length), (1, AI v1003.2), (5, AI (w64 (v50004 + 1)))]) (L := [(0, .row true 2 ((List.set (List.set v50005 v50004.toNat (v1000, v1001.2)) v50004.toNat (v1002.1, v1003.1)).map eNamedMelody))]) [0, 1, 5] [(0, 0)] 1 ⟨_, by rfl, hF⟩
 ·
  refine w_exit ?_
  refine thenQ_e ?_
  refine thenQ_e ?_
  refine blockQ_e ?_
  refine thenQ_n ?_
  refine ws 257 385 ?_
  refine qp (AI v50003) rfl (qp (AI v50003) rfl ?_)
  refine r_nil ?_
  refine w_ret ?_
  cases hF
  exact endM_r rfl rfl (by first | rfl | (simp [List.take_of_length_le]; first | exact ⟨rfl, rfl⟩ | rfl)) (by simp)

def c33 : MC := (.seq (.reg [pT 4 (.mv (ci 0))]) (.seq (.seq (.reg [pT 5 (.mv (ci 0))]) (.block 0 (.loop (.seq (.seq (.reg [mvt 6 5, mvt 7 0, pT 8 (.len t7), pT 9 (.bin .lss t6 t8)]) (.cond t9 .skip (.exit 0))) (.seq (.block 1 (.seq (.seq (.reg [mvt 12 0, mvt 13 5, pT 14 (.iad t12 t13 2), pT 15 (.fad t14 0), pT 16 (.ld t15 1 false), mvt 17 1, pT 18 (.bin .neq t16 t17)]) (.cond t18 (.seq (.reg [pT 4 (.mv (ci (-1)))]) .ret) .skip)) (.seq (.reg [mvt 19 1, pT 20 (.bin .add t19 (ci 1)), mvt 1 20]) (.seq (.seq (.reg [mvt 21 0, mvt 22 5, pT 23 (.iad t21 t22 2), pT 24 (.fad t23 1), pT 25 (.ld t24 1 false), mvt 26 1, pT 27 (.bin .neq t25 t26)]) (.cond t27 (.seq (.reg [pT 4 (.mv (ci (-1)))]) .ret) .skip)) (.reg [mvt 28 1, pT 29 (.bin .add t28 (ci 1)), mvt 1 29]))))) (.reg [mvt 10 5, pT 11 (.bin .add t10 (ci 1)), mvt 5 11])))))) (.seq (.reg [mvt 30 1, mvt 4 30]) .ret)))
theorem c33_is : compFn Tryz.prog 33 = some (c33, [(.tmp 4)]) := by kernel_rfl
theorem c33_ok : okFn Tryz.prog 33 = true := by kernel_rfl

noncomputable def F_laws_heldNoteS_l0 (v0 : List TNote) (k0 : Int × Int → Option (Int)) : Int × Int → Option (Int)
 | (v50002, v50003) => (bif (decide (v50003 < (v0.length : Int))) then ((ix v0 v50003).bind fun v1000 => (bif (decide (v1000.1 ≠ v50002)) then some (-1)
 else ((ix v0 v50003).bind fun v1001 => (bif (decide (v1001.2 ≠ w64 (v50002 + 1))) then some (-1)
 else k0 (w64 ((w64 (v50002 + 1)) + 1), w64 (v50003 + 1))))))
 else some v50002)
noncomputable def F_laws_heldNoteS (v0 : List TNote) (v1 : Int) : Option (Int) :=
 loop (F_laws_heldNoteS_l0 v0) (v1, 0)
@[simp] def res_laws_heldNoteS (r : Int) : RV := .one (.one (.val (.int .i64 r)))
theorem con_laws_heldNoteS {v0 : List TNote} {v1 : Int} {r : Int} (hF : F_laws_heldNoteS v0 v1 = some r) : Con Tryz.prog 33 [.sl 2 (v0.map eNote), .int .i64 v1] (res_laws_heldNoteS r) := by
 unfold F_laws_heldNoteS at hF
 refine con_of c33_is fun N => ?_
 refine ws 0 64 ?_
 refine qp (AI 0) rfl ?_
 refine r_nil ?_
 refine w_seq ?_
 refine ws 64 128 ?_
 refine qp (AI 0) rfl ?_
 refine r_nil ?_
 refine w_block ?_
 refine wr (l' := [(0, AL 2 (v0.map eNote)), (1, AI v1), (5, AI 0)]) (L := []) [0, 1, 5] [] 1 ?_
 refine w_loopF (F_laws_heldNoteS_l0 v0) (fun s : Int × Int => mkS [(0, AL 2 (v0.map eNote)), (1, AI s.1), (5, AI s.2)] (fo []) 1) hF ?_
 rintro k0 ⟨v50002, v50003⟩ hF
 rw [F_laws_heldNoteS_l0] at hF
 try dsimp only
 refine w_seq ?_
 refine ws 1 257 ?_
 refine qp (AI v50003) rfl (qp (AL 2 (v0.map eNote)) rfl (qp (AI (v0.length : Int)) (ev_len_n rfl) (qp (AB (decide (v50003 < (v0.length : Int)))) rfl ?_)))
 refine r_nil ?_
 refine cF hF (fun hF => ?_) fun hF => ?_
 ·
  refine w_skip ?_
  refine thenQ_n ?_
  refine w_seq ?_
  refine w_block ?_
  refine w_seq ?_
  refine ws 257 705 ?_
  refine qp (AL 2 (v0.map eNote)) rfl (qp (AI v50003) rfl ?_)
  obtain ⟨v1000, e1000, hF⟩ := bind_get hF
  refine qp (.val none (.ptr [.int .i64 v1000.1, .int .i64 v1000.2])) (ev_iad_n rfl rfl e1000 rfl) (qp (.val none (.ptr [.int .i64 v1000.1, .int .i64 v1000.2])) rfl (qp (AI v1000.1) rfl (qp (AI v50002) rfl (qp (AB (decide (v1000.1 ≠ v50002))) rfl ?_))))
  refine r_nil ?_
  refine cF hF (fun hF => ?_) fun hF => ?_
  ·
   refine ws 705 769 ?_
   refine qp (AI (-1)) rfl ?_
   refine r_nil ?_
   refine w_ret ?_
   refine thenQ_r ?_
   refine blockQ_r ?_
   refine thenQ_r ?_
   refine thenQ_r ?_
   refine blockQ_r ?_
   refine thenQ_r ?_
   cases hF
   exact eR
  ·
   refine w_skip ?_
   refine thenQ_n ?_
   refine ws 705 897 ?_
   refine qp (AI v50002) rfl (qp (AI (w64 (v50002 + 1))) rfl (qp (AI (w64 (v50002 + 1))) rfl ?_))
   refine r_nil ?_
   refine w_seq ?_
   refine ws 897 1345 ?_
   refine qp (AL 2 (v0.map eNote)) rfl (qp (AI v50003) rfl ?_)
   obtain ⟨v1001, e1001, hF⟩ := bind_get hF
   refine qp (.val none (.ptr [.int .i64 v1001.1, .int .i64 v1001.2])) (ev_iad_n rfl rfl e1001 rfl) (qp (.val none (.ptr [.int .i64 v1001.2])) rfl (qp (AI v1001.2) rfl (qp (AI (w64 (v50002 + 1))) rfl (qp (AB (decide (v1001.2 ≠ w64 (v50002 + 1)))) rfl ?_))))
   refine r_nil ?_
   refine cF hF (fun hF => ?_) fun hF => ?_
   ·
    refine ws 1345 1409 ?_
    refine qp (AI (-1)) rfl ?_
    refine r_nil ?_
    refine w_ret ?_
    refine thenQ_r ?_
    refine blockQ_r ?_
    refine thenQ_r ?_
    refine thenQ_r ?_
    refine blockQ_r ?_
    refine thenQ_r ?_
    cases hF
    exact eR
   ·
    refine w_skip ?_
    refine thenQ_n ?_
    refine w_reg 1345 1537 rfl rfl ?_
    refine qp (AI (w64 (v50002 + 1))) rfl (qp (AI (w64 ((w64 (v50002 + 1)) + 1))) rfl (qp (AI (w64 ((w64 (v50002 + 1)) + 1))) rfl ?_))
    refine r_nil ?_
    refine blockQ_n ?_
    refine thenQ_n ?_
    refine w_reg 1537 1729 rfl rfl ?_
    refine qp (AI v50003) rfl (qp (AI (w64 (v50003 + 1))) rfl (qp (AI (w64 (v50003 + 1))) rfl ?_))
    refine r_nil ?_
    refine thenQ_n ?_
    refine ar (l' := [(0, AL 2 (v0.map eNote)), (1, AI (w64 ((w64 (v50002 + 1)) + 1))), (5, AI (w64 (v50003 + 1)))]) (L := []) [0, 1, 5] [] 1 ⟨_, by rfl, hF⟩
 ·
  refine w_exit ?_
  refine thenQ_e ?_
  refine thenQ_e ?_
  refine blockQ_e ?_
  refine thenQ_n ?_
  refine ws 257 385 ?_
  refine qp (AI v50002) rfl (qp (AI v50002) rfl ?_)
  exact rR hF

def c13 : MC := (.seq (.reg [pT 4 (.mv (ci 0))]) (.seq (.seq (.reg [pT 5 (.mv (ci 0))]) (.block 0 (.loop (.seq (.seq (.reg [mvt 6 5, mvt 7 0, pT 8 (.len t7), pT 9 (.bin .lss t6 t8)]) (.cond t9 .skip (.exit 0))) (.seq (.block 1 (.seq (.seq (.reg [mP 12 t0, mP 13 t5, pF 14 (.iad t12 t13 2), pF 15 (.fad t14 0), pF 16 (.ld t15 1 false), mP 17 t1, rg 18 (.call false 31 [t17]), pF 19 (.bin .neq t16 t18)]) (.cond t19 (.seq (.reg [pT 4 (.mv (ci (-1)))]) .ret) .skip)) (.seq (.reg [mvt 20 1, pT 21 (.bin .add t20 (ci 1)), mvt 1 21]) (.seq (.reg [mvt 22 0, mvt 23 5, pT 24 (.iad t22 t23 2), pT 25 (.fad t24 1), pT 26 (.ld t25 1 false), mvt 27 1, rg 28 (.call true 33 [t26, t27]), mvt 1 28]) (.seq (.reg [mvt 29 1, pT 30 (.bin .lss t29 (ci 0))]) (.cond t30 (.seq (.reg [pT 4 (.mv (ci (-1)))]) .ret) .skip)))))) (.reg [mvt 10 5, pT 11 (.bin .add t10 (ci 1)), mvt 5 11])))))) (.seq (.reg [mvt 31 1, mvt 4 31]) .ret)))
theorem c13_is : compFn Tryz.prog 13 = some (c13, [(.tmp 4)]) := by kernel_rfl
theorem c13_ok : okFn Tryz.prog 13 = true := by kernel_rfl

noncomputable def F_laws_heldNamedMelodyS_l0 (v0 : List TNamedMelody) (k0 : Int × Int → Option (Int)) : Int × Int → Option (Int)
 | (v50002, v50003) => (bif (decide (v50003 < (v0.length : Int))) then ((ix v0 v50003).bind fun v1000 => ((F_laws_markText v50002).bind fun v1001 => (bif (decide (v1000.1 ≠ v1001)) then some (-1)
 else ((ix v0 v50003).bind fun v1002 => ((F_laws_heldNoteS v1002.2 (w64 (v50002 + 1))).bind fun v1003 => (bif (decide (v1003 < (0 : Int))) then some (-1)
 else k0 (v1003, w64 (v50003 + 1))))))))
 else some v50002)
noncomputable def F_laws_heldNamedMelodyS (v0 : List TNamedMelody) (v1 : Int) : Option (Int) :=
 loop (F_laws_heldNamedMelodyS_l0 v0) (v1, 0)
@[simp] abbrev K1p (v0 : List TNamedMelody) : V := .sl 2 (v0.map eNamedMelody)
@[simp] def res_laws_heldNamedMelodyS (r : Int) : RV := .one (.one (.val (.int .i64 r)))
theorem con_laws_heldNamedMelodyS {v0 : List TNamedMelody} {v1 : Int} {r : Int} (hF : F_laws_heldNamedMelodyS v0 v1 = some r) : Con Tryz.prog 13 [.sl 2 (v0.map eNamedMelody), .int .i64 v1] (res_laws_heldNamedMelodyS r) := by
 unfold F_laws_heldNamedMelodyS at hF
 refine con_of c13_is fun N => ?_
 refine ws 0 64 ?_
 refine qp (AI 0) rfl ?_
 refine r_nil ?_
 refine w_seq ?_
 refine ws 64 128 ?_
 refine qp (AI 0) rfl ?_
 refine r_nil ?_
 refine w_block ?_
 refine wr (l' := [(0, .val none (K1p v0)), (1, AI v1), (5, AI 0)]) (L := []) [0, 1, 5] [] 1 ?_
 refine w_loopF (F_laws_heldNamedMelodyS_l0 v0) (fun s : Int × Int => mkS [(0, .val none (K1p v0)), (1, AI s.1), (5, AI s.2)] (fo []) 1) hF ?_
 rintro k0 ⟨v50002, v50003⟩ hF
 rw [F_laws_heldNamedMelodyS_l0] at hF
 try dsimp only
 refine w_seq ?_
 refine ws 1 257 ?_
 refine qp (AI v50003) rfl (qp (.val none (K1p v0)) rfl (qp (AI (v0.length : Int)) (ev_len_n rfl) (qp (AB (decide (v50003 < (v0.length : Int)))) rfl ?_)))
 refine r_nil ?_
 refine cF hF (fun hF => ?_) fun hF => ?_
 ·
  refine w_skip ?_
  refine thenQ_n ?_
  refine w_seq ?_
  refine w_block ?_
  refine w_seq ?_
  refine ws 257 769 ?_
  refine qp (.val none (K1p v0)) rfl (qp (AI v50003) rfl ?_)
  obtain ⟨v1000, e1000, hF⟩ := bind_get hF
  refine qp (.val none (.ptr [.str v1000.1, .sl 2 (v1000.2.map eNote)])) (ev_iad_n rfl rfl e1000 rfl) (qp (.val none (.ptr [.str v1000.1, .sl 2 (v1000.2.map eNote)])) rfl (qp (AS v1000.1) rfl (qp (AI v50002) rfl ?_)))
  obtain ⟨v1001, e1001, hF⟩ := bind_get hF
  refine qc (AS v1001) [] false (con_laws_markText e1001) c31_ok (by first | rfl | simp) rfl ?_
  refine qp (AB (decide (v1000.1 ≠ v1001))) rfl ?_
  refine r_nil ?_
  refine cF hF (fun hF => ?_) fun hF => ?_
  ·
   refine ws 769 833 ?_
   refine qp (AI (-1)) rfl ?_
   refine r_nil ?_
   refine w_ret ?_
   refine thenQ_r ?_
   refine blockQ_r ?_
   refine thenQ_r ?_
   refine thenQ_r ?_
   refine blockQ_r ?_
   refine thenQ_r ?_
   cases hF
   exact eR
  ·
   refine w_skip ?_
   refine thenQ_n ?_
   refine ws 769 961 ?_
   refine qp (AI v50002) rfl (qp (AI (w64 (v50002 + 1))) rfl (qp (AI (w64 (v50002 + 1))) rfl ?_))
   refine r_nil ?_
   refine ws 961 1473 ?_
   refine qp (.val none (K1p v0)) rfl (qp (AI v50003) rfl ?_)
   obtain ⟨v1002, e1002, hF⟩ := bind_get hF
   refine qp (.val none (.ptr [.str v1002.1, .sl 2 (v1002.2.map eNote)])) (ev_iad_n rfl rfl e1002 rfl) (qp (.val none (.ptr [.sl 2 (v1002.2.map eNote)])) rfl (qp (AL 2 (v1002.2.map eNote)) rfl (qp (AI (w64 (v50002 + 1))) rfl ?_)))
   obtain ⟨v1003, e1003, hF⟩ := bind_get hF
   refine qc (AI v1003) [] false (con_laws_heldNoteS e1003) c33_ok (by first | rfl | simp) rfl ?_
   refine qp (AI v1003) rfl ?_
   refine r_nil ?_
   refine ws 1473 1601 ?_
   refine qp (AI v1003) rfl (qp (AB (decide (v1003 < (0 : Int)))) rfl ?_)
   refine r_nil ?_
   refine cF hF (fun hF => ?_) fun hF => ?_
   ·
    refine ws 1601 1665 ?_
    refine qp (AI (-1)) rfl ?_
    refine r_nil ?_
    refine w_ret ?_
    refine blockQ_r ?_
    refine thenQ_r ?_
    refine thenQ_r ?_
    refine blockQ_r ?_
    refine thenQ_r ?_
    cases hF
    exact eR
   ·
    refine w_skip ?_
    refine blockQ_n ?_
    refine thenQ_n ?_
    refine w_reg 1601 1793 rfl rfl ?_
    refine qp (AI v50003) rfl (qp (AI (w64 (v50003 + 1))) rfl (qp (AI (w64 (v50003 + 1))) rfl ?_))
    refine r_nil ?_
    refine thenQ_n ?_
    refine ar (l' := [(0, .val none (K1p v0)), (1, AI v1003), (5, AI (w64 (v50003 + 1)))]) (L := []) [0, 1, 5] [] 1 ⟨_, by rfl, hF⟩
 ·
  refine w_exit ?_
  refine thenQ_e ?_
  refine thenQ_e ?_
  refine blockQ_e ?_
  refine thenQ_n ?_
  refine ws 257 385 ?_
  refine qp (AI v50002) rfl (qp (AI v50002) rfl ?_)
  exact rR hF

def c3 : MC := (.seq (.reg [pT 2 (.mv cf)]) (.seq (.reg [pT 3 (.mv (ci 1048576))]) (.seq (.reg [mvt 14 0, mvt 15 3, rg 16 (.call true 5 [t14, t15]), mvt 3 16]) (.seq (.seq (.reg [mvt 17 3, pT 18 (.bin .lss t17 (ci 0))]) (.cond t18 (.seq (.reg [pT 2 (.mv ct)]) .ret) .skip)) (.seq (.reg [mvt 20 0, rg 21 (.call true 7 [t20]), rg 22 (.call true 6 [t21]), mvt 19 22, pT 23 (.ext t19 0), pT 24 (.ext t19 1), mvt 4 23, mvt 5 24]) (.seq (.reg [mvt 25 0, rg 26 (.call true 7 [t25]), mvt 6 26]) (.seq (.reg [mvt 28 6, rg 29 (.call true 8 [t28]), mvt 27 29, pT 30 (.ext t27 0), pT 31 (.ext t27 1), mvt 7 30, mvt 8 31]) (.seq (.seq (.reg [mvt 32 7, mvt 33 4, rg 34 (.call true 9 [t32, t33]), pT 35 (.not t34), mvt 36 35, nF 37 36 t8, nF 38 36 t5, kF 39 36 (.bin .neq t37 t38), pT 40 (.pick t36 ct t39)]) (.cond t40 (.seq (.reg [pT 2 (.mv cf)]) .ret) .skip)) (.seq (.seq (.reg [mvt 41 6, mvt 42 0, rg 43 (.call true 7 [t42]), rg 44 (.call true 10 [t41, t43]), pT 45 (.not t44)]) (.cond t45 (.seq (.reg [pT 2 (.mv cf)]) .ret) .skip)) (.seq (.reg [pT 9 (.mv (ci 1))]) (.seq (.reg [mvt 46 6, mvt 47 9, rg 48 (.call true 11 [t46, t47]), mvt 9 48]) (.seq (.seq (.reg [mvt 49 9, pT 50 (.bin .lss t49 (ci 0)), mvt 51 50, nF 52 51 t7, nF 53 51 t4, ⟨(some 54), (some (51, false)), (.call true 9 [t52, t53])⟩, kF 55 51 (.not t54), pT 56 (.pick t51 ct t55), mvt 57 56, nF 58 57 t8, nF 59 57 t5, kF 60 57 (.bin .neq t58 t59), pT 61 (.pick t57 ct t60)]) (.cond t61 (.seq (.reg [pT 2 (.mv cf)]) .ret) .skip)) (.seq (.reg [pT 10 (.mv (ci 1))]) (.seq (.reg [mvt 62 7, mvt 63 10, rg 64 (.call true 12 [t62, t63]), mvt 10 64]) (.seq (.reg [pT 11 (.mv (ci 1))]) (.seq (.reg [mvt 65 7, mvt 66 11, rg 67 (.call true 13 [t65, t66]), mvt 11 67]) (.seq (.seq (.reg [mvt 68 11, pT 69 (.bin .lss t68 (ci 0))]) (.cond t69 (.seq (.reg [pT 2 (.mv cf)]) .ret) .skip)) (.seq (.seq (.reg [mvt 70 11, mvt 71 10, pT 72 (.bin .neq t70 t71)]) (.cond t72 (.seq (.reg [pT 2 (.mv cf)]) .ret) .skip)) (.seq (.reg [mvt 74 0, rg 75 (.call true 7 [t74]), rg 76 (.call true 8 [t75]), mvt 73 76, pT 77 (.ext t73 0), pT 78 (.ext t73 1), mvt 12 77, mvt 13 78]) (.seq (.seq (.reg [mvt 79 12, mvt 80 4, rg 81 (.call true 9 [t79, t80]), pT 82 (.not t81), mvt 83 82, nF 84 83 t13, nF 85 83 t5, kF 86 83 (.bin .neq t84 t85), pT 87 (.pick t83 ct t86)]) (.cond t87 (.seq (.reg [pT 2 (.mv cf)]) .ret) .skip)) (.seq (.reg [pT 11 (.mv (ci 1))]) (.seq (.reg [mvt 88 7, mvt 89 11, rg 90 (.call true 13 [t88, t89]), mvt 11 90]) (.seq (.seq (.reg [mvt 91 11, pT 92 (.bin .lss t91 (ci 0))]) (.cond t92 (.seq (.reg [pT 2 (.mv cf)]) .ret) .skip)) (.seq (.seq (.reg [mvt 93 11, mvt 94 10, pT 95 (.bin .neq t93 t94)]) (.cond t95 (.seq (.reg [pT 2 (.mv cf)]) .ret) .skip)) (.seq (.reg [pT 2 (.mv ct)]) .ret)))))))))))))))))))))))))
theorem c3_is : compFn Tryz.prog 3 = some (c3, [(.tmp 2)]) := by kernel_rfl
theorem c3_ok : okFn Tryz.prog 3 = true := by kernel_rfl

noncomputable def F_laws_FnExactLibraryOfBlocks (v0 : List TBlock) : Option (Bool) :=
 ((F_laws_szBlockS v0 1048576).bind fun v1000 => (bif (decide (v1000 < (0 : Int))) then some true
 else ((F_laws_toBlockS v0).bind fun v1001 => ((F_spec_LibraryOfBlocks v1001).bind fun v1002 => ((F_laws_toBlockS v0).bind fun v1003 => ((F_impl_LibraryOfBlocks v1003).bind fun v1004 => ((F_laws_eqNamedMelodyS v1004.1 v1002.1).bind fun v1006 => (bif (!v1006) then some false
 else (bif (decide (v1004.2 ≠ v1002.2)) then some false
 else ((F_laws_toBlockS v0).bind fun v1007 => ((F_laws_eqBlockS v1003 v1007).bind fun v1008 => (bif (!v1008) then some false
 else ((F_laws_markBlockS v1003 1).bind fun v1009 => need (v1009.1.length = v1003.length) ((bif (decide (v1009.2 < (0 : Int))) then some false
 else ((F_laws_eqNamedMelodyS v1004.1 v1002.1).bind fun v1012 => (bif (!v1012) then some false
 else (bif (decide (v1004.2 ≠ v1002.2)) then some false
 else ((F_laws_markNamedMelodyS v1004.1 1).bind fun v1013 => need (v1013.1.length = v1004.1.length) (((F_laws_heldNamedMelodyS v1013.1 1).bind fun v1015 => (bif (decide (v1015 < (0 : Int))) then some false
 else (bif (decide (v1015 ≠ v1013.2)) then some false
 else ((F_laws_toBlockS v0).bind fun v1016 => ((F_impl_LibraryOfBlocks v1016).bind fun v1017 => ((F_laws_eqNamedMelodyS v1017.1 v1002.1).bind fun v1019 => (bif (!v1019) then some false
 else (bif (decide (v1017.2 ≠ v1002.2)) then some false
 else ((F_laws_heldNamedMelodyS v1013.1 1).bind fun v1020 => (bif (decide (v1020 < (0 : Int))) then some false
 else (bif (decide (v1020 ≠ v1013.2)) then some false
 else some true)))))))))))))))))))))))))))))))
@[simp] abbrev K1q (v1002 : (List TNamedMelody) × Int) (v1001 : List TBlock) : List (Nat × Root) := [(640, .row true 2 (v1002.1.map eNamedMelody)), (576, .row true 3 (v1001.map eBlock))]
@[simp] abbrev K1r (v1003 : List TBlock) (v1002 : (List TNamedMelody) × Int) (v1001 : List TBlock) : List (Nat × Root) := ((1088, .row true 3 (v1003.map eBlock)) :: (K1q v1002 v1001))
@[simp] abbrev K1s (v1004 : (List TNamedMelody) × Int) (v1003 : List TBlock) (v1002 : (List TNamedMelody) × Int) (v1001 : List TBlock) : List (Nat × Root) := ((1280, .row true 2 (v1004.1.map eNamedMelody)) :: (K1r v1003 v1002 v1001))
@[simp] abbrev K1u (v1009 : (List TBlock) × Int) (v1007 : List TBlock) (v1004 : (List TNamedMelody) × Int) (v1003 : List TBlock) (v1002 : (List TNamedMelody) × Int) (v1001 : List TBlock) : List (Nat × Root) := ((1088, .row true 3 (v1009.1.map eBlock)) :: (2368, .row true 3 (v1007.map eBlock)) :: (K1s v1004 v1003 v1002 v1001))
@[simp] abbrev K1w (v1016 : List TBlock) (v1013 : (List TNamedMelody) × Int) (v1009 : (List TBlock) × Int) (v1007 : List TBlock) (v1004 : (List TNamedMelody) × Int) (v1003 : List TBlock) (v1002 : (List TNamedMelody) × Int) (v1001 : List TBlock) : List (Nat × Root) := ((4736, .row true 3 (v1016.map eBlock)) :: (1280, .row true 2 (v1013.1.map eNamedMelody)) :: (K1u v1009 v1007 v1004 v1003 v1002 v1001))
@[simp] abbrev K1y (v0 : List TBlock) : AV := AL 3 (v0.map eBlock)
@[simp] def res_laws_FnExactLibraryOfBlocks (r : Bool) : RV := .one (.one (.val (.bool r)))
theorem con_laws_FnExactLibraryOfBlocks {v0 : List TBlock} {r : Bool} (hF : F_laws_FnExactLibraryOfBlocks v0 = some r) : Con Tryz.prog 3 [.sl 3 (v0.map eBlock)] (res_laws_FnExactLibraryOfBlocks r) := by
 unfold F_laws_FnExactLibraryOfBlocks at hF
 refine con_of c3_is fun N => ?_
 refine ws 0 64 ?_
 refine qp (AB false) rfl ?_
 refine r_nil ?_
 refine ws 64 128 ?_
 refine qp (AI 1048576) rfl ?_
 refine r_nil ?_
 refine ws 128 384 ?_
 refine qp (K1y v0) rfl (qp (AI 1048576) rfl ?_)
 obtain ⟨v1000, e1000, hF⟩ := bind_get hF
 refine qc (AI v1000) [] false (con_laws_szBlockS e1000) c5_ok (by first | rfl | simp) rfl ?_
 refine qp (AI v1000) rfl ?_
 refine r_nil ?_
 refine w_seq ?_
 refine ws 384 512 ?_
 refine qp (AI v1000) rfl (qp (AB (decide (v1000 < (0 : Int)))) rfl ?_)
 refine r_nil ?_
 refine cF hF (fun hF => ?_) fun hF => ?_
 ·
  refine ws 512 576 ?_
  refine qp (AB true) rfl ?_
  refine r_nil ?_
  refine w_ret ?_
  refine thenQ_r ?_
  cases hF
  exact eR
 ·
  refine w_skip ?_
  refine thenQ_n ?_
  refine ws 512 1024 ?_
  refine qp (K1y v0) rfl ?_
  obtain ⟨v1001, e1001, hF⟩ := bind_get hF
  refine qc (.sl 576 0 v1001.length) [(576, .row true 3 (v1001.map eBlock))] false (con_laws_toBlockS e1001) c7_ok (by first | rfl | simp) (by simp [res_laws_toBlockS]) ?_
  obtain ⟨v1002, e1002, hF⟩ := bind_get hF
  refine qc (.tup [.sl 640 0 v1002.1.length, AI v1002.2]) (K1q v1002 v1001) true (con_spec_LibraryOfBlocks e1002) c6_ok (by simp [List.take_of_length_le]) (by simp [res_spec_LibraryOfBlocks]) ?_
  refine qp (.tup [.sl 640 0 v1002.1.length, AI v1002.2]) rfl (qp (.sl 640 0 v1002.1.length) rfl (qp (AI v1002.2) rfl (qp (.sl 640 0 v1002.1.length) rfl (qp (AI v1002.2) rfl ?_))))
  refine r_nil ?_
  refine ws 1024 1216 ?_
  refine qp (K1y v0) rfl ?_
  obtain ⟨v1003, e1003, hF⟩ := bind_get hF
  refine qc (.sl 1088 0 v1003.length) (K1r v1003 v1002 v1001) false (con_laws_toBlockS e1003) c7_ok (by first | rfl | simp) (by simp [res_laws_toBlockS]) ?_
  refine qp (.sl 1088 0 v1003.length) rfl ?_
  refine r_nil ?_
  refine ws 1216 1664 ?_
  refine qp (.sl 1088 0 v1003.length) rfl ?_
  obtain ⟨v1004, e1004, hF⟩ := bind_get hF
  refine qc (.tup [.sl 1280 0 v1004.1.length, AI v1004.2]) (K1s v1004 v1003 v1002 v1001) true (con_impl_LibraryOfBlocks e1004) c8_ok (by simp [List.take_of_length_le]) (by simp [res_impl_LibraryOfBlocks]) ?_
  refine qp (.tup [.sl 1280 0 v1004.1.length, AI v1004.2]) rfl (qp (.sl 1280 0 v1004.1.length) rfl (qp (AI v1004.2) rfl (qp (.sl 1280 0 v1004.1.length) rfl (qp (AI v1004.2) rfl ?_))))
  refine r_nil ?_
  refine w_seq ?_
  refine ws 1664 2240 ?_
  refine qp (.sl 1280 0 v1004.1.length) rfl (qp (.sl 640 0 v1002.1.length) rfl ?_)
  obtain ⟨v1006, e1006, hF⟩ := bind_get hF
  refine qc (AB v1006) (K1s v1004 v1003 v1002 v1001) true (con_laws_eqNamedMelodyS e1006) c9_ok (by simp [List.take_of_length_le]) rfl ?_
  refine qp (AB (!v1006)) rfl (qp (AB (!v1006)) rfl ?_)
  refine q_case 36 hF rfl (fun hF => ?_) (fun hF => ?_)
  ·
   refine qn3 (qp (AB true) rfl ?_)
   refine r_nil ?_
   refine w_true rfl ?_
   refine ws 2240 2304 ?_
   refine qp (AB false) rfl ?_
   refine r_nil ?_
   refine w_ret ?_
   refine thenQ_r ?_
   cases hF
   exact eR
  ·
   refine qg (AI v1004.2) rfl rfl (qg (AI v1002.2) rfl rfl (qg (AB (decide (v1004.2 ≠ v1002.2))) rfl rfl (qp (AB (decide (v1004.2 ≠ v1002.2))) rfl ?_)))
   refine r_nil ?_
   refine cF hF (fun hF => ?_) fun hF => ?_
   ·
    refine ws 2240 2304 ?_
    refine qp (AB false) rfl ?_
    refine r_nil ?_
    refine w_ret ?_
    refine thenQ_r ?_
    cases hF
    exact eR
   ·
    refine w_skip ?_
    refine thenQ_n ?_
    refine w_seq ?_
    refine ws 2240 2560 ?_
    refine qp (.sl 1088 0 v1003.length) rfl (qp (K1y v0) rfl ?_)
    obtain ⟨v1007, e1007, hF⟩ := bind_get hF
    refine qc (.sl 2368 0 v1007.length) ((2368, .row true 3 (v1007.map eBlock)) :: (K1s v1004 v1003 v1002 v1001)) false (con_laws_toBlockS e1007) c7_ok (by first | rfl | simp) (by simp [res_laws_toBlockS]) ?_
    obtain ⟨v1008, e1008, hF⟩ := bind_get hF
    refine qc (AB v1008) ((2368, .row true 3 (v1007.map eBlock)) :: (K1s v1004 v1003 v1002 v1001)) true (con_laws_eqBlockS e1008) c10_ok (by simp [List.take_of_length_le]) rfl ?_
    refine qp (AB (!v1008)) rfl ?_
    refine r_nil ?_
    refine cF hF (fun hF => ?_) fun hF => ?_
    ·
     refine ws 2560 2624 ?_
     refine qp (AB false) rfl ?_
     refine r_nil ?_
     refine w_ret ?_
     refine thenQ_r ?_
     cases hF
     exact eR
    ·
     refine w_skip ?_
     refine thenQ_n ?_
     refine ws 2560 2624 ?_
     refine qp (AI 1) rfl ?_
     refine r_nil ?_
     refine ws 2624 2880 ?_
     refine qp (.sl 1088 0 v1003.length) rfl (qp (AI 1) rfl ?_)
     obtain ⟨v1009, e1009, hF⟩ := bind_get hF
     obtain ⟨g1010, hF⟩ := need_some hF
     refine qm (ls := [1088]) (K1u v1009 v1007 v1004 v1003 v1002 v1001) (con_laws_markBlockS e1009) c11_ok (by first | rfl | simp [takeM, takeML, takeM1, g1010]) (by decide) (by simp [like2, likeL, like1, g1010]) rfl rfl rfl (by simp [scrO_fo, newO2, newO, scrR, scrA, scrAs]) ?_
     refine qp (AI v1009.2) rfl ?_
     refine r_nil ?_
     refine w_seq ?_
     refine ws 2880 3712 ?_
     refine qp (AI v1009.2) rfl (qp (AB (decide (v1009.2 < (0 : Int)))) rfl (qp (AB (decide (v1009.2 < (0 : Int)))) rfl ?_))
     refine q_case 51 hF rfl (fun hF => ?_) (fun hF => ?_)
     ·
      refine qn4 (qp (AB true) rfl (qp (AB true) rfl (qn2 ?_)))
      refine qn rfl (qp (AB true) rfl ?_)
      refine r_nil ?_
      refine w_true rfl ?_
      refine ws 3712 3776 ?_
      refine qp (AB false) rfl ?_
      refine r_nil ?_
      refine w_ret ?_
      refine thenQ_r ?_
      cases hF
      exact endQ_r rfl (.inl ⟨_, _, by first | rfl | (simp [List.take_of_length_le]; first | exact ⟨rfl, rfl⟩ | rfl), by simp, by first | rfl | simp [res_laws_FnExactLibraryOfBlocks, List.take_of_length_le, g1010]⟩)
     ·
      refine qg (.sl 1280 0 v1004.1.length) rfl rfl (qg (.sl 640 0 v1002.1.length) rfl rfl ?_)
      obtain ⟨v1012, e1012, hF⟩ := bind_get hF
      refine qcg (AB v1012) (K1u v1009 v1007 v1004 v1003 v1002 v1001) true rfl (con_laws_eqNamedMelodyS e1012) c9_ok (by simp [g1010, List.take_of_length_le]) rfl ?_
      refine qg (AB (!v1012)) rfl rfl (qp (AB (!v1012)) rfl (qp (AB (!v1012)) rfl ?_))
      refine q_case 57 hF rfl (fun hF => ?_) (fun hF => ?_)
      ·
       refine qn3 (qp (AB true) rfl ?_)
       refine r_nil ?_
       refine w_true rfl ?_
       refine ws 3712 3776 ?_
       refine qp (AB false) rfl ?_
       refine r_nil ?_
       refine w_ret ?_
       refine thenQ_r ?_
       cases hF
       exact endQ_r rfl (.inl ⟨_, _, by first | rfl | (simp [List.take_of_length_le]; first | exact ⟨rfl, rfl⟩ | rfl), by simp, by first | rfl | simp [res_laws_FnExactLibraryOfBlocks, List.take_of_length_le, g1010]⟩)
      ·
       refine qg (AI v1004.2) rfl rfl (qg (AI v1002.2) rfl rfl (qg (AB (decide (v1004.2 ≠ v1002.2))) rfl rfl (qp (AB (decide (v1004.2 ≠ v1002.2))) rfl ?_)))
       refine r_nil ?_
       refine cF hF (fun hF => ?_) fun hF => ?_
       ·
        refine ws 3712 3776 ?_
        refine qp (AB false) rfl ?_
        refine r_nil ?_
        refine w_ret ?_
        refine thenQ_r ?_
        cases hF
        exact endQ_r rfl (.inl ⟨_, _, by first | rfl | (simp [List.take_of_length_le]; first | exact ⟨rfl, rfl⟩ | rfl), by simp, by first | rfl | simp [res_laws_FnExactLibraryOfBlocks, List.take_of_length_le, g1010]⟩)
       ·
        refine w_skip ?_
        refine thenQ_n ?_
        refine ws 3712 3776 ?_
        refine qp (AI 1) rfl ?_
        refine r_nil ?_
        refine ws 3776 4032 ?_
        refine qp (.sl 1280 0 v1004.1.length) rfl (qp (AI 1) rfl ?_)
        obtain ⟨v1013, e1013, hF⟩ := bind_get hF
        obtain ⟨g1014, hF⟩ := need_some hF
        refine qm (ls := [1280]) ((1280, .row true 2 (v1013.1.map eNamedMelody)) :: (K1u v1009 v1007 v1004 v1003 v1002 v1001)) (con_laws_markNamedMelodyS e1013) c12_ok (by first | rfl | simp [takeM, takeML, takeM1, g1010, g1014]) (by decide) (by simp [like2, likeL, like1, g1014]) rfl rfl rfl (by simp [scrO_fo, newO2, newO, scrR, scrA, scrAs]) ?_
        refine qp (AI v1013.2) rfl ?_
        refine r_nil ?_
        refine ws 4032 4096 ?_
        refine qp (AI 1) rfl ?_
        refine r_nil ?_
        refine ws 4096 4352 ?_
        refine qp (.sl 1280 0 v1004.1.length) rfl (qp (AI 1) rfl ?_)
        obtain ⟨v1015, e1015, hF⟩ := bind_get hF
        refine qc (AI v1015) ((1280, .row true 2 (v1013.1.map eNamedMelody)) :: (K1u v1009 v1007 v1004 v1003 v1002 v1001)) true (con_laws_heldNamedMelodyS e1015) c13_ok (by simp [g1010, g1014, List.take_of_length_le]) rfl ?_
        refine qp (AI v1015) rfl ?_
        refine r_nil ?_
        refine w_seq ?_
        refine ws 4352 4480 ?_
        refine qp (AI v1015) rfl (qp (AB (decide (v1015 < (0 : Int)))) rfl ?_)
        refine r_nil ?_
        refine cF hF (fun hF => ?_) fun hF => ?_
        ·
         refine ws 4480 4544 ?_
         refine qp (AB false) rfl ?_
         refine r_nil ?_
         refine w_ret ?_
         refine thenQ_r ?_
         cases hF
         exact endQ_r rfl (.inl ⟨_, _, by first | rfl | (simp [List.take_of_length_le]; first | exact ⟨rfl, rfl⟩ | rfl), by simp, by first | rfl | simp [res_laws_FnExactLibraryOfBlocks, List.take_of_length_le, g1010, g1014]⟩)
        ·
         refine w_skip ?_
         refine thenQ_n ?_
         refine w_seq ?_
         refine ws 4480 4672 ?_
         refine qp (AI v1015) rfl (qp (AI v1013.2) rfl (qp (AB (decide (v1015 ≠ v1013.2))) rfl ?_))
         refine r_nil ?_
         refine cF hF (fun hF => ?_) fun hF => ?_
         ·
          refine ws 4672 4736 ?_
          refine qp (AB false) rfl ?_
          refine r_nil ?_
          refine w_ret ?_
          refine thenQ_r ?_
          cases hF
          exact endQ_r rfl (.inl ⟨_, _, by first | rfl | (simp [List.take_of_length_le]; first | exact ⟨rfl, rfl⟩ | rfl), by simp, by first | rfl | simp [res_laws_FnExactLibraryOfBlocks, List.take_of_length_le, g1010, g1014]⟩)
         ·
          refine w_skip ?_
          refine thenQ_n ?_
          refine ws 4672 5184 ?_
          refine qp (K1y v0) rfl ?_
          obtain ⟨v1016, e1016, hF⟩ := bind_get hF
          refine qc (.sl 4736 0 v1016.length) (K1w v1016 v1013 v1009 v1007 v1004 v1003 v1002 v1001) false (con_laws_toBlockS e1016) c7_ok (by first | rfl | simp) (by simp [res_laws_toBlockS]) ?_
          obtain ⟨v1017, e1017, hF⟩ := bind_get hF
          refine qc (.tup [.sl 4800 0 v1017.1.length, AI v1017.2]) ((4800, .row true 2 (v1017.1.map eNamedMelody)) :: (K1w v1016 v1013 v1009 v1007 v1004 v1003 v1002 v1001)) true (con_impl_LibraryOfBlocks e1017) c8_ok (by simp [g1010, g1014, List.take_of_length_le]) (by simp [res_impl_LibraryOfBlocks]) ?_
          refine qp (.tup [.sl 4800 0 v1017.1.length, AI v1017.2]) rfl (qp (.sl 4800 0 v1017.1.length) rfl (qp (AI v1017.2) rfl (qp (.sl 4800 0 v1017.1.length) rfl (qp (AI v1017.2) rfl ?_))))
          refine r_nil ?_
          refine w_seq ?_
          refine ws 5184 5760 ?_
          refine qp (.sl 4800 0 v1017.1.length) rfl (qp (.sl 640 0 v1002.1.length) rfl ?_)
          obtain ⟨v1019, e1019, hF⟩ := bind_get hF
          refine qc (AB v1019) ((4800, .row true 2 (v1017.1.map eNamedMelody)) :: (K1w v1016 v1013 v1009 v1007 v1004 v1003 v1002 v1001)) true (con_laws_eqNamedMelodyS e1019) c9_ok (by simp [g1010, g1014, List.take_of_length_le]) rfl ?_
          refine qp (AB (!v1019)) rfl (qp (AB (!v1019)) rfl ?_)
          refine q_case 83 hF rfl (fun hF => ?_) (fun hF => ?_)
          ·
           refine qn3 (qp (AB true) rfl ?_)
           refine r_nil ?_
           refine w_true rfl ?_
           refine ws 5760 5824 ?_
           refine qp (AB false) rfl ?_
           refine r_nil ?_
           refine w_ret ?_
           refine thenQ_r ?_
           cases hF
           exact endQ_r rfl (.inl ⟨_, _, by first | rfl | (simp [List.take_of_length_le]; first | exact ⟨rfl, rfl⟩ | rfl), by simp, by first | rfl | simp [res_laws_FnExactLibraryOfBlocks, List.take_of_length_le, g1010, g1014]⟩)
          ·
           refine qg (AI v1017.2) rfl rfl (qg (AI v1002.2) rfl rfl (qg (AB (decide (v1017.2 ≠ v1002.2))) rfl rfl (qp (AB (decide (v1017.2 ≠ v1002.2))) rfl ?_)))
           refine r_nil ?_
           refine cF hF (fun hF => ?_) fun hF => ?_
           ·
            refine ws 5760 5824 ?_
            refine qp (AB false) rfl ?_
            refine r_nil ?_
            refine w_ret ?_
            refine thenQ_r ?_
            cases hF
            exact endQ_r rfl (.inl ⟨_, _, by first | rfl | (simp [List.take_of_length_le]; first | exact ⟨rfl, rfl⟩ | rfl), by simp, by first | rfl | simp [res_laws_FnExactLibraryOfBlocks, List.take_of_length_le, g1010, g1014]⟩)
           ·
            refine w_skip ?_
            refine thenQ_n ?_
            refine ws 5760 5824 ?_
            refine qp (AI 1) rfl ?_
            refine r_nil ?_
            refine ws 5824 6080 ?_
            refine qp (.sl 1280 0 v1004.1.length) rfl (qp (AI 1) rfl ?_)
            obtain ⟨v1020, e1020, hF⟩ := bind_get hF
            refine qc (AI v1020) ((4800, .row true 2 (v1017.1.map eNamedMelody)) :: (K1w v1016 v1013 v1009 v1007 v1004 v1003 v1002 v1001)) true (con_laws_heldNamedMelodyS e1020) c13_ok (by simp [g1010, g1014, List.take_of_length_le]) rfl ?_
            refine qp (AI v1020) rfl ?_
            refine r_nil ?_
            refine w_seq ?_
            refine ws 6080 6208 ?_
            refine qp (AI v1020) rfl (qp (AB (decide (v1020 < (0 : Int)))) rfl ?_)
            refine r_nil ?_
            refine cF hF (fun hF => ?_) fun hF => ?_
            ·
             refine ws 6208 6272 ?_
             refine qp (AB false) rfl ?_
             refine r_nil ?_
             refine w_ret ?_
             refine thenQ_r ?_
             cases hF
             exact endQ_r rfl (.inl ⟨_, _, by first | rfl | (simp [List.take_of_length_le]; first | exact ⟨rfl, rfl⟩ | rfl), by simp, by first | rfl | simp [res_laws_FnExactLibraryOfBlocks, List.take_of_length_le, g1010, g1014]⟩)
            ·
             refine w_skip ?_
             refine thenQ_n ?_
             refine w_seq ?_
             refine ws 6208 6400 ?_
             refine qp (AI v1020) rfl (qp (AI v1013.2) rfl (qp (AB (decide (v1020 ≠ v1013.2))) rfl ?_))
             refine r_nil ?_
             refine cF hF (fun hF => ?_) fun hF => ?_
             ·
              refine ws 6400 6464 ?_
              refine qp (AB false) rfl ?_
              refine r_nil ?_
              refine w_ret ?_
              refine thenQ_r ?_
              cases hF
              exact endQ_r rfl (.inl ⟨_, _, by first | rfl | (simp [List.take_of_length_le]; first | exact ⟨rfl, rfl⟩ | rfl), by simp, by first | rfl | simp [res_laws_FnExactLibraryOfBlocks, List.take_of_length_le, g1010, g1014]⟩)
             ·
              refine w_skip ?_
              refine thenQ_n ?_
              refine ws 6400 6464 ?_
              refine qp (AB true) rfl ?_
              refine r_nil ?_
              refine w_ret ?_
              cases hF
              exact endQ_r rfl (.inl ⟨_, _, by first | rfl | (simp [List.take_of_length_le]; first | exact ⟨rfl, rfl⟩ | rfl), by simp, by first | rfl | simp [res_laws_FnExactLibraryOfBlocks, List.take_of_length_le, g1010, g1014]⟩)

end Go.Ab
