/- Walks (printed by auto.py, a program of this session's own). -/
import Derived.Test.YthcojmhjnbebdaaDoorU0
import Derived.Test.YthcojmhjnbebdaaDoorProg
import Derived.KernelRfl
import Derived.Test.YthcojmhjnbebdaaDoorSQ
set_option linter.unusedVariables false
set_option linter.unusedSimpArgs false
set_option maxRecDepth 8000
set_option maxHeartbeats 8000000
namespace Go.Ab
open Go.RowKit Go.Proofs

def c41 : MC := (.seq (.reg [rg 4 (.p true (.mv (.c (.bool false))))]) (.seq (.seq (.reg [mvt 6 0, rg 7 (.p true (.len (.t 6))), mvt 8 1, rg 9 (.p true (.len (.t 8))), rg 10 (.p true (.bin .neq (.t 7) (.t 9)))]) (.cond (.t 10) (.seq (.reg [rg 4 (.p true (.mv (.c (.bool false))))]) .ret) .skip)) (.seq (.seq (.reg [rg 5 (.p true (.mv (.c (.int .i64 0))))]) (.block 0 (.loop (.seq (.seq (.reg [mvt 11 5, mvt 12 0, rg 13 (.p true (.len (.t 12))), rg 14 (.p true (.bin .lss (.t 11) (.t 13)))]) (.cond (.t 14) .skip (.exit 0))) (.seq (.block 1 (.seq (.reg [rg 17 (.p false (.mv (.t 0))), rg 18 (.p false (.mv (.t 5))), rg 19 (.p false (.iad (.t 17) (.t 18) 2)), rg 20 (.p false (.ld (.t 19) 2 true)), rg 21 (.p false (.mv (.t 1))), rg 22 (.p false (.mv (.t 5))), rg 23 (.p false (.iad (.t 21) (.t 22) 2)), rg 24 (.p false (.ld (.t 23) 2 true)), rg 25 (.call false 87 [(.t 20), (.t 24)]), rg 26 (.p false (.not (.t 25)))]) (.cond (.t 26) (.seq (.reg [rg 4 (.p true (.mv (.c (.bool false))))]) .ret) .skip))) (.reg [mvt 15 5, rg 16 (.p true (.bin .add (.t 15) (.c (.int .i64 1)))), mvt 5 16])))))) (.seq (.reg [rg 4 (.p true (.mv (.c (.bool true))))]) .ret))))
theorem c41_is : compFn Tryd.prog 41 = some (c41, [(.tmp 4)]) := by kernel_rfl
theorem c41_ok : okFn Tryd.prog 41 = true := by kernel_rfl

noncomputable def F_laws_eqNamedMelodyS_l0 (v0 : List TNamedMelody) (v1 : List TNamedMelody) (k0 : Int → Option (Bool)) : Int → Option (Bool)
 | v50001 => (bif (decide (v50001 < (v0.length : Int))) then ((ix v0 v50001).bind fun v1000 => ((ix v1 v50001).bind fun v1001 => ((F_laws_eqNamedMelody v1000 v1001).bind fun v1002 => (bif (!v1002) then some false
 else k0 (w64 (v50001 + 1))))))
 else some true)
noncomputable def F_laws_eqNamedMelodyS (v0 : List TNamedMelody) (v1 : List TNamedMelody) : Option (Bool) :=
 (bif (decide ((v0.length : Int) ≠ (v1.length : Int))) then some false
 else loop (F_laws_eqNamedMelodyS_l0 v0 v1) 0)
@[simp] def res_laws_eqNamedMelodyS (r : Bool) : RV := .one (.one (.val (.bool r)))
theorem con_laws_eqNamedMelodyS {v0 : List TNamedMelody} {v1 : List TNamedMelody} {r : Bool} (hF : F_laws_eqNamedMelodyS v0 v1 = some r) : Con Tryd.prog 41 [.sl 2 (v0.map eNamedMelody), .sl 2 (v1.map eNamedMelody)] (res_laws_eqNamedMelodyS r) := by
 unfold F_laws_eqNamedMelodyS at hF
 refine con_of c41_is fun N => ?_
 refine ws 0 64 ?_
 refine qp (AB false) rfl ?_
 refine r_nil ?_
 refine w_seq ?_
 refine ws 64 384 ?_
 refine qp (AL 2 (v0.map eNamedMelody)) rfl (qp (AI (v0.length : Int)) (ev_len_n rfl) (qp (AL 2 (v1.map eNamedMelody)) rfl (qp (AI (v1.length : Int)) (ev_len_n rfl) (qp (AB (decide ((v0.length : Int) ≠ (v1.length : Int)))) rfl ?_))))
 refine r_nil ?_
 refine cF hF (fun hF => ?_) fun hF => ?_
 ·
  refine ws 384 448 ?_
  refine qp (AB false) rfl ?_
  refine r_nil ?_
  refine w_ret ?_
  refine thenQ_r ?_
  cases hF
  exact eR
 ·
  refine w_skip ?_
  refine thenQ_n ?_
  refine w_seq ?_
  refine ws 384 448 ?_
  refine qp (AI 0) rfl ?_
  refine r_nil ?_
  refine w_block ?_
  refine wr (l' := [(0, AL 2 (v0.map eNamedMelody)), (1, AL 2 (v1.map eNamedMelody)), (5, AI 0)]) (L := []) [0, 1, 5] [] 1 ?_
  refine w_loopF (F_laws_eqNamedMelodyS_l0 v0 v1) (fun s : Int => mkS [(0, AL 2 (v0.map eNamedMelody)), (1, AL 2 (v1.map eNamedMelody)), (5, AI s)] (fo []) 1) hF ?_
  rintro k0 v50001 hF
  rw [F_laws_eqNamedMelodyS_l0] at hF
  try dsimp only
  refine w_seq ?_
  refine ws 1 257 ?_
  refine qp (AI v50001) rfl (qp (AL 2 (v0.map eNamedMelody)) rfl (qp (AI (v0.length : Int)) (ev_len_n rfl) (qp (AB (decide (v50001 < (v0.length : Int)))) rfl ?_)))
  refine r_nil ?_
  refine cF hF (fun hF => ?_) fun hF => ?_
  ·
   refine w_skip ?_
   refine thenQ_n ?_
   refine w_seq ?_
   refine w_block ?_
   refine ws 257 897 ?_
   refine qp (AL 2 (v0.map eNamedMelody)) rfl (qp (AI v50001) rfl ?_)
   obtain ⟨v1000, e1000, hF⟩ := bind_get hF
   refine qp (.val none (.ptr [.str v1000.1, .sl 2 (v1000.2.map eNote)])) (ev_iad_n rfl rfl e1000 rfl) (qp (.val none (eNamedMelody v1000)) rfl (qp (AL 2 (v1.map eNamedMelody)) rfl (qp (AI v50001) rfl ?_)))
   obtain ⟨v1001, e1001, hF⟩ := bind_get hF
   refine qp (.val none (.ptr [.str v1001.1, .sl 2 (v1001.2.map eNote)])) (ev_iad_n rfl rfl e1001 rfl) (qp (.val none (eNamedMelody v1001)) rfl ?_)
   obtain ⟨v1002, e1002, hF⟩ := bind_get hF
   refine qc (AB v1002) [] false (con_laws_eqNamedMelody e1002) c87_ok (by first | rfl | simp) rfl ?_
   refine qp (AB (!v1002)) rfl ?_
   refine r_nil ?_
   refine cF hF (fun hF => ?_) fun hF => ?_
   ·
    refine ws 897 961 ?_
    refine qp (AB false) rfl ?_
    refine r_nil ?_
    refine w_ret ?_
    refine blockQ_r ?_
    refine thenQ_r ?_
    refine thenQ_r ?_
    refine blockQ_r ?_
    refine thenQ_r ?_
    cases hF
    exact eR
   ·
    refine w_skip ?_
    refine blockQ_n ?_
    refine thenQ_n ?_
    refine w_reg 897 1089 rfl rfl ?_
    refine qp (AI v50001) rfl (qp (AI (w64 (v50001 + 1))) rfl (qp (AI (w64 (v50001 + 1))) rfl ?_))
    refine r_nil ?_
    refine thenQ_n ?_
    refine ar (l' := [(0, AL 2 (v0.map eNamedMelody)), (1, AL 2 (v1.map eNamedMelody)), (5, AI (w64 (v50001 + 1)))]) (L := []) [0, 1, 5] [] 1 ⟨_, by rfl, hF⟩
  ·
   refine w_exit ?_
   refine thenQ_e ?_
   refine thenQ_e ?_
   refine blockQ_e ?_
   refine thenQ_n ?_
   refine ws 257 321 ?_
   refine qp (AB true) rfl ?_
   refine r_nil ?_
   refine w_ret ?_
   cases hF
   exact eR

def c76 : MC := (.seq (.reg [rg 2 (.p true (.mv (.c (.str []))))]) (.seq (.seq (.reg [mvt 4 0, rg 5 (.p true (.bin .leq (.t 4) (.c (.int .i64 0))))]) (.cond (.t 5) (.seq (.reg [rg 2 (.p true (.mv (.c (.str [109, 48]))))]) .ret) .skip)) (.seq (.reg [rg 3 (.p true (.mv (.c (.str []))))]) (.seq (.block 0 (.loop (.seq (.seq (.reg [mvt 6 0, rg 7 (.p true (.bin .gtr (.t 6) (.c (.int .i64 0))))]) (.cond (.t 7) .skip (.exit 0))) (.block 1 (.seq (.reg [mvt 8 0, rg 9 (.p true (.bin .rem (.t 8) (.c (.int .i64 10)))), rg 10 (.p true (.bin .add (.c (.int .i64 48)) (.t 9))), rg 11 (.p true (.conv .u8 (.t 10))), rg 12 (.f (.bsl 1 [(.t 11)])), rg 13 (.p true (.bts (.t 12))), mvt 14 3, rg 15 (.p true (.bin .add (.t 13) (.t 14))), mvt 3 15]) (.reg [mvt 16 0, rg 17 (.p true (.bin .quo (.t 16) (.c (.int .i64 10)))), mvt 0 17])))))) (.seq (.reg [mvt 18 3, rg 19 (.p true (.bin .add (.c (.str [109])) (.t 18))), mvt 2 19]) .ret)))))
theorem c76_is : compFn Tryd.prog 76 = some (c76, [(.tmp 2)]) := by kernel_rfl
theorem c76_ok : okFn Tryd.prog 76 = true := by kernel_rfl

noncomputable def F_laws_markText_l0 (k0 : Int × (List UInt8) → Option (List UInt8)) : Int × (List UInt8) → Option (List UInt8)
 | (v50002, v50003) => (bif (decide ((0 : Int) < v50002)) then (need ((bytesI ([IntKind.wrap .u8 (w64 (48 + (Int.tmod v50002 10)))] : List Int)).length + v50003.length < 9223372036854775808) (k0 (w64 (Int.tdiv v50002 10), (bytesI ([IntKind.wrap .u8 (w64 (48 + (Int.tmod v50002 10)))] : List Int)) ++ v50003)))
 else (need ([109].length + v50003.length < 9223372036854775808) (some ([109] ++ v50003))))
noncomputable def F_laws_markText (v0 : Int) : Option (List UInt8) :=
 (bif (decide (v0 ≤ (0 : Int))) then some [109, 48]
 else loop (F_laws_markText_l0) (v0, []))
@[simp] def res_laws_markText (r : List UInt8) : RV := .one (.one (.val (.str r)))
theorem con_laws_markText {v0 : Int} {r : List UInt8} (hF : F_laws_markText v0 = some r) : Con Tryd.prog 76 [.int .i64 v0] (res_laws_markText r) := by
 unfold F_laws_markText at hF
 refine con_of c76_is fun N => ?_
 refine ws 0 64 ?_
 refine qp (AS []) rfl ?_
 refine r_nil ?_
 refine w_seq ?_
 refine ws 64 192 ?_
 refine qp (AI v0) rfl (qp (AB (decide (v0 ≤ (0 : Int)))) rfl ?_)
 refine r_nil ?_
 refine cF hF (fun hF => ?_) fun hF => ?_
 ·
  refine ws 192 256 ?_
  refine qp (AS [109, 48]) rfl ?_
  refine r_nil ?_
  refine w_ret ?_
  refine thenQ_r ?_
  cases hF
  exact eR
 ·
  refine w_skip ?_
  refine thenQ_n ?_
  refine ws 192 256 ?_
  refine qp (AS []) rfl ?_
  refine r_nil ?_
  refine w_seq ?_
  refine w_block ?_
  refine wr (l' := [(0, AI v0), (3, AS ([] : List UInt8))]) (L := []) [0, 3] [] 1 ?_
  refine w_loopF (F_laws_markText_l0) (fun s : Int × (List UInt8) => mkS [(0, AI s.1), (3, AS s.2)] (fo []) 1) hF ?_
  rintro k0 ⟨v50002, v50003⟩ hF
  rw [F_laws_markText_l0] at hF
  try dsimp only
  refine w_seq ?_
  refine ws 1 129 ?_
  refine qp (AI v50002) rfl (qp (AB (decide ((0 : Int) < v50002))) rfl ?_)
  refine r_nil ?_
  refine cF hF (fun hF => ?_) fun hF => ?_
  ·
   refine w_skip ?_
   refine thenQ_n ?_
   refine w_block ?_
   refine ws 129 705 ?_
   refine qp (AI v50002) rfl (qp (AI (Int.tmod v50002 10)) (ev_rem rfl rfl (by decide)) (qp (AI (w64 (48 + (Int.tmod v50002 10)))) rfl (qp (.val none (.int .u8 (IntKind.wrap .u8 (w64 (48 + (Int.tmod v50002 10)))))) rfl ?_)))
   refine qf (.sl 385 0 (([IntKind.wrap .u8 (w64 (48 + (Int.tmod v50002 10)))] : List Int).length)) [(385, .row true 1 (([IntKind.wrap .u8 (w64 (48 + (Int.tmod v50002 10)))] : List Int).map (V.int .u8)))] (by simp [List.take_of_length_le]) ?_
   refine qp (AS (bytesI ([IntKind.wrap .u8 (w64 (48 + (Int.tmod v50002 10)))] : List Int))) (ev_bts_r rfl (by simp) rfl) (qp (AS v50003) rfl ?_)
   obtain ⟨g1000, hF⟩ := need_some hF
   refine qp (AS ((bytesI ([IntKind.wrap .u8 (w64 (48 + (Int.tmod v50002 10)))] : List Int)) ++ v50003)) (ev_add_s rfl rfl g1000) (qp (AS ((bytesI ([IntKind.wrap .u8 (w64 (48 + (Int.tmod v50002 10)))] : List Int)) ++ v50003)) rfl ?_)
   refine r_nil ?_
   refine w_reg 705 897 rfl rfl ?_
   refine qp (AI v50002) rfl (qp (AI (w64 (Int.tdiv v50002 10))) (ev_quo rfl rfl (by decide)) (qp (AI (w64 (Int.tdiv v50002 10))) rfl ?_))
   refine r_nil ?_
   refine blockQ_n ?_
   refine thenQ_n ?_
   refine ar (l' := [(0, AI (w64 (Int.tdiv v50002 10))), (3, AS ((bytesI ([IntKind.wrap .u8 (w64 (48 + (Int.tmod v50002 10)))] : List Int)) ++ v50003))]) (L := []) [0, 3] [] 1 ⟨_, by rfl, hF⟩
  ·
   refine w_exit ?_
   refine thenQ_e ?_
   refine thenQ_e ?_
   refine blockQ_e ?_
   refine thenQ_n ?_
   refine ws 129 321 ?_
   refine qp (AS v50003) rfl ?_
   obtain ⟨g1001, hF⟩ := need_some hF
   refine qp (AS ([109] ++ v50003)) (ev_add_s rfl rfl g1001) (qp (AS ([109] ++ v50003)) rfl ?_)
   refine r_nil ?_
   refine w_ret ?_
   cases hF
   exact eR

def c88 : MC := (.seq (.reg [rg 4 (.p true (.mv (.c (.int .i64 0))))]) (.seq (.seq (.reg [rg 5 (.p true (.mv (.c (.int .i64 0))))]) (.block 0 (.loop (.seq (.seq (.reg [mvt 6 5, mvt 7 0, rg 8 (.p true (.len (.t 7))), rg 9 (.p true (.bin .lss (.t 6) (.t 8)))]) (.cond (.t 9) .skip (.exit 0))) (.seq (.block 1 (.seq (.reg [mvt 12 0, mvt 13 5, mvt 14 1, rg 15 (.p true (.iad (.t 12) (.t 13) 2)), rg 16 (.p true (.fad (.t 15) 0)), ⟨none, none, (.f (.st (.t 16) (.t 14) 1))⟩]) (.seq (.reg [mvt 17 1, rg 18 (.p true (.bin .add (.t 17) (.c (.int .i64 1)))), mvt 1 18]) (.seq (.reg [mvt 19 0, mvt 20 5, mvt 21 1, rg 22 (.p true (.iad (.t 19) (.t 20) 2)), rg 23 (.p true (.fad (.t 22) 1)), ⟨none, none, (.f (.st (.t 23) (.t 21) 1))⟩]) (.reg [mvt 24 1, rg 25 (.p true (.bin .add (.t 24) (.c (.int .i64 1)))), mvt 1 25]))))) (.reg [mvt 10 5, rg 11 (.p true (.bin .add (.t 10) (.c (.int .i64 1)))), mvt 5 11])))))) (.seq (.reg [mvt 26 1, mvt 4 26]) .ret)))
theorem c88_is : compFnM Tryd.prog 88 = some (c88, [(.tmp 4)]) := by kernel_rfl
theorem c88_ok : okFn Tryd.prog 88 = true := by kernel_rfl

noncomputable def F_laws_markNoteS_l0 (k0 : Int × Int × (List TNote) → Option ((List TNote) × Int)) : Int × Int × (List TNote) → Option ((List TNote) × Int)
 | (v50003, v50004, v50005) => (bif (decide (v50004 < (v50005.length : Int))) then ((ix v50005 v50004).bind fun v1000 => ((ix (List.set v50005 v50004.toNat (v50003, v1000.2)) v50004).bind fun v1001 => k0 (w64 ((w64 (v50003 + 1)) + 1), w64 (v50004 + 1), List.set (List.set v50005 v50004.toNat (v50003, v1000.2)) v50004.toNat (v1001.1, w64 (v50003 + 1)))))
 else some (v50005, v50003))
noncomputable def F_laws_markNoteS (v0 : List TNote) (v1 : Int) : Option ((List TNote) × Int) :=
 loop (F_laws_markNoteS_l0) (v1, 0, v0)
theorem con_laws_markNoteS {v0 : List TNote} {v1 : Int} {r : (List TNote) × Int} (hF : F_laws_markNoteS v0 v1 = some r) : ConM Tryd.prog 88 (.one (.row true 2 (v0.map eNote))) (.one (.row true 2 (r.1.map eNote))) [.int .i64 v1] (.int .i64 r.2) := by
 unfold F_laws_markNoteS at hF
 refine conM_of (av := .sl 0 0 v0.length) (L := [(0, .row true 2 (v0.map eNote))]) c88_is rfl rfl rfl (by simp) fun N => ?_
 refine ws 64 128 ?_
 refine qp (AI 0) rfl ?_
 refine r_nil ?_
 refine w_seq ?_
 refine ws 128 192 ?_
 refine qp (AI 0) rfl ?_
 refine r_nil ?_
 refine w_block ?_
 refine wr (l' := [(0, .sl 0 0 v0.length), (1, AI v1), (5, AI 0)]) (L := [(0, .row true 2 (v0.map eNote))]) [0, 1, 5] [(0, 0)] 1 ?_
 refine w_loopF (F_laws_markNoteS_l0) (fun s : Int × Int × (List TNote) => mkS [(0, .sl 0 0 s.2.2.length), (1, AI s.1), (5, AI s.2.1)] (fo [(0, .row true 2 (s.2.2.map eNote))]) 1) hF ?_
 rintro k0 ⟨v50003, v50004, v50005⟩ hF
 rw [F_laws_markNoteS_l0] at hF
 try dsimp only
 refine w_seq ?_
 refine ws 1 257 ?_
 refine qp (AI v50004) rfl (qp (.sl 0 0 v50005.length) rfl (qp (AI (v50005.length : Int)) rfl (qp (AB (decide (v50004 < (v50005.length : Int)))) rfl ?_)))
 refine r_nil ?_
 refine cF hF (fun hF => ?_) fun hF => ?_
 ·
  refine w_skip ?_
  refine thenQ_n ?_
  refine w_seq ?_
  refine w_block ?_
  refine ws 257 641 ?_
  refine qp (.sl 0 0 v50005.length) rfl (qp (AI v50004) rfl (qp (AI v50003) rfl ?_))
  obtain ⟨v1000, e1000, hF⟩ := bind_get hF
  refine qp (.ptr 0 v50004.toNat 0) (ev_iad_r rfl (by simp) rfl rfl e1000) (qp (.ptr 0 v50004.toNat 0) rfl ?_)
  refine qf0 (.undef) [(0, .row true 2 ((List.set v50005 v50004.toNat (v50003, v1000.2)).map eNote)), (0, .row true 2 (v50005.map eNote))] (effT_st rfl rfl (ix_some e1000).2 rfl rfl (by rfl) (by first | rfl | simp [patch, reb, List.take_of_length_le]) (by rfl) rfl) ?_
  refine r_nil ?_
  refine ws 641 833 ?_
  refine qp (AI v50003) rfl (qp (AI (w64 (v50003 + 1))) rfl (qp (AI (w64 (v50003 + 1))) rfl ?_))
  refine r_nil ?_
  refine ws 833 1217 ?_
  refine qp (.sl 0 0 v50005.length) rfl (qp (AI v50004) rfl (qp (AI (w64 (v50003 + 1))) rfl ?_))
  obtain ⟨v1001, e1001, hF⟩ := bind_get hF
  refine qp (.ptr 0 v50004.toNat 0) (ev_iad_r rfl (by simp) rfl rfl e1001) (qp (.ptr 0 v50004.toNat 1) rfl ?_)
  refine qf0 (.undef) [(0, .row true 2 ((List.set (List.set v50005 v50004.toNat (v50003, v1000.2)) v50004.toNat (v1001.1, w64 (v50003 + 1))).map eNote)), (0, .row true 2 ((List.set v50005 v50004.toNat (v50003, v1000.2)).map eNote)), (0, .row true 2 (v50005.map eNote))] (effT_st rfl rfl (ix_some e1001).2 rfl rfl (by rfl) (by first | rfl | simp [patch, reb, List.take_of_length_le]) (by rfl) rfl) ?_
  refine r_nil ?_
  refine w_reg 1217 1409 rfl rfl ?_
  refine qp (AI (w64 (v50003 + 1))) rfl (qp (AI (w64 ((w64 (v50003 + 1)) + 1))) rfl (qp (AI (w64 ((w64 (v50003 + 1)) + 1))) rfl ?_))
  refine r_nil ?_
  refine blockQ_n ?_
  refine thenQ_n ?_
  refine w_reg 1409 1601 rfl rfl ?_
  refine qp (AI v50004) rfl (qp (AI (w64 (v50004 + 1))) rfl (qp (AI (w64 (v50004 + 1))) rfl ?_))
  refine r_nil ?_
  refine thenQ_n ?_
  refine ar (l' := [(0, .sl 0 0 (List.set (List.set v50005 v50004.toNat (v50003, v1000.2)) v50004.toNat (v1001.1, w64 (v50003 + 1))).length), (1, AI (w64 ((w64 (v50003 + 1)) + 1))), (5, AI (w64 (v50004 + 1)))]) (L := [(0, .row true 2 ((List.set (List.set v50005 v50004.toNat (v50003, v1000.2)) v50004.toNat (v1001.1, w64 (v50003 + 1))).map eNote))]) [0, 1, 5] [(0, 0)] 1 ⟨_, by rfl, hF⟩
 ·
  refine w_exit ?_
  refine thenQ_e ?_
  refine thenQ_e ?_
  refine blockQ_e ?_
  refine thenQ_n ?_
  refine ws 257 385 ?_
  refine qp (AI v50003) rfl (qp (AI v50003) rfl ?_)
  refine r_nil ?_
  refine w_ret ?_
  cases hF
  exact endM_r rfl rfl (by first | rfl | (simp [List.take_of_length_le]; first | exact ⟨rfl, rfl⟩ | rfl)) (by simp)

def c42 : MC := (.seq (.reg [rg 4 (.p true (.mv (.c (.int .i64 0))))]) (.seq (.seq (.reg [rg 5 (.p true (.mv (.c (.int .i64 0))))]) (.block 0 (.loop (.seq (.seq (.reg [mvt 6 5, mvt 7 0, rg 8 (.p true (.len (.t 7))), rg 9 (.p true (.bin .lss (.t 6) (.t 8)))]) (.cond (.t 9) .skip (.exit 0))) (.seq (.block 1 (.seq (.reg [mvt 12 0, mvt 13 5, mvt 14 1, rg 15 (.call true 76 [(.t 14)]), rg 16 (.p true (.iad (.t 12) (.t 13) 2)), rg 17 (.p true (.fad (.t 16) 0)), ⟨none, none, (.f (.st (.t 17) (.t 15) 1))⟩]) (.seq (.reg [mvt 18 1, rg 19 (.p true (.bin .add (.t 18) (.c (.int .i64 1)))), mvt 1 19]) (.reg [mvt 20 0, mvt 21 5, rg 22 (.p true (.iad (.t 20) (.t 21) 2)), rg 23 (.p true (.fad (.t 22) 1)), rg 24 (.p true (.ld (.t 23) 1 false)), mvt 25 1, rg 26 (.call true 88 [(.t 24), (.t 25)]), mvt 1 26])))) (.reg [mvt 10 5, rg 11 (.p true (.bin .add (.t 10) (.c (.int .i64 1)))), mvt 5 11])))))) (.seq (.reg [mvt 27 1, mvt 4 27]) .ret)))
theorem c42_is : compFnM Tryd.prog 42 = some (c42, [(.tmp 4)]) := by kernel_rfl
theorem c42_ok : okFn Tryd.prog 42 = true := by kernel_rfl

noncomputable def F_laws_markNamedMelodyS_l0 (k0 : Int × Int × (List TNamedMelody) → Option ((List TNamedMelody) × Int)) : Int × Int × (List TNamedMelody) → Option ((List TNamedMelody) × Int)
 | (v50003, v50004, v50005) => (bif (decide (v50004 < (v50005.length : Int))) then ((F_laws_markText v50003).bind fun v1000 => ((ix v50005 v50004).bind fun v1001 => ((ix (List.set v50005 v50004.toNat (v1000, v1001.2)) v50004).bind fun v1002 => ((F_laws_markNoteS v1002.2 (w64 (v50003 + 1))).bind fun v1003 => need (v1003.1.length = v1002.2.length) (k0 (v1003.2, w64 (v50004 + 1), List.set (List.set v50005 v50004.toNat (v1000, v1001.2)) v50004.toNat (v1002.1, v1003.1)))))))
 else some (v50005, v50003))
noncomputable def F_laws_markNamedMelodyS (v0 : List TNamedMelody) (v1 : Int) : Option ((List TNamedMelody) × Int) :=
 loop (F_laws_markNamedMelodyS_l0) (v1, 0, v0)
theorem con_laws_markNamedMelodyS {v0 : List TNamedMelody} {v1 : Int} {r : (List TNamedMelody) × Int} (hF : F_laws_markNamedMelodyS v0 v1 = some r) : ConM Tryd.prog 42 (.one (.row true 2 (v0.map eNamedMelody))) (.one (.row true 2 (r.1.map eNamedMelody))) [.int .i64 v1] (.int .i64 r.2) := by
 unfold F_laws_markNamedMelodyS at hF
 refine conM_of (av := .sl 0 0 v0.length) (L := [(0, .row true 2 (v0.map eNamedMelody))]) c42_is rfl rfl rfl (by simp) fun N => ?_
 refine ws 64 128 ?_
 refine qp (AI 0) rfl ?_
 refine r_nil ?_
 refine w_seq ?_
 refine ws 128 192 ?_
 refine qp (AI 0) rfl ?_
 refine r_nil ?_
 refine w_block ?_
 refine wr (l' := [(0, .sl 0 0 v0.length), (1, AI v1), (5, AI 0)]) (L := [(0, .row true 2 (v0.map eNamedMelody))]) [0, 1, 5] [(0, 0)] 1 ?_
 refine w_loopF (F_laws_markNamedMelodyS_l0) (fun s : Int × Int × (List TNamedMelody) => mkS [(0, .sl 0 0 s.2.2.length), (1, AI s.1), (5, AI s.2.1)] (fo [(0, .row true 2 (s.2.2.map eNamedMelody))]) 1) hF ?_
 rintro k0 ⟨v50003, v50004, v50005⟩ hF
 rw [F_laws_markNamedMelodyS_l0] at hF
 try dsimp only
 refine w_seq ?_
 refine ws 1 257 ?_
 refine qp (AI v50004) rfl (qp (.sl 0 0 v50005.length) rfl (qp (AI (v50005.length : Int)) rfl (qp (AB (decide (v50004 < (v50005.length : Int)))) rfl ?_)))
 refine r_nil ?_
 refine cF hF (fun hF => ?_) fun hF => ?_
 ·
  refine w_skip ?_
  refine thenQ_n ?_
  refine w_seq ?_
  refine w_block ?_
  refine ws 257 705 ?_
  refine qp (.sl 0 0 v50005.length) rfl (qp (AI v50004) rfl (qp (AI v50003) rfl ?_))
  obtain ⟨v1000, e1000, hF⟩ := bind_get hF
  refine qc (AS v1000) [(0, .row true 2 (v50005.map eNamedMelody))] false (con_laws_markText e1000) c76_ok (by first | rfl | simp) rfl ?_
  obtain ⟨v1001, e1001, hF⟩ := bind_get hF
  refine qp (.ptr 0 v50004.toNat 0) (ev_iad_r rfl (by simp) rfl rfl e1001) (qp (.ptr 0 v50004.toNat 0) rfl ?_)
  refine qf0 (.undef) [(0, .row true 2 ((List.set v50005 v50004.toNat (v1000, v1001.2)).map eNamedMelody)), (0, .row true 2 (v50005.map eNamedMelody))] (effT_st rfl rfl (ix_some e1001).2 rfl rfl (by rfl) (by first | rfl | simp [patch, reb, List.take_of_length_le]) (by rfl) rfl) ?_
  refine r_nil ?_
  refine ws 705 897 ?_
  refine qp (AI v50003) rfl (qp (AI (w64 (v50003 + 1))) rfl (qp (AI (w64 (v50003 + 1))) rfl ?_))
  refine r_nil ?_
  refine w_reg 897 1409 rfl rfl ?_
  refine qp (.sl 0 0 v50005.length) rfl (qp (AI v50004) rfl ?_)
  obtain ⟨v1002, e1002, hF⟩ := bind_get hF
  refine qp (.ptr 0 v50004.toNat 0) (ev_iad_r rfl (by simp) rfl rfl e1002) (qp (.ptr 0 v50004.toNat 1) rfl ?_)
  obtain ⟨v1003, e1003, hF⟩ := bind_get hF
  obtain ⟨g1004, hF⟩ := need_some hF
  refine qm_l [(0, .row true 2 ((List.set (List.set v50005 v50004.toNat (v1000, v1001.2)) v50004.toNat (v1002.1, v1003.1)).map eNamedMelody)), (0, .row true 2 ((List.set v50005 v50004.toNat (v1000, v1001.2)).map eNamedMelody)), (0, .row true 2 (v50005.map eNamedMelody))] rfl rfl (map_get (ix_some e1002).2) rfl rfl rfl (con_laws_markNoteS e1003) c88_ok (by simp [g1004]) rfl rfl rfl (by simp [scrO_fo, scrR, scrA, scrAs, patch, reb, List.map_set]) ?_
  refine qp (AI v1003.2) rfl ?_
  refine r_nil ?_
  refine blockQ_n ?_
  refine thenQ_n ?_
  refine w_reg 1409 1601 rfl rfl ?_
  refine qp (AI v50004) rfl (qp (AI (w64 (v50004 + 1))) rfl (qp (AI (w64 (v50004 + 1))) rfl ?_))
  refine r_nil ?_
  refine thenQ_n ?_
  refine ar (l' := [(0, .sl 0 0 (List.set (List.set v50005 v50004.toNat (v1000, v1001.2)) v50004.toNat (v1002.1, v1003.1)).length), (1, AI v1003.2), (5, AI (w64 (v50004 + 1)))]) (L := [(0, .row true 2 ((List.set (List.set v50005 v50004.toNat (v1000, v1001.2)) v50004.toNat (v1002.1, v1003.1)).map eNamedMelody))]) [0, 1, 5] [(0, 0)] 1 ⟨_, by rfl, hF⟩
 ·
  refine w_exit ?_
  refine thenQ_e ?_
  refine thenQ_e ?_
  refine blockQ_e ?_
  refine thenQ_n ?_
  refine ws 257 385 ?_
  refine qp (AI v50003) rfl (qp (AI v50003) rfl ?_)
  refine r_nil ?_
  refine w_ret ?_
  cases hF
  exact endM_r rfl rfl (by first | rfl | (simp [List.take_of_length_le]; first | exact ⟨rfl, rfl⟩ | rfl)) (by simp)

def c35 : MC := (.seq (.reg [rg 4 (.p true (.mv (.c (.int .i64 0))))]) (.seq (.seq (.reg [rg 5 (.p true (.mv (.c (.int .i64 0))))]) (.block 0 (.loop (.seq (.seq (.reg [mvt 6 5, mvt 7 0, rg 8 (.p true (.len (.t 7))), rg 9 (.p true (.bin .lss (.t 6) (.t 8)))]) (.cond (.t 9) .skip (.exit 0))) (.seq (.block 1 (.seq (.reg [mvt 12 0, mvt 13 5, mvt 14 1, rg 15 (.call true 76 [(.t 14)]), rg 16 (.p true (.iad (.t 12) (.t 13) 3)), rg 17 (.p true (.fad (.t 16) 0)), ⟨none, none, (.f (.st (.t 17) (.t 15) 1))⟩]) (.seq (.reg [mvt 18 1, rg 19 (.p true (.bin .add (.t 18) (.c (.int .i64 1)))), mvt 1 19]) (.seq (.reg [mvt 20 0, mvt 21 5, mvt 22 1, rg 23 (.call true 76 [(.t 22)]), rg 24 (.p true (.iad (.t 20) (.t 21) 3)), rg 25 (.p true (.fad (.t 24) 1)), ⟨none, none, (.f (.st (.t 25) (.t 23) 1))⟩]) (.seq (.reg [mvt 26 1, rg 27 (.p true (.bin .add (.t 26) (.c (.int .i64 1)))), mvt 1 27]) (.seq (.reg [mvt 28 0, mvt 29 5, mvt 30 1, rg 31 (.call true 76 [(.t 30)]), rg 32 (.p true (.iad (.t 28) (.t 29) 3)), rg 33 (.p true (.fad (.t 32) 2)), ⟨none, none, (.f (.st (.t 33) (.t 31) 1))⟩]) (.reg [mvt 34 1, rg 35 (.p true (.bin .add (.t 34) (.c (.int .i64 1)))), mvt 1 35]))))))) (.reg [mvt 10 5, rg 11 (.p true (.bin .add (.t 10) (.c (.int .i64 1)))), mvt 5 11])))))) (.seq (.reg [mvt 36 1, mvt 4 36]) .ret)))
theorem c35_is : compFnM Tryd.prog 35 = some (c35, [(.tmp 4)]) := by kernel_rfl
theorem c35_ok : okFn Tryd.prog 35 = true := by kernel_rfl

noncomputable def F_laws_markBlockS_l0 (k0 : Int × Int × (List TBlock) → Option ((List TBlock) × Int)) : Int × Int × (List TBlock) → Option ((List TBlock) × Int)
 | (v50003, v50004, v50005) => (bif (decide (v50004 < (v50005.length : Int))) then ((F_laws_markText v50003).bind fun v1000 => ((ix v50005 v50004).bind fun v1001 => ((F_laws_markText (w64 (v50003 + 1))).bind fun v1002 => ((ix (List.set v50005 v50004.toNat (v1000, v1001.2.1, v1001.2.2)) v50004).bind fun v1003 => ((F_laws_markText (w64 ((w64 (v50003 + 1)) + 1))).bind fun v1004 => ((ix (List.set (List.set v50005 v50004.toNat (v1000, v1001.2.1, v1001.2.2)) v50004.toNat (v1003.1, v1002, v1003.2.2)) v50004).bind fun v1005 => k0 (w64 ((w64 ((w64 (v50003 + 1)) + 1)) + 1), w64 (v50004 + 1), List.set (List.set (List.set v50005 v50004.toNat (v1000, v1001.2.1, v1001.2.2)) v50004.toNat (v1003.1, v1002, v1003.2.2)) v50004.toNat (v1005.1, v1005.2.1, v1004))))))))
 else some (v50005, v50003))
noncomputable def F_laws_markBlockS (v0 : List TBlock) (v1 : Int) : Option ((List TBlock) × Int) :=
 loop (F_laws_markBlockS_l0) (v1, 0, v0)
theorem con_laws_markBlockS {v0 : List TBlock} {v1 : Int} {r : (List TBlock) × Int} (hF : F_laws_markBlockS v0 v1 = some r) : ConM Tryd.prog 35 (.one (.row true 3 (v0.map eBlock))) (.one (.row true 3 (r.1.map eBlock))) [.int .i64 v1] (.int .i64 r.2) := by
 unfold F_laws_markBlockS at hF
 refine conM_of (av := .sl 0 0 v0.length) (L := [(0, .row true 3 (v0.map eBlock))]) c35_is rfl rfl rfl (by simp) fun N => ?_
 refine ws 64 128 ?_
 refine qp (AI 0) rfl ?_
 refine r_nil ?_
 refine w_seq ?_
 refine ws 128 192 ?_
 refine qp (AI 0) rfl ?_
 refine r_nil ?_
 refine w_block ?_
 refine wr (l' := [(0, .sl 0 0 v0.length), (1, AI v1), (5, AI 0)]) (L := [(0, .row true 3 (v0.map eBlock))]) [0, 1, 5] [(0, 0)] 1 ?_
 refine w_loopF (F_laws_markBlockS_l0) (fun s : Int × Int × (List TBlock) => mkS [(0, .sl 0 0 s.2.2.length), (1, AI s.1), (5, AI s.2.1)] (fo [(0, .row true 3 (s.2.2.map eBlock))]) 1) hF ?_
 rintro k0 ⟨v50003, v50004, v50005⟩ hF
 rw [F_laws_markBlockS_l0] at hF
 try dsimp only
 refine w_seq ?_
 refine ws 1 257 ?_
 refine qp (AI v50004) rfl (qp (.sl 0 0 v50005.length) rfl (qp (AI (v50005.length : Int)) rfl (qp (AB (decide (v50004 < (v50005.length : Int)))) rfl ?_)))
 refine r_nil ?_
 refine cF hF (fun hF => ?_) fun hF => ?_
 ·
  refine w_skip ?_
  refine thenQ_n ?_
  refine w_seq ?_
  refine w_block ?_
  refine ws 257 705 ?_
  refine qp (.sl 0 0 v50005.length) rfl (qp (AI v50004) rfl (qp (AI v50003) rfl ?_))
  obtain ⟨v1000, e1000, hF⟩ := bind_get hF
  refine qc (AS v1000) [(0, .row true 3 (v50005.map eBlock))] false (con_laws_markText e1000) c76_ok (by first | rfl | simp) rfl ?_
  obtain ⟨v1001, e1001, hF⟩ := bind_get hF
  refine qp (.ptr 0 v50004.toNat 0) (ev_iad_r rfl (by simp) rfl rfl e1001) (qp (.ptr 0 v50004.toNat 0) rfl ?_)
  refine qf0 (.undef) [(0, .row true 3 ((List.set v50005 v50004.toNat (v1000, v1001.2.1, v1001.2.2)).map eBlock)), (0, .row true 3 (v50005.map eBlock))] (effT_st rfl rfl (ix_some e1001).2 rfl rfl (by rfl) (by first | rfl | simp [patch, reb, List.take_of_length_le]) (by rfl) rfl) ?_
  refine r_nil ?_
  refine ws 705 897 ?_
  refine qp (AI v50003) rfl (qp (AI (w64 (v50003 + 1))) rfl (qp (AI (w64 (v50003 + 1))) rfl ?_))
  refine r_nil ?_
  refine ws 897 1345 ?_
  refine qp (.sl 0 0 v50005.length) rfl (qp (AI v50004) rfl (qp (AI (w64 (v50003 + 1))) rfl ?_))
  obtain ⟨v1002, e1002, hF⟩ := bind_get hF
  refine qc (AS v1002) [(0, .row true 3 ((List.set v50005 v50004.toNat (v1000, v1001.2.1, v1001.2.2)).map eBlock)), (0, .row true 3 (v50005.map eBlock))] false (con_laws_markText e1002) c76_ok (by first | rfl | simp) rfl ?_
  obtain ⟨v1003, e1003, hF⟩ := bind_get hF
  refine qp (.ptr 0 v50004.toNat 0) (ev_iad_r rfl (by simp) rfl rfl e1003) (qp (.ptr 0 v50004.toNat 1) rfl ?_)
  refine qf0 (.undef) [(0, .row true 3 ((List.set (List.set v50005 v50004.toNat (v1000, v1001.2.1, v1001.2.2)) v50004.toNat (v1003.1, v1002, v1003.2.2)).map eBlock)), (0, .row true 3 ((List.set v50005 v50004.toNat (v1000, v1001.2.1, v1001.2.2)).map eBlock)), (0, .row true 3 (v50005.map eBlock))] (effT_st rfl rfl (ix_some e1003).2 rfl rfl (by rfl) (by first | rfl | simp [patch, reb, List.take_of_length_le]) (by rfl) rfl) ?_
  refine r_nil ?_
  refine ws 1345 1537 ?_
  refine qp (AI (w64 (v50003 + 1))) rfl (qp (AI (w64 ((w64 (v50003 + 1)) + 1))) rfl (qp (AI (w64 ((w64 (v50003 + 1)) + 1))) rfl ?_))
  refine r_nil ?_
  refine ws 1537 1985 ?_
  refine qp (.sl 0 0 v50005.length) rfl (qp (AI v50004) rfl (qp (AI (w64 ((w64 (v50003 + 1)) + 1))) rfl ?_))
  obtain ⟨v1004, e1004, hF⟩ := bind_get hF
  refine qc (AS v1004) [(0, .row true 3 ((List.set (List.set v50005 v50004.toNat (v1000, v1001.2.1, v1001.2.2)) v50004.toNat (v1003.1, v1002, v1003.2.2)).map eBlock)), (0, .row true 3 ((List.set v50005 v50004.toNat (v1000, v1001.2.1, v1001.2.2)).map eBlock)), (0, .row true 3 (v50005.map eBlock))] false (con_laws_markText e1004) c76_ok (by first | rfl | simp) rfl ?_
  obtain ⟨v1005, e1005, hF⟩ := bind_get hF
  refine qp (.ptr 0 v50004.toNat 0) (ev_iad_r rfl (by simp) rfl rfl e1005) (qp (.ptr 0 v50004.toNat 2) rfl ?_)
  refine qf0 (.undef) [(0, .row true 3 ((List.set (List.set (List.set v50005 v50004.toNat (v1000, v1001.2.1, v1001.2.2)) v50004.toNat (v1003.1, v1002, v1003.2.2)) v50004.toNat (v1005.1, v1005.2.1, v1004)).map eBlock)), (0, .row true 3 ((List.set (List.set v50005 v50004.toNat (v1000, v1001.2.1, v1001.2.2)) v50004.toNat (v1003.1, v1002, v1003.2.2)).map eBlock)), (0, .row true 3 ((List.set v50005 v50004.toNat (v1000, v1001.2.1, v1001.2.2)).map eBlock)), (0, .row true 3 (v50005.map eBlock))] (effT_st rfl rfl (ix_some e1005).2 rfl rfl (by rfl) (by first | rfl | simp [patch, reb, List.take_of_length_le]) (by rfl) rfl) ?_
  refine r_nil ?_
  refine w_reg 1985 2177 rfl rfl ?_
  refine qp (AI (w64 ((w64 (v50003 + 1)) + 1))) rfl (qp (AI (w64 ((w64 ((w64 (v50003 + 1)) + 1)) + 1))) rfl (qp (AI (w64 ((w64 ((w64 (v50003 + 1)) + 1)) + 1))) rfl ?_))
  refine r_nil ?_
  refine blockQ_n ?_
  refine thenQ_n ?_
  refine w_reg 2177 2369 rfl rfl ?_
  refine qp (AI v50004) rfl (qp (AI (w64 (v50004 + 1))) rfl (qp (AI (w64 (v50004 + 1))) rfl ?_))
  refine r_nil ?_
  refine thenQ_n ?_
  refine ar (l' := [(0, .sl 0 0 (List.set (List.set (List.set v50005 v50004.toNat (v1000, v1001.2.1, v1001.2.2)) v50004.toNat (v1003.1, v1002, v1003.2.2)) v50004.toNat (v1005.1, v1005.2.1, v1004)).length), (1, AI (w64 ((w64 ((w64 (v50003 + 1)) + 1)) + 1))), (5, AI (w64 (v50004 + 1)))]) (L := [(0, .row true 3 ((List.set (List.set (List.set v50005 v50004.toNat (v1000, v1001.2.1, v1001.2.2)) v50004.toNat (v1003.1, v1002, v1003.2.2)) v50004.toNat (v1005.1, v1005.2.1, v1004)).map eBlock))]) [0, 1, 5] [(0, 0)] 1 ⟨_, by rfl, hF⟩
 ·
  refine w_exit ?_
  refine thenQ_e ?_
  refine thenQ_e ?_
  refine blockQ_e ?_
  refine thenQ_n ?_
  refine ws 257 385 ?_
  refine qp (AI v50003) rfl (qp (AI v50003) rfl ?_)
  refine r_nil ?_
  refine w_ret ?_
  cases hF
  exact endM_r rfl rfl (by first | rfl | (simp [List.take_of_length_le]; first | exact ⟨rfl, rfl⟩ | rfl)) (by simp)

def c36 : MC := (.seq (.reg [rg 4 (.p true (.mv (.c (.int .i64 0))))]) (.seq (.seq (.reg [rg 5 (.p true (.mv (.c (.int .i64 0))))]) (.block 0 (.loop (.seq (.seq (.reg [mvt 6 5, mvt 7 0, rg 8 (.p true (.len (.t 7))), rg 9 (.p true (.bin .lss (.t 6) (.t 8)))]) (.cond (.t 9) .skip (.exit 0))) (.seq (.block 1 (.seq (.seq (.reg [rg 12 (.p false (.mv (.t 0))), rg 13 (.p false (.mv (.t 5))), rg 14 (.p false (.iad (.t 12) (.t 13) 3)), rg 15 (.p false (.fad (.t 14) 0)), rg 16 (.p false (.ld (.t 15) 1 false)), rg 17 (.p false (.mv (.t 1))), rg 18 (.call false 76 [(.t 17)]), rg 19 (.p false (.bin .neq (.t 16) (.t 18)))]) (.cond (.t 19) (.seq (.reg [rg 4 (.p true (.mv (.c (.int .i64 (-1)))))]) .ret) .skip)) (.seq (.reg [mvt 20 1, rg 21 (.p true (.bin .add (.t 20) (.c (.int .i64 1)))), mvt 1 21]) (.seq (.seq (.reg [rg 22 (.p false (.mv (.t 0))), rg 23 (.p false (.mv (.t 5))), rg 24 (.p false (.iad (.t 22) (.t 23) 3)), rg 25 (.p false (.fad (.t 24) 1)), rg 26 (.p false (.ld (.t 25) 1 false)), rg 27 (.p false (.mv (.t 1))), rg 28 (.call false 76 [(.t 27)]), rg 29 (.p false (.bin .neq (.t 26) (.t 28)))]) (.cond (.t 29) (.seq (.reg [rg 4 (.p true (.mv (.c (.int .i64 (-1)))))]) .ret) .skip)) (.seq (.reg [mvt 30 1, rg 31 (.p true (.bin .add (.t 30) (.c (.int .i64 1)))), mvt 1 31]) (.seq (.seq (.reg [rg 32 (.p false (.mv (.t 0))), rg 33 (.p false (.mv (.t 5))), rg 34 (.p false (.iad (.t 32) (.t 33) 3)), rg 35 (.p false (.fad (.t 34) 2)), rg 36 (.p false (.ld (.t 35) 1 false)), rg 37 (.p false (.mv (.t 1))), rg 38 (.call false 76 [(.t 37)]), rg 39 (.p false (.bin .neq (.t 36) (.t 38)))]) (.cond (.t 39) (.seq (.reg [rg 4 (.p true (.mv (.c (.int .i64 (-1)))))]) .ret) .skip)) (.reg [mvt 40 1, rg 41 (.p true (.bin .add (.t 40) (.c (.int .i64 1)))), mvt 1 41]))))))) (.reg [mvt 10 5, rg 11 (.p true (.bin .add (.t 10) (.c (.int .i64 1)))), mvt 5 11])))))) (.seq (.reg [mvt 42 1, mvt 4 42]) .ret)))
theorem c36_is : compFn Tryd.prog 36 = some (c36, [(.tmp 4)]) := by kernel_rfl
theorem c36_ok : okFn Tryd.prog 36 = true := by kernel_rfl

noncomputable def F_laws_heldBlockS_l0 (v0 : List TBlock) (k0 : Int × Int → Option (Int)) : Int × Int → Option (Int)
 | (v50002, v50003) => (bif (decide (v50003 < (v0.length : Int))) then ((ix v0 v50003).bind fun v1000 => ((F_laws_markText v50002).bind fun v1001 => (bif (decide (v1000.1 ≠ v1001)) then some (-1)
 else ((ix v0 v50003).bind fun v1002 => ((F_laws_markText (w64 (v50002 + 1))).bind fun v1003 => (bif (decide (v1002.2.1 ≠ v1003)) then some (-1)
 else ((ix v0 v50003).bind fun v1004 => ((F_laws_markText (w64 ((w64 (v50002 + 1)) + 1))).bind fun v1005 => (bif (decide (v1004.2.2 ≠ v1005)) then some (-1)
 else k0 (w64 ((w64 ((w64 (v50002 + 1)) + 1)) + 1), w64 (v50003 + 1)))))))))))
 else some v50002)
noncomputable def F_laws_heldBlockS (v0 : List TBlock) (v1 : Int) : Option (Int) :=
 loop (F_laws_heldBlockS_l0 v0) (v1, 0)
@[simp] def res_laws_heldBlockS (r : Int) : RV := .one (.one (.val (.int .i64 r)))
theorem con_laws_heldBlockS {v0 : List TBlock} {v1 : Int} {r : Int} (hF : F_laws_heldBlockS v0 v1 = some r) : Con Tryd.prog 36 [.sl 3 (v0.map eBlock), .int .i64 v1] (res_laws_heldBlockS r) := by
 unfold F_laws_heldBlockS at hF
 refine con_of c36_is fun N => ?_
 refine ws 0 64 ?_
 refine qp (AI 0) rfl ?_
 refine r_nil ?_
 refine w_seq ?_
 refine ws 64 128 ?_
 refine qp (AI 0) rfl ?_
 refine r_nil ?_
 refine w_block ?_
 refine wr (l' := [(0, AL 3 (v0.map eBlock)), (1, AI v1), (5, AI 0)]) (L := []) [0, 1, 5] [] 1 ?_
 refine w_loopF (F_laws_heldBlockS_l0 v0) (fun s : Int × Int => mkS [(0, AL 3 (v0.map eBlock)), (1, AI s.1), (5, AI s.2)] (fo []) 1) hF ?_
 rintro k0 ⟨v50002, v50003⟩ hF
 rw [F_laws_heldBlockS_l0] at hF
 try dsimp only
 refine w_seq ?_
 refine ws 1 257 ?_
 refine qp (AI v50003) rfl (qp (AL 3 (v0.map eBlock)) rfl (qp (AI (v0.length : Int)) (ev_len_n rfl) (qp (AB (decide (v50003 < (v0.length : Int)))) rfl ?_)))
 refine r_nil ?_
 refine cF hF (fun hF => ?_) fun hF => ?_
 ·
  refine w_skip ?_
  refine thenQ_n ?_
  refine w_seq ?_
  refine w_block ?_
  refine w_seq ?_
  refine ws 257 769 ?_
  refine qp (AL 3 (v0.map eBlock)) rfl (qp (AI v50003) rfl ?_)
  obtain ⟨v1000, e1000, hF⟩ := bind_get hF
  refine qp (.val none (.ptr [.str v1000.1, .str v1000.2.1, .str v1000.2.2])) (ev_iad_n rfl rfl e1000 rfl) (qp (.val none (.ptr [.str v1000.1, .str v1000.2.1, .str v1000.2.2])) rfl (qp (AS v1000.1) rfl (qp (AI v50002) rfl ?_)))
  obtain ⟨v1001, e1001, hF⟩ := bind_get hF
  refine qc (AS v1001) [] false (con_laws_markText e1001) c76_ok (by first | rfl | simp) rfl ?_
  refine qp (AB (decide (v1000.1 ≠ v1001))) rfl ?_
  refine r_nil ?_
  refine cF hF (fun hF => ?_) fun hF => ?_
  ·
   refine ws 769 833 ?_
   refine qp (AI (-1)) rfl ?_
   refine r_nil ?_
   refine w_ret ?_
   refine thenQ_r ?_
   refine blockQ_r ?_
   refine thenQ_r ?_
   refine thenQ_r ?_
   refine blockQ_r ?_
   refine thenQ_r ?_
   cases hF
   exact eR
  ·
   refine w_skip ?_
   refine thenQ_n ?_
   refine ws 769 961 ?_
   refine qp (AI v50002) rfl (qp (AI (w64 (v50002 + 1))) rfl (qp (AI (w64 (v50002 + 1))) rfl ?_))
   refine r_nil ?_
   refine w_seq ?_
   refine ws 961 1473 ?_
   refine qp (AL 3 (v0.map eBlock)) rfl (qp (AI v50003) rfl ?_)
   obtain ⟨v1002, e1002, hF⟩ := bind_get hF
   refine qp (.val none (.ptr [.str v1002.1, .str v1002.2.1, .str v1002.2.2])) (ev_iad_n rfl rfl e1002 rfl) (qp (.val none (.ptr [.str v1002.2.1, .str v1002.2.2])) rfl (qp (AS v1002.2.1) rfl (qp (AI (w64 (v50002 + 1))) rfl ?_)))
   obtain ⟨v1003, e1003, hF⟩ := bind_get hF
   refine qc (AS v1003) [] false (con_laws_markText e1003) c76_ok (by first | rfl | simp) rfl ?_
   refine qp (AB (decide (v1002.2.1 ≠ v1003))) rfl ?_
   refine r_nil ?_
   refine cF hF (fun hF => ?_) fun hF => ?_
   ·
    refine ws 1473 1537 ?_
    refine qp (AI (-1)) rfl ?_
    refine r_nil ?_
    refine w_ret ?_
    refine thenQ_r ?_
    refine blockQ_r ?_
    refine thenQ_r ?_
    refine thenQ_r ?_
    refine blockQ_r ?_
    refine thenQ_r ?_
    cases hF
    exact eR
   ·
    refine w_skip ?_
    refine thenQ_n ?_
    refine ws 1473 1665 ?_
    refine qp (AI (w64 (v50002 + 1))) rfl (qp (AI (w64 ((w64 (v50002 + 1)) + 1))) rfl (qp (AI (w64 ((w64 (v50002 + 1)) + 1))) rfl ?_))
    refine r_nil ?_
    refine w_seq ?_
    refine ws 1665 2177 ?_
    refine qp (AL 3 (v0.map eBlock)) rfl (qp (AI v50003) rfl ?_)
    obtain ⟨v1004, e1004, hF⟩ := bind_get hF
    refine qp (.val none (.ptr [.str v1004.1, .str v1004.2.1, .str v1004.2.2])) (ev_iad_n rfl rfl e1004 rfl) (qp (.val none (.ptr [.str v1004.2.2])) rfl (qp (AS v1004.2.2) rfl (qp (AI (w64 ((w64 (v50002 + 1)) + 1))) rfl ?_)))
    obtain ⟨v1005, e1005, hF⟩ := bind_get hF
    refine qc (AS v1005) [] false (con_laws_markText e1005) c76_ok (by first | rfl | simp) rfl ?_
    refine qp (AB (decide (v1004.2.2 ≠ v1005))) rfl ?_
    refine r_nil ?_
    refine cF hF (fun hF => ?_) fun hF => ?_
    ·
     refine ws 2177 2241 ?_
     refine qp (AI (-1)) rfl ?_
     refine r_nil ?_
     refine w_ret ?_
     refine thenQ_r ?_
     refine blockQ_r ?_
     refine thenQ_r ?_
     refine thenQ_r ?_
     refine blockQ_r ?_
     refine thenQ_r ?_
     cases hF
     exact eR
    ·
     refine w_skip ?_
     refine thenQ_n ?_
     refine w_reg 2177 2369 rfl rfl ?_
     refine qp (AI (w64 ((w64 (v50002 + 1)) + 1))) rfl (qp (AI (w64 ((w64 ((w64 (v50002 + 1)) + 1)) + 1))) rfl (qp (AI (w64 ((w64 ((w64 (v50002 + 1)) + 1)) + 1))) rfl ?_))
     refine r_nil ?_
     refine blockQ_n ?_
     refine thenQ_n ?_
     refine w_reg 2369 2561 rfl rfl ?_
     refine qp (AI v50003) rfl (qp (AI (w64 (v50003 + 1))) rfl (qp (AI (w64 (v50003 + 1))) rfl ?_))
     refine r_nil ?_
     refine thenQ_n ?_
     refine ar (l' := [(0, AL 3 (v0.map eBlock)), (1, AI (w64 ((w64 ((w64 (v50002 + 1)) + 1)) + 1))), (5, AI (w64 (v50003 + 1)))]) (L := []) [0, 1, 5] [] 1 ⟨_, by rfl, hF⟩
 ·
  refine w_exit ?_
  refine thenQ_e ?_
  refine thenQ_e ?_
  refine blockQ_e ?_
  refine thenQ_n ?_
  refine ws 257 385 ?_
  refine qp (AI v50002) rfl (qp (AI v50002) rfl ?_)
  refine r_nil ?_
  refine w_ret ?_
  cases hF
  exact eR

def c9 : MC := (.seq (.reg [rg 2 (.p true (.mv (.c (.bool false))))]) (.seq (.reg [rg 3 (.p true (.mv (.c (.int .i64 1048576))))]) (.seq (.reg [mvt 14 0, mvt 15 3, rg 16 (.call true 37 [(.t 14), (.t 15)]), mvt 3 16]) (.seq (.seq (.reg [mvt 17 3, rg 18 (.p true (.bin .lss (.t 17) (.c (.int .i64 0))))]) (.cond (.t 18) (.seq (.reg [rg 2 (.p true (.mv (.c (.bool true))))]) .ret) .skip)) (.seq (.reg [mvt 20 0, rg 21 (.call true 39 [(.t 20)]), rg 22 (.call true 38 [(.t 21)]), mvt 19 22, rg 23 (.p true (.ext (.t 19) 0)), rg 24 (.p true (.ext (.t 19) 1)), mvt 4 23, mvt 5 24]) (.seq (.reg [mvt 25 0, rg 26 (.call true 39 [(.t 25)]), mvt 6 26]) (.seq (.reg [mvt 28 6, rg 29 (.call true 40 [(.t 28)]), mvt 27 29, rg 30 (.p true (.ext (.t 27) 0)), rg 31 (.p true (.ext (.t 27) 1)), mvt 7 30, mvt 8 31]) (.seq (.seq (.reg [mvt 32 7, mvt 33 4, rg 34 (.call true 20 [(.t 32), (.t 33)]), rg 35 (.p true (.not (.t 34))), mvt 36 35, ⟨(some 37), (some (36, false)), (.p true (.mv (.t 8)))⟩, ⟨(some 38), (some (36, false)), (.p true (.mv (.t 5)))⟩, ⟨(some 39), (some (36, false)), (.p true (.bin .neq (.t 37) (.t 38)))⟩, rg 40 (.p true (.pick (.t 36) (.c (.bool true)) (.t 39)))]) (.cond (.t 40) (.seq (.reg [rg 2 (.p true (.mv (.c (.bool false))))]) .ret) .skip)) (.seq (.seq (.reg [mvt 41 6, mvt 42 0, rg 43 (.call true 39 [(.t 42)]), rg 44 (.call true 41 [(.t 41), (.t 43)]), rg 45 (.p true (.not (.t 44)))]) (.cond (.t 45) (.seq (.reg [rg 2 (.p true (.mv (.c (.bool false))))]) .ret) .skip)) (.seq (.reg [rg 9 (.p true (.mv (.c (.int .i64 1))))]) (.seq (.reg [mvt 46 6, mvt 47 9, rg 48 (.call true 42 [(.t 46), (.t 47)]), mvt 9 48]) (.seq (.seq (.reg [mvt 49 9, rg 50 (.p true (.bin .lss (.t 49) (.c (.int .i64 0)))), mvt 51 50, ⟨(some 52), (some (51, false)), (.p true (.mv (.t 7)))⟩, ⟨(some 53), (some (51, false)), (.p true (.mv (.t 4)))⟩, ⟨(some 54), (some (51, false)), (.call true 20 [(.t 52), (.t 53)])⟩, ⟨(some 55), (some (51, false)), (.p true (.not (.t 54)))⟩, rg 56 (.p true (.pick (.t 51) (.c (.bool true)) (.t 55))), mvt 57 56, ⟨(some 58), (some (57, false)), (.p true (.mv (.t 8)))⟩, ⟨(some 59), (some (57, false)), (.p true (.mv (.t 5)))⟩, ⟨(some 60), (some (57, false)), (.p true (.bin .neq (.t 58) (.t 59)))⟩, rg 61 (.p true (.pick (.t 57) (.c (.bool true)) (.t 60)))]) (.cond (.t 61) (.seq (.reg [rg 2 (.p true (.mv (.c (.bool false))))]) .ret) .skip)) (.seq (.reg [rg 10 (.p true (.mv (.c (.int .i64 1))))]) (.seq (.reg [mvt 62 7, mvt 63 10, rg 64 (.call true 35 [(.t 62), (.t 63)]), mvt 10 64]) (.seq (.reg [rg 11 (.p true (.mv (.c (.int .i64 1))))]) (.seq (.reg [mvt 65 7, mvt 66 11, rg 67 (.call true 36 [(.t 65), (.t 66)]), mvt 11 67]) (.seq (.seq (.reg [mvt 68 11, rg 69 (.p true (.bin .lss (.t 68) (.c (.int .i64 0))))]) (.cond (.t 69) (.seq (.reg [rg 2 (.p true (.mv (.c (.bool false))))]) .ret) .skip)) (.seq (.seq (.reg [mvt 70 11, mvt 71 10, rg 72 (.p true (.bin .neq (.t 70) (.t 71)))]) (.cond (.t 72) (.seq (.reg [rg 2 (.p true (.mv (.c (.bool false))))]) .ret) .skip)) (.seq (.reg [mvt 74 0, rg 75 (.call true 39 [(.t 74)]), rg 76 (.call true 40 [(.t 75)]), mvt 73 76, rg 77 (.p true (.ext (.t 73) 0)), rg 78 (.p true (.ext (.t 73) 1)), mvt 12 77, mvt 13 78]) (.seq (.seq (.reg [mvt 79 12, mvt 80 4, rg 81 (.call true 20 [(.t 79), (.t 80)]), rg 82 (.p true (.not (.t 81))), mvt 83 82, ⟨(some 84), (some (83, false)), (.p true (.mv (.t 13)))⟩, ⟨(some 85), (some (83, false)), (.p true (.mv (.t 5)))⟩, ⟨(some 86), (some (83, false)), (.p true (.bin .neq (.t 84) (.t 85)))⟩, rg 87 (.p true (.pick (.t 83) (.c (.bool true)) (.t 86)))]) (.cond (.t 87) (.seq (.reg [rg 2 (.p true (.mv (.c (.bool false))))]) .ret) .skip)) (.seq (.reg [rg 11 (.p true (.mv (.c (.int .i64 1))))]) (.seq (.reg [mvt 88 7, mvt 89 11, rg 90 (.call true 36 [(.t 88), (.t 89)]), mvt 11 90]) (.seq (.seq (.reg [mvt 91 11, rg 92 (.p true (.bin .lss (.t 91) (.c (.int .i64 0))))]) (.cond (.t 92) (.seq (.reg [rg 2 (.p true (.mv (.c (.bool false))))]) .ret) .skip)) (.seq (.seq (.reg [mvt 93 11, mvt 94 10, rg 95 (.p true (.bin .neq (.t 93) (.t 94)))]) (.cond (.t 95) (.seq (.reg [rg 2 (.p true (.mv (.c (.bool false))))]) .ret) .skip)) (.seq (.reg [rg 2 (.p true (.mv (.c (.bool true))))]) .ret)))))))))))))))))))))))))
theorem c9_is : compFn Tryd.prog 9 = some (c9, [(.tmp 2)]) := by kernel_rfl
theorem c9_ok : okFn Tryd.prog 9 = true := by kernel_rfl

noncomputable def F_laws_FnExactBlocksOfLibrary (v0 : List TNamedMelody) : Option (Bool) :=
 ((F_laws_szNamedMelodyS v0 1048576).bind fun v1000 => (bif (decide (v1000 < (0 : Int))) then some true
 else ((F_laws_toNamedMelodyS v0).bind fun v1001 => ((F_spec_BlocksOfLibrary v1001).bind fun v1002 => ((F_laws_toNamedMelodyS v0).bind fun v1003 => ((F_impl_BlocksOfLibrary v1003).bind fun v1004 => ((F_laws_eqBlockS v1004.1 v1002.1).bind fun v1006 => (bif (!v1006) then some false
 else (bif (decide (v1004.2 ≠ v1002.2)) then some false
 else ((F_laws_toNamedMelodyS v0).bind fun v1007 => ((F_laws_eqNamedMelodyS v1003 v1007).bind fun v1008 => (bif (!v1008) then some false
 else ((F_laws_markNamedMelodyS v1003 1).bind fun v1009 => need (v1009.1.length = v1003.length) ((bif (decide (v1009.2 < (0 : Int))) then some false
 else ((F_laws_eqBlockS v1004.1 v1002.1).bind fun v1012 => (bif (!v1012) then some false
 else (bif (decide (v1004.2 ≠ v1002.2)) then some false
 else ((F_laws_markBlockS v1004.1 1).bind fun v1013 => need (v1013.1.length = v1004.1.length) (((F_laws_heldBlockS v1013.1 1).bind fun v1015 => (bif (decide (v1015 < (0 : Int))) then some false
 else (bif (decide (v1015 ≠ v1013.2)) then some false
 else ((F_laws_toNamedMelodyS v0).bind fun v1016 => ((F_impl_BlocksOfLibrary v1016).bind fun v1017 => ((F_laws_eqBlockS v1017.1 v1002.1).bind fun v1019 => (bif (!v1019) then some false
 else (bif (decide (v1017.2 ≠ v1002.2)) then some false
 else ((F_laws_heldBlockS v1013.1 1).bind fun v1020 => (bif (decide (v1020 < (0 : Int))) then some false
 else (bif (decide (v1020 ≠ v1013.2)) then some false
 else some true)))))))))))))))))))))))))))))))
@[simp] def res_laws_FnExactBlocksOfLibrary (r : Bool) : RV := .one (.one (.val (.bool r)))
theorem con_laws_FnExactBlocksOfLibrary {v0 : List TNamedMelody} {r : Bool} (hF : F_laws_FnExactBlocksOfLibrary v0 = some r) : Con Tryd.prog 9 [.sl 2 (v0.map eNamedMelody)] (res_laws_FnExactBlocksOfLibrary r) := by
 unfold F_laws_FnExactBlocksOfLibrary at hF
 refine con_of c9_is fun N => ?_
 refine ws 0 64 ?_
 refine qp (AB false) rfl ?_
 refine r_nil ?_
 refine ws 64 128 ?_
 refine qp (AI 1048576) rfl ?_
 refine r_nil ?_
 refine ws 128 384 ?_
 refine qp (AL 2 (v0.map eNamedMelody)) rfl (qp (AI 1048576) rfl ?_)
 obtain ⟨v1000, e1000, hF⟩ := bind_get hF
 refine qc (AI v1000) [] false (con_laws_szNamedMelodyS e1000) c37_ok (by first | rfl | simp) rfl ?_
 refine qp (AI v1000) rfl ?_
 refine r_nil ?_
 refine w_seq ?_
 refine ws 384 512 ?_
 refine qp (AI v1000) rfl (qp (AB (decide (v1000 < (0 : Int)))) rfl ?_)
 refine r_nil ?_
 refine cF hF (fun hF => ?_) fun hF => ?_
 ·
  refine ws 512 576 ?_
  refine qp (AB true) rfl ?_
  refine r_nil ?_
  refine w_ret ?_
  refine thenQ_r ?_
  cases hF
  exact eR
 ·
  refine w_skip ?_
  refine thenQ_n ?_
  refine ws 512 1024 ?_
  refine qp (AL 2 (v0.map eNamedMelody)) rfl ?_
  obtain ⟨v1001, e1001, hF⟩ := bind_get hF
  refine qc (.sl 576 0 v1001.length) [(576, .row true 2 (v1001.map eNamedMelody))] false (con_laws_toNamedMelodyS e1001) c39_ok (by first | rfl | simp) (by simp [res_laws_toNamedMelodyS]) ?_
  obtain ⟨v1002, e1002, hF⟩ := bind_get hF
  refine qc (.tup [.sl 640 0 v1002.1.length, AI v1002.2]) [(640, .row true 3 (v1002.1.map eBlock)), (576, .row true 2 (v1001.map eNamedMelody))] true (con_spec_BlocksOfLibrary e1002) c38_ok (by simp [List.take_of_length_le]) (by simp [res_spec_BlocksOfLibrary]) ?_
  refine qp (.tup [.sl 640 0 v1002.1.length, AI v1002.2]) rfl (qp (.sl 640 0 v1002.1.length) rfl (qp (AI v1002.2) rfl (qp (.sl 640 0 v1002.1.length) rfl (qp (AI v1002.2) rfl ?_))))
  refine r_nil ?_
  refine ws 1024 1216 ?_
  refine qp (AL 2 (v0.map eNamedMelody)) rfl ?_
  obtain ⟨v1003, e1003, hF⟩ := bind_get hF
  refine qc (.sl 1088 0 v1003.length) [(1088, .row true 2 (v1003.map eNamedMelody)), (640, .row true 3 (v1002.1.map eBlock)), (576, .row true 2 (v1001.map eNamedMelody))] false (con_laws_toNamedMelodyS e1003) c39_ok (by first | rfl | simp) (by simp [res_laws_toNamedMelodyS]) ?_
  refine qp (.sl 1088 0 v1003.length) rfl ?_
  refine r_nil ?_
  refine ws 1216 1664 ?_
  refine qp (.sl 1088 0 v1003.length) rfl ?_
  obtain ⟨v1004, e1004, hF⟩ := bind_get hF
  refine qc (.tup [.sl 1280 0 v1004.1.length, AI v1004.2]) [(1280, .row true 3 (v1004.1.map eBlock)), (1088, .row true 2 (v1003.map eNamedMelody)), (640, .row true 3 (v1002.1.map eBlock)), (576, .row true 2 (v1001.map eNamedMelody))] true (con_impl_BlocksOfLibrary e1004) c40_ok (by simp [List.take_of_length_le]) (by simp [res_impl_BlocksOfLibrary]) ?_
  refine qp (.tup [.sl 1280 0 v1004.1.length, AI v1004.2]) rfl (qp (.sl 1280 0 v1004.1.length) rfl (qp (AI v1004.2) rfl (qp (.sl 1280 0 v1004.1.length) rfl (qp (AI v1004.2) rfl ?_))))
  refine r_nil ?_
  refine w_seq ?_
  refine ws 1664 2240 ?_
  refine qp (.sl 1280 0 v1004.1.length) rfl (qp (.sl 640 0 v1002.1.length) rfl ?_)
  obtain ⟨v1006, e1006, hF⟩ := bind_get hF
  refine qc (AB v1006) [(1280, .row true 3 (v1004.1.map eBlock)), (1088, .row true 2 (v1003.map eNamedMelody)), (640, .row true 3 (v1002.1.map eBlock)), (576, .row true 2 (v1001.map eNamedMelody))] true (con_laws_eqBlockS e1006) c20_ok (by simp [List.take_of_length_le]) rfl ?_
  refine qp (AB (!v1006)) rfl (qp (AB (!v1006)) rfl ?_)
  refine q_case 36 hF rfl (fun hF => ?_) (fun hF => ?_)
  ·
   refine qn rfl (qn rfl (qn rfl (qp (AB true) rfl ?_)))
   refine r_nil ?_
   refine w_true rfl ?_
   refine ws 2240 2304 ?_
   refine qp (AB false) rfl ?_
   refine r_nil ?_
   refine w_ret ?_
   refine thenQ_r ?_
   cases hF
   exact eR
  ·
   refine qg (AI v1004.2) rfl rfl (qg (AI v1002.2) rfl rfl (qg (AB (decide (v1004.2 ≠ v1002.2))) rfl rfl (qp (AB (decide (v1004.2 ≠ v1002.2))) rfl ?_)))
   refine r_nil ?_
   refine cF hF (fun hF => ?_) fun hF => ?_
   ·
    refine ws 2240 2304 ?_
    refine qp (AB false) rfl ?_
    refine r_nil ?_
    refine w_ret ?_
    refine thenQ_r ?_
    cases hF
    exact eR
   ·
    refine w_skip ?_
    refine thenQ_n ?_
    refine w_seq ?_
    refine ws 2240 2560 ?_
    refine qp (.sl 1088 0 v1003.length) rfl (qp (AL 2 (v0.map eNamedMelody)) rfl ?_)
    obtain ⟨v1007, e1007, hF⟩ := bind_get hF
    refine qc (.sl 2368 0 v1007.length) [(2368, .row true 2 (v1007.map eNamedMelody)), (1280, .row true 3 (v1004.1.map eBlock)), (1088, .row true 2 (v1003.map eNamedMelody)), (640, .row true 3 (v1002.1.map eBlock)), (576, .row true 2 (v1001.map eNamedMelody))] false (con_laws_toNamedMelodyS e1007) c39_ok (by first | rfl | simp) (by simp [res_laws_toNamedMelodyS]) ?_
    obtain ⟨v1008, e1008, hF⟩ := bind_get hF
    refine qc (AB v1008) [(2368, .row true 2 (v1007.map eNamedMelody)), (1280, .row true 3 (v1004.1.map eBlock)), (1088, .row true 2 (v1003.map eNamedMelody)), (640, .row true 3 (v1002.1.map eBlock)), (576, .row true 2 (v1001.map eNamedMelody))] true (con_laws_eqNamedMelodyS e1008) c41_ok (by simp [List.take_of_length_le]) rfl ?_
    refine qp (AB (!v1008)) rfl ?_
    refine r_nil ?_
    refine cF hF (fun hF => ?_) fun hF => ?_
    ·
     refine ws 2560 2624 ?_
     refine qp (AB false) rfl ?_
     refine r_nil ?_
     refine w_ret ?_
     refine thenQ_r ?_
     cases hF
     exact eR
    ·
     refine w_skip ?_
     refine thenQ_n ?_
     refine ws 2560 2624 ?_
     refine qp (AI 1) rfl ?_
     refine r_nil ?_
     refine ws 2624 2880 ?_
     refine qp (.sl 1088 0 v1003.length) rfl (qp (AI 1) rfl ?_)
     obtain ⟨v1009, e1009, hF⟩ := bind_get hF
     obtain ⟨g1010, hF⟩ := need_some hF
     refine qm (ls := [1088]) [(1088, .row true 2 (v1009.1.map eNamedMelody)), (2368, .row true 2 (v1007.map eNamedMelody)), (1280, .row true 3 (v1004.1.map eBlock)), (1088, .row true 2 (v1003.map eNamedMelody)), (640, .row true 3 (v1002.1.map eBlock)), (576, .row true 2 (v1001.map eNamedMelody))] (con_laws_markNamedMelodyS e1009) c42_ok (by first | rfl | simp [takeM, takeML, takeM1, g1010]) (by decide) (by simp [like2, likeL, like1, g1010]) rfl rfl rfl (by simp [scrO_fo, newO2, newO, scrR, scrA, scrAs]) ?_
     refine qp (AI v1009.2) rfl ?_
     refine r_nil ?_
     refine w_seq ?_
     refine ws 2880 3712 ?_
     refine qp (AI v1009.2) rfl (qp (AB (decide (v1009.2 < (0 : Int)))) rfl (qp (AB (decide (v1009.2 < (0 : Int)))) rfl ?_))
     refine q_case 51 hF rfl (fun hF => ?_) (fun hF => ?_)
     ·
      refine qn rfl (qn rfl (qn rfl (qn rfl (qp (AB true) rfl (qp (AB true) rfl (qn rfl (qn rfl ?_)))))))
      refine qn rfl (qp (AB true) rfl ?_)
      refine r_nil ?_
      refine w_true rfl ?_
      refine ws 3712 3776 ?_
      refine qp (AB false) rfl ?_
      refine r_nil ?_
      refine w_ret ?_
      refine thenQ_r ?_
      cases hF
      exact endQ_r rfl (.inl ⟨_, _, by first | rfl | (simp [List.take_of_length_le]; first | exact ⟨rfl, rfl⟩ | rfl), by simp, by first | rfl | simp [res_laws_FnExactBlocksOfLibrary, List.take_of_length_le, g1010]⟩)
     ·
      refine qg (.sl 1280 0 v1004.1.length) rfl rfl (qg (.sl 640 0 v1002.1.length) rfl rfl ?_)
      obtain ⟨v1012, e1012, hF⟩ := bind_get hF
      refine qcg (AB v1012) [(1088, .row true 2 (v1009.1.map eNamedMelody)), (2368, .row true 2 (v1007.map eNamedMelody)), (1280, .row true 3 (v1004.1.map eBlock)), (1088, .row true 2 (v1003.map eNamedMelody)), (640, .row true 3 (v1002.1.map eBlock)), (576, .row true 2 (v1001.map eNamedMelody))] true rfl (con_laws_eqBlockS e1012) c20_ok (by simp [g1010, List.take_of_length_le]) rfl ?_
      refine qg (AB (!v1012)) rfl rfl (qp (AB (!v1012)) rfl (qp (AB (!v1012)) rfl ?_))
      refine q_case 57 hF rfl (fun hF => ?_) (fun hF => ?_)
      ·
       refine qn rfl (qn rfl (qn rfl (qp (AB true) rfl ?_)))
       refine r_nil ?_
       refine w_true rfl ?_
       refine ws 3712 3776 ?_
       refine qp (AB false) rfl ?_
       refine r_nil ?_
       refine w_ret ?_
       refine thenQ_r ?_
       cases hF
       exact endQ_r rfl (.inl ⟨_, _, by first | rfl | (simp [List.take_of_length_le]; first | exact ⟨rfl, rfl⟩ | rfl), by simp, by first | rfl | simp [res_laws_FnExactBlocksOfLibrary, List.take_of_length_le, g1010]⟩)
      ·
       refine qg (AI v1004.2) rfl rfl (qg (AI v1002.2) rfl rfl (qg (AB (decide (v1004.2 ≠ v1002.2))) rfl rfl (qp (AB (decide (v1004.2 ≠ v1002.2))) rfl ?_)))
       refine r_nil ?_
       refine cF hF (fun hF => ?_) fun hF => ?_
       ·
        refine ws 3712 3776 ?_
        refine qp (AB false) rfl ?_
        refine r_nil ?_
        refine w_ret ?_
        refine thenQ_r ?_
        cases hF
        exact endQ_r rfl (.inl ⟨_, _, by first | rfl | (simp [List.take_of_length_le]; first | exact ⟨rfl, rfl⟩ | rfl), by simp, by first | rfl | simp [res_laws_FnExactBlocksOfLibrary, List.take_of_length_le, g1010]⟩)
       ·
        refine w_skip ?_
        refine thenQ_n ?_
        refine ws 3712 3776 ?_
        refine qp (AI 1) rfl ?_
        refine r_nil ?_
        refine ws 3776 4032 ?_
        refine qp (.sl 1280 0 v1004.1.length) rfl (qp (AI 1) rfl ?_)
        obtain ⟨v1013, e1013, hF⟩ := bind_get hF
        obtain ⟨g1014, hF⟩ := need_some hF
        refine qm (ls := [1280]) [(1280, .row true 3 (v1013.1.map eBlock)), (1088, .row true 2 (v1009.1.map eNamedMelody)), (2368, .row true 2 (v1007.map eNamedMelody)), (1280, .row true 3 (v1004.1.map eBlock)), (1088, .row true 2 (v1003.map eNamedMelody)), (640, .row true 3 (v1002.1.map eBlock)), (576, .row true 2 (v1001.map eNamedMelody))] (con_laws_markBlockS e1013) c35_ok (by first | rfl | simp [takeM, takeML, takeM1, g1010, g1014]) (by decide) (by simp [like2, likeL, like1, g1014]) rfl rfl rfl (by simp [scrO_fo, newO2, newO, scrR, scrA, scrAs]) ?_
        refine qp (AI v1013.2) rfl ?_
        refine r_nil ?_
        refine ws 4032 4096 ?_
        refine qp (AI 1) rfl ?_
        refine r_nil ?_
        refine ws 4096 4352 ?_
        refine qp (.sl 1280 0 v1004.1.length) rfl (qp (AI 1) rfl ?_)
        obtain ⟨v1015, e1015, hF⟩ := bind_get hF
        refine qc (AI v1015) [(1280, .row true 3 (v1013.1.map eBlock)), (1088, .row true 2 (v1009.1.map eNamedMelody)), (2368, .row true 2 (v1007.map eNamedMelody)), (1280, .row true 3 (v1004.1.map eBlock)), (1088, .row true 2 (v1003.map eNamedMelody)), (640, .row true 3 (v1002.1.map eBlock)), (576, .row true 2 (v1001.map eNamedMelody))] true (con_laws_heldBlockS e1015) c36_ok (by simp [g1010, g1014, List.take_of_length_le]) rfl ?_
        refine qp (AI v1015) rfl ?_
        refine r_nil ?_
        refine w_seq ?_
        refine ws 4352 4480 ?_
        refine qp (AI v1015) rfl (qp (AB (decide (v1015 < (0 : Int)))) rfl ?_)
        refine r_nil ?_
        refine cF hF (fun hF => ?_) fun hF => ?_
        ·
         refine ws 4480 4544 ?_
         refine qp (AB false) rfl ?_
         refine r_nil ?_
         refine w_ret ?_
         refine thenQ_r ?_
         cases hF
         exact endQ_r rfl (.inl ⟨_, _, by first | rfl | (simp [List.take_of_length_le]; first | exact ⟨rfl, rfl⟩ | rfl), by simp, by first | rfl | simp [res_laws_FnExactBlocksOfLibrary, List.take_of_length_le, g1010, g1014]⟩)
        ·
         refine w_skip ?_
         refine thenQ_n ?_
         refine w_seq ?_
         refine ws 4480 4672 ?_
         refine qp (AI v1015) rfl (qp (AI v1013.2) rfl (qp (AB (decide (v1015 ≠ v1013.2))) rfl ?_))
         refine r_nil ?_
         refine cF hF (fun hF => ?_) fun hF => ?_
         ·
          refine ws 4672 4736 ?_
          refine qp (AB false) rfl ?_
          refine r_nil ?_
          refine w_ret ?_
          refine thenQ_r ?_
          cases hF
          exact endQ_r rfl (.inl ⟨_, _, by first | rfl | (simp [List.take_of_length_le]; first | exact ⟨rfl, rfl⟩ | rfl), by simp, by first | rfl | simp [res_laws_FnExactBlocksOfLibrary, List.take_of_length_le, g1010, g1014]⟩)
         ·
          refine w_skip ?_
          refine thenQ_n ?_
          refine ws 4672 5184 ?_
          refine qp (AL 2 (v0.map eNamedMelody)) rfl ?_
          obtain ⟨v1016, e1016, hF⟩ := bind_get hF
          refine qc (.sl 4736 0 v1016.length) [(4736, .row true 2 (v1016.map eNamedMelody)), (1280, .row true 3 (v1013.1.map eBlock)), (1088, .row true 2 (v1009.1.map eNamedMelody)), (2368, .row true 2 (v1007.map eNamedMelody)), (1280, .row true 3 (v1004.1.map eBlock)), (1088, .row true 2 (v1003.map eNamedMelody)), (640, .row true 3 (v1002.1.map eBlock)), (576, .row true 2 (v1001.map eNamedMelody))] false (con_laws_toNamedMelodyS e1016) c39_ok (by first | rfl | simp) (by simp [res_laws_toNamedMelodyS]) ?_
          obtain ⟨v1017, e1017, hF⟩ := bind_get hF
          refine qc (.tup [.sl 4800 0 v1017.1.length, AI v1017.2]) [(4800, .row true 3 (v1017.1.map eBlock)), (4736, .row true 2 (v1016.map eNamedMelody)), (1280, .row true 3 (v1013.1.map eBlock)), (1088, .row true 2 (v1009.1.map eNamedMelody)), (2368, .row true 2 (v1007.map eNamedMelody)), (1280, .row true 3 (v1004.1.map eBlock)), (1088, .row true 2 (v1003.map eNamedMelody)), (640, .row true 3 (v1002.1.map eBlock)), (576, .row true 2 (v1001.map eNamedMelody))] true (con_impl_BlocksOfLibrary e1017) c40_ok (by simp [g1010, g1014, List.take_of_length_le]) (by simp [res_impl_BlocksOfLibrary]) ?_
          refine qp (.tup [.sl 4800 0 v1017.1.length, AI v1017.2]) rfl (qp (.sl 4800 0 v1017.1.length) rfl (qp (AI v1017.2) rfl (qp (.sl 4800 0 v1017.1.length) rfl (qp (AI v1017.2) rfl ?_))))
          refine r_nil ?_
          refine w_seq ?_
          refine ws 5184 5760 ?_
          refine qp (.sl 4800 0 v1017.1.length) rfl (qp (.sl 640 0 v1002.1.length) rfl ?_)
          obtain ⟨v1019, e1019, hF⟩ := bind_get hF
          refine qc (AB v1019) [(4800, .row true 3 (v1017.1.map eBlock)), (4736, .row true 2 (v1016.map eNamedMelody)), (1280, .row true 3 (v1013.1.map eBlock)), (1088, .row true 2 (v1009.1.map eNamedMelody)), (2368, .row true 2 (v1007.map eNamedMelody)), (1280, .row true 3 (v1004.1.map eBlock)), (1088, .row true 2 (v1003.map eNamedMelody)), (640, .row true 3 (v1002.1.map eBlock)), (576, .row true 2 (v1001.map eNamedMelody))] true (con_laws_eqBlockS e1019) c20_ok (by simp [g1010, g1014, List.take_of_length_le]) rfl ?_
          refine qp (AB (!v1019)) rfl (qp (AB (!v1019)) rfl ?_)
          refine q_case 83 hF rfl (fun hF => ?_) (fun hF => ?_)
          ·
           refine qn rfl (qn rfl (qn rfl (qp (AB true) rfl ?_)))
           refine r_nil ?_
           refine w_true rfl ?_
           refine ws 5760 5824 ?_
           refine qp (AB false) rfl ?_
           refine r_nil ?_
           refine w_ret ?_
           refine thenQ_r ?_
           cases hF
           exact endQ_r rfl (.inl ⟨_, _, by first | rfl | (simp [List.take_of_length_le]; first | exact ⟨rfl, rfl⟩ | rfl), by simp, by first | rfl | simp [res_laws_FnExactBlocksOfLibrary, List.take_of_length_le, g1010, g1014]⟩)
          ·
           refine qg (AI v1017.2) rfl rfl (qg (AI v1002.2) rfl rfl (qg (AB (decide (v1017.2 ≠ v1002.2))) rfl rfl (qp (AB (decide (v1017.2 ≠ v1002.2))) rfl ?_)))
           refine r_nil ?_
           refine cF hF (fun hF => ?_) fun hF => ?_
           ·
            refine ws 5760 5824 ?_
            refine qp (AB false) rfl ?_
            refine r_nil ?_
            refine w_ret ?_
            refine thenQ_r ?_
            cases hF
            exact endQ_r rfl (.inl ⟨_, _, by first | rfl | (simp [List.take_of_length_le]; first | exact ⟨rfl, rfl⟩ | rfl), by simp, by first | rfl | simp [res_laws_FnExactBlocksOfLibrary, List.take_of_length_le, g1010, g1014]⟩)
           ·
            refine w_skip ?_
            refine thenQ_n ?_
            refine ws 5760 5824 ?_
            refine qp (AI 1) rfl ?_
            refine r_nil ?_
            refine ws 5824 6080 ?_
            refine qp (.sl 1280 0 v1004.1.length) rfl (qp (AI 1) rfl ?_)
            obtain ⟨v1020, e1020, hF⟩ := bind_get hF
            refine qc (AI v1020) [(4800, .row true 3 (v1017.1.map eBlock)), (4736, .row true 2 (v1016.map eNamedMelody)), (1280, .row true 3 (v1013.1.map eBlock)), (1088, .row true 2 (v1009.1.map eNamedMelody)), (2368, .row true 2 (v1007.map eNamedMelody)), (1280, .row true 3 (v1004.1.map eBlock)), (1088, .row true 2 (v1003.map eNamedMelody)), (640, .row true 3 (v1002.1.map eBlock)), (576, .row true 2 (v1001.map eNamedMelody))] true (con_laws_heldBlockS e1020) c36_ok (by simp [g1010, g1014, List.take_of_length_le]) rfl ?_
            refine qp (AI v1020) rfl ?_
            refine r_nil ?_
            refine w_seq ?_
            refine ws 6080 6208 ?_
            refine qp (AI v1020) rfl (qp (AB (decide (v1020 < (0 : Int)))) rfl ?_)
            refine r_nil ?_
            refine cF hF (fun hF => ?_) fun hF => ?_
            ·
             refine ws 6208 6272 ?_
             refine qp (AB false) rfl ?_
             refine r_nil ?_
             refine w_ret ?_
             refine thenQ_r ?_
             cases hF
             exact endQ_r rfl (.inl ⟨_, _, by first | rfl | (simp [List.take_of_length_le]; first | exact ⟨rfl, rfl⟩ | rfl), by simp, by first | rfl | simp [res_laws_FnExactBlocksOfLibrary, List.take_of_length_le, g1010, g1014]⟩)
            ·
             refine w_skip ?_
             refine thenQ_n ?_
             refine w_seq ?_
             refine ws 6208 6400 ?_
             refine qp (AI v1020) rfl (qp (AI v1013.2) rfl (qp (AB (decide (v1020 ≠ v1013.2))) rfl ?_))
             refine r_nil ?_
             refine cF hF (fun hF => ?_) fun hF => ?_
             ·
              refine ws 6400 6464 ?_
              refine qp (AB false) rfl ?_
              refine r_nil ?_
              refine w_ret ?_
              refine thenQ_r ?_
              cases hF
              exact endQ_r rfl (.inl ⟨_, _, by first | rfl | (simp [List.take_of_length_le]; first | exact ⟨rfl, rfl⟩ | rfl), by simp, by first | rfl | simp [res_laws_FnExactBlocksOfLibrary, List.take_of_length_le, g1010, g1014]⟩)
             ·
              refine w_skip ?_
              refine thenQ_n ?_
              refine ws 6400 6464 ?_
              refine qp (AB true) rfl ?_
              refine r_nil ?_
              refine w_ret ?_
              cases hF
              exact endQ_r rfl (.inl ⟨_, _, by first | rfl | (simp [List.take_of_length_le]; first | exact ⟨rfl, rfl⟩ | rfl), by simp, by first | rfl | simp [res_laws_FnExactBlocksOfLibrary, List.take_of_length_le, g1010, g1014]⟩)

end Go.Ab
