/- Walks (printed by auto.py, a program of this session's own). -/
import Derived.Test.YthcojmhjnbebdaaDoorS0
import Derived.Test.YthcojmhjnbebdaaDoorProg
import Derived.KernelRfl
import Derived.Test.YthcojmhjnbebdaaDoorSQ
set_option linter.unusedVariables false
set_option linter.unusedSimpArgs false
set_option maxRecDepth 8000
set_option maxHeartbeats 8000000
namespace Go.Ab
open Go.RowKit Go.Proofs

abbrev TNote := Int × Int
@[simp] def eNote (p : TNote) : V := .agg [.int .i64 p.1, .int .i64 p.2]
abbrev TNamedMelody := (List UInt8) × (List TNote)
@[simp] def eNamedMelody (p : TNamedMelody) : V := .agg [.str p.1, .sl 2 (p.2.map eNote)]
abbrev TBlock := (List UInt8) × (List UInt8) × (List UInt8)
@[simp] def eBlock (p : TBlock) : V := .agg [.str p.1, .str p.2.1, .str p.2.2]
def c125 : MC := (.seq (.reg [rg 4 (.p true (.mv (.c (.int .i64 0))))]) (.seq (.reg [mvt 5 1, mvt 6 0, rg 7 (.p true (.len (.t 6))), rg 8 (.p true (.bin .sub (.t 5) (.t 7))), mvt 1 8]) (.seq (.seq (.reg [mvt 9 1, rg 10 (.p true (.bin .lss (.t 9) (.c (.int .i64 0))))]) (.cond (.t 10) (.seq (.reg [rg 4 (.p true (.mv (.c (.int .i64 (-1)))))]) .ret) .skip)) (.seq (.reg [mvt 11 1, mvt 4 11]) .ret))))
theorem c125_is : compFn Tryd.prog 125 = some (c125, [(.tmp 4)]) := by kernel_rfl
theorem c125_ok : okFn Tryd.prog 125 = true := by kernel_rfl

noncomputable def F_laws_szNoteS (v0 : List TNote) (v1 : Int) : Option (Int) :=
 (bif (decide (w64 (v1 - (v0.length : Int)) < (0 : Int))) then some (-1)
 else some (w64 (v1 - (v0.length : Int))))
@[simp] def res_laws_szNoteS (r : Int) : RV := .one (.one (.val (.int .i64 r)))
theorem con_laws_szNoteS {v0 : List TNote} {v1 : Int} {r : Int} (hF : F_laws_szNoteS v0 v1 = some r) : Con Tryd.prog 125 [.sl 2 (v0.map eNote), .int .i64 v1] (res_laws_szNoteS r) := by
 unfold F_laws_szNoteS at hF
 refine con_of c125_is fun N => ?_
 refine ws 0 64 ?_
 refine qp (AI 0) rfl ?_
 refine r_nil ?_
 refine ws 64 384 ?_
 refine qp (AI v1) rfl (qp (AL 2 (v0.map eNote)) rfl (qp (AI (v0.length : Int)) (ev_len_n rfl) (qp (AI (w64 (v1 - (v0.length : Int)))) rfl (qp (AI (w64 (v1 - (v0.length : Int)))) rfl ?_))))
 refine r_nil ?_
 refine w_seq ?_
 refine ws 384 512 ?_
 refine qp (AI (w64 (v1 - (v0.length : Int)))) rfl (qp (AB (decide (w64 (v1 - (v0.length : Int)) < (0 : Int)))) rfl ?_)
 refine r_nil ?_
 refine cF hF (fun hF => ?_) fun hF => ?_
 ·
  refine ws 512 576 ?_
  refine qp (AI (-1)) rfl ?_
  refine r_nil ?_
  refine w_ret ?_
  refine thenQ_r ?_
  cases hF
  exact eR
 ·
  refine w_skip ?_
  refine thenQ_n ?_
  refine ws 512 640 ?_
  refine qp (AI (w64 (v1 - (v0.length : Int)))) rfl (qp (AI (w64 (v1 - (v0.length : Int)))) rfl ?_)
  refine r_nil ?_
  refine w_ret ?_
  cases hF
  exact eR

def c81 : MC := (.seq (.reg [rg 2 (.f (.box (.t 0))), rg 4 (.p true (.mv (.c (.int .i64 0))))]) (.seq (.reg [mvt 5 1, rg 6 (.p true (.fad (.t 2) 0)), rg 7 (.p true (.ld (.t 6) 1 false)), rg 8 (.p true (.lens (.t 7))), rg 9 (.p true (.bin .sub (.t 5) (.t 8))), mvt 1 9]) (.seq (.seq (.reg [mvt 10 1, rg 11 (.p true (.bin .lss (.t 10) (.c (.int .i64 0))))]) (.cond (.t 11) (.seq (.reg [rg 4 (.p true (.mv (.c (.int .i64 (-1)))))]) .ret) .skip)) (.seq (.reg [rg 12 (.p true (.fad (.t 2) 1)), rg 13 (.p true (.ld (.t 12) 1 false)), mvt 14 1, rg 15 (.call true 125 [(.t 13), (.t 14)]), mvt 1 15]) (.seq (.seq (.reg [mvt 16 1, rg 17 (.p true (.bin .lss (.t 16) (.c (.int .i64 0))))]) (.cond (.t 17) (.seq (.reg [rg 4 (.p true (.mv (.c (.int .i64 (-1)))))]) .ret) .skip)) (.seq (.reg [mvt 18 1, mvt 4 18]) .ret))))))
theorem c81_is : compFn Tryd.prog 81 = some (c81, [(.tmp 4)]) := by kernel_rfl
theorem c81_ok : okFn Tryd.prog 81 = true := by kernel_rfl

noncomputable def F_laws_szNamedMelody (v0 : TNamedMelody) (v1 : Int) : Option (Int) :=
 (bif (decide (w64 (v1 - (v0.1.length : Int)) < (0 : Int))) then some (-1)
 else ((F_laws_szNoteS v0.2 (w64 (v1 - (v0.1.length : Int)))).bind fun v1000 => (bif (decide (v1000 < (0 : Int))) then some (-1)
 else some v1000)))
@[simp] def res_laws_szNamedMelody (r : Int) : RV := .one (.one (.val (.int .i64 r)))
theorem con_laws_szNamedMelody {v0 : TNamedMelody} {v1 : Int} {r : Int} (hF : F_laws_szNamedMelody v0 v1 = some r) : Con Tryd.prog 81 [eNamedMelody v0, .int .i64 v1] (res_laws_szNamedMelody r) := by
 unfold F_laws_szNamedMelody at hF
 refine con_of c81_is fun N => ?_
 refine ws 0 128 ?_
 refine qf (.ptr 0 0 0) [(0, .box [AS v0.1, AL 2 (v0.2.map eNote)])] (by simp) ?_
 refine qp (AI 0) rfl ?_
 refine r_nil ?_
 refine ws 128 512 ?_
 refine qp (AI v1) rfl (qp (.ptr 0 0 0) rfl (qp (AS v0.1) rfl (qp (AI (v0.1.length : Int)) rfl (qp (AI (w64 (v1 - (v0.1.length : Int)))) rfl (qp (AI (w64 (v1 - (v0.1.length : Int)))) rfl ?_)))))
 refine r_nil ?_
 refine w_seq ?_
 refine ws 512 640 ?_
 refine qp (AI (w64 (v1 - (v0.1.length : Int)))) rfl (qp (AB (decide (w64 (v1 - (v0.1.length : Int)) < (0 : Int)))) rfl ?_)
 refine r_nil ?_
 refine cF hF (fun hF => ?_) fun hF => ?_
 ·
  refine ws 640 704 ?_
  refine qp (AI (-1)) rfl ?_
  refine r_nil ?_
  refine w_ret ?_
  refine thenQ_r ?_
  cases hF
  exact eR
 ·
  refine w_skip ?_
  refine thenQ_n ?_
  refine ws 640 960 ?_
  refine qp (.ptr 0 0 1) rfl (qp (AL 2 (v0.2.map eNote)) rfl (qp (AI (w64 (v1 - (v0.1.length : Int)))) rfl ?_))
  obtain ⟨v1000, e1000, hF⟩ := bind_get hF
  refine qc (AI v1000) [(0, .box [AS v0.1, AL 2 (v0.2.map eNote)])] false (con_laws_szNoteS e1000) c125_ok (by first | rfl | simp) rfl ?_
  refine qp (AI v1000) rfl ?_
  refine r_nil ?_
  refine w_seq ?_
  refine ws 960 1088 ?_
  refine qp (AI v1000) rfl (qp (AB (decide (v1000 < (0 : Int)))) rfl ?_)
  refine r_nil ?_
  refine cF hF (fun hF => ?_) fun hF => ?_
  ·
   refine ws 1088 1152 ?_
   refine qp (AI (-1)) rfl ?_
   refine r_nil ?_
   refine w_ret ?_
   refine thenQ_r ?_
   cases hF
   exact eR
  ·
   refine w_skip ?_
   refine thenQ_n ?_
   refine ws 1088 1216 ?_
   refine qp (AI v1000) rfl (qp (AI v1000) rfl ?_)
   refine r_nil ?_
   refine w_ret ?_
   cases hF
   exact eR

def c37 : MC := (.seq (.reg [rg 4 (.p true (.mv (.c (.int .i64 0))))]) (.seq (.reg [mvt 6 1, mvt 7 0, rg 8 (.p true (.len (.t 7))), rg 9 (.p true (.bin .sub (.t 6) (.t 8))), mvt 1 9]) (.seq (.seq (.reg [mvt 10 1, rg 11 (.p true (.bin .lss (.t 10) (.c (.int .i64 0))))]) (.cond (.t 11) (.seq (.reg [rg 4 (.p true (.mv (.c (.int .i64 (-1)))))]) .ret) .skip)) (.seq (.seq (.reg [rg 5 (.p true (.mv (.c (.int .i64 0))))]) (.block 0 (.loop (.seq (.seq (.reg [mvt 12 5, mvt 13 0, rg 14 (.p true (.len (.t 13))), rg 15 (.p true (.bin .lss (.t 12) (.t 14)))]) (.cond (.t 15) .skip (.exit 0))) (.seq (.block 1 (.seq (.reg [mvt 18 0, mvt 19 5, rg 20 (.p true (.iad (.t 18) (.t 19) 2)), rg 21 (.p true (.ld (.t 20) 2 true)), mvt 22 1, rg 23 (.call true 81 [(.t 21), (.t 22)]), mvt 1 23]) (.seq (.reg [mvt 24 1, rg 25 (.p true (.bin .lss (.t 24) (.c (.int .i64 0))))]) (.cond (.t 25) (.seq (.reg [rg 4 (.p true (.mv (.c (.int .i64 (-1)))))]) .ret) .skip)))) (.reg [mvt 16 5, rg 17 (.p true (.bin .add (.t 16) (.c (.int .i64 1)))), mvt 5 17])))))) (.seq (.reg [mvt 26 1, mvt 4 26]) .ret)))))
theorem c37_is : compFn Tryd.prog 37 = some (c37, [(.tmp 4)]) := by kernel_rfl
theorem c37_ok : okFn Tryd.prog 37 = true := by kernel_rfl

noncomputable def F_laws_szNamedMelodyS_l0 (v0 : List TNamedMelody) (k0 : Int × Int → Option (Int)) : Int × Int → Option (Int)
 | (v50002, v50003) => (bif (decide (v50003 < (v0.length : Int))) then ((ix v0 v50003).bind fun v1000 => ((F_laws_szNamedMelody v1000 v50002).bind fun v1001 => (bif (decide (v1001 < (0 : Int))) then some (-1)
 else k0 (v1001, w64 (v50003 + 1)))))
 else some v50002)
noncomputable def F_laws_szNamedMelodyS (v0 : List TNamedMelody) (v1 : Int) : Option (Int) :=
 (bif (decide (w64 (v1 - (v0.length : Int)) < (0 : Int))) then some (-1)
 else loop (F_laws_szNamedMelodyS_l0 v0) (w64 (v1 - (v0.length : Int)), 0))
@[simp] def res_laws_szNamedMelodyS (r : Int) : RV := .one (.one (.val (.int .i64 r)))
theorem con_laws_szNamedMelodyS {v0 : List TNamedMelody} {v1 : Int} {r : Int} (hF : F_laws_szNamedMelodyS v0 v1 = some r) : Con Tryd.prog 37 [.sl 2 (v0.map eNamedMelody), .int .i64 v1] (res_laws_szNamedMelodyS r) := by
 unfold F_laws_szNamedMelodyS at hF
 refine con_of c37_is fun N => ?_
 refine ws 0 64 ?_
 refine qp (AI 0) rfl ?_
 refine r_nil ?_
 refine ws 64 384 ?_
 refine qp (AI v1) rfl (qp (AL 2 (v0.map eNamedMelody)) rfl (qp (AI (v0.length : Int)) (ev_len_n rfl) (qp (AI (w64 (v1 - (v0.length : Int)))) rfl (qp (AI (w64 (v1 - (v0.length : Int)))) rfl ?_))))
 refine r_nil ?_
 refine w_seq ?_
 refine ws 384 512 ?_
 refine qp (AI (w64 (v1 - (v0.length : Int)))) rfl (qp (AB (decide (w64 (v1 - (v0.length : Int)) < (0 : Int)))) rfl ?_)
 refine r_nil ?_
 refine cF hF (fun hF => ?_) fun hF => ?_
 ·
  refine ws 512 576 ?_
  refine qp (AI (-1)) rfl ?_
  refine r_nil ?_
  refine w_ret ?_
  refine thenQ_r ?_
  cases hF
  exact eR
 ·
  refine w_skip ?_
  refine thenQ_n ?_
  refine w_seq ?_
  refine ws 512 576 ?_
  refine qp (AI 0) rfl ?_
  refine r_nil ?_
  refine w_block ?_
  refine wr (l' := [(0, AL 2 (v0.map eNamedMelody)), (1, AI (w64 (v1 - (v0.length : Int)))), (5, AI 0)]) (L := []) [0, 1, 5] [] 1 ?_
  refine w_loopF (F_laws_szNamedMelodyS_l0 v0) (fun s : Int × Int => mkS [(0, AL 2 (v0.map eNamedMelody)), (1, AI s.1), (5, AI s.2)] (fo []) 1) hF ?_
  rintro k0 ⟨v50002, v50003⟩ hF
  rw [F_laws_szNamedMelodyS_l0] at hF
  try dsimp only
  refine w_seq ?_
  refine ws 1 257 ?_
  refine qp (AI v50003) rfl (qp (AL 2 (v0.map eNamedMelody)) rfl (qp (AI (v0.length : Int)) (ev_len_n rfl) (qp (AB (decide (v50003 < (v0.length : Int)))) rfl ?_)))
  refine r_nil ?_
  refine cF hF (fun hF => ?_) fun hF => ?_
  ·
   refine w_skip ?_
   refine thenQ_n ?_
   refine w_seq ?_
   refine w_block ?_
   refine ws 257 705 ?_
   refine qp (AL 2 (v0.map eNamedMelody)) rfl (qp (AI v50003) rfl ?_)
   obtain ⟨v1000, e1000, hF⟩ := bind_get hF
   refine qp (.val none (.ptr [.str v1000.1, .sl 2 (v1000.2.map eNote)])) (ev_iad_n rfl rfl e1000 rfl) (qp (.val none (eNamedMelody v1000)) rfl (qp (AI v50002) rfl ?_))
   obtain ⟨v1001, e1001, hF⟩ := bind_get hF
   refine qc (AI v1001) [] false (con_laws_szNamedMelody e1001) c81_ok (by first | rfl | simp) rfl ?_
   refine qp (AI v1001) rfl ?_
   refine r_nil ?_
   refine ws 705 833 ?_
   refine qp (AI v1001) rfl (qp (AB (decide (v1001 < (0 : Int)))) rfl ?_)
   refine r_nil ?_
   refine cF hF (fun hF => ?_) fun hF => ?_
   ·
    refine ws 833 897 ?_
    refine qp (AI (-1)) rfl ?_
    refine r_nil ?_
    refine w_ret ?_
    refine blockQ_r ?_
    refine thenQ_r ?_
    refine thenQ_r ?_
    refine blockQ_r ?_
    refine thenQ_r ?_
    cases hF
    exact eR
   ·
    refine w_skip ?_
    refine blockQ_n ?_
    refine thenQ_n ?_
    refine w_reg 833 1025 rfl rfl ?_
    refine qp (AI v50003) rfl (qp (AI (w64 (v50003 + 1))) rfl (qp (AI (w64 (v50003 + 1))) rfl ?_))
    refine r_nil ?_
    refine thenQ_n ?_
    refine ar (l' := [(0, AL 2 (v0.map eNamedMelody)), (1, AI v1001), (5, AI (w64 (v50003 + 1)))]) (L := []) [0, 1, 5] [] 1 ⟨_, by rfl, hF⟩
  ·
   refine w_exit ?_
   refine thenQ_e ?_
   refine thenQ_e ?_
   refine blockQ_e ?_
   refine thenQ_n ?_
   refine ws 257 385 ?_
   refine qp (AI v50002) rfl (qp (AI v50002) rfl ?_)
   refine r_nil ?_
   refine w_ret ?_
   cases hF
   exact eR

def c163 : MC := (.seq (.reg [rg 1 (.f (.box (.t 0))), rg 2 (.f (.alloc [((.int .i64 0), (0, false)), ((.int .i64 0), (0, false))]))]) (.seq (.reg [rg 3 (.f (.alloc [((.int .i64 0), (0, false)), ((.int .i64 0), (0, false))]))]) (.seq (.reg [rg 4 (.p true (.fad (.t 1) 0)), rg 5 (.p true (.ld (.t 4) 1 false)), rg 6 (.p true (.fad (.t 3) 0)), ⟨none, none, (.f (.st (.t 6) (.t 5) 1))⟩]) (.seq (.reg [rg 7 (.p true (.fad (.t 1) 1)), rg 8 (.p true (.ld (.t 7) 1 false)), rg 9 (.p true (.fad (.t 3) 1)), ⟨none, none, (.f (.st (.t 9) (.t 8) 1))⟩]) (.seq (.reg [rg 10 (.p true (.ld (.t 3) 2 true)), ⟨none, none, (.f (.st (.t 2) (.t 10) 2))⟩]) .ret)))))
theorem c163_is : compFn Tryd.prog 163 = some (c163, [(.cell (.ld (.t 2) 2 true))]) := by kernel_rfl
theorem c163_ok : okFn Tryd.prog 163 = true := by kernel_rfl

noncomputable def F_laws_toNote (v0 : TNote) : Option (TNote) :=
 some v0
@[simp] def res_laws_toNote (r : TNote) : RV := .one (.one (.val (eNote r)))
theorem con_laws_toNote {v0 : TNote} {r : TNote} (hF : F_laws_toNote v0 = some r) : Con Tryd.prog 163 [eNote v0] (res_laws_toNote r) := by
 unfold F_laws_toNote at hF
 refine con_of c163_is fun N => ?_
 refine ws 0 128 ?_
 refine qf (.ptr 0 0 0) [(0, .box [AI v0.1, AI v0.2])] (by simp) ?_
 refine qf (.ptr 64 0 0) [(64, .box [AI 0, AI 0]), (0, .box [AI v0.1, AI v0.2])] (by simp) ?_
 refine r_nil ?_
 refine ws 128 192 ?_
 refine qf (.ptr 128 0 0) [(128, .box [AI 0, AI 0]), (64, .box [AI 0, AI 0]), (0, .box [AI v0.1, AI v0.2])] (by simp) ?_
 refine r_nil ?_
 refine ws 192 448 ?_
 refine qp (.ptr 0 0 0) rfl (qp (AI v0.1) rfl (qp (.ptr 128 0 0) rfl ?_))
 refine qf0 (.undef) [(128, .box [AI v0.1, AI 0]), (128, .box [AI 0, AI 0]), (64, .box [AI 0, AI 0]), (0, .box [AI v0.1, AI v0.2])] (by simp) ?_
 refine r_nil ?_
 refine ws 448 704 ?_
 refine qp (.ptr 0 0 1) rfl (qp (AI v0.2) rfl (qp (.ptr 128 0 1) rfl ?_))
 refine qf0 (.undef) [(128, .box [AI v0.1, AI v0.2]), (128, .box [AI v0.1, AI 0]), (128, .box [AI 0, AI 0]), (64, .box [AI 0, AI 0]), (0, .box [AI v0.1, AI v0.2])] (by simp) ?_
 refine r_nil ?_
 refine ws 704 832 ?_
 refine qp (.agg [AI v0.1, AI v0.2]) rfl ?_
 refine qf0 (.undef) [(64, .box [AI v0.1, AI v0.2]), (128, .box [AI v0.1, AI v0.2]), (128, .box [AI v0.1, AI 0]), (128, .box [AI 0, AI 0]), (64, .box [AI 0, AI 0]), (0, .box [AI v0.1, AI v0.2])] (by simp) ?_
 refine r_nil ?_
 refine w_ret ?_
 cases hF
 exact eR

def c128 : MC := (.seq (.reg [rg 2 (.f (.nilrow 2))]) (.seq (.reg [mvt 5 0, rg 6 (.p true (.len (.t 5))), rg 7 (.f (.mks 2 16 (.agg [(.int .i64 0), (.int .i64 0)]) (.t 6) (.t 6))), mvt 3 7]) (.seq (.seq (.reg [rg 4 (.p true (.mv (.c (.int .i64 0))))]) (.block 0 (.loop (.seq (.seq (.reg [mvt 8 4, mvt 9 0, rg 10 (.p true (.len (.t 9))), rg 11 (.p true (.bin .lss (.t 8) (.t 10)))]) (.cond (.t 11) .skip (.exit 0))) (.seq (.block 1 (.reg [mvt 14 3, mvt 15 4, mvt 16 0, mvt 17 4, rg 18 (.p true (.iad (.t 16) (.t 17) 2)), rg 19 (.p true (.ld (.t 18) 2 true)), rg 20 (.call true 163 [(.t 19)]), rg 21 (.p true (.iad (.t 14) (.t 15) 2)), ⟨none, none, (.f (.st (.t 21) (.t 20) 2))⟩])) (.reg [mvt 12 4, rg 13 (.p true (.bin .add (.t 12) (.c (.int .i64 1)))), mvt 4 13])))))) (.seq (.reg [mvt 22 3, mvt 2 22]) .ret))))
theorem c128_is : compFn Tryd.prog 128 = some (c128, [(.tmp 2)]) := by kernel_rfl
theorem c128_ok : okFn Tryd.prog 128 = true := by kernel_rfl

noncomputable def F_laws_toNoteS_l0 (v0 : List TNote) (k1 : Int × (List TNote) → Option (List TNote)) : Int × (List TNote) → Option (List TNote)
 | (v50006, v50007) => (bif (decide (v50006 < (v0.length : Int))) then ((ix v0 v50006).bind fun v1007 => ((F_laws_toNote v1007).bind fun v1008 => ((ix v50007 v50006).bind fun v1009 => k1 (w64 (v50006 + 1), List.set v50007 v50006.toNat v1008))))
 else some v50007)
noncomputable def F_laws_toNoteS (v0 : List TNote) : Option (List TNote) :=
 (need (0 ≤ (v0.length : Int) ∧ (v0.length : Int) ≤ (v0.length : Int) ∧ (v0.length : Int) ≤ 9223372036854775807 ∧ 16 * (v0.length : Int) ≤ 281474976710656) (loop (F_laws_toNoteS_l0 v0) (0, List.replicate ((v0.length : Int)).toNat ((0, 0) : TNote))))
@[simp] def res_laws_toNoteS (r : List TNote) : RV := .one (.one (.row true 2 (r.map eNote)))
theorem con_laws_toNoteS {v0 : List TNote} {r : List TNote} (hF : F_laws_toNoteS v0 = some r) : Con Tryd.prog 128 [.sl 2 (v0.map eNote)] (res_laws_toNoteS r) := by
 unfold F_laws_toNoteS at hF
 refine con_of c128_is fun N => ?_
 refine ws 0 64 ?_
 refine qf (.sl 0 0 0) [(0, .row true 2 (([] : List Int).map vI))] (by simp) ?_
 refine r_nil ?_
 refine ws 64 320 ?_
 refine qp (AL 2 (v0.map eNote)) rfl (qp (AI (v0.length : Int)) (ev_len_n rfl) ?_)
 obtain ⟨g1000, hF⟩ := need_some hF
 refine qf (.sl 192 0 ((List.replicate ((v0.length : Int)).toNat ((0, 0) : TNote)).length)) [(192, .row true 2 ((List.replicate ((v0.length : Int)).toNat ((0, 0) : TNote)).map eNote)), (0, .row true 2 (([] : List Int).map vI))] (effT_mks rfl rfl g1000 rfl) ?_
 refine qp (.sl 192 0 ((List.replicate ((v0.length : Int)).toNat ((0, 0) : TNote)).length)) rfl ?_
 refine r_nil ?_
 refine w_seq ?_
 refine ws 320 384 ?_
 refine qp (AI 0) rfl ?_
 refine r_nil ?_
 refine w_block ?_
 refine wr (l' := [(0, AL 2 (v0.map eNote)), (3, .sl 0 0 (List.replicate ((v0.length : Int)).toNat ((0, 0) : TNote)).length), (4, AI 0)]) (L := [(0, .row true 2 ((List.replicate ((v0.length : Int)).toNat ((0, 0) : TNote)).map eNote))]) [0, 3, 4] [(192, 0)] 1 ?_
 refine w_loopF (F_laws_toNoteS_l0 v0) (fun s : Int × (List TNote) => mkS [(0, AL 2 (v0.map eNote)), (3, .sl 0 0 s.2.length), (4, AI s.1)] (fo [(0, .row true 2 (s.2.map eNote))]) 1) hF ?_
 rintro k1 ⟨v50006, v50007⟩ hF
 rw [F_laws_toNoteS_l0] at hF
 try dsimp only
 refine w_seq ?_
 refine ws 1 257 ?_
 refine qp (AI v50006) rfl (qp (AL 2 (v0.map eNote)) rfl (qp (AI (v0.length : Int)) (ev_len_n rfl) (qp (AB (decide (v50006 < (v0.length : Int)))) rfl ?_)))
 refine r_nil ?_
 refine cF hF (fun hF => ?_) fun hF => ?_
 ·
  refine w_skip ?_
  refine thenQ_n ?_
  refine w_seq ?_
  refine w_block ?_
  refine w_reg 257 833 rfl rfl ?_
  refine qp (.sl 0 0 v50007.length) rfl (qp (AI v50006) rfl (qp (AL 2 (v0.map eNote)) rfl (qp (AI v50006) rfl ?_)))
  obtain ⟨v1007, e1007, hF⟩ := bind_get hF
  refine qp (.val none (.ptr [.int .i64 v1007.1, .int .i64 v1007.2])) (ev_iad_n rfl rfl e1007 rfl) (qp (.val none (eNote v1007)) rfl ?_)
  obtain ⟨v1008, e1008, hF⟩ := bind_get hF
  refine qc (.val none (eNote v1008)) [(0, .row true 2 (v50007.map eNote))] false (con_laws_toNote e1008) c163_ok (by first | rfl | simp) rfl ?_
  obtain ⟨v1009, e1009, hF⟩ := bind_get hF
  refine qp (.ptr 0 v50006.toNat 0) (ev_iad_r rfl (by simp) rfl rfl e1009) ?_
  refine qf0 (.undef) [(0, .row true 2 ((List.set v50007 v50006.toNat v1008).map eNote)), (0, .row true 2 (v50007.map eNote))] (effT_st rfl rfl (ix_some e1009).2 rfl rfl (by rfl) (by first | rfl | simp [patch, reb, List.take_of_length_le]) (by rfl) rfl) ?_
  refine r_nil ?_
  refine blockQ_n ?_
  refine thenQ_n ?_
  refine w_reg 833 1025 rfl rfl ?_
  refine qp (AI v50006) rfl (qp (AI (w64 (v50006 + 1))) rfl (qp (AI (w64 (v50006 + 1))) rfl ?_))
  refine r_nil ?_
  refine thenQ_n ?_
  refine ar (l' := [(0, AL 2 (v0.map eNote)), (3, .sl 0 0 (List.set v50007 v50006.toNat v1008).length), (4, AI (w64 (v50006 + 1)))]) (L := [(0, .row true 2 ((List.set v50007 v50006.toNat v1008).map eNote))]) [0, 3, 4] [(0, 0)] 1 ⟨_, by rfl, hF⟩
 ·
  refine w_exit ?_
  refine thenQ_e ?_
  refine thenQ_e ?_
  refine blockQ_e ?_
  refine thenQ_n ?_
  refine ws 257 385 ?_
  refine qp (.sl 0 0 v50007.length) rfl (qp (.sl 0 0 v50007.length) rfl ?_)
  refine r_nil ?_
  refine w_ret ?_
  cases hF
  exact eR

def c84 : MC := (.seq (.reg [rg 1 (.f (.box (.t 0))), rg 2 (.f (.alloc [((.str []), (0, false)), ((.sl 0 []), (2, false))]))]) (.seq (.reg [rg 3 (.f (.alloc [((.str []), (0, false)), ((.sl 0 []), (2, false))]))]) (.seq (.reg [rg 4 (.p true (.fad (.t 1) 0)), rg 5 (.p true (.ld (.t 4) 1 false)), rg 6 (.p true (.fad (.t 3) 0)), ⟨none, none, (.f (.st (.t 6) (.t 5) 1))⟩]) (.seq (.reg [rg 7 (.p true (.fad (.t 1) 1)), rg 8 (.p true (.ld (.t 7) 1 false)), rg 9 (.call true 128 [(.t 8)]), rg 10 (.p true (.fad (.t 3) 1)), ⟨none, none, (.f (.st (.t 10) (.t 9) 1))⟩]) (.seq (.reg [rg 11 (.p true (.ld (.t 3) 2 true)), ⟨none, none, (.f (.st (.t 2) (.t 11) 2))⟩]) .ret)))))
theorem c84_is : compFn Tryd.prog 84 = some (c84, [(.cell (.ld (.t 2) 2 true))]) := by kernel_rfl
theorem c84_ok : okFn Tryd.prog 84 = true := by kernel_rfl

noncomputable def F_laws_toNamedMelody (v0 : TNamedMelody) : Option (TNamedMelody) :=
 ((F_laws_toNoteS v0.2).bind fun v1000 => some (v0.1, v1000))
@[simp] def res_laws_toNamedMelody (r : TNamedMelody) : RV := .one (.agg [.val (.str r.1), .row true 2 (r.2.map eNote)])
theorem con_laws_toNamedMelody {v0 : TNamedMelody} {r : TNamedMelody} (hF : F_laws_toNamedMelody v0 = some r) : Con Tryd.prog 84 [eNamedMelody v0] (res_laws_toNamedMelody r) := by
 unfold F_laws_toNamedMelody at hF
 refine con_of c84_is fun N => ?_
 refine ws 0 128 ?_
 refine qf (.ptr 0 0 0) [(0, .box [AS v0.1, AL 2 (v0.2.map eNote)])] (by simp) ?_
 refine qf (.ptr 64 0 0) [(64, .box [AS [], .sl 65 0 0]), (65, .row true 2 (([] : List Int).map vI)), (0, .box [AS v0.1, AL 2 (v0.2.map eNote)])] (by simp) ?_
 refine r_nil ?_
 refine ws 128 192 ?_
 refine qf (.ptr 128 0 0) [(128, .box [AS [], .sl 129 0 0]), (129, .row true 2 (([] : List Int).map vI)), (64, .box [AS [], .sl 65 0 0]), (65, .row true 2 (([] : List Int).map vI)), (0, .box [AS v0.1, AL 2 (v0.2.map eNote)])] (by simp) ?_
 refine r_nil ?_
 refine ws 192 448 ?_
 refine qp (.ptr 0 0 0) rfl (qp (AS v0.1) rfl (qp (.ptr 128 0 0) rfl ?_))
 refine qf0 (.undef) [(128, .box [AS v0.1, .sl 129 0 0]), (128, .box [AS [], .sl 129 0 0]), (129, .row true 2 (([] : List Int).map vI)), (64, .box [AS [], .sl 65 0 0]), (65, .row true 2 (([] : List Int).map vI)), (0, .box [AS v0.1, AL 2 (v0.2.map eNote)])] (by simp) ?_
 refine r_nil ?_
 refine ws 448 768 ?_
 refine qp (.ptr 0 0 1) rfl (qp (AL 2 (v0.2.map eNote)) rfl ?_)
 obtain ⟨v1000, e1000, hF⟩ := bind_get hF
 refine qc (.sl 576 0 v1000.length) [(576, .row true 2 (v1000.map eNote)), (128, .box [AS v0.1, .sl 129 0 0]), (128, .box [AS [], .sl 129 0 0]), (129, .row true 2 (([] : List Int).map vI)), (64, .box [AS [], .sl 65 0 0]), (65, .row true 2 (([] : List Int).map vI)), (0, .box [AS v0.1, AL 2 (v0.2.map eNote)])] false (con_laws_toNoteS e1000) c128_ok (by first | rfl | simp) (by simp [res_laws_toNoteS]) ?_
 refine qp (.ptr 128 0 1) rfl ?_
 refine qf0 (.undef) [(128, .box [AS v0.1, .sl 576 0 v1000.length]), (576, .row true 2 (v1000.map eNote)), (128, .box [AS v0.1, .sl 129 0 0]), (128, .box [AS [], .sl 129 0 0]), (129, .row true 2 (([] : List Int).map vI)), (64, .box [AS [], .sl 65 0 0]), (65, .row true 2 (([] : List Int).map vI)), (0, .box [AS v0.1, AL 2 (v0.2.map eNote)])] (by simp) ?_
 refine r_nil ?_
 refine ws 768 896 ?_
 refine qp (.agg [AS v0.1, .sl 576 0 v1000.length]) rfl ?_
 refine qf0 (.undef) [(64, .box [AS v0.1, .sl 576 0 v1000.length]), (128, .box [AS v0.1, .sl 576 0 v1000.length]), (576, .row true 2 (v1000.map eNote)), (128, .box [AS v0.1, .sl 129 0 0]), (128, .box [AS [], .sl 129 0 0]), (129, .row true 2 (([] : List Int).map vI)), (64, .box [AS [], .sl 65 0 0]), (65, .row true 2 (([] : List Int).map vI)), (0, .box [AS v0.1, AL 2 (v0.2.map eNote)])] (by simp) ?_
 refine r_nil ?_
 refine w_ret ?_
 cases hF
 exact eR

def c39 : MC := (.seq (.reg [rg 2 (.f (.nilrow 2))]) (.seq (.reg [mvt 5 0, rg 6 (.p true (.len (.t 5))), rg 7 (.f (.mks 2 40 (.agg [(.str []), (.sl 2 [])]) (.t 6) (.t 6))), mvt 3 7]) (.seq (.seq (.reg [rg 4 (.p true (.mv (.c (.int .i64 0))))]) (.block 0 (.loop (.seq (.seq (.reg [mvt 8 4, mvt 9 0, rg 10 (.p true (.len (.t 9))), rg 11 (.p true (.bin .lss (.t 8) (.t 10)))]) (.cond (.t 11) .skip (.exit 0))) (.seq (.block 1 (.reg [mvt 14 3, mvt 15 4, mvt 16 0, mvt 17 4, rg 18 (.p true (.iad (.t 16) (.t 17) 2)), rg 19 (.p true (.ld (.t 18) 2 true)), rg 20 (.call true 84 [(.t 19)]), rg 21 (.p true (.iad (.t 14) (.t 15) 2)), ⟨none, none, (.f (.st (.t 21) (.t 20) 2))⟩])) (.reg [mvt 12 4, rg 13 (.p true (.bin .add (.t 12) (.c (.int .i64 1)))), mvt 4 13])))))) (.seq (.reg [mvt 22 3, mvt 2 22]) .ret))))
theorem c39_is : compFn Tryd.prog 39 = some (c39, [(.tmp 2)]) := by kernel_rfl
theorem c39_ok : okFn Tryd.prog 39 = true := by kernel_rfl

noncomputable def F_laws_toNamedMelodyS_l0 (v0 : List TNamedMelody) (k1 : Int × (List TNamedMelody) → Option (List TNamedMelody)) : Int × (List TNamedMelody) → Option (List TNamedMelody)
 | (v50006, v50007) => (bif (decide (v50006 < (v0.length : Int))) then ((ix v0 v50006).bind fun v1007 => ((F_laws_toNamedMelody v1007).bind fun v1008 => ((ix v50007 v50006).bind fun v1009 => k1 (w64 (v50006 + 1), List.set v50007 v50006.toNat v1008))))
 else some v50007)
noncomputable def F_laws_toNamedMelodyS (v0 : List TNamedMelody) : Option (List TNamedMelody) :=
 (need (0 ≤ (v0.length : Int) ∧ (v0.length : Int) ≤ (v0.length : Int) ∧ (v0.length : Int) ≤ 9223372036854775807 ∧ 40 * (v0.length : Int) ≤ 281474976710656) (loop (F_laws_toNamedMelodyS_l0 v0) (0, List.replicate ((v0.length : Int)).toNat (([], []) : TNamedMelody))))
@[simp] def res_laws_toNamedMelodyS (r : List TNamedMelody) : RV := .one (.one (.row true 2 (r.map eNamedMelody)))
theorem con_laws_toNamedMelodyS {v0 : List TNamedMelody} {r : List TNamedMelody} (hF : F_laws_toNamedMelodyS v0 = some r) : Con Tryd.prog 39 [.sl 2 (v0.map eNamedMelody)] (res_laws_toNamedMelodyS r) := by
 unfold F_laws_toNamedMelodyS at hF
 refine con_of c39_is fun N => ?_
 refine ws 0 64 ?_
 refine qf (.sl 0 0 0) [(0, .row true 2 (([] : List Int).map vI))] (by simp) ?_
 refine r_nil ?_
 refine ws 64 320 ?_
 refine qp (AL 2 (v0.map eNamedMelody)) rfl (qp (AI (v0.length : Int)) (ev_len_n rfl) ?_)
 obtain ⟨g1000, hF⟩ := need_some hF
 refine qf (.sl 192 0 ((List.replicate ((v0.length : Int)).toNat (([], []) : TNamedMelody)).length)) [(192, .row true 2 ((List.replicate ((v0.length : Int)).toNat (([], []) : TNamedMelody)).map eNamedMelody)), (0, .row true 2 (([] : List Int).map vI))] (effT_mks rfl rfl g1000 rfl) ?_
 refine qp (.sl 192 0 ((List.replicate ((v0.length : Int)).toNat (([], []) : TNamedMelody)).length)) rfl ?_
 refine r_nil ?_
 refine w_seq ?_
 refine ws 320 384 ?_
 refine qp (AI 0) rfl ?_
 refine r_nil ?_
 refine w_block ?_
 refine wr (l' := [(0, AL 2 (v0.map eNamedMelody)), (3, .sl 0 0 (List.replicate ((v0.length : Int)).toNat (([], []) : TNamedMelody)).length), (4, AI 0)]) (L := [(0, .row true 2 ((List.replicate ((v0.length : Int)).toNat (([], []) : TNamedMelody)).map eNamedMelody))]) [0, 3, 4] [(192, 0)] 1 ?_
 refine w_loopF (F_laws_toNamedMelodyS_l0 v0) (fun s : Int × (List TNamedMelody) => mkS [(0, AL 2 (v0.map eNamedMelody)), (3, .sl 0 0 s.2.length), (4, AI s.1)] (fo [(0, .row true 2 (s.2.map eNamedMelody))]) 1) hF ?_
 rintro k1 ⟨v50006, v50007⟩ hF
 rw [F_laws_toNamedMelodyS_l0] at hF
 try dsimp only
 refine w_seq ?_
 refine ws 1 257 ?_
 refine qp (AI v50006) rfl (qp (AL 2 (v0.map eNamedMelody)) rfl (qp (AI (v0.length : Int)) (ev_len_n rfl) (qp (AB (decide (v50006 < (v0.length : Int)))) rfl ?_)))
 refine r_nil ?_
 refine cF hF (fun hF => ?_) fun hF => ?_
 ·
  refine w_skip ?_
  refine thenQ_n ?_
  refine w_seq ?_
  refine w_block ?_
  refine w_reg 257 833 rfl rfl ?_
  refine qp (.sl 0 0 v50007.length) rfl (qp (AI v50006) rfl (qp (AL 2 (v0.map eNamedMelody)) rfl (qp (AI v50006) rfl ?_)))
  obtain ⟨v1007, e1007, hF⟩ := bind_get hF
  refine qp (.val none (.ptr [.str v1007.1, .sl 2 (v1007.2.map eNote)])) (ev_iad_n rfl rfl e1007 rfl) (qp (.val none (eNamedMelody v1007)) rfl ?_)
  obtain ⟨v1008, e1008, hF⟩ := bind_get hF
  refine qc (.agg [AS v1008.1, .sl 642 0 v1008.2.length]) [(642, .row true 2 (v1008.2.map eNote)), (0, .row true 2 (v50007.map eNamedMelody))] false (con_laws_toNamedMelody e1008) c84_ok (by first | rfl | simp) (by simp [res_laws_toNamedMelody]) ?_
  obtain ⟨v1009, e1009, hF⟩ := bind_get hF
  refine qp (.ptr 0 v50006.toNat 0) (ev_iad_r rfl (by simp) rfl rfl e1009) ?_
  refine qf0 (.undef) [(0, .row true 2 ((List.set v50007 v50006.toNat v1008).map eNamedMelody)), (642, .dead), (642, .row true 2 (v1008.2.map eNote)), (0, .row true 2 (v50007.map eNamedMelody))] (effT_st rfl rfl (ix_some e1009).2 rfl rfl (by rfl) (by first | rfl | simp [patch, reb, List.take_of_length_le]) (by rfl) rfl) ?_
  refine r_nil ?_
  refine blockQ_n ?_
  refine thenQ_n ?_
  refine w_reg 833 1025 rfl rfl ?_
  refine qp (AI v50006) rfl (qp (AI (w64 (v50006 + 1))) rfl (qp (AI (w64 (v50006 + 1))) rfl ?_))
  refine r_nil ?_
  refine thenQ_n ?_
  refine ar (l' := [(0, AL 2 (v0.map eNamedMelody)), (3, .sl 0 0 (List.set v50007 v50006.toNat v1008).length), (4, AI (w64 (v50006 + 1)))]) (L := [(0, .row true 2 ((List.set v50007 v50006.toNat v1008).map eNamedMelody))]) [0, 3, 4] [(0, 0)] 1 ⟨_, by rfl, hF⟩
 ·
  refine w_exit ?_
  refine thenQ_e ?_
  refine thenQ_e ?_
  refine blockQ_e ?_
  refine thenQ_n ?_
  refine ws 257 385 ?_
  refine qp (.sl 0 0 v50007.length) rfl (qp (.sl 0 0 v50007.length) rfl ?_)
  refine r_nil ?_
  refine w_ret ?_
  cases hF
  exact eR

def c136 : MC := (.seq (.reg [rg 2 (.p true (.mv (.c (.bool false))))]) (.seq (.reg [mvt 3 0, rg 4 (.p true (.bin .geq (.t 3) (.c (.int .u8 97)))), mvt 5 4, ⟨(some 6), (some (5, true)), (.p true (.mv (.t 0)))⟩, ⟨(some 7), (some (5, true)), (.p true (.bin .leq (.t 6) (.c (.int .u8 122))))⟩, rg 8 (.p true (.pick (.t 5) (.t 7) (.c (.bool false)))), mvt 2 8]) .ret))
theorem c136_is : compFn Tryd.prog 136 = some (c136, [(.tmp 2)]) := by kernel_rfl
theorem c136_ok : okFn Tryd.prog 136 = true := by kernel_rfl

noncomputable def F_spec_l01Small (v0 : Int) : Option (Bool) :=
 (bif (decide ((97 : Int) ≤ v0)) then some (decide (v0 ≤ (122 : Int)))
 else some false)
@[simp] def res_spec_l01Small (r : Bool) : RV := .one (.one (.val (.bool r)))
theorem con_spec_l01Small {v0 : Int} {r : Bool} (hF : F_spec_l01Small v0 = some r) : Con Tryd.prog 136 [.int .u8 v0] (res_spec_l01Small r) := by
 unfold F_spec_l01Small at hF
 refine con_of c136_is fun N => ?_
 refine ws 0 64 ?_
 refine qp (AB false) rfl ?_
 refine r_nil ?_
 refine ws 64 512 ?_
 refine qp (.val none (.int .u8 v0)) rfl (qp (AB (decide ((97 : Int) ≤ v0))) rfl (qp (AB (decide ((97 : Int) ≤ v0))) rfl ?_))
 refine q_case 5 hF rfl (fun hF => ?_) (fun hF => ?_)
 ·
  refine qg (.val none (.int .u8 v0)) rfl rfl (qg (AB (decide (v0 ≤ (122 : Int)))) rfl rfl (qp (AB (decide (v0 ≤ (122 : Int)))) rfl (qp (AB (decide (v0 ≤ (122 : Int)))) rfl ?_)))
  refine r_nil ?_
  refine w_ret ?_
  cases hF
  exact eR
 ·
  refine qn rfl (qn rfl (qp (AB false) rfl (qp (AB false) rfl ?_)))
  refine r_nil ?_
  refine w_ret ?_
  cases hF
  exact eR

def c132 : MC := (.seq (.reg [rg 2 (.p true (.mv (.c (.bool false))))]) (.seq (.reg [mvt 3 0, rg 4 (.p true (.bin .geq (.t 3) (.c (.int .u8 48)))), mvt 5 4, ⟨(some 6), (some (5, true)), (.p true (.mv (.t 0)))⟩, ⟨(some 7), (some (5, true)), (.p true (.bin .leq (.t 6) (.c (.int .u8 57))))⟩, rg 8 (.p true (.pick (.t 5) (.t 7) (.c (.bool false)))), mvt 2 8]) .ret))
theorem c132_is : compFn Tryd.prog 132 = some (c132, [(.tmp 2)]) := by kernel_rfl
theorem c132_ok : okFn Tryd.prog 132 = true := by kernel_rfl

noncomputable def F_spec_l01Digit (v0 : Int) : Option (Bool) :=
 (bif (decide ((48 : Int) ≤ v0)) then some (decide (v0 ≤ (57 : Int)))
 else some false)
@[simp] def res_spec_l01Digit (r : Bool) : RV := .one (.one (.val (.bool r)))
theorem con_spec_l01Digit {v0 : Int} {r : Bool} (hF : F_spec_l01Digit v0 = some r) : Con Tryd.prog 132 [.int .u8 v0] (res_spec_l01Digit r) := by
 unfold F_spec_l01Digit at hF
 refine con_of c132_is fun N => ?_
 refine ws 0 64 ?_
 refine qp (AB false) rfl ?_
 refine r_nil ?_
 refine ws 64 512 ?_
 refine qp (.val none (.int .u8 v0)) rfl (qp (AB (decide ((48 : Int) ≤ v0))) rfl (qp (AB (decide ((48 : Int) ≤ v0))) rfl ?_))
 refine q_case 5 hF rfl (fun hF => ?_) (fun hF => ?_)
 ·
  refine qg (.val none (.int .u8 v0)) rfl rfl (qg (AB (decide (v0 ≤ (57 : Int)))) rfl rfl (qp (AB (decide (v0 ≤ (57 : Int)))) rfl (qp (AB (decide (v0 ≤ (57 : Int)))) rfl ?_)))
  refine r_nil ?_
  refine w_ret ?_
  cases hF
  exact eR
 ·
  refine qn rfl (qn rfl (qp (AB false) rfl (qp (AB false) rfl ?_)))
  refine r_nil ?_
  refine w_ret ?_
  cases hF
  exact eR

def c97 : MC := (.seq (.reg [rg 2 (.p true (.mv (.c (.bool false))))]) (.seq (.seq (.reg [mvt 4 0, rg 5 (.p true (.bin .eql (.t 4) (.c (.str [])))), mvt 6 5, ⟨(some 7), (some (6, false)), (.p true (.mv (.t 0)))⟩, ⟨(some 8), (some (6, false)), (.p true (.lens (.t 7)))⟩, ⟨(some 9), (some (6, false)), (.p true (.bin .gtr (.t 8) (.c (.int .i64 10))))⟩, rg 10 (.p true (.pick (.t 6) (.c (.bool true)) (.t 9))), mvt 11 10, ⟨(some 12), (some (11, false)), (.p true (.mv (.t 0)))⟩, ⟨(some 13), (some (11, false)), (.p true (.ixs (.t 12) (.c (.int .i64 0))))⟩, ⟨(some 14), (some (11, false)), (.call true 136 [(.t 13)])⟩, ⟨(some 15), (some (11, false)), (.p true (.not (.t 14)))⟩, rg 16 (.p true (.pick (.t 11) (.c (.bool true)) (.t 15)))]) (.cond (.t 16) (.seq (.reg [rg 2 (.p true (.mv (.c (.bool false))))]) .ret) .skip)) (.seq (.seq (.reg [rg 3 (.p true (.mv (.c (.int .i64 0))))]) (.block 0 (.loop (.seq (.seq (.reg [mvt 17 3, mvt 18 0, rg 19 (.p true (.lens (.t 18))), rg 20 (.p true (.bin .lss (.t 17) (.t 19)))]) (.cond (.t 20) .skip (.exit 0))) (.seq (.block 1 (.seq (.reg [mvt 23 0, mvt 24 3, rg 25 (.p true (.ixs (.t 23) (.t 24))), rg 26 (.call true 136 [(.t 25)]), rg 27 (.p true (.not (.t 26))), mvt 28 27, ⟨(some 29), (some (28, true)), (.p true (.mv (.t 0)))⟩, ⟨(some 30), (some (28, true)), (.p true (.mv (.t 3)))⟩, ⟨(some 31), (some (28, true)), (.p true (.ixs (.t 29) (.t 30)))⟩, ⟨(some 32), (some (28, true)), (.call true 132 [(.t 31)])⟩, ⟨(some 33), (some (28, true)), (.p true (.not (.t 32)))⟩, rg 34 (.p true (.pick (.t 28) (.t 33) (.c (.bool false))))]) (.cond (.t 34) (.seq (.reg [rg 2 (.p true (.mv (.c (.bool false))))]) .ret) .skip))) (.reg [mvt 21 3, rg 22 (.p true (.bin .add (.t 21) (.c (.int .i64 1)))), mvt 3 22])))))) (.seq (.reg [rg 2 (.p true (.mv (.c (.bool true))))]) .ret))))
theorem c97_is : compFn Tryd.prog 97 = some (c97, [(.tmp 2)]) := by kernel_rfl
theorem c97_ok : okFn Tryd.prog 97 = true := by kernel_rfl

noncomputable def F_spec_l01Name_l0 (v0 : List UInt8) (k1 : Int → Option (Bool)) : Int → Option (Bool)
 | v50003 => (bif (decide (v50003 < (v0.length : Int))) then ((ix v0 v50003).bind fun v1010 => ((F_spec_l01Small (v1010.toNat : Int)).bind fun v1011 => (bif (!v1011) then ((ix v0 v50003).bind fun v1012 => ((F_spec_l01Digit (v1012.toNat : Int)).bind fun v1013 => (bif (!v1013) then some false
 else k1 (w64 (v50003 + 1)))))
 else k1 (w64 (v50003 + 1)))))
 else some true)
noncomputable def F_spec_l01Name (v0 : List UInt8) : Option (Bool) :=
 (bif (decide (v0 = [])) then some false
 else (bif (decide ((10 : Int) < (v0.length : Int))) then some false
 else ((ix v0 0).bind fun v1000 => ((F_spec_l01Small (v1000.toNat : Int)).bind fun v1001 => (bif (!v1001) then some false
 else loop (F_spec_l01Name_l0 v0) 0)))))
@[simp] def res_spec_l01Name (r : Bool) : RV := .one (.one (.val (.bool r)))
theorem con_spec_l01Name {v0 : List UInt8} {r : Bool} (hF : F_spec_l01Name v0 = some r) : Con Tryd.prog 97 [.str v0] (res_spec_l01Name r) := by
 unfold F_spec_l01Name at hF
 refine con_of c97_is fun N => ?_
 refine ws 0 64 ?_
 refine qp (AB false) rfl ?_
 refine r_nil ?_
 refine w_seq ?_
 refine ws 64 896 ?_
 refine qp (AS v0) rfl (qp (AB (decide (v0 = []))) rfl (qp (AB (decide (v0 = []))) rfl ?_))
 refine q_case 6 hF rfl (fun hF => ?_) (fun hF => ?_)
 ·
  refine qn rfl (qn rfl (qn rfl (qp (AB true) rfl (qp (AB true) rfl (qn rfl (qn rfl (qn rfl ?_)))))))
  refine qn rfl (qp (AB true) rfl ?_)
  refine r_nil ?_
  refine w_true rfl ?_
  refine ws 896 960 ?_
  refine qp (AB false) rfl ?_
  refine r_nil ?_
  refine w_ret ?_
  refine thenQ_r ?_
  cases hF
  exact eR
 ·
  refine qg (AS v0) rfl rfl (qg (AI (v0.length : Int)) rfl rfl (qg (AB (decide ((10 : Int) < (v0.length : Int)))) rfl rfl (qp (AB (decide ((10 : Int) < (v0.length : Int)))) rfl (qp (AB (decide ((10 : Int) < (v0.length : Int)))) rfl ?_))))
  refine q_case 11 hF rfl (fun hF => ?_) (fun hF => ?_)
  ·
   refine qn rfl (qn rfl (qn rfl (qn rfl (qp (AB true) rfl ?_))))
   refine r_nil ?_
   refine w_true rfl ?_
   refine ws 896 960 ?_
   refine qp (AB false) rfl ?_
   refine r_nil ?_
   refine w_ret ?_
   refine thenQ_r ?_
   cases hF
   exact eR
  ·
   refine qg (AS v0) rfl rfl ?_
   obtain ⟨v1000, e1000, hF⟩ := bind_get hF
   refine qg (.val none (.int .u8 (v1000.toNat : Int))) rfl (ev_ixs rfl rfl e1000) ?_
   obtain ⟨v1001, e1001, hF⟩ := bind_get hF
   refine qcg (AB v1001) [] false rfl (con_spec_l01Small e1001) c136_ok (by first | rfl | simp) rfl ?_
   refine qg (AB (!v1001)) rfl rfl (qp (AB (!v1001)) rfl ?_)
   refine r_nil ?_
   refine cF hF (fun hF => ?_) fun hF => ?_
   ·
    refine ws 896 960 ?_
    refine qp (AB false) rfl ?_
    refine r_nil ?_
    refine w_ret ?_
    refine thenQ_r ?_
    cases hF
    exact eR
   ·
    refine w_skip ?_
    refine thenQ_n ?_
    refine w_seq ?_
    refine ws 896 960 ?_
    refine qp (AI 0) rfl ?_
    refine r_nil ?_
    refine w_block ?_
    refine wr (l' := [(0, AS v0), (3, AI 0)]) (L := []) [0, 3] [] 1 ?_
    refine w_loopF (F_spec_l01Name_l0 v0) (fun s : Int => mkS [(0, AS v0), (3, AI s)] (fo []) 1) hF ?_
    rintro k1 v50003 hF
    rw [F_spec_l01Name_l0] at hF
    try dsimp only
    refine w_seq ?_
    refine ws 1 257 ?_
    refine qp (AI v50003) rfl (qp (AS v0) rfl (qp (AI (v0.length : Int)) rfl (qp (AB (decide (v50003 < (v0.length : Int)))) rfl ?_)))
    refine r_nil ?_
    refine cF hF (fun hF => ?_) fun hF => ?_
    ·
     refine w_skip ?_
     refine thenQ_n ?_
     refine w_seq ?_
     refine w_block ?_
     refine ws 257 1025 ?_
     refine qp (AS v0) rfl (qp (AI v50003) rfl ?_)
     obtain ⟨v1010, e1010, hF⟩ := bind_get hF
     refine qp (.val none (.int .u8 (v1010.toNat : Int))) (ev_ixs rfl rfl e1010) ?_
     obtain ⟨v1011, e1011, hF⟩ := bind_get hF
     refine qc (AB v1011) [] false (con_spec_l01Small e1011) c136_ok (by first | rfl | simp) rfl ?_
     refine qp (AB (!v1011)) rfl (qp (AB (!v1011)) rfl ?_)
     refine q_case 28 hF rfl (fun hF => ?_) (fun hF => ?_)
     ·
      refine qg (AS v0) rfl rfl (qg (AI v50003) rfl rfl ?_)
      obtain ⟨v1012, e1012, hF⟩ := bind_get hF
      refine qg (.val none (.int .u8 (v1012.toNat : Int))) rfl (ev_ixs rfl rfl e1012) ?_
      obtain ⟨v1013, e1013, hF⟩ := bind_get hF
      refine qcg (AB v1013) [] false rfl (con_spec_l01Digit e1013) c132_ok (by first | rfl | simp) rfl ?_
      refine qg (AB (!v1013)) rfl rfl (qp (AB (!v1013)) rfl ?_)
      refine r_nil ?_
      refine cF hF (fun hF => ?_) fun hF => ?_
      ·
       refine ws 1025 1089 ?_
       refine qp (AB false) rfl ?_
       refine r_nil ?_
       refine w_ret ?_
       refine blockQ_r ?_
       refine thenQ_r ?_
       refine thenQ_r ?_
       refine blockQ_r ?_
       refine thenQ_r ?_
       cases hF
       exact eR
      ·
       refine w_skip ?_
       refine blockQ_n ?_
       refine thenQ_n ?_
       refine w_reg 1025 1217 rfl rfl ?_
       refine qp (AI v50003) rfl (qp (AI (w64 (v50003 + 1))) rfl (qp (AI (w64 (v50003 + 1))) rfl ?_))
       refine r_nil ?_
       refine thenQ_n ?_
       refine ar (l' := [(0, AS v0), (3, AI (w64 (v50003 + 1)))]) (L := []) [0, 3] [] 1 ⟨_, by rfl, hF⟩
     ·
      refine qn rfl (qn rfl (qn rfl (qn rfl (qn rfl (qp (AB false) rfl ?_)))))
      refine r_nil ?_
      refine w_false rfl ?_
      refine w_skip ?_
      refine blockQ_n ?_
      refine thenQ_n ?_
      refine w_reg 1025 1217 rfl rfl ?_
      refine qp (AI v50003) rfl (qp (AI (w64 (v50003 + 1))) rfl (qp (AI (w64 (v50003 + 1))) rfl ?_))
      refine r_nil ?_
      refine thenQ_n ?_
      refine ar (l' := [(0, AS v0), (3, AI (w64 (v50003 + 1)))]) (L := []) [0, 3] [] 1 ⟨_, by rfl, hF⟩
    ·
     refine w_exit ?_
     refine thenQ_e ?_
     refine thenQ_e ?_
     refine blockQ_e ?_
     refine thenQ_n ?_
     refine ws 257 321 ?_
     refine qp (AB true) rfl ?_
     refine r_nil ?_
     refine w_ret ?_
     cases hF
     exact eR

def c98 : MC := (.seq (.reg [rg 6 (.p true (.mv (.c (.bool false))))]) (.seq (.reg [mvt 7 0, mvt 8 1, rg 9 (.p true (.bin .geq (.t 7) (.t 8))), mvt 10 9, ⟨(some 11), (some (10, true)), (.p true (.mv (.t 0)))⟩, ⟨(some 12), (some (10, true)), (.p true (.mv (.t 2)))⟩, ⟨(some 13), (some (10, true)), (.p true (.bin .leq (.t 11) (.t 12)))⟩, rg 14 (.p true (.pick (.t 10) (.t 13) (.c (.bool false)))), mvt 6 14]) .ret))
theorem c98_is : compFn Tryd.prog 98 = some (c98, [(.tmp 6)]) := by kernel_rfl
theorem c98_ok : okFn Tryd.prog 98 = true := by kernel_rfl

noncomputable def F_spec_l00In (v0 : Int) (v1 : Int) (v2 : Int) : Option (Bool) :=
 (bif (decide (v1 ≤ v0)) then some (decide (v0 ≤ v2))
 else some false)
@[simp] def res_spec_l00In (r : Bool) : RV := .one (.one (.val (.bool r)))
theorem con_spec_l00In {v0 : Int} {v1 : Int} {v2 : Int} {r : Bool} (hF : F_spec_l00In v0 v1 v2 = some r) : Con Tryd.prog 98 [.int .i64 v0, .int .i64 v1, .int .i64 v2] (res_spec_l00In r) := by
 unfold F_spec_l00In at hF
 refine con_of c98_is fun N => ?_
 refine ws 0 64 ?_
 refine qp (AB false) rfl ?_
 refine r_nil ?_
 refine ws 64 640 ?_
 refine qp (AI v0) rfl (qp (AI v1) rfl (qp (AB (decide (v1 ≤ v0))) rfl (qp (AB (decide (v1 ≤ v0))) rfl ?_)))
 refine q_case 10 hF rfl (fun hF => ?_) (fun hF => ?_)
 ·
  refine qg (AI v0) rfl rfl (qg (AI v2) rfl rfl (qg (AB (decide (v0 ≤ v2))) rfl rfl (qp (AB (decide (v0 ≤ v2))) rfl (qp (AB (decide (v0 ≤ v2))) rfl ?_))))
  refine r_nil ?_
  refine w_ret ?_
  cases hF
  exact eR
 ·
  refine qn rfl (qn rfl (qn rfl (qp (AB false) rfl (qp (AB false) rfl ?_))))
  refine r_nil ?_
  refine w_ret ?_
  cases hF
  exact eR

def c158 : MC := (.seq (.reg [rg 2 (.p true (.mv (.c (.bool false))))]) (.seq (.reg [mvt 3 0, rg 4 (.call true 98 [(.t 3), (.c (.int .i64 (-12))), (.c (.int .i64 23))]), mvt 2 4]) .ret))
theorem c158_is : compFn Tryd.prog 158 = some (c158, [(.tmp 2)]) := by kernel_rfl
theorem c158_ok : okFn Tryd.prog 158 = true := by kernel_rfl

noncomputable def F_spec_l03Pitch (v0 : Int) : Option (Bool) :=
 ((F_spec_l00In v0 (-12) 23).bind fun v1000 => some v1000)
@[simp] def res_spec_l03Pitch (r : Bool) : RV := .one (.one (.val (.bool r)))
theorem con_spec_l03Pitch {v0 : Int} {r : Bool} (hF : F_spec_l03Pitch v0 = some r) : Con Tryd.prog 158 [.int .i64 v0] (res_spec_l03Pitch r) := by
 unfold F_spec_l03Pitch at hF
 refine con_of c158_is fun N => ?_
 refine ws 0 64 ?_
 refine qp (AB false) rfl ?_
 refine r_nil ?_
 refine ws 64 256 ?_
 refine qp (AI v0) rfl ?_
 obtain ⟨v1000, e1000, hF⟩ := bind_get hF
 refine qc (AB v1000) [] false (con_spec_l00In e1000) c98_ok (by first | rfl | simp) rfl ?_
 refine qp (AB v1000) rfl ?_
 refine r_nil ?_
 refine w_ret ?_
 cases hF
 exact eR

def c159 : MC := (.seq (.reg [rg 2 (.p true (.mv (.c (.bool false))))]) (.seq (.reg [mvt 3 0, rg 4 (.call true 98 [(.t 3), (.c (.int .i64 1)), (.c (.int .i64 64))]), mvt 2 4]) .ret))
theorem c159_is : compFn Tryd.prog 159 = some (c159, [(.tmp 2)]) := by kernel_rfl
theorem c159_ok : okFn Tryd.prog 159 = true := by kernel_rfl

noncomputable def F_spec_l09Length (v0 : Int) : Option (Bool) :=
 ((F_spec_l00In v0 1 64).bind fun v1000 => some v1000)
@[simp] def res_spec_l09Length (r : Bool) : RV := .one (.one (.val (.bool r)))
theorem con_spec_l09Length {v0 : Int} {r : Bool} (hF : F_spec_l09Length v0 = some r) : Con Tryd.prog 159 [.int .i64 v0] (res_spec_l09Length r) := by
 unfold F_spec_l09Length at hF
 refine con_of c159_is fun N => ?_
 refine ws 0 64 ?_
 refine qp (AB false) rfl ?_
 refine r_nil ?_
 refine ws 64 256 ?_
 refine qp (AI v0) rfl ?_
 obtain ⟨v1000, e1000, hF⟩ := bind_get hF
 refine qc (AB v1000) [] false (con_spec_l00In e1000) c98_ok (by first | rfl | simp) rfl ?_
 refine qp (AB v1000) rfl ?_
 refine r_nil ?_
 refine w_ret ?_
 cases hF
 exact eR

def c126 : MC := (.seq (.reg [rg 2 (.p true (.mv (.c (.bool false))))]) (.seq (.seq (.reg [rg 3 (.p true (.mv (.c (.int .i64 0))))]) (.block 0 (.loop (.seq (.seq (.reg [mvt 4 3, mvt 5 0, rg 6 (.p true (.len (.t 5))), rg 7 (.p true (.bin .lss (.t 4) (.t 6)))]) (.cond (.t 7) .skip (.exit 0))) (.seq (.block 1 (.seq (.reg [mvt 10 0, mvt 11 3, rg 12 (.p true (.iad (.t 10) (.t 11) 2)), rg 13 (.p true (.fad (.t 12) 0)), rg 14 (.p true (.ld (.t 13) 1 false)), rg 15 (.call true 158 [(.t 14)]), rg 16 (.p true (.not (.t 15))), mvt 17 16, ⟨(some 18), (some (17, false)), (.p true (.mv (.t 0)))⟩, ⟨(some 19), (some (17, false)), (.p true (.mv (.t 3)))⟩, ⟨(some 20), (some (17, false)), (.p true (.iad (.t 18) (.t 19) 2))⟩, ⟨(some 21), (some (17, false)), (.p true (.fad (.t 20) 1))⟩, ⟨(some 22), (some (17, false)), (.p true (.ld (.t 21) 1 false))⟩, ⟨(some 23), (some (17, false)), (.call true 159 [(.t 22)])⟩, ⟨(some 24), (some (17, false)), (.p true (.not (.t 23)))⟩, rg 25 (.p true (.pick (.t 17) (.c (.bool true)) (.t 24)))]) (.cond (.t 25) (.seq (.reg [rg 2 (.p true (.mv (.c (.bool false))))]) .ret) .skip))) (.reg [mvt 8 3, rg 9 (.p true (.bin .add (.t 8) (.c (.int .i64 1)))), mvt 3 9])))))) (.seq (.reg [mvt 26 0, rg 27 (.p true (.len (.t 26))), rg 28 (.p true (.bin .leq (.t 27) (.c (.int .i64 48)))), mvt 2 28]) .ret)))
theorem c126_is : compFn Tryd.prog 126 = some (c126, [(.tmp 2)]) := by kernel_rfl
theorem c126_ok : okFn Tryd.prog 126 = true := by kernel_rfl

noncomputable def F_spec_l09Ok_l0 (v0 : List TNote) (k0 : Int → Option (Bool)) : Int → Option (Bool)
 | v50001 => (bif (decide (v50001 < (v0.length : Int))) then ((ix v0 v50001).bind fun v1000 => ((F_spec_l03Pitch v1000.1).bind fun v1001 => (bif (!v1001) then some false
 else ((ix v0 v50001).bind fun v1002 => ((F_spec_l09Length v1002.2).bind fun v1003 => (bif (!v1003) then some false
 else k0 (w64 (v50001 + 1))))))))
 else some (decide ((v0.length : Int) ≤ (48 : Int))))
noncomputable def F_spec_l09Ok (v0 : List TNote) : Option (Bool) :=
 loop (F_spec_l09Ok_l0 v0) 0
@[simp] def res_spec_l09Ok (r : Bool) : RV := .one (.one (.val (.bool r)))
theorem con_spec_l09Ok {v0 : List TNote} {r : Bool} (hF : F_spec_l09Ok v0 = some r) : Con Tryd.prog 126 [.sl 2 (v0.map eNote)] (res_spec_l09Ok r) := by
 unfold F_spec_l09Ok at hF
 refine con_of c126_is fun N => ?_
 refine ws 0 64 ?_
 refine qp (AB false) rfl ?_
 refine r_nil ?_
 refine w_seq ?_
 refine ws 64 128 ?_
 refine qp (AI 0) rfl ?_
 refine r_nil ?_
 refine w_block ?_
 refine wr (l' := [(0, AL 2 (v0.map eNote)), (3, AI 0)]) (L := []) [0, 3] [] 1 ?_
 refine w_loopF (F_spec_l09Ok_l0 v0) (fun s : Int => mkS [(0, AL 2 (v0.map eNote)), (3, AI s)] (fo []) 1) hF ?_
 rintro k0 v50001 hF
 rw [F_spec_l09Ok_l0] at hF
 try dsimp only
 refine w_seq ?_
 refine ws 1 257 ?_
 refine qp (AI v50001) rfl (qp (AL 2 (v0.map eNote)) rfl (qp (AI (v0.length : Int)) (ev_len_n rfl) (qp (AB (decide (v50001 < (v0.length : Int)))) rfl ?_)))
 refine r_nil ?_
 refine cF hF (fun hF => ?_) fun hF => ?_
 ·
  refine w_skip ?_
  refine thenQ_n ?_
  refine w_seq ?_
  refine w_block ?_
  refine ws 257 1281 ?_
  refine qp (AL 2 (v0.map eNote)) rfl (qp (AI v50001) rfl ?_)
  obtain ⟨v1000, e1000, hF⟩ := bind_get hF
  refine qp (.val none (.ptr [.int .i64 v1000.1, .int .i64 v1000.2])) (ev_iad_n rfl rfl e1000 rfl) (qp (.val none (.ptr [.int .i64 v1000.1, .int .i64 v1000.2])) rfl (qp (AI v1000.1) rfl ?_))
  obtain ⟨v1001, e1001, hF⟩ := bind_get hF
  refine qc (AB v1001) [] false (con_spec_l03Pitch e1001) c158_ok (by first | rfl | simp) rfl ?_
  refine qp (AB (!v1001)) rfl (qp (AB (!v1001)) rfl ?_)
  refine q_case 17 hF rfl (fun hF => ?_) (fun hF => ?_)
  ·
   refine qn rfl (qn rfl (qn rfl (qn rfl (qn rfl (qn rfl (qn rfl (qp (AB true) rfl ?_)))))))
   refine r_nil ?_
   refine w_true rfl ?_
   refine ws 1281 1345 ?_
   refine qp (AB false) rfl ?_
   refine r_nil ?_
   refine w_ret ?_
   refine blockQ_r ?_
   refine thenQ_r ?_
   refine thenQ_r ?_
   refine blockQ_r ?_
   refine thenQ_r ?_
   cases hF
   exact eR
  ·
   refine qg (AL 2 (v0.map eNote)) rfl rfl (qg (AI v50001) rfl rfl ?_)
   obtain ⟨v1002, e1002, hF⟩ := bind_get hF
   refine qg (.val none (.ptr [.int .i64 v1002.1, .int .i64 v1002.2])) rfl (ev_iad_n rfl rfl e1002 rfl) (qg (.val none (.ptr [.int .i64 v1002.2])) rfl rfl (qg (AI v1002.2) rfl rfl ?_))
   obtain ⟨v1003, e1003, hF⟩ := bind_get hF
   refine qcg (AB v1003) [] false rfl (con_spec_l09Length e1003) c159_ok (by first | rfl | simp) rfl ?_
   refine qg (AB (!v1003)) rfl rfl (qp (AB (!v1003)) rfl ?_)
   refine r_nil ?_
   refine cF hF (fun hF => ?_) fun hF => ?_
   ·
    refine ws 1281 1345 ?_
    refine qp (AB false) rfl ?_
    refine r_nil ?_
    refine w_ret ?_
    refine blockQ_r ?_
    refine thenQ_r ?_
    refine thenQ_r ?_
    refine blockQ_r ?_
    refine thenQ_r ?_
    cases hF
    exact eR
   ·
    refine w_skip ?_
    refine blockQ_n ?_
    refine thenQ_n ?_
    refine w_reg 1281 1473 rfl rfl ?_
    refine qp (AI v50001) rfl (qp (AI (w64 (v50001 + 1))) rfl (qp (AI (w64 (v50001 + 1))) rfl ?_))
    refine r_nil ?_
    refine thenQ_n ?_
    refine ar (l' := [(0, AL 2 (v0.map eNote)), (3, AI (w64 (v50001 + 1)))]) (L := []) [0, 3] [] 1 ⟨_, by rfl, hF⟩
 ·
  refine w_exit ?_
  refine thenQ_e ?_
  refine thenQ_e ?_
  refine blockQ_e ?_
  refine thenQ_n ?_
  refine ws 257 513 ?_
  refine qp (AL 2 (v0.map eNote)) rfl (qp (AI (v0.length : Int)) (ev_len_n rfl) (qp (AB (decide ((v0.length : Int) ≤ (48 : Int)))) rfl (qp (AB (decide ((v0.length : Int) ≤ (48 : Int)))) rfl ?_)))
  refine r_nil ?_
  refine w_ret ?_
  cases hF
  exact eR

def c82 : MC := (.seq (.reg [rg 2 (.p true (.mv (.c (.bool false))))]) (.seq (.seq (.reg [rg 3 (.p true (.mv (.c (.int .i64 0))))]) (.block 0 (.loop (.seq (.seq (.reg [mvt 4 3, mvt 5 0, rg 6 (.p true (.len (.t 5))), rg 7 (.p true (.bin .lss (.t 4) (.t 6)))]) (.cond (.t 7) .skip (.exit 0))) (.seq (.block 1 (.seq (.reg [rg 10 (.p false (.mv (.t 0))), rg 11 (.p false (.mv (.t 3))), rg 12 (.p false (.iad (.t 10) (.t 11) 2)), rg 13 (.p false (.fad (.t 12) 0)), rg 14 (.p false (.ld (.t 13) 1 false)), rg 15 (.call false 97 [(.t 14)]), rg 16 (.p false (.not (.t 15))), rg 17 (.p false (.mv (.t 16))), ⟨(some 18), (some (17, false)), (.p false (.mv (.t 0)))⟩, ⟨(some 19), (some (17, false)), (.p false (.mv (.t 3)))⟩, ⟨(some 20), (some (17, false)), (.p false (.iad (.t 18) (.t 19) 2))⟩, ⟨(some 21), (some (17, false)), (.p false (.fad (.t 20) 1))⟩, ⟨(some 22), (some (17, false)), (.p false (.ld (.t 21) 1 false))⟩, ⟨(some 23), (some (17, false)), (.call false 126 [(.t 22)])⟩, ⟨(some 24), (some (17, false)), (.p false (.not (.t 23)))⟩, rg 25 (.p false (.pick (.t 17) (.c (.bool true)) (.t 24))), rg 26 (.p false (.mv (.t 25))), ⟨(some 27), (some (26, false)), (.p false (.mv (.t 3)))⟩, ⟨(some 28), (some (26, false)), (.p false (.bin .gtr (.t 27) (.c (.int .i64 0))))⟩, ⟨(some 29), (some (26, false)), (.p false (.mv (.t 28)))⟩, ⟨(some 30), (some (29, true)), (.p false (.mv (.t 0)))⟩, ⟨(some 31), (some (29, true)), (.p false (.mv (.t 3)))⟩, ⟨(some 32), (some (29, true)), (.p false (.bin .sub (.t 31) (.c (.int .i64 1))))⟩, ⟨(some 33), (some (29, true)), (.p false (.iad (.t 30) (.t 32) 2))⟩, ⟨(some 34), (some (29, true)), (.p false (.fad (.t 33) 0))⟩, ⟨(some 35), (some (29, true)), (.p false (.ld (.t 34) 1 false))⟩, ⟨(some 36), (some (29, true)), (.p false (.mv (.t 0)))⟩, ⟨(some 37), (some (29, true)), (.p false (.mv (.t 3)))⟩, ⟨(some 38), (some (29, true)), (.p false (.iad (.t 36) (.t 37) 2))⟩, ⟨(some 39), (some (29, true)), (.p false (.fad (.t 38) 0))⟩, ⟨(some 40), (some (29, true)), (.p false (.ld (.t 39) 1 false))⟩, ⟨(some 41), (some (29, true)), (.p false (.bin .geq (.t 35) (.t 40)))⟩, ⟨(some 42), (some (26, false)), (.p false (.pick (.t 29) (.t 41) (.c (.bool false))))⟩, rg 43 (.p false (.pick (.t 26) (.c (.bool true)) (.t 42)))]) (.cond (.t 43) (.seq (.reg [rg 2 (.p true (.mv (.c (.bool false))))]) .ret) .skip))) (.reg [mvt 8 3, rg 9 (.p true (.bin .add (.t 8) (.c (.int .i64 1)))), mvt 3 9])))))) (.seq (.reg [mvt 44 0, rg 45 (.p true (.len (.t 44))), rg 46 (.p true (.bin .leq (.t 45) (.c (.int .i64 12)))), mvt 2 46]) .ret)))
theorem c82_is : compFn Tryd.prog 82 = some (c82, [(.tmp 2)]) := by kernel_rfl
theorem c82_ok : okFn Tryd.prog 82 = true := by kernel_rfl

noncomputable def F_spec_l29Library_l0 (v0 : List TNamedMelody) (k0 : Int → Option (Bool)) : Int → Option (Bool)
 | v50001 => (bif (decide (v50001 < (v0.length : Int))) then ((ix v0 v50001).bind fun v1000 => ((F_spec_l01Name v1000.1).bind fun v1001 => (bif (!v1001) then some false
 else ((ix v0 v50001).bind fun v1002 => ((F_spec_l09Ok v1002.2).bind fun v1003 => (bif (!v1003) then some false
 else (bif (decide ((0 : Int) < v50001)) then ((ix v0 (w64 (v50001 - 1))).bind fun v1004 => ((ix v0 v50001).bind fun v1005 => (bif (!Op.bytesLess v1004.1 v1005.1) then some false
 else k0 (w64 (v50001 + 1)))))
 else k0 (w64 (v50001 + 1)))))))))
 else some (decide ((v0.length : Int) ≤ (12 : Int))))
noncomputable def F_spec_l29Library (v0 : List TNamedMelody) : Option (Bool) :=
 loop (F_spec_l29Library_l0 v0) 0
@[simp] def res_spec_l29Library (r : Bool) : RV := .one (.one (.val (.bool r)))
theorem con_spec_l29Library {v0 : List TNamedMelody} {r : Bool} (hF : F_spec_l29Library v0 = some r) : Con Tryd.prog 82 [.sl 2 (v0.map eNamedMelody)] (res_spec_l29Library r) := by
 unfold F_spec_l29Library at hF
 refine con_of c82_is fun N => ?_
 refine ws 0 64 ?_
 refine qp (AB false) rfl ?_
 refine r_nil ?_
 refine w_seq ?_
 refine ws 64 128 ?_
 refine qp (AI 0) rfl ?_
 refine r_nil ?_
 refine w_block ?_
 refine wr (l' := [(0, AL 2 (v0.map eNamedMelody)), (3, AI 0)]) (L := []) [0, 3] [] 1 ?_
 refine w_loopF (F_spec_l29Library_l0 v0) (fun s : Int => mkS [(0, AL 2 (v0.map eNamedMelody)), (3, AI s)] (fo []) 1) hF ?_
 rintro k0 v50001 hF
 rw [F_spec_l29Library_l0] at hF
 try dsimp only
 refine w_seq ?_
 refine ws 1 257 ?_
 refine qp (AI v50001) rfl (qp (AL 2 (v0.map eNamedMelody)) rfl (qp (AI (v0.length : Int)) (ev_len_n rfl) (qp (AB (decide (v50001 < (v0.length : Int)))) rfl ?_)))
 refine r_nil ?_
 refine cF hF (fun hF => ?_) fun hF => ?_
 ·
  refine w_skip ?_
  refine thenQ_n ?_
  refine w_seq ?_
  refine w_block ?_
  refine ws 257 2433 ?_
  refine qp (AL 2 (v0.map eNamedMelody)) rfl (qp (AI v50001) rfl ?_)
  obtain ⟨v1000, e1000, hF⟩ := bind_get hF
  refine qp (.val none (.ptr [.str v1000.1, .sl 2 (v1000.2.map eNote)])) (ev_iad_n rfl rfl e1000 rfl) (qp (.val none (.ptr [.str v1000.1, .sl 2 (v1000.2.map eNote)])) rfl (qp (AS v1000.1) rfl ?_))
  obtain ⟨v1001, e1001, hF⟩ := bind_get hF
  refine qc (AB v1001) [] false (con_spec_l01Name e1001) c97_ok (by first | rfl | simp) rfl ?_
  refine qp (AB (!v1001)) rfl (qp (AB (!v1001)) rfl ?_)
  refine q_case 17 hF rfl (fun hF => ?_) (fun hF => ?_)
  ·
   refine qn rfl (qn rfl (qn rfl (qn rfl (qn rfl (qn rfl (qn rfl (qp (AB true) rfl ?_)))))))
   refine qp (AB true) rfl (qn rfl (qn rfl (qn rfl (qu rfl (qu rfl (qu rfl (qu rfl ?_)))))))
   refine qu rfl (qu rfl (qu rfl (qu rfl (qu rfl (qu rfl (qu rfl (qu rfl ?_)))))))
   refine qn rfl (qp (AB true) rfl ?_)
   refine r_nil ?_
   refine w_true rfl ?_
   refine ws 2433 2497 ?_
   refine qp (AB false) rfl ?_
   refine r_nil ?_
   refine w_ret ?_
   refine blockQ_r ?_
   refine thenQ_r ?_
   refine thenQ_r ?_
   refine blockQ_r ?_
   refine thenQ_r ?_
   cases hF
   exact eR
  ·
   refine qg (AL 2 (v0.map eNamedMelody)) rfl rfl (qg (AI v50001) rfl rfl ?_)
   obtain ⟨v1002, e1002, hF⟩ := bind_get hF
   refine qg (.val none (.ptr [.str v1002.1, .sl 2 (v1002.2.map eNote)])) rfl (ev_iad_n rfl rfl e1002 rfl) (qg (.val none (.ptr [.sl 2 (v1002.2.map eNote)])) rfl rfl (qg (AL 2 (v1002.2.map eNote)) rfl rfl ?_))
   obtain ⟨v1003, e1003, hF⟩ := bind_get hF
   refine qcg (AB v1003) [] false rfl (con_spec_l09Ok e1003) c126_ok (by first | rfl | simp) rfl ?_
   refine qg (AB (!v1003)) rfl rfl (qp (AB (!v1003)) rfl (qp (AB (!v1003)) rfl ?_))
   refine q_case 26 hF rfl (fun hF => ?_) (fun hF => ?_)
   ·
    refine qn rfl (qn rfl (qn rfl (qu rfl (qu rfl (qu rfl (qu rfl (qu rfl ?_)))))))
    refine qu rfl (qu rfl (qu rfl (qu rfl (qu rfl (qu rfl (qu rfl (qn rfl ?_)))))))
    refine qp (AB true) rfl ?_
    refine r_nil ?_
    refine w_true rfl ?_
    refine ws 2433 2497 ?_
    refine qp (AB false) rfl ?_
    refine r_nil ?_
    refine w_ret ?_
    refine blockQ_r ?_
    refine thenQ_r ?_
    refine thenQ_r ?_
    refine blockQ_r ?_
    refine thenQ_r ?_
    cases hF
    exact eR
   ·
    refine qg (AI v50001) rfl rfl (qg (AB (decide ((0 : Int) < v50001))) rfl rfl (qg (AB (decide ((0 : Int) < v50001))) rfl rfl ?_))
    refine q_case 29 hF rfl (fun hF => ?_) (fun hF => ?_)
    ·
     refine qg (AL 2 (v0.map eNamedMelody)) rfl rfl (qg (AI v50001) rfl rfl (qg (AI (w64 (v50001 - 1))) rfl rfl ?_))
     obtain ⟨v1004, e1004, hF⟩ := bind_get hF
     refine qg (.val none (.ptr [.str v1004.1, .sl 2 (v1004.2.map eNote)])) rfl (ev_iad_n rfl rfl e1004 rfl) (qg (.val none (.ptr [.str v1004.1, .sl 2 (v1004.2.map eNote)])) rfl rfl (qg (AS v1004.1) rfl rfl (qg (AL 2 (v0.map eNamedMelody)) rfl rfl (qg (AI v50001) rfl rfl ?_))))
     obtain ⟨v1005, e1005, hF⟩ := bind_get hF
     refine qg (.val none (.ptr [.str v1005.1, .sl 2 (v1005.2.map eNote)])) rfl (ev_iad_n rfl rfl e1005 rfl) (qg (.val none (.ptr [.str v1005.1, .sl 2 (v1005.2.map eNote)])) rfl rfl (qg (AS v1005.1) rfl rfl (qg (AB (!Op.bytesLess v1004.1 v1005.1)) rfl rfl (qg (AB (!Op.bytesLess v1004.1 v1005.1)) rfl rfl (qp (AB (!Op.bytesLess v1004.1 v1005.1)) rfl ?_)))))
     refine r_nil ?_
     refine cF hF (fun hF => ?_) fun hF => ?_
     ·
      refine ws 2433 2497 ?_
      refine qp (AB false) rfl ?_
      refine r_nil ?_
      refine w_ret ?_
      refine blockQ_r ?_
      refine thenQ_r ?_
      refine thenQ_r ?_
      refine blockQ_r ?_
      refine thenQ_r ?_
      cases hF
      exact eR
     ·
      refine w_skip ?_
      refine blockQ_n ?_
      refine thenQ_n ?_
      refine w_reg 2433 2625 rfl rfl ?_
      refine qp (AI v50001) rfl (qp (AI (w64 (v50001 + 1))) rfl (qp (AI (w64 (v50001 + 1))) rfl ?_))
      refine r_nil ?_
      refine thenQ_n ?_
      refine ar (l' := [(0, AL 2 (v0.map eNamedMelody)), (3, AI (w64 (v50001 + 1)))]) (L := []) [0, 3] [] 1 ⟨_, by rfl, hF⟩
    ·
     refine qn rfl (qn rfl (qn rfl (qn rfl (qn rfl (qn rfl (qn rfl (qn rfl ?_)))))))
     refine qn rfl (qn rfl (qn rfl (qn rfl (qg (AB false) rfl rfl (qp (AB false) rfl ?_)))))
     refine r_nil ?_
     refine w_false rfl ?_
     refine w_skip ?_
     refine blockQ_n ?_
     refine thenQ_n ?_
     refine w_reg 2433 2625 rfl rfl ?_
     refine qp (AI v50001) rfl (qp (AI (w64 (v50001 + 1))) rfl (qp (AI (w64 (v50001 + 1))) rfl ?_))
     refine r_nil ?_
     refine thenQ_n ?_
     refine ar (l' := [(0, AL 2 (v0.map eNamedMelody)), (3, AI (w64 (v50001 + 1)))]) (L := []) [0, 3] [] 1 ⟨_, by rfl, hF⟩
 ·
  refine w_exit ?_
  refine thenQ_e ?_
  refine thenQ_e ?_
  refine blockQ_e ?_
  refine thenQ_n ?_
  refine ws 257 513 ?_
  refine qp (AL 2 (v0.map eNamedMelody)) rfl (qp (AI (v0.length : Int)) (ev_len_n rfl) (qp (AB (decide ((v0.length : Int) ≤ (12 : Int)))) rfl (qp (AB (decide ((v0.length : Int) ≤ (12 : Int)))) rfl ?_)))
  refine r_nil ?_
  refine w_ret ?_
  cases hF
  exact eR

def c160 : MC := (.seq (.reg [rg 2 (.p true (.mv (.c (.int .i64 0))))]) (.seq (.reg [mvt 3 0, rg 4 (.p true (.bin .rem (.t 3) (.c (.int .i64 12)))), rg 5 (.p true (.bin .add (.t 4) (.c (.int .i64 12)))), rg 6 (.p true (.bin .rem (.t 5) (.c (.int .i64 12)))), mvt 2 6]) .ret))
theorem c160_is : compFn Tryd.prog 160 = some (c160, [(.tmp 2)]) := by kernel_rfl
theorem c160_ok : okFn Tryd.prog 160 = true := by kernel_rfl

noncomputable def F_spec_l03Tone (v0 : Int) : Option (Int) :=
 some (Int.tmod (w64 ((Int.tmod v0 12) + 12)) 12)
@[simp] def res_spec_l03Tone (r : Int) : RV := .one (.one (.val (.int .i64 r)))
theorem con_spec_l03Tone {v0 : Int} {r : Int} (hF : F_spec_l03Tone v0 = some r) : Con Tryd.prog 160 [.int .i64 v0] (res_spec_l03Tone r) := by
 unfold F_spec_l03Tone at hF
 refine con_of c160_is fun N => ?_
 refine ws 0 64 ?_
 refine qp (AI 0) rfl ?_
 refine r_nil ?_
 refine ws 64 384 ?_
 refine qp (AI v0) rfl (qp (AI (Int.tmod v0 12)) (ev_rem rfl rfl (by decide)) (qp (AI (w64 ((Int.tmod v0 12) + 12))) rfl (qp (AI (Int.tmod (w64 ((Int.tmod v0 12) + 12)) 12)) (ev_rem rfl rfl (by decide)) (qp (AI (Int.tmod (w64 ((Int.tmod v0 12) + 12)) 12)) rfl ?_))))
 refine r_nil ?_
 refine w_ret ?_
 cases hF
 exact eR

def c161 : MC := (.seq (.reg [rg 0 (.p true (.mv (.c (.str []))))]) (.seq (.reg [rg 0 (.p true (.mv (.c (.str [83, 114, 82, 103, 71, 109, 77, 80, 100, 68, 110, 78]))))]) .ret))
theorem c161_is : compFn Tryd.prog 161 = some (c161, [(.tmp 0)]) := by kernel_rfl
theorem c161_ok : okFn Tryd.prog 161 = true := by kernel_rfl

noncomputable def F_spec_l03Names : Option (List UInt8) :=
 some [83, 114, 82, 103, 71, 109, 77, 80, 100, 68, 110, 78]
@[simp] def res_spec_l03Names (r : List UInt8) : RV := .one (.one (.val (.str r)))
theorem con_spec_l03Names {r : List UInt8} (hF : F_spec_l03Names = some r) : Con Tryd.prog 161 [] (res_spec_l03Names r) := by
 unfold F_spec_l03Names at hF
 refine con_of c161_is fun N => ?_
 refine ws 0 64 ?_
 refine qp (AS []) rfl ?_
 refine r_nil ?_
 refine ws 64 128 ?_
 refine qp (AS [83, 114, 82, 103, 71, 109, 77, 80, 100, 68, 110, 78]) rfl ?_
 refine r_nil ?_
 refine w_ret ?_
 cases hF
 exact eR

def c162 : MC := (.seq (.reg [rg 2 (.p true (.mv (.c (.int .i64 0))))]) (.seq (.reg [mvt 3 0, mvt 4 0, rg 5 (.call true 160 [(.t 4)]), rg 6 (.p true (.bin .sub (.t 3) (.t 5))), rg 7 (.p true (.bin .quo (.t 6) (.c (.int .i64 12)))), mvt 2 7]) .ret))
theorem c162_is : compFn Tryd.prog 162 = some (c162, [(.tmp 2)]) := by kernel_rfl
theorem c162_ok : okFn Tryd.prog 162 = true := by kernel_rfl

noncomputable def F_spec_l03Floor (v0 : Int) : Option (Int) :=
 ((F_spec_l03Tone v0).bind fun v1000 => some (w64 (Int.tdiv (w64 (v0 - v1000)) 12)))
@[simp] def res_spec_l03Floor (r : Int) : RV := .one (.one (.val (.int .i64 r)))
theorem con_spec_l03Floor {v0 : Int} {r : Int} (hF : F_spec_l03Floor v0 = some r) : Con Tryd.prog 162 [.int .i64 v0] (res_spec_l03Floor r) := by
 unfold F_spec_l03Floor at hF
 refine con_of c162_is fun N => ?_
 refine ws 0 64 ?_
 refine qp (AI 0) rfl ?_
 refine r_nil ?_
 refine ws 64 448 ?_
 refine qp (AI v0) rfl (qp (AI v0) rfl ?_)
 obtain ⟨v1000, e1000, hF⟩ := bind_get hF
 refine qc (AI v1000) [] false (con_spec_l03Tone e1000) c160_ok (by first | rfl | simp) rfl ?_
 refine qp (AI (w64 (v0 - v1000))) rfl (qp (AI (w64 (Int.tdiv (w64 (v0 - v1000)) 12))) (ev_quo rfl rfl (by decide)) (qp (AI (w64 (Int.tdiv (w64 (v0 - v1000)) 12))) rfl ?_))
 refine r_nil ?_
 refine w_ret ?_
 cases hF
 exact eR

def c127 : MC := (.seq (.reg [rg 2 (.p true (.mv (.c (.str []))))]) (.seq (.reg [mvt 5 0, rg 6 (.call true 160 [(.t 5)]), mvt 3 6]) (.seq (.reg [rg 7 (.call true 161 []), mvt 8 3, mvt 9 3, rg 10 (.p true (.bin .add (.t 9) (.c (.int .i64 1)))), rg 11 (.p true (.slcs (.t 7) (some (.t 8)) (some (.t 10)))), mvt 4 11]) (.seq (.seq (.reg [mvt 12 0, rg 13 (.call true 162 [(.t 12)])]) (.block 0 (.seq (.reg [rg 15 (.p true (.bin .eql (.t 13) (.c (.int .i64 (-1))))), mvt 14 15]) (.cond (.t 14) (.seq (.reg [mvt 16 4, rg 17 (.p true (.bin .add (.t 16) (.c (.str [44])))), mvt 2 17]) .ret) (.seq (.reg [rg 19 (.p true (.bin .eql (.t 13) (.c (.int .i64 1)))), mvt 18 19]) (.cond (.t 18) (.seq (.reg [mvt 20 4, rg 21 (.p true (.bin .add (.t 20) (.c (.str [39])))), mvt 2 21]) .ret) .skip)))))) (.seq (.reg [mvt 22 4, mvt 2 22]) .ret)))))
theorem c127_is : compFn Tryd.prog 127 = some (c127, [(.tmp 2)]) := by kernel_rfl
theorem c127_ok : okFn Tryd.prog 127 = true := by kernel_rfl

noncomputable def F_spec_l09Name (v0 : Int) : Option (List UInt8) :=
 ((F_spec_l03Tone v0).bind fun v1000 => ((F_spec_l03Names).bind fun v1001 => (need (0 ≤ v1000 ∧ v1000 ≤ w64 (v1000 + 1) ∧ w64 (v1000 + 1) ≤ (v1001.length : Int)) (((F_spec_l03Floor v0).bind fun v1003 => (bif (decide (v1003 = ((-1) : Int))) then (need ((sub v1001 v1000 (w64 (v1000 + 1))).length + [44].length < 9223372036854775808) (some ((sub v1001 v1000 (w64 (v1000 + 1))) ++ [44])))
 else (bif (decide (v1003 = (1 : Int))) then (need ((sub v1001 v1000 (w64 (v1000 + 1))).length + [39].length < 9223372036854775808) (some ((sub v1001 v1000 (w64 (v1000 + 1))) ++ [39])))
 else some (sub v1001 v1000 (w64 (v1000 + 1))))))))))
@[simp] def res_spec_l09Name (r : List UInt8) : RV := .one (.one (.val (.str r)))
theorem con_spec_l09Name {v0 : Int} {r : List UInt8} (hF : F_spec_l09Name v0 = some r) : Con Tryd.prog 127 [.int .i64 v0] (res_spec_l09Name r) := by
 unfold F_spec_l09Name at hF
 refine con_of c127_is fun N => ?_
 refine ws 0 64 ?_
 refine qp (AS []) rfl ?_
 refine r_nil ?_
 refine ws 64 256 ?_
 refine qp (AI v0) rfl ?_
 obtain ⟨v1000, e1000, hF⟩ := bind_get hF
 refine qc (AI v1000) [] false (con_spec_l03Tone e1000) c160_ok (by first | rfl | simp) rfl ?_
 refine qp (AI v1000) rfl ?_
 refine r_nil ?_
 refine ws 256 640 ?_
 obtain ⟨v1001, e1001, hF⟩ := bind_get hF
 refine qc (AS v1001) [] false (con_spec_l03Names e1001) c161_ok (by first | rfl | simp) rfl ?_
 refine qp (AI v1000) rfl (qp (AI v1000) rfl (qp (AI (w64 (v1000 + 1))) rfl ?_))
 obtain ⟨g1002, hF⟩ := need_some hF
 refine qp (AS (sub v1001 v1000 (w64 (v1000 + 1)))) (ev_slcs rfl (bnd_some rfl g1002.1) (bnd_some rfl (Int.le_trans g1002.1 g1002.2.1)) g1002) (qp (AS (sub v1001 v1000 (w64 (v1000 + 1)))) rfl ?_)
 refine r_nil ?_
 refine w_seq ?_
 refine ws 640 768 ?_
 refine qp (AI v0) rfl ?_
 obtain ⟨v1003, e1003, hF⟩ := bind_get hF
 refine qc (AI v1003) [] false (con_spec_l03Floor e1003) c162_ok (by first | rfl | simp) rfl ?_
 refine r_nil ?_
 refine w_block ?_
 refine ws 768 896 ?_
 refine qp (AB (decide (v1003 = ((-1) : Int)))) rfl (qp (AB (decide (v1003 = ((-1) : Int)))) rfl ?_)
 refine r_nil ?_
 refine cF hF (fun hF => ?_) fun hF => ?_
 ·
  refine ws 896 1088 ?_
  refine qp (AS (sub v1001 v1000 (w64 (v1000 + 1)))) rfl ?_
  obtain ⟨g1004, hF⟩ := need_some hF
  refine qp (AS ((sub v1001 v1000 (w64 (v1000 + 1))) ++ [44])) (ev_add_s rfl rfl g1004) (qp (AS ((sub v1001 v1000 (w64 (v1000 + 1))) ++ [44])) rfl ?_)
  refine r_nil ?_
  refine w_ret ?_
  refine blockQ_r ?_
  refine thenQ_r ?_
  cases hF
  exact eR
 ·
  refine ws 896 1024 ?_
  refine qp (AB (decide (v1003 = (1 : Int)))) rfl (qp (AB (decide (v1003 = (1 : Int)))) rfl ?_)
  refine r_nil ?_
  refine cF hF (fun hF => ?_) fun hF => ?_
  ·
   refine ws 1024 1216 ?_
   refine qp (AS (sub v1001 v1000 (w64 (v1000 + 1)))) rfl ?_
   obtain ⟨g1005, hF⟩ := need_some hF
   refine qp (AS ((sub v1001 v1000 (w64 (v1000 + 1))) ++ [39])) (ev_add_s rfl rfl g1005) (qp (AS ((sub v1001 v1000 (w64 (v1000 + 1))) ++ [39])) rfl ?_)
   refine r_nil ?_
   refine w_ret ?_
   refine blockQ_r ?_
   refine thenQ_r ?_
   cases hF
   exact eR
  ·
   refine w_skip ?_
   refine blockQ_n ?_
   refine thenQ_n ?_
   refine ws 1024 1152 ?_
   refine qp (AS (sub v1001 v1000 (w64 (v1000 + 1)))) rfl (qp (AS (sub v1001 v1000 (w64 (v1000 + 1)))) rfl ?_)
   refine r_nil ?_
   refine w_ret ?_
   cases hF
   exact eR

def c100 : MC := (.seq (.reg [rg 2 (.p true (.mv (.c (.str []))))]) (.seq (.seq (.reg [mvt 8 0, rg 9 (.p true (.bin .eql (.t 8) (.c (.int .i64 0))))]) (.cond (.t 9) (.seq (.reg [rg 2 (.p true (.mv (.c (.str [48]))))]) .ret) .skip)) (.seq (.reg [rg 10 (.f (.bsl 1 [])), mvt 3 10]) (.seq (.seq (.reg [mvt 11 0, mvt 4 11]) (.block 0 (.loop (.seq (.seq (.reg [mvt 12 4, rg 13 (.p true (.bin .neq (.t 12) (.c (.int .i64 0))))]) (.cond (.t 13) .skip (.exit 0))) (.seq (.block 1 (.seq (.reg [mvt 16 4, rg 17 (.p true (.bin .rem (.t 16) (.c (.int .i64 10)))), mvt 5 17]) (.seq (.seq (.reg [mvt 18 5, rg 19 (.p true (.bin .lss (.t 18) (.c (.int .i64 0))))]) (.cond (.t 19) (.reg [mvt 20 5, rg 21 (.p true (.neg (.t 20))), mvt 5 21]) .skip)) (.reg [mvt 22 3, mvt 23 5, rg 24 (.p true (.bin .add (.c (.int .i64 48)) (.t 23))), rg 25 (.p true (.conv .u8 (.t 24))), rg 26 (.f (.bsl 1 [(.t 25)])), rg 27 (.f (.app (.t 22) (.t 26) 1 1 true)), mvt 3 27])))) (.reg [mvt 14 4, rg 15 (.p true (.bin .quo (.t 14) (.c (.int .i64 10)))), mvt 4 15])))))) (.seq (.seq (.reg [mvt 28 0, rg 29 (.p true (.bin .lss (.t 28) (.c (.int .i64 0))))]) (.cond (.t 29) (.reg [mvt 30 3, rg 31 (.f (.bsl 1 [(.c (.int .u8 45))])), rg 32 (.f (.app (.t 30) (.t 31) 1 1 true)), mvt 3 32]) .skip)) (.seq (.reg [rg 33 (.f (.bsl 1 [])), mvt 6 33]) (.seq (.seq (.reg [mvt 34 3, rg 35 (.p true (.len (.t 34))), rg 36 (.p true (.bin .sub (.t 35) (.c (.int .i64 1)))), mvt 7 36]) (.block 2 (.loop (.seq (.seq (.reg [mvt 37 7, rg 38 (.p true (.bin .geq (.t 37) (.c (.int .i64 0))))]) (.cond (.t 38) .skip (.exit 2))) (.seq (.block 3 (.reg [mvt 41 6, mvt 42 3, mvt 43 7, rg 44 (.p true (.iad (.t 42) (.t 43) 1)), rg 45 (.p true (.ld (.t 44) 1 false)), rg 46 (.f (.bsl 1 [(.t 45)])), rg 47 (.f (.app (.t 41) (.t 46) 1 1 true)), mvt 6 47])) (.reg [mvt 39 7, rg 40 (.p true (.bin .sub (.t 39) (.c (.int .i64 1)))), mvt 7 40])))))) (.seq (.reg [mvt 48 6, rg 49 (.p true (.bts (.t 48))), mvt 2 49]) .ret))))))))
theorem c100_is : compFn Tryd.prog 100 = some (c100, [(.tmp 2)]) := by kernel_rfl
theorem c100_ok : okFn Tryd.prog 100 = true := by kernel_rfl

noncomputable def F_spec_l01Dec_j1 (v50004 : Int) (v50005 : List Int) (k0 : Int × (List Int) → Option (List UInt8)) (v50006 : Int) : Option (List UInt8) :=
 (need (room (v50005.length + [IntKind.wrap .u8 (w64 (48 + v50006))].length) 1) (k0 (w64 (Int.tdiv v50004 10), v50005 ++ [IntKind.wrap .u8 (w64 (48 + v50006))])))
noncomputable def F_spec_l01Dec_l3 (v50007 : List Int) (k1 : Int × (List Int) → Option (List UInt8)) : Int × (List Int) → Option (List UInt8)
 | (v50010, v50011) => (bif (decide ((0 : Int) ≤ v50010)) then ((ix v50007 v50010).bind fun v1002 => (need (room (v50011.length + [v1002].length) 1) (k1 (w64 (v50010 - 1), v50011 ++ [v1002]))))
 else some (bytesI v50011))
noncomputable def F_spec_l01Dec_j2 (v50007 : List Int) : Option (List UInt8) :=
 loop (F_spec_l01Dec_l3 v50007) (w64 ((v50007.length : Int) - 1), [])
noncomputable def F_spec_l01Dec_l0 (v0 : Int) (k0 : Int × (List Int) → Option (List UInt8)) : Int × (List Int) → Option (List UInt8)
 | (v50004, v50005) => (bif (decide (v50004 ≠ (0 : Int))) then (bif (decide (Int.tmod v50004 10 < (0 : Int))) then F_spec_l01Dec_j1 v50004 v50005 k0 (w64 (0 - (Int.tmod v50004 10)))
 else F_spec_l01Dec_j1 v50004 v50005 k0 (Int.tmod v50004 10))
 else (bif (decide (v0 < (0 : Int))) then (need (room (v50005.length + [(45 : Int)].length) 1) (F_spec_l01Dec_j2 (v50005 ++ [(45 : Int)])))
 else F_spec_l01Dec_j2 v50005))
noncomputable def F_spec_l01Dec (v0 : Int) : Option (List UInt8) :=
 (bif (decide (v0 = (0 : Int))) then some [48]
 else loop (F_spec_l01Dec_l0 v0) (v0, []))
@[simp] def res_spec_l01Dec (r : List UInt8) : RV := .one (.one (.val (.str r)))
theorem con_spec_l01Dec {v0 : Int} {r : List UInt8} (hF : F_spec_l01Dec v0 = some r) : Con Tryd.prog 100 [.int .i64 v0] (res_spec_l01Dec r) := by
 unfold F_spec_l01Dec at hF
 refine con_of c100_is fun N => ?_
 refine ws 0 64 ?_
 refine qp (AS []) rfl ?_
 refine r_nil ?_
 refine w_seq ?_
 refine ws 64 192 ?_
 refine qp (AI v0) rfl (qp (AB (decide (v0 = (0 : Int)))) rfl ?_)
 refine r_nil ?_
 refine cF hF (fun hF => ?_) fun hF => ?_
 ·
  refine ws 192 256 ?_
  refine qp (AS [48]) rfl ?_
  refine r_nil ?_
  refine w_ret ?_
  refine thenQ_r ?_
  cases hF
  exact eR
 ·
  refine w_skip ?_
  refine thenQ_n ?_
  refine ws 192 320 ?_
  refine qf (.sl 192 0 0) [(192, .row true 1 (([] : List Int).map (V.int .u8)))] (by simp [List.take_of_length_le]) ?_
  refine qp (.sl 192 0 0) rfl ?_
  refine r_nil ?_
  refine w_seq ?_
  refine ws 320 448 ?_
  refine qp (AI v0) rfl (qp (AI v0) rfl ?_)
  refine r_nil ?_
  refine w_block ?_
  refine wr (l' := [(0, AI v0), (3, .sl 0 0 0), (4, AI v0)]) (L := [(0, .row true 1 (([] : List Int).map (V.int .u8)))]) [0, 3, 4] [(192, 0)] 1 ?_
  refine w_loopF (F_spec_l01Dec_l0 v0) (fun s : Int × (List Int) => mkS [(0, AI v0), (3, .sl 0 0 s.2.length), (4, AI s.1)] (fo [(0, .row true 1 (s.2.map (V.int .u8)))]) 1) hF ?_
  rintro k0 ⟨v50004, v50005⟩ hF
  rw [F_spec_l01Dec_l0] at hF
  try dsimp only
  refine w_seq ?_
  refine ws 1 129 ?_
  refine qp (AI v50004) rfl (qp (AB (decide (v50004 ≠ (0 : Int)))) rfl ?_)
  refine r_nil ?_
  refine cF hF (fun hF => ?_) fun hF => ?_
  ·
   refine w_skip ?_
   refine thenQ_n ?_
   refine w_seq ?_
   refine w_block ?_
   refine ws 129 321 ?_
   refine qp (AI v50004) rfl (qp (AI (Int.tmod v50004 10)) (ev_rem rfl rfl (by decide)) (qp (AI (Int.tmod v50004 10)) rfl ?_))
   refine r_nil ?_
   refine w_meet (fun s' => ∃ (v50006 : Int), s' = mkS [(0, AI v0), (3, .sl 0 0 v50005.length), (4, AI v50004), (5, AI v50006)] (fo [(0, .row true 1 (v50005.map (V.int .u8)))]) 1 ∧ F_spec_l01Dec_j1 v50004 v50005 k0 v50006 = some r) ?_ ?_
   ·
    refine ws 321 449 ?_
    refine qp (AI (Int.tmod v50004 10)) rfl (qp (AB (decide (Int.tmod v50004 10 < (0 : Int)))) rfl ?_)
    refine r_nil ?_
    refine cF hF (fun hF => ?_) fun hF => ?_
    ·
     refine w_reg 449 641 rfl rfl ?_
     refine qp (AI (Int.tmod v50004 10)) rfl (qp (AI (w64 (0 - (Int.tmod v50004 10)))) rfl (qp (AI (w64 (0 - (Int.tmod v50004 10)))) rfl ?_))
     refine r_nil ?_
     refine thenQ_n ?_
     refine aw_ren (l' := [(0, AI v0), (3, .sl 0 0 v50005.length), (4, AI v50004), (5, AI (w64 (0 - (Int.tmod v50004 10))))]) (L := [(0, .row true 1 (v50005.map (V.int .u8)))]) [0, 3, 4, 5] [(0, 0)] 1 (by first | rfl | simp) (by first | rfl | simp) (by decide) (by decide) (by decide) ⟨_, rfl, hF⟩
    ·
     refine w_skip ?_
     refine thenQ_n ?_
     refine aw_ren (l' := [(0, AI v0), (3, .sl 0 0 v50005.length), (4, AI v50004), (5, AI (Int.tmod v50004 10))]) (L := [(0, .row true 1 (v50005.map (V.int .u8)))]) [0, 3, 4, 5] [(0, 0)] 1 (by first | rfl | simp) (by first | rfl | simp) (by decide) (by decide) (by decide) ⟨_, rfl, hF⟩
   ·
    rintro s' ⟨v50006, rfl, hF⟩
    unfold F_spec_l01Dec_j1 at hF
    refine w_reg 1 449 rfl rfl ?_
    refine qp (.sl 0 0 v50005.length) rfl (qp (AI v50006) rfl (qp (AI (w64 (48 + v50006))) rfl (qp (.val none (.int .u8 (IntKind.wrap .u8 (w64 (48 + v50006))))) rfl ?_)))
    refine qf (.sl 257 0 ([IntKind.wrap .u8 (w64 (48 + v50006))].length)) [(257, .row true 1 ([IntKind.wrap .u8 (w64 (48 + v50006))].map (V.int .u8))), (0, .row true 1 (v50005.map (V.int .u8)))] (by simp [List.take_of_length_le]) ?_
    obtain ⟨g1000, hF⟩ := need_some hF
    refine qf (.sl 321 0 ((v50005 ++ [IntKind.wrap .u8 (w64 (48 + v50006))]).length)) [(321, .row true 1 ((v50005 ++ [IntKind.wrap .u8 (w64 (48 + v50006))]).map (V.int .u8))), (0, .dead), (257, .dead), (257, .row true 1 ([IntKind.wrap .u8 (w64 (48 + v50006))].map (V.int .u8))), (0, .row true 1 (v50005.map (V.int .u8)))] (effT_app_l rfl (by simp) rfl rfl (by simp) rfl (by decide) g1000 rfl) ?_
    refine qp (.sl 321 0 ((v50005 ++ [IntKind.wrap .u8 (w64 (48 + v50006))]).length)) rfl ?_
    refine r_nil ?_
    refine blockQ_n ?_
    refine thenQ_n ?_
    refine w_reg 449 641 rfl rfl ?_
    refine qp (AI v50004) rfl (qp (AI (w64 (Int.tdiv v50004 10))) (ev_quo rfl rfl (by decide)) (qp (AI (w64 (Int.tdiv v50004 10))) rfl ?_))
    refine r_nil ?_
    refine thenQ_n ?_
    refine ar (l' := [(0, AI v0), (3, .sl 0 0 (v50005 ++ [IntKind.wrap .u8 (w64 (48 + v50006))]).length), (4, AI (w64 (Int.tdiv v50004 10)))]) (L := [(0, .row true 1 ((v50005 ++ [IntKind.wrap .u8 (w64 (48 + v50006))]).map (V.int .u8)))]) [0, 3, 4] [(321, 0)] 1 ⟨_, by rfl, hF⟩
  ·
   refine w_exit ?_
   refine thenQ_e ?_
   refine thenQ_e ?_
   refine blockQ_e ?_
   refine thenQ_n ?_
   refine w_meet (fun s' => ∃ (v50007 : List Int), s' = mkS [(3, .sl 0 0 v50007.length)] (fo [(0, .row true 1 (v50007.map (V.int .u8)))]) 1 ∧ F_spec_l01Dec_j2 v50007 = some r) ?_ ?_
   ·
    refine ws 129 257 ?_
    refine qp (AI v0) rfl (qp (AB (decide (v0 < (0 : Int)))) rfl ?_)
    refine r_nil ?_
    refine cF hF (fun hF => ?_) fun hF => ?_
    ·
     refine w_reg 257 513 rfl rfl ?_
     refine qp (.sl 0 0 v50005.length) rfl ?_
     refine qf (.sl 321 0 ([(45 : Int)].length)) [(321, .row true 1 ([(45 : Int)].map (V.int .u8))), (0, .row true 1 (v50005.map (V.int .u8)))] (by simp [List.take_of_length_le]) ?_
     obtain ⟨g1001, hF⟩ := need_some hF
     refine qf (.sl 385 0 ((v50005 ++ [(45 : Int)]).length)) [(385, .row true 1 ((v50005 ++ [(45 : Int)]).map (V.int .u8))), (0, .dead), (321, .dead), (321, .row true 1 ([(45 : Int)].map (V.int .u8))), (0, .row true 1 (v50005.map (V.int .u8)))] (effT_app_l rfl (by simp) rfl rfl (by simp) rfl (by decide) g1001 rfl) ?_
     refine qp (.sl 385 0 ((v50005 ++ [(45 : Int)]).length)) rfl ?_
     refine r_nil ?_
     refine thenQ_n ?_
     refine aw_ren (l' := [(3, .sl 0 0 (v50005 ++ [(45 : Int)]).length)]) (L := [(0, .row true 1 ((v50005 ++ [(45 : Int)]).map (V.int .u8)))]) [3] [(385, 0)] 1 (by first | rfl | simp) (by first | rfl | simp) (by decide) (by decide) (by decide) ⟨_, rfl, hF⟩
    ·
     refine w_skip ?_
     refine thenQ_n ?_
     refine aw_ren (l' := [(3, .sl 0 0 v50005.length)]) (L := [(0, .row true 1 (v50005.map (V.int .u8)))]) [3] [(0, 0)] 1 (by first | rfl | simp) (by first | rfl | simp) (by decide) (by decide) (by decide) ⟨_, rfl, hF⟩
   ·
    rintro s' ⟨v50007, rfl, hF⟩
    unfold F_spec_l01Dec_j2 at hF
    refine ws 1 129 ?_
    refine qf (.sl 1 0 0) [(1, .row true 1 (([] : List Int).map (V.int .u8))), (0, .row true 1 (v50007.map (V.int .u8)))] (by simp [List.take_of_length_le]) ?_
    refine qp (.sl 1 0 0) rfl ?_
    refine r_nil ?_
    refine w_seq ?_
    refine ws 129 385 ?_
    refine qp (.sl 0 0 v50007.length) rfl (qp (AI (v50007.length : Int)) rfl (qp (AI (w64 ((v50007.length : Int) - 1))) rfl (qp (AI (w64 ((v50007.length : Int) - 1))) rfl ?_)))
    refine r_nil ?_
    refine w_block ?_
    refine wr (l' := [(3, .sl 0 0 v50007.length), (6, .sl 1 0 0), (7, AI (w64 ((v50007.length : Int) - 1)))]) (L := [(1, .row true 1 (([] : List Int).map (V.int .u8))), (0, .row true 1 (v50007.map (V.int .u8)))]) [3, 6, 7] [(1, 1), (0, 0)] 2 ?_
    refine w_loopF (F_spec_l01Dec_l3 v50007) (fun s : Int × (List Int) => mkS [(3, .sl 0 0 v50007.length), (6, .sl 1 0 s.2.length), (7, AI s.1)] (fo [(1, .row true 1 (s.2.map (V.int .u8))), (0, .row true 1 (v50007.map (V.int .u8)))]) 2) hF ?_
    rintro k1 ⟨v50010, v50011⟩ hF
    rw [F_spec_l01Dec_l3] at hF
    try dsimp only
    refine w_seq ?_
    refine ws 2 130 ?_
    refine qp (AI v50010) rfl (qp (AB (decide ((0 : Int) ≤ v50010))) rfl ?_)
    refine r_nil ?_
    refine cF hF (fun hF => ?_) fun hF => ?_
    ·
     refine w_skip ?_
     refine thenQ_n ?_
     refine w_seq ?_
     refine w_block ?_
     refine w_reg 130 642 rfl rfl ?_
     refine qp (.sl 1 0 v50011.length) rfl (qp (.sl 0 0 v50007.length) rfl (qp (AI v50010) rfl ?_))
     obtain ⟨v1002, e1002, hF⟩ := bind_get hF
     refine qp (.ptr 0 v50010.toNat 0) (ev_iad_r rfl (by simp) rfl rfl e1002) (qp (.val none (.int .u8 v1002)) (ev_ld_r rfl rfl (ix_some e1002).2 rfl rfl) ?_)
     refine qf (.sl 450 0 ([v1002].length)) [(450, .row true 1 ([v1002].map (V.int .u8))), (1, .row true 1 (v50011.map (V.int .u8))), (0, .row true 1 (v50007.map (V.int .u8)))] (by simp [List.take_of_length_le]) ?_
     obtain ⟨g1003, hF⟩ := need_some hF
     refine qf (.sl 514 0 ((v50011 ++ [v1002]).length)) [(514, .row true 1 ((v50011 ++ [v1002]).map (V.int .u8))), (1, .dead), (450, .dead), (450, .row true 1 ([v1002].map (V.int .u8))), (1, .row true 1 (v50011.map (V.int .u8))), (0, .row true 1 (v50007.map (V.int .u8)))] (effT_app_l rfl (by simp) rfl rfl (by simp) rfl (by decide) g1003 rfl) ?_
     refine qp (.sl 514 0 ((v50011 ++ [v1002]).length)) rfl ?_
     refine r_nil ?_
     refine blockQ_n ?_
     refine thenQ_n ?_
     refine w_reg 642 834 rfl rfl ?_
     refine qp (AI v50010) rfl (qp (AI (w64 (v50010 - 1))) rfl (qp (AI (w64 (v50010 - 1))) rfl ?_))
     refine r_nil ?_
     refine thenQ_n ?_
     refine ar (l' := [(3, .sl 0 0 v50007.length), (6, .sl 1 0 (v50011 ++ [v1002]).length), (7, AI (w64 (v50010 - 1)))]) (L := [(1, .row true 1 ((v50011 ++ [v1002]).map (V.int .u8))), (0, .row true 1 (v50007.map (V.int .u8)))]) [3, 6, 7] [(514, 1), (0, 0)] 2 ⟨_, by rfl, hF⟩
    ·
     refine w_exit ?_
     refine thenQ_e ?_
     refine thenQ_e ?_
     refine blockQ_e ?_
     refine thenQ_n ?_
     refine ws 130 322 ?_
     refine qp (.sl 1 0 v50011.length) rfl (qp (AS (bytesI v50011)) (ev_bts_r rfl (by simp) rfl) (qp (AS (bytesI v50011)) rfl ?_))
     refine r_nil ?_
     refine w_ret ?_
     cases hF
     exact eR

def c83 : MC := (.seq (.reg [rg 2 (.p true (.mv (.c (.str []))))]) (.seq (.seq (.reg [mvt 5 0, rg 6 (.p true (.len (.t 5))), rg 7 (.p true (.bin .eql (.t 6) (.c (.int .i64 0))))]) (.cond (.t 7) (.seq (.reg [rg 2 (.p true (.mv (.c (.str [45]))))]) .ret) .skip)) (.seq (.reg [rg 3 (.p true (.mv (.c (.str []))))]) (.seq (.seq (.reg [rg 4 (.p true (.mv (.c (.int .i64 0))))]) (.block 0 (.loop (.seq (.seq (.reg [mvt 8 4, mvt 9 0, rg 10 (.p true (.len (.t 9))), rg 11 (.p true (.bin .lss (.t 8) (.t 10)))]) (.cond (.t 11) .skip (.exit 0))) (.seq (.block 1 (.seq (.seq (.reg [mvt 14 4, rg 15 (.p true (.bin .gtr (.t 14) (.c (.int .i64 0))))]) (.cond (.t 15) (.reg [mvt 16 3, rg 17 (.p true (.bin .add (.t 16) (.c (.str [32])))), mvt 3 17]) .skip)) (.seq (.reg [mvt 18 3, mvt 19 0, mvt 20 4, rg 21 (.p true (.iad (.t 19) (.t 20) 2)), rg 22 (.p true (.fad (.t 21) 0)), rg 23 (.p true (.ld (.t 22) 1 false)), rg 24 (.call true 127 [(.t 23)]), rg 25 (.p true (.bin .add (.t 18) (.t 24))), mvt 3 25]) (.seq (.reg [mvt 26 0, mvt 27 4, rg 28 (.p true (.iad (.t 26) (.t 27) 2)), rg 29 (.p true (.fad (.t 28) 1)), rg 30 (.p true (.ld (.t 29) 1 false)), rg 31 (.p true (.bin .neq (.t 30) (.c (.int .i64 1))))]) (.cond (.t 31) (.reg [mvt 32 3, mvt 33 0, mvt 34 4, rg 35 (.p true (.iad (.t 33) (.t 34) 2)), rg 36 (.p true (.fad (.t 35) 1)), rg 37 (.p true (.ld (.t 36) 1 false)), rg 38 (.call true 100 [(.t 37)]), rg 39 (.p true (.bin .add (.t 32) (.t 38))), mvt 3 39]) .skip))))) (.reg [mvt 12 4, rg 13 (.p true (.bin .add (.t 12) (.c (.int .i64 1)))), mvt 4 13])))))) (.seq (.reg [mvt 40 3, mvt 2 40]) .ret)))))
theorem c83_is : compFn Tryd.prog 83 = some (c83, [(.tmp 2)]) := by kernel_rfl
theorem c83_ok : okFn Tryd.prog 83 = true := by kernel_rfl

noncomputable def F_spec_l09Text_j1 (v0 : List TNote) (v50005 : Int) (k0 : (List UInt8) × Int → Option (List UInt8)) (v50006 : List UInt8) : Option (List UInt8) :=
 ((ix v0 v50005).bind fun v1001 => ((F_spec_l09Name v1001.1).bind fun v1002 => (need (v50006.length + v1002.length < 9223372036854775808) (((ix v0 v50005).bind fun v1004 => (bif (decide (v1004.2 ≠ (1 : Int))) then ((ix v0 v50005).bind fun v1005 => ((F_spec_l01Dec v1005.2).bind fun v1006 => (need ((v50006 ++ v1002).length + v1006.length < 9223372036854775808) (k0 ((v50006 ++ v1002) ++ v1006, w64 (v50005 + 1))))))
 else k0 (v50006 ++ v1002, w64 (v50005 + 1))))))))
noncomputable def F_spec_l09Text_l0 (v0 : List TNote) (k0 : (List UInt8) × Int → Option (List UInt8)) : (List UInt8) × Int → Option (List UInt8)
 | (v50004, v50005) => (bif (decide (v50005 < (v0.length : Int))) then (bif (decide ((0 : Int) < v50005)) then (need (v50004.length + [32].length < 9223372036854775808) (F_spec_l09Text_j1 v0 v50005 k0 (v50004 ++ [32])))
 else F_spec_l09Text_j1 v0 v50005 k0 v50004)
 else some v50004)
noncomputable def F_spec_l09Text (v0 : List TNote) : Option (List UInt8) :=
 (bif (decide ((v0.length : Int) = (0 : Int))) then some [45]
 else loop (F_spec_l09Text_l0 v0) ([], 0))
@[simp] def res_spec_l09Text (r : List UInt8) : RV := .one (.one (.val (.str r)))
theorem con_spec_l09Text {v0 : List TNote} {r : List UInt8} (hF : F_spec_l09Text v0 = some r) : Con Tryd.prog 83 [.sl 2 (v0.map eNote)] (res_spec_l09Text r) := by
 unfold F_spec_l09Text at hF
 refine con_of c83_is fun N => ?_
 refine ws 0 64 ?_
 refine qp (AS []) rfl ?_
 refine r_nil ?_
 refine w_seq ?_
 refine ws 64 256 ?_
 refine qp (AL 2 (v0.map eNote)) rfl (qp (AI (v0.length : Int)) (ev_len_n rfl) (qp (AB (decide ((v0.length : Int) = (0 : Int)))) rfl ?_))
 refine r_nil ?_
 refine cF hF (fun hF => ?_) fun hF => ?_
 ·
  refine ws 256 320 ?_
  refine qp (AS [45]) rfl ?_
  refine r_nil ?_
  refine w_ret ?_
  refine thenQ_r ?_
  cases hF
  exact eR
 ·
  refine w_skip ?_
  refine thenQ_n ?_
  refine ws 256 320 ?_
  refine qp (AS []) rfl ?_
  refine r_nil ?_
  refine w_seq ?_
  refine ws 320 384 ?_
  refine qp (AI 0) rfl ?_
  refine r_nil ?_
  refine w_block ?_
  refine wr (l' := [(0, AL 2 (v0.map eNote)), (3, AS ([] : List UInt8)), (4, AI 0)]) (L := []) [0, 3, 4] [] 1 ?_
  refine w_loopF (F_spec_l09Text_l0 v0) (fun s : (List UInt8) × Int => mkS [(0, AL 2 (v0.map eNote)), (3, AS s.1), (4, AI s.2)] (fo []) 1) hF ?_
  rintro k0 ⟨v50004, v50005⟩ hF
  rw [F_spec_l09Text_l0] at hF
  try dsimp only
  refine w_seq ?_
  refine ws 1 257 ?_
  refine qp (AI v50005) rfl (qp (AL 2 (v0.map eNote)) rfl (qp (AI (v0.length : Int)) (ev_len_n rfl) (qp (AB (decide (v50005 < (v0.length : Int)))) rfl ?_)))
  refine r_nil ?_
  refine cF hF (fun hF => ?_) fun hF => ?_
  ·
   refine w_skip ?_
   refine thenQ_n ?_
   refine w_seq ?_
   refine w_block ?_
   refine w_meet (fun s' => ∃ (v50006 : List UInt8), s' = mkS [(0, AL 2 (v0.map eNote)), (3, AS v50006), (4, AI v50005)] (fo []) 1 ∧ F_spec_l09Text_j1 v0 v50005 k0 v50006 = some r) ?_ ?_
   ·
    refine ws 257 385 ?_
    refine qp (AI v50005) rfl (qp (AB (decide ((0 : Int) < v50005))) rfl ?_)
    refine r_nil ?_
    refine cF hF (fun hF => ?_) fun hF => ?_
    ·
     refine w_reg 385 577 rfl rfl ?_
     refine qp (AS v50004) rfl ?_
     obtain ⟨g1000, hF⟩ := need_some hF
     refine qp (AS (v50004 ++ [32])) (ev_add_s rfl rfl g1000) (qp (AS (v50004 ++ [32])) rfl ?_)
     refine r_nil ?_
     refine thenQ_n ?_
     refine aw_ren (l' := [(0, AL 2 (v0.map eNote)), (3, AS (v50004 ++ [32])), (4, AI v50005)]) (L := []) [0, 3, 4] [] 1 (by first | rfl | simp) (by first | rfl | simp) (by decide) (by decide) (by decide) ⟨_, rfl, hF⟩
    ·
     refine w_skip ?_
     refine thenQ_n ?_
     refine aw_ren (l' := [(0, AL 2 (v0.map eNote)), (3, AS v50004), (4, AI v50005)]) (L := []) [0, 3, 4] [] 1 (by first | rfl | simp) (by first | rfl | simp) (by decide) (by decide) (by decide) ⟨_, rfl, hF⟩
   ·
    rintro s' ⟨v50006, rfl, hF⟩
    unfold F_spec_l09Text_j1 at hF
    refine ws 1 577 ?_
    refine qp (AS v50006) rfl (qp (AL 2 (v0.map eNote)) rfl (qp (AI v50005) rfl ?_))
    obtain ⟨v1001, e1001, hF⟩ := bind_get hF
    refine qp (.val none (.ptr [.int .i64 v1001.1, .int .i64 v1001.2])) (ev_iad_n rfl rfl e1001 rfl) (qp (.val none (.ptr [.int .i64 v1001.1, .int .i64 v1001.2])) rfl (qp (AI v1001.1) rfl ?_))
    obtain ⟨v1002, e1002, hF⟩ := bind_get hF
    refine qc (AS v1002) [] false (con_spec_l09Name e1002) c127_ok (by first | rfl | simp) rfl ?_
    obtain ⟨g1003, hF⟩ := need_some hF
    refine qp (AS (v50006 ++ v1002)) (ev_add_s rfl rfl g1003) (qp (AS (v50006 ++ v1002)) rfl ?_)
    refine r_nil ?_
    refine ws 577 961 ?_
    refine qp (AL 2 (v0.map eNote)) rfl (qp (AI v50005) rfl ?_)
    obtain ⟨v1004, e1004, hF⟩ := bind_get hF
    refine qp (.val none (.ptr [.int .i64 v1004.1, .int .i64 v1004.2])) (ev_iad_n rfl rfl e1004 rfl) (qp (.val none (.ptr [.int .i64 v1004.2])) rfl (qp (AI v1004.2) rfl (qp (AB (decide (v1004.2 ≠ (1 : Int)))) rfl ?_)))
    refine r_nil ?_
    refine cF hF (fun hF => ?_) fun hF => ?_
    ·
     refine w_reg 961 1537 rfl rfl ?_
     refine qp (AS (v50006 ++ v1002)) rfl (qp (AL 2 (v0.map eNote)) rfl (qp (AI v50005) rfl ?_))
     obtain ⟨v1005, e1005, hF⟩ := bind_get hF
     refine qp (.val none (.ptr [.int .i64 v1005.1, .int .i64 v1005.2])) (ev_iad_n rfl rfl e1005 rfl) (qp (.val none (.ptr [.int .i64 v1005.2])) rfl (qp (AI v1005.2) rfl ?_))
     obtain ⟨v1006, e1006, hF⟩ := bind_get hF
     refine qc (AS v1006) [] false (con_spec_l01Dec e1006) c100_ok (by first | rfl | simp) rfl ?_
     obtain ⟨g1007, hF⟩ := need_some hF
     refine qp (AS ((v50006 ++ v1002) ++ v1006)) (ev_add_s rfl rfl g1007) (qp (AS ((v50006 ++ v1002) ++ v1006)) rfl ?_)
     refine r_nil ?_
     refine blockQ_n ?_
     refine thenQ_n ?_
     refine w_reg 1537 1729 rfl rfl ?_
     refine qp (AI v50005) rfl (qp (AI (w64 (v50005 + 1))) rfl (qp (AI (w64 (v50005 + 1))) rfl ?_))
     refine r_nil ?_
     refine thenQ_n ?_
     refine ar (l' := [(0, AL 2 (v0.map eNote)), (3, AS ((v50006 ++ v1002) ++ v1006)), (4, AI (w64 (v50005 + 1)))]) (L := []) [0, 3, 4] [] 1 ⟨_, by rfl, hF⟩
    ·
     refine w_skip ?_
     refine blockQ_n ?_
     refine thenQ_n ?_
     refine w_reg 961 1153 rfl rfl ?_
     refine qp (AI v50005) rfl (qp (AI (w64 (v50005 + 1))) rfl (qp (AI (w64 (v50005 + 1))) rfl ?_))
     refine r_nil ?_
     refine thenQ_n ?_
     refine ar (l' := [(0, AL 2 (v0.map eNote)), (3, AS (v50006 ++ v1002)), (4, AI (w64 (v50005 + 1)))]) (L := []) [0, 3, 4] [] 1 ⟨_, by rfl, hF⟩
  ·
   refine w_exit ?_
   refine thenQ_e ?_
   refine thenQ_e ?_
   refine blockQ_e ?_
   refine thenQ_n ?_
   refine ws 257 385 ?_
   refine qp (AS v50004) rfl (qp (AS v50004) rfl ?_)
   refine r_nil ?_
   refine w_ret ?_
   cases hF
   exact eR

def c38 : MC := (.seq (.reg [rg 2 (.f (.nilrow 3)), rg 3 (.p true (.mv (.c (.int .i64 0))))]) (.seq (.seq (.reg [mvt 6 0, rg 7 (.call true 82 [(.t 6)]), rg 8 (.p true (.not (.t 7)))]) (.cond (.t 8) (.seq (.reg [rg 2 (.f (.nilrow 3)), rg 3 (.p true (.mv (.c (.int .i64 1))))]) .ret) .skip)) (.seq (.reg [rg 9 (.f (.bsl 3 [])), mvt 4 9]) (.seq (.seq (.reg [rg 5 (.p true (.mv (.c (.int .i64 0))))]) (.block 0 (.loop (.seq (.seq (.reg [mvt 10 5, mvt 11 0, rg 12 (.p true (.len (.t 11))), rg 13 (.p true (.bin .lss (.t 10) (.t 12)))]) (.cond (.t 13) .skip (.exit 0))) (.seq (.block 1 (.reg [rg 16 (.p false (.mv (.t 4))), rg 17 (.p false (.mv (.t 0))), rg 18 (.p false (.mv (.t 5))), rg 19 (.p false (.iad (.t 17) (.t 18) 2)), rg 20 (.p false (.fad (.t 19) 0)), rg 21 (.p false (.ld (.t 20) 1 false)), rg 22 (.p false (.mv (.t 0))), rg 23 (.p false (.mv (.t 5))), rg 24 (.p false (.iad (.t 22) (.t 23) 2)), rg 25 (.p false (.fad (.t 24) 1)), rg 26 (.p false (.ld (.t 25) 1 false)), rg 27 (.call false 83 [(.t 26)]), rg 28 (.f (.bld [((.str []), (0, true)), ((.str []), (0, true)), ((.str []), (0, true))] [(0, (1, (.c (.str [109, 101, 108, 111, 100, 121])))), (1, (1, (.t 21))), (2, (1, (.t 27)))])), rg 29 (.f (.bslp 3 [(.t 28)])), rg 30 (.f (.app (.t 16) (.t 29) 3 48 true)), rg 4 (.p false (.mv (.t 30)))])) (.reg [mvt 14 5, rg 15 (.p true (.bin .add (.t 14) (.c (.int .i64 1)))), mvt 5 15])))))) (.seq (.reg [mvt 31 4, mvt 2 31, rg 3 (.p true (.mv (.c (.int .i64 0))))]) .ret)))))
theorem c38_is : compFn Tryd.prog 38 = some (c38, [(.tmp 2), (.tmp 3)]) := by kernel_rfl
theorem c38_ok : okFn Tryd.prog 38 = true := by kernel_rfl

noncomputable def F_spec_BlocksOfLibrary_l0 (v0 : List TNamedMelody) (k1 : Int × (List TBlock) → Option ((List TBlock) × Int)) : Int × (List TBlock) → Option ((List TBlock) × Int)
 | (v50006, v50007) => (bif (decide (v50006 < (v0.length : Int))) then ((ix v0 v50006).bind fun v1009 => ((ix v0 v50006).bind fun v1010 => ((F_spec_l09Text v1010.2).bind fun v1011 => (need (room (v50007.length + ([([109, 101, 108, 111, 100, 121], v1009.1, v1011)] : List TBlock).length) 48) (k1 (w64 (v50006 + 1), v50007 ++ ([([109, 101, 108, 111, 100, 121], v1009.1, v1011)] : List TBlock)))))))
 else some (v50007, 0))
noncomputable def F_spec_BlocksOfLibrary (v0 : List TNamedMelody) : Option ((List TBlock) × Int) :=
 ((F_spec_l29Library v0).bind fun v1000 => (bif (!v1000) then some ([], 1)
 else loop (F_spec_BlocksOfLibrary_l0 v0) (0, [])))
@[simp] def res_spec_BlocksOfLibrary (r : (List TBlock) × Int) : RV := .tup [.one (.row true 3 (r.1.map eBlock)), .one (.val (.int .i64 r.2))]
theorem con_spec_BlocksOfLibrary {v0 : List TNamedMelody} {r : (List TBlock) × Int} (hF : F_spec_BlocksOfLibrary v0 = some r) : Con Tryd.prog 38 [.sl 2 (v0.map eNamedMelody)] (res_spec_BlocksOfLibrary r) := by
 unfold F_spec_BlocksOfLibrary at hF
 refine con_of c38_is fun N => ?_
 refine ws 0 128 ?_
 refine qf (.sl 0 0 0) [(0, .row true 3 (([] : List Int).map vI))] (by simp) ?_
 refine qp (AI 0) rfl ?_
 refine r_nil ?_
 refine w_seq ?_
 refine ws 128 320 ?_
 refine qp (AL 2 (v0.map eNamedMelody)) rfl ?_
 obtain ⟨v1000, e1000, hF⟩ := bind_get hF
 refine qc (AB v1000) [(0, .row true 3 (([] : List Int).map vI))] false (con_spec_l29Library e1000) c82_ok (by first | rfl | simp) rfl ?_
 refine qp (AB (!v1000)) rfl ?_
 refine r_nil ?_
 refine cF hF (fun hF => ?_) fun hF => ?_
 ·
  refine ws 320 448 ?_
  refine qf (.sl 320 0 0) [(320, .row true 3 (([] : List TBlock).map eBlock)), (0, .row true 3 (([] : List Int).map vI))] (by simp) ?_
  refine qp (AI 1) rfl ?_
  refine r_nil ?_
  refine w_ret ?_
  refine thenQ_r ?_
  cases hF
  exact eR
 ·
  refine w_skip ?_
  refine thenQ_n ?_
  refine ws 320 448 ?_
  refine qf (.sl 320 0 0) [(320, .row true 3 (([] : List TBlock).map eBlock)), (0, .row true 3 (([] : List Int).map vI))] (by simp [List.take_of_length_le]) ?_
  refine qp (.sl 320 0 0) rfl ?_
  refine r_nil ?_
  refine w_seq ?_
  refine ws 448 512 ?_
  refine qp (AI 0) rfl ?_
  refine r_nil ?_
  refine w_block ?_
  refine wr (l' := [(0, AL 2 (v0.map eNamedMelody)), (4, .sl 0 0 0), (5, AI 0)]) (L := [(0, .row true 3 (([] : List TBlock).map eBlock))]) [0, 4, 5] [(320, 0)] 1 ?_
  refine w_loopF (F_spec_BlocksOfLibrary_l0 v0) (fun s : Int × (List TBlock) => mkS [(0, AL 2 (v0.map eNamedMelody)), (4, .sl 0 0 s.2.length), (5, AI s.1)] (fo [(0, .row true 3 (s.2.map eBlock))]) 1) hF ?_
  rintro k1 ⟨v50006, v50007⟩ hF
  rw [F_spec_BlocksOfLibrary_l0] at hF
  try dsimp only
  refine w_seq ?_
  refine ws 1 257 ?_
  refine qp (AI v50006) rfl (qp (AL 2 (v0.map eNamedMelody)) rfl (qp (AI (v0.length : Int)) (ev_len_n rfl) (qp (AB (decide (v50006 < (v0.length : Int)))) rfl ?_)))
  refine r_nil ?_
  refine cF hF (fun hF => ?_) fun hF => ?_
  ·
   refine w_skip ?_
   refine thenQ_n ?_
   refine w_seq ?_
   refine w_block ?_
   refine w_reg 257 1281 rfl rfl ?_
   refine qp (.sl 0 0 v50007.length) rfl (qp (AL 2 (v0.map eNamedMelody)) rfl (qp (AI v50006) rfl ?_))
   obtain ⟨v1009, e1009, hF⟩ := bind_get hF
   refine qp (.val none (.ptr [.str v1009.1, .sl 2 (v1009.2.map eNote)])) (ev_iad_n rfl rfl e1009 rfl) (qp (.val none (.ptr [.str v1009.1, .sl 2 (v1009.2.map eNote)])) rfl (qp (AS v1009.1) rfl (qp (AL 2 (v0.map eNamedMelody)) rfl (qp (AI v50006) rfl ?_))))
   obtain ⟨v1010, e1010, hF⟩ := bind_get hF
   refine qp (.val none (.ptr [.str v1010.1, .sl 2 (v1010.2.map eNote)])) (ev_iad_n rfl rfl e1010 rfl) (qp (.val none (.ptr [.sl 2 (v1010.2.map eNote)])) rfl (qp (AL 2 (v1010.2.map eNote)) rfl ?_))
   obtain ⟨v1011, e1011, hF⟩ := bind_get hF
   refine qc (AS v1011) [(0, .row true 3 (v50007.map eBlock))] false (con_spec_l09Text e1011) c83_ok (by first | rfl | simp) rfl ?_
   refine qf (.agg [AS [109, 101, 108, 111, 100, 121], AS v1009.1, AS v1011]) [(0, .row true 3 (v50007.map eBlock))] (by simp) ?_
   refine qf (.sl 1089 0 (([([109, 101, 108, 111, 100, 121], v1009.1, v1011)] : List TBlock).length)) [(1089, .row true 3 (([([109, 101, 108, 111, 100, 121], v1009.1, v1011)] : List TBlock).map eBlock)), (0, .row true 3 (v50007.map eBlock))] (by simp [List.take_of_length_le]) ?_
   obtain ⟨g1012, hF⟩ := need_some hF
   refine qf (.sl 1153 0 ((v50007 ++ ([([109, 101, 108, 111, 100, 121], v1009.1, v1011)] : List TBlock)).length)) [(1153, .row true 3 ((v50007 ++ ([([109, 101, 108, 111, 100, 121], v1009.1, v1011)] : List TBlock)).map eBlock)), (0, .dead), (1089, .dead), (1089, .row true 3 (([([109, 101, 108, 111, 100, 121], v1009.1, v1011)] : List TBlock).map eBlock)), (0, .row true 3 (v50007.map eBlock))] (effT_app_l rfl (by simp) rfl rfl (by simp) rfl (by decide) g1012 rfl) ?_
   refine qp (.sl 1153 0 ((v50007 ++ ([([109, 101, 108, 111, 100, 121], v1009.1, v1011)] : List TBlock)).length)) rfl ?_
   refine r_nil ?_
   refine blockQ_n ?_
   refine thenQ_n ?_
   refine w_reg 1281 1473 rfl rfl ?_
   refine qp (AI v50006) rfl (qp (AI (w64 (v50006 + 1))) rfl (qp (AI (w64 (v50006 + 1))) rfl ?_))
   refine r_nil ?_
   refine thenQ_n ?_
   refine ar (l' := [(0, AL 2 (v0.map eNamedMelody)), (4, .sl 0 0 (v50007 ++ ([([109, 101, 108, 111, 100, 121], v1009.1, v1011)] : List TBlock)).length), (5, AI (w64 (v50006 + 1)))]) (L := [(0, .row true 3 ((v50007 ++ ([([109, 101, 108, 111, 100, 121], v1009.1, v1011)] : List TBlock)).map eBlock))]) [0, 4, 5] [(1153, 0)] 1 ⟨_, by rfl, hF⟩
  ·
   refine w_exit ?_
   refine thenQ_e ?_
   refine thenQ_e ?_
   refine blockQ_e ?_
   refine thenQ_n ?_
   refine ws 257 449 ?_
   refine qp (.sl 0 0 v50007.length) rfl (qp (.sl 0 0 v50007.length) rfl (qp (AI 0) rfl ?_))
   refine r_nil ?_
   refine w_ret ?_
   cases hF
   exact eR

def c137 : MC := (.seq (.reg [rg 2 (.p true (.mv (.c (.bool false))))]) (.seq (.seq (.reg [mvt 5 0, rg 6 (.p true (.lens (.t 5))), rg 7 (.p true (.mv (.c (.int .i64 0))))]) (.block 0 (.loop (.seq (.reg [rg 8 (.p true (.bin .lss (.t 7) (.t 6)))]) (.seq (.cond (.t 8) .skip (.exit 0)) (.seq (.block 1 (.seq (.reg [mvt 9 7, mvt 3 9]) (.seq (.reg [mvt 10 0, mvt 11 3, rg 12 (.p true (.ixs (.t 10) (.t 11))), mvt 4 12]) (.seq (.reg [mvt 13 4, rg 14 (.p true (.bin .lss (.t 13) (.c (.int .u8 97)))), mvt 15 14, ⟨(some 16), (some (15, false)), (.p true (.mv (.t 4)))⟩, ⟨(some 17), (some (15, false)), (.p true (.bin .gtr (.t 16) (.c (.int .u8 122))))⟩, rg 18 (.p true (.pick (.t 15) (.c (.bool true)) (.t 17))), mvt 19 18, ⟨(some 20), (some (19, true)), (.p true (.mv (.t 4)))⟩, ⟨(some 21), (some (19, true)), (.p true (.bin .lss (.t 20) (.c (.int .u8 48))))⟩, ⟨(some 22), (some (19, true)), (.p true (.mv (.t 21)))⟩, ⟨(some 23), (some (22, false)), (.p true (.mv (.t 4)))⟩, ⟨(some 24), (some (22, false)), (.p true (.bin .gtr (.t 23) (.c (.int .u8 57))))⟩, ⟨(some 25), (some (19, true)), (.p true (.pick (.t 22) (.c (.bool true)) (.t 24)))⟩, rg 26 (.p true (.pick (.t 19) (.t 25) (.c (.bool false))))]) (.cond (.t 26) (.seq (.reg [rg 2 (.p true (.mv (.c (.bool false))))]) .ret) .skip))))) (.reg [rg 27 (.p true (.bin .add (.t 7) (.c (.int .i64 1)))), mvt 7 27]))))))) (.seq (.reg [rg 2 (.p true (.mv (.c (.bool true))))]) .ret)))
theorem c137_is : compFn Tryd.prog 137 = some (c137, [(.tmp 2)]) := by kernel_rfl
theorem c137_ok : okFn Tryd.prog 137 = true := by kernel_rfl

noncomputable def F_impl_onlyNameBytes_l0 (v0 : List UInt8) (k0 : Int → Option (Bool)) : Int → Option (Bool)
 | v50001 => (bif (decide (v50001 < (v0.length : Int))) then ((ix v0 v50001).bind fun v1000 => (bif (decide ((v1000.toNat : Int) < (97 : Int))) then (bif (decide ((v1000.toNat : Int) < (48 : Int))) then some false
 else (bif (decide ((57 : Int) < (v1000.toNat : Int))) then some false
 else k0 (w64 (v50001 + 1))))
 else (bif (decide ((122 : Int) < (v1000.toNat : Int))) then (bif (decide ((v1000.toNat : Int) < (48 : Int))) then some false
 else (bif (decide ((57 : Int) < (v1000.toNat : Int))) then some false
 else k0 (w64 (v50001 + 1))))
 else k0 (w64 (v50001 + 1)))))
 else some true)
noncomputable def F_impl_onlyNameBytes (v0 : List UInt8) : Option (Bool) :=
 loop (F_impl_onlyNameBytes_l0 v0) 0
@[simp] def res_impl_onlyNameBytes (r : Bool) : RV := .one (.one (.val (.bool r)))
theorem con_impl_onlyNameBytes {v0 : List UInt8} {r : Bool} (hF : F_impl_onlyNameBytes v0 = some r) : Con Tryd.prog 137 [.str v0] (res_impl_onlyNameBytes r) := by
 unfold F_impl_onlyNameBytes at hF
 refine con_of c137_is fun N => ?_
 refine ws 0 64 ?_
 refine qp (AB false) rfl ?_
 refine r_nil ?_
 refine w_seq ?_
 refine ws 64 256 ?_
 refine qp (AS v0) rfl (qp (AI (v0.length : Int)) rfl (qp (AI 0) rfl ?_))
 refine r_nil ?_
 refine w_block ?_
 refine wr (l' := [(0, AS v0), (6, AI (v0.length : Int)), (7, AI 0)]) (L := []) [0, 6, 7] [] 1 ?_
 refine w_loopF (F_impl_onlyNameBytes_l0 v0) (fun s : Int => mkS [(0, AS v0), (6, AI (v0.length : Int)), (7, AI s)] (fo []) 1) hF ?_
 rintro k0 v50001 hF
 rw [F_impl_onlyNameBytes_l0] at hF
 try dsimp only
 refine ws 1 65 ?_
 refine qp (AB (decide (v50001 < (v0.length : Int)))) rfl ?_
 refine r_nil ?_
 refine w_seq ?_
 refine cF hF (fun hF => ?_) fun hF => ?_
 ·
  refine w_skip ?_
  refine thenQ_n ?_
  refine w_seq ?_
  refine w_block ?_
  refine ws 65 193 ?_
  refine qp (AI v50001) rfl (qp (AI v50001) rfl ?_)
  refine r_nil ?_
  refine ws 193 449 ?_
  refine qp (AS v0) rfl (qp (AI v50001) rfl ?_)
  obtain ⟨v1000, e1000, hF⟩ := bind_get hF
  refine qp (.val none (.int .u8 (v1000.toNat : Int))) (ev_ixs rfl rfl e1000) (qp (.val none (.int .u8 (v1000.toNat : Int))) rfl ?_)
  refine r_nil ?_
  refine ws 449 1345 ?_
  refine qp (.val none (.int .u8 (v1000.toNat : Int))) rfl (qp (AB (decide ((v1000.toNat : Int) < (97 : Int)))) rfl (qp (AB (decide ((v1000.toNat : Int) < (97 : Int)))) rfl ?_))
  refine q_case 15 hF rfl (fun hF => ?_) (fun hF => ?_)
  ·
   refine qn rfl (qn rfl (qp (AB true) rfl (qp (AB true) rfl (qg (.val none (.int .u8 (v1000.toNat : Int))) rfl rfl (qg (AB (decide ((v1000.toNat : Int) < (48 : Int)))) rfl rfl (qg (AB (decide ((v1000.toNat : Int) < (48 : Int)))) rfl rfl ?_))))))
   refine q_case 22 hF rfl (fun hF => ?_) (fun hF => ?_)
   ·
    refine qn rfl (qn rfl (qg (AB true) rfl rfl (qp (AB true) rfl ?_)))
    refine r_nil ?_
    refine w_true rfl ?_
    refine ws 1345 1409 ?_
    refine qp (AB false) rfl ?_
    refine r_nil ?_
    refine w_ret ?_
    refine blockQ_r ?_
    refine thenQ_r ?_
    refine thenQ_r ?_
    refine blockQ_r ?_
    refine thenQ_r ?_
    cases hF
    exact eR
   ·
    refine qg (.val none (.int .u8 (v1000.toNat : Int))) rfl rfl (qg (AB (decide ((57 : Int) < (v1000.toNat : Int)))) rfl rfl (qg (AB (decide ((57 : Int) < (v1000.toNat : Int)))) rfl rfl (qp (AB (decide ((57 : Int) < (v1000.toNat : Int)))) rfl ?_)))
    refine r_nil ?_
    refine cF hF (fun hF => ?_) fun hF => ?_
    ·
     refine ws 1345 1409 ?_
     refine qp (AB false) rfl ?_
     refine r_nil ?_
     refine w_ret ?_
     refine blockQ_r ?_
     refine thenQ_r ?_
     refine thenQ_r ?_
     refine blockQ_r ?_
     refine thenQ_r ?_
     cases hF
     exact eR
    ·
     refine w_skip ?_
     refine blockQ_n ?_
     refine thenQ_n ?_
     refine w_reg 1345 1473 rfl rfl ?_
     refine qp (AI (w64 (v50001 + 1))) rfl (qp (AI (w64 (v50001 + 1))) rfl ?_)
     refine r_nil ?_
     refine thenQ_n ?_
     refine ar (l' := [(0, AS v0), (6, AI (v0.length : Int)), (7, AI (w64 (v50001 + 1)))]) (L := []) [0, 6, 7] [] 1 ⟨_, by rfl, hF⟩
  ·
   refine qg (.val none (.int .u8 (v1000.toNat : Int))) rfl rfl (qg (AB (decide ((122 : Int) < (v1000.toNat : Int)))) rfl rfl (qp (AB (decide ((122 : Int) < (v1000.toNat : Int)))) rfl (qp (AB (decide ((122 : Int) < (v1000.toNat : Int)))) rfl ?_)))
   refine q_case 19 hF rfl (fun hF => ?_) (fun hF => ?_)
   ·
    refine qg (.val none (.int .u8 (v1000.toNat : Int))) rfl rfl (qg (AB (decide ((v1000.toNat : Int) < (48 : Int)))) rfl rfl (qg (AB (decide ((v1000.toNat : Int) < (48 : Int)))) rfl rfl ?_))
    refine q_case 22 hF rfl (fun hF => ?_) (fun hF => ?_)
    ·
     refine qn rfl (qn rfl (qg (AB true) rfl rfl (qp (AB true) rfl ?_)))
     refine r_nil ?_
     refine w_true rfl ?_
     refine ws 1345 1409 ?_
     refine qp (AB false) rfl ?_
     refine r_nil ?_
     refine w_ret ?_
     refine blockQ_r ?_
     refine thenQ_r ?_
     refine thenQ_r ?_
     refine blockQ_r ?_
     refine thenQ_r ?_
     cases hF
     exact eR
    ·
     refine qg (.val none (.int .u8 (v1000.toNat : Int))) rfl rfl (qg (AB (decide ((57 : Int) < (v1000.toNat : Int)))) rfl rfl (qg (AB (decide ((57 : Int) < (v1000.toNat : Int)))) rfl rfl (qp (AB (decide ((57 : Int) < (v1000.toNat : Int)))) rfl ?_)))
     refine r_nil ?_
     refine cF hF (fun hF => ?_) fun hF => ?_
     ·
      refine ws 1345 1409 ?_
      refine qp (AB false) rfl ?_
      refine r_nil ?_
      refine w_ret ?_
      refine blockQ_r ?_
      refine thenQ_r ?_
      refine thenQ_r ?_
      refine blockQ_r ?_
      refine thenQ_r ?_
      cases hF
      exact eR
     ·
      refine w_skip ?_
      refine blockQ_n ?_
      refine thenQ_n ?_
      refine w_reg 1345 1473 rfl rfl ?_
      refine qp (AI (w64 (v50001 + 1))) rfl (qp (AI (w64 (v50001 + 1))) rfl ?_)
      refine r_nil ?_
      refine thenQ_n ?_
      refine ar (l' := [(0, AS v0), (6, AI (v0.length : Int)), (7, AI (w64 (v50001 + 1)))]) (L := []) [0, 6, 7] [] 1 ⟨_, by rfl, hF⟩
   ·
    refine qn rfl (qn rfl (qn rfl (qu rfl (qu rfl (qn rfl (qp (AB false) rfl ?_))))))
    refine r_nil ?_
    refine w_false rfl ?_
    refine w_skip ?_
    refine blockQ_n ?_
    refine thenQ_n ?_
    refine w_reg 1345 1473 rfl rfl ?_
    refine qp (AI (w64 (v50001 + 1))) rfl (qp (AI (w64 (v50001 + 1))) rfl ?_)
    refine r_nil ?_
    refine thenQ_n ?_
    refine ar (l' := [(0, AS v0), (6, AI (v0.length : Int)), (7, AI (w64 (v50001 + 1)))]) (L := []) [0, 6, 7] [] 1 ⟨_, by rfl, hF⟩
 ·
  refine w_exit ?_
  refine thenQ_e ?_
  refine thenQ_e ?_
  refine blockQ_e ?_
  refine thenQ_n ?_
  refine ws 65 129 ?_
  refine qp (AB true) rfl ?_
  refine r_nil ?_
  refine w_ret ?_
  cases hF
  exact eR

def c102 : MC := (.seq (.reg [rg 2 (.p true (.mv (.c (.bool false))))]) (.seq (.seq (.reg [mvt 3 0, rg 4 (.p true (.lens (.t 3))), rg 5 (.p true (.bin .lss (.t 4) (.c (.int .i64 1)))), mvt 6 5, ⟨(some 7), (some (6, false)), (.p true (.mv (.t 0)))⟩, ⟨(some 8), (some (6, false)), (.p true (.lens (.t 7)))⟩, ⟨(some 9), (some (6, false)), (.p true (.bin .gtr (.t 8) (.c (.int .i64 10))))⟩, rg 10 (.p true (.pick (.t 6) (.c (.bool true)) (.t 9))), mvt 11 10, ⟨(some 12), (some (11, false)), (.p true (.mv (.t 0)))⟩, ⟨(some 13), (some (11, false)), (.p true (.ixs (.t 12) (.c (.int .i64 0))))⟩, ⟨(some 14), (some (11, false)), (.p true (.bin .lss (.t 13) (.c (.int .u8 97))))⟩, rg 15 (.p true (.pick (.t 11) (.c (.bool true)) (.t 14))), mvt 16 15, ⟨(some 17), (some (16, false)), (.p true (.mv (.t 0)))⟩, ⟨(some 18), (some (16, false)), (.p true (.ixs (.t 17) (.c (.int .i64 0))))⟩, ⟨(some 19), (some (16, false)), (.p true (.bin .gtr (.t 18) (.c (.int .u8 122))))⟩, rg 20 (.p true (.pick (.t 16) (.c (.bool true)) (.t 19)))]) (.cond (.t 20) (.seq (.reg [rg 2 (.p true (.mv (.c (.bool false))))]) .ret) .skip)) (.seq (.reg [mvt 21 0, rg 22 (.call true 137 [(.t 21)]), mvt 2 22]) .ret)))
theorem c102_is : compFn Tryd.prog 102 = some (c102, [(.tmp 2)]) := by kernel_rfl
theorem c102_ok : okFn Tryd.prog 102 = true := by kernel_rfl

noncomputable def F_impl_IsName (v0 : List UInt8) : Option (Bool) :=
 (bif (decide ((v0.length : Int) < (1 : Int))) then some false
 else (bif (decide ((10 : Int) < (v0.length : Int))) then some false
 else ((ix v0 0).bind fun v1000 => (bif (decide ((v1000.toNat : Int) < (97 : Int))) then some false
 else ((ix v0 0).bind fun v1001 => (bif (decide ((122 : Int) < (v1001.toNat : Int))) then some false
 else ((F_impl_onlyNameBytes v0).bind fun v1002 => some v1002)))))))
@[simp] def res_impl_IsName (r : Bool) : RV := .one (.one (.val (.bool r)))
theorem con_impl_IsName {v0 : List UInt8} {r : Bool} (hF : F_impl_IsName v0 = some r) : Con Tryd.prog 102 [.str v0] (res_impl_IsName r) := by
 unfold F_impl_IsName at hF
 refine con_of c102_is fun N => ?_
 refine ws 0 64 ?_
 refine qp (AB false) rfl ?_
 refine r_nil ?_
 refine w_seq ?_
 refine ws 64 1216 ?_
 refine qp (AS v0) rfl (qp (AI (v0.length : Int)) rfl (qp (AB (decide ((v0.length : Int) < (1 : Int)))) rfl (qp (AB (decide ((v0.length : Int) < (1 : Int)))) rfl ?_)))
 refine q_case 6 hF rfl (fun hF => ?_) (fun hF => ?_)
 ·
  refine qn rfl (qn rfl (qn rfl (qp (AB true) rfl (qp (AB true) rfl (qn rfl (qn rfl (qn rfl ?_)))))))
  refine qp (AB true) rfl (qp (AB true) rfl (qn rfl (qn rfl (qn rfl (qp (AB true) rfl ?_)))))
  refine r_nil ?_
  refine w_true rfl ?_
  refine ws 1216 1280 ?_
  refine qp (AB false) rfl ?_
  refine r_nil ?_
  refine w_ret ?_
  refine thenQ_r ?_
  cases hF
  exact eR
 ·
  refine qg (AS v0) rfl rfl (qg (AI (v0.length : Int)) rfl rfl (qg (AB (decide ((10 : Int) < (v0.length : Int)))) rfl rfl (qp (AB (decide ((10 : Int) < (v0.length : Int)))) rfl (qp (AB (decide ((10 : Int) < (v0.length : Int)))) rfl ?_))))
  refine q_case 11 hF rfl (fun hF => ?_) (fun hF => ?_)
  ·
   refine qn rfl (qn rfl (qn rfl (qp (AB true) rfl (qp (AB true) rfl (qn rfl (qn rfl (qn rfl ?_)))))))
   refine qp (AB true) rfl ?_
   refine r_nil ?_
   refine w_true rfl ?_
   refine ws 1216 1280 ?_
   refine qp (AB false) rfl ?_
   refine r_nil ?_
   refine w_ret ?_
   refine thenQ_r ?_
   cases hF
   exact eR
  ·
   refine qg (AS v0) rfl rfl ?_
   obtain ⟨v1000, e1000, hF⟩ := bind_get hF
   refine qg (.val none (.int .u8 (v1000.toNat : Int))) rfl (ev_ixs rfl rfl e1000) (qg (AB (decide ((v1000.toNat : Int) < (97 : Int)))) rfl rfl (qp (AB (decide ((v1000.toNat : Int) < (97 : Int)))) rfl (qp (AB (decide ((v1000.toNat : Int) < (97 : Int)))) rfl ?_)))
   refine q_case 16 hF rfl (fun hF => ?_) (fun hF => ?_)
   ·
    refine qn rfl (qn rfl (qn rfl (qp (AB true) rfl ?_)))
    refine r_nil ?_
    refine w_true rfl ?_
    refine ws 1216 1280 ?_
    refine qp (AB false) rfl ?_
    refine r_nil ?_
    refine w_ret ?_
    refine thenQ_r ?_
    cases hF
    exact eR
   ·
    refine qg (AS v0) rfl rfl ?_
    obtain ⟨v1001, e1001, hF⟩ := bind_get hF
    refine qg (.val none (.int .u8 (v1001.toNat : Int))) rfl (ev_ixs rfl rfl e1001) (qg (AB (decide ((122 : Int) < (v1001.toNat : Int)))) rfl rfl (qp (AB (decide ((122 : Int) < (v1001.toNat : Int)))) rfl ?_))
    refine r_nil ?_
    refine cF hF (fun hF => ?_) fun hF => ?_
    ·
     refine ws 1216 1280 ?_
     refine qp (AB false) rfl ?_
     refine r_nil ?_
     refine w_ret ?_
     refine thenQ_r ?_
     cases hF
     exact eR
    ·
     refine w_skip ?_
     refine thenQ_n ?_
     refine ws 1216 1408 ?_
     refine qp (AS v0) rfl ?_
     obtain ⟨v1002, e1002, hF⟩ := bind_get hF
     refine qc (AB v1002) [] false (con_impl_onlyNameBytes e1002) c137_ok (by first | rfl | simp) rfl ?_
     refine qp (AB v1002) rfl ?_
     refine r_nil ?_
     refine w_ret ?_
     cases hF
     exact eR

def c103 : MC := (.seq (.reg [rg 6 (.p true (.mv (.c (.bool false))))]) (.seq (.reg [mvt 7 0, mvt 8 1, rg 9 (.p true (.bin .geq (.t 7) (.t 8))), mvt 10 9, ⟨(some 11), (some (10, true)), (.p true (.mv (.t 0)))⟩, ⟨(some 12), (some (10, true)), (.p true (.mv (.t 2)))⟩, ⟨(some 13), (some (10, true)), (.p true (.bin .leq (.t 11) (.t 12)))⟩, rg 14 (.p true (.pick (.t 10) (.t 13) (.c (.bool false)))), mvt 6 14]) .ret))
theorem c103_is : compFn Tryd.prog 103 = some (c103, [(.tmp 6)]) := by kernel_rfl
theorem c103_ok : okFn Tryd.prog 103 = true := by kernel_rfl

noncomputable def F_impl_within (v0 : Int) (v1 : Int) (v2 : Int) : Option (Bool) :=
 (bif (decide (v1 ≤ v0)) then some (decide (v0 ≤ v2))
 else some false)
@[simp] def res_impl_within (r : Bool) : RV := .one (.one (.val (.bool r)))
theorem con_impl_within {v0 : Int} {v1 : Int} {v2 : Int} {r : Bool} (hF : F_impl_within v0 v1 v2 = some r) : Con Tryd.prog 103 [.int .i64 v0, .int .i64 v1, .int .i64 v2] (res_impl_within r) := by
 unfold F_impl_within at hF
 refine con_of c103_is fun N => ?_
 refine ws 0 64 ?_
 refine qp (AB false) rfl ?_
 refine r_nil ?_
 refine ws 64 640 ?_
 refine qp (AI v0) rfl (qp (AI v1) rfl (qp (AB (decide (v1 ≤ v0))) rfl (qp (AB (decide (v1 ≤ v0))) rfl ?_)))
 refine q_case 10 hF rfl (fun hF => ?_) (fun hF => ?_)
 ·
  refine qg (AI v0) rfl rfl (qg (AI v2) rfl rfl (qg (AB (decide (v0 ≤ v2))) rfl rfl (qp (AB (decide (v0 ≤ v2))) rfl (qp (AB (decide (v0 ≤ v2))) rfl ?_))))
  refine r_nil ?_
  refine w_ret ?_
  cases hF
  exact eR
 ·
  refine qn rfl (qn rfl (qn rfl (qp (AB false) rfl (qp (AB false) rfl ?_))))
  refine r_nil ?_
  refine w_ret ?_
  cases hF
  exact eR

def c164 : MC := (.seq (.reg [rg 2 (.p true (.mv (.c (.bool false))))]) (.seq (.reg [mvt 3 0, rg 4 (.call true 103 [(.t 3), (.c (.int .i64 (-12))), (.c (.int .i64 23))]), mvt 2 4]) .ret))
theorem c164_is : compFn Tryd.prog 164 = some (c164, [(.tmp 2)]) := by kernel_rfl
theorem c164_ok : okFn Tryd.prog 164 = true := by kernel_rfl

noncomputable def F_impl_pitchOk (v0 : Int) : Option (Bool) :=
 ((F_impl_within v0 (-12) 23).bind fun v1000 => some v1000)
@[simp] def res_impl_pitchOk (r : Bool) : RV := .one (.one (.val (.bool r)))
theorem con_impl_pitchOk {v0 : Int} {r : Bool} (hF : F_impl_pitchOk v0 = some r) : Con Tryd.prog 164 [.int .i64 v0] (res_impl_pitchOk r) := by
 unfold F_impl_pitchOk at hF
 refine con_of c164_is fun N => ?_
 refine ws 0 64 ?_
 refine qp (AB false) rfl ?_
 refine r_nil ?_
 refine ws 64 256 ?_
 refine qp (AI v0) rfl ?_
 obtain ⟨v1000, e1000, hF⟩ := bind_get hF
 refine qc (AB v1000) [] false (con_impl_within e1000) c103_ok (by first | rfl | simp) rfl ?_
 refine qp (AB v1000) rfl ?_
 refine r_nil ?_
 refine w_ret ?_
 cases hF
 exact eR

def c165 : MC := (.seq (.reg [rg 2 (.p true (.mv (.c (.bool false))))]) (.seq (.reg [mvt 3 0, rg 4 (.call true 103 [(.t 3), (.c (.int .i64 1)), (.c (.int .i64 64))]), mvt 2 4]) .ret))
theorem c165_is : compFn Tryd.prog 165 = some (c165, [(.tmp 2)]) := by kernel_rfl
theorem c165_ok : okFn Tryd.prog 165 = true := by kernel_rfl

noncomputable def F_impl_lengthOk (v0 : Int) : Option (Bool) :=
 ((F_impl_within v0 1 64).bind fun v1000 => some v1000)
@[simp] def res_impl_lengthOk (r : Bool) : RV := .one (.one (.val (.bool r)))
theorem con_impl_lengthOk {v0 : Int} {r : Bool} (hF : F_impl_lengthOk v0 = some r) : Con Tryd.prog 165 [.int .i64 v0] (res_impl_lengthOk r) := by
 unfold F_impl_lengthOk at hF
 refine con_of c165_is fun N => ?_
 refine ws 0 64 ?_
 refine qp (AB false) rfl ?_
 refine r_nil ?_
 refine ws 64 256 ?_
 refine qp (AI v0) rfl ?_
 obtain ⟨v1000, e1000, hF⟩ := bind_get hF
 refine qc (AB v1000) [] false (con_impl_within e1000) c103_ok (by first | rfl | simp) rfl ?_
 refine qp (AB v1000) rfl ?_
 refine r_nil ?_
 refine w_ret ?_
 cases hF
 exact eR

def c129 : MC := (.seq (.reg [rg 2 (.p true (.mv (.c (.bool false))))]) (.seq (.seq (.reg [mvt 5 0, rg 6 (.p true (.len (.t 5))), rg 7 (.p true (.bin .gtr (.t 6) (.c (.int .i64 48))))]) (.cond (.t 7) (.seq (.reg [rg 2 (.p true (.mv (.c (.bool false))))]) .ret) .skip)) (.seq (.seq (.reg [mvt 8 0, rg 9 (.p true (.len (.t 8))), rg 10 (.p true (.mv (.c (.int .i64 0))))]) (.block 0 (.loop (.seq (.reg [rg 11 (.p true (.bin .lss (.t 10) (.t 9)))]) (.seq (.cond (.t 11) .skip (.exit 0)) (.seq (.block 1 (.seq (.reg [rg 12 (.p true (.iad (.t 8) (.t 10) 2)), rg 13 (.p true (.ld (.t 12) 2 true)), rg 4 (.f (.alloc [((.int .i64 0), (0, false)), ((.int .i64 0), (0, false))])), ⟨none, none, (.f (.st (.t 4) (.t 13) 2))⟩]) (.seq (.reg [rg 14 (.p true (.fad (.t 4) 0)), rg 15 (.p true (.ld (.t 14) 1 false)), rg 16 (.call true 164 [(.t 15)]), rg 17 (.p true (.not (.t 16))), mvt 18 17, ⟨(some 19), (some (18, false)), (.p true (.fad (.t 4) 1))⟩, ⟨(some 20), (some (18, false)), (.p true (.ld (.t 19) 1 false))⟩, ⟨(some 21), (some (18, false)), (.call true 165 [(.t 20)])⟩, ⟨(some 22), (some (18, false)), (.p true (.not (.t 21)))⟩, rg 23 (.p true (.pick (.t 18) (.c (.bool true)) (.t 22)))]) (.cond (.t 23) (.seq (.reg [rg 2 (.p true (.mv (.c (.bool false))))]) .ret) .skip)))) (.reg [rg 24 (.p true (.bin .add (.t 10) (.c (.int .i64 1)))), mvt 10 24]))))))) (.seq (.reg [rg 2 (.p true (.mv (.c (.bool true))))]) .ret))))
theorem c129_is : compFn Tryd.prog 129 = some (c129, [(.tmp 2)]) := by kernel_rfl
theorem c129_ok : okFn Tryd.prog 129 = true := by kernel_rfl

noncomputable def F_impl_ValidMelody_l0 (v0 : List TNote) (k0 : Int → Option (Bool)) : Int → Option (Bool)
 | v50001 => (bif (decide (v50001 < (v0.length : Int))) then ((ix v0 v50001).bind fun v1000 => ((F_impl_pitchOk v1000.1).bind fun v1001 => (bif (!v1001) then some false
 else ((F_impl_lengthOk v1000.2).bind fun v1002 => (bif (!v1002) then some false
 else k0 (w64 (v50001 + 1)))))))
 else some true)
noncomputable def F_impl_ValidMelody (v0 : List TNote) : Option (Bool) :=
 (bif (decide ((48 : Int) < (v0.length : Int))) then some false
 else loop (F_impl_ValidMelody_l0 v0) 0)
@[simp] def res_impl_ValidMelody (r : Bool) : RV := .one (.one (.val (.bool r)))
theorem con_impl_ValidMelody {v0 : List TNote} {r : Bool} (hF : F_impl_ValidMelody v0 = some r) : Con Tryd.prog 129 [.sl 2 (v0.map eNote)] (res_impl_ValidMelody r) := by
 unfold F_impl_ValidMelody at hF
 refine con_of c129_is fun N => ?_
 refine ws 0 64 ?_
 refine qp (AB false) rfl ?_
 refine r_nil ?_
 refine w_seq ?_
 refine ws 64 256 ?_
 refine qp (AL 2 (v0.map eNote)) rfl (qp (AI (v0.length : Int)) (ev_len_n rfl) (qp (AB (decide ((48 : Int) < (v0.length : Int)))) rfl ?_))
 refine r_nil ?_
 refine cF hF (fun hF => ?_) fun hF => ?_
 ·
  refine ws 256 320 ?_
  refine qp (AB false) rfl ?_
  refine r_nil ?_
  refine w_ret ?_
  refine thenQ_r ?_
  cases hF
  exact eR
 ·
  refine w_skip ?_
  refine thenQ_n ?_
  refine w_seq ?_
  refine ws 256 448 ?_
  refine qp (AL 2 (v0.map eNote)) rfl (qp (AI (v0.length : Int)) (ev_len_n rfl) (qp (AI 0) rfl ?_))
  refine r_nil ?_
  refine w_block ?_
  refine wr (l' := [(8, AL 2 (v0.map eNote)), (9, AI (v0.length : Int)), (10, AI 0)]) (L := []) [8, 9, 10] [] 1 ?_
  refine w_loopF (F_impl_ValidMelody_l0 v0) (fun s : Int => mkS [(8, AL 2 (v0.map eNote)), (9, AI (v0.length : Int)), (10, AI s)] (fo []) 1) hF ?_
  rintro k0 v50001 hF
  rw [F_impl_ValidMelody_l0] at hF
  try dsimp only
  refine ws 1 65 ?_
  refine qp (AB (decide (v50001 < (v0.length : Int)))) rfl ?_
  refine r_nil ?_
  refine w_seq ?_
  refine cF hF (fun hF => ?_) fun hF => ?_
  ·
   refine w_skip ?_
   refine thenQ_n ?_
   refine w_seq ?_
   refine w_block ?_
   refine ws 65 321 ?_
   obtain ⟨v1000, e1000, hF⟩ := bind_get hF
   refine qp (.val none (.ptr [.int .i64 v1000.1, .int .i64 v1000.2])) (ev_iad_n rfl rfl e1000 rfl) (qp (.val none (eNote v1000)) rfl ?_)
   refine qf (.ptr 193 0 0) [(193, .box [AI 0, AI 0])] (by simp) ?_
   refine qf0 (.undef) [(193, .box [AI v1000.1, AI v1000.2]), (193, .box [AI 0, AI 0])] (by simp) ?_
   refine r_nil ?_
   refine ws 321 961 ?_
   refine qp (.ptr 193 0 0) rfl (qp (AI v1000.1) rfl ?_)
   obtain ⟨v1001, e1001, hF⟩ := bind_get hF
   refine qc (AB v1001) [(193, .box [AI v1000.1, AI v1000.2]), (193, .box [AI 0, AI 0])] false (con_impl_pitchOk e1001) c164_ok (by first | rfl | simp) rfl ?_
   refine qp (AB (!v1001)) rfl (qp (AB (!v1001)) rfl ?_)
   refine q_case 18 hF rfl (fun hF => ?_) (fun hF => ?_)
   ·
    refine qn rfl (qn rfl (qn rfl (qn rfl (qp (AB true) rfl ?_))))
    refine r_nil ?_
    refine w_true rfl ?_
    refine ws 961 1025 ?_
    refine qp (AB false) rfl ?_
    refine r_nil ?_
    refine w_ret ?_
    refine blockQ_r ?_
    refine thenQ_r ?_
    refine thenQ_r ?_
    refine blockQ_r ?_
    refine thenQ_r ?_
    cases hF
    exact eR
   ·
    refine qg (.ptr 193 0 1) rfl rfl (qg (AI v1000.2) rfl rfl ?_)
    obtain ⟨v1002, e1002, hF⟩ := bind_get hF
    refine qcg (AB v1002) [(193, .box [AI v1000.1, AI v1000.2]), (193, .box [AI 0, AI 0])] false rfl (con_impl_lengthOk e1002) c165_ok (by first | rfl | simp) rfl ?_
    refine qg (AB (!v1002)) rfl rfl (qp (AB (!v1002)) rfl ?_)
    refine r_nil ?_
    refine cF hF (fun hF => ?_) fun hF => ?_
    ·
     refine ws 961 1025 ?_
     refine qp (AB false) rfl ?_
     refine r_nil ?_
     refine w_ret ?_
     refine blockQ_r ?_
     refine thenQ_r ?_
     refine thenQ_r ?_
     refine blockQ_r ?_
     refine thenQ_r ?_
     cases hF
     exact eR
    ·
     refine w_skip ?_
     refine blockQ_n ?_
     refine thenQ_n ?_
     refine w_reg 961 1089 rfl rfl ?_
     refine qp (AI (w64 (v50001 + 1))) rfl (qp (AI (w64 (v50001 + 1))) rfl ?_)
     refine r_nil ?_
     refine thenQ_n ?_
     refine ar (l' := [(8, AL 2 (v0.map eNote)), (9, AI (v0.length : Int)), (10, AI (w64 (v50001 + 1)))]) (L := []) [8, 9, 10] [] 1 ⟨_, by rfl, hF⟩
  ·
   refine w_exit ?_
   refine thenQ_e ?_
   refine thenQ_e ?_
   refine blockQ_e ?_
   refine thenQ_n ?_
   refine ws 65 129 ?_
   refine qp (AB true) rfl ?_
   refine r_nil ?_
   refine w_ret ?_
   cases hF
   exact eR

def c85 : MC := (.seq (.reg [rg 2 (.p true (.mv (.c (.bool false))))]) (.seq (.seq (.reg [mvt 5 0, rg 6 (.p true (.len (.t 5))), rg 7 (.p true (.bin .gtr (.t 6) (.c (.int .i64 12))))]) (.cond (.t 7) (.seq (.reg [rg 2 (.p true (.mv (.c (.bool false))))]) .ret) .skip)) (.seq (.seq (.reg [mvt 8 0, rg 9 (.p true (.len (.t 8))), rg 10 (.p true (.mv (.c (.int .i64 0))))]) (.block 0 (.loop (.seq (.reg [rg 11 (.p true (.bin .lss (.t 10) (.t 9)))]) (.seq (.cond (.t 11) .skip (.exit 0)) (.seq (.block 1 (.seq (.reg [mvt 12 10, rg 13 (.p true (.iad (.t 8) (.t 10) 2)), rg 14 (.p true (.ld (.t 13) 2 true)), rg 4 (.f (.alloc [((.str []), (0, false)), ((.sl 0 []), (2, false))])), mvt 3 12, ⟨none, none, (.f (.st (.t 4) (.t 14) 2))⟩]) (.seq (.reg [rg 15 (.p false (.fad (.t 4) 0)), rg 16 (.p false (.ld (.t 15) 1 false)), rg 17 (.call false 102 [(.t 16)]), rg 18 (.p false (.not (.t 17))), rg 19 (.p false (.mv (.t 18))), ⟨(some 20), (some (19, false)), (.p false (.fad (.t 4) 1))⟩, ⟨(some 21), (some (19, false)), (.p false (.ld (.t 20) 1 false))⟩, ⟨(some 22), (some (19, false)), (.call false 129 [(.t 21)])⟩, ⟨(some 23), (some (19, false)), (.p false (.not (.t 22)))⟩, rg 24 (.p false (.pick (.t 19) (.c (.bool true)) (.t 23))), rg 25 (.p false (.mv (.t 24))), ⟨(some 26), (some (25, false)), (.p false (.mv (.t 3)))⟩, ⟨(some 27), (some (25, false)), (.p false (.bin .gtr (.t 26) (.c (.int .i64 0))))⟩, ⟨(some 28), (some (25, false)), (.p false (.mv (.t 27)))⟩, ⟨(some 29), (some (28, true)), (.p false (.fad (.t 4) 0))⟩, ⟨(some 30), (some (28, true)), (.p false (.ld (.t 29) 1 false))⟩, ⟨(some 31), (some (28, true)), (.p false (.mv (.t 0)))⟩, ⟨(some 32), (some (28, true)), (.p false (.mv (.t 3)))⟩, ⟨(some 33), (some (28, true)), (.p false (.bin .sub (.t 32) (.c (.int .i64 1))))⟩, ⟨(some 34), (some (28, true)), (.p false (.iad (.t 31) (.t 33) 2))⟩, ⟨(some 35), (some (28, true)), (.p false (.fad (.t 34) 0))⟩, ⟨(some 36), (some (28, true)), (.p false (.ld (.t 35) 1 false))⟩, ⟨(some 37), (some (28, true)), (.p false (.bin .leq (.t 30) (.t 36)))⟩, ⟨(some 38), (some (25, false)), (.p false (.pick (.t 28) (.t 37) (.c (.bool false))))⟩, rg 39 (.p false (.pick (.t 25) (.c (.bool true)) (.t 38)))]) (.cond (.t 39) (.seq (.reg [rg 2 (.p true (.mv (.c (.bool false))))]) .ret) .skip)))) (.reg [rg 40 (.p true (.bin .add (.t 10) (.c (.int .i64 1)))), mvt 10 40]))))))) (.seq (.reg [rg 2 (.p true (.mv (.c (.bool true))))]) .ret))))
theorem c85_is : compFn Tryd.prog 85 = some (c85, [(.tmp 2)]) := by kernel_rfl
theorem c85_ok : okFn Tryd.prog 85 = true := by kernel_rfl

noncomputable def F_impl_ValidLibrary_l0 (v0 : List TNamedMelody) (k0 : Int → Option (Bool)) : Int → Option (Bool)
 | v50001 => (bif (decide (v50001 < (v0.length : Int))) then ((ix v0 v50001).bind fun v1000 => ((F_impl_IsName v1000.1).bind fun v1001 => (bif (!v1001) then some false
 else ((F_impl_ValidMelody v1000.2).bind fun v1002 => (bif (!v1002) then some false
 else (bif (decide ((0 : Int) < v50001)) then ((ix v0 (w64 (v50001 - 1))).bind fun v1003 => (bif (Op.bytesLess v1000.1 v1003.1 || decide (v1000.1 = v1003.1)) then some false
 else k0 (w64 (v50001 + 1))))
 else k0 (w64 (v50001 + 1))))))))
 else some true)
noncomputable def F_impl_ValidLibrary (v0 : List TNamedMelody) : Option (Bool) :=
 (bif (decide ((12 : Int) < (v0.length : Int))) then some false
 else loop (F_impl_ValidLibrary_l0 v0) 0)
@[simp] def res_impl_ValidLibrary (r : Bool) : RV := .one (.one (.val (.bool r)))
theorem con_impl_ValidLibrary {v0 : List TNamedMelody} {r : Bool} (hF : F_impl_ValidLibrary v0 = some r) : Con Tryd.prog 85 [.sl 2 (v0.map eNamedMelody)] (res_impl_ValidLibrary r) := by
 unfold F_impl_ValidLibrary at hF
 refine con_of c85_is fun N => ?_
 refine ws 0 64 ?_
 refine qp (AB false) rfl ?_
 refine r_nil ?_
 refine w_seq ?_
 refine ws 64 256 ?_
 refine qp (AL 2 (v0.map eNamedMelody)) rfl (qp (AI (v0.length : Int)) (ev_len_n rfl) (qp (AB (decide ((12 : Int) < (v0.length : Int)))) rfl ?_))
 refine r_nil ?_
 refine cF hF (fun hF => ?_) fun hF => ?_
 ·
  refine ws 256 320 ?_
  refine qp (AB false) rfl ?_
  refine r_nil ?_
  refine w_ret ?_
  refine thenQ_r ?_
  cases hF
  exact eR
 ·
  refine w_skip ?_
  refine thenQ_n ?_
  refine w_seq ?_
  refine ws 256 448 ?_
  refine qp (AL 2 (v0.map eNamedMelody)) rfl (qp (AI (v0.length : Int)) (ev_len_n rfl) (qp (AI 0) rfl ?_))
  refine r_nil ?_
  refine w_block ?_
  refine wr (l' := [(0, AL 2 (v0.map eNamedMelody)), (8, AL 2 (v0.map eNamedMelody)), (9, AI (v0.length : Int)), (10, AI 0)]) (L := []) [0, 8, 9, 10] [] 1 ?_
  refine w_loopF (F_impl_ValidLibrary_l0 v0) (fun s : Int => mkS [(0, AL 2 (v0.map eNamedMelody)), (8, AL 2 (v0.map eNamedMelody)), (9, AI (v0.length : Int)), (10, AI s)] (fo []) 1) hF ?_
  rintro k0 v50001 hF
  rw [F_impl_ValidLibrary_l0] at hF
  try dsimp only
  refine ws 1 65 ?_
  refine qp (AB (decide (v50001 < (v0.length : Int)))) rfl ?_
  refine r_nil ?_
  refine w_seq ?_
  refine cF hF (fun hF => ?_) fun hF => ?_
  ·
   refine w_skip ?_
   refine thenQ_n ?_
   refine w_seq ?_
   refine w_block ?_
   refine ws 65 449 ?_
   refine qp (AI v50001) rfl ?_
   obtain ⟨v1000, e1000, hF⟩ := bind_get hF
   refine qp (.val none (.ptr [.str v1000.1, .sl 2 (v1000.2.map eNote)])) (ev_iad_n rfl rfl e1000 rfl) (qp (.val none (eNamedMelody v1000)) rfl ?_)
   refine qf (.ptr 257 0 0) [(257, .box [AS [], .sl 258 0 0]), (258, .row true 2 (([] : List Int).map vI))] (by simp) ?_
   refine qp (AI v50001) rfl ?_
   refine qf0 (.undef) [(257, .box [AS v1000.1, AL 2 (v1000.2.map eNote)]), (257, .box [AS [], .sl 258 0 0]), (258, .row true 2 (([] : List Int).map vI))] (by simp) ?_
   refine r_nil ?_
   refine ws 449 2049 ?_
   refine qp (.ptr 257 0 0) rfl (qp (AS v1000.1) rfl ?_)
   obtain ⟨v1001, e1001, hF⟩ := bind_get hF
   refine qc (AB v1001) [(257, .box [AS v1000.1, AL 2 (v1000.2.map eNote)]), (257, .box [AS [], .sl 258 0 0]), (258, .row true 2 (([] : List Int).map vI))] false (con_impl_IsName e1001) c102_ok (by first | rfl | simp) rfl ?_
   refine qp (AB (!v1001)) rfl (qp (AB (!v1001)) rfl ?_)
   refine q_case 19 hF rfl (fun hF => ?_) (fun hF => ?_)
   ·
    refine qn rfl (qn rfl (qn rfl (qn rfl (qp (AB true) rfl (qp (AB true) rfl (qn rfl (qn rfl ?_)))))))
    refine qn rfl (qu rfl (qu rfl (qu rfl (qu rfl (qu rfl (qu rfl (qu rfl ?_)))))))
    refine qu rfl (qu rfl (qn rfl (qp (AB true) rfl ?_)))
    refine r_nil ?_
    refine w_true rfl ?_
    refine ws 2049 2113 ?_
    refine qp (AB false) rfl ?_
    refine r_nil ?_
    refine w_ret ?_
    refine blockQ_r ?_
    refine thenQ_r ?_
    refine thenQ_r ?_
    refine blockQ_r ?_
    refine thenQ_r ?_
    cases hF
    exact eR
   ·
    refine qg (.ptr 257 0 1) rfl rfl (qg (AL 2 (v1000.2.map eNote)) rfl rfl ?_)
    obtain ⟨v1002, e1002, hF⟩ := bind_get hF
    refine qcg (AB v1002) [(257, .box [AS v1000.1, AL 2 (v1000.2.map eNote)]), (257, .box [AS [], .sl 258 0 0]), (258, .row true 2 (([] : List Int).map vI))] false rfl (con_impl_ValidMelody e1002) c129_ok (by first | rfl | simp) rfl ?_
    refine qg (AB (!v1002)) rfl rfl (qp (AB (!v1002)) rfl (qp (AB (!v1002)) rfl ?_))
    refine q_case 25 hF rfl (fun hF => ?_) (fun hF => ?_)
    ·
     refine qn rfl (qn rfl (qn rfl (qu rfl (qu rfl (qu rfl (qu rfl (qu rfl ?_)))))))
     refine qu rfl (qu rfl (qu rfl (qu rfl (qn rfl (qp (AB true) rfl ?_)))))
     refine r_nil ?_
     refine w_true rfl ?_
     refine ws 2049 2113 ?_
     refine qp (AB false) rfl ?_
     refine r_nil ?_
     refine w_ret ?_
     refine blockQ_r ?_
     refine thenQ_r ?_
     refine thenQ_r ?_
     refine blockQ_r ?_
     refine thenQ_r ?_
     cases hF
     exact eR
    ·
     refine qg (AI v50001) rfl rfl (qg (AB (decide ((0 : Int) < v50001))) rfl rfl (qg (AB (decide ((0 : Int) < v50001))) rfl rfl ?_))
     refine q_case 28 hF rfl (fun hF => ?_) (fun hF => ?_)
     ·
      refine qg (.ptr 257 0 0) rfl rfl (qg (AS v1000.1) rfl rfl (qg (AL 2 (v0.map eNamedMelody)) rfl rfl (qg (AI v50001) rfl rfl (qg (AI (w64 (v50001 - 1))) rfl rfl ?_))))
      obtain ⟨v1003, e1003, hF⟩ := bind_get hF
      refine qg (.val none (.ptr [.str v1003.1, .sl 2 (v1003.2.map eNote)])) rfl (ev_iad_n rfl rfl e1003 rfl) (qg (.val none (.ptr [.str v1003.1, .sl 2 (v1003.2.map eNote)])) rfl rfl (qg (AS v1003.1) rfl rfl (qg (AB (Op.bytesLess v1000.1 v1003.1 || decide (v1000.1 = v1003.1))) rfl rfl (qg (AB (Op.bytesLess v1000.1 v1003.1 || decide (v1000.1 = v1003.1))) rfl rfl (qp (AB (Op.bytesLess v1000.1 v1003.1 || decide (v1000.1 = v1003.1))) rfl ?_)))))
      refine r_nil ?_
      refine cF hF (fun hF => ?_) fun hF => ?_
      ·
       refine ws 2049 2113 ?_
       refine qp (AB false) rfl ?_
       refine r_nil ?_
       refine w_ret ?_
       refine blockQ_r ?_
       refine thenQ_r ?_
       refine thenQ_r ?_
       refine blockQ_r ?_
       refine thenQ_r ?_
       cases hF
       exact eR
      ·
       refine w_skip ?_
       refine blockQ_n ?_
       refine thenQ_n ?_
       refine w_reg 2049 2177 rfl rfl ?_
       refine qp (AI (w64 (v50001 + 1))) rfl (qp (AI (w64 (v50001 + 1))) rfl ?_)
       refine r_nil ?_
       refine thenQ_n ?_
       refine ar (l' := [(0, AL 2 (v0.map eNamedMelody)), (8, AL 2 (v0.map eNamedMelody)), (9, AI (v0.length : Int)), (10, AI (w64 (v50001 + 1)))]) (L := []) [0, 8, 9, 10] [] 1 ⟨_, by rfl, hF⟩
     ·
      refine qn rfl (qn rfl (qn rfl (qn rfl (qn rfl (qn rfl (qn rfl (qn rfl ?_)))))))
      refine qn rfl (qg (AB false) rfl rfl (qp (AB false) rfl ?_))
      refine r_nil ?_
      refine w_false rfl ?_
      refine w_skip ?_
      refine blockQ_n ?_
      refine thenQ_n ?_
      refine w_reg 2049 2177 rfl rfl ?_
      refine qp (AI (w64 (v50001 + 1))) rfl (qp (AI (w64 (v50001 + 1))) rfl ?_)
      refine r_nil ?_
      refine thenQ_n ?_
      refine ar (l' := [(0, AL 2 (v0.map eNamedMelody)), (8, AL 2 (v0.map eNamedMelody)), (9, AI (v0.length : Int)), (10, AI (w64 (v50001 + 1)))]) (L := []) [0, 8, 9, 10] [] 1 ⟨_, by rfl, hF⟩
  ·
   refine w_exit ?_
   refine thenQ_e ?_
   refine thenQ_e ?_
   refine blockQ_e ?_
   refine thenQ_n ?_
   refine ws 65 129 ?_
   refine qp (AB true) rfl ?_
   refine r_nil ?_
   refine w_ret ?_
   cases hF
   exact eR

def c167 : MC := (.seq (.reg [rg 2 (.p true (.mv (.c (.int .i64 0))))]) (.seq (.reg [mvt 3 0, rg 4 (.p true (.bin .rem (.t 3) (.c (.int .i64 12)))), rg 5 (.p true (.bin .add (.t 4) (.c (.int .i64 12)))), rg 6 (.p true (.bin .rem (.t 5) (.c (.int .i64 12)))), mvt 2 6]) .ret))
theorem c167_is : compFn Tryd.prog 167 = some (c167, [(.tmp 2)]) := by kernel_rfl
theorem c167_ok : okFn Tryd.prog 167 = true := by kernel_rfl

noncomputable def F_impl_ToneOf (v0 : Int) : Option (Int) :=
 some (Int.tmod (w64 ((Int.tmod v0 12) + 12)) 12)
@[simp] def res_impl_ToneOf (r : Int) : RV := .one (.one (.val (.int .i64 r)))
theorem con_impl_ToneOf {v0 : Int} {r : Int} (hF : F_impl_ToneOf v0 = some r) : Con Tryd.prog 167 [.int .i64 v0] (res_impl_ToneOf r) := by
 unfold F_impl_ToneOf at hF
 refine con_of c167_is fun N => ?_
 refine ws 0 64 ?_
 refine qp (AI 0) rfl ?_
 refine r_nil ?_
 refine ws 64 384 ?_
 refine qp (AI v0) rfl (qp (AI (Int.tmod v0 12)) (ev_rem rfl rfl (by decide)) (qp (AI (w64 ((Int.tmod v0 12) + 12))) rfl (qp (AI (Int.tmod (w64 ((Int.tmod v0 12) + 12)) 12)) (ev_rem rfl rfl (by decide)) (qp (AI (Int.tmod (w64 ((Int.tmod v0 12) + 12)) 12)) rfl ?_))))
 refine r_nil ?_
 refine w_ret ?_
 cases hF
 exact eR

def c191 : MC := (.seq (.reg [rg 2 (.p true (.mv (.c (.bool false))))]) (.seq (.reg [mvt 3 0, rg 4 (.call true 103 [(.t 3), (.c (.int .i64 0)), (.c (.int .i64 11))]), mvt 2 4]) .ret))
theorem c191_is : compFn Tryd.prog 191 = some (c191, [(.tmp 2)]) := by kernel_rfl
theorem c191_ok : okFn Tryd.prog 191 = true := by kernel_rfl

noncomputable def F_impl_toneOk (v0 : Int) : Option (Bool) :=
 ((F_impl_within v0 0 11).bind fun v1000 => some v1000)
@[simp] def res_impl_toneOk (r : Bool) : RV := .one (.one (.val (.bool r)))
theorem con_impl_toneOk {v0 : Int} {r : Bool} (hF : F_impl_toneOk v0 = some r) : Con Tryd.prog 191 [.int .i64 v0] (res_impl_toneOk r) := by
 unfold F_impl_toneOk at hF
 refine con_of c191_is fun N => ?_
 refine ws 0 64 ?_
 refine qp (AB false) rfl ?_
 refine r_nil ?_
 refine ws 64 256 ?_
 refine qp (AI v0) rfl ?_
 obtain ⟨v1000, e1000, hF⟩ := bind_get hF
 refine qc (AB v1000) [] false (con_impl_within e1000) c103_ok (by first | rfl | simp) rfl ?_
 refine qp (AB v1000) rfl ?_
 refine r_nil ?_
 refine w_ret ?_
 cases hF
 exact eR

def c166 : MC := (.seq (.reg [rg 2 (.p true (.mv (.c (.str []))))]) (.seq (.seq (.reg [mvt 3 0, rg 4 (.call true 191 [(.t 3)]), rg 5 (.p true (.not (.t 4)))]) (.cond (.t 5) (.seq (.reg [rg 2 (.p true (.mv (.c (.str []))))]) .ret) .skip)) (.seq (.reg [mvt 6 0, mvt 7 0, rg 8 (.p true (.bin .add (.t 7) (.c (.int .i64 1)))), rg 9 (.p true (.slcs (.c (.str [83, 114, 82, 103, 71, 109, 77, 80, 100, 68, 110, 78])) (some (.t 6)) (some (.t 8)))), mvt 2 9]) .ret)))
theorem c166_is : compFn Tryd.prog 166 = some (c166, [(.tmp 2)]) := by kernel_rfl
theorem c166_ok : okFn Tryd.prog 166 = true := by kernel_rfl

noncomputable def F_impl_ToneName (v0 : Int) : Option (List UInt8) :=
 ((F_impl_toneOk v0).bind fun v1000 => (bif (!v1000) then some []
 else (need (0 ≤ v0 ∧ v0 ≤ w64 (v0 + 1) ∧ w64 (v0 + 1) ≤ ([83, 114, 82, 103, 71, 109, 77, 80, 100, 68, 110, 78].length : Int)) (some (sub [83, 114, 82, 103, 71, 109, 77, 80, 100, 68, 110, 78] v0 (w64 (v0 + 1)))))))
@[simp] def res_impl_ToneName (r : List UInt8) : RV := .one (.one (.val (.str r)))
theorem con_impl_ToneName {v0 : Int} {r : List UInt8} (hF : F_impl_ToneName v0 = some r) : Con Tryd.prog 166 [.int .i64 v0] (res_impl_ToneName r) := by
 unfold F_impl_ToneName at hF
 refine con_of c166_is fun N => ?_
 refine ws 0 64 ?_
 refine qp (AS []) rfl ?_
 refine r_nil ?_
 refine w_seq ?_
 refine ws 64 256 ?_
 refine qp (AI v0) rfl ?_
 obtain ⟨v1000, e1000, hF⟩ := bind_get hF
 refine qc (AB v1000) [] false (con_impl_toneOk e1000) c191_ok (by first | rfl | simp) rfl ?_
 refine qp (AB (!v1000)) rfl ?_
 refine r_nil ?_
 refine cF hF (fun hF => ?_) fun hF => ?_
 ·
  refine ws 256 320 ?_
  refine qp (AS []) rfl ?_
  refine r_nil ?_
  refine w_ret ?_
  refine thenQ_r ?_
  cases hF
  exact eR
 ·
  refine w_skip ?_
  refine thenQ_n ?_
  refine ws 256 576 ?_
  refine qp (AI v0) rfl (qp (AI v0) rfl (qp (AI (w64 (v0 + 1))) rfl ?_))
  obtain ⟨g1001, hF⟩ := need_some hF
  refine qp (AS (sub [83, 114, 82, 103, 71, 109, 77, 80, 100, 68, 110, 78] v0 (w64 (v0 + 1)))) (ev_slcs rfl (bnd_some rfl g1001.1) (bnd_some rfl (Int.le_trans g1001.1 g1001.2.1)) g1001) (qp (AS (sub [83, 114, 82, 103, 71, 109, 77, 80, 100, 68, 110, 78] v0 (w64 (v0 + 1)))) rfl ?_)
  refine r_nil ?_
  refine w_ret ?_
  cases hF
  exact eR

def c168 : MC := (.seq (.reg [rg 2 (.p true (.mv (.c (.int .i64 0))))]) (.seq (.reg [mvt 3 0, mvt 4 0, rg 5 (.call true 167 [(.t 4)]), rg 6 (.p true (.bin .sub (.t 3) (.t 5))), rg 7 (.p true (.bin .quo (.t 6) (.c (.int .i64 12)))), mvt 2 7]) .ret))
theorem c168_is : compFn Tryd.prog 168 = some (c168, [(.tmp 2)]) := by kernel_rfl
theorem c168_ok : okFn Tryd.prog 168 = true := by kernel_rfl

noncomputable def F_impl_octaveOf (v0 : Int) : Option (Int) :=
 ((F_impl_ToneOf v0).bind fun v1000 => some (w64 (Int.tdiv (w64 (v0 - v1000)) 12)))
@[simp] def res_impl_octaveOf (r : Int) : RV := .one (.one (.val (.int .i64 r)))
theorem con_impl_octaveOf {v0 : Int} {r : Int} (hF : F_impl_octaveOf v0 = some r) : Con Tryd.prog 168 [.int .i64 v0] (res_impl_octaveOf r) := by
 unfold F_impl_octaveOf at hF
 refine con_of c168_is fun N => ?_
 refine ws 0 64 ?_
 refine qp (AI 0) rfl ?_
 refine r_nil ?_
 refine ws 64 448 ?_
 refine qp (AI v0) rfl (qp (AI v0) rfl ?_)
 obtain ⟨v1000, e1000, hF⟩ := bind_get hF
 refine qc (AI v1000) [] false (con_impl_ToneOf e1000) c167_ok (by first | rfl | simp) rfl ?_
 refine qp (AI (w64 (v0 - v1000))) rfl (qp (AI (w64 (Int.tdiv (w64 (v0 - v1000)) 12))) (ev_quo rfl rfl (by decide)) (qp (AI (w64 (Int.tdiv (w64 (v0 - v1000)) 12))) rfl ?_))
 refine r_nil ?_
 refine w_ret ?_
 cases hF
 exact eR

def c130 : MC := (.seq (.reg [rg 2 (.p true (.mv (.c (.str []))))]) (.seq (.reg [mvt 3 0, rg 4 (.call true 167 [(.t 3)]), rg 5 (.call true 166 [(.t 4)]), rg 6 (.f (.bld [((.str []), (0, true)), ((.str []), (0, true)), ((.str []), (0, true))] [(0, (1, (.c (.str [44])))), (1, (1, (.c (.str [])))), (2, (1, (.c (.str [39]))))])), mvt 7 0, rg 8 (.call true 168 [(.t 7)]), rg 9 (.p true (.bin .add (.t 8) (.c (.int .i64 1)))), rg 10 (.p true (.ixa (.t 6) (.t 9) 3 1 false)), rg 11 (.p true (.bin .add (.t 5) (.t 10))), mvt 2 11]) .ret))
theorem c130_is : compFn Tryd.prog 130 = some (c130, [(.tmp 2)]) := by kernel_rfl
theorem c130_ok : okFn Tryd.prog 130 = true := by kernel_rfl

noncomputable def F_impl_pitchText (v0 : Int) : Option (List UInt8) :=
 ((F_impl_ToneOf v0).bind fun v1000 => ((F_impl_ToneName v1000).bind fun v1001 => ((F_impl_octaveOf v0).bind fun v1002 => ((ix [[44], [], [39]] (w64 (v1002 + 1))).bind fun v1003 => (need (v1001.length + v1003.length < 9223372036854775808) (some (v1001 ++ v1003)))))))
@[simp] def res_impl_pitchText (r : List UInt8) : RV := .one (.one (.val (.str r)))
theorem con_impl_pitchText {v0 : Int} {r : List UInt8} (hF : F_impl_pitchText v0 = some r) : Con Tryd.prog 130 [.int .i64 v0] (res_impl_pitchText r) := by
 unfold F_impl_pitchText at hF
 refine con_of c130_is fun N => ?_
 refine ws 0 64 ?_
 refine qp (AS []) rfl ?_
 refine r_nil ?_
 refine ws 64 704 ?_
 refine qp (AI v0) rfl ?_
 obtain ⟨v1000, e1000, hF⟩ := bind_get hF
 refine qc (AI v1000) [] false (con_impl_ToneOf e1000) c167_ok (by first | rfl | simp) rfl ?_
 obtain ⟨v1001, e1001, hF⟩ := bind_get hF
 refine qc (AS v1001) [] false (con_impl_ToneName e1001) c166_ok (by first | rfl | simp) rfl ?_
 refine qf (.agg [AS [44], AS [], AS [39]]) [] (by simp) ?_
 refine qp (AI v0) rfl ?_
 obtain ⟨v1002, e1002, hF⟩ := bind_get hF
 refine qc (AI v1002) [] false (con_impl_octaveOf e1002) c168_ok (by first | rfl | simp) rfl ?_
 refine qp (AI (w64 (v1002 + 1))) rfl ?_
 obtain ⟨v1003, e1003, hF⟩ := bind_get hF
 refine qp (AS v1003) (ev_ixa_a (f := AS) rfl rfl rfl e1003) ?_
 obtain ⟨g1004, hF⟩ := need_some hF
 refine qp (AS (v1001 ++ v1003)) (ev_add_s rfl rfl g1004) (qp (AS (v1001 ++ v1003)) rfl ?_)
 refine r_nil ?_
 refine w_ret ?_
 cases hF
 exact eR

theorem c106_ok : okFn Tryd.prog 106 = true := by kernel_rfl




def c54 : MC := (.seq (.reg [rg 2 (.p true (.mv (.c (.str []))))]) (.seq (.reg [mvt 3 0, rg 4 (.call true 106 [(.t 3), (.c (.int .i64 10))]), mvt 2 4]) .ret))
theorem c54_is : compFn Tryd.prog 54 = some (c54, [(.tmp 2)]) := by kernel_rfl
theorem c54_ok : okFn Tryd.prog 54 = true := by kernel_rfl

noncomputable def F_impl_Decimal (v0 : Int) : Option (List UInt8) :=
 ((F_formatInt v0 10).bind fun v1000 => some v1000)
@[simp] def res_impl_Decimal (r : List UInt8) : RV := .one (.one (.val (.str r)))
theorem con_impl_Decimal {v0 : Int} {r : List UInt8} (hF : F_impl_Decimal v0 = some r) : Con Tryd.prog 54 [.int .i64 v0] (res_impl_Decimal r) := by
 unfold F_impl_Decimal at hF
 refine con_of c54_is fun N => ?_
 refine ws 0 64 ?_
 refine qp (AS []) rfl ?_
 refine r_nil ?_
 refine ws 64 256 ?_
 refine qp (AI v0) rfl ?_
 obtain ⟨v1000, e1000, hF⟩ := bind_get hF
 refine qc (AS v1000) [] false (con_formatInt e1000) c106_ok (by first | rfl | simp) rfl ?_
 refine qp (AS v1000) rfl ?_
 refine r_nil ?_
 refine w_ret ?_
 cases hF
 exact eR

theorem c53_ok : okFn Tryd.prog 53 = true := by kernel_rfl




def c86 : MC := (.seq (.reg [rg 2 (.p true (.mv (.c (.str []))))]) (.seq (.block 0 (.seq (.reg [mvt 8 0, rg 9 (.call true 129 [(.t 8)]), rg 10 (.p true (.not (.t 9))), mvt 7 10]) (.cond (.t 7) (.seq (.reg [rg 2 (.p true (.mv (.c (.str []))))]) .ret) (.seq (.reg [mvt 12 0, rg 13 (.p true (.len (.t 12))), rg 14 (.p true (.bin .eql (.t 13) (.c (.int .i64 0)))), mvt 11 14]) (.cond (.t 11) (.seq (.reg [rg 2 (.p true (.mv (.c (.str [45]))))]) .ret) .skip))))) (.seq (.reg [rg 3 (.f (.nilrow 1))]) (.seq (.seq (.reg [mvt 15 0, rg 16 (.p true (.len (.t 15))), rg 17 (.p true (.mv (.c (.int .i64 0))))]) (.block 1 (.loop (.seq (.reg [rg 18 (.p true (.bin .lss (.t 17) (.t 16)))]) (.seq (.cond (.t 18) .skip (.exit 1)) (.seq (.block 2 (.seq (.reg [rg 19 (.p true (.iad (.t 15) (.t 17) 2)), rg 20 (.p true (.ld (.t 19) 2 true)), rg 5 (.f (.alloc [((.int .i64 0), (0, false)), ((.int .i64 0), (0, false))])), ⟨none, none, (.f (.st (.t 5) (.t 20) 2))⟩]) (.seq (.reg [rg 21 (.p true (.fad (.t 5) 0)), rg 22 (.p true (.ld (.t 21) 1 false)), rg 23 (.call true 130 [(.t 22)]), mvt 6 23]) (.seq (.seq (.reg [rg 24 (.p true (.fad (.t 5) 1)), rg 25 (.p true (.ld (.t 24) 1 false)), rg 26 (.p true (.bin .neq (.t 25) (.c (.int .i64 1))))]) (.cond (.t 26) (.reg [mvt 27 6, rg 28 (.p true (.fad (.t 5) 1)), rg 29 (.p true (.ld (.t 28) 1 false)), rg 30 (.call true 54 [(.t 29)]), rg 31 (.p true (.bin .add (.t 27) (.t 30))), mvt 6 31]) .skip)) (.reg [mvt 32 3, mvt 33 6, rg 34 (.f (.bsl 1 [(.t 33)])), rg 35 (.f (.app (.t 32) (.t 34) 1 16 true)), mvt 3 35]))))) (.reg [rg 36 (.p true (.bin .add (.t 17) (.c (.int .i64 1)))), mvt 17 36]))))))) (.seq (.reg [mvt 37 3, rg 38 (.call true 53 [(.t 37), (.c (.str [32]))]), mvt 2 38]) .ret)))))
theorem c86_is : compFn Tryd.prog 86 = some (c86, [(.tmp 2)]) := by kernel_rfl
theorem c86_ok : okFn Tryd.prog 86 = true := by kernel_rfl

noncomputable def F_impl_MelodyText_l0 (v0 : List TNote) (k1 : Int × (List (List UInt8)) → Option (List UInt8)) : Int × (List (List UInt8)) → Option (List UInt8)
 | (v50006, v50007) => (bif (decide (v50006 < (v0.length : Int))) then ((ix v0 v50006).bind fun v1013 => ((F_impl_pitchText v1013.1).bind fun v1014 => (bif (decide (v1013.2 ≠ (1 : Int))) then ((F_impl_Decimal v1013.2).bind fun v1015 => (need (v1014.length + v1015.length < 9223372036854775808) ((need (room (v50007.length + [v1014 ++ v1015].length) 16) (k1 (w64 (v50006 + 1), v50007 ++ [v1014 ++ v1015]))))))
 else (need (room (v50007.length + [v1014].length) 16) (k1 (w64 (v50006 + 1), v50007 ++ [v1014]))))))
 else ((F_join v50007 [32]).bind fun v1019 => some v1019))
noncomputable def F_impl_MelodyText (v0 : List TNote) : Option (List UInt8) :=
 ((F_impl_ValidMelody v0).bind fun v1000 => (bif (!v1000) then some []
 else (bif (decide ((v0.length : Int) = (0 : Int))) then some [45]
 else loop (F_impl_MelodyText_l0 v0) (0, []))))
@[simp] def res_impl_MelodyText (r : List UInt8) : RV := .one (.one (.val (.str r)))
theorem con_impl_MelodyText {v0 : List TNote} {r : List UInt8} (hF : F_impl_MelodyText v0 = some r) : Con Tryd.prog 86 [.sl 2 (v0.map eNote)] (res_impl_MelodyText r) := by
 unfold F_impl_MelodyText at hF
 refine con_of c86_is fun N => ?_
 refine ws 0 64 ?_
 refine qp (AS []) rfl ?_
 refine r_nil ?_
 refine w_seq ?_
 refine w_block ?_
 refine ws 64 320 ?_
 refine qp (AL 2 (v0.map eNote)) rfl ?_
 obtain ⟨v1000, e1000, hF⟩ := bind_get hF
 refine qc (AB v1000) [] false (con_impl_ValidMelody e1000) c129_ok (by first | rfl | simp) rfl ?_
 refine qp (AB (!v1000)) rfl (qp (AB (!v1000)) rfl ?_)
 refine r_nil ?_
 refine cF hF (fun hF => ?_) fun hF => ?_
 ·
  refine ws 320 384 ?_
  refine qp (AS []) rfl ?_
  refine r_nil ?_
  refine w_ret ?_
  refine blockQ_r ?_
  refine thenQ_r ?_
  cases hF
  exact eR
 ·
  refine ws 320 576 ?_
  refine qp (AL 2 (v0.map eNote)) rfl (qp (AI (v0.length : Int)) (ev_len_n rfl) (qp (AB (decide ((v0.length : Int) = (0 : Int)))) rfl (qp (AB (decide ((v0.length : Int) = (0 : Int)))) rfl ?_)))
  refine r_nil ?_
  refine cF hF (fun hF => ?_) fun hF => ?_
  ·
   refine ws 576 640 ?_
   refine qp (AS [45]) rfl ?_
   refine r_nil ?_
   refine w_ret ?_
   refine blockQ_r ?_
   refine thenQ_r ?_
   cases hF
   exact eR
  ·
   refine w_skip ?_
   refine blockQ_n ?_
   refine thenQ_n ?_
   refine ws 576 640 ?_
   refine qf (.sl 576 0 0) [(576, .row true 1 (([] : List (List UInt8)).map V.str))] (by simp) ?_
   refine r_nil ?_
   refine w_seq ?_
   refine ws 640 832 ?_
   refine qp (AL 2 (v0.map eNote)) rfl (qp (AI (v0.length : Int)) (ev_len_n rfl) (qp (AI 0) rfl ?_))
   refine r_nil ?_
   refine w_block ?_
   refine wr (l' := [(3, .sl 0 0 0), (15, AL 2 (v0.map eNote)), (16, AI (v0.length : Int)), (17, AI 0)]) (L := [(0, .row true 1 (([] : List (List UInt8)).map V.str))]) [3, 15, 16, 17] [(576, 0)] 1 ?_
   refine w_loopF (F_impl_MelodyText_l0 v0) (fun s : Int × (List (List UInt8)) => mkS [(3, .sl 0 0 s.2.length), (15, AL 2 (v0.map eNote)), (16, AI (v0.length : Int)), (17, AI s.1)] (fo [(0, .row true 1 (s.2.map V.str))]) 1) hF ?_
   rintro k1 ⟨v50006, v50007⟩ hF
   rw [F_impl_MelodyText_l0] at hF
   try dsimp only
   refine ws 1 65 ?_
   refine qp (AB (decide (v50006 < (v0.length : Int)))) rfl ?_
   refine r_nil ?_
   refine w_seq ?_
   refine cF hF (fun hF => ?_) fun hF => ?_
   ·
    refine w_skip ?_
    refine thenQ_n ?_
    refine w_seq ?_
    refine w_block ?_
    refine ws 65 321 ?_
    obtain ⟨v1013, e1013, hF⟩ := bind_get hF
    refine qp (.val none (.ptr [.int .i64 v1013.1, .int .i64 v1013.2])) (ev_iad_n rfl rfl e1013 rfl) (qp (.val none (eNote v1013)) rfl ?_)
    refine qf (.ptr 193 0 0) [(193, .box [AI 0, AI 0]), (0, .row true 1 (v50007.map V.str))] (by simp) ?_
    refine qf0 (.undef) [(193, .box [AI v1013.1, AI v1013.2]), (193, .box [AI 0, AI 0]), (0, .row true 1 (v50007.map V.str))] (by simp) ?_
    refine r_nil ?_
    refine ws 321 577 ?_
    refine qp (.ptr 193 0 0) rfl (qp (AI v1013.1) rfl ?_)
    obtain ⟨v1014, e1014, hF⟩ := bind_get hF
    refine qc (AS v1014) [(193, .box [AI v1013.1, AI v1013.2]), (193, .box [AI 0, AI 0]), (0, .row true 1 (v50007.map V.str))] false (con_impl_pitchText e1014) c130_ok (by first | rfl | simp) rfl ?_
    refine qp (AS v1014) rfl ?_
    refine r_nil ?_
    refine w_seq ?_
    refine ws 577 769 ?_
    refine qp (.ptr 193 0 1) rfl (qp (AI v1013.2) rfl (qp (AB (decide (v1013.2 ≠ (1 : Int)))) rfl ?_))
    refine r_nil ?_
    refine cF hF (fun hF => ?_) fun hF => ?_
    ·
     refine w_reg 769 1153 rfl rfl ?_
     refine qp (AS v1014) rfl (qp (.ptr 193 0 1) rfl (qp (AI v1013.2) rfl ?_))
     obtain ⟨v1015, e1015, hF⟩ := bind_get hF
     refine qc (AS v1015) [(193, .box [AI v1013.1, AI v1013.2]), (193, .box [AI 0, AI 0]), (0, .row true 1 (v50007.map V.str))] false (con_impl_Decimal e1015) c54_ok (by first | rfl | simp) rfl ?_
     obtain ⟨g1016, hF⟩ := need_some hF
     refine qp (AS (v1014 ++ v1015)) (ev_add_s rfl rfl g1016) (qp (AS (v1014 ++ v1015)) rfl ?_)
     refine r_nil ?_
     refine thenQ_n ?_
     refine w_reg 1153 1473 rfl rfl ?_
     refine qp (.sl 0 0 v50007.length) rfl (qp (AS (v1014 ++ v1015)) rfl ?_)
     refine qf (.sl 1281 0 ([v1014 ++ v1015].length)) [(1281, .row true 1 ([v1014 ++ v1015].map V.str)), (193, .box [AI v1013.1, AI v1013.2]), (193, .box [AI 0, AI 0]), (0, .row true 1 (v50007.map V.str))] (by simp [List.take_of_length_le]) ?_
     obtain ⟨g1017, hF⟩ := need_some hF
     refine qf (.sl 1345 0 ((v50007 ++ [v1014 ++ v1015]).length)) [(1345, .row true 1 ((v50007 ++ [v1014 ++ v1015]).map V.str)), (0, .dead), (1281, .dead), (1281, .row true 1 ([v1014 ++ v1015].map V.str)), (193, .box [AI v1013.1, AI v1013.2]), (193, .box [AI 0, AI 0]), (0, .row true 1 (v50007.map V.str))] (effT_app_l rfl (by simp) rfl rfl (by simp) rfl (by decide) g1017 rfl) ?_
     refine qp (.sl 1345 0 ((v50007 ++ [v1014 ++ v1015]).length)) rfl ?_
     refine r_nil ?_
     refine blockQ_n ?_
     refine thenQ_n ?_
     refine w_reg 1473 1601 rfl rfl ?_
     refine qp (AI (w64 (v50006 + 1))) rfl (qp (AI (w64 (v50006 + 1))) rfl ?_)
     refine r_nil ?_
     refine thenQ_n ?_
     refine ar (l' := [(3, .sl 0 0 (v50007 ++ [v1014 ++ v1015]).length), (15, AL 2 (v0.map eNote)), (16, AI (v0.length : Int)), (17, AI (w64 (v50006 + 1)))]) (L := [(0, .row true 1 ((v50007 ++ [v1014 ++ v1015]).map V.str))]) [3, 15, 16, 17] [(1345, 0)] 1 ⟨_, by rfl, hF⟩
    ·
     refine w_skip ?_
     refine thenQ_n ?_
     refine w_reg 769 1089 rfl rfl ?_
     refine qp (.sl 0 0 v50007.length) rfl (qp (AS v1014) rfl ?_)
     refine qf (.sl 897 0 ([v1014].length)) [(897, .row true 1 ([v1014].map V.str)), (193, .box [AI v1013.1, AI v1013.2]), (193, .box [AI 0, AI 0]), (0, .row true 1 (v50007.map V.str))] (by simp [List.take_of_length_le]) ?_
     obtain ⟨g1018, hF⟩ := need_some hF
     refine qf (.sl 961 0 ((v50007 ++ [v1014]).length)) [(961, .row true 1 ((v50007 ++ [v1014]).map V.str)), (0, .dead), (897, .dead), (897, .row true 1 ([v1014].map V.str)), (193, .box [AI v1013.1, AI v1013.2]), (193, .box [AI 0, AI 0]), (0, .row true 1 (v50007.map V.str))] (effT_app_l rfl (by simp) rfl rfl (by simp) rfl (by decide) g1018 rfl) ?_
     refine qp (.sl 961 0 ((v50007 ++ [v1014]).length)) rfl ?_
     refine r_nil ?_
     refine blockQ_n ?_
     refine thenQ_n ?_
     refine w_reg 1089 1217 rfl rfl ?_
     refine qp (AI (w64 (v50006 + 1))) rfl (qp (AI (w64 (v50006 + 1))) rfl ?_)
     refine r_nil ?_
     refine thenQ_n ?_
     refine ar (l' := [(3, .sl 0 0 (v50007 ++ [v1014]).length), (15, AL 2 (v0.map eNote)), (16, AI (v0.length : Int)), (17, AI (w64 (v50006 + 1)))]) (L := [(0, .row true 1 ((v50007 ++ [v1014]).map V.str))]) [3, 15, 16, 17] [(961, 0)] 1 ⟨_, by rfl, hF⟩
   ·
    refine w_exit ?_
    refine thenQ_e ?_
    refine thenQ_e ?_
    refine blockQ_e ?_
    refine thenQ_n ?_
    refine ws 65 257 ?_
    refine qp (.sl 0 0 v50007.length) rfl ?_
    obtain ⟨v1019, e1019, hF⟩ := bind_get hF
    refine qc (AS v1019) [(0, .row true 1 (v50007.map V.str))] true (con_join e1019) c53_ok (by simp [List.take_of_length_le]) rfl ?_
    refine qp (AS v1019) rfl ?_
    refine r_nil ?_
    refine w_ret ?_
    cases hF
    exact eR

def c40 : MC := (.seq (.reg [rg 2 (.f (.nilrow 3)), rg 3 (.p true (.mv (.c (.int .i64 0))))]) (.seq (.seq (.reg [mvt 7 0, rg 8 (.call true 85 [(.t 7)]), rg 9 (.p true (.not (.t 8)))]) (.cond (.t 9) (.seq (.reg [rg 2 (.f (.nilrow 3)), rg 3 (.p true (.mv (.c (.int .i64 1))))]) .ret) .skip)) (.seq (.reg [rg 4 (.f (.nilrow 3))]) (.seq (.seq (.reg [mvt 10 0, rg 11 (.p true (.len (.t 10))), rg 12 (.p true (.mv (.c (.int .i64 0))))]) (.block 0 (.loop (.seq (.reg [rg 13 (.p true (.bin .lss (.t 12) (.t 11)))]) (.seq (.cond (.t 13) .skip (.exit 0)) (.seq (.block 1 (.seq (.reg [rg 14 (.p true (.iad (.t 10) (.t 12) 2)), rg 15 (.p true (.ld (.t 14) 2 true)), rg 6 (.f (.alloc [((.str []), (0, false)), ((.sl 0 []), (2, false))])), ⟨none, none, (.f (.st (.t 6) (.t 15) 2))⟩]) (.reg [rg 16 (.p false (.mv (.t 4))), rg 17 (.p false (.fad (.t 6) 0)), rg 18 (.p false (.ld (.t 17) 1 false)), rg 19 (.p false (.fad (.t 6) 1)), rg 20 (.p false (.ld (.t 19) 1 false)), rg 21 (.call false 86 [(.t 20)]), rg 22 (.f (.bld [((.str []), (0, true)), ((.str []), (0, true)), ((.str []), (0, true))] [(0, (1, (.c (.str [109, 101, 108, 111, 100, 121])))), (1, (1, (.t 18))), (2, (1, (.t 21)))])), rg 23 (.f (.bslp 3 [(.t 22)])), rg 24 (.f (.app (.t 16) (.t 23) 3 48 true)), rg 4 (.p false (.mv (.t 24)))]))) (.reg [rg 25 (.p true (.bin .add (.t 12) (.c (.int .i64 1)))), mvt 12 25]))))))) (.seq (.reg [mvt 26 4, mvt 2 26, rg 3 (.p true (.mv (.c (.int .i64 0))))]) .ret)))))
theorem c40_is : compFn Tryd.prog 40 = some (c40, [(.tmp 2), (.tmp 3)]) := by kernel_rfl
theorem c40_ok : okFn Tryd.prog 40 = true := by kernel_rfl

noncomputable def F_impl_BlocksOfLibrary_l0 (v0 : List TNamedMelody) (k1 : Int × (List TBlock) → Option ((List TBlock) × Int)) : Int × (List TBlock) → Option ((List TBlock) × Int)
 | (v50006, v50007) => (bif (decide (v50006 < (v0.length : Int))) then ((ix v0 v50006).bind fun v1007 => ((F_impl_MelodyText v1007.2).bind fun v1008 => (need (room (v50007.length + ([([109, 101, 108, 111, 100, 121], v1007.1, v1008)] : List TBlock).length) 48) (k1 (w64 (v50006 + 1), v50007 ++ ([([109, 101, 108, 111, 100, 121], v1007.1, v1008)] : List TBlock))))))
 else some (v50007, 0))
noncomputable def F_impl_BlocksOfLibrary (v0 : List TNamedMelody) : Option ((List TBlock) × Int) :=
 ((F_impl_ValidLibrary v0).bind fun v1000 => (bif (!v1000) then some ([], 1)
 else loop (F_impl_BlocksOfLibrary_l0 v0) (0, [])))
@[simp] def res_impl_BlocksOfLibrary (r : (List TBlock) × Int) : RV := .tup [.one (.row true 3 (r.1.map eBlock)), .one (.val (.int .i64 r.2))]
theorem con_impl_BlocksOfLibrary {v0 : List TNamedMelody} {r : (List TBlock) × Int} (hF : F_impl_BlocksOfLibrary v0 = some r) : Con Tryd.prog 40 [.sl 2 (v0.map eNamedMelody)] (res_impl_BlocksOfLibrary r) := by
 unfold F_impl_BlocksOfLibrary at hF
 refine con_of c40_is fun N => ?_
 refine ws 0 128 ?_
 refine qf (.sl 0 0 0) [(0, .row true 3 (([] : List Int).map vI))] (by simp) ?_
 refine qp (AI 0) rfl ?_
 refine r_nil ?_
 refine w_seq ?_
 refine ws 128 320 ?_
 refine qp (AL 2 (v0.map eNamedMelody)) rfl ?_
 obtain ⟨v1000, e1000, hF⟩ := bind_get hF
 refine qc (AB v1000) [(0, .row true 3 (([] : List Int).map vI))] false (con_impl_ValidLibrary e1000) c85_ok (by first | rfl | simp) rfl ?_
 refine qp (AB (!v1000)) rfl ?_
 refine r_nil ?_
 refine cF hF (fun hF => ?_) fun hF => ?_
 ·
  refine ws 320 448 ?_
  refine qf (.sl 320 0 0) [(320, .row true 3 (([] : List TBlock).map eBlock)), (0, .row true 3 (([] : List Int).map vI))] (by simp) ?_
  refine qp (AI 1) rfl ?_
  refine r_nil ?_
  refine w_ret ?_
  refine thenQ_r ?_
  cases hF
  exact eR
 ·
  refine w_skip ?_
  refine thenQ_n ?_
  refine ws 320 384 ?_
  refine qf (.sl 320 0 0) [(320, .row true 3 (([] : List TBlock).map eBlock)), (0, .row true 3 (([] : List Int).map vI))] (by simp) ?_
  refine r_nil ?_
  refine w_seq ?_
  refine ws 384 576 ?_
  refine qp (AL 2 (v0.map eNamedMelody)) rfl (qp (AI (v0.length : Int)) (ev_len_n rfl) (qp (AI 0) rfl ?_))
  refine r_nil ?_
  refine w_block ?_
  refine wr (l' := [(4, .sl 0 0 0), (10, AL 2 (v0.map eNamedMelody)), (11, AI (v0.length : Int)), (12, AI 0)]) (L := [(0, .row true 3 (([] : List TBlock).map eBlock))]) [4, 10, 11, 12] [(320, 0)] 1 ?_
  refine w_loopF (F_impl_BlocksOfLibrary_l0 v0) (fun s : Int × (List TBlock) => mkS [(4, .sl 0 0 s.2.length), (10, AL 2 (v0.map eNamedMelody)), (11, AI (v0.length : Int)), (12, AI s.1)] (fo [(0, .row true 3 (s.2.map eBlock))]) 1) hF ?_
  rintro k1 ⟨v50006, v50007⟩ hF
  rw [F_impl_BlocksOfLibrary_l0] at hF
  try dsimp only
  refine ws 1 65 ?_
  refine qp (AB (decide (v50006 < (v0.length : Int)))) rfl ?_
  refine r_nil ?_
  refine w_seq ?_
  refine cF hF (fun hF => ?_) fun hF => ?_
  ·
   refine w_skip ?_
   refine thenQ_n ?_
   refine w_seq ?_
   refine w_block ?_
   refine ws 65 321 ?_
   obtain ⟨v1007, e1007, hF⟩ := bind_get hF
   refine qp (.val none (.ptr [.str v1007.1, .sl 2 (v1007.2.map eNote)])) (ev_iad_n rfl rfl e1007 rfl) (qp (.val none (eNamedMelody v1007)) rfl ?_)
   refine qf (.ptr 193 0 0) [(193, .box [AS [], .sl 194 0 0]), (194, .row true 2 (([] : List Int).map vI)), (0, .row true 3 (v50007.map eBlock))] (by simp) ?_
   refine qf0 (.undef) [(193, .box [AS v1007.1, AL 2 (v1007.2.map eNote)]), (193, .box [AS [], .sl 194 0 0]), (194, .row true 2 (([] : List Int).map vI)), (0, .row true 3 (v50007.map eBlock))] (by simp) ?_
   refine r_nil ?_
   refine w_reg 321 961 rfl rfl ?_
   refine qp (.sl 0 0 v50007.length) rfl (qp (.ptr 193 0 0) rfl (qp (AS v1007.1) rfl (qp (.ptr 193 0 1) rfl (qp (AL 2 (v1007.2.map eNote)) rfl ?_))))
   obtain ⟨v1008, e1008, hF⟩ := bind_get hF
   refine qc (AS v1008) [(193, .box [AS v1007.1, AL 2 (v1007.2.map eNote)]), (193, .box [AS [], .sl 194 0 0]), (194, .row true 2 (([] : List Int).map vI)), (0, .row true 3 (v50007.map eBlock))] false (con_impl_MelodyText e1008) c86_ok (by first | rfl | simp) rfl ?_
   refine qf (.agg [AS [109, 101, 108, 111, 100, 121], AS v1007.1, AS v1008]) [(193, .box [AS v1007.1, AL 2 (v1007.2.map eNote)]), (193, .box [AS [], .sl 194 0 0]), (194, .row true 2 (([] : List Int).map vI)), (0, .row true 3 (v50007.map eBlock))] (by simp) ?_
   refine qf (.sl 769 0 (([([109, 101, 108, 111, 100, 121], v1007.1, v1008)] : List TBlock).length)) [(769, .row true 3 (([([109, 101, 108, 111, 100, 121], v1007.1, v1008)] : List TBlock).map eBlock)), (193, .box [AS v1007.1, AL 2 (v1007.2.map eNote)]), (193, .box [AS [], .sl 194 0 0]), (194, .row true 2 (([] : List Int).map vI)), (0, .row true 3 (v50007.map eBlock))] (by simp [List.take_of_length_le]) ?_
   obtain ⟨g1009, hF⟩ := need_some hF
   refine qf (.sl 833 0 ((v50007 ++ ([([109, 101, 108, 111, 100, 121], v1007.1, v1008)] : List TBlock)).length)) [(833, .row true 3 ((v50007 ++ ([([109, 101, 108, 111, 100, 121], v1007.1, v1008)] : List TBlock)).map eBlock)), (0, .dead), (769, .dead), (769, .row true 3 (([([109, 101, 108, 111, 100, 121], v1007.1, v1008)] : List TBlock).map eBlock)), (193, .box [AS v1007.1, AL 2 (v1007.2.map eNote)]), (193, .box [AS [], .sl 194 0 0]), (194, .row true 2 (([] : List Int).map vI)), (0, .row true 3 (v50007.map eBlock))] (effT_app_l rfl (by simp) rfl rfl (by simp) rfl (by decide) g1009 rfl) ?_
   refine qp (.sl 833 0 ((v50007 ++ ([([109, 101, 108, 111, 100, 121], v1007.1, v1008)] : List TBlock)).length)) rfl ?_
   refine r_nil ?_
   refine blockQ_n ?_
   refine thenQ_n ?_
   refine w_reg 961 1089 rfl rfl ?_
   refine qp (AI (w64 (v50006 + 1))) rfl (qp (AI (w64 (v50006 + 1))) rfl ?_)
   refine r_nil ?_
   refine thenQ_n ?_
   refine ar (l' := [(4, .sl 0 0 (v50007 ++ ([([109, 101, 108, 111, 100, 121], v1007.1, v1008)] : List TBlock)).length), (10, AL 2 (v0.map eNamedMelody)), (11, AI (v0.length : Int)), (12, AI (w64 (v50006 + 1)))]) (L := [(0, .row true 3 ((v50007 ++ ([([109, 101, 108, 111, 100, 121], v1007.1, v1008)] : List TBlock)).map eBlock))]) [4, 10, 11, 12] [(833, 0)] 1 ⟨_, by rfl, hF⟩
  ·
   refine w_exit ?_
   refine thenQ_e ?_
   refine thenQ_e ?_
   refine blockQ_e ?_
   refine thenQ_n ?_
   refine ws 65 257 ?_
   refine qp (.sl 0 0 v50007.length) rfl (qp (.sl 0 0 v50007.length) rfl (qp (AI 0) rfl ?_))
   refine r_nil ?_
   refine w_ret ?_
   cases hF
   exact eR

def c64 : MC := (.seq (.reg [rg 2 (.f (.box (.t 0))), rg 3 (.f (.box (.t 1))), rg 4 (.p true (.mv (.c (.bool false))))]) (.seq (.seq (.reg [rg 5 (.p true (.fad (.t 2) 0)), rg 6 (.p true (.ld (.t 5) 1 false)), rg 7 (.p true (.fad (.t 3) 0)), rg 8 (.p true (.ld (.t 7) 1 false)), rg 9 (.p true (.bin .neq (.t 6) (.t 8)))]) (.cond (.t 9) (.seq (.reg [rg 4 (.p true (.mv (.c (.bool false))))]) .ret) .skip)) (.seq (.seq (.reg [rg 10 (.p true (.fad (.t 2) 1)), rg 11 (.p true (.ld (.t 10) 1 false)), rg 12 (.p true (.fad (.t 3) 1)), rg 13 (.p true (.ld (.t 12) 1 false)), rg 14 (.p true (.bin .neq (.t 11) (.t 13)))]) (.cond (.t 14) (.seq (.reg [rg 4 (.p true (.mv (.c (.bool false))))]) .ret) .skip)) (.seq (.seq (.reg [rg 15 (.p true (.fad (.t 2) 2)), rg 16 (.p true (.ld (.t 15) 1 false)), rg 17 (.p true (.fad (.t 3) 2)), rg 18 (.p true (.ld (.t 17) 1 false)), rg 19 (.p true (.bin .neq (.t 16) (.t 18)))]) (.cond (.t 19) (.seq (.reg [rg 4 (.p true (.mv (.c (.bool false))))]) .ret) .skip)) (.seq (.reg [rg 4 (.p true (.mv (.c (.bool true))))]) .ret)))))
theorem c64_is : compFn Tryd.prog 64 = some (c64, [(.tmp 4)]) := by kernel_rfl
theorem c64_ok : okFn Tryd.prog 64 = true := by kernel_rfl

noncomputable def F_laws_eqBlock (v0 : TBlock) (v1 : TBlock) : Option (Bool) :=
 (bif (decide (v0.1 ≠ v1.1)) then some false
 else (bif (decide (v0.2.1 ≠ v1.2.1)) then some false
 else (bif (decide (v0.2.2 ≠ v1.2.2)) then some false
 else some true)))
@[simp] def res_laws_eqBlock (r : Bool) : RV := .one (.one (.val (.bool r)))
theorem con_laws_eqBlock {v0 : TBlock} {v1 : TBlock} {r : Bool} (hF : F_laws_eqBlock v0 v1 = some r) : Con Tryd.prog 64 [eBlock v0, eBlock v1] (res_laws_eqBlock r) := by
 unfold F_laws_eqBlock at hF
 refine con_of c64_is fun N => ?_
 refine ws 0 192 ?_
 refine qf (.ptr 0 0 0) [(0, .box [AS v0.1, AS v0.2.1, AS v0.2.2])] (by simp) ?_
 refine qf (.ptr 64 0 0) [(64, .box [AS v1.1, AS v1.2.1, AS v1.2.2]), (0, .box [AS v0.1, AS v0.2.1, AS v0.2.2])] (by simp) ?_
 refine qp (AB false) rfl ?_
 refine r_nil ?_
 refine w_seq ?_
 refine ws 192 512 ?_
 refine qp (.ptr 0 0 0) rfl (qp (AS v0.1) rfl (qp (.ptr 64 0 0) rfl (qp (AS v1.1) rfl (qp (AB (decide (v0.1 ≠ v1.1))) rfl ?_))))
 refine r_nil ?_
 refine cF hF (fun hF => ?_) fun hF => ?_
 ·
  refine ws 512 576 ?_
  refine qp (AB false) rfl ?_
  refine r_nil ?_
  refine w_ret ?_
  refine thenQ_r ?_
  cases hF
  exact eR
 ·
  refine w_skip ?_
  refine thenQ_n ?_
  refine w_seq ?_
  refine ws 512 832 ?_
  refine qp (.ptr 0 0 1) rfl (qp (AS v0.2.1) rfl (qp (.ptr 64 0 1) rfl (qp (AS v1.2.1) rfl (qp (AB (decide (v0.2.1 ≠ v1.2.1))) rfl ?_))))
  refine r_nil ?_
  refine cF hF (fun hF => ?_) fun hF => ?_
  ·
   refine ws 832 896 ?_
   refine qp (AB false) rfl ?_
   refine r_nil ?_
   refine w_ret ?_
   refine thenQ_r ?_
   cases hF
   exact eR
  ·
   refine w_skip ?_
   refine thenQ_n ?_
   refine w_seq ?_
   refine ws 832 1152 ?_
   refine qp (.ptr 0 0 2) rfl (qp (AS v0.2.2) rfl (qp (.ptr 64 0 2) rfl (qp (AS v1.2.2) rfl (qp (AB (decide (v0.2.2 ≠ v1.2.2))) rfl ?_))))
   refine r_nil ?_
   refine cF hF (fun hF => ?_) fun hF => ?_
   ·
    refine ws 1152 1216 ?_
    refine qp (AB false) rfl ?_
    refine r_nil ?_
    refine w_ret ?_
    refine thenQ_r ?_
    cases hF
    exact eR
   ·
    refine w_skip ?_
    refine thenQ_n ?_
    refine ws 1152 1216 ?_
    refine qp (AB true) rfl ?_
    refine r_nil ?_
    refine w_ret ?_
    cases hF
    exact eR

def c20 : MC := (.seq (.reg [rg 4 (.p true (.mv (.c (.bool false))))]) (.seq (.seq (.reg [mvt 6 0, rg 7 (.p true (.len (.t 6))), mvt 8 1, rg 9 (.p true (.len (.t 8))), rg 10 (.p true (.bin .neq (.t 7) (.t 9)))]) (.cond (.t 10) (.seq (.reg [rg 4 (.p true (.mv (.c (.bool false))))]) .ret) .skip)) (.seq (.seq (.reg [rg 5 (.p true (.mv (.c (.int .i64 0))))]) (.block 0 (.loop (.seq (.seq (.reg [mvt 11 5, mvt 12 0, rg 13 (.p true (.len (.t 12))), rg 14 (.p true (.bin .lss (.t 11) (.t 13)))]) (.cond (.t 14) .skip (.exit 0))) (.seq (.block 1 (.seq (.reg [rg 17 (.p false (.mv (.t 0))), rg 18 (.p false (.mv (.t 5))), rg 19 (.p false (.iad (.t 17) (.t 18) 3)), rg 20 (.p false (.ld (.t 19) 3 true)), rg 21 (.p false (.mv (.t 1))), rg 22 (.p false (.mv (.t 5))), rg 23 (.p false (.iad (.t 21) (.t 22) 3)), rg 24 (.p false (.ld (.t 23) 3 true)), rg 25 (.call false 64 [(.t 20), (.t 24)]), rg 26 (.p false (.not (.t 25)))]) (.cond (.t 26) (.seq (.reg [rg 4 (.p true (.mv (.c (.bool false))))]) .ret) .skip))) (.reg [mvt 15 5, rg 16 (.p true (.bin .add (.t 15) (.c (.int .i64 1)))), mvt 5 16])))))) (.seq (.reg [rg 4 (.p true (.mv (.c (.bool true))))]) .ret))))
theorem c20_is : compFn Tryd.prog 20 = some (c20, [(.tmp 4)]) := by kernel_rfl
theorem c20_ok : okFn Tryd.prog 20 = true := by kernel_rfl

noncomputable def F_laws_eqBlockS_l0 (v0 : List TBlock) (v1 : List TBlock) (k0 : Int → Option (Bool)) : Int → Option (Bool)
 | v50001 => (bif (decide (v50001 < (v0.length : Int))) then ((ix v0 v50001).bind fun v1000 => ((ix v1 v50001).bind fun v1001 => ((F_laws_eqBlock v1000 v1001).bind fun v1002 => (bif (!v1002) then some false
 else k0 (w64 (v50001 + 1))))))
 else some true)
noncomputable def F_laws_eqBlockS (v0 : List TBlock) (v1 : List TBlock) : Option (Bool) :=
 (bif (decide ((v0.length : Int) ≠ (v1.length : Int))) then some false
 else loop (F_laws_eqBlockS_l0 v0 v1) 0)
@[simp] def res_laws_eqBlockS (r : Bool) : RV := .one (.one (.val (.bool r)))
theorem con_laws_eqBlockS {v0 : List TBlock} {v1 : List TBlock} {r : Bool} (hF : F_laws_eqBlockS v0 v1 = some r) : Con Tryd.prog 20 [.sl 3 (v0.map eBlock), .sl 3 (v1.map eBlock)] (res_laws_eqBlockS r) := by
 unfold F_laws_eqBlockS at hF
 refine con_of c20_is fun N => ?_
 refine ws 0 64 ?_
 refine qp (AB false) rfl ?_
 refine r_nil ?_
 refine w_seq ?_
 refine ws 64 384 ?_
 refine qp (AL 3 (v0.map eBlock)) rfl (qp (AI (v0.length : Int)) (ev_len_n rfl) (qp (AL 3 (v1.map eBlock)) rfl (qp (AI (v1.length : Int)) (ev_len_n rfl) (qp (AB (decide ((v0.length : Int) ≠ (v1.length : Int)))) rfl ?_))))
 refine r_nil ?_
 refine cF hF (fun hF => ?_) fun hF => ?_
 ·
  refine ws 384 448 ?_
  refine qp (AB false) rfl ?_
  refine r_nil ?_
  refine w_ret ?_
  refine thenQ_r ?_
  cases hF
  exact eR
 ·
  refine w_skip ?_
  refine thenQ_n ?_
  refine w_seq ?_
  refine ws 384 448 ?_
  refine qp (AI 0) rfl ?_
  refine r_nil ?_
  refine w_block ?_
  refine wr (l' := [(0, AL 3 (v0.map eBlock)), (1, AL 3 (v1.map eBlock)), (5, AI 0)]) (L := []) [0, 1, 5] [] 1 ?_
  refine w_loopF (F_laws_eqBlockS_l0 v0 v1) (fun s : Int => mkS [(0, AL 3 (v0.map eBlock)), (1, AL 3 (v1.map eBlock)), (5, AI s)] (fo []) 1) hF ?_
  rintro k0 v50001 hF
  rw [F_laws_eqBlockS_l0] at hF
  try dsimp only
  refine w_seq ?_
  refine ws 1 257 ?_
  refine qp (AI v50001) rfl (qp (AL 3 (v0.map eBlock)) rfl (qp (AI (v0.length : Int)) (ev_len_n rfl) (qp (AB (decide (v50001 < (v0.length : Int)))) rfl ?_)))
  refine r_nil ?_
  refine cF hF (fun hF => ?_) fun hF => ?_
  ·
   refine w_skip ?_
   refine thenQ_n ?_
   refine w_seq ?_
   refine w_block ?_
   refine ws 257 897 ?_
   refine qp (AL 3 (v0.map eBlock)) rfl (qp (AI v50001) rfl ?_)
   obtain ⟨v1000, e1000, hF⟩ := bind_get hF
   refine qp (.val none (.ptr [.str v1000.1, .str v1000.2.1, .str v1000.2.2])) (ev_iad_n rfl rfl e1000 rfl) (qp (.val none (eBlock v1000)) rfl (qp (AL 3 (v1.map eBlock)) rfl (qp (AI v50001) rfl ?_)))
   obtain ⟨v1001, e1001, hF⟩ := bind_get hF
   refine qp (.val none (.ptr [.str v1001.1, .str v1001.2.1, .str v1001.2.2])) (ev_iad_n rfl rfl e1001 rfl) (qp (.val none (eBlock v1001)) rfl ?_)
   obtain ⟨v1002, e1002, hF⟩ := bind_get hF
   refine qc (AB v1002) [] false (con_laws_eqBlock e1002) c64_ok (by first | rfl | simp) rfl ?_
   refine qp (AB (!v1002)) rfl ?_
   refine r_nil ?_
   refine cF hF (fun hF => ?_) fun hF => ?_
   ·
    refine ws 897 961 ?_
    refine qp (AB false) rfl ?_
    refine r_nil ?_
    refine w_ret ?_
    refine blockQ_r ?_
    refine thenQ_r ?_
    refine thenQ_r ?_
    refine blockQ_r ?_
    refine thenQ_r ?_
    cases hF
    exact eR
   ·
    refine w_skip ?_
    refine blockQ_n ?_
    refine thenQ_n ?_
    refine w_reg 897 1089 rfl rfl ?_
    refine qp (AI v50001) rfl (qp (AI (w64 (v50001 + 1))) rfl (qp (AI (w64 (v50001 + 1))) rfl ?_))
    refine r_nil ?_
    refine thenQ_n ?_
    refine ar (l' := [(0, AL 3 (v0.map eBlock)), (1, AL 3 (v1.map eBlock)), (5, AI (w64 (v50001 + 1)))]) (L := []) [0, 1, 5] [] 1 ⟨_, by rfl, hF⟩
  ·
   refine w_exit ?_
   refine thenQ_e ?_
   refine thenQ_e ?_
   refine blockQ_e ?_
   refine thenQ_n ?_
   refine ws 257 321 ?_
   refine qp (AB true) rfl ?_
   refine r_nil ?_
   refine w_ret ?_
   cases hF
   exact eR

def c169 : MC := (.seq (.reg [rg 2 (.f (.box (.t 0))), rg 3 (.f (.box (.t 1))), rg 4 (.p true (.mv (.c (.bool false))))]) (.seq (.seq (.reg [rg 5 (.p true (.fad (.t 2) 0)), rg 6 (.p true (.ld (.t 5) 1 false)), rg 7 (.p true (.fad (.t 3) 0)), rg 8 (.p true (.ld (.t 7) 1 false)), rg 9 (.p true (.bin .neq (.t 6) (.t 8)))]) (.cond (.t 9) (.seq (.reg [rg 4 (.p true (.mv (.c (.bool false))))]) .ret) .skip)) (.seq (.seq (.reg [rg 10 (.p true (.fad (.t 2) 1)), rg 11 (.p true (.ld (.t 10) 1 false)), rg 12 (.p true (.fad (.t 3) 1)), rg 13 (.p true (.ld (.t 12) 1 false)), rg 14 (.p true (.bin .neq (.t 11) (.t 13)))]) (.cond (.t 14) (.seq (.reg [rg 4 (.p true (.mv (.c (.bool false))))]) .ret) .skip)) (.seq (.reg [rg 4 (.p true (.mv (.c (.bool true))))]) .ret))))
theorem c169_is : compFn Tryd.prog 169 = some (c169, [(.tmp 4)]) := by kernel_rfl
theorem c169_ok : okFn Tryd.prog 169 = true := by kernel_rfl

noncomputable def F_laws_eqNote (v0 : TNote) (v1 : TNote) : Option (Bool) :=
 (bif (decide (v0.1 ≠ v1.1)) then some false
 else (bif (decide (v0.2 ≠ v1.2)) then some false
 else some true))
@[simp] def res_laws_eqNote (r : Bool) : RV := .one (.one (.val (.bool r)))
theorem con_laws_eqNote {v0 : TNote} {v1 : TNote} {r : Bool} (hF : F_laws_eqNote v0 v1 = some r) : Con Tryd.prog 169 [eNote v0, eNote v1] (res_laws_eqNote r) := by
 unfold F_laws_eqNote at hF
 refine con_of c169_is fun N => ?_
 refine ws 0 192 ?_
 refine qf (.ptr 0 0 0) [(0, .box [AI v0.1, AI v0.2])] (by simp) ?_
 refine qf (.ptr 64 0 0) [(64, .box [AI v1.1, AI v1.2]), (0, .box [AI v0.1, AI v0.2])] (by simp) ?_
 refine qp (AB false) rfl ?_
 refine r_nil ?_
 refine w_seq ?_
 refine ws 192 512 ?_
 refine qp (.ptr 0 0 0) rfl (qp (AI v0.1) rfl (qp (.ptr 64 0 0) rfl (qp (AI v1.1) rfl (qp (AB (decide (v0.1 ≠ v1.1))) rfl ?_))))
 refine r_nil ?_
 refine cF hF (fun hF => ?_) fun hF => ?_
 ·
  refine ws 512 576 ?_
  refine qp (AB false) rfl ?_
  refine r_nil ?_
  refine w_ret ?_
  refine thenQ_r ?_
  cases hF
  exact eR
 ·
  refine w_skip ?_
  refine thenQ_n ?_
  refine w_seq ?_
  refine ws 512 832 ?_
  refine qp (.ptr 0 0 1) rfl (qp (AI v0.2) rfl (qp (.ptr 64 0 1) rfl (qp (AI v1.2) rfl (qp (AB (decide (v0.2 ≠ v1.2))) rfl ?_))))
  refine r_nil ?_
  refine cF hF (fun hF => ?_) fun hF => ?_
  ·
   refine ws 832 896 ?_
   refine qp (AB false) rfl ?_
   refine r_nil ?_
   refine w_ret ?_
   refine thenQ_r ?_
   cases hF
   exact eR
  ·
   refine w_skip ?_
   refine thenQ_n ?_
   refine ws 832 896 ?_
   refine qp (AB true) rfl ?_
   refine r_nil ?_
   refine w_ret ?_
   cases hF
   exact eR

def c131 : MC := (.seq (.reg [rg 4 (.p true (.mv (.c (.bool false))))]) (.seq (.seq (.reg [mvt 6 0, rg 7 (.p true (.len (.t 6))), mvt 8 1, rg 9 (.p true (.len (.t 8))), rg 10 (.p true (.bin .neq (.t 7) (.t 9)))]) (.cond (.t 10) (.seq (.reg [rg 4 (.p true (.mv (.c (.bool false))))]) .ret) .skip)) (.seq (.seq (.reg [rg 5 (.p true (.mv (.c (.int .i64 0))))]) (.block 0 (.loop (.seq (.seq (.reg [mvt 11 5, mvt 12 0, rg 13 (.p true (.len (.t 12))), rg 14 (.p true (.bin .lss (.t 11) (.t 13)))]) (.cond (.t 14) .skip (.exit 0))) (.seq (.block 1 (.seq (.reg [rg 17 (.p false (.mv (.t 0))), rg 18 (.p false (.mv (.t 5))), rg 19 (.p false (.iad (.t 17) (.t 18) 2)), rg 20 (.p false (.ld (.t 19) 2 true)), rg 21 (.p false (.mv (.t 1))), rg 22 (.p false (.mv (.t 5))), rg 23 (.p false (.iad (.t 21) (.t 22) 2)), rg 24 (.p false (.ld (.t 23) 2 true)), rg 25 (.call false 169 [(.t 20), (.t 24)]), rg 26 (.p false (.not (.t 25)))]) (.cond (.t 26) (.seq (.reg [rg 4 (.p true (.mv (.c (.bool false))))]) .ret) .skip))) (.reg [mvt 15 5, rg 16 (.p true (.bin .add (.t 15) (.c (.int .i64 1)))), mvt 5 16])))))) (.seq (.reg [rg 4 (.p true (.mv (.c (.bool true))))]) .ret))))
theorem c131_is : compFn Tryd.prog 131 = some (c131, [(.tmp 4)]) := by kernel_rfl
theorem c131_ok : okFn Tryd.prog 131 = true := by kernel_rfl

noncomputable def F_laws_eqNoteS_l0 (v0 : List TNote) (v1 : List TNote) (k0 : Int → Option (Bool)) : Int → Option (Bool)
 | v50001 => (bif (decide (v50001 < (v0.length : Int))) then ((ix v0 v50001).bind fun v1000 => ((ix v1 v50001).bind fun v1001 => ((F_laws_eqNote v1000 v1001).bind fun v1002 => (bif (!v1002) then some false
 else k0 (w64 (v50001 + 1))))))
 else some true)
noncomputable def F_laws_eqNoteS (v0 : List TNote) (v1 : List TNote) : Option (Bool) :=
 (bif (decide ((v0.length : Int) ≠ (v1.length : Int))) then some false
 else loop (F_laws_eqNoteS_l0 v0 v1) 0)
@[simp] def res_laws_eqNoteS (r : Bool) : RV := .one (.one (.val (.bool r)))
theorem con_laws_eqNoteS {v0 : List TNote} {v1 : List TNote} {r : Bool} (hF : F_laws_eqNoteS v0 v1 = some r) : Con Tryd.prog 131 [.sl 2 (v0.map eNote), .sl 2 (v1.map eNote)] (res_laws_eqNoteS r) := by
 unfold F_laws_eqNoteS at hF
 refine con_of c131_is fun N => ?_
 refine ws 0 64 ?_
 refine qp (AB false) rfl ?_
 refine r_nil ?_
 refine w_seq ?_
 refine ws 64 384 ?_
 refine qp (AL 2 (v0.map eNote)) rfl (qp (AI (v0.length : Int)) (ev_len_n rfl) (qp (AL 2 (v1.map eNote)) rfl (qp (AI (v1.length : Int)) (ev_len_n rfl) (qp (AB (decide ((v0.length : Int) ≠ (v1.length : Int)))) rfl ?_))))
 refine r_nil ?_
 refine cF hF (fun hF => ?_) fun hF => ?_
 ·
  refine ws 384 448 ?_
  refine qp (AB false) rfl ?_
  refine r_nil ?_
  refine w_ret ?_
  refine thenQ_r ?_
  cases hF
  exact eR
 ·
  refine w_skip ?_
  refine thenQ_n ?_
  refine w_seq ?_
  refine ws 384 448 ?_
  refine qp (AI 0) rfl ?_
  refine r_nil ?_
  refine w_block ?_
  refine wr (l' := [(0, AL 2 (v0.map eNote)), (1, AL 2 (v1.map eNote)), (5, AI 0)]) (L := []) [0, 1, 5] [] 1 ?_
  refine w_loopF (F_laws_eqNoteS_l0 v0 v1) (fun s : Int => mkS [(0, AL 2 (v0.map eNote)), (1, AL 2 (v1.map eNote)), (5, AI s)] (fo []) 1) hF ?_
  rintro k0 v50001 hF
  rw [F_laws_eqNoteS_l0] at hF
  try dsimp only
  refine w_seq ?_
  refine ws 1 257 ?_
  refine qp (AI v50001) rfl (qp (AL 2 (v0.map eNote)) rfl (qp (AI (v0.length : Int)) (ev_len_n rfl) (qp (AB (decide (v50001 < (v0.length : Int)))) rfl ?_)))
  refine r_nil ?_
  refine cF hF (fun hF => ?_) fun hF => ?_
  ·
   refine w_skip ?_
   refine thenQ_n ?_
   refine w_seq ?_
   refine w_block ?_
   refine ws 257 897 ?_
   refine qp (AL 2 (v0.map eNote)) rfl (qp (AI v50001) rfl ?_)
   obtain ⟨v1000, e1000, hF⟩ := bind_get hF
   refine qp (.val none (.ptr [.int .i64 v1000.1, .int .i64 v1000.2])) (ev_iad_n rfl rfl e1000 rfl) (qp (.val none (eNote v1000)) rfl (qp (AL 2 (v1.map eNote)) rfl (qp (AI v50001) rfl ?_)))
   obtain ⟨v1001, e1001, hF⟩ := bind_get hF
   refine qp (.val none (.ptr [.int .i64 v1001.1, .int .i64 v1001.2])) (ev_iad_n rfl rfl e1001 rfl) (qp (.val none (eNote v1001)) rfl ?_)
   obtain ⟨v1002, e1002, hF⟩ := bind_get hF
   refine qc (AB v1002) [] false (con_laws_eqNote e1002) c169_ok (by first | rfl | simp) rfl ?_
   refine qp (AB (!v1002)) rfl ?_
   refine r_nil ?_
   refine cF hF (fun hF => ?_) fun hF => ?_
   ·
    refine ws 897 961 ?_
    refine qp (AB false) rfl ?_
    refine r_nil ?_
    refine w_ret ?_
    refine blockQ_r ?_
    refine thenQ_r ?_
    refine thenQ_r ?_
    refine blockQ_r ?_
    refine thenQ_r ?_
    cases hF
    exact eR
   ·
    refine w_skip ?_
    refine blockQ_n ?_
    refine thenQ_n ?_
    refine w_reg 897 1089 rfl rfl ?_
    refine qp (AI v50001) rfl (qp (AI (w64 (v50001 + 1))) rfl (qp (AI (w64 (v50001 + 1))) rfl ?_))
    refine r_nil ?_
    refine thenQ_n ?_
    refine ar (l' := [(0, AL 2 (v0.map eNote)), (1, AL 2 (v1.map eNote)), (5, AI (w64 (v50001 + 1)))]) (L := []) [0, 1, 5] [] 1 ⟨_, by rfl, hF⟩
  ·
   refine w_exit ?_
   refine thenQ_e ?_
   refine thenQ_e ?_
   refine blockQ_e ?_
   refine thenQ_n ?_
   refine ws 257 321 ?_
   refine qp (AB true) rfl ?_
   refine r_nil ?_
   refine w_ret ?_
   cases hF
   exact eR

def c87 : MC := (.seq (.reg [rg 2 (.f (.box (.t 0))), rg 3 (.f (.box (.t 1))), rg 4 (.p true (.mv (.c (.bool false))))]) (.seq (.seq (.reg [rg 5 (.p true (.fad (.t 2) 0)), rg 6 (.p true (.ld (.t 5) 1 false)), rg 7 (.p true (.fad (.t 3) 0)), rg 8 (.p true (.ld (.t 7) 1 false)), rg 9 (.p true (.bin .neq (.t 6) (.t 8)))]) (.cond (.t 9) (.seq (.reg [rg 4 (.p true (.mv (.c (.bool false))))]) .ret) .skip)) (.seq (.seq (.reg [rg 10 (.p true (.fad (.t 2) 1)), rg 11 (.p true (.ld (.t 10) 1 false)), rg 12 (.p true (.fad (.t 3) 1)), rg 13 (.p true (.ld (.t 12) 1 false)), rg 14 (.call true 131 [(.t 11), (.t 13)]), rg 15 (.p true (.not (.t 14)))]) (.cond (.t 15) (.seq (.reg [rg 4 (.p true (.mv (.c (.bool false))))]) .ret) .skip)) (.seq (.reg [rg 4 (.p true (.mv (.c (.bool true))))]) .ret))))
theorem c87_is : compFn Tryd.prog 87 = some (c87, [(.tmp 4)]) := by kernel_rfl
theorem c87_ok : okFn Tryd.prog 87 = true := by kernel_rfl

noncomputable def F_laws_eqNamedMelody (v0 : TNamedMelody) (v1 : TNamedMelody) : Option (Bool) :=
 (bif (decide (v0.1 ≠ v1.1)) then some false
 else ((F_laws_eqNoteS v0.2 v1.2).bind fun v1000 => (bif (!v1000) then some false
 else some true)))
@[simp] def res_laws_eqNamedMelody (r : Bool) : RV := .one (.one (.val (.bool r)))
theorem con_laws_eqNamedMelody {v0 : TNamedMelody} {v1 : TNamedMelody} {r : Bool} (hF : F_laws_eqNamedMelody v0 v1 = some r) : Con Tryd.prog 87 [eNamedMelody v0, eNamedMelody v1] (res_laws_eqNamedMelody r) := by
 unfold F_laws_eqNamedMelody at hF
 refine con_of c87_is fun N => ?_
 refine ws 0 192 ?_
 refine qf (.ptr 0 0 0) [(0, .box [AS v0.1, AL 2 (v0.2.map eNote)])] (by simp) ?_
 refine qf (.ptr 64 0 0) [(64, .box [AS v1.1, AL 2 (v1.2.map eNote)]), (0, .box [AS v0.1, AL 2 (v0.2.map eNote)])] (by simp) ?_
 refine qp (AB false) rfl ?_
 refine r_nil ?_
 refine w_seq ?_
 refine ws 192 512 ?_
 refine qp (.ptr 0 0 0) rfl (qp (AS v0.1) rfl (qp (.ptr 64 0 0) rfl (qp (AS v1.1) rfl (qp (AB (decide (v0.1 ≠ v1.1))) rfl ?_))))
 refine r_nil ?_
 refine cF hF (fun hF => ?_) fun hF => ?_
 ·
  refine ws 512 576 ?_
  refine qp (AB false) rfl ?_
  refine r_nil ?_
  refine w_ret ?_
  refine thenQ_r ?_
  cases hF
  exact eR
 ·
  refine w_skip ?_
  refine thenQ_n ?_
  refine w_seq ?_
  refine ws 512 896 ?_
  refine qp (.ptr 0 0 1) rfl (qp (AL 2 (v0.2.map eNote)) rfl (qp (.ptr 64 0 1) rfl (qp (AL 2 (v1.2.map eNote)) rfl ?_)))
  obtain ⟨v1000, e1000, hF⟩ := bind_get hF
  refine qc (AB v1000) [(64, .box [AS v1.1, AL 2 (v1.2.map eNote)]), (0, .box [AS v0.1, AL 2 (v0.2.map eNote)])] false (con_laws_eqNoteS e1000) c131_ok (by first | rfl | simp) rfl ?_
  refine qp (AB (!v1000)) rfl ?_
  refine r_nil ?_
  refine cF hF (fun hF => ?_) fun hF => ?_
  ·
   refine ws 896 960 ?_
   refine qp (AB false) rfl ?_
   refine r_nil ?_
   refine w_ret ?_
   refine thenQ_r ?_
   cases hF
   exact eR
  ·
   refine w_skip ?_
   refine thenQ_n ?_
   refine ws 896 960 ?_
   refine qp (AB true) rfl ?_
   refine r_nil ?_
   refine w_ret ?_
   cases hF
   exact eR

end Go.Ab
