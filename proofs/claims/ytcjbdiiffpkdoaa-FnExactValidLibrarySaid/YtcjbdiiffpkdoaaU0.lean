/- Walks (printed by auto.py, a program of this session's own). -/
import Derived.Test.YtcjbdiiffpkdoaaA30
import Derived.Test.YtcjbdiiffpkdoaaProg
import Derived.KernelRfl
set_option linter.unusedVariables false
set_option linter.unusedSimpArgs false
namespace Go.Ab
open Go.RowKit Go.Proofs

abbrev TNote := Int × Int
@[simp] def eNote (p : TNote) : V := .agg [.int .i64 p.1, .int .i64 p.2]
abbrev TNamedMelody := (List UInt8) × (List TNote)
@[simp] def eNamedMelody (p : TNamedMelody) : V := .agg [.str p.1, .sl 2 (p.2.map eNote)]
def c103 : MC := (.seq (.reg [⟨(some 4), none, (.p true (.mv (.c (.int .i64 0))))⟩]) (.seq (.reg [⟨(some 5), none, (.p true (.mv (.t 1)))⟩, ⟨(some 6), none, (.p true (.mv (.t 0)))⟩, ⟨(some 7), none, (.p true (.len (.t 6)))⟩, ⟨(some 8), none, (.p true (.bin .sub (.t 5) (.t 7)))⟩, ⟨(some 1), none, (.p true (.mv (.t 8)))⟩]) (.seq (.seq (.reg [⟨(some 9), none, (.p true (.mv (.t 1)))⟩, ⟨(some 10), none, (.p true (.bin .lss (.t 9) (.c (.int .i64 0))))⟩]) (.cond (.t 10) (.seq (.reg [⟨(some 4), none, (.p true (.mv (.c (.int .i64 (-1)))))⟩]) .ret) .skip)) (.seq (.reg [⟨(some 11), none, (.p true (.mv (.t 1)))⟩, ⟨(some 4), none, (.p true (.mv (.t 11)))⟩]) .ret))))
theorem c103_is : compFn Try.prog 103 = some (c103, [(.tmp 4)]) := by kernel_rfl
theorem c103_ok : okFn Try.prog 103 = true := by kernel_rfl

def F_laws_szNoteS (v0 : List TNote) (v1 : Int) : Option (Int) :=
  (bif (decide (w64 (v1 - (v0.length : Int)) < (0 : Int))) then some (-1)
  else some (w64 (v1 - (v0.length : Int))))
@[simp] def res_laws_szNoteS (r : Int) : RV := .one (.one (.val (.int .i64 r)))
theorem con_laws_szNoteS {v0 : List TNote} {v1 : Int} {r : Int} (hF : F_laws_szNoteS v0 v1 = some r) : Con Try.prog 103 [.sl 2 (v0.map eNote), .int .i64 v1] (res_laws_szNoteS r) := by
  unfold F_laws_szNoteS at hF
  refine con_of c103_is fun N => ?_
  refine w_reg_seq 0 64 rfl rfl ?_
  refine qp (AI 0) rfl ?_
  refine r_nil ?_
  refine w_reg_seq 64 384 rfl rfl ?_
  refine qp (AI v1) rfl (qp (.val none (.sl 2 (v0.map eNote))) rfl (qp (AI (v0.length : Int)) (ev_len_n rfl) (qp (AI (w64 (v1 - (v0.length : Int)))) rfl (qp (AI (w64 (v1 - (v0.length : Int)))) rfl ?_))))
  refine r_nil ?_
  refine w_seq ?_
  refine w_reg_seq 384 512 rfl rfl ?_
  refine qp (AI (w64 (v1 - (v0.length : Int)))) rfl (qp (AB (decide (w64 (v1 - (v0.length : Int)) < (0 : Int)))) rfl ?_)
  refine r_nil ?_
  refine w_condF hF rfl (fun hF => ?_) (fun hF => ?_)
  ·
    refine w_reg_seq 512 576 rfl rfl ?_
    refine qp (AI (-1)) rfl ?_
    refine r_nil ?_
    refine w_ret ?_
    refine thenQ_r ?_
    cases hF
    exact endQ_r rfl (.inl ⟨_, _, by first | rfl | (simp [List.take_of_length_le]; first | exact ⟨rfl, rfl⟩ | rfl), by simp, by first | rfl | simp [res_laws_szNoteS, List.take_of_length_le]⟩)
  ·
    refine w_skip ?_
    refine thenQ_n ?_
    refine w_reg_seq 512 640 rfl rfl ?_
    refine qp (AI (w64 (v1 - (v0.length : Int)))) rfl (qp (AI (w64 (v1 - (v0.length : Int)))) rfl ?_)
    refine r_nil ?_
    refine w_ret ?_
    cases hF
    exact endQ_r rfl (.inl ⟨_, _, by first | rfl | (simp [List.take_of_length_le]; first | exact ⟨rfl, rfl⟩ | rfl), by simp, by first | rfl | simp [res_laws_szNoteS, List.take_of_length_le]⟩)

def c82 : MC := (.seq (.reg [⟨(some 2), none, (.f (.box (.t 0)))⟩, ⟨(some 4), none, (.p true (.mv (.c (.int .i64 0))))⟩]) (.seq (.reg [⟨(some 5), none, (.p true (.mv (.t 1)))⟩, ⟨(some 6), none, (.p true (.fad (.t 2) 0))⟩, ⟨(some 7), none, (.p true (.ld (.t 6) 1 false))⟩, ⟨(some 8), none, (.p true (.lens (.t 7)))⟩, ⟨(some 9), none, (.p true (.bin .sub (.t 5) (.t 8)))⟩, ⟨(some 1), none, (.p true (.mv (.t 9)))⟩]) (.seq (.seq (.reg [⟨(some 10), none, (.p true (.mv (.t 1)))⟩, ⟨(some 11), none, (.p true (.bin .lss (.t 10) (.c (.int .i64 0))))⟩]) (.cond (.t 11) (.seq (.reg [⟨(some 4), none, (.p true (.mv (.c (.int .i64 (-1)))))⟩]) .ret) .skip)) (.seq (.reg [⟨(some 12), none, (.p true (.fad (.t 2) 1))⟩, ⟨(some 13), none, (.p true (.ld (.t 12) 1 false))⟩, ⟨(some 14), none, (.p true (.mv (.t 1)))⟩, ⟨(some 15), none, (.call true 103 [(.t 13), (.t 14)])⟩, ⟨(some 1), none, (.p true (.mv (.t 15)))⟩]) (.seq (.seq (.reg [⟨(some 16), none, (.p true (.mv (.t 1)))⟩, ⟨(some 17), none, (.p true (.bin .lss (.t 16) (.c (.int .i64 0))))⟩]) (.cond (.t 17) (.seq (.reg [⟨(some 4), none, (.p true (.mv (.c (.int .i64 (-1)))))⟩]) .ret) .skip)) (.seq (.reg [⟨(some 18), none, (.p true (.mv (.t 1)))⟩, ⟨(some 4), none, (.p true (.mv (.t 18)))⟩]) .ret))))))
theorem c82_is : compFn Try.prog 82 = some (c82, [(.tmp 4)]) := by kernel_rfl
theorem c82_ok : okFn Try.prog 82 = true := by kernel_rfl

def F_laws_szNamedMelody (v0 : TNamedMelody) (v1 : Int) : Option (Int) :=
  (bif (decide (w64 (v1 - (v0.1.length : Int)) < (0 : Int))) then some (-1)
  else ((F_laws_szNoteS v0.2 (w64 (v1 - (v0.1.length : Int)))).bind fun v1000 => (bif (decide (v1000 < (0 : Int))) then some (-1)
  else some v1000)))
@[simp] def res_laws_szNamedMelody (r : Int) : RV := .one (.one (.val (.int .i64 r)))
theorem con_laws_szNamedMelody {v0 : TNamedMelody} {v1 : Int} {r : Int} (hF : F_laws_szNamedMelody v0 v1 = some r) : Con Try.prog 82 [eNamedMelody v0, .int .i64 v1] (res_laws_szNamedMelody r) := by
  unfold F_laws_szNamedMelody at hF
  refine con_of c82_is fun N => ?_
  refine w_reg_seq 0 128 rfl rfl ?_
  refine qf (.ptr 0 0 0) [(0, .box [AS v0.1, .val none (.sl 2 (v0.2.map eNote))])] (by simp) ?_
  refine qp (AI 0) rfl ?_
  refine r_nil ?_
  refine w_reg_seq 128 512 rfl rfl ?_
  refine qp (AI v1) rfl (qp (.ptr 0 0 0) rfl (qp (AS v0.1) rfl (qp (AI (v0.1.length : Int)) rfl (qp (AI (w64 (v1 - (v0.1.length : Int)))) rfl (qp (AI (w64 (v1 - (v0.1.length : Int)))) rfl ?_)))))
  refine r_nil ?_
  refine w_seq ?_
  refine w_reg_seq 512 640 rfl rfl ?_
  refine qp (AI (w64 (v1 - (v0.1.length : Int)))) rfl (qp (AB (decide (w64 (v1 - (v0.1.length : Int)) < (0 : Int)))) rfl ?_)
  refine r_nil ?_
  refine w_condF hF rfl (fun hF => ?_) (fun hF => ?_)
  ·
    refine w_reg_seq 640 704 rfl rfl ?_
    refine qp (AI (-1)) rfl ?_
    refine r_nil ?_
    refine w_ret ?_
    refine thenQ_r ?_
    cases hF
    exact endQ_r rfl (.inl ⟨_, _, by first | rfl | (simp [List.take_of_length_le]; first | exact ⟨rfl, rfl⟩ | rfl), by simp, by first | rfl | simp [res_laws_szNamedMelody, List.take_of_length_le]⟩)
  ·
    refine w_skip ?_
    refine thenQ_n ?_
    refine w_reg_seq 640 960 rfl rfl ?_
    refine qp (.ptr 0 0 1) rfl (qp (.val none (.sl 2 (v0.2.map eNote))) rfl (qp (AI (w64 (v1 - (v0.1.length : Int)))) rfl ?_))
    obtain ⟨v1000, e1000, hF⟩ := bind_get hF
    refine qc (AI v1000) [(0, .box [AS v0.1, .val none (.sl 2 (v0.2.map eNote))])] false (con_laws_szNoteS e1000) c103_ok (by first | rfl | simp) rfl ?_
    refine qp (AI v1000) rfl ?_
    refine r_nil ?_
    refine w_seq ?_
    refine w_reg_seq 960 1088 rfl rfl ?_
    refine qp (AI v1000) rfl (qp (AB (decide (v1000 < (0 : Int)))) rfl ?_)
    refine r_nil ?_
    refine w_condF hF rfl (fun hF => ?_) (fun hF => ?_)
    ·
      refine w_reg_seq 1088 1152 rfl rfl ?_
      refine qp (AI (-1)) rfl ?_
      refine r_nil ?_
      refine w_ret ?_
      refine thenQ_r ?_
      cases hF
      exact endQ_r rfl (.inl ⟨_, _, by first | rfl | (simp [List.take_of_length_le]; first | exact ⟨rfl, rfl⟩ | rfl), by simp, by first | rfl | simp [res_laws_szNamedMelody, List.take_of_length_le]⟩)
    ·
      refine w_skip ?_
      refine thenQ_n ?_
      refine w_reg_seq 1088 1216 rfl rfl ?_
      refine qp (AI v1000) rfl (qp (AI v1000) rfl ?_)
      refine r_nil ?_
      refine w_ret ?_
      cases hF
      exact endQ_r rfl (.inl ⟨_, _, by first | rfl | (simp [List.take_of_length_le]; first | exact ⟨rfl, rfl⟩ | rfl), by simp, by first | rfl | simp [res_laws_szNamedMelody, List.take_of_length_le]⟩)

def c46 : MC := (.seq (.reg [⟨(some 4), none, (.p true (.mv (.c (.int .i64 0))))⟩]) (.seq (.reg [⟨(some 6), none, (.p true (.mv (.t 1)))⟩, ⟨(some 7), none, (.p true (.mv (.t 0)))⟩, ⟨(some 8), none, (.p true (.len (.t 7)))⟩, ⟨(some 9), none, (.p true (.bin .sub (.t 6) (.t 8)))⟩, ⟨(some 1), none, (.p true (.mv (.t 9)))⟩]) (.seq (.seq (.reg [⟨(some 10), none, (.p true (.mv (.t 1)))⟩, ⟨(some 11), none, (.p true (.bin .lss (.t 10) (.c (.int .i64 0))))⟩]) (.cond (.t 11) (.seq (.reg [⟨(some 4), none, (.p true (.mv (.c (.int .i64 (-1)))))⟩]) .ret) .skip)) (.seq (.seq (.reg [⟨(some 5), none, (.p true (.mv (.c (.int .i64 0))))⟩]) (.block 0 (.loop (.seq (.seq (.reg [⟨(some 12), none, (.p true (.mv (.t 5)))⟩, ⟨(some 13), none, (.p true (.mv (.t 0)))⟩, ⟨(some 14), none, (.p true (.len (.t 13)))⟩, ⟨(some 15), none, (.p true (.bin .lss (.t 12) (.t 14)))⟩]) (.cond (.t 15) .skip (.exit 0))) (.seq (.block 1 (.seq (.reg [⟨(some 18), none, (.p true (.mv (.t 0)))⟩, ⟨(some 19), none, (.p true (.mv (.t 5)))⟩, ⟨(some 20), none, (.p true (.iad (.t 18) (.t 19) 2))⟩, ⟨(some 21), none, (.p true (.ld (.t 20) 2 true))⟩, ⟨(some 22), none, (.p true (.mv (.t 1)))⟩, ⟨(some 23), none, (.call true 82 [(.t 21), (.t 22)])⟩, ⟨(some 1), none, (.p true (.mv (.t 23)))⟩]) (.seq (.reg [⟨(some 24), none, (.p true (.mv (.t 1)))⟩, ⟨(some 25), none, (.p true (.bin .lss (.t 24) (.c (.int .i64 0))))⟩]) (.cond (.t 25) (.seq (.reg [⟨(some 4), none, (.p true (.mv (.c (.int .i64 (-1)))))⟩]) .ret) .skip)))) (.reg [⟨(some 16), none, (.p true (.mv (.t 5)))⟩, ⟨(some 17), none, (.p true (.bin .add (.t 16) (.c (.int .i64 1))))⟩, ⟨(some 5), none, (.p true (.mv (.t 17)))⟩])))))) (.seq (.reg [⟨(some 26), none, (.p true (.mv (.t 1)))⟩, ⟨(some 4), none, (.p true (.mv (.t 26)))⟩]) .ret)))))
theorem c46_is : compFn Try.prog 46 = some (c46, [(.tmp 4)]) := by kernel_rfl
theorem c46_ok : okFn Try.prog 46 = true := by kernel_rfl

def F_laws_szNamedMelodyS_l0 (v0 : List TNamedMelody) (k0 : Int × Int → Option (Int)) : Int × Int → Option (Int)
  | (v8, v9) => (bif (decide (v9 < (v0.length : Int))) then ((ix v0 v9).bind fun v1000 => ((F_laws_szNamedMelody v1000 v8).bind fun v1001 => (bif (decide (v1001 < (0 : Int))) then some (-1)
  else k0 (v1001, w64 (v9 + 1)))))
  else some v8)
def F_laws_szNamedMelodyS (v0 : List TNamedMelody) (v1 : Int) : Option (Int) :=
  (bif (decide (w64 (v1 - (v0.length : Int)) < (0 : Int))) then some (-1)
  else loop (F_laws_szNamedMelodyS_l0 v0) (w64 (v1 - (v0.length : Int)), 0))
@[simp] def res_laws_szNamedMelodyS (r : Int) : RV := .one (.one (.val (.int .i64 r)))
theorem con_laws_szNamedMelodyS {v0 : List TNamedMelody} {v1 : Int} {r : Int} (hF : F_laws_szNamedMelodyS v0 v1 = some r) : Con Try.prog 46 [.sl 2 (v0.map eNamedMelody), .int .i64 v1] (res_laws_szNamedMelodyS r) := by
  unfold F_laws_szNamedMelodyS at hF
  refine con_of c46_is fun N => ?_
  refine w_reg_seq 0 64 rfl rfl ?_
  refine qp (AI 0) rfl ?_
  refine r_nil ?_
  refine w_reg_seq 64 384 rfl rfl ?_
  refine qp (AI v1) rfl (qp (.val none (.sl 2 (v0.map eNamedMelody))) rfl (qp (AI (v0.length : Int)) (ev_len_n rfl) (qp (AI (w64 (v1 - (v0.length : Int)))) rfl (qp (AI (w64 (v1 - (v0.length : Int)))) rfl ?_))))
  refine r_nil ?_
  refine w_seq ?_
  refine w_reg_seq 384 512 rfl rfl ?_
  refine qp (AI (w64 (v1 - (v0.length : Int)))) rfl (qp (AB (decide (w64 (v1 - (v0.length : Int)) < (0 : Int)))) rfl ?_)
  refine r_nil ?_
  refine w_condF hF rfl (fun hF => ?_) (fun hF => ?_)
  ·
    refine w_reg_seq 512 576 rfl rfl ?_
    refine qp (AI (-1)) rfl ?_
    refine r_nil ?_
    refine w_ret ?_
    refine thenQ_r ?_
    cases hF
    exact endQ_r rfl (.inl ⟨_, _, by first | rfl | (simp [List.take_of_length_le]; first | exact ⟨rfl, rfl⟩ | rfl), by simp, by first | rfl | simp [res_laws_szNamedMelodyS, List.take_of_length_le]⟩)
  ·
    refine w_skip ?_
    refine thenQ_n ?_
    refine w_seq ?_
    refine w_reg_seq 512 576 rfl rfl ?_
    refine qp (AI 0) rfl ?_
    refine r_nil ?_
    refine w_block ?_
    refine w_ren (l' := [(0, .val none (.sl 2 (v0.map eNamedMelody))), (1, AI (w64 (v1 - (v0.length : Int)))), (5, AI 0)]) (L := []) [0, 1, 5] [] 1 (by first | rfl | simp) (by first | rfl | simp) (by decide) (by decide) (by decide) ?_
    refine w_loopF (F_laws_szNamedMelodyS_l0 v0) (fun s : Int × Int => mkS [(0, .val none (.sl 2 (v0.map eNamedMelody))), (1, AI s.1), (5, AI s.2)] (fo []) 1) hF ?_
    rintro k0 ⟨v8, v9⟩ hF
    rw [F_laws_szNamedMelodyS_l0] at hF
    try dsimp only
    refine w_seq ?_
    refine w_reg_seq 1 257 rfl rfl ?_
    refine qp (AI v9) rfl (qp (.val none (.sl 2 (v0.map eNamedMelody))) rfl (qp (AI (v0.length : Int)) (ev_len_n rfl) (qp (AB (decide (v9 < (v0.length : Int)))) rfl ?_)))
    refine r_nil ?_
    refine w_condF hF rfl (fun hF => ?_) (fun hF => ?_)
    ·
      refine w_skip ?_
      refine thenQ_n ?_
      refine w_seq ?_
      refine w_block ?_
      refine w_reg_seq 257 705 rfl rfl ?_
      refine qp (.val none (.sl 2 (v0.map eNamedMelody))) rfl (qp (AI v9) rfl ?_)
      obtain ⟨v1000, e1000, hF⟩ := bind_get hF
      refine qp (.val none (.ptr [.str v1000.1, .sl 2 (v1000.2.map eNote)])) (ev_iad_n rfl rfl e1000 rfl) (qp (.val none (eNamedMelody v1000)) rfl (qp (AI v8) rfl ?_))
      obtain ⟨v1001, e1001, hF⟩ := bind_get hF
      refine qc (AI v1001) [] false (con_laws_szNamedMelody e1001) c82_ok (by first | rfl | simp) rfl ?_
      refine qp (AI v1001) rfl ?_
      refine r_nil ?_
      refine w_reg_seq 705 833 rfl rfl ?_
      refine qp (AI v1001) rfl (qp (AB (decide (v1001 < (0 : Int)))) rfl ?_)
      refine r_nil ?_
      refine w_condF hF rfl (fun hF => ?_) (fun hF => ?_)
      ·
        refine w_reg_seq 833 897 rfl rfl ?_
        refine qp (AI (-1)) rfl ?_
        refine r_nil ?_
        refine w_ret ?_
        refine blockQ_r ?_
        refine thenQ_r ?_
        refine thenQ_r ?_
        refine blockQ_r ?_
        refine thenQ_r ?_
        cases hF
        exact endQ_r rfl (.inl ⟨_, _, by first | rfl | (simp [List.take_of_length_le]; first | exact ⟨rfl, rfl⟩ | rfl), by simp, by first | rfl | simp [res_laws_szNamedMelodyS, List.take_of_length_le]⟩)
      ·
        refine w_skip ?_
        refine blockQ_n ?_
        refine thenQ_n ?_
        refine w_reg 833 1025 rfl rfl ?_
        refine qp (AI v9) rfl (qp (AI (w64 (v9 + 1))) rfl (qp (AI (w64 (v9 + 1))) rfl ?_))
        refine r_nil ?_
        refine thenQ_n ?_
        refine aw_ren (l' := [(0, .val none (.sl 2 (v0.map eNamedMelody))), (1, AI v1001), (5, AI (w64 (v9 + 1)))]) (L := []) [0, 1, 5] [] 1 (by first | rfl | simp) (by first | rfl | simp) (by decide) (by decide) (by decide) ⟨_, by rfl, hF⟩
    ·
      refine w_exit ?_
      refine thenQ_e ?_
      refine thenQ_e ?_
      refine blockQ_e ?_
      refine thenQ_n ?_
      refine w_reg_seq 257 385 rfl rfl ?_
      refine qp (AI v8) rfl (qp (AI v8) rfl ?_)
      refine r_nil ?_
      refine w_ret ?_
      cases hF
      exact endQ_r rfl (.inl ⟨_, _, by first | rfl | (simp [List.take_of_length_le]; first | exact ⟨rfl, rfl⟩ | rfl), by simp, by first | rfl | simp [res_laws_szNamedMelodyS, List.take_of_length_le]⟩)

def c121 : MC := (.seq (.reg [⟨(some 1), none, (.f (.box (.t 0)))⟩, ⟨(some 2), none, (.f (.alloc [((.int .i64 0), (0, false)), ((.int .i64 0), (0, false))]))⟩]) (.seq (.reg [⟨(some 3), none, (.f (.alloc [((.int .i64 0), (0, false)), ((.int .i64 0), (0, false))]))⟩]) (.seq (.reg [⟨(some 4), none, (.p true (.fad (.t 1) 0))⟩, ⟨(some 5), none, (.p true (.ld (.t 4) 1 false))⟩, ⟨(some 6), none, (.p true (.fad (.t 3) 0))⟩, ⟨none, none, (.f (.st (.t 6) (.t 5) 1))⟩]) (.seq (.reg [⟨(some 7), none, (.p true (.fad (.t 1) 1))⟩, ⟨(some 8), none, (.p true (.ld (.t 7) 1 false))⟩, ⟨(some 9), none, (.p true (.fad (.t 3) 1))⟩, ⟨none, none, (.f (.st (.t 9) (.t 8) 1))⟩]) (.seq (.reg [⟨(some 10), none, (.p true (.ld (.t 3) 2 true))⟩, ⟨none, none, (.f (.st (.t 2) (.t 10) 2))⟩]) .ret)))))
theorem c121_is : compFn Try.prog 121 = some (c121, [(.cell (.ld (.t 2) 2 true))]) := by kernel_rfl
theorem c121_ok : okFn Try.prog 121 = true := by kernel_rfl

def F_laws_toNote (v0 : TNote) : Option (TNote) :=
  some v0
@[simp] def res_laws_toNote (r : TNote) : RV := .one (.one (.val (eNote r)))
theorem con_laws_toNote {v0 : TNote} {r : TNote} (hF : F_laws_toNote v0 = some r) : Con Try.prog 121 [eNote v0] (res_laws_toNote r) := by
  unfold F_laws_toNote at hF
  refine con_of c121_is fun N => ?_
  refine w_reg_seq 0 128 rfl rfl ?_
  refine qf (.ptr 0 0 0) [(0, .box [AI v0.1, AI v0.2])] (by simp) ?_
  refine qf (.ptr 64 0 0) [(64, .box [AI 0, AI 0]), (0, .box [AI v0.1, AI v0.2])] (by simp) ?_
  refine r_nil ?_
  refine w_reg_seq 128 192 rfl rfl ?_
  refine qf (.ptr 128 0 0) [(128, .box [AI 0, AI 0]), (64, .box [AI 0, AI 0]), (0, .box [AI v0.1, AI v0.2])] (by simp) ?_
  refine r_nil ?_
  refine w_reg_seq 192 448 rfl rfl ?_
  refine qp (.ptr 0 0 0) rfl (qp (AI v0.1) rfl (qp (.ptr 128 0 0) rfl ?_))
  refine qf0 (.undef) [(128, .box [AI v0.1, AI 0]), (128, .box [AI 0, AI 0]), (64, .box [AI 0, AI 0]), (0, .box [AI v0.1, AI v0.2])] (by simp) ?_
  refine r_nil ?_
  refine w_reg_seq 448 704 rfl rfl ?_
  refine qp (.ptr 0 0 1) rfl (qp (AI v0.2) rfl (qp (.ptr 128 0 1) rfl ?_))
  refine qf0 (.undef) [(128, .box [AI v0.1, AI v0.2]), (128, .box [AI v0.1, AI 0]), (128, .box [AI 0, AI 0]), (64, .box [AI 0, AI 0]), (0, .box [AI v0.1, AI v0.2])] (by simp) ?_
  refine r_nil ?_
  refine w_reg_seq 704 832 rfl rfl ?_
  refine qp (.agg [AI v0.1, AI v0.2]) rfl ?_
  refine qf0 (.undef) [(64, .box [AI v0.1, AI v0.2]), (128, .box [AI v0.1, AI v0.2]), (128, .box [AI v0.1, AI 0]), (128, .box [AI 0, AI 0]), (64, .box [AI 0, AI 0]), (0, .box [AI v0.1, AI v0.2])] (by simp) ?_
  refine r_nil ?_
  refine w_ret ?_
  cases hF
  exact endQ_r rfl (.inl ⟨_, _, by first | rfl | (simp [List.take_of_length_le]; first | exact ⟨rfl, rfl⟩ | rfl), by simp, by first | rfl | simp [res_laws_toNote, List.take_of_length_le]⟩)

def c105 : MC := (.seq (.reg [⟨(some 2), none, (.f (.nilrow 2))⟩]) (.seq (.reg [⟨(some 5), none, (.p true (.mv (.t 0)))⟩, ⟨(some 6), none, (.p true (.len (.t 5)))⟩, ⟨(some 7), none, (.f (.mks 2 16 (.agg [(.int .i64 0), (.int .i64 0)]) (.t 6) (.t 6)))⟩, ⟨(some 3), none, (.p true (.mv (.t 7)))⟩]) (.seq (.seq (.reg [⟨(some 4), none, (.p true (.mv (.c (.int .i64 0))))⟩]) (.block 0 (.loop (.seq (.seq (.reg [⟨(some 8), none, (.p true (.mv (.t 4)))⟩, ⟨(some 9), none, (.p true (.mv (.t 0)))⟩, ⟨(some 10), none, (.p true (.len (.t 9)))⟩, ⟨(some 11), none, (.p true (.bin .lss (.t 8) (.t 10)))⟩]) (.cond (.t 11) .skip (.exit 0))) (.seq (.block 1 (.reg [⟨(some 14), none, (.p true (.mv (.t 3)))⟩, ⟨(some 15), none, (.p true (.mv (.t 4)))⟩, ⟨(some 16), none, (.p true (.mv (.t 0)))⟩, ⟨(some 17), none, (.p true (.mv (.t 4)))⟩, ⟨(some 18), none, (.p true (.iad (.t 16) (.t 17) 2))⟩, ⟨(some 19), none, (.p true (.ld (.t 18) 2 true))⟩, ⟨(some 20), none, (.call true 121 [(.t 19)])⟩, ⟨(some 21), none, (.p true (.iad (.t 14) (.t 15) 2))⟩, ⟨none, none, (.f (.st (.t 21) (.t 20) 2))⟩])) (.reg [⟨(some 12), none, (.p true (.mv (.t 4)))⟩, ⟨(some 13), none, (.p true (.bin .add (.t 12) (.c (.int .i64 1))))⟩, ⟨(some 4), none, (.p true (.mv (.t 13)))⟩])))))) (.seq (.reg [⟨(some 22), none, (.p true (.mv (.t 3)))⟩, ⟨(some 2), none, (.p true (.mv (.t 22)))⟩]) .ret))))
theorem c105_is : compFn Try.prog 105 = some (c105, [(.tmp 2)]) := by kernel_rfl
theorem c105_ok : okFn Try.prog 105 = true := by kernel_rfl

def F_laws_toNoteS_l0 (v0 : List TNote) (k1 : Int × (List TNote) → Option (List TNote)) : Int × (List TNote) → Option (List TNote)
  | (v1009, v1010) => (bif (decide (v1009 < (v0.length : Int))) then ((ix v0 v1009).bind fun v1011 => ((F_laws_toNote v1011).bind fun v1012 => ((ix v1010 v1009).bind fun v1013 => k1 (w64 (v1009 + 1), List.set v1010 v1009.toNat v1012))))
  else some v1010)
def F_laws_toNoteS (v0 : List TNote) : Option (List TNote) :=
  (need (0 ≤ (v0.length : Int) ∧ (v0.length : Int) ≤ (v0.length : Int) ∧ (v0.length : Int) ≤ 9223372036854775807 ∧ 16 * (v0.length : Int) ≤ 281474976710656) (loop (F_laws_toNoteS_l0 v0) (0, List.replicate ((v0.length : Int)).toNat ((0, 0) : TNote))))
@[simp] def res_laws_toNoteS (r : List TNote) : RV := .one (.one (.row true 2 (r.map eNote)))
theorem con_laws_toNoteS {v0 : List TNote} {r : List TNote} (hF : F_laws_toNoteS v0 = some r) : Con Try.prog 105 [.sl 2 (v0.map eNote)] (res_laws_toNoteS r) := by
  unfold F_laws_toNoteS at hF
  refine con_of c105_is fun N => ?_
  refine w_reg_seq 0 64 rfl rfl ?_
  refine qf (.sl 0 0 0) [(0, .row true 2 (([] : List Int).map (V.int .i64)))] (by simp) ?_
  refine r_nil ?_
  refine w_reg_seq 64 320 rfl rfl ?_
  refine qp (.val none (.sl 2 (v0.map eNote))) rfl (qp (AI (v0.length : Int)) (ev_len_n rfl) ?_)
  obtain ⟨g1000, hF⟩ := need_some hF
  refine qf (.sl 192 0 ((List.replicate ((v0.length : Int)).toNat ((0, 0) : TNote)).length)) [(192, .row true 2 ((List.replicate ((v0.length : Int)).toNat ((0, 0) : TNote)).map eNote)), (0, .row true 2 (([] : List Int).map (V.int .i64)))] (effT_mks rfl rfl g1000 rfl) ?_
  refine qp (.sl 192 0 ((List.replicate ((v0.length : Int)).toNat ((0, 0) : TNote)).length)) rfl ?_
  refine r_nil ?_
  refine w_seq ?_
  refine w_reg_seq 320 384 rfl rfl ?_
  refine qp (AI 0) rfl ?_
  refine r_nil ?_
  refine w_block ?_
  refine w_ren (l' := [(0, .val none (.sl 2 (v0.map eNote))), (3, .sl 0 0 (List.replicate ((v0.length : Int)).toNat ((0, 0) : TNote)).length), (4, AI 0)]) (L := [(0, .row true 2 ((List.replicate ((v0.length : Int)).toNat ((0, 0) : TNote)).map eNote))]) [0, 3, 4] [(192, 0)] 1 (by first | rfl | simp) (by first | rfl | simp) (by decide) (by decide) (by decide) ?_
  refine w_loopF (F_laws_toNoteS_l0 v0) (fun s : Int × (List TNote) => mkS [(0, .val none (.sl 2 (v0.map eNote))), (3, .sl 0 0 s.2.length), (4, AI s.1)] (fo [(0, .row true 2 (s.2.map eNote))]) 1) hF ?_
  rintro k1 ⟨v1009, v1010⟩ hF
  rw [F_laws_toNoteS_l0] at hF
  try dsimp only
  refine w_seq ?_
  refine w_reg_seq 1 257 rfl rfl ?_
  refine qp (AI v1009) rfl (qp (.val none (.sl 2 (v0.map eNote))) rfl (qp (AI (v0.length : Int)) (ev_len_n rfl) (qp (AB (decide (v1009 < (v0.length : Int)))) rfl ?_)))
  refine r_nil ?_
  refine w_condF hF rfl (fun hF => ?_) (fun hF => ?_)
  ·
    refine w_skip ?_
    refine thenQ_n ?_
    refine w_seq ?_
    refine w_block ?_
    refine w_reg 257 833 rfl rfl ?_
    refine qp (.sl 0 0 v1010.length) rfl (qp (AI v1009) rfl (qp (.val none (.sl 2 (v0.map eNote))) rfl (qp (AI v1009) rfl ?_)))
    obtain ⟨v1011, e1011, hF⟩ := bind_get hF
    refine qp (.val none (.ptr [.int .i64 v1011.1, .int .i64 v1011.2])) (ev_iad_n rfl rfl e1011 rfl) (qp (.val none (eNote v1011)) rfl ?_)
    obtain ⟨v1012, e1012, hF⟩ := bind_get hF
    refine qc (.val none (eNote v1012)) [(0, .row true 2 (v1010.map eNote))] false (con_laws_toNote e1012) c121_ok (by first | rfl | simp) rfl ?_
    obtain ⟨v1013, e1013, hF⟩ := bind_get hF
    refine qp (.ptr 0 v1009.toNat 0) (ev_iad_r rfl (by simp) rfl rfl e1013) ?_
    refine qf0 (.undef) [(0, .row true 2 ((List.set v1010 v1009.toNat v1012).map eNote)), (0, .row true 2 (v1010.map eNote))] (effT_st rfl rfl (ix_some e1013).2 rfl rfl (by rfl) (by first | rfl | simp [patch, reb, List.take_of_length_le]) (by rfl) rfl) ?_
    refine r_nil ?_
    refine blockQ_n ?_
    refine thenQ_n ?_
    refine w_reg 833 1025 rfl rfl ?_
    refine qp (AI v1009) rfl (qp (AI (w64 (v1009 + 1))) rfl (qp (AI (w64 (v1009 + 1))) rfl ?_))
    refine r_nil ?_
    refine thenQ_n ?_
    refine aw_ren (l' := [(0, .val none (.sl 2 (v0.map eNote))), (3, .sl 0 0 (List.set v1010 v1009.toNat v1012).length), (4, AI (w64 (v1009 + 1)))]) (L := [(0, .row true 2 ((List.set v1010 v1009.toNat v1012).map eNote))]) [0, 3, 4] [(0, 0)] 1 (by first | rfl | simp) (by first | rfl | simp) (by decide) (by decide) (by decide) ⟨_, by rfl, hF⟩
  ·
    refine w_exit ?_
    refine thenQ_e ?_
    refine thenQ_e ?_
    refine blockQ_e ?_
    refine thenQ_n ?_
    refine w_reg_seq 257 385 rfl rfl ?_
    refine qp (.sl 0 0 v1010.length) rfl (qp (.sl 0 0 v1010.length) rfl ?_)
    refine r_nil ?_
    refine w_ret ?_
    cases hF
    exact endQ_r rfl (.inl ⟨_, _, by first | rfl | (simp [List.take_of_length_le]; first | exact ⟨rfl, rfl⟩ | rfl), by simp, by first | rfl | simp [res_laws_toNoteS, List.take_of_length_le]⟩)

def c84 : MC := (.seq (.reg [⟨(some 1), none, (.f (.box (.t 0)))⟩, ⟨(some 2), none, (.f (.alloc [((.str []), (0, false)), ((.sl 0 []), (2, false))]))⟩]) (.seq (.reg [⟨(some 3), none, (.f (.alloc [((.str []), (0, false)), ((.sl 0 []), (2, false))]))⟩]) (.seq (.reg [⟨(some 4), none, (.p true (.fad (.t 1) 0))⟩, ⟨(some 5), none, (.p true (.ld (.t 4) 1 false))⟩, ⟨(some 6), none, (.p true (.fad (.t 3) 0))⟩, ⟨none, none, (.f (.st (.t 6) (.t 5) 1))⟩]) (.seq (.reg [⟨(some 7), none, (.p true (.fad (.t 1) 1))⟩, ⟨(some 8), none, (.p true (.ld (.t 7) 1 false))⟩, ⟨(some 9), none, (.call true 105 [(.t 8)])⟩, ⟨(some 10), none, (.p true (.fad (.t 3) 1))⟩, ⟨none, none, (.f (.st (.t 10) (.t 9) 1))⟩]) (.seq (.reg [⟨(some 11), none, (.p true (.ld (.t 3) 2 true))⟩, ⟨none, none, (.f (.st (.t 2) (.t 11) 2))⟩]) .ret)))))
theorem c84_is : compFn Try.prog 84 = some (c84, [(.cell (.ld (.t 2) 2 true))]) := by kernel_rfl
theorem c84_ok : okFn Try.prog 84 = true := by kernel_rfl

def F_laws_toNamedMelody (v0 : TNamedMelody) : Option (TNamedMelody) :=
  ((F_laws_toNoteS v0.2).bind fun v1000 => some (v0.1, v1000))
@[simp] def res_laws_toNamedMelody (r : TNamedMelody) : RV := .one (.agg [.val (.str r.1), .row true 2 (r.2.map eNote)])
theorem con_laws_toNamedMelody {v0 : TNamedMelody} {r : TNamedMelody} (hF : F_laws_toNamedMelody v0 = some r) : Con Try.prog 84 [eNamedMelody v0] (res_laws_toNamedMelody r) := by
  unfold F_laws_toNamedMelody at hF
  refine con_of c84_is fun N => ?_
  refine w_reg_seq 0 128 rfl rfl ?_
  refine qf (.ptr 0 0 0) [(0, .box [AS v0.1, .val none (.sl 2 (v0.2.map eNote))])] (by simp) ?_
  refine qf (.ptr 64 0 0) [(64, .box [AS [], .sl 65 0 0]), (65, .row true 2 (([] : List Int).map (V.int .i64))), (0, .box [AS v0.1, .val none (.sl 2 (v0.2.map eNote))])] (by simp) ?_
  refine r_nil ?_
  refine w_reg_seq 128 192 rfl rfl ?_
  refine qf (.ptr 128 0 0) [(128, .box [AS [], .sl 129 0 0]), (129, .row true 2 (([] : List Int).map (V.int .i64))), (64, .box [AS [], .sl 65 0 0]), (65, .row true 2 (([] : List Int).map (V.int .i64))), (0, .box [AS v0.1, .val none (.sl 2 (v0.2.map eNote))])] (by simp) ?_
  refine r_nil ?_
  refine w_reg_seq 192 448 rfl rfl ?_
  refine qp (.ptr 0 0 0) rfl (qp (AS v0.1) rfl (qp (.ptr 128 0 0) rfl ?_))
  refine qf0 (.undef) [(128, .box [AS v0.1, .sl 129 0 0]), (128, .box [AS [], .sl 129 0 0]), (129, .row true 2 (([] : List Int).map (V.int .i64))), (64, .box [AS [], .sl 65 0 0]), (65, .row true 2 (([] : List Int).map (V.int .i64))), (0, .box [AS v0.1, .val none (.sl 2 (v0.2.map eNote))])] (by simp) ?_
  refine r_nil ?_
  refine w_reg_seq 448 768 rfl rfl ?_
  refine qp (.ptr 0 0 1) rfl (qp (.val none (.sl 2 (v0.2.map eNote))) rfl ?_)
  obtain ⟨v1000, e1000, hF⟩ := bind_get hF
  refine qc (.sl 576 0 v1000.length) [(576, .row true 2 (v1000.map eNote)), (128, .box [AS v0.1, .sl 129 0 0]), (128, .box [AS [], .sl 129 0 0]), (129, .row true 2 (([] : List Int).map (V.int .i64))), (64, .box [AS [], .sl 65 0 0]), (65, .row true 2 (([] : List Int).map (V.int .i64))), (0, .box [AS v0.1, .val none (.sl 2 (v0.2.map eNote))])] false (con_laws_toNoteS e1000) c105_ok (by first | rfl | simp) (by simp [res_laws_toNoteS]) ?_
  refine qp (.ptr 128 0 1) rfl ?_
  refine qf0 (.undef) [(128, .box [AS v0.1, .sl 576 0 v1000.length]), (576, .row true 2 (v1000.map eNote)), (128, .box [AS v0.1, .sl 129 0 0]), (128, .box [AS [], .sl 129 0 0]), (129, .row true 2 (([] : List Int).map (V.int .i64))), (64, .box [AS [], .sl 65 0 0]), (65, .row true 2 (([] : List Int).map (V.int .i64))), (0, .box [AS v0.1, .val none (.sl 2 (v0.2.map eNote))])] (by simp) ?_
  refine r_nil ?_
  refine w_reg_seq 768 896 rfl rfl ?_
  refine qp (.agg [AS v0.1, .sl 576 0 v1000.length]) rfl ?_
  refine qf0 (.undef) [(64, .box [AS v0.1, .sl 576 0 v1000.length]), (128, .box [AS v0.1, .sl 576 0 v1000.length]), (576, .row true 2 (v1000.map eNote)), (128, .box [AS v0.1, .sl 129 0 0]), (128, .box [AS [], .sl 129 0 0]), (129, .row true 2 (([] : List Int).map (V.int .i64))), (64, .box [AS [], .sl 65 0 0]), (65, .row true 2 (([] : List Int).map (V.int .i64))), (0, .box [AS v0.1, .val none (.sl 2 (v0.2.map eNote))])] (by simp) ?_
  refine r_nil ?_
  refine w_ret ?_
  cases hF
  exact endQ_r rfl (.inl ⟨_, _, by first | rfl | (simp [List.take_of_length_le]; first | exact ⟨rfl, rfl⟩ | rfl), by simp, by first | rfl | simp [res_laws_toNamedMelody, List.take_of_length_le]⟩)

def c48 : MC := (.seq (.reg [⟨(some 2), none, (.f (.nilrow 2))⟩]) (.seq (.reg [⟨(some 5), none, (.p true (.mv (.t 0)))⟩, ⟨(some 6), none, (.p true (.len (.t 5)))⟩, ⟨(some 7), none, (.f (.mks 2 40 (.agg [(.str []), (.sl 2 [])]) (.t 6) (.t 6)))⟩, ⟨(some 3), none, (.p true (.mv (.t 7)))⟩]) (.seq (.seq (.reg [⟨(some 4), none, (.p true (.mv (.c (.int .i64 0))))⟩]) (.block 0 (.loop (.seq (.seq (.reg [⟨(some 8), none, (.p true (.mv (.t 4)))⟩, ⟨(some 9), none, (.p true (.mv (.t 0)))⟩, ⟨(some 10), none, (.p true (.len (.t 9)))⟩, ⟨(some 11), none, (.p true (.bin .lss (.t 8) (.t 10)))⟩]) (.cond (.t 11) .skip (.exit 0))) (.seq (.block 1 (.reg [⟨(some 14), none, (.p true (.mv (.t 3)))⟩, ⟨(some 15), none, (.p true (.mv (.t 4)))⟩, ⟨(some 16), none, (.p true (.mv (.t 0)))⟩, ⟨(some 17), none, (.p true (.mv (.t 4)))⟩, ⟨(some 18), none, (.p true (.iad (.t 16) (.t 17) 2))⟩, ⟨(some 19), none, (.p true (.ld (.t 18) 2 true))⟩, ⟨(some 20), none, (.call true 84 [(.t 19)])⟩, ⟨(some 21), none, (.p true (.iad (.t 14) (.t 15) 2))⟩, ⟨none, none, (.f (.st (.t 21) (.t 20) 2))⟩])) (.reg [⟨(some 12), none, (.p true (.mv (.t 4)))⟩, ⟨(some 13), none, (.p true (.bin .add (.t 12) (.c (.int .i64 1))))⟩, ⟨(some 4), none, (.p true (.mv (.t 13)))⟩])))))) (.seq (.reg [⟨(some 22), none, (.p true (.mv (.t 3)))⟩, ⟨(some 2), none, (.p true (.mv (.t 22)))⟩]) .ret))))
theorem c48_is : compFn Try.prog 48 = some (c48, [(.tmp 2)]) := by kernel_rfl
theorem c48_ok : okFn Try.prog 48 = true := by kernel_rfl

def F_laws_toNamedMelodyS_l0 (v0 : List TNamedMelody) (k1 : Int × (List TNamedMelody) → Option (List TNamedMelody)) : Int × (List TNamedMelody) → Option (List TNamedMelody)
  | (v1009, v1010) => (bif (decide (v1009 < (v0.length : Int))) then ((ix v0 v1009).bind fun v1011 => ((F_laws_toNamedMelody v1011).bind fun v1012 => ((ix v1010 v1009).bind fun v1013 => k1 (w64 (v1009 + 1), List.set v1010 v1009.toNat v1012))))
  else some v1010)
def F_laws_toNamedMelodyS (v0 : List TNamedMelody) : Option (List TNamedMelody) :=
  (need (0 ≤ (v0.length : Int) ∧ (v0.length : Int) ≤ (v0.length : Int) ∧ (v0.length : Int) ≤ 9223372036854775807 ∧ 40 * (v0.length : Int) ≤ 281474976710656) (loop (F_laws_toNamedMelodyS_l0 v0) (0, List.replicate ((v0.length : Int)).toNat (([], []) : TNamedMelody))))
@[simp] def res_laws_toNamedMelodyS (r : List TNamedMelody) : RV := .one (.one (.row true 2 (r.map eNamedMelody)))
theorem con_laws_toNamedMelodyS {v0 : List TNamedMelody} {r : List TNamedMelody} (hF : F_laws_toNamedMelodyS v0 = some r) : Con Try.prog 48 [.sl 2 (v0.map eNamedMelody)] (res_laws_toNamedMelodyS r) := by
  unfold F_laws_toNamedMelodyS at hF
  refine con_of c48_is fun N => ?_
  refine w_reg_seq 0 64 rfl rfl ?_
  refine qf (.sl 0 0 0) [(0, .row true 2 (([] : List Int).map (V.int .i64)))] (by simp) ?_
  refine r_nil ?_
  refine w_reg_seq 64 320 rfl rfl ?_
  refine qp (.val none (.sl 2 (v0.map eNamedMelody))) rfl (qp (AI (v0.length : Int)) (ev_len_n rfl) ?_)
  obtain ⟨g1000, hF⟩ := need_some hF
  refine qf (.sl 192 0 ((List.replicate ((v0.length : Int)).toNat (([], []) : TNamedMelody)).length)) [(192, .row true 2 ((List.replicate ((v0.length : Int)).toNat (([], []) : TNamedMelody)).map eNamedMelody)), (0, .row true 2 (([] : List Int).map (V.int .i64)))] (effT_mks rfl rfl g1000 rfl) ?_
  refine qp (.sl 192 0 ((List.replicate ((v0.length : Int)).toNat (([], []) : TNamedMelody)).length)) rfl ?_
  refine r_nil ?_
  refine w_seq ?_
  refine w_reg_seq 320 384 rfl rfl ?_
  refine qp (AI 0) rfl ?_
  refine r_nil ?_
  refine w_block ?_
  refine w_ren (l' := [(0, .val none (.sl 2 (v0.map eNamedMelody))), (3, .sl 0 0 (List.replicate ((v0.length : Int)).toNat (([], []) : TNamedMelody)).length), (4, AI 0)]) (L := [(0, .row true 2 ((List.replicate ((v0.length : Int)).toNat (([], []) : TNamedMelody)).map eNamedMelody))]) [0, 3, 4] [(192, 0)] 1 (by first | rfl | simp) (by first | rfl | simp) (by decide) (by decide) (by decide) ?_
  refine w_loopF (F_laws_toNamedMelodyS_l0 v0) (fun s : Int × (List TNamedMelody) => mkS [(0, .val none (.sl 2 (v0.map eNamedMelody))), (3, .sl 0 0 s.2.length), (4, AI s.1)] (fo [(0, .row true 2 (s.2.map eNamedMelody))]) 1) hF ?_
  rintro k1 ⟨v1009, v1010⟩ hF
  rw [F_laws_toNamedMelodyS_l0] at hF
  try dsimp only
  refine w_seq ?_
  refine w_reg_seq 1 257 rfl rfl ?_
  refine qp (AI v1009) rfl (qp (.val none (.sl 2 (v0.map eNamedMelody))) rfl (qp (AI (v0.length : Int)) (ev_len_n rfl) (qp (AB (decide (v1009 < (v0.length : Int)))) rfl ?_)))
  refine r_nil ?_
  refine w_condF hF rfl (fun hF => ?_) (fun hF => ?_)
  ·
    refine w_skip ?_
    refine thenQ_n ?_
    refine w_seq ?_
    refine w_block ?_
    refine w_reg 257 833 rfl rfl ?_
    refine qp (.sl 0 0 v1010.length) rfl (qp (AI v1009) rfl (qp (.val none (.sl 2 (v0.map eNamedMelody))) rfl (qp (AI v1009) rfl ?_)))
    obtain ⟨v1011, e1011, hF⟩ := bind_get hF
    refine qp (.val none (.ptr [.str v1011.1, .sl 2 (v1011.2.map eNote)])) (ev_iad_n rfl rfl e1011 rfl) (qp (.val none (eNamedMelody v1011)) rfl ?_)
    obtain ⟨v1012, e1012, hF⟩ := bind_get hF
    refine qc (.agg [AS v1012.1, .sl 642 0 v1012.2.length]) [(642, .row true 2 (v1012.2.map eNote)), (0, .row true 2 (v1010.map eNamedMelody))] false (con_laws_toNamedMelody e1012) c84_ok (by first | rfl | simp) (by simp [res_laws_toNamedMelody]) ?_
    obtain ⟨v1013, e1013, hF⟩ := bind_get hF
    refine qp (.ptr 0 v1009.toNat 0) (ev_iad_r rfl (by simp) rfl rfl e1013) ?_
    refine qf0 (.undef) [(0, .row true 2 ((List.set v1010 v1009.toNat v1012).map eNamedMelody)), (642, .dead), (642, .row true 2 (v1012.2.map eNote)), (0, .row true 2 (v1010.map eNamedMelody))] (effT_st rfl rfl (ix_some e1013).2 rfl rfl (by rfl) (by first | rfl | simp [patch, reb, List.take_of_length_le]) (by rfl) rfl) ?_
    refine r_nil ?_
    refine blockQ_n ?_
    refine thenQ_n ?_
    refine w_reg 833 1025 rfl rfl ?_
    refine qp (AI v1009) rfl (qp (AI (w64 (v1009 + 1))) rfl (qp (AI (w64 (v1009 + 1))) rfl ?_))
    refine r_nil ?_
    refine thenQ_n ?_
    refine aw_ren (l' := [(0, .val none (.sl 2 (v0.map eNamedMelody))), (3, .sl 0 0 (List.set v1010 v1009.toNat v1012).length), (4, AI (w64 (v1009 + 1)))]) (L := [(0, .row true 2 ((List.set v1010 v1009.toNat v1012).map eNamedMelody))]) [0, 3, 4] [(0, 0)] 1 (by first | rfl | simp) (by first | rfl | simp) (by decide) (by decide) (by decide) ⟨_, by rfl, hF⟩
  ·
    refine w_exit ?_
    refine thenQ_e ?_
    refine thenQ_e ?_
    refine blockQ_e ?_
    refine thenQ_n ?_
    refine w_reg_seq 257 385 rfl rfl ?_
    refine qp (.sl 0 0 v1010.length) rfl (qp (.sl 0 0 v1010.length) rfl ?_)
    refine r_nil ?_
    refine w_ret ?_
    cases hF
    exact endQ_r rfl (.inl ⟨_, _, by first | rfl | (simp [List.take_of_length_le]; first | exact ⟨rfl, rfl⟩ | rfl), by simp, by first | rfl | simp [res_laws_toNamedMelodyS, List.take_of_length_le]⟩)

def c116 : MC := (.seq (.reg [⟨(some 2), none, (.p true (.mv (.c (.bool false))))⟩]) (.seq (.reg [⟨(some 3), none, (.p true (.mv (.t 0)))⟩, ⟨(some 4), none, (.p true (.bin .geq (.t 3) (.c (.int .u8 97))))⟩, ⟨(some 5), none, (.p true (.mv (.t 4)))⟩, ⟨(some 6), (some (5, true)), (.p true (.mv (.t 0)))⟩, ⟨(some 7), (some (5, true)), (.p true (.bin .leq (.t 6) (.c (.int .u8 122))))⟩, ⟨(some 8), none, (.p true (.pick (.t 5) (.t 7) (.c (.bool false))))⟩, ⟨(some 2), none, (.p true (.mv (.t 8)))⟩]) .ret))
theorem c116_is : compFn Try.prog 116 = some (c116, [(.tmp 2)]) := by kernel_rfl
theorem c116_ok : okFn Try.prog 116 = true := by kernel_rfl

def F_spec_l01Small (v0 : Int) : Option (Bool) :=
  (bif (decide ((97 : Int) ≤ v0)) then some (decide (v0 ≤ (122 : Int)))
  else some false)
@[simp] def res_spec_l01Small (r : Bool) : RV := .one (.one (.val (.bool r)))
theorem con_spec_l01Small {v0 : Int} {r : Bool} (hF : F_spec_l01Small v0 = some r) : Con Try.prog 116 [.int .u8 v0] (res_spec_l01Small r) := by
  unfold F_spec_l01Small at hF
  refine con_of c116_is fun N => ?_
  refine w_reg_seq 0 64 rfl rfl ?_
  refine qp (AB false) rfl ?_
  refine r_nil ?_
  refine w_reg_seq 64 512 rfl rfl ?_
  refine qp (.val none (.int .u8 v0)) rfl (qp (AB (decide ((97 : Int) ≤ v0))) rfl (qp (AB (decide ((97 : Int) ≤ v0))) rfl ?_))
  refine q_case 5 hF rfl (fun hF => ?_) (fun hF => ?_)
  ·
    refine qg (.val none (.int .u8 v0)) rfl rfl (qg (AB (decide (v0 ≤ (122 : Int)))) rfl rfl (qp (AB (decide (v0 ≤ (122 : Int)))) rfl (qp (AB (decide (v0 ≤ (122 : Int)))) rfl ?_)))
    refine r_nil ?_
    refine w_ret ?_
    cases hF
    exact endQ_r rfl (.inl ⟨_, _, by first | rfl | (simp [List.take_of_length_le]; first | exact ⟨rfl, rfl⟩ | rfl), by simp, by first | rfl | simp [res_spec_l01Small, List.take_of_length_le]⟩)
  ·
    refine qn rfl (qn rfl (qp (AB false) rfl (qp (AB false) rfl ?_)))
    refine r_nil ?_
    refine w_ret ?_
    cases hF
    exact endQ_r rfl (.inl ⟨_, _, by first | rfl | (simp [List.take_of_length_le]; first | exact ⟨rfl, rfl⟩ | rfl), by simp, by first | rfl | simp [res_spec_l01Small, List.take_of_length_le]⟩)

def c117 : MC := (.seq (.reg [⟨(some 2), none, (.p true (.mv (.c (.bool false))))⟩]) (.seq (.reg [⟨(some 3), none, (.p true (.mv (.t 0)))⟩, ⟨(some 4), none, (.p true (.bin .geq (.t 3) (.c (.int .u8 48))))⟩, ⟨(some 5), none, (.p true (.mv (.t 4)))⟩, ⟨(some 6), (some (5, true)), (.p true (.mv (.t 0)))⟩, ⟨(some 7), (some (5, true)), (.p true (.bin .leq (.t 6) (.c (.int .u8 57))))⟩, ⟨(some 8), none, (.p true (.pick (.t 5) (.t 7) (.c (.bool false))))⟩, ⟨(some 2), none, (.p true (.mv (.t 8)))⟩]) .ret))
theorem c117_is : compFn Try.prog 117 = some (c117, [(.tmp 2)]) := by kernel_rfl
theorem c117_ok : okFn Try.prog 117 = true := by kernel_rfl

def F_spec_l01Digit (v0 : Int) : Option (Bool) :=
  (bif (decide ((48 : Int) ≤ v0)) then some (decide (v0 ≤ (57 : Int)))
  else some false)
@[simp] def res_spec_l01Digit (r : Bool) : RV := .one (.one (.val (.bool r)))
theorem con_spec_l01Digit {v0 : Int} {r : Bool} (hF : F_spec_l01Digit v0 = some r) : Con Try.prog 117 [.int .u8 v0] (res_spec_l01Digit r) := by
  unfold F_spec_l01Digit at hF
  refine con_of c117_is fun N => ?_
  refine w_reg_seq 0 64 rfl rfl ?_
  refine qp (AB false) rfl ?_
  refine r_nil ?_
  refine w_reg_seq 64 512 rfl rfl ?_
  refine qp (.val none (.int .u8 v0)) rfl (qp (AB (decide ((48 : Int) ≤ v0))) rfl (qp (AB (decide ((48 : Int) ≤ v0))) rfl ?_))
  refine q_case 5 hF rfl (fun hF => ?_) (fun hF => ?_)
  ·
    refine qg (.val none (.int .u8 v0)) rfl rfl (qg (AB (decide (v0 ≤ (57 : Int)))) rfl rfl (qp (AB (decide (v0 ≤ (57 : Int)))) rfl (qp (AB (decide (v0 ≤ (57 : Int)))) rfl ?_)))
    refine r_nil ?_
    refine w_ret ?_
    cases hF
    exact endQ_r rfl (.inl ⟨_, _, by first | rfl | (simp [List.take_of_length_le]; first | exact ⟨rfl, rfl⟩ | rfl), by simp, by first | rfl | simp [res_spec_l01Digit, List.take_of_length_le]⟩)
  ·
    refine qn rfl (qn rfl (qp (AB false) rfl (qp (AB false) rfl ?_)))
    refine r_nil ?_
    refine w_ret ?_
    cases hF
    exact endQ_r rfl (.inl ⟨_, _, by first | rfl | (simp [List.take_of_length_le]; first | exact ⟨rfl, rfl⟩ | rfl), by simp, by first | rfl | simp [res_spec_l01Digit, List.take_of_length_le]⟩)

def c98 : MC := (.seq (.reg [⟨(some 2), none, (.p true (.mv (.c (.bool false))))⟩]) (.seq (.seq (.reg [⟨(some 4), none, (.p true (.mv (.t 0)))⟩, ⟨(some 5), none, (.p true (.bin .eql (.t 4) (.c (.str []))))⟩, ⟨(some 6), none, (.p true (.mv (.t 5)))⟩, ⟨(some 7), (some (6, false)), (.p true (.mv (.t 0)))⟩, ⟨(some 8), (some (6, false)), (.p true (.lens (.t 7)))⟩, ⟨(some 9), (some (6, false)), (.p true (.bin .gtr (.t 8) (.c (.int .i64 10))))⟩, ⟨(some 10), none, (.p true (.pick (.t 6) (.c (.bool true)) (.t 9)))⟩, ⟨(some 11), none, (.p true (.mv (.t 10)))⟩, ⟨(some 12), (some (11, false)), (.p true (.mv (.t 0)))⟩, ⟨(some 13), (some (11, false)), (.p true (.ixs (.t 12) (.c (.int .i64 0))))⟩, ⟨(some 14), (some (11, false)), (.call true 116 [(.t 13)])⟩, ⟨(some 15), (some (11, false)), (.p true (.not (.t 14)))⟩, ⟨(some 16), none, (.p true (.pick (.t 11) (.c (.bool true)) (.t 15)))⟩]) (.cond (.t 16) (.seq (.reg [⟨(some 2), none, (.p true (.mv (.c (.bool false))))⟩]) .ret) .skip)) (.seq (.seq (.reg [⟨(some 3), none, (.p true (.mv (.c (.int .i64 0))))⟩]) (.block 0 (.loop (.seq (.seq (.reg [⟨(some 17), none, (.p true (.mv (.t 3)))⟩, ⟨(some 18), none, (.p true (.mv (.t 0)))⟩, ⟨(some 19), none, (.p true (.lens (.t 18)))⟩, ⟨(some 20), none, (.p true (.bin .lss (.t 17) (.t 19)))⟩]) (.cond (.t 20) .skip (.exit 0))) (.seq (.block 1 (.seq (.reg [⟨(some 23), none, (.p true (.mv (.t 0)))⟩, ⟨(some 24), none, (.p true (.mv (.t 3)))⟩, ⟨(some 25), none, (.p true (.ixs (.t 23) (.t 24)))⟩, ⟨(some 26), none, (.call true 116 [(.t 25)])⟩, ⟨(some 27), none, (.p true (.not (.t 26)))⟩, ⟨(some 28), none, (.p true (.mv (.t 27)))⟩, ⟨(some 29), (some (28, true)), (.p true (.mv (.t 0)))⟩, ⟨(some 30), (some (28, true)), (.p true (.mv (.t 3)))⟩, ⟨(some 31), (some (28, true)), (.p true (.ixs (.t 29) (.t 30)))⟩, ⟨(some 32), (some (28, true)), (.call true 117 [(.t 31)])⟩, ⟨(some 33), (some (28, true)), (.p true (.not (.t 32)))⟩, ⟨(some 34), none, (.p true (.pick (.t 28) (.t 33) (.c (.bool false))))⟩]) (.cond (.t 34) (.seq (.reg [⟨(some 2), none, (.p true (.mv (.c (.bool false))))⟩]) .ret) .skip))) (.reg [⟨(some 21), none, (.p true (.mv (.t 3)))⟩, ⟨(some 22), none, (.p true (.bin .add (.t 21) (.c (.int .i64 1))))⟩, ⟨(some 3), none, (.p true (.mv (.t 22)))⟩])))))) (.seq (.reg [⟨(some 2), none, (.p true (.mv (.c (.bool true))))⟩]) .ret))))
theorem c98_is : compFn Try.prog 98 = some (c98, [(.tmp 2)]) := by kernel_rfl
theorem c98_ok : okFn Try.prog 98 = true := by kernel_rfl

def F_spec_l01Name_l0 (v0 : List UInt8) (k1 : Int → Option (Bool)) : Int → Option (Bool)
  | v1011 => (bif (decide (v1011 < (v0.length : Int))) then ((ix v0 v1011).bind fun v1012 => ((F_spec_l01Small (v1012.toNat : Int)).bind fun v1013 => (bif (!v1013) then ((ix v0 v1011).bind fun v1014 => ((F_spec_l01Digit (v1014.toNat : Int)).bind fun v1015 => (bif (!v1015) then some false
  else k1 (w64 (v1011 + 1)))))
  else k1 (w64 (v1011 + 1)))))
  else some true)
def F_spec_l01Name (v0 : List UInt8) : Option (Bool) :=
  (bif (decide (v0 = [])) then some false
  else (bif (decide ((10 : Int) < (v0.length : Int))) then some false
  else ((ix v0 0).bind fun v1000 => ((F_spec_l01Small (v1000.toNat : Int)).bind fun v1001 => (bif (!v1001) then some false
  else loop (F_spec_l01Name_l0 v0) 0)))))
@[simp] def res_spec_l01Name (r : Bool) : RV := .one (.one (.val (.bool r)))
theorem con_spec_l01Name {v0 : List UInt8} {r : Bool} (hF : F_spec_l01Name v0 = some r) : Con Try.prog 98 [.str v0] (res_spec_l01Name r) := by
  unfold F_spec_l01Name at hF
  refine con_of c98_is fun N => ?_
  refine w_reg_seq 0 64 rfl rfl ?_
  refine qp (AB false) rfl ?_
  refine r_nil ?_
  refine w_seq ?_
  refine w_reg_seq 64 896 rfl rfl ?_
  refine qp (AS v0) rfl (qp (AB (decide (v0 = []))) rfl (qp (AB (decide (v0 = []))) rfl ?_))
  refine q_case 6 hF rfl (fun hF => ?_) (fun hF => ?_)
  ·
    refine qn rfl (qn rfl (qn rfl (qp (AB true) rfl (qp (AB true) rfl (qn rfl (qn rfl (qn rfl ?_)))))))
    refine qn rfl (qp (AB true) rfl ?_)
    refine r_nil ?_
    refine w_true rfl ?_
    refine w_reg_seq 896 960 rfl rfl ?_
    refine qp (AB false) rfl ?_
    refine r_nil ?_
    refine w_ret ?_
    refine thenQ_r ?_
    cases hF
    exact endQ_r rfl (.inl ⟨_, _, by first | rfl | (simp [List.take_of_length_le]; first | exact ⟨rfl, rfl⟩ | rfl), by simp, by first | rfl | simp [res_spec_l01Name, List.take_of_length_le]⟩)
  ·
    refine qg (AS v0) rfl rfl (qg (AI (v0.length : Int)) rfl rfl (qg (AB (decide ((10 : Int) < (v0.length : Int)))) rfl rfl (qp (AB (decide ((10 : Int) < (v0.length : Int)))) rfl (qp (AB (decide ((10 : Int) < (v0.length : Int)))) rfl ?_))))
    refine q_case 11 hF rfl (fun hF => ?_) (fun hF => ?_)
    ·
      refine qn rfl (qn rfl (qn rfl (qn rfl (qp (AB true) rfl ?_))))
      refine r_nil ?_
      refine w_true rfl ?_
      refine w_reg_seq 896 960 rfl rfl ?_
      refine qp (AB false) rfl ?_
      refine r_nil ?_
      refine w_ret ?_
      refine thenQ_r ?_
      cases hF
      exact endQ_r rfl (.inl ⟨_, _, by first | rfl | (simp [List.take_of_length_le]; first | exact ⟨rfl, rfl⟩ | rfl), by simp, by first | rfl | simp [res_spec_l01Name, List.take_of_length_le]⟩)
    ·
      refine qg (AS v0) rfl rfl ?_
      obtain ⟨v1000, e1000, hF⟩ := bind_get hF
      refine qg (.val none (.int .u8 (v1000.toNat : Int))) rfl (ev_ixs rfl rfl e1000) ?_
      obtain ⟨v1001, e1001, hF⟩ := bind_get hF
      refine qcg (AB v1001) [] false rfl (con_spec_l01Small e1001) c116_ok (by first | rfl | simp) rfl ?_
      refine qg (AB (!v1001)) rfl rfl (qp (AB (!v1001)) rfl ?_)
      refine r_nil ?_
      refine w_condF hF rfl (fun hF => ?_) (fun hF => ?_)
      ·
        refine w_reg_seq 896 960 rfl rfl ?_
        refine qp (AB false) rfl ?_
        refine r_nil ?_
        refine w_ret ?_
        refine thenQ_r ?_
        cases hF
        exact endQ_r rfl (.inl ⟨_, _, by first | rfl | (simp [List.take_of_length_le]; first | exact ⟨rfl, rfl⟩ | rfl), by simp, by first | rfl | simp [res_spec_l01Name, List.take_of_length_le]⟩)
      ·
        refine w_skip ?_
        refine thenQ_n ?_
        refine w_seq ?_
        refine w_reg_seq 896 960 rfl rfl ?_
        refine qp (AI 0) rfl ?_
        refine r_nil ?_
        refine w_block ?_
        refine w_ren (l' := [(0, AS v0), (3, AI 0)]) (L := []) [0, 3] [] 1 (by first | rfl | simp) (by first | rfl | simp) (by decide) (by decide) (by decide) ?_
        refine w_loopF (F_spec_l01Name_l0 v0) (fun s : Int => mkS [(0, AS v0), (3, AI s)] (fo []) 1) hF ?_
        rintro k1 v1011 hF
        rw [F_spec_l01Name_l0] at hF
        try dsimp only
        refine w_seq ?_
        refine w_reg_seq 1 257 rfl rfl ?_
        refine qp (AI v1011) rfl (qp (AS v0) rfl (qp (AI (v0.length : Int)) rfl (qp (AB (decide (v1011 < (v0.length : Int)))) rfl ?_)))
        refine r_nil ?_
        refine w_condF hF rfl (fun hF => ?_) (fun hF => ?_)
        ·
          refine w_skip ?_
          refine thenQ_n ?_
          refine w_seq ?_
          refine w_block ?_
          refine w_reg_seq 257 1025 rfl rfl ?_
          refine qp (AS v0) rfl (qp (AI v1011) rfl ?_)
          obtain ⟨v1012, e1012, hF⟩ := bind_get hF
          refine qp (.val none (.int .u8 (v1012.toNat : Int))) (ev_ixs rfl rfl e1012) ?_
          obtain ⟨v1013, e1013, hF⟩ := bind_get hF
          refine qc (AB v1013) [] false (con_spec_l01Small e1013) c116_ok (by first | rfl | simp) rfl ?_
          refine qp (AB (!v1013)) rfl (qp (AB (!v1013)) rfl ?_)
          refine q_case 28 hF rfl (fun hF => ?_) (fun hF => ?_)
          ·
            refine qg (AS v0) rfl rfl (qg (AI v1011) rfl rfl ?_)
            obtain ⟨v1014, e1014, hF⟩ := bind_get hF
            refine qg (.val none (.int .u8 (v1014.toNat : Int))) rfl (ev_ixs rfl rfl e1014) ?_
            obtain ⟨v1015, e1015, hF⟩ := bind_get hF
            refine qcg (AB v1015) [] false rfl (con_spec_l01Digit e1015) c117_ok (by first | rfl | simp) rfl ?_
            refine qg (AB (!v1015)) rfl rfl (qp (AB (!v1015)) rfl ?_)
            refine r_nil ?_
            refine w_condF hF rfl (fun hF => ?_) (fun hF => ?_)
            ·
              refine w_reg_seq 1025 1089 rfl rfl ?_
              refine qp (AB false) rfl ?_
              refine r_nil ?_
              refine w_ret ?_
              refine blockQ_r ?_
              refine thenQ_r ?_
              refine thenQ_r ?_
              refine blockQ_r ?_
              refine thenQ_r ?_
              cases hF
              exact endQ_r rfl (.inl ⟨_, _, by first | rfl | (simp [List.take_of_length_le]; first | exact ⟨rfl, rfl⟩ | rfl), by simp, by first | rfl | simp [res_spec_l01Name, List.take_of_length_le]⟩)
            ·
              refine w_skip ?_
              refine blockQ_n ?_
              refine thenQ_n ?_
              refine w_reg 1025 1217 rfl rfl ?_
              refine qp (AI v1011) rfl (qp (AI (w64 (v1011 + 1))) rfl (qp (AI (w64 (v1011 + 1))) rfl ?_))
              refine r_nil ?_
              refine thenQ_n ?_
              refine aw_ren (l' := [(0, AS v0), (3, AI (w64 (v1011 + 1)))]) (L := []) [0, 3] [] 1 (by first | rfl | simp) (by first | rfl | simp) (by decide) (by decide) (by decide) ⟨_, by rfl, hF⟩
          ·
            refine qn rfl (qn rfl (qn rfl (qn rfl (qn rfl (qp (AB false) rfl ?_)))))
            refine r_nil ?_
            refine w_false rfl ?_
            refine w_skip ?_
            refine blockQ_n ?_
            refine thenQ_n ?_
            refine w_reg 1025 1217 rfl rfl ?_
            refine qp (AI v1011) rfl (qp (AI (w64 (v1011 + 1))) rfl (qp (AI (w64 (v1011 + 1))) rfl ?_))
            refine r_nil ?_
            refine thenQ_n ?_
            refine aw_ren (l' := [(0, AS v0), (3, AI (w64 (v1011 + 1)))]) (L := []) [0, 3] [] 1 (by first | rfl | simp) (by first | rfl | simp) (by decide) (by decide) (by decide) ⟨_, by rfl, hF⟩
        ·
          refine w_exit ?_
          refine thenQ_e ?_
          refine thenQ_e ?_
          refine blockQ_e ?_
          refine thenQ_n ?_
          refine w_reg_seq 257 321 rfl rfl ?_
          refine qp (AB true) rfl ?_
          refine r_nil ?_
          refine w_ret ?_
          cases hF
          exact endQ_r rfl (.inl ⟨_, _, by first | rfl | (simp [List.take_of_length_le]; first | exact ⟨rfl, rfl⟩ | rfl), by simp, by first | rfl | simp [res_spec_l01Name, List.take_of_length_le]⟩)

def c95 : MC := (.seq (.reg [⟨(some 6), none, (.p true (.mv (.c (.bool false))))⟩]) (.seq (.reg [⟨(some 7), none, (.p true (.mv (.t 0)))⟩, ⟨(some 8), none, (.p true (.mv (.t 1)))⟩, ⟨(some 9), none, (.p true (.bin .geq (.t 7) (.t 8)))⟩, ⟨(some 10), none, (.p true (.mv (.t 9)))⟩, ⟨(some 11), (some (10, true)), (.p true (.mv (.t 0)))⟩, ⟨(some 12), (some (10, true)), (.p true (.mv (.t 2)))⟩, ⟨(some 13), (some (10, true)), (.p true (.bin .leq (.t 11) (.t 12)))⟩, ⟨(some 14), none, (.p true (.pick (.t 10) (.t 13) (.c (.bool false))))⟩, ⟨(some 6), none, (.p true (.mv (.t 14)))⟩]) .ret))
theorem c95_is : compFn Try.prog 95 = some (c95, [(.tmp 6)]) := by kernel_rfl
theorem c95_ok : okFn Try.prog 95 = true := by kernel_rfl

def F_spec_l00In (v0 : Int) (v1 : Int) (v2 : Int) : Option (Bool) :=
  (bif (decide (v1 ≤ v0)) then some (decide (v0 ≤ v2))
  else some false)
@[simp] def res_spec_l00In (r : Bool) : RV := .one (.one (.val (.bool r)))
theorem con_spec_l00In {v0 : Int} {v1 : Int} {v2 : Int} {r : Bool} (hF : F_spec_l00In v0 v1 v2 = some r) : Con Try.prog 95 [.int .i64 v0, .int .i64 v1, .int .i64 v2] (res_spec_l00In r) := by
  unfold F_spec_l00In at hF
  refine con_of c95_is fun N => ?_
  refine w_reg_seq 0 64 rfl rfl ?_
  refine qp (AB false) rfl ?_
  refine r_nil ?_
  refine w_reg_seq 64 640 rfl rfl ?_
  refine qp (AI v0) rfl (qp (AI v1) rfl (qp (AB (decide (v1 ≤ v0))) rfl (qp (AB (decide (v1 ≤ v0))) rfl ?_)))
  refine q_case 10 hF rfl (fun hF => ?_) (fun hF => ?_)
  ·
    refine qg (AI v0) rfl rfl (qg (AI v2) rfl rfl (qg (AB (decide (v0 ≤ v2))) rfl rfl (qp (AB (decide (v0 ≤ v2))) rfl (qp (AB (decide (v0 ≤ v2))) rfl ?_))))
    refine r_nil ?_
    refine w_ret ?_
    cases hF
    exact endQ_r rfl (.inl ⟨_, _, by first | rfl | (simp [List.take_of_length_le]; first | exact ⟨rfl, rfl⟩ | rfl), by simp, by first | rfl | simp [res_spec_l00In, List.take_of_length_le]⟩)
  ·
    refine qn rfl (qn rfl (qn rfl (qp (AB false) rfl (qp (AB false) rfl ?_))))
    refine r_nil ?_
    refine w_ret ?_
    cases hF
    exact endQ_r rfl (.inl ⟨_, _, by first | rfl | (simp [List.take_of_length_le]; first | exact ⟨rfl, rfl⟩ | rfl), by simp, by first | rfl | simp [res_spec_l00In, List.take_of_length_le]⟩)

def c119 : MC := (.seq (.reg [⟨(some 2), none, (.p true (.mv (.c (.bool false))))⟩]) (.seq (.reg [⟨(some 3), none, (.p true (.mv (.t 0)))⟩, ⟨(some 4), none, (.call true 95 [(.t 3), (.c (.int .i64 (-12))), (.c (.int .i64 23))])⟩, ⟨(some 2), none, (.p true (.mv (.t 4)))⟩]) .ret))
theorem c119_is : compFn Try.prog 119 = some (c119, [(.tmp 2)]) := by kernel_rfl
theorem c119_ok : okFn Try.prog 119 = true := by kernel_rfl

def F_spec_l03Pitch (v0 : Int) : Option (Bool) :=
  ((F_spec_l00In v0 (-12) 23).bind fun v1000 => some v1000)
@[simp] def res_spec_l03Pitch (r : Bool) : RV := .one (.one (.val (.bool r)))
theorem con_spec_l03Pitch {v0 : Int} {r : Bool} (hF : F_spec_l03Pitch v0 = some r) : Con Try.prog 119 [.int .i64 v0] (res_spec_l03Pitch r) := by
  unfold F_spec_l03Pitch at hF
  refine con_of c119_is fun N => ?_
  refine w_reg_seq 0 64 rfl rfl ?_
  refine qp (AB false) rfl ?_
  refine r_nil ?_
  refine w_reg_seq 64 256 rfl rfl ?_
  refine qp (AI v0) rfl ?_
  obtain ⟨v1000, e1000, hF⟩ := bind_get hF
  refine qc (AB v1000) [] false (con_spec_l00In e1000) c95_ok (by first | rfl | simp) rfl ?_
  refine qp (AB v1000) rfl ?_
  refine r_nil ?_
  refine w_ret ?_
  cases hF
  exact endQ_r rfl (.inl ⟨_, _, by first | rfl | (simp [List.take_of_length_le]; first | exact ⟨rfl, rfl⟩ | rfl), by simp, by first | rfl | simp [res_spec_l03Pitch, List.take_of_length_le]⟩)

def c120 : MC := (.seq (.reg [⟨(some 2), none, (.p true (.mv (.c (.bool false))))⟩]) (.seq (.reg [⟨(some 3), none, (.p true (.mv (.t 0)))⟩, ⟨(some 4), none, (.call true 95 [(.t 3), (.c (.int .i64 1)), (.c (.int .i64 64))])⟩, ⟨(some 2), none, (.p true (.mv (.t 4)))⟩]) .ret))
theorem c120_is : compFn Try.prog 120 = some (c120, [(.tmp 2)]) := by kernel_rfl
theorem c120_ok : okFn Try.prog 120 = true := by kernel_rfl

def F_spec_l09Length (v0 : Int) : Option (Bool) :=
  ((F_spec_l00In v0 1 64).bind fun v1000 => some v1000)
@[simp] def res_spec_l09Length (r : Bool) : RV := .one (.one (.val (.bool r)))
theorem con_spec_l09Length {v0 : Int} {r : Bool} (hF : F_spec_l09Length v0 = some r) : Con Try.prog 120 [.int .i64 v0] (res_spec_l09Length r) := by
  unfold F_spec_l09Length at hF
  refine con_of c120_is fun N => ?_
  refine w_reg_seq 0 64 rfl rfl ?_
  refine qp (AB false) rfl ?_
  refine r_nil ?_
  refine w_reg_seq 64 256 rfl rfl ?_
  refine qp (AI v0) rfl ?_
  obtain ⟨v1000, e1000, hF⟩ := bind_get hF
  refine qc (AB v1000) [] false (con_spec_l00In e1000) c95_ok (by first | rfl | simp) rfl ?_
  refine qp (AB v1000) rfl ?_
  refine r_nil ?_
  refine w_ret ?_
  cases hF
  exact endQ_r rfl (.inl ⟨_, _, by first | rfl | (simp [List.take_of_length_le]; first | exact ⟨rfl, rfl⟩ | rfl), by simp, by first | rfl | simp [res_spec_l09Length, List.take_of_length_le]⟩)

def c104 : MC := (.seq (.reg [⟨(some 2), none, (.p true (.mv (.c (.bool false))))⟩]) (.seq (.seq (.reg [⟨(some 3), none, (.p true (.mv (.c (.int .i64 0))))⟩]) (.block 0 (.loop (.seq (.seq (.reg [⟨(some 4), none, (.p true (.mv (.t 3)))⟩, ⟨(some 5), none, (.p true (.mv (.t 0)))⟩, ⟨(some 6), none, (.p true (.len (.t 5)))⟩, ⟨(some 7), none, (.p true (.bin .lss (.t 4) (.t 6)))⟩]) (.cond (.t 7) .skip (.exit 0))) (.seq (.block 1 (.seq (.reg [⟨(some 10), none, (.p true (.mv (.t 0)))⟩, ⟨(some 11), none, (.p true (.mv (.t 3)))⟩, ⟨(some 12), none, (.p true (.iad (.t 10) (.t 11) 2))⟩, ⟨(some 13), none, (.p true (.fad (.t 12) 0))⟩, ⟨(some 14), none, (.p true (.ld (.t 13) 1 false))⟩, ⟨(some 15), none, (.call true 119 [(.t 14)])⟩, ⟨(some 16), none, (.p true (.not (.t 15)))⟩, ⟨(some 17), none, (.p true (.mv (.t 16)))⟩, ⟨(some 18), (some (17, false)), (.p true (.mv (.t 0)))⟩, ⟨(some 19), (some (17, false)), (.p true (.mv (.t 3)))⟩, ⟨(some 20), (some (17, false)), (.p true (.iad (.t 18) (.t 19) 2))⟩, ⟨(some 21), (some (17, false)), (.p true (.fad (.t 20) 1))⟩, ⟨(some 22), (some (17, false)), (.p true (.ld (.t 21) 1 false))⟩, ⟨(some 23), (some (17, false)), (.call true 120 [(.t 22)])⟩, ⟨(some 24), (some (17, false)), (.p true (.not (.t 23)))⟩, ⟨(some 25), none, (.p true (.pick (.t 17) (.c (.bool true)) (.t 24)))⟩]) (.cond (.t 25) (.seq (.reg [⟨(some 2), none, (.p true (.mv (.c (.bool false))))⟩]) .ret) .skip))) (.reg [⟨(some 8), none, (.p true (.mv (.t 3)))⟩, ⟨(some 9), none, (.p true (.bin .add (.t 8) (.c (.int .i64 1))))⟩, ⟨(some 3), none, (.p true (.mv (.t 9)))⟩])))))) (.seq (.reg [⟨(some 26), none, (.p true (.mv (.t 0)))⟩, ⟨(some 27), none, (.p true (.len (.t 26)))⟩, ⟨(some 28), none, (.p true (.bin .leq (.t 27) (.c (.int .i64 48))))⟩, ⟨(some 2), none, (.p true (.mv (.t 28)))⟩]) .ret)))
theorem c104_is : compFn Try.prog 104 = some (c104, [(.tmp 2)]) := by kernel_rfl
theorem c104_ok : okFn Try.prog 104 = true := by kernel_rfl

def F_spec_l09Ok_l0 (v0 : List TNote) (k0 : Int → Option (Bool)) : Int → Option (Bool)
  | v10 => (bif (decide (v10 < (v0.length : Int))) then ((ix v0 v10).bind fun v1000 => ((F_spec_l03Pitch v1000.1).bind fun v1001 => (bif (!v1001) then some false
  else ((ix v0 v10).bind fun v1002 => ((F_spec_l09Length v1002.2).bind fun v1003 => (bif (!v1003) then some false
  else k0 (w64 (v10 + 1))))))))
  else some (decide ((v0.length : Int) ≤ (48 : Int))))
def F_spec_l09Ok (v0 : List TNote) : Option (Bool) :=
  loop (F_spec_l09Ok_l0 v0) 0
@[simp] def res_spec_l09Ok (r : Bool) : RV := .one (.one (.val (.bool r)))
theorem con_spec_l09Ok {v0 : List TNote} {r : Bool} (hF : F_spec_l09Ok v0 = some r) : Con Try.prog 104 [.sl 2 (v0.map eNote)] (res_spec_l09Ok r) := by
  unfold F_spec_l09Ok at hF
  refine con_of c104_is fun N => ?_
  refine w_reg_seq 0 64 rfl rfl ?_
  refine qp (AB false) rfl ?_
  refine r_nil ?_
  refine w_seq ?_
  refine w_reg_seq 64 128 rfl rfl ?_
  refine qp (AI 0) rfl ?_
  refine r_nil ?_
  refine w_block ?_
  refine w_ren (l' := [(0, .val none (.sl 2 (v0.map eNote))), (3, AI 0)]) (L := []) [0, 3] [] 1 (by first | rfl | simp) (by first | rfl | simp) (by decide) (by decide) (by decide) ?_
  refine w_loopF (F_spec_l09Ok_l0 v0) (fun s : Int => mkS [(0, .val none (.sl 2 (v0.map eNote))), (3, AI s)] (fo []) 1) hF ?_
  rintro k0 v10 hF
  rw [F_spec_l09Ok_l0] at hF
  try dsimp only
  refine w_seq ?_
  refine w_reg_seq 1 257 rfl rfl ?_
  refine qp (AI v10) rfl (qp (.val none (.sl 2 (v0.map eNote))) rfl (qp (AI (v0.length : Int)) (ev_len_n rfl) (qp (AB (decide (v10 < (v0.length : Int)))) rfl ?_)))
  refine r_nil ?_
  refine w_condF hF rfl (fun hF => ?_) (fun hF => ?_)
  ·
    refine w_skip ?_
    refine thenQ_n ?_
    refine w_seq ?_
    refine w_block ?_
    refine w_reg_seq 257 1281 rfl rfl ?_
    refine qp (.val none (.sl 2 (v0.map eNote))) rfl (qp (AI v10) rfl ?_)
    obtain ⟨v1000, e1000, hF⟩ := bind_get hF
    refine qp (.val none (.ptr [.int .i64 v1000.1, .int .i64 v1000.2])) (ev_iad_n rfl rfl e1000 rfl) (qp (.val none (.ptr [.int .i64 v1000.1, .int .i64 v1000.2])) rfl (qp (AI v1000.1) rfl ?_))
    obtain ⟨v1001, e1001, hF⟩ := bind_get hF
    refine qc (AB v1001) [] false (con_spec_l03Pitch e1001) c119_ok (by first | rfl | simp) rfl ?_
    refine qp (AB (!v1001)) rfl (qp (AB (!v1001)) rfl ?_)
    refine q_case 17 hF rfl (fun hF => ?_) (fun hF => ?_)
    ·
      refine qn rfl (qn rfl (qn rfl (qn rfl (qn rfl (qn rfl (qn rfl (qp (AB true) rfl ?_)))))))
      refine r_nil ?_
      refine w_true rfl ?_
      refine w_reg_seq 1281 1345 rfl rfl ?_
      refine qp (AB false) rfl ?_
      refine r_nil ?_
      refine w_ret ?_
      refine blockQ_r ?_
      refine thenQ_r ?_
      refine thenQ_r ?_
      refine blockQ_r ?_
      refine thenQ_r ?_
      cases hF
      exact endQ_r rfl (.inl ⟨_, _, by first | rfl | (simp [List.take_of_length_le]; first | exact ⟨rfl, rfl⟩ | rfl), by simp, by first | rfl | simp [res_spec_l09Ok, List.take_of_length_le]⟩)
    ·
      refine qg (.val none (.sl 2 (v0.map eNote))) rfl rfl (qg (AI v10) rfl rfl ?_)
      obtain ⟨v1002, e1002, hF⟩ := bind_get hF
      refine qg (.val none (.ptr [.int .i64 v1002.1, .int .i64 v1002.2])) rfl (ev_iad_n rfl rfl e1002 rfl) (qg (.val none (.ptr [.int .i64 v1002.2])) rfl rfl (qg (AI v1002.2) rfl rfl ?_))
      obtain ⟨v1003, e1003, hF⟩ := bind_get hF
      refine qcg (AB v1003) [] false rfl (con_spec_l09Length e1003) c120_ok (by first | rfl | simp) rfl ?_
      refine qg (AB (!v1003)) rfl rfl (qp (AB (!v1003)) rfl ?_)
      refine r_nil ?_
      refine w_condF hF rfl (fun hF => ?_) (fun hF => ?_)
      ·
        refine w_reg_seq 1281 1345 rfl rfl ?_
        refine qp (AB false) rfl ?_
        refine r_nil ?_
        refine w_ret ?_
        refine blockQ_r ?_
        refine thenQ_r ?_
        refine thenQ_r ?_
        refine blockQ_r ?_
        refine thenQ_r ?_
        cases hF
        exact endQ_r rfl (.inl ⟨_, _, by first | rfl | (simp [List.take_of_length_le]; first | exact ⟨rfl, rfl⟩ | rfl), by simp, by first | rfl | simp [res_spec_l09Ok, List.take_of_length_le]⟩)
      ·
        refine w_skip ?_
        refine blockQ_n ?_
        refine thenQ_n ?_
        refine w_reg 1281 1473 rfl rfl ?_
        refine qp (AI v10) rfl (qp (AI (w64 (v10 + 1))) rfl (qp (AI (w64 (v10 + 1))) rfl ?_))
        refine r_nil ?_
        refine thenQ_n ?_
        refine aw_ren (l' := [(0, .val none (.sl 2 (v0.map eNote))), (3, AI (w64 (v10 + 1)))]) (L := []) [0, 3] [] 1 (by first | rfl | simp) (by first | rfl | simp) (by decide) (by decide) (by decide) ⟨_, by rfl, hF⟩
  ·
    refine w_exit ?_
    refine thenQ_e ?_
    refine thenQ_e ?_
    refine blockQ_e ?_
    refine thenQ_n ?_
    refine w_reg_seq 257 513 rfl rfl ?_
    refine qp (.val none (.sl 2 (v0.map eNote))) rfl (qp (AI (v0.length : Int)) (ev_len_n rfl) (qp (AB (decide ((v0.length : Int) ≤ (48 : Int)))) rfl (qp (AB (decide ((v0.length : Int) ≤ (48 : Int)))) rfl ?_)))
    refine r_nil ?_
    refine w_ret ?_
    cases hF
    exact endQ_r rfl (.inl ⟨_, _, by first | rfl | (simp [List.take_of_length_le]; first | exact ⟨rfl, rfl⟩ | rfl), by simp, by first | rfl | simp [res_spec_l09Ok, List.take_of_length_le]⟩)

def c83 : MC := (.seq (.reg [⟨(some 2), none, (.p true (.mv (.c (.bool false))))⟩]) (.seq (.seq (.reg [⟨(some 3), none, (.p true (.mv (.c (.int .i64 0))))⟩]) (.block 0 (.loop (.seq (.seq (.reg [⟨(some 4), none, (.p true (.mv (.t 3)))⟩, ⟨(some 5), none, (.p true (.mv (.t 0)))⟩, ⟨(some 6), none, (.p true (.len (.t 5)))⟩, ⟨(some 7), none, (.p true (.bin .lss (.t 4) (.t 6)))⟩]) (.cond (.t 7) .skip (.exit 0))) (.seq (.block 1 (.seq (.reg [⟨(some 10), none, (.p false (.mv (.t 0)))⟩, ⟨(some 11), none, (.p false (.mv (.t 3)))⟩, ⟨(some 12), none, (.p false (.iad (.t 10) (.t 11) 2))⟩, ⟨(some 13), none, (.p false (.fad (.t 12) 0))⟩, ⟨(some 14), none, (.p false (.ld (.t 13) 1 false))⟩, ⟨(some 15), none, (.call false 98 [(.t 14)])⟩, ⟨(some 16), none, (.p false (.not (.t 15)))⟩, ⟨(some 17), none, (.p false (.mv (.t 16)))⟩, ⟨(some 18), (some (17, false)), (.p false (.mv (.t 0)))⟩, ⟨(some 19), (some (17, false)), (.p false (.mv (.t 3)))⟩, ⟨(some 20), (some (17, false)), (.p false (.iad (.t 18) (.t 19) 2))⟩, ⟨(some 21), (some (17, false)), (.p false (.fad (.t 20) 1))⟩, ⟨(some 22), (some (17, false)), (.p false (.ld (.t 21) 1 false))⟩, ⟨(some 23), (some (17, false)), (.call false 104 [(.t 22)])⟩, ⟨(some 24), (some (17, false)), (.p false (.not (.t 23)))⟩, ⟨(some 25), none, (.p false (.pick (.t 17) (.c (.bool true)) (.t 24)))⟩, ⟨(some 26), none, (.p false (.mv (.t 25)))⟩, ⟨(some 27), (some (26, false)), (.p false (.mv (.t 3)))⟩, ⟨(some 28), (some (26, false)), (.p false (.bin .gtr (.t 27) (.c (.int .i64 0))))⟩, ⟨(some 29), (some (26, false)), (.p false (.mv (.t 28)))⟩, ⟨(some 30), (some (29, true)), (.p false (.mv (.t 0)))⟩, ⟨(some 31), (some (29, true)), (.p false (.mv (.t 3)))⟩, ⟨(some 32), (some (29, true)), (.p false (.bin .sub (.t 31) (.c (.int .i64 1))))⟩, ⟨(some 33), (some (29, true)), (.p false (.iad (.t 30) (.t 32) 2))⟩, ⟨(some 34), (some (29, true)), (.p false (.fad (.t 33) 0))⟩, ⟨(some 35), (some (29, true)), (.p false (.ld (.t 34) 1 false))⟩, ⟨(some 36), (some (29, true)), (.p false (.mv (.t 0)))⟩, ⟨(some 37), (some (29, true)), (.p false (.mv (.t 3)))⟩, ⟨(some 38), (some (29, true)), (.p false (.iad (.t 36) (.t 37) 2))⟩, ⟨(some 39), (some (29, true)), (.p false (.fad (.t 38) 0))⟩, ⟨(some 40), (some (29, true)), (.p false (.ld (.t 39) 1 false))⟩, ⟨(some 41), (some (29, true)), (.p false (.bin .geq (.t 35) (.t 40)))⟩, ⟨(some 42), (some (26, false)), (.p false (.pick (.t 29) (.t 41) (.c (.bool false))))⟩, ⟨(some 43), none, (.p false (.pick (.t 26) (.c (.bool true)) (.t 42)))⟩]) (.cond (.t 43) (.seq (.reg [⟨(some 2), none, (.p true (.mv (.c (.bool false))))⟩]) .ret) .skip))) (.reg [⟨(some 8), none, (.p true (.mv (.t 3)))⟩, ⟨(some 9), none, (.p true (.bin .add (.t 8) (.c (.int .i64 1))))⟩, ⟨(some 3), none, (.p true (.mv (.t 9)))⟩])))))) (.seq (.reg [⟨(some 44), none, (.p true (.mv (.t 0)))⟩, ⟨(some 45), none, (.p true (.len (.t 44)))⟩, ⟨(some 46), none, (.p true (.bin .leq (.t 45) (.c (.int .i64 12))))⟩, ⟨(some 2), none, (.p true (.mv (.t 46)))⟩]) .ret)))
theorem c83_is : compFn Try.prog 83 = some (c83, [(.tmp 2)]) := by kernel_rfl
theorem c83_ok : okFn Try.prog 83 = true := by kernel_rfl

def F_spec_l29Library_l0 (v0 : List TNamedMelody) (k0 : Int → Option (Bool)) : Int → Option (Bool)
  | v14 => (bif (decide (v14 < (v0.length : Int))) then ((ix v0 v14).bind fun v1000 => ((F_spec_l01Name v1000.1).bind fun v1001 => (bif (!v1001) then some false
  else ((ix v0 v14).bind fun v1002 => ((F_spec_l09Ok v1002.2).bind fun v1003 => (bif (!v1003) then some false
  else (bif (decide ((0 : Int) < v14)) then ((ix v0 (w64 (v14 - 1))).bind fun v1004 => ((ix v0 v14).bind fun v1005 => (bif (!Op.bytesLess v1004.1 v1005.1) then some false
  else k0 (w64 (v14 + 1)))))
  else k0 (w64 (v14 + 1)))))))))
  else some (decide ((v0.length : Int) ≤ (12 : Int))))
def F_spec_l29Library (v0 : List TNamedMelody) : Option (Bool) :=
  loop (F_spec_l29Library_l0 v0) 0
@[simp] def res_spec_l29Library (r : Bool) : RV := .one (.one (.val (.bool r)))
theorem con_spec_l29Library {v0 : List TNamedMelody} {r : Bool} (hF : F_spec_l29Library v0 = some r) : Con Try.prog 83 [.sl 2 (v0.map eNamedMelody)] (res_spec_l29Library r) := by
  unfold F_spec_l29Library at hF
  refine con_of c83_is fun N => ?_
  refine w_reg_seq 0 64 rfl rfl ?_
  refine qp (AB false) rfl ?_
  refine r_nil ?_
  refine w_seq ?_
  refine w_reg_seq 64 128 rfl rfl ?_
  refine qp (AI 0) rfl ?_
  refine r_nil ?_
  refine w_block ?_
  refine w_ren (l' := [(0, .val none (.sl 2 (v0.map eNamedMelody))), (3, AI 0)]) (L := []) [0, 3] [] 1 (by first | rfl | simp) (by first | rfl | simp) (by decide) (by decide) (by decide) ?_
  refine w_loopF (F_spec_l29Library_l0 v0) (fun s : Int => mkS [(0, .val none (.sl 2 (v0.map eNamedMelody))), (3, AI s)] (fo []) 1) hF ?_
  rintro k0 v14 hF
  rw [F_spec_l29Library_l0] at hF
  try dsimp only
  refine w_seq ?_
  refine w_reg_seq 1 257 rfl rfl ?_
  refine qp (AI v14) rfl (qp (.val none (.sl 2 (v0.map eNamedMelody))) rfl (qp (AI (v0.length : Int)) (ev_len_n rfl) (qp (AB (decide (v14 < (v0.length : Int)))) rfl ?_)))
  refine r_nil ?_
  refine w_condF hF rfl (fun hF => ?_) (fun hF => ?_)
  ·
    refine w_skip ?_
    refine thenQ_n ?_
    refine w_seq ?_
    refine w_block ?_
    refine w_reg_seq 257 2433 rfl rfl ?_
    refine qp (.val none (.sl 2 (v0.map eNamedMelody))) rfl (qp (AI v14) rfl ?_)
    obtain ⟨v1000, e1000, hF⟩ := bind_get hF
    refine qp (.val none (.ptr [.str v1000.1, .sl 2 (v1000.2.map eNote)])) (ev_iad_n rfl rfl e1000 rfl) (qp (.val none (.ptr [.str v1000.1, .sl 2 (v1000.2.map eNote)])) rfl (qp (AS v1000.1) rfl ?_))
    obtain ⟨v1001, e1001, hF⟩ := bind_get hF
    refine qc (AB v1001) [] false (con_spec_l01Name e1001) c98_ok (by first | rfl | simp) rfl ?_
    refine qp (AB (!v1001)) rfl (qp (AB (!v1001)) rfl ?_)
    refine q_case 17 hF rfl (fun hF => ?_) (fun hF => ?_)
    ·
      refine qn rfl (qn rfl (qn rfl (qn rfl (qn rfl (qn rfl (qn rfl (qp (AB true) rfl ?_)))))))
      refine qp (AB true) rfl (qn rfl (qn rfl (qn rfl (qu rfl (qu rfl (qu rfl (qu rfl ?_)))))))
      refine qu rfl (qu rfl (qu rfl (qu rfl (qu rfl (qu rfl (qu rfl (qu rfl ?_)))))))
      refine qn rfl (qp (AB true) rfl ?_)
      refine r_nil ?_
      refine w_true rfl ?_
      refine w_reg_seq 2433 2497 rfl rfl ?_
      refine qp (AB false) rfl ?_
      refine r_nil ?_
      refine w_ret ?_
      refine blockQ_r ?_
      refine thenQ_r ?_
      refine thenQ_r ?_
      refine blockQ_r ?_
      refine thenQ_r ?_
      cases hF
      exact endQ_r rfl (.inl ⟨_, _, by first | rfl | (simp [List.take_of_length_le]; first | exact ⟨rfl, rfl⟩ | rfl), by simp, by first | rfl | simp [res_spec_l29Library, List.take_of_length_le]⟩)
    ·
      refine qg (.val none (.sl 2 (v0.map eNamedMelody))) rfl rfl (qg (AI v14) rfl rfl ?_)
      obtain ⟨v1002, e1002, hF⟩ := bind_get hF
      refine qg (.val none (.ptr [.str v1002.1, .sl 2 (v1002.2.map eNote)])) rfl (ev_iad_n rfl rfl e1002 rfl) (qg (.val none (.ptr [.sl 2 (v1002.2.map eNote)])) rfl rfl (qg (.val none (.sl 2 (v1002.2.map eNote))) rfl rfl ?_))
      obtain ⟨v1003, e1003, hF⟩ := bind_get hF
      refine qcg (AB v1003) [] false rfl (con_spec_l09Ok e1003) c104_ok (by first | rfl | simp) rfl ?_
      refine qg (AB (!v1003)) rfl rfl (qp (AB (!v1003)) rfl (qp (AB (!v1003)) rfl ?_))
      refine q_case 26 hF rfl (fun hF => ?_) (fun hF => ?_)
      ·
        refine qn rfl (qn rfl (qn rfl (qu rfl (qu rfl (qu rfl (qu rfl (qu rfl ?_)))))))
        refine qu rfl (qu rfl (qu rfl (qu rfl (qu rfl (qu rfl (qu rfl (qn rfl ?_)))))))
        refine qp (AB true) rfl ?_
        refine r_nil ?_
        refine w_true rfl ?_
        refine w_reg_seq 2433 2497 rfl rfl ?_
        refine qp (AB false) rfl ?_
        refine r_nil ?_
        refine w_ret ?_
        refine blockQ_r ?_
        refine thenQ_r ?_
        refine thenQ_r ?_
        refine blockQ_r ?_
        refine thenQ_r ?_
        cases hF
        exact endQ_r rfl (.inl ⟨_, _, by first | rfl | (simp [List.take_of_length_le]; first | exact ⟨rfl, rfl⟩ | rfl), by simp, by first | rfl | simp [res_spec_l29Library, List.take_of_length_le]⟩)
      ·
        refine qg (AI v14) rfl rfl (qg (AB (decide ((0 : Int) < v14))) rfl rfl (qg (AB (decide ((0 : Int) < v14))) rfl rfl ?_))
        refine q_case 29 hF rfl (fun hF => ?_) (fun hF => ?_)
        ·
          refine qg (.val none (.sl 2 (v0.map eNamedMelody))) rfl rfl (qg (AI v14) rfl rfl (qg (AI (w64 (v14 - 1))) rfl rfl ?_))
          obtain ⟨v1004, e1004, hF⟩ := bind_get hF
          refine qg (.val none (.ptr [.str v1004.1, .sl 2 (v1004.2.map eNote)])) rfl (ev_iad_n rfl rfl e1004 rfl) (qg (.val none (.ptr [.str v1004.1, .sl 2 (v1004.2.map eNote)])) rfl rfl (qg (AS v1004.1) rfl rfl (qg (.val none (.sl 2 (v0.map eNamedMelody))) rfl rfl (qg (AI v14) rfl rfl ?_))))
          obtain ⟨v1005, e1005, hF⟩ := bind_get hF
          refine qg (.val none (.ptr [.str v1005.1, .sl 2 (v1005.2.map eNote)])) rfl (ev_iad_n rfl rfl e1005 rfl) (qg (.val none (.ptr [.str v1005.1, .sl 2 (v1005.2.map eNote)])) rfl rfl (qg (AS v1005.1) rfl rfl (qg (AB (!Op.bytesLess v1004.1 v1005.1)) rfl rfl (qg (AB (!Op.bytesLess v1004.1 v1005.1)) rfl rfl (qp (AB (!Op.bytesLess v1004.1 v1005.1)) rfl ?_)))))
          refine r_nil ?_
          refine w_condF hF rfl (fun hF => ?_) (fun hF => ?_)
          ·
            refine w_reg_seq 2433 2497 rfl rfl ?_
            refine qp (AB false) rfl ?_
            refine r_nil ?_
            refine w_ret ?_
            refine blockQ_r ?_
            refine thenQ_r ?_
            refine thenQ_r ?_
            refine blockQ_r ?_
            refine thenQ_r ?_
            cases hF
            exact endQ_r rfl (.inl ⟨_, _, by first | rfl | (simp [List.take_of_length_le]; first | exact ⟨rfl, rfl⟩ | rfl), by simp, by first | rfl | simp [res_spec_l29Library, List.take_of_length_le]⟩)
          ·
            refine w_skip ?_
            refine blockQ_n ?_
            refine thenQ_n ?_
            refine w_reg 2433 2625 rfl rfl ?_
            refine qp (AI v14) rfl (qp (AI (w64 (v14 + 1))) rfl (qp (AI (w64 (v14 + 1))) rfl ?_))
            refine r_nil ?_
            refine thenQ_n ?_
            refine aw_ren (l' := [(0, .val none (.sl 2 (v0.map eNamedMelody))), (3, AI (w64 (v14 + 1)))]) (L := []) [0, 3] [] 1 (by first | rfl | simp) (by first | rfl | simp) (by decide) (by decide) (by decide) ⟨_, by rfl, hF⟩
        ·
          refine qn rfl (qn rfl (qn rfl (qn rfl (qn rfl (qn rfl (qn rfl (qn rfl ?_)))))))
          refine qn rfl (qn rfl (qn rfl (qn rfl (qg (AB false) rfl rfl (qp (AB false) rfl ?_)))))
          refine r_nil ?_
          refine w_false rfl ?_
          refine w_skip ?_
          refine blockQ_n ?_
          refine thenQ_n ?_
          refine w_reg 2433 2625 rfl rfl ?_
          refine qp (AI v14) rfl (qp (AI (w64 (v14 + 1))) rfl (qp (AI (w64 (v14 + 1))) rfl ?_))
          refine r_nil ?_
          refine thenQ_n ?_
          refine aw_ren (l' := [(0, .val none (.sl 2 (v0.map eNamedMelody))), (3, AI (w64 (v14 + 1)))]) (L := []) [0, 3] [] 1 (by first | rfl | simp) (by first | rfl | simp) (by decide) (by decide) (by decide) ⟨_, by rfl, hF⟩
  ·
    refine w_exit ?_
    refine thenQ_e ?_
    refine thenQ_e ?_
    refine blockQ_e ?_
    refine thenQ_n ?_
    refine w_reg_seq 257 513 rfl rfl ?_
    refine qp (.val none (.sl 2 (v0.map eNamedMelody))) rfl (qp (AI (v0.length : Int)) (ev_len_n rfl) (qp (AB (decide ((v0.length : Int) ≤ (12 : Int)))) rfl (qp (AB (decide ((v0.length : Int) ≤ (12 : Int)))) rfl ?_)))
    refine r_nil ?_
    refine w_ret ?_
    cases hF
    exact endQ_r rfl (.inl ⟨_, _, by first | rfl | (simp [List.take_of_length_le]; first | exact ⟨rfl, rfl⟩ | rfl), by simp, by first | rfl | simp [res_spec_l29Library, List.take_of_length_le]⟩)

def c47 : MC := (.seq (.reg [⟨(some 2), none, (.p true (.mv (.c (.bool false))))⟩]) (.seq (.reg [⟨(some 3), none, (.p true (.mv (.t 0)))⟩, ⟨(some 4), none, (.call true 83 [(.t 3)])⟩, ⟨(some 2), none, (.p true (.mv (.t 4)))⟩]) .ret))
theorem c47_is : compFn Try.prog 47 = some (c47, [(.tmp 2)]) := by kernel_rfl
theorem c47_ok : okFn Try.prog 47 = true := by kernel_rfl

def F_spec_ValidLibrary (v0 : List TNamedMelody) : Option (Bool) :=
  ((F_spec_l29Library v0).bind fun v1000 => some v1000)
@[simp] def res_spec_ValidLibrary (r : Bool) : RV := .one (.one (.val (.bool r)))
theorem con_spec_ValidLibrary {v0 : List TNamedMelody} {r : Bool} (hF : F_spec_ValidLibrary v0 = some r) : Con Try.prog 47 [.sl 2 (v0.map eNamedMelody)] (res_spec_ValidLibrary r) := by
  unfold F_spec_ValidLibrary at hF
  refine con_of c47_is fun N => ?_
  refine w_reg_seq 0 64 rfl rfl ?_
  refine qp (AB false) rfl ?_
  refine r_nil ?_
  refine w_reg_seq 64 256 rfl rfl ?_
  refine qp (.val none (.sl 2 (v0.map eNamedMelody))) rfl ?_
  obtain ⟨v1000, e1000, hF⟩ := bind_get hF
  refine qc (AB v1000) [] false (con_spec_l29Library e1000) c83_ok (by first | rfl | simp) rfl ?_
  refine qp (AB v1000) rfl ?_
  refine r_nil ?_
  refine w_ret ?_
  cases hF
  exact endQ_r rfl (.inl ⟨_, _, by first | rfl | (simp [List.take_of_length_le]; first | exact ⟨rfl, rfl⟩ | rfl), by simp, by first | rfl | simp [res_spec_ValidLibrary, List.take_of_length_le]⟩)

def c99 : MC := (.seq (.reg [⟨(some 2), none, (.p true (.mv (.c (.bool false))))⟩]) (.seq (.seq (.reg [⟨(some 5), none, (.p true (.mv (.t 0)))⟩, ⟨(some 6), none, (.p true (.lens (.t 5)))⟩, ⟨(some 7), none, (.p true (.mv (.c (.int .i64 0))))⟩]) (.block 0 (.loop (.seq (.reg [⟨(some 8), none, (.p true (.bin .lss (.t 7) (.t 6)))⟩]) (.seq (.cond (.t 8) .skip (.exit 0)) (.seq (.block 1 (.seq (.reg [⟨(some 9), none, (.p true (.mv (.t 7)))⟩, ⟨(some 3), none, (.p true (.mv (.t 9)))⟩]) (.seq (.reg [⟨(some 10), none, (.p true (.mv (.t 0)))⟩, ⟨(some 11), none, (.p true (.mv (.t 3)))⟩, ⟨(some 12), none, (.p true (.ixs (.t 10) (.t 11)))⟩, ⟨(some 4), none, (.p true (.mv (.t 12)))⟩]) (.seq (.reg [⟨(some 13), none, (.p true (.mv (.t 4)))⟩, ⟨(some 14), none, (.p true (.bin .lss (.t 13) (.c (.int .u8 97))))⟩, ⟨(some 15), none, (.p true (.mv (.t 14)))⟩, ⟨(some 16), (some (15, false)), (.p true (.mv (.t 4)))⟩, ⟨(some 17), (some (15, false)), (.p true (.bin .gtr (.t 16) (.c (.int .u8 122))))⟩, ⟨(some 18), none, (.p true (.pick (.t 15) (.c (.bool true)) (.t 17)))⟩, ⟨(some 19), none, (.p true (.mv (.t 18)))⟩, ⟨(some 20), (some (19, true)), (.p true (.mv (.t 4)))⟩, ⟨(some 21), (some (19, true)), (.p true (.bin .lss (.t 20) (.c (.int .u8 48))))⟩, ⟨(some 22), (some (19, true)), (.p true (.mv (.t 21)))⟩, ⟨(some 23), (some (22, false)), (.p true (.mv (.t 4)))⟩, ⟨(some 24), (some (22, false)), (.p true (.bin .gtr (.t 23) (.c (.int .u8 57))))⟩, ⟨(some 25), (some (19, true)), (.p true (.pick (.t 22) (.c (.bool true)) (.t 24)))⟩, ⟨(some 26), none, (.p true (.pick (.t 19) (.t 25) (.c (.bool false))))⟩]) (.cond (.t 26) (.seq (.reg [⟨(some 2), none, (.p true (.mv (.c (.bool false))))⟩]) .ret) .skip))))) (.reg [⟨(some 27), none, (.p true (.bin .add (.t 7) (.c (.int .i64 1))))⟩, ⟨(some 7), none, (.p true (.mv (.t 27)))⟩]))))))) (.seq (.reg [⟨(some 2), none, (.p true (.mv (.c (.bool true))))⟩]) .ret)))
theorem c99_is : compFn Try.prog 99 = some (c99, [(.tmp 2)]) := by kernel_rfl
theorem c99_ok : okFn Try.prog 99 = true := by kernel_rfl

def F_impl_onlyNameBytes_l0 (v0 : List UInt8) (k0 : Int → Option (Bool)) : Int → Option (Bool)
  | v4 => (bif (decide (v4 < (v0.length : Int))) then ((ix v0 v4).bind fun v1000 => (bif (decide ((v1000.toNat : Int) < (97 : Int))) then (bif (decide ((v1000.toNat : Int) < (48 : Int))) then some false
  else (bif (decide ((57 : Int) < (v1000.toNat : Int))) then some false
  else k0 (w64 (v4 + 1))))
  else (bif (decide ((122 : Int) < (v1000.toNat : Int))) then (bif (decide ((v1000.toNat : Int) < (48 : Int))) then some false
  else (bif (decide ((57 : Int) < (v1000.toNat : Int))) then some false
  else k0 (w64 (v4 + 1))))
  else k0 (w64 (v4 + 1)))))
  else some true)
def F_impl_onlyNameBytes (v0 : List UInt8) : Option (Bool) :=
  loop (F_impl_onlyNameBytes_l0 v0) 0
@[simp] def res_impl_onlyNameBytes (r : Bool) : RV := .one (.one (.val (.bool r)))
theorem con_impl_onlyNameBytes {v0 : List UInt8} {r : Bool} (hF : F_impl_onlyNameBytes v0 = some r) : Con Try.prog 99 [.str v0] (res_impl_onlyNameBytes r) := by
  unfold F_impl_onlyNameBytes at hF
  refine con_of c99_is fun N => ?_
  refine w_reg_seq 0 64 rfl rfl ?_
  refine qp (AB false) rfl ?_
  refine r_nil ?_
  refine w_seq ?_
  refine w_reg_seq 64 256 rfl rfl ?_
  refine qp (AS v0) rfl (qp (AI (v0.length : Int)) rfl (qp (AI 0) rfl ?_))
  refine r_nil ?_
  refine w_block ?_
  refine w_ren (l' := [(0, AS v0), (6, AI (v0.length : Int)), (7, AI 0)]) (L := []) [0, 6, 7] [] 1 (by first | rfl | simp) (by first | rfl | simp) (by decide) (by decide) (by decide) ?_
  refine w_loopF (F_impl_onlyNameBytes_l0 v0) (fun s : Int => mkS [(0, AS v0), (6, AI (v0.length : Int)), (7, AI s)] (fo []) 1) hF ?_
  rintro k0 v4 hF
  rw [F_impl_onlyNameBytes_l0] at hF
  try dsimp only
  refine w_reg_seq 1 65 rfl rfl ?_
  refine qp (AB (decide (v4 < (v0.length : Int)))) rfl ?_
  refine r_nil ?_
  refine w_seq ?_
  refine w_condF hF rfl (fun hF => ?_) (fun hF => ?_)
  ·
    refine w_skip ?_
    refine thenQ_n ?_
    refine w_seq ?_
    refine w_block ?_
    refine w_reg_seq 65 193 rfl rfl ?_
    refine qp (AI v4) rfl (qp (AI v4) rfl ?_)
    refine r_nil ?_
    refine w_reg_seq 193 449 rfl rfl ?_
    refine qp (AS v0) rfl (qp (AI v4) rfl ?_)
    obtain ⟨v1000, e1000, hF⟩ := bind_get hF
    refine qp (.val none (.int .u8 (v1000.toNat : Int))) (ev_ixs rfl rfl e1000) (qp (.val none (.int .u8 (v1000.toNat : Int))) rfl ?_)
    refine r_nil ?_
    refine w_reg_seq 449 1345 rfl rfl ?_
    refine qp (.val none (.int .u8 (v1000.toNat : Int))) rfl (qp (AB (decide ((v1000.toNat : Int) < (97 : Int)))) rfl (qp (AB (decide ((v1000.toNat : Int) < (97 : Int)))) rfl ?_))
    refine q_case 15 hF rfl (fun hF => ?_) (fun hF => ?_)
    ·
      refine qn rfl (qn rfl (qp (AB true) rfl (qp (AB true) rfl (qg (.val none (.int .u8 (v1000.toNat : Int))) rfl rfl (qg (AB (decide ((v1000.toNat : Int) < (48 : Int)))) rfl rfl (qg (AB (decide ((v1000.toNat : Int) < (48 : Int)))) rfl rfl ?_))))))
      refine q_case 22 hF rfl (fun hF => ?_) (fun hF => ?_)
      ·
        refine qn rfl (qn rfl (qg (AB true) rfl rfl (qp (AB true) rfl ?_)))
        refine r_nil ?_
        refine w_true rfl ?_
        refine w_reg_seq 1345 1409 rfl rfl ?_
        refine qp (AB false) rfl ?_
        refine r_nil ?_
        refine w_ret ?_
        refine blockQ_r ?_
        refine thenQ_r ?_
        refine thenQ_r ?_
        refine blockQ_r ?_
        refine thenQ_r ?_
        cases hF
        exact endQ_r rfl (.inl ⟨_, _, by first | rfl | (simp [List.take_of_length_le]; first | exact ⟨rfl, rfl⟩ | rfl), by simp, by first | rfl | simp [res_impl_onlyNameBytes, List.take_of_length_le]⟩)
      ·
        refine qg (.val none (.int .u8 (v1000.toNat : Int))) rfl rfl (qg (AB (decide ((57 : Int) < (v1000.toNat : Int)))) rfl rfl (qg (AB (decide ((57 : Int) < (v1000.toNat : Int)))) rfl rfl (qp (AB (decide ((57 : Int) < (v1000.toNat : Int)))) rfl ?_)))
        refine r_nil ?_
        refine w_condF hF rfl (fun hF => ?_) (fun hF => ?_)
        ·
          refine w_reg_seq 1345 1409 rfl rfl ?_
          refine qp (AB false) rfl ?_
          refine r_nil ?_
          refine w_ret ?_
          refine blockQ_r ?_
          refine thenQ_r ?_
          refine thenQ_r ?_
          refine blockQ_r ?_
          refine thenQ_r ?_
          cases hF
          exact endQ_r rfl (.inl ⟨_, _, by first | rfl | (simp [List.take_of_length_le]; first | exact ⟨rfl, rfl⟩ | rfl), by simp, by first | rfl | simp [res_impl_onlyNameBytes, List.take_of_length_le]⟩)
        ·
          refine w_skip ?_
          refine blockQ_n ?_
          refine thenQ_n ?_
          refine w_reg 1345 1473 rfl rfl ?_
          refine qp (AI (w64 (v4 + 1))) rfl (qp (AI (w64 (v4 + 1))) rfl ?_)
          refine r_nil ?_
          refine thenQ_n ?_
          refine aw_ren (l' := [(0, AS v0), (6, AI (v0.length : Int)), (7, AI (w64 (v4 + 1)))]) (L := []) [0, 6, 7] [] 1 (by first | rfl | simp) (by first | rfl | simp) (by decide) (by decide) (by decide) ⟨_, by rfl, hF⟩
    ·
      refine qg (.val none (.int .u8 (v1000.toNat : Int))) rfl rfl (qg (AB (decide ((122 : Int) < (v1000.toNat : Int)))) rfl rfl (qp (AB (decide ((122 : Int) < (v1000.toNat : Int)))) rfl (qp (AB (decide ((122 : Int) < (v1000.toNat : Int)))) rfl ?_)))
      refine q_case 19 hF rfl (fun hF => ?_) (fun hF => ?_)
      ·
        refine qg (.val none (.int .u8 (v1000.toNat : Int))) rfl rfl (qg (AB (decide ((v1000.toNat : Int) < (48 : Int)))) rfl rfl (qg (AB (decide ((v1000.toNat : Int) < (48 : Int)))) rfl rfl ?_))
        refine q_case 22 hF rfl (fun hF => ?_) (fun hF => ?_)
        ·
          refine qn rfl (qn rfl (qg (AB true) rfl rfl (qp (AB true) rfl ?_)))
          refine r_nil ?_
          refine w_true rfl ?_
          refine w_reg_seq 1345 1409 rfl rfl ?_
          refine qp (AB false) rfl ?_
          refine r_nil ?_
          refine w_ret ?_
          refine blockQ_r ?_
          refine thenQ_r ?_
          refine thenQ_r ?_
          refine blockQ_r ?_
          refine thenQ_r ?_
          cases hF
          exact endQ_r rfl (.inl ⟨_, _, by first | rfl | (simp [List.take_of_length_le]; first | exact ⟨rfl, rfl⟩ | rfl), by simp, by first | rfl | simp [res_impl_onlyNameBytes, List.take_of_length_le]⟩)
        ·
          refine qg (.val none (.int .u8 (v1000.toNat : Int))) rfl rfl (qg (AB (decide ((57 : Int) < (v1000.toNat : Int)))) rfl rfl (qg (AB (decide ((57 : Int) < (v1000.toNat : Int)))) rfl rfl (qp (AB (decide ((57 : Int) < (v1000.toNat : Int)))) rfl ?_)))
          refine r_nil ?_
          refine w_condF hF rfl (fun hF => ?_) (fun hF => ?_)
          ·
            refine w_reg_seq 1345 1409 rfl rfl ?_
            refine qp (AB false) rfl ?_
            refine r_nil ?_
            refine w_ret ?_
            refine blockQ_r ?_
            refine thenQ_r ?_
            refine thenQ_r ?_
            refine blockQ_r ?_
            refine thenQ_r ?_
            cases hF
            exact endQ_r rfl (.inl ⟨_, _, by first | rfl | (simp [List.take_of_length_le]; first | exact ⟨rfl, rfl⟩ | rfl), by simp, by first | rfl | simp [res_impl_onlyNameBytes, List.take_of_length_le]⟩)
          ·
            refine w_skip ?_
            refine blockQ_n ?_
            refine thenQ_n ?_
            refine w_reg 1345 1473 rfl rfl ?_
            refine qp (AI (w64 (v4 + 1))) rfl (qp (AI (w64 (v4 + 1))) rfl ?_)
            refine r_nil ?_
            refine thenQ_n ?_
            refine aw_ren (l' := [(0, AS v0), (6, AI (v0.length : Int)), (7, AI (w64 (v4 + 1)))]) (L := []) [0, 6, 7] [] 1 (by first | rfl | simp) (by first | rfl | simp) (by decide) (by decide) (by decide) ⟨_, by rfl, hF⟩
      ·
        refine qn rfl (qn rfl (qn rfl (qu rfl (qu rfl (qn rfl (qp (AB false) rfl ?_))))))
        refine r_nil ?_
        refine w_false rfl ?_
        refine w_skip ?_
        refine blockQ_n ?_
        refine thenQ_n ?_
        refine w_reg 1345 1473 rfl rfl ?_
        refine qp (AI (w64 (v4 + 1))) rfl (qp (AI (w64 (v4 + 1))) rfl ?_)
        refine r_nil ?_
        refine thenQ_n ?_
        refine aw_ren (l' := [(0, AS v0), (6, AI (v0.length : Int)), (7, AI (w64 (v4 + 1)))]) (L := []) [0, 6, 7] [] 1 (by first | rfl | simp) (by first | rfl | simp) (by decide) (by decide) (by decide) ⟨_, by rfl, hF⟩
  ·
    refine w_exit ?_
    refine thenQ_e ?_
    refine thenQ_e ?_
    refine blockQ_e ?_
    refine thenQ_n ?_
    refine w_reg_seq 65 129 rfl rfl ?_
    refine qp (AB true) rfl ?_
    refine r_nil ?_
    refine w_ret ?_
    cases hF
    exact endQ_r rfl (.inl ⟨_, _, by first | rfl | (simp [List.take_of_length_le]; first | exact ⟨rfl, rfl⟩ | rfl), by simp, by first | rfl | simp [res_impl_onlyNameBytes, List.take_of_length_le]⟩)

def c78 : MC := (.seq (.reg [⟨(some 2), none, (.p true (.mv (.c (.bool false))))⟩]) (.seq (.seq (.reg [⟨(some 3), none, (.p true (.mv (.t 0)))⟩, ⟨(some 4), none, (.p true (.lens (.t 3)))⟩, ⟨(some 5), none, (.p true (.bin .lss (.t 4) (.c (.int .i64 1))))⟩, ⟨(some 6), none, (.p true (.mv (.t 5)))⟩, ⟨(some 7), (some (6, false)), (.p true (.mv (.t 0)))⟩, ⟨(some 8), (some (6, false)), (.p true (.lens (.t 7)))⟩, ⟨(some 9), (some (6, false)), (.p true (.bin .gtr (.t 8) (.c (.int .i64 10))))⟩, ⟨(some 10), none, (.p true (.pick (.t 6) (.c (.bool true)) (.t 9)))⟩, ⟨(some 11), none, (.p true (.mv (.t 10)))⟩, ⟨(some 12), (some (11, false)), (.p true (.mv (.t 0)))⟩, ⟨(some 13), (some (11, false)), (.p true (.ixs (.t 12) (.c (.int .i64 0))))⟩, ⟨(some 14), (some (11, false)), (.p true (.bin .lss (.t 13) (.c (.int .u8 97))))⟩, ⟨(some 15), none, (.p true (.pick (.t 11) (.c (.bool true)) (.t 14)))⟩, ⟨(some 16), none, (.p true (.mv (.t 15)))⟩, ⟨(some 17), (some (16, false)), (.p true (.mv (.t 0)))⟩, ⟨(some 18), (some (16, false)), (.p true (.ixs (.t 17) (.c (.int .i64 0))))⟩, ⟨(some 19), (some (16, false)), (.p true (.bin .gtr (.t 18) (.c (.int .u8 122))))⟩, ⟨(some 20), none, (.p true (.pick (.t 16) (.c (.bool true)) (.t 19)))⟩]) (.cond (.t 20) (.seq (.reg [⟨(some 2), none, (.p true (.mv (.c (.bool false))))⟩]) .ret) .skip)) (.seq (.reg [⟨(some 21), none, (.p true (.mv (.t 0)))⟩, ⟨(some 22), none, (.call true 99 [(.t 21)])⟩, ⟨(some 2), none, (.p true (.mv (.t 22)))⟩]) .ret)))
theorem c78_is : compFn Try.prog 78 = some (c78, [(.tmp 2)]) := by kernel_rfl
theorem c78_ok : okFn Try.prog 78 = true := by kernel_rfl

def F_impl_IsName (v0 : List UInt8) : Option (Bool) :=
  (bif (decide ((v0.length : Int) < (1 : Int))) then some false
  else (bif (decide ((10 : Int) < (v0.length : Int))) then some false
  else ((ix v0 0).bind fun v1000 => (bif (decide ((v1000.toNat : Int) < (97 : Int))) then some false
  else ((ix v0 0).bind fun v1001 => (bif (decide ((122 : Int) < (v1001.toNat : Int))) then some false
  else ((F_impl_onlyNameBytes v0).bind fun v1002 => some v1002)))))))
@[simp] def res_impl_IsName (r : Bool) : RV := .one (.one (.val (.bool r)))
theorem con_impl_IsName {v0 : List UInt8} {r : Bool} (hF : F_impl_IsName v0 = some r) : Con Try.prog 78 [.str v0] (res_impl_IsName r) := by
  unfold F_impl_IsName at hF
  refine con_of c78_is fun N => ?_
  refine w_reg_seq 0 64 rfl rfl ?_
  refine qp (AB false) rfl ?_
  refine r_nil ?_
  refine w_seq ?_
  refine w_reg_seq 64 1216 rfl rfl ?_
  refine qp (AS v0) rfl (qp (AI (v0.length : Int)) rfl (qp (AB (decide ((v0.length : Int) < (1 : Int)))) rfl (qp (AB (decide ((v0.length : Int) < (1 : Int)))) rfl ?_)))
  refine q_case 6 hF rfl (fun hF => ?_) (fun hF => ?_)
  ·
    refine qn rfl (qn rfl (qn rfl (qp (AB true) rfl (qp (AB true) rfl (qn rfl (qn rfl (qn rfl ?_)))))))
    refine qp (AB true) rfl (qp (AB true) rfl (qn rfl (qn rfl (qn rfl (qp (AB true) rfl ?_)))))
    refine r_nil ?_
    refine w_true rfl ?_
    refine w_reg_seq 1216 1280 rfl rfl ?_
    refine qp (AB false) rfl ?_
    refine r_nil ?_
    refine w_ret ?_
    refine thenQ_r ?_
    cases hF
    exact endQ_r rfl (.inl ⟨_, _, by first | rfl | (simp [List.take_of_length_le]; first | exact ⟨rfl, rfl⟩ | rfl), by simp, by first | rfl | simp [res_impl_IsName, List.take_of_length_le]⟩)
  ·
    refine qg (AS v0) rfl rfl (qg (AI (v0.length : Int)) rfl rfl (qg (AB (decide ((10 : Int) < (v0.length : Int)))) rfl rfl (qp (AB (decide ((10 : Int) < (v0.length : Int)))) rfl (qp (AB (decide ((10 : Int) < (v0.length : Int)))) rfl ?_))))
    refine q_case 11 hF rfl (fun hF => ?_) (fun hF => ?_)
    ·
      refine qn rfl (qn rfl (qn rfl (qp (AB true) rfl (qp (AB true) rfl (qn rfl (qn rfl (qn rfl ?_)))))))
      refine qp (AB true) rfl ?_
      refine r_nil ?_
      refine w_true rfl ?_
      refine w_reg_seq 1216 1280 rfl rfl ?_
      refine qp (AB false) rfl ?_
      refine r_nil ?_
      refine w_ret ?_
      refine thenQ_r ?_
      cases hF
      exact endQ_r rfl (.inl ⟨_, _, by first | rfl | (simp [List.take_of_length_le]; first | exact ⟨rfl, rfl⟩ | rfl), by simp, by first | rfl | simp [res_impl_IsName, List.take_of_length_le]⟩)
    ·
      refine qg (AS v0) rfl rfl ?_
      obtain ⟨v1000, e1000, hF⟩ := bind_get hF
      refine qg (.val none (.int .u8 (v1000.toNat : Int))) rfl (ev_ixs rfl rfl e1000) (qg (AB (decide ((v1000.toNat : Int) < (97 : Int)))) rfl rfl (qp (AB (decide ((v1000.toNat : Int) < (97 : Int)))) rfl (qp (AB (decide ((v1000.toNat : Int) < (97 : Int)))) rfl ?_)))
      refine q_case 16 hF rfl (fun hF => ?_) (fun hF => ?_)
      ·
        refine qn rfl (qn rfl (qn rfl (qp (AB true) rfl ?_)))
        refine r_nil ?_
        refine w_true rfl ?_
        refine w_reg_seq 1216 1280 rfl rfl ?_
        refine qp (AB false) rfl ?_
        refine r_nil ?_
        refine w_ret ?_
        refine thenQ_r ?_
        cases hF
        exact endQ_r rfl (.inl ⟨_, _, by first | rfl | (simp [List.take_of_length_le]; first | exact ⟨rfl, rfl⟩ | rfl), by simp, by first | rfl | simp [res_impl_IsName, List.take_of_length_le]⟩)
      ·
        refine qg (AS v0) rfl rfl ?_
        obtain ⟨v1001, e1001, hF⟩ := bind_get hF
        refine qg (.val none (.int .u8 (v1001.toNat : Int))) rfl (ev_ixs rfl rfl e1001) (qg (AB (decide ((122 : Int) < (v1001.toNat : Int)))) rfl rfl (qp (AB (decide ((122 : Int) < (v1001.toNat : Int)))) rfl ?_))
        refine r_nil ?_
        refine w_condF hF rfl (fun hF => ?_) (fun hF => ?_)
        ·
          refine w_reg_seq 1216 1280 rfl rfl ?_
          refine qp (AB false) rfl ?_
          refine r_nil ?_
          refine w_ret ?_
          refine thenQ_r ?_
          cases hF
          exact endQ_r rfl (.inl ⟨_, _, by first | rfl | (simp [List.take_of_length_le]; first | exact ⟨rfl, rfl⟩ | rfl), by simp, by first | rfl | simp [res_impl_IsName, List.take_of_length_le]⟩)
        ·
          refine w_skip ?_
          refine thenQ_n ?_
          refine w_reg_seq 1216 1408 rfl rfl ?_
          refine qp (AS v0) rfl ?_
          obtain ⟨v1002, e1002, hF⟩ := bind_get hF
          refine qc (AB v1002) [] false (con_impl_onlyNameBytes e1002) c99_ok (by first | rfl | simp) rfl ?_
          refine qp (AB v1002) rfl ?_
          refine r_nil ?_
          refine w_ret ?_
          cases hF
          exact endQ_r rfl (.inl ⟨_, _, by first | rfl | (simp [List.take_of_length_le]; first | exact ⟨rfl, rfl⟩ | rfl), by simp, by first | rfl | simp [res_impl_IsName, List.take_of_length_le]⟩)

def c65 : MC := (.seq (.reg [⟨(some 6), none, (.p true (.mv (.c (.bool false))))⟩]) (.seq (.reg [⟨(some 7), none, (.p true (.mv (.t 0)))⟩, ⟨(some 8), none, (.p true (.mv (.t 1)))⟩, ⟨(some 9), none, (.p true (.bin .geq (.t 7) (.t 8)))⟩, ⟨(some 10), none, (.p true (.mv (.t 9)))⟩, ⟨(some 11), (some (10, true)), (.p true (.mv (.t 0)))⟩, ⟨(some 12), (some (10, true)), (.p true (.mv (.t 2)))⟩, ⟨(some 13), (some (10, true)), (.p true (.bin .leq (.t 11) (.t 12)))⟩, ⟨(some 14), none, (.p true (.pick (.t 10) (.t 13) (.c (.bool false))))⟩, ⟨(some 6), none, (.p true (.mv (.t 14)))⟩]) .ret))
theorem c65_is : compFn Try.prog 65 = some (c65, [(.tmp 6)]) := by kernel_rfl
theorem c65_ok : okFn Try.prog 65 = true := by kernel_rfl

def F_impl_within (v0 : Int) (v1 : Int) (v2 : Int) : Option (Bool) :=
  (bif (decide (v1 ≤ v0)) then some (decide (v0 ≤ v2))
  else some false)
@[simp] def res_impl_within (r : Bool) : RV := .one (.one (.val (.bool r)))
theorem con_impl_within {v0 : Int} {v1 : Int} {v2 : Int} {r : Bool} (hF : F_impl_within v0 v1 v2 = some r) : Con Try.prog 65 [.int .i64 v0, .int .i64 v1, .int .i64 v2] (res_impl_within r) := by
  unfold F_impl_within at hF
  refine con_of c65_is fun N => ?_
  refine w_reg_seq 0 64 rfl rfl ?_
  refine qp (AB false) rfl ?_
  refine r_nil ?_
  refine w_reg_seq 64 640 rfl rfl ?_
  refine qp (AI v0) rfl (qp (AI v1) rfl (qp (AB (decide (v1 ≤ v0))) rfl (qp (AB (decide (v1 ≤ v0))) rfl ?_)))
  refine q_case 10 hF rfl (fun hF => ?_) (fun hF => ?_)
  ·
    refine qg (AI v0) rfl rfl (qg (AI v2) rfl rfl (qg (AB (decide (v0 ≤ v2))) rfl rfl (qp (AB (decide (v0 ≤ v2))) rfl (qp (AB (decide (v0 ≤ v2))) rfl ?_))))
    refine r_nil ?_
    refine w_ret ?_
    cases hF
    exact endQ_r rfl (.inl ⟨_, _, by first | rfl | (simp [List.take_of_length_le]; first | exact ⟨rfl, rfl⟩ | rfl), by simp, by first | rfl | simp [res_impl_within, List.take_of_length_le]⟩)
  ·
    refine qn rfl (qn rfl (qn rfl (qp (AB false) rfl (qp (AB false) rfl ?_))))
    refine r_nil ?_
    refine w_ret ?_
    cases hF
    exact endQ_r rfl (.inl ⟨_, _, by first | rfl | (simp [List.take_of_length_le]; first | exact ⟨rfl, rfl⟩ | rfl), by simp, by first | rfl | simp [res_impl_within, List.take_of_length_le]⟩)

def c106 : MC := (.seq (.reg [⟨(some 2), none, (.p true (.mv (.c (.bool false))))⟩]) (.seq (.reg [⟨(some 3), none, (.p true (.mv (.t 0)))⟩, ⟨(some 4), none, (.call true 65 [(.t 3), (.c (.int .i64 (-12))), (.c (.int .i64 23))])⟩, ⟨(some 2), none, (.p true (.mv (.t 4)))⟩]) .ret))
theorem c106_is : compFn Try.prog 106 = some (c106, [(.tmp 2)]) := by kernel_rfl
theorem c106_ok : okFn Try.prog 106 = true := by kernel_rfl

def F_impl_pitchOk (v0 : Int) : Option (Bool) :=
  ((F_impl_within v0 (-12) 23).bind fun v1000 => some v1000)
@[simp] def res_impl_pitchOk (r : Bool) : RV := .one (.one (.val (.bool r)))
theorem con_impl_pitchOk {v0 : Int} {r : Bool} (hF : F_impl_pitchOk v0 = some r) : Con Try.prog 106 [.int .i64 v0] (res_impl_pitchOk r) := by
  unfold F_impl_pitchOk at hF
  refine con_of c106_is fun N => ?_
  refine w_reg_seq 0 64 rfl rfl ?_
  refine qp (AB false) rfl ?_
  refine r_nil ?_
  refine w_reg_seq 64 256 rfl rfl ?_
  refine qp (AI v0) rfl ?_
  obtain ⟨v1000, e1000, hF⟩ := bind_get hF
  refine qc (AB v1000) [] false (con_impl_within e1000) c65_ok (by first | rfl | simp) rfl ?_
  refine qp (AB v1000) rfl ?_
  refine r_nil ?_
  refine w_ret ?_
  cases hF
  exact endQ_r rfl (.inl ⟨_, _, by first | rfl | (simp [List.take_of_length_le]; first | exact ⟨rfl, rfl⟩ | rfl), by simp, by first | rfl | simp [res_impl_pitchOk, List.take_of_length_le]⟩)

def c107 : MC := (.seq (.reg [⟨(some 2), none, (.p true (.mv (.c (.bool false))))⟩]) (.seq (.reg [⟨(some 3), none, (.p true (.mv (.t 0)))⟩, ⟨(some 4), none, (.call true 65 [(.t 3), (.c (.int .i64 1)), (.c (.int .i64 64))])⟩, ⟨(some 2), none, (.p true (.mv (.t 4)))⟩]) .ret))
theorem c107_is : compFn Try.prog 107 = some (c107, [(.tmp 2)]) := by kernel_rfl
theorem c107_ok : okFn Try.prog 107 = true := by kernel_rfl

def F_impl_lengthOk (v0 : Int) : Option (Bool) :=
  ((F_impl_within v0 1 64).bind fun v1000 => some v1000)
@[simp] def res_impl_lengthOk (r : Bool) : RV := .one (.one (.val (.bool r)))
theorem con_impl_lengthOk {v0 : Int} {r : Bool} (hF : F_impl_lengthOk v0 = some r) : Con Try.prog 107 [.int .i64 v0] (res_impl_lengthOk r) := by
  unfold F_impl_lengthOk at hF
  refine con_of c107_is fun N => ?_
  refine w_reg_seq 0 64 rfl rfl ?_
  refine qp (AB false) rfl ?_
  refine r_nil ?_
  refine w_reg_seq 64 256 rfl rfl ?_
  refine qp (AI v0) rfl ?_
  obtain ⟨v1000, e1000, hF⟩ := bind_get hF
  refine qc (AB v1000) [] false (con_impl_within e1000) c65_ok (by first | rfl | simp) rfl ?_
  refine qp (AB v1000) rfl ?_
  refine r_nil ?_
  refine w_ret ?_
  cases hF
  exact endQ_r rfl (.inl ⟨_, _, by first | rfl | (simp [List.take_of_length_le]; first | exact ⟨rfl, rfl⟩ | rfl), by simp, by first | rfl | simp [res_impl_lengthOk, List.take_of_length_le]⟩)

def c85 : MC := (.seq (.reg [⟨(some 2), none, (.p true (.mv (.c (.bool false))))⟩]) (.seq (.seq (.reg [⟨(some 5), none, (.p true (.mv (.t 0)))⟩, ⟨(some 6), none, (.p true (.len (.t 5)))⟩, ⟨(some 7), none, (.p true (.bin .gtr (.t 6) (.c (.int .i64 48))))⟩]) (.cond (.t 7) (.seq (.reg [⟨(some 2), none, (.p true (.mv (.c (.bool false))))⟩]) .ret) .skip)) (.seq (.seq (.reg [⟨(some 8), none, (.p true (.mv (.t 0)))⟩, ⟨(some 9), none, (.p true (.len (.t 8)))⟩, ⟨(some 10), none, (.p true (.mv (.c (.int .i64 0))))⟩]) (.block 0 (.loop (.seq (.reg [⟨(some 11), none, (.p true (.bin .lss (.t 10) (.t 9)))⟩]) (.seq (.cond (.t 11) .skip (.exit 0)) (.seq (.block 1 (.seq (.reg [⟨(some 12), none, (.p true (.iad (.t 8) (.t 10) 2))⟩, ⟨(some 13), none, (.p true (.ld (.t 12) 2 true))⟩, ⟨(some 4), none, (.f (.alloc [((.int .i64 0), (0, false)), ((.int .i64 0), (0, false))]))⟩, ⟨none, none, (.f (.st (.t 4) (.t 13) 2))⟩]) (.seq (.reg [⟨(some 14), none, (.p true (.fad (.t 4) 0))⟩, ⟨(some 15), none, (.p true (.ld (.t 14) 1 false))⟩, ⟨(some 16), none, (.call true 106 [(.t 15)])⟩, ⟨(some 17), none, (.p true (.not (.t 16)))⟩, ⟨(some 18), none, (.p true (.mv (.t 17)))⟩, ⟨(some 19), (some (18, false)), (.p true (.fad (.t 4) 1))⟩, ⟨(some 20), (some (18, false)), (.p true (.ld (.t 19) 1 false))⟩, ⟨(some 21), (some (18, false)), (.call true 107 [(.t 20)])⟩, ⟨(some 22), (some (18, false)), (.p true (.not (.t 21)))⟩, ⟨(some 23), none, (.p true (.pick (.t 18) (.c (.bool true)) (.t 22)))⟩]) (.cond (.t 23) (.seq (.reg [⟨(some 2), none, (.p true (.mv (.c (.bool false))))⟩]) .ret) .skip)))) (.reg [⟨(some 24), none, (.p true (.bin .add (.t 10) (.c (.int .i64 1))))⟩, ⟨(some 10), none, (.p true (.mv (.t 24)))⟩]))))))) (.seq (.reg [⟨(some 2), none, (.p true (.mv (.c (.bool true))))⟩]) .ret))))
theorem c85_is : compFn Try.prog 85 = some (c85, [(.tmp 2)]) := by kernel_rfl
theorem c85_ok : okFn Try.prog 85 = true := by kernel_rfl

def F_impl_ValidMelody_l0 (v0 : List TNote) (k0 : Int → Option (Bool)) : Int → Option (Bool)
  | v8 => (bif (decide (v8 < (v0.length : Int))) then ((ix v0 v8).bind fun v1000 => ((F_impl_pitchOk v1000.1).bind fun v1001 => (bif (!v1001) then some false
  else ((F_impl_lengthOk v1000.2).bind fun v1002 => (bif (!v1002) then some false
  else k0 (w64 (v8 + 1)))))))
  else some true)
def F_impl_ValidMelody (v0 : List TNote) : Option (Bool) :=
  (bif (decide ((48 : Int) < (v0.length : Int))) then some false
  else loop (F_impl_ValidMelody_l0 v0) 0)
@[simp] def res_impl_ValidMelody (r : Bool) : RV := .one (.one (.val (.bool r)))
theorem con_impl_ValidMelody {v0 : List TNote} {r : Bool} (hF : F_impl_ValidMelody v0 = some r) : Con Try.prog 85 [.sl 2 (v0.map eNote)] (res_impl_ValidMelody r) := by
  unfold F_impl_ValidMelody at hF
  refine con_of c85_is fun N => ?_
  refine w_reg_seq 0 64 rfl rfl ?_
  refine qp (AB false) rfl ?_
  refine r_nil ?_
  refine w_seq ?_
  refine w_reg_seq 64 256 rfl rfl ?_
  refine qp (.val none (.sl 2 (v0.map eNote))) rfl (qp (AI (v0.length : Int)) (ev_len_n rfl) (qp (AB (decide ((48 : Int) < (v0.length : Int)))) rfl ?_))
  refine r_nil ?_
  refine w_condF hF rfl (fun hF => ?_) (fun hF => ?_)
  ·
    refine w_reg_seq 256 320 rfl rfl ?_
    refine qp (AB false) rfl ?_
    refine r_nil ?_
    refine w_ret ?_
    refine thenQ_r ?_
    cases hF
    exact endQ_r rfl (.inl ⟨_, _, by first | rfl | (simp [List.take_of_length_le]; first | exact ⟨rfl, rfl⟩ | rfl), by simp, by first | rfl | simp [res_impl_ValidMelody, List.take_of_length_le]⟩)
  ·
    refine w_skip ?_
    refine thenQ_n ?_
    refine w_seq ?_
    refine w_reg_seq 256 448 rfl rfl ?_
    refine qp (.val none (.sl 2 (v0.map eNote))) rfl (qp (AI (v0.length : Int)) (ev_len_n rfl) (qp (AI 0) rfl ?_))
    refine r_nil ?_
    refine w_block ?_
    refine w_ren (l' := [(8, .val none (.sl 2 (v0.map eNote))), (9, AI (v0.length : Int)), (10, AI 0)]) (L := []) [8, 9, 10] [] 1 (by first | rfl | simp) (by first | rfl | simp) (by decide) (by decide) (by decide) ?_
    refine w_loopF (F_impl_ValidMelody_l0 v0) (fun s : Int => mkS [(8, .val none (.sl 2 (v0.map eNote))), (9, AI (v0.length : Int)), (10, AI s)] (fo []) 1) hF ?_
    rintro k0 v8 hF
    rw [F_impl_ValidMelody_l0] at hF
    try dsimp only
    refine w_reg_seq 1 65 rfl rfl ?_
    refine qp (AB (decide (v8 < (v0.length : Int)))) rfl ?_
    refine r_nil ?_
    refine w_seq ?_
    refine w_condF hF rfl (fun hF => ?_) (fun hF => ?_)
    ·
      refine w_skip ?_
      refine thenQ_n ?_
      refine w_seq ?_
      refine w_block ?_
      refine w_reg_seq 65 321 rfl rfl ?_
      obtain ⟨v1000, e1000, hF⟩ := bind_get hF
      refine qp (.val none (.ptr [.int .i64 v1000.1, .int .i64 v1000.2])) (ev_iad_n rfl rfl e1000 rfl) (qp (.val none (eNote v1000)) rfl ?_)
      refine qf (.ptr 193 0 0) [(193, .box [AI 0, AI 0])] (by simp) ?_
      refine qf0 (.undef) [(193, .box [AI v1000.1, AI v1000.2]), (193, .box [AI 0, AI 0])] (by simp) ?_
      refine r_nil ?_
      refine w_reg_seq 321 961 rfl rfl ?_
      refine qp (.ptr 193 0 0) rfl (qp (AI v1000.1) rfl ?_)
      obtain ⟨v1001, e1001, hF⟩ := bind_get hF
      refine qc (AB v1001) [(193, .box [AI v1000.1, AI v1000.2]), (193, .box [AI 0, AI 0])] false (con_impl_pitchOk e1001) c106_ok (by first | rfl | simp) rfl ?_
      refine qp (AB (!v1001)) rfl (qp (AB (!v1001)) rfl ?_)
      refine q_case 18 hF rfl (fun hF => ?_) (fun hF => ?_)
      ·
        refine qn rfl (qn rfl (qn rfl (qn rfl (qp (AB true) rfl ?_))))
        refine r_nil ?_
        refine w_true rfl ?_
        refine w_reg_seq 961 1025 rfl rfl ?_
        refine qp (AB false) rfl ?_
        refine r_nil ?_
        refine w_ret ?_
        refine blockQ_r ?_
        refine thenQ_r ?_
        refine thenQ_r ?_
        refine blockQ_r ?_
        refine thenQ_r ?_
        cases hF
        exact endQ_r rfl (.inl ⟨_, _, by first | rfl | (simp [List.take_of_length_le]; first | exact ⟨rfl, rfl⟩ | rfl), by simp, by first | rfl | simp [res_impl_ValidMelody, List.take_of_length_le]⟩)
      ·
        refine qg (.ptr 193 0 1) rfl rfl (qg (AI v1000.2) rfl rfl ?_)
        obtain ⟨v1002, e1002, hF⟩ := bind_get hF
        refine qcg (AB v1002) [(193, .box [AI v1000.1, AI v1000.2]), (193, .box [AI 0, AI 0])] false rfl (con_impl_lengthOk e1002) c107_ok (by first | rfl | simp) rfl ?_
        refine qg (AB (!v1002)) rfl rfl (qp (AB (!v1002)) rfl ?_)
        refine r_nil ?_
        refine w_condF hF rfl (fun hF => ?_) (fun hF => ?_)
        ·
          refine w_reg_seq 961 1025 rfl rfl ?_
          refine qp (AB false) rfl ?_
          refine r_nil ?_
          refine w_ret ?_
          refine blockQ_r ?_
          refine thenQ_r ?_
          refine thenQ_r ?_
          refine blockQ_r ?_
          refine thenQ_r ?_
          cases hF
          exact endQ_r rfl (.inl ⟨_, _, by first | rfl | (simp [List.take_of_length_le]; first | exact ⟨rfl, rfl⟩ | rfl), by simp, by first | rfl | simp [res_impl_ValidMelody, List.take_of_length_le]⟩)
        ·
          refine w_skip ?_
          refine blockQ_n ?_
          refine thenQ_n ?_
          refine w_reg 961 1089 rfl rfl ?_
          refine qp (AI (w64 (v8 + 1))) rfl (qp (AI (w64 (v8 + 1))) rfl ?_)
          refine r_nil ?_
          refine thenQ_n ?_
          refine aw_ren (l' := [(8, .val none (.sl 2 (v0.map eNote))), (9, AI (v0.length : Int)), (10, AI (w64 (v8 + 1)))]) (L := []) [8, 9, 10] [] 1 (by first | rfl | simp) (by first | rfl | simp) (by decide) (by decide) (by decide) ⟨_, by rfl, hF⟩
    ·
      refine w_exit ?_
      refine thenQ_e ?_
      refine thenQ_e ?_
      refine blockQ_e ?_
      refine thenQ_n ?_
      refine w_reg_seq 65 129 rfl rfl ?_
      refine qp (AB true) rfl ?_
      refine r_nil ?_
      refine w_ret ?_
      cases hF
      exact endQ_r rfl (.inl ⟨_, _, by first | rfl | (simp [List.take_of_length_le]; first | exact ⟨rfl, rfl⟩ | rfl), by simp, by first | rfl | simp [res_impl_ValidMelody, List.take_of_length_le]⟩)

def c49 : MC := (.seq (.reg [⟨(some 2), none, (.p true (.mv (.c (.bool false))))⟩]) (.seq (.seq (.reg [⟨(some 5), none, (.p true (.mv (.t 0)))⟩, ⟨(some 6), none, (.p true (.len (.t 5)))⟩, ⟨(some 7), none, (.p true (.bin .gtr (.t 6) (.c (.int .i64 12))))⟩]) (.cond (.t 7) (.seq (.reg [⟨(some 2), none, (.p true (.mv (.c (.bool false))))⟩]) .ret) .skip)) (.seq (.seq (.reg [⟨(some 8), none, (.p true (.mv (.t 0)))⟩, ⟨(some 9), none, (.p true (.len (.t 8)))⟩, ⟨(some 10), none, (.p true (.mv (.c (.int .i64 0))))⟩]) (.block 0 (.loop (.seq (.reg [⟨(some 11), none, (.p true (.bin .lss (.t 10) (.t 9)))⟩]) (.seq (.cond (.t 11) .skip (.exit 0)) (.seq (.block 1 (.seq (.reg [⟨(some 12), none, (.p true (.mv (.t 10)))⟩, ⟨(some 13), none, (.p true (.iad (.t 8) (.t 10) 2))⟩, ⟨(some 14), none, (.p true (.ld (.t 13) 2 true))⟩, ⟨(some 4), none, (.f (.alloc [((.str []), (0, false)), ((.sl 0 []), (2, false))]))⟩, ⟨(some 3), none, (.p true (.mv (.t 12)))⟩, ⟨none, none, (.f (.st (.t 4) (.t 14) 2))⟩]) (.seq (.reg [⟨(some 15), none, (.p false (.fad (.t 4) 0))⟩, ⟨(some 16), none, (.p false (.ld (.t 15) 1 false))⟩, ⟨(some 17), none, (.call false 78 [(.t 16)])⟩, ⟨(some 18), none, (.p false (.not (.t 17)))⟩, ⟨(some 19), none, (.p false (.mv (.t 18)))⟩, ⟨(some 20), (some (19, false)), (.p false (.fad (.t 4) 1))⟩, ⟨(some 21), (some (19, false)), (.p false (.ld (.t 20) 1 false))⟩, ⟨(some 22), (some (19, false)), (.call false 85 [(.t 21)])⟩, ⟨(some 23), (some (19, false)), (.p false (.not (.t 22)))⟩, ⟨(some 24), none, (.p false (.pick (.t 19) (.c (.bool true)) (.t 23)))⟩, ⟨(some 25), none, (.p false (.mv (.t 24)))⟩, ⟨(some 26), (some (25, false)), (.p false (.mv (.t 3)))⟩, ⟨(some 27), (some (25, false)), (.p false (.bin .gtr (.t 26) (.c (.int .i64 0))))⟩, ⟨(some 28), (some (25, false)), (.p false (.mv (.t 27)))⟩, ⟨(some 29), (some (28, true)), (.p false (.fad (.t 4) 0))⟩, ⟨(some 30), (some (28, true)), (.p false (.ld (.t 29) 1 false))⟩, ⟨(some 31), (some (28, true)), (.p false (.mv (.t 0)))⟩, ⟨(some 32), (some (28, true)), (.p false (.mv (.t 3)))⟩, ⟨(some 33), (some (28, true)), (.p false (.bin .sub (.t 32) (.c (.int .i64 1))))⟩, ⟨(some 34), (some (28, true)), (.p false (.iad (.t 31) (.t 33) 2))⟩, ⟨(some 35), (some (28, true)), (.p false (.fad (.t 34) 0))⟩, ⟨(some 36), (some (28, true)), (.p false (.ld (.t 35) 1 false))⟩, ⟨(some 37), (some (28, true)), (.p false (.bin .leq (.t 30) (.t 36)))⟩, ⟨(some 38), (some (25, false)), (.p false (.pick (.t 28) (.t 37) (.c (.bool false))))⟩, ⟨(some 39), none, (.p false (.pick (.t 25) (.c (.bool true)) (.t 38)))⟩]) (.cond (.t 39) (.seq (.reg [⟨(some 2), none, (.p true (.mv (.c (.bool false))))⟩]) .ret) .skip)))) (.reg [⟨(some 40), none, (.p true (.bin .add (.t 10) (.c (.int .i64 1))))⟩, ⟨(some 10), none, (.p true (.mv (.t 40)))⟩]))))))) (.seq (.reg [⟨(some 2), none, (.p true (.mv (.c (.bool true))))⟩]) .ret))))
theorem c49_is : compFn Try.prog 49 = some (c49, [(.tmp 2)]) := by kernel_rfl
theorem c49_ok : okFn Try.prog 49 = true := by kernel_rfl

def F_impl_ValidLibrary_l0 (v0 : List TNamedMelody) (k0 : Int → Option (Bool)) : Int → Option (Bool)
  | v10 => (bif (decide (v10 < (v0.length : Int))) then ((ix v0 v10).bind fun v1000 => ((F_impl_IsName v1000.1).bind fun v1001 => (bif (!v1001) then some false
  else ((F_impl_ValidMelody v1000.2).bind fun v1002 => (bif (!v1002) then some false
  else (bif (decide ((0 : Int) < v10)) then ((ix v0 (w64 (v10 - 1))).bind fun v1003 => (bif (Op.bytesLess v1000.1 v1003.1 || decide (v1000.1 = v1003.1)) then some false
  else k0 (w64 (v10 + 1))))
  else k0 (w64 (v10 + 1))))))))
  else some true)
def F_impl_ValidLibrary (v0 : List TNamedMelody) : Option (Bool) :=
  (bif (decide ((12 : Int) < (v0.length : Int))) then some false
  else loop (F_impl_ValidLibrary_l0 v0) 0)
@[simp] def res_impl_ValidLibrary (r : Bool) : RV := .one (.one (.val (.bool r)))
theorem con_impl_ValidLibrary {v0 : List TNamedMelody} {r : Bool} (hF : F_impl_ValidLibrary v0 = some r) : Con Try.prog 49 [.sl 2 (v0.map eNamedMelody)] (res_impl_ValidLibrary r) := by
  unfold F_impl_ValidLibrary at hF
  refine con_of c49_is fun N => ?_
  refine w_reg_seq 0 64 rfl rfl ?_
  refine qp (AB false) rfl ?_
  refine r_nil ?_
  refine w_seq ?_
  refine w_reg_seq 64 256 rfl rfl ?_
  refine qp (.val none (.sl 2 (v0.map eNamedMelody))) rfl (qp (AI (v0.length : Int)) (ev_len_n rfl) (qp (AB (decide ((12 : Int) < (v0.length : Int)))) rfl ?_))
  refine r_nil ?_
  refine w_condF hF rfl (fun hF => ?_) (fun hF => ?_)
  ·
    refine w_reg_seq 256 320 rfl rfl ?_
    refine qp (AB false) rfl ?_
    refine r_nil ?_
    refine w_ret ?_
    refine thenQ_r ?_
    cases hF
    exact endQ_r rfl (.inl ⟨_, _, by first | rfl | (simp [List.take_of_length_le]; first | exact ⟨rfl, rfl⟩ | rfl), by simp, by first | rfl | simp [res_impl_ValidLibrary, List.take_of_length_le]⟩)
  ·
    refine w_skip ?_
    refine thenQ_n ?_
    refine w_seq ?_
    refine w_reg_seq 256 448 rfl rfl ?_
    refine qp (.val none (.sl 2 (v0.map eNamedMelody))) rfl (qp (AI (v0.length : Int)) (ev_len_n rfl) (qp (AI 0) rfl ?_))
    refine r_nil ?_
    refine w_block ?_
    refine w_ren (l' := [(0, .val none (.sl 2 (v0.map eNamedMelody))), (8, .val none (.sl 2 (v0.map eNamedMelody))), (9, AI (v0.length : Int)), (10, AI 0)]) (L := []) [0, 8, 9, 10] [] 1 (by first | rfl | simp) (by first | rfl | simp) (by decide) (by decide) (by decide) ?_
    refine w_loopF (F_impl_ValidLibrary_l0 v0) (fun s : Int => mkS [(0, .val none (.sl 2 (v0.map eNamedMelody))), (8, .val none (.sl 2 (v0.map eNamedMelody))), (9, AI (v0.length : Int)), (10, AI s)] (fo []) 1) hF ?_
    rintro k0 v10 hF
    rw [F_impl_ValidLibrary_l0] at hF
    try dsimp only
    refine w_reg_seq 1 65 rfl rfl ?_
    refine qp (AB (decide (v10 < (v0.length : Int)))) rfl ?_
    refine r_nil ?_
    refine w_seq ?_
    refine w_condF hF rfl (fun hF => ?_) (fun hF => ?_)
    ·
      refine w_skip ?_
      refine thenQ_n ?_
      refine w_seq ?_
      refine w_block ?_
      refine w_reg_seq 65 449 rfl rfl ?_
      refine qp (AI v10) rfl ?_
      obtain ⟨v1000, e1000, hF⟩ := bind_get hF
      refine qp (.val none (.ptr [.str v1000.1, .sl 2 (v1000.2.map eNote)])) (ev_iad_n rfl rfl e1000 rfl) (qp (.val none (eNamedMelody v1000)) rfl ?_)
      refine qf (.ptr 257 0 0) [(257, .box [AS [], .sl 258 0 0]), (258, .row true 2 (([] : List Int).map (V.int .i64)))] (by simp) ?_
      refine qp (AI v10) rfl ?_
      refine qf0 (.undef) [(257, .box [AS v1000.1, .val none (.sl 2 (v1000.2.map eNote))]), (257, .box [AS [], .sl 258 0 0]), (258, .row true 2 (([] : List Int).map (V.int .i64)))] (by simp) ?_
      refine r_nil ?_
      refine w_reg_seq 449 2049 rfl rfl ?_
      refine qp (.ptr 257 0 0) rfl (qp (AS v1000.1) rfl ?_)
      obtain ⟨v1001, e1001, hF⟩ := bind_get hF
      refine qc (AB v1001) [(257, .box [AS v1000.1, .val none (.sl 2 (v1000.2.map eNote))]), (257, .box [AS [], .sl 258 0 0]), (258, .row true 2 (([] : List Int).map (V.int .i64)))] false (con_impl_IsName e1001) c78_ok (by first | rfl | simp) rfl ?_
      refine qp (AB (!v1001)) rfl (qp (AB (!v1001)) rfl ?_)
      refine q_case 19 hF rfl (fun hF => ?_) (fun hF => ?_)
      ·
        refine qn rfl (qn rfl (qn rfl (qn rfl (qp (AB true) rfl (qp (AB true) rfl (qn rfl (qn rfl ?_)))))))
        refine qn rfl (qu rfl (qu rfl (qu rfl (qu rfl (qu rfl (qu rfl (qu rfl ?_)))))))
        refine qu rfl (qu rfl (qn rfl (qp (AB true) rfl ?_)))
        refine r_nil ?_
        refine w_true rfl ?_
        refine w_reg_seq 2049 2113 rfl rfl ?_
        refine qp (AB false) rfl ?_
        refine r_nil ?_
        refine w_ret ?_
        refine blockQ_r ?_
        refine thenQ_r ?_
        refine thenQ_r ?_
        refine blockQ_r ?_
        refine thenQ_r ?_
        cases hF
        exact endQ_r rfl (.inl ⟨_, _, by first | rfl | (simp [List.take_of_length_le]; first | exact ⟨rfl, rfl⟩ | rfl), by simp, by first | rfl | simp [res_impl_ValidLibrary, List.take_of_length_le]⟩)
      ·
        refine qg (.ptr 257 0 1) rfl rfl (qg (.val none (.sl 2 (v1000.2.map eNote))) rfl rfl ?_)
        obtain ⟨v1002, e1002, hF⟩ := bind_get hF
        refine qcg (AB v1002) [(257, .box [AS v1000.1, .val none (.sl 2 (v1000.2.map eNote))]), (257, .box [AS [], .sl 258 0 0]), (258, .row true 2 (([] : List Int).map (V.int .i64)))] false rfl (con_impl_ValidMelody e1002) c85_ok (by first | rfl | simp) rfl ?_
        refine qg (AB (!v1002)) rfl rfl (qp (AB (!v1002)) rfl (qp (AB (!v1002)) rfl ?_))
        refine q_case 25 hF rfl (fun hF => ?_) (fun hF => ?_)
        ·
          refine qn rfl (qn rfl (qn rfl (qu rfl (qu rfl (qu rfl (qu rfl (qu rfl ?_)))))))
          refine qu rfl (qu rfl (qu rfl (qu rfl (qn rfl (qp (AB true) rfl ?_)))))
          refine r_nil ?_
          refine w_true rfl ?_
          refine w_reg_seq 2049 2113 rfl rfl ?_
          refine qp (AB false) rfl ?_
          refine r_nil ?_
          refine w_ret ?_
          refine blockQ_r ?_
          refine thenQ_r ?_
          refine thenQ_r ?_
          refine blockQ_r ?_
          refine thenQ_r ?_
          cases hF
          exact endQ_r rfl (.inl ⟨_, _, by first | rfl | (simp [List.take_of_length_le]; first | exact ⟨rfl, rfl⟩ | rfl), by simp, by first | rfl | simp [res_impl_ValidLibrary, List.take_of_length_le]⟩)
        ·
          refine qg (AI v10) rfl rfl (qg (AB (decide ((0 : Int) < v10))) rfl rfl (qg (AB (decide ((0 : Int) < v10))) rfl rfl ?_))
          refine q_case 28 hF rfl (fun hF => ?_) (fun hF => ?_)
          ·
            refine qg (.ptr 257 0 0) rfl rfl (qg (AS v1000.1) rfl rfl (qg (.val none (.sl 2 (v0.map eNamedMelody))) rfl rfl (qg (AI v10) rfl rfl (qg (AI (w64 (v10 - 1))) rfl rfl ?_))))
            obtain ⟨v1003, e1003, hF⟩ := bind_get hF
            refine qg (.val none (.ptr [.str v1003.1, .sl 2 (v1003.2.map eNote)])) rfl (ev_iad_n rfl rfl e1003 rfl) (qg (.val none (.ptr [.str v1003.1, .sl 2 (v1003.2.map eNote)])) rfl rfl (qg (AS v1003.1) rfl rfl (qg (AB (Op.bytesLess v1000.1 v1003.1 || decide (v1000.1 = v1003.1))) rfl rfl (qg (AB (Op.bytesLess v1000.1 v1003.1 || decide (v1000.1 = v1003.1))) rfl rfl (qp (AB (Op.bytesLess v1000.1 v1003.1 || decide (v1000.1 = v1003.1))) rfl ?_)))))
            refine r_nil ?_
            refine w_condF hF rfl (fun hF => ?_) (fun hF => ?_)
            ·
              refine w_reg_seq 2049 2113 rfl rfl ?_
              refine qp (AB false) rfl ?_
              refine r_nil ?_
              refine w_ret ?_
              refine blockQ_r ?_
              refine thenQ_r ?_
              refine thenQ_r ?_
              refine blockQ_r ?_
              refine thenQ_r ?_
              cases hF
              exact endQ_r rfl (.inl ⟨_, _, by first | rfl | (simp [List.take_of_length_le]; first | exact ⟨rfl, rfl⟩ | rfl), by simp, by first | rfl | simp [res_impl_ValidLibrary, List.take_of_length_le]⟩)
            ·
              refine w_skip ?_
              refine blockQ_n ?_
              refine thenQ_n ?_
              refine w_reg 2049 2177 rfl rfl ?_
              refine qp (AI (w64 (v10 + 1))) rfl (qp (AI (w64 (v10 + 1))) rfl ?_)
              refine r_nil ?_
              refine thenQ_n ?_
              refine aw_ren (l' := [(0, .val none (.sl 2 (v0.map eNamedMelody))), (8, .val none (.sl 2 (v0.map eNamedMelody))), (9, AI (v0.length : Int)), (10, AI (w64 (v10 + 1)))]) (L := []) [0, 8, 9, 10] [] 1 (by first | rfl | simp) (by first | rfl | simp) (by decide) (by decide) (by decide) ⟨_, by rfl, hF⟩
          ·
            refine qn rfl (qn rfl (qn rfl (qn rfl (qn rfl (qn rfl (qn rfl (qn rfl ?_)))))))
            refine qn rfl (qg (AB false) rfl rfl (qp (AB false) rfl ?_))
            refine r_nil ?_
            refine w_false rfl ?_
            refine w_skip ?_
            refine blockQ_n ?_
            refine thenQ_n ?_
            refine w_reg 2049 2177 rfl rfl ?_
            refine qp (AI (w64 (v10 + 1))) rfl (qp (AI (w64 (v10 + 1))) rfl ?_)
            refine r_nil ?_
            refine thenQ_n ?_
            refine aw_ren (l' := [(0, .val none (.sl 2 (v0.map eNamedMelody))), (8, .val none (.sl 2 (v0.map eNamedMelody))), (9, AI (v0.length : Int)), (10, AI (w64 (v10 + 1)))]) (L := []) [0, 8, 9, 10] [] 1 (by first | rfl | simp) (by first | rfl | simp) (by decide) (by decide) (by decide) ⟨_, by rfl, hF⟩
    ·
      refine w_exit ?_
      refine thenQ_e ?_
      refine thenQ_e ?_
      refine blockQ_e ?_
      refine thenQ_n ?_
      refine w_reg_seq 65 129 rfl rfl ?_
      refine qp (AB true) rfl ?_
      refine r_nil ?_
      refine w_ret ?_
      cases hF
      exact endQ_r rfl (.inl ⟨_, _, by first | rfl | (simp [List.take_of_length_le]; first | exact ⟨rfl, rfl⟩ | rfl), by simp, by first | rfl | simp [res_impl_ValidLibrary, List.take_of_length_le]⟩)

def c122 : MC := (.seq (.reg [⟨(some 2), none, (.f (.box (.t 0)))⟩, ⟨(some 3), none, (.f (.box (.t 1)))⟩, ⟨(some 4), none, (.p true (.mv (.c (.bool false))))⟩]) (.seq (.seq (.reg [⟨(some 5), none, (.p true (.fad (.t 2) 0))⟩, ⟨(some 6), none, (.p true (.ld (.t 5) 1 false))⟩, ⟨(some 7), none, (.p true (.fad (.t 3) 0))⟩, ⟨(some 8), none, (.p true (.ld (.t 7) 1 false))⟩, ⟨(some 9), none, (.p true (.bin .neq (.t 6) (.t 8)))⟩]) (.cond (.t 9) (.seq (.reg [⟨(some 4), none, (.p true (.mv (.c (.bool false))))⟩]) .ret) .skip)) (.seq (.seq (.reg [⟨(some 10), none, (.p true (.fad (.t 2) 1))⟩, ⟨(some 11), none, (.p true (.ld (.t 10) 1 false))⟩, ⟨(some 12), none, (.p true (.fad (.t 3) 1))⟩, ⟨(some 13), none, (.p true (.ld (.t 12) 1 false))⟩, ⟨(some 14), none, (.p true (.bin .neq (.t 11) (.t 13)))⟩]) (.cond (.t 14) (.seq (.reg [⟨(some 4), none, (.p true (.mv (.c (.bool false))))⟩]) .ret) .skip)) (.seq (.reg [⟨(some 4), none, (.p true (.mv (.c (.bool true))))⟩]) .ret))))
theorem c122_is : compFn Try.prog 122 = some (c122, [(.tmp 4)]) := by kernel_rfl
theorem c122_ok : okFn Try.prog 122 = true := by kernel_rfl

def F_laws_eqNote (v0 : TNote) (v1 : TNote) : Option (Bool) :=
  (bif (decide (v0.1 ≠ v1.1)) then some false
  else (bif (decide (v0.2 ≠ v1.2)) then some false
  else some true))
@[simp] def res_laws_eqNote (r : Bool) : RV := .one (.one (.val (.bool r)))
theorem con_laws_eqNote {v0 : TNote} {v1 : TNote} {r : Bool} (hF : F_laws_eqNote v0 v1 = some r) : Con Try.prog 122 [eNote v0, eNote v1] (res_laws_eqNote r) := by
  unfold F_laws_eqNote at hF
  refine con_of c122_is fun N => ?_
  refine w_reg_seq 0 192 rfl rfl ?_
  refine qf (.ptr 0 0 0) [(0, .box [AI v0.1, AI v0.2])] (by simp) ?_
  refine qf (.ptr 64 0 0) [(64, .box [AI v1.1, AI v1.2]), (0, .box [AI v0.1, AI v0.2])] (by simp) ?_
  refine qp (AB false) rfl ?_
  refine r_nil ?_
  refine w_seq ?_
  refine w_reg_seq 192 512 rfl rfl ?_
  refine qp (.ptr 0 0 0) rfl (qp (AI v0.1) rfl (qp (.ptr 64 0 0) rfl (qp (AI v1.1) rfl (qp (AB (decide (v0.1 ≠ v1.1))) rfl ?_))))
  refine r_nil ?_
  refine w_condF hF rfl (fun hF => ?_) (fun hF => ?_)
  ·
    refine w_reg_seq 512 576 rfl rfl ?_
    refine qp (AB false) rfl ?_
    refine r_nil ?_
    refine w_ret ?_
    refine thenQ_r ?_
    cases hF
    exact endQ_r rfl (.inl ⟨_, _, by first | rfl | (simp [List.take_of_length_le]; first | exact ⟨rfl, rfl⟩ | rfl), by simp, by first | rfl | simp [res_laws_eqNote, List.take_of_length_le]⟩)
  ·
    refine w_skip ?_
    refine thenQ_n ?_
    refine w_seq ?_
    refine w_reg_seq 512 832 rfl rfl ?_
    refine qp (.ptr 0 0 1) rfl (qp (AI v0.2) rfl (qp (.ptr 64 0 1) rfl (qp (AI v1.2) rfl (qp (AB (decide (v0.2 ≠ v1.2))) rfl ?_))))
    refine r_nil ?_
    refine w_condF hF rfl (fun hF => ?_) (fun hF => ?_)
    ·
      refine w_reg_seq 832 896 rfl rfl ?_
      refine qp (AB false) rfl ?_
      refine r_nil ?_
      refine w_ret ?_
      refine thenQ_r ?_
      cases hF
      exact endQ_r rfl (.inl ⟨_, _, by first | rfl | (simp [List.take_of_length_le]; first | exact ⟨rfl, rfl⟩ | rfl), by simp, by first | rfl | simp [res_laws_eqNote, List.take_of_length_le]⟩)
    ·
      refine w_skip ?_
      refine thenQ_n ?_
      refine w_reg_seq 832 896 rfl rfl ?_
      refine qp (AB true) rfl ?_
      refine r_nil ?_
      refine w_ret ?_
      cases hF
      exact endQ_r rfl (.inl ⟨_, _, by first | rfl | (simp [List.take_of_length_le]; first | exact ⟨rfl, rfl⟩ | rfl), by simp, by first | rfl | simp [res_laws_eqNote, List.take_of_length_le]⟩)

def c108 : MC := (.seq (.reg [⟨(some 4), none, (.p true (.mv (.c (.bool false))))⟩]) (.seq (.seq (.reg [⟨(some 6), none, (.p true (.mv (.t 0)))⟩, ⟨(some 7), none, (.p true (.len (.t 6)))⟩, ⟨(some 8), none, (.p true (.mv (.t 1)))⟩, ⟨(some 9), none, (.p true (.len (.t 8)))⟩, ⟨(some 10), none, (.p true (.bin .neq (.t 7) (.t 9)))⟩]) (.cond (.t 10) (.seq (.reg [⟨(some 4), none, (.p true (.mv (.c (.bool false))))⟩]) .ret) .skip)) (.seq (.seq (.reg [⟨(some 5), none, (.p true (.mv (.c (.int .i64 0))))⟩]) (.block 0 (.loop (.seq (.seq (.reg [⟨(some 11), none, (.p true (.mv (.t 5)))⟩, ⟨(some 12), none, (.p true (.mv (.t 0)))⟩, ⟨(some 13), none, (.p true (.len (.t 12)))⟩, ⟨(some 14), none, (.p true (.bin .lss (.t 11) (.t 13)))⟩]) (.cond (.t 14) .skip (.exit 0))) (.seq (.block 1 (.seq (.reg [⟨(some 17), none, (.p false (.mv (.t 0)))⟩, ⟨(some 18), none, (.p false (.mv (.t 5)))⟩, ⟨(some 19), none, (.p false (.iad (.t 17) (.t 18) 2))⟩, ⟨(some 20), none, (.p false (.ld (.t 19) 2 true))⟩, ⟨(some 21), none, (.p false (.mv (.t 1)))⟩, ⟨(some 22), none, (.p false (.mv (.t 5)))⟩, ⟨(some 23), none, (.p false (.iad (.t 21) (.t 22) 2))⟩, ⟨(some 24), none, (.p false (.ld (.t 23) 2 true))⟩, ⟨(some 25), none, (.call false 122 [(.t 20), (.t 24)])⟩, ⟨(some 26), none, (.p false (.not (.t 25)))⟩]) (.cond (.t 26) (.seq (.reg [⟨(some 4), none, (.p true (.mv (.c (.bool false))))⟩]) .ret) .skip))) (.reg [⟨(some 15), none, (.p true (.mv (.t 5)))⟩, ⟨(some 16), none, (.p true (.bin .add (.t 15) (.c (.int .i64 1))))⟩, ⟨(some 5), none, (.p true (.mv (.t 16)))⟩])))))) (.seq (.reg [⟨(some 4), none, (.p true (.mv (.c (.bool true))))⟩]) .ret))))
theorem c108_is : compFn Try.prog 108 = some (c108, [(.tmp 4)]) := by kernel_rfl
theorem c108_ok : okFn Try.prog 108 = true := by kernel_rfl

def F_laws_eqNoteS_l0 (v0 : List TNote) (v1 : List TNote) (k0 : Int → Option (Bool)) : Int → Option (Bool)
  | v9 => (bif (decide (v9 < (v0.length : Int))) then ((ix v0 v9).bind fun v1000 => ((ix v1 v9).bind fun v1001 => ((F_laws_eqNote v1000 v1001).bind fun v1002 => (bif (!v1002) then some false
  else k0 (w64 (v9 + 1))))))
  else some true)
def F_laws_eqNoteS (v0 : List TNote) (v1 : List TNote) : Option (Bool) :=
  (bif (decide ((v0.length : Int) ≠ (v1.length : Int))) then some false
  else loop (F_laws_eqNoteS_l0 v0 v1) 0)
@[simp] def res_laws_eqNoteS (r : Bool) : RV := .one (.one (.val (.bool r)))
theorem con_laws_eqNoteS {v0 : List TNote} {v1 : List TNote} {r : Bool} (hF : F_laws_eqNoteS v0 v1 = some r) : Con Try.prog 108 [.sl 2 (v0.map eNote), .sl 2 (v1.map eNote)] (res_laws_eqNoteS r) := by
  unfold F_laws_eqNoteS at hF
  refine con_of c108_is fun N => ?_
  refine w_reg_seq 0 64 rfl rfl ?_
  refine qp (AB false) rfl ?_
  refine r_nil ?_
  refine w_seq ?_
  refine w_reg_seq 64 384 rfl rfl ?_
  refine qp (.val none (.sl 2 (v0.map eNote))) rfl (qp (AI (v0.length : Int)) (ev_len_n rfl) (qp (.val none (.sl 2 (v1.map eNote))) rfl (qp (AI (v1.length : Int)) (ev_len_n rfl) (qp (AB (decide ((v0.length : Int) ≠ (v1.length : Int)))) rfl ?_))))
  refine r_nil ?_
  refine w_condF hF rfl (fun hF => ?_) (fun hF => ?_)
  ·
    refine w_reg_seq 384 448 rfl rfl ?_
    refine qp (AB false) rfl ?_
    refine r_nil ?_
    refine w_ret ?_
    refine thenQ_r ?_
    cases hF
    exact endQ_r rfl (.inl ⟨_, _, by first | rfl | (simp [List.take_of_length_le]; first | exact ⟨rfl, rfl⟩ | rfl), by simp, by first | rfl | simp [res_laws_eqNoteS, List.take_of_length_le]⟩)
  ·
    refine w_skip ?_
    refine thenQ_n ?_
    refine w_seq ?_
    refine w_reg_seq 384 448 rfl rfl ?_
    refine qp (AI 0) rfl ?_
    refine r_nil ?_
    refine w_block ?_
    refine w_ren (l' := [(0, .val none (.sl 2 (v0.map eNote))), (1, .val none (.sl 2 (v1.map eNote))), (5, AI 0)]) (L := []) [0, 1, 5] [] 1 (by first | rfl | simp) (by first | rfl | simp) (by decide) (by decide) (by decide) ?_
    refine w_loopF (F_laws_eqNoteS_l0 v0 v1) (fun s : Int => mkS [(0, .val none (.sl 2 (v0.map eNote))), (1, .val none (.sl 2 (v1.map eNote))), (5, AI s)] (fo []) 1) hF ?_
    rintro k0 v9 hF
    rw [F_laws_eqNoteS_l0] at hF
    try dsimp only
    refine w_seq ?_
    refine w_reg_seq 1 257 rfl rfl ?_
    refine qp (AI v9) rfl (qp (.val none (.sl 2 (v0.map eNote))) rfl (qp (AI (v0.length : Int)) (ev_len_n rfl) (qp (AB (decide (v9 < (v0.length : Int)))) rfl ?_)))
    refine r_nil ?_
    refine w_condF hF rfl (fun hF => ?_) (fun hF => ?_)
    ·
      refine w_skip ?_
      refine thenQ_n ?_
      refine w_seq ?_
      refine w_block ?_
      refine w_reg_seq 257 897 rfl rfl ?_
      refine qp (.val none (.sl 2 (v0.map eNote))) rfl (qp (AI v9) rfl ?_)
      obtain ⟨v1000, e1000, hF⟩ := bind_get hF
      refine qp (.val none (.ptr [.int .i64 v1000.1, .int .i64 v1000.2])) (ev_iad_n rfl rfl e1000 rfl) (qp (.val none (eNote v1000)) rfl (qp (.val none (.sl 2 (v1.map eNote))) rfl (qp (AI v9) rfl ?_)))
      obtain ⟨v1001, e1001, hF⟩ := bind_get hF
      refine qp (.val none (.ptr [.int .i64 v1001.1, .int .i64 v1001.2])) (ev_iad_n rfl rfl e1001 rfl) (qp (.val none (eNote v1001)) rfl ?_)
      obtain ⟨v1002, e1002, hF⟩ := bind_get hF
      refine qc (AB v1002) [] false (con_laws_eqNote e1002) c122_ok (by first | rfl | simp) rfl ?_
      refine qp (AB (!v1002)) rfl ?_
      refine r_nil ?_
      refine w_condF hF rfl (fun hF => ?_) (fun hF => ?_)
      ·
        refine w_reg_seq 897 961 rfl rfl ?_
        refine qp (AB false) rfl ?_
        refine r_nil ?_
        refine w_ret ?_
        refine blockQ_r ?_
        refine thenQ_r ?_
        refine thenQ_r ?_
        refine blockQ_r ?_
        refine thenQ_r ?_
        cases hF
        exact endQ_r rfl (.inl ⟨_, _, by first | rfl | (simp [List.take_of_length_le]; first | exact ⟨rfl, rfl⟩ | rfl), by simp, by first | rfl | simp [res_laws_eqNoteS, List.take_of_length_le]⟩)
      ·
        refine w_skip ?_
        refine blockQ_n ?_
        refine thenQ_n ?_
        refine w_reg 897 1089 rfl rfl ?_
        refine qp (AI v9) rfl (qp (AI (w64 (v9 + 1))) rfl (qp (AI (w64 (v9 + 1))) rfl ?_))
        refine r_nil ?_
        refine thenQ_n ?_
        refine aw_ren (l' := [(0, .val none (.sl 2 (v0.map eNote))), (1, .val none (.sl 2 (v1.map eNote))), (5, AI (w64 (v9 + 1)))]) (L := []) [0, 1, 5] [] 1 (by first | rfl | simp) (by first | rfl | simp) (by decide) (by decide) (by decide) ⟨_, by rfl, hF⟩
    ·
      refine w_exit ?_
      refine thenQ_e ?_
      refine thenQ_e ?_
      refine blockQ_e ?_
      refine thenQ_n ?_
      refine w_reg_seq 257 321 rfl rfl ?_
      refine qp (AB true) rfl ?_
      refine r_nil ?_
      refine w_ret ?_
      cases hF
      exact endQ_r rfl (.inl ⟨_, _, by first | rfl | (simp [List.take_of_length_le]; first | exact ⟨rfl, rfl⟩ | rfl), by simp, by first | rfl | simp [res_laws_eqNoteS, List.take_of_length_le]⟩)

def c86 : MC := (.seq (.reg [⟨(some 2), none, (.f (.box (.t 0)))⟩, ⟨(some 3), none, (.f (.box (.t 1)))⟩, ⟨(some 4), none, (.p true (.mv (.c (.bool false))))⟩]) (.seq (.seq (.reg [⟨(some 5), none, (.p true (.fad (.t 2) 0))⟩, ⟨(some 6), none, (.p true (.ld (.t 5) 1 false))⟩, ⟨(some 7), none, (.p true (.fad (.t 3) 0))⟩, ⟨(some 8), none, (.p true (.ld (.t 7) 1 false))⟩, ⟨(some 9), none, (.p true (.bin .neq (.t 6) (.t 8)))⟩]) (.cond (.t 9) (.seq (.reg [⟨(some 4), none, (.p true (.mv (.c (.bool false))))⟩]) .ret) .skip)) (.seq (.seq (.reg [⟨(some 10), none, (.p true (.fad (.t 2) 1))⟩, ⟨(some 11), none, (.p true (.ld (.t 10) 1 false))⟩, ⟨(some 12), none, (.p true (.fad (.t 3) 1))⟩, ⟨(some 13), none, (.p true (.ld (.t 12) 1 false))⟩, ⟨(some 14), none, (.call true 108 [(.t 11), (.t 13)])⟩, ⟨(some 15), none, (.p true (.not (.t 14)))⟩]) (.cond (.t 15) (.seq (.reg [⟨(some 4), none, (.p true (.mv (.c (.bool false))))⟩]) .ret) .skip)) (.seq (.reg [⟨(some 4), none, (.p true (.mv (.c (.bool true))))⟩]) .ret))))
theorem c86_is : compFn Try.prog 86 = some (c86, [(.tmp 4)]) := by kernel_rfl
theorem c86_ok : okFn Try.prog 86 = true := by kernel_rfl

def F_laws_eqNamedMelody (v0 : TNamedMelody) (v1 : TNamedMelody) : Option (Bool) :=
  (bif (decide (v0.1 ≠ v1.1)) then some false
  else ((F_laws_eqNoteS v0.2 v1.2).bind fun v1000 => (bif (!v1000) then some false
  else some true)))
@[simp] def res_laws_eqNamedMelody (r : Bool) : RV := .one (.one (.val (.bool r)))
theorem con_laws_eqNamedMelody {v0 : TNamedMelody} {v1 : TNamedMelody} {r : Bool} (hF : F_laws_eqNamedMelody v0 v1 = some r) : Con Try.prog 86 [eNamedMelody v0, eNamedMelody v1] (res_laws_eqNamedMelody r) := by
  unfold F_laws_eqNamedMelody at hF
  refine con_of c86_is fun N => ?_
  refine w_reg_seq 0 192 rfl rfl ?_
  refine qf (.ptr 0 0 0) [(0, .box [AS v0.1, .val none (.sl 2 (v0.2.map eNote))])] (by simp) ?_
  refine qf (.ptr 64 0 0) [(64, .box [AS v1.1, .val none (.sl 2 (v1.2.map eNote))]), (0, .box [AS v0.1, .val none (.sl 2 (v0.2.map eNote))])] (by simp) ?_
  refine qp (AB false) rfl ?_
  refine r_nil ?_
  refine w_seq ?_
  refine w_reg_seq 192 512 rfl rfl ?_
  refine qp (.ptr 0 0 0) rfl (qp (AS v0.1) rfl (qp (.ptr 64 0 0) rfl (qp (AS v1.1) rfl (qp (AB (decide (v0.1 ≠ v1.1))) rfl ?_))))
  refine r_nil ?_
  refine w_condF hF rfl (fun hF => ?_) (fun hF => ?_)
  ·
    refine w_reg_seq 512 576 rfl rfl ?_
    refine qp (AB false) rfl ?_
    refine r_nil ?_
    refine w_ret ?_
    refine thenQ_r ?_
    cases hF
    exact endQ_r rfl (.inl ⟨_, _, by first | rfl | (simp [List.take_of_length_le]; first | exact ⟨rfl, rfl⟩ | rfl), by simp, by first | rfl | simp [res_laws_eqNamedMelody, List.take_of_length_le]⟩)
  ·
    refine w_skip ?_
    refine thenQ_n ?_
    refine w_seq ?_
    refine w_reg_seq 512 896 rfl rfl ?_
    refine qp (.ptr 0 0 1) rfl (qp (.val none (.sl 2 (v0.2.map eNote))) rfl (qp (.ptr 64 0 1) rfl (qp (.val none (.sl 2 (v1.2.map eNote))) rfl ?_)))
    obtain ⟨v1000, e1000, hF⟩ := bind_get hF
    refine qc (AB v1000) [(64, .box [AS v1.1, .val none (.sl 2 (v1.2.map eNote))]), (0, .box [AS v0.1, .val none (.sl 2 (v0.2.map eNote))])] false (con_laws_eqNoteS e1000) c108_ok (by first | rfl | simp) rfl ?_
    refine qp (AB (!v1000)) rfl ?_
    refine r_nil ?_
    refine w_condF hF rfl (fun hF => ?_) (fun hF => ?_)
    ·
      refine w_reg_seq 896 960 rfl rfl ?_
      refine qp (AB false) rfl ?_
      refine r_nil ?_
      refine w_ret ?_
      refine thenQ_r ?_
      cases hF
      exact endQ_r rfl (.inl ⟨_, _, by first | rfl | (simp [List.take_of_length_le]; first | exact ⟨rfl, rfl⟩ | rfl), by simp, by first | rfl | simp [res_laws_eqNamedMelody, List.take_of_length_le]⟩)
    ·
      refine w_skip ?_
      refine thenQ_n ?_
      refine w_reg_seq 896 960 rfl rfl ?_
      refine qp (AB true) rfl ?_
      refine r_nil ?_
      refine w_ret ?_
      cases hF
      exact endQ_r rfl (.inl ⟨_, _, by first | rfl | (simp [List.take_of_length_le]; first | exact ⟨rfl, rfl⟩ | rfl), by simp, by first | rfl | simp [res_laws_eqNamedMelody, List.take_of_length_le]⟩)

def c50 : MC := (.seq (.reg [⟨(some 4), none, (.p true (.mv (.c (.bool false))))⟩]) (.seq (.seq (.reg [⟨(some 6), none, (.p true (.mv (.t 0)))⟩, ⟨(some 7), none, (.p true (.len (.t 6)))⟩, ⟨(some 8), none, (.p true (.mv (.t 1)))⟩, ⟨(some 9), none, (.p true (.len (.t 8)))⟩, ⟨(some 10), none, (.p true (.bin .neq (.t 7) (.t 9)))⟩]) (.cond (.t 10) (.seq (.reg [⟨(some 4), none, (.p true (.mv (.c (.bool false))))⟩]) .ret) .skip)) (.seq (.seq (.reg [⟨(some 5), none, (.p true (.mv (.c (.int .i64 0))))⟩]) (.block 0 (.loop (.seq (.seq (.reg [⟨(some 11), none, (.p true (.mv (.t 5)))⟩, ⟨(some 12), none, (.p true (.mv (.t 0)))⟩, ⟨(some 13), none, (.p true (.len (.t 12)))⟩, ⟨(some 14), none, (.p true (.bin .lss (.t 11) (.t 13)))⟩]) (.cond (.t 14) .skip (.exit 0))) (.seq (.block 1 (.seq (.reg [⟨(some 17), none, (.p false (.mv (.t 0)))⟩, ⟨(some 18), none, (.p false (.mv (.t 5)))⟩, ⟨(some 19), none, (.p false (.iad (.t 17) (.t 18) 2))⟩, ⟨(some 20), none, (.p false (.ld (.t 19) 2 true))⟩, ⟨(some 21), none, (.p false (.mv (.t 1)))⟩, ⟨(some 22), none, (.p false (.mv (.t 5)))⟩, ⟨(some 23), none, (.p false (.iad (.t 21) (.t 22) 2))⟩, ⟨(some 24), none, (.p false (.ld (.t 23) 2 true))⟩, ⟨(some 25), none, (.call false 86 [(.t 20), (.t 24)])⟩, ⟨(some 26), none, (.p false (.not (.t 25)))⟩]) (.cond (.t 26) (.seq (.reg [⟨(some 4), none, (.p true (.mv (.c (.bool false))))⟩]) .ret) .skip))) (.reg [⟨(some 15), none, (.p true (.mv (.t 5)))⟩, ⟨(some 16), none, (.p true (.bin .add (.t 15) (.c (.int .i64 1))))⟩, ⟨(some 5), none, (.p true (.mv (.t 16)))⟩])))))) (.seq (.reg [⟨(some 4), none, (.p true (.mv (.c (.bool true))))⟩]) .ret))))
theorem c50_is : compFn Try.prog 50 = some (c50, [(.tmp 4)]) := by kernel_rfl
theorem c50_ok : okFn Try.prog 50 = true := by kernel_rfl

def F_laws_eqNamedMelodyS_l0 (v0 : List TNamedMelody) (v1 : List TNamedMelody) (k0 : Int → Option (Bool)) : Int → Option (Bool)
  | v9 => (bif (decide (v9 < (v0.length : Int))) then ((ix v0 v9).bind fun v1000 => ((ix v1 v9).bind fun v1001 => ((F_laws_eqNamedMelody v1000 v1001).bind fun v1002 => (bif (!v1002) then some false
  else k0 (w64 (v9 + 1))))))
  else some true)
def F_laws_eqNamedMelodyS (v0 : List TNamedMelody) (v1 : List TNamedMelody) : Option (Bool) :=
  (bif (decide ((v0.length : Int) ≠ (v1.length : Int))) then some false
  else loop (F_laws_eqNamedMelodyS_l0 v0 v1) 0)
@[simp] def res_laws_eqNamedMelodyS (r : Bool) : RV := .one (.one (.val (.bool r)))
theorem con_laws_eqNamedMelodyS {v0 : List TNamedMelody} {v1 : List TNamedMelody} {r : Bool} (hF : F_laws_eqNamedMelodyS v0 v1 = some r) : Con Try.prog 50 [.sl 2 (v0.map eNamedMelody), .sl 2 (v1.map eNamedMelody)] (res_laws_eqNamedMelodyS r) := by
  unfold F_laws_eqNamedMelodyS at hF
  refine con_of c50_is fun N => ?_
  refine w_reg_seq 0 64 rfl rfl ?_
  refine qp (AB false) rfl ?_
  refine r_nil ?_
  refine w_seq ?_
  refine w_reg_seq 64 384 rfl rfl ?_
  refine qp (.val none (.sl 2 (v0.map eNamedMelody))) rfl (qp (AI (v0.length : Int)) (ev_len_n rfl) (qp (.val none (.sl 2 (v1.map eNamedMelody))) rfl (qp (AI (v1.length : Int)) (ev_len_n rfl) (qp (AB (decide ((v0.length : Int) ≠ (v1.length : Int)))) rfl ?_))))
  refine r_nil ?_
  refine w_condF hF rfl (fun hF => ?_) (fun hF => ?_)
  ·
    refine w_reg_seq 384 448 rfl rfl ?_
    refine qp (AB false) rfl ?_
    refine r_nil ?_
    refine w_ret ?_
    refine thenQ_r ?_
    cases hF
    exact endQ_r rfl (.inl ⟨_, _, by first | rfl | (simp [List.take_of_length_le]; first | exact ⟨rfl, rfl⟩ | rfl), by simp, by first | rfl | simp [res_laws_eqNamedMelodyS, List.take_of_length_le]⟩)
  ·
    refine w_skip ?_
    refine thenQ_n ?_
    refine w_seq ?_
    refine w_reg_seq 384 448 rfl rfl ?_
    refine qp (AI 0) rfl ?_
    refine r_nil ?_
    refine w_block ?_
    refine w_ren (l' := [(0, .val none (.sl 2 (v0.map eNamedMelody))), (1, .val none (.sl 2 (v1.map eNamedMelody))), (5, AI 0)]) (L := []) [0, 1, 5] [] 1 (by first | rfl | simp) (by first | rfl | simp) (by decide) (by decide) (by decide) ?_
    refine w_loopF (F_laws_eqNamedMelodyS_l0 v0 v1) (fun s : Int => mkS [(0, .val none (.sl 2 (v0.map eNamedMelody))), (1, .val none (.sl 2 (v1.map eNamedMelody))), (5, AI s)] (fo []) 1) hF ?_
    rintro k0 v9 hF
    rw [F_laws_eqNamedMelodyS_l0] at hF
    try dsimp only
    refine w_seq ?_
    refine w_reg_seq 1 257 rfl rfl ?_
    refine qp (AI v9) rfl (qp (.val none (.sl 2 (v0.map eNamedMelody))) rfl (qp (AI (v0.length : Int)) (ev_len_n rfl) (qp (AB (decide (v9 < (v0.length : Int)))) rfl ?_)))
    refine r_nil ?_
    refine w_condF hF rfl (fun hF => ?_) (fun hF => ?_)
    ·
      refine w_skip ?_
      refine thenQ_n ?_
      refine w_seq ?_
      refine w_block ?_
      refine w_reg_seq 257 897 rfl rfl ?_
      refine qp (.val none (.sl 2 (v0.map eNamedMelody))) rfl (qp (AI v9) rfl ?_)
      obtain ⟨v1000, e1000, hF⟩ := bind_get hF
      refine qp (.val none (.ptr [.str v1000.1, .sl 2 (v1000.2.map eNote)])) (ev_iad_n rfl rfl e1000 rfl) (qp (.val none (eNamedMelody v1000)) rfl (qp (.val none (.sl 2 (v1.map eNamedMelody))) rfl (qp (AI v9) rfl ?_)))
      obtain ⟨v1001, e1001, hF⟩ := bind_get hF
      refine qp (.val none (.ptr [.str v1001.1, .sl 2 (v1001.2.map eNote)])) (ev_iad_n rfl rfl e1001 rfl) (qp (.val none (eNamedMelody v1001)) rfl ?_)
      obtain ⟨v1002, e1002, hF⟩ := bind_get hF
      refine qc (AB v1002) [] false (con_laws_eqNamedMelody e1002) c86_ok (by first | rfl | simp) rfl ?_
      refine qp (AB (!v1002)) rfl ?_
      refine r_nil ?_
      refine w_condF hF rfl (fun hF => ?_) (fun hF => ?_)
      ·
        refine w_reg_seq 897 961 rfl rfl ?_
        refine qp (AB false) rfl ?_
        refine r_nil ?_
        refine w_ret ?_
        refine blockQ_r ?_
        refine thenQ_r ?_
        refine thenQ_r ?_
        refine blockQ_r ?_
        refine thenQ_r ?_
        cases hF
        exact endQ_r rfl (.inl ⟨_, _, by first | rfl | (simp [List.take_of_length_le]; first | exact ⟨rfl, rfl⟩ | rfl), by simp, by first | rfl | simp [res_laws_eqNamedMelodyS, List.take_of_length_le]⟩)
      ·
        refine w_skip ?_
        refine blockQ_n ?_
        refine thenQ_n ?_
        refine w_reg 897 1089 rfl rfl ?_
        refine qp (AI v9) rfl (qp (AI (w64 (v9 + 1))) rfl (qp (AI (w64 (v9 + 1))) rfl ?_))
        refine r_nil ?_
        refine thenQ_n ?_
        refine aw_ren (l' := [(0, .val none (.sl 2 (v0.map eNamedMelody))), (1, .val none (.sl 2 (v1.map eNamedMelody))), (5, AI (w64 (v9 + 1)))]) (L := []) [0, 1, 5] [] 1 (by first | rfl | simp) (by first | rfl | simp) (by decide) (by decide) (by decide) ⟨_, by rfl, hF⟩
    ·
      refine w_exit ?_
      refine thenQ_e ?_
      refine thenQ_e ?_
      refine blockQ_e ?_
      refine thenQ_n ?_
      refine w_reg_seq 257 321 rfl rfl ?_
      refine qp (AB true) rfl ?_
      refine r_nil ?_
      refine w_ret ?_
      cases hF
      exact endQ_r rfl (.inl ⟨_, _, by first | rfl | (simp [List.take_of_length_le]; first | exact ⟨rfl, rfl⟩ | rfl), by simp, by first | rfl | simp [res_laws_eqNamedMelodyS, List.take_of_length_le]⟩)

def c10 : MC := (.seq (.reg [⟨(some 2), none, (.p true (.mv (.c (.bool false))))⟩]) (.seq (.reg [⟨(some 3), none, (.p true (.mv (.c (.int .i64 1048576))))⟩]) (.seq (.reg [⟨(some 7), none, (.p true (.mv (.t 0)))⟩, ⟨(some 8), none, (.p true (.mv (.t 3)))⟩, ⟨(some 9), none, (.call true 46 [(.t 7), (.t 8)])⟩, ⟨(some 3), none, (.p true (.mv (.t 9)))⟩]) (.seq (.seq (.reg [⟨(some 10), none, (.p true (.mv (.t 3)))⟩, ⟨(some 11), none, (.p true (.bin .lss (.t 10) (.c (.int .i64 0))))⟩]) (.cond (.t 11) (.seq (.reg [⟨(some 2), none, (.p true (.mv (.c (.bool true))))⟩]) .ret) .skip)) (.seq (.reg [⟨(some 12), none, (.p true (.mv (.t 0)))⟩, ⟨(some 13), none, (.call true 48 [(.t 12)])⟩, ⟨(some 14), none, (.call true 47 [(.t 13)])⟩, ⟨(some 4), none, (.p true (.mv (.t 14)))⟩]) (.seq (.reg [⟨(some 15), none, (.p true (.mv (.t 0)))⟩, ⟨(some 16), none, (.call true 48 [(.t 15)])⟩, ⟨(some 5), none, (.p true (.mv (.t 16)))⟩]) (.seq (.reg [⟨(some 17), none, (.p true (.mv (.t 5)))⟩, ⟨(some 18), none, (.call true 49 [(.t 17)])⟩, ⟨(some 6), none, (.p true (.mv (.t 18)))⟩]) (.seq (.seq (.reg [⟨(some 19), none, (.p true (.mv (.t 6)))⟩, ⟨(some 20), none, (.p true (.mv (.t 4)))⟩, ⟨(some 21), none, (.p true (.bnb true (.t 19) (.t 20)))⟩]) (.cond (.t 21) (.seq (.reg [⟨(some 2), none, (.p true (.mv (.c (.bool false))))⟩]) .ret) .skip)) (.seq (.seq (.reg [⟨(some 22), none, (.p true (.mv (.t 5)))⟩, ⟨(some 23), none, (.p true (.mv (.t 0)))⟩, ⟨(some 24), none, (.call true 48 [(.t 23)])⟩, ⟨(some 25), none, (.call true 50 [(.t 22), (.t 24)])⟩, ⟨(some 26), none, (.p true (.not (.t 25)))⟩]) (.cond (.t 26) (.seq (.reg [⟨(some 2), none, (.p true (.mv (.c (.bool false))))⟩]) .ret) .skip)) (.seq (.reg [⟨(some 2), none, (.p true (.mv (.c (.bool true))))⟩]) .ret))))))))))
theorem c10_is : compFn Try.prog 10 = some (c10, [(.tmp 2)]) := by kernel_rfl
theorem c10_ok : okFn Try.prog 10 = true := by kernel_rfl

def F_laws_FnExactValidLibrary (v0 : List TNamedMelody) : Option (Bool) :=
  ((F_laws_szNamedMelodyS v0 1048576).bind fun v1000 => (bif (decide (v1000 < (0 : Int))) then some true
  else ((F_laws_toNamedMelodyS v0).bind fun v1001 => ((F_spec_ValidLibrary v1001).bind fun v1002 => ((F_laws_toNamedMelodyS v0).bind fun v1003 => ((F_impl_ValidLibrary v1003).bind fun v1004 => (bif (v1004 != v1002) then some false
  else ((F_laws_toNamedMelodyS v0).bind fun v1005 => ((F_laws_eqNamedMelodyS v1003 v1005).bind fun v1006 => (bif (!v1006) then some false
  else some true))))))))))
@[simp] def res_laws_FnExactValidLibrary (r : Bool) : RV := .one (.one (.val (.bool r)))
theorem con_laws_FnExactValidLibrary {v0 : List TNamedMelody} {r : Bool} (hF : F_laws_FnExactValidLibrary v0 = some r) : Con Try.prog 10 [.sl 2 (v0.map eNamedMelody)] (res_laws_FnExactValidLibrary r) := by
  unfold F_laws_FnExactValidLibrary at hF
  refine con_of c10_is fun N => ?_
  refine w_reg_seq 0 64 rfl rfl ?_
  refine qp (AB false) rfl ?_
  refine r_nil ?_
  refine w_reg_seq 64 128 rfl rfl ?_
  refine qp (AI 1048576) rfl ?_
  refine r_nil ?_
  refine w_reg_seq 128 384 rfl rfl ?_
  refine qp (.val none (.sl 2 (v0.map eNamedMelody))) rfl (qp (AI 1048576) rfl ?_)
  obtain ⟨v1000, e1000, hF⟩ := bind_get hF
  refine qc (AI v1000) [] false (con_laws_szNamedMelodyS e1000) c46_ok (by first | rfl | simp) rfl ?_
  refine qp (AI v1000) rfl ?_
  refine r_nil ?_
  refine w_seq ?_
  refine w_reg_seq 384 512 rfl rfl ?_
  refine qp (AI v1000) rfl (qp (AB (decide (v1000 < (0 : Int)))) rfl ?_)
  refine r_nil ?_
  refine w_condF hF rfl (fun hF => ?_) (fun hF => ?_)
  ·
    refine w_reg_seq 512 576 rfl rfl ?_
    refine qp (AB true) rfl ?_
    refine r_nil ?_
    refine w_ret ?_
    refine thenQ_r ?_
    cases hF
    exact endQ_r rfl (.inl ⟨_, _, by first | rfl | (simp [List.take_of_length_le]; first | exact ⟨rfl, rfl⟩ | rfl), by simp, by first | rfl | simp [res_laws_FnExactValidLibrary, List.take_of_length_le]⟩)
  ·
    refine w_skip ?_
    refine thenQ_n ?_
    refine w_reg_seq 512 768 rfl rfl ?_
    refine qp (.val none (.sl 2 (v0.map eNamedMelody))) rfl ?_
    obtain ⟨v1001, e1001, hF⟩ := bind_get hF
    refine qc (.sl 576 0 v1001.length) [(576, .row true 2 (v1001.map eNamedMelody))] false (con_laws_toNamedMelodyS e1001) c48_ok (by first | rfl | simp) (by simp [res_laws_toNamedMelodyS]) ?_
    obtain ⟨v1002, e1002, hF⟩ := bind_get hF
    refine qc (AB v1002) [(576, .row true 2 (v1001.map eNamedMelody))] true (con_spec_ValidLibrary e1002) c47_ok (by simp [List.take_of_length_le]) rfl ?_
    refine qp (AB v1002) rfl ?_
    refine r_nil ?_
    refine w_reg_seq 768 960 rfl rfl ?_
    refine qp (.val none (.sl 2 (v0.map eNamedMelody))) rfl ?_
    obtain ⟨v1003, e1003, hF⟩ := bind_get hF
    refine qc (.sl 832 0 v1003.length) [(832, .row true 2 (v1003.map eNamedMelody)), (576, .row true 2 (v1001.map eNamedMelody))] false (con_laws_toNamedMelodyS e1003) c48_ok (by first | rfl | simp) (by simp [res_laws_toNamedMelodyS]) ?_
    refine qp (.sl 832 0 v1003.length) rfl ?_
    refine r_nil ?_
    refine w_reg_seq 960 1152 rfl rfl ?_
    refine qp (.sl 832 0 v1003.length) rfl ?_
    obtain ⟨v1004, e1004, hF⟩ := bind_get hF
    refine qc (AB v1004) [(832, .row true 2 (v1003.map eNamedMelody)), (576, .row true 2 (v1001.map eNamedMelody))] true (con_impl_ValidLibrary e1004) c49_ok (by simp [List.take_of_length_le]) rfl ?_
    refine qp (AB v1004) rfl ?_
    refine r_nil ?_
    refine w_seq ?_
    refine w_reg_seq 1152 1344 rfl rfl ?_
    refine qp (AB v1004) rfl (qp (AB v1002) rfl (qp (AB (v1004 != v1002)) rfl ?_))
    refine r_nil ?_
    refine w_condF hF rfl (fun hF => ?_) (fun hF => ?_)
    ·
      refine w_reg_seq 1344 1408 rfl rfl ?_
      refine qp (AB false) rfl ?_
      refine r_nil ?_
      refine w_ret ?_
      refine thenQ_r ?_
      cases hF
      exact endQ_r rfl (.inl ⟨_, _, by first | rfl | (simp [List.take_of_length_le]; first | exact ⟨rfl, rfl⟩ | rfl), by simp, by first | rfl | simp [res_laws_FnExactValidLibrary, List.take_of_length_le]⟩)
    ·
      refine w_skip ?_
      refine thenQ_n ?_
      refine w_seq ?_
      refine w_reg_seq 1344 1664 rfl rfl ?_
      refine qp (.sl 832 0 v1003.length) rfl (qp (.val none (.sl 2 (v0.map eNamedMelody))) rfl ?_)
      obtain ⟨v1005, e1005, hF⟩ := bind_get hF
      refine qc (.sl 1472 0 v1005.length) [(1472, .row true 2 (v1005.map eNamedMelody)), (832, .row true 2 (v1003.map eNamedMelody)), (576, .row true 2 (v1001.map eNamedMelody))] false (con_laws_toNamedMelodyS e1005) c48_ok (by first | rfl | simp) (by simp [res_laws_toNamedMelodyS]) ?_
      obtain ⟨v1006, e1006, hF⟩ := bind_get hF
      refine qc (AB v1006) [(1472, .row true 2 (v1005.map eNamedMelody)), (832, .row true 2 (v1003.map eNamedMelody)), (576, .row true 2 (v1001.map eNamedMelody))] true (con_laws_eqNamedMelodyS e1006) c50_ok (by simp [List.take_of_length_le]) rfl ?_
      refine qp (AB (!v1006)) rfl ?_
      refine r_nil ?_
      refine w_condF hF rfl (fun hF => ?_) (fun hF => ?_)
      ·
        refine w_reg_seq 1664 1728 rfl rfl ?_
        refine qp (AB false) rfl ?_
        refine r_nil ?_
        refine w_ret ?_
        refine thenQ_r ?_
        cases hF
        exact endQ_r rfl (.inl ⟨_, _, by first | rfl | (simp [List.take_of_length_le]; first | exact ⟨rfl, rfl⟩ | rfl), by simp, by first | rfl | simp [res_laws_FnExactValidLibrary, List.take_of_length_le]⟩)
      ·
        refine w_skip ?_
        refine thenQ_n ?_
        refine w_reg_seq 1664 1728 rfl rfl ?_
        refine qp (AB true) rfl ?_
        refine r_nil ?_
        refine w_ret ?_
        cases hF
        exact endQ_r rfl (.inl ⟨_, _, by first | rfl | (simp [List.take_of_length_le]; first | exact ⟨rfl, rfl⟩ | rfl), by simp, by first | rfl | simp [res_laws_FnExactValidLibrary, List.take_of_length_le]⟩)

end Go.Ab
