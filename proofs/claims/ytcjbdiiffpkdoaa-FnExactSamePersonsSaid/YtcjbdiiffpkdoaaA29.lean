/- The loops that the laws share, over lists of plain cells (own text; the walks were printed by walk.py). -/
import Derived.Test.YtcjbdiiffpkdoaaA28
set_option linter.unusedVariables false
set_option linter.unusedSimpArgs false
namespace Go.Ab
open Go.RowKit

def mSzStr  : MC := (.seq (.reg [⟨(some 4), none, (.p (.mv (.c (.int .i64 0))))⟩]) (.seq (.reg [⟨(some 6), none, (.p (.mv (.t 1)))⟩, ⟨(some 7), none, (.p (.mv (.t 0)))⟩, ⟨(some 8), none, (.p (.len (.t 7)))⟩, ⟨(some 9), none, (.p (.bin .sub (.t 6) (.t 8)))⟩, ⟨(some 1), none, (.p (.mv (.t 9)))⟩]) (.seq (.seq (.reg [⟨(some 10), none, (.p (.mv (.t 1)))⟩, ⟨(some 11), none, (.p (.bin .lss (.t 10) (.c (.int .i64 0))))⟩]) (.cond (.t 11) (.seq (.reg [⟨(some 4), none, (.p (.mv (.c (.int .i64 (-1)))))⟩]) .ret) .skip)) (.seq (.seq (.reg [⟨(some 5), none, (.p (.mv (.c (.int .i64 0))))⟩]) (.block 0 (.loop (.seq (.seq (.reg [⟨(some 12), none, (.p (.mv (.t 5)))⟩, ⟨(some 13), none, (.p (.mv (.t 0)))⟩, ⟨(some 14), none, (.p (.len (.t 13)))⟩, ⟨(some 15), none, (.p (.bin .lss (.t 12) (.t 14)))⟩]) (.cond (.t 15) .skip (.exit 0))) (.seq (.block 1 (.seq (.reg [⟨(some 18), none, (.p (.mv (.t 1)))⟩, ⟨(some 19), none, (.p (.mv (.t 0)))⟩, ⟨(some 20), none, (.p (.mv (.t 5)))⟩, ⟨(some 21), none, (.p (.iad (.t 19) (.t 20) 1))⟩, ⟨(some 22), none, (.p (.ld (.t 21) 1 false))⟩, ⟨(some 23), none, (.p (.lens (.t 22)))⟩, ⟨(some 24), none, (.p (.bin .sub (.t 18) (.t 23)))⟩, ⟨(some 1), none, (.p (.mv (.t 24)))⟩]) (.seq (.reg [⟨(some 25), none, (.p (.mv (.t 1)))⟩, ⟨(some 26), none, (.p (.bin .lss (.t 25) (.c (.int .i64 0))))⟩]) (.cond (.t 26) (.seq (.reg [⟨(some 4), none, (.p (.mv (.c (.int .i64 (-1)))))⟩]) .ret) .skip)))) (.reg [⟨(some 16), none, (.p (.mv (.t 5)))⟩, ⟨(some 17), none, (.p (.bin .add (.t 16) (.c (.int .i64 1))))⟩, ⟨(some 5), none, (.p (.mv (.t 17)))⟩])))))) (.seq (.reg [⟨(some 27), none, (.p (.mv (.t 1)))⟩, ⟨(some 4), none, (.p (.mv (.t 27)))⟩]) .ret)))))

def szStrs : List (List UInt8) → Int → Int
  | [], l => l
  | s :: L, l => if l - (s.length : Int) < 0 then -1 else szStrs L (l - (s.length : Int))
def szStrS (L : List (List UInt8)) (l : Int) : Int := if l - (L.length : Int) < 0 then -1 else szStrs L (l - (L.length : Int))
theorem szStrs_le : ∀ {L : List (List UInt8)} {l : Int}, 0 ≤ l → szStrs L l ≤ l
  | [], l, h => by simp [szStrs]
  | s :: L, l, h => by
    simp only [szStrs]
    split
    · omega
    · have := szStrs_le (L := L) (l := l - (s.length : Int)) (by omega)
      omega
theorem szStrS_le {L : List (List UInt8)} {l : Int} (h : 0 ≤ l) : szStrS L l ≤ l := by
  unfold szStrS
  split
  · omega
  · have := szStrs_le (L := L) (l := l - (L.length : Int)) (by omega)
    omega
theorem szStrS_len {L : List (List UInt8)} {l : Int} (h : ¬ szStrS L l < 0) : (L.length : Int) ≤ l := by
  unfold szStrS at h
  split at h
  · omega
  · omega

theorem szStr_con {P : Program} {f : Nat} (hc : compFn P f = some (mSzStr, [.tmp 4])) (L : List (List UInt8)) (left : Int) (h0 : 0 ≤ left) (hB : left ≤ 1048576) (hlen : L.length ≤ 9223372036854775807) (hL : ∀ s ∈ L, s.length ≤ 9223372036854775807) : Con P f [.sl 1 (L.map V.str), .int .i64 left] (.v (.int .i64 (szStrS L left))) := by
  refine con_of hc fun N => ?_
  refine w_reg_seq 0 64 rfl (by simp) ?_
  refine r_p (by simp; rfl) ?_
  refine r_nil ?_
  refine w_reg_seq 64 384 rfl (by simp) ?_
  refine r_p (by simp; rfl) ?_
  refine r_p (by simp; rfl) ?_
  refine r_p (by simp; rfl) ?_
  refine r_p (by simp; exact ⟨_, i_sub (by omega), rfl⟩) ?_
  refine r_p (by simp; rfl) ?_
  refine r_nil ?_
  refine w_seq ?_
  refine w_reg_seq 384 512 rfl (by simp) ?_
  refine r_p (by simp; rfl) ?_
  refine r_p (by simp; rfl) ?_
  refine r_nil ?_
  refine w_case (by simp only [↓mk_get, ↓fr_eq, ↓fr_ne]; rfl) (fun h1 => ?_) (fun h1 => ?_)
  · try simp only [decide_eq_true_eq, decide_eq_false_iff_not, Bool.not_eq_true', Bool.not_eq_false', Bool.and_eq_true, Bool.or_eq_true, Bool.or_eq_false_iff] at h1
    refine w_reg_seq 512 576 rfl (by simp) ?_
    refine r_p (by simp [h1]; rfl) ?_
    refine r_nil ?_
    refine w_ret ?_
    refine thenQ_r ?_
    refine endQ_r (by simp [h1]; rfl) (.inl ⟨_, _, by simp [h1]; first | exact ⟨rfl, rfl⟩ | rfl, by simp, by simp [szStrS, *]⟩)
  · try simp only [decide_eq_true_eq, decide_eq_false_iff_not, Bool.not_eq_true', Bool.not_eq_false', Bool.and_eq_true, Bool.or_eq_true, Bool.or_eq_false_iff] at h1
    refine w_skip ?_
    refine thenQ_n ?_
    refine w_seq ?_
    refine w_reg_seq 512 576 rfl (by simp) ?_
    refine r_p (by simp [h1]; rfl) ?_
    refine r_nil ?_
    refine w_block ?_
    refine w_ren [0, 1, 5] [] 6400 (by simp [h1]; rfl) (by simp; try rfl) (by simp) (by simp) (by simp) ?_
    refine w_loop (ι := {p : Nat × Int // p.1 ≤ L.length ∧ 0 ≤ p.2 ∧ p.2 ≤ 1048576 ∧ szStrs (L.drop p.1) p.2 = szStrs L (left - (L.length : Int))}) (fun p => mkS [(0, .val none (.sl 1 (L.map V.str))), (1, .val none (.int .i64 p.1.2)), (5, .val none (.int .i64 p.1.1))] (fo []) 6400) (fun p => L.length - p.1.1) ⟨(0, left - (L.length : Int)), by simp; omega⟩ rfl ?_
    rintro ⟨⟨i, l⟩, ⟨hi1, hi2, hi3, hi4⟩⟩
    dsimp only at hi1 hi2 hi3 hi4 ⊢
    refine w_seq ?_
    refine w_reg_seq 6400 6656 rfl (by simp) ?_
    refine r_p (by simp [h1]; rfl) ?_
    refine r_p (by simp [h1]; rfl) ?_
    refine r_p (by simp [h1]; rfl) ?_
    refine r_p (by simp [h1]; rfl) ?_
    refine r_nil ?_
    refine w_case (by simp only [↓mk_get, ↓fr_eq, ↓fr_ne]; rfl) (fun h2 => ?_) (fun h2 => ?_)
    · try simp only [decide_eq_true_eq, decide_eq_false_iff_not, Bool.not_eq_true', Bool.not_eq_false', Bool.and_eq_true, Bool.or_eq_true, Bool.or_eq_false_iff] at h2
      refine w_skip ?_
      refine thenQ_n ?_
      refine w_seq ?_
      refine w_block ?_
      refine w_reg_seq 6656 7168 rfl (by simp) ?_
      refine r_p (by simp [h1, h2]; rfl) ?_
      refine r_p (by simp [h1, h2]; rfl) ?_
      refine r_p (by simp [h1, h2]; rfl) ?_
      refine r_p (by simp [h1, h2]; rfl) ?_
      refine r_p (by simp [h1, h2]; rfl) ?_
      refine r_p (by simp [h1, h2]; rfl) ?_
      have hs := hL _ (List.getElem_mem h2)
      refine r_p (by simp [h2]; exact ⟨_, i_sub (by omega), rfl⟩) ?_
      refine r_p (by simp [h1, h2]; rfl) ?_
      refine r_nil ?_
      refine w_reg_seq 7168 7296 rfl (by simp) ?_
      refine r_p (by simp [h1, h2]; rfl) ?_
      refine r_p (by simp [h1, h2]; rfl) ?_
      refine r_nil ?_
      refine w_case (by simp only [↓mk_get, ↓fr_eq, ↓fr_ne]; rfl) (fun h3 => ?_) (fun h3 => ?_)
      · try simp only [decide_eq_true_eq, decide_eq_false_iff_not, Bool.not_eq_true', Bool.not_eq_false', Bool.and_eq_true, Bool.or_eq_true, Bool.or_eq_false_iff] at h3
        refine w_reg_seq 7296 7360 rfl (by simp) ?_
        refine r_p (by simp [h1, h2, h3]; rfl) ?_
        refine r_nil ?_
        refine w_ret ?_
        refine blockQ_r ?_
        refine thenQ_r ?_
        refine thenQ_r ?_
        refine blockQ_r ?_
        refine thenQ_r ?_
        refine endQ_r (by simp [h1, h2, h3]; rfl) (.inl ⟨_, _, by simp [h1, h2, h3]; first | exact ⟨rfl, rfl⟩ | rfl, by simp, by rw [List.drop_eq_getElem_cons h2] at hi4; simp only [szStrs, h3, if_true] at hi4; simp [szStrS, h1, ← hi4]⟩)
      · try simp only [decide_eq_true_eq, decide_eq_false_iff_not, Bool.not_eq_true', Bool.not_eq_false', Bool.and_eq_true, Bool.or_eq_true, Bool.or_eq_false_iff] at h3
        refine w_skip ?_
        refine blockQ_n ?_
        refine thenQ_n ?_
        refine w_reg 7296 7488 rfl (by simp) ?_
        refine r_p (by simp [h1, h2, h3]; rfl) ?_
        refine r_p (by simp [h1, h2, h3]; first | exact ⟨_, i_add (by omega), rfl⟩ | exact ⟨_, s_add (by first | omega | (simp; omega)), rfl⟩) ?_
        refine r_p (by simp [h1, h2, h3]; rfl) ?_
        refine r_nil ?_
        refine thenQ_n ?_
        refine aw_ren [0, 1, 5] [] 6400 (by simp [h1, h2, h3]; try rfl) (by simp; try rfl) (by simp) (by simp) (by simp) ⟨⟨(i + 1, l - (L[i].length : Int)), by rw [List.drop_eq_getElem_cons h2] at hi4; simp only [szStrs, h3, if_false] at hi4; exact ⟨by dsimp only; omega, by dsimp only; omega, by dsimp only; omega, hi4⟩⟩, rfl, by dsimp only; omega⟩
    · try simp only [decide_eq_true_eq, decide_eq_false_iff_not, Bool.not_eq_true', Bool.not_eq_false', Bool.and_eq_true, Bool.or_eq_true, Bool.or_eq_false_iff] at h2
      refine w_exit ?_
      refine thenQ_e ?_
      refine thenQ_e ?_
      refine blockQ_e ?_
      refine thenQ_n ?_
      refine w_reg_seq 6656 6784 rfl (by simp) ?_
      refine r_p (by simp [h1, h2]; rfl) ?_
      refine r_p (by simp [h1, h2]; rfl) ?_
      refine r_nil ?_
      refine w_ret ?_
      refine endQ_r (by simp [h1, h2]; rfl) (.inl ⟨_, _, by simp [h1, h2]; first | exact ⟨rfl, rfl⟩ | rfl, by simp, by rw [List.drop_of_length_le (by omega)] at hi4; simp only [szStrs] at hi4; simp [szStrS, h1, ← hi4]⟩)

def mToC (bt : Nat) (z : V) : MC := (.seq (.reg [⟨(some 2), none, (.f (.nilrow 1))⟩]) (.seq (.reg [⟨(some 5), none, (.p (.mv (.t 0)))⟩, ⟨(some 6), none, (.p (.len (.t 5)))⟩, ⟨(some 7), none, (.f (.mks 1 bt z (.t 6) (.t 6)))⟩, ⟨(some 3), none, (.p (.mv (.t 7)))⟩]) (.seq (.seq (.reg [⟨(some 4), none, (.p (.mv (.c (.int .i64 0))))⟩]) (.block 0 (.loop (.seq (.seq (.reg [⟨(some 8), none, (.p (.mv (.t 4)))⟩, ⟨(some 9), none, (.p (.mv (.t 0)))⟩, ⟨(some 10), none, (.p (.len (.t 9)))⟩, ⟨(some 11), none, (.p (.bin .lss (.t 8) (.t 10)))⟩]) (.cond (.t 11) .skip (.exit 0))) (.seq (.block 1 (.reg [⟨(some 14), none, (.p (.mv (.t 3)))⟩, ⟨(some 15), none, (.p (.mv (.t 4)))⟩, ⟨(some 16), none, (.p (.mv (.t 0)))⟩, ⟨(some 17), none, (.p (.mv (.t 4)))⟩, ⟨(some 18), none, (.p (.iad (.t 16) (.t 17) 1))⟩, ⟨(some 19), none, (.p (.ld (.t 18) 1 false))⟩, ⟨(some 20), none, (.p (.iad (.t 14) (.t 15) 1))⟩, ⟨none, none, (.f (.st (.t 20) (.t 19) 1))⟩])) (.reg [⟨(some 12), none, (.p (.mv (.t 4)))⟩, ⟨(some 13), none, (.p (.bin .add (.t 12) (.c (.int .i64 1))))⟩, ⟨(some 4), none, (.p (.mv (.t 13)))⟩])))))) (.seq (.reg [⟨(some 21), none, (.p (.mv (.t 3)))⟩, ⟨(some 2), none, (.p (.mv (.t 21)))⟩]) .ret))))

theorem toC_con {P : Program} {f bt : Nat} {z : V} (hc : compFn P f = some (mToC bt z, [.tmp 2])) (L : List V) (hlen : (L.length : Int) ≤ 9223372036854775807) (hbt : (bt : Int) * (L.length : Int) ≤ 281474976710656) (hL : ∀ x ∈ L, x.cells = [x] ∧ x.plain = true ∧ patch z 0 [x] = x) : Con P f [.sl 1 L] (.r true 1 L) := by
  refine con_of hc fun N => ?_
  refine w_reg_seq 0 64 rfl (by simp) ?_
  refine r_f (by simp [-patch]; exact ⟨rfl, rfl⟩) ?_
  refine r_nil ?_
  refine w_reg_seq 64 320 rfl (by simp) ?_
  refine r_p (by simp [-patch]; rfl) ?_
  refine r_p (by simp [-patch]; rfl) ?_
  refine r_f (by simp [hbt, hlen]; exact ⟨rfl, rfl⟩) ?_
  refine r_p (by simp [-patch]; rfl) ?_
  refine r_nil ?_
  refine w_seq ?_
  refine w_reg_seq 320 384 rfl (by simp) ?_
  refine r_p (by simp [-patch]; rfl) ?_
  refine r_nil ?_
  refine w_block ?_
  refine w_ren [0, 3, 4] [(192, 0)] 6400 (by simp [-patch]; rfl) (by simp; try rfl) (by simp) (by simp) (by simp) ?_
  refine w_loop (ι := {p : Nat // p ≤ L.length}) (fun p => mkS [(0, .val none (.sl 1 L)), (3, .sl 0 0 L.length), (4, .val none (.int .i64 p.1))] (fo [(0, .row true 1 (cpy z L p.1))]) 6400) (fun p => L.length - p.1) ⟨0, by omega⟩ rfl ?_
  rintro ⟨i, hi1⟩
  dsimp only at hi1 ⊢
  refine w_seq ?_
  refine w_reg_seq 6400 6656 rfl (by simp) ?_
  refine r_p (by simp [-patch]; rfl) ?_
  refine r_p (by simp [-patch]; rfl) ?_
  refine r_p (by simp [-patch]; rfl) ?_
  refine r_p (by simp [-patch]; rfl) ?_
  refine r_nil ?_
  refine w_case (by simp only [↓mk_get, ↓fr_eq, ↓fr_ne]; rfl) (fun h1 => ?_) (fun h1 => ?_)
  · try simp only [decide_eq_true_eq, decide_eq_false_iff_not, Bool.not_eq_true', Bool.not_eq_false', Bool.and_eq_true, Bool.or_eq_true, Bool.or_eq_false_iff] at h1
    refine w_skip ?_
    refine thenQ_n ?_
    refine w_seq ?_
    refine w_block ?_
    refine w_reg 6656 7168 rfl (by simp) ?_
    refine r_p (by simp [h1, -patch]; rfl) ?_
    refine r_p (by simp [h1, -patch]; rfl) ?_
    refine r_p (by simp [h1, -patch]; rfl) ?_
    refine r_p (by simp [h1, -patch]; rfl) ?_
    refine r_p (by simp [h1, -patch]; rfl) ?_
    have hx := hL _ (List.getElem_mem h1)
    refine r_p (by simp [h1, hx.1]; rfl) ?_
    refine r_p (by simp [h1, -patch]; rfl) ?_
    refine r_f0 (by simp [h1, -patch, cpy_get h1, hx.1, hx.2.1, hx.2.2, cpy_set h1]; exact ⟨rfl, rfl⟩) ?_
    refine r_nil ?_
    refine blockQ_n ?_
    refine thenQ_n ?_
    refine w_reg 7168 7360 rfl (by simp) ?_
    refine r_p (by simp [h1, -patch]; rfl) ?_
    refine r_p (by simp [h1, -patch]; first | exact ⟨_, i_add (by omega), rfl⟩ | exact ⟨_, s_add (by first | omega | (simp; omega)), rfl⟩) ?_
    refine r_p (by simp [h1, -patch]; rfl) ?_
    refine r_nil ?_
    refine thenQ_n ?_
    refine aw_ren [0, 3, 4] [(0, 0)] 6400 (by simp [h1, -patch]; try rfl) (by simp; try rfl) (by simp) (by simp) (by simp) ⟨⟨i + 1, by omega⟩, rfl, by dsimp only; omega⟩
  · try simp only [decide_eq_true_eq, decide_eq_false_iff_not, Bool.not_eq_true', Bool.not_eq_false', Bool.and_eq_true, Bool.or_eq_true, Bool.or_eq_false_iff] at h1
    refine w_exit ?_
    refine thenQ_e ?_
    refine thenQ_e ?_
    refine blockQ_e ?_
    refine thenQ_n ?_
    refine w_reg_seq 6656 6784 rfl (by simp) ?_
    refine r_p (by simp [h1, -patch]; rfl) ?_
    refine r_p (by simp [h1, -patch]; rfl) ?_
    refine r_nil ?_
    refine w_ret ?_
    refine endQ_r (by simp [h1, -patch]; rfl) (.inl ⟨_, _, by simp [h1, -patch]; first | exact ⟨rfl, rfl⟩ | rfl, by simp, by simp [cpy_end h1 hi1, cpy_len hi1, List.take_of_length_le]⟩)

def mEqC  : MC := (.seq (.reg [⟨(some 4), none, (.p (.mv (.c (.bool false))))⟩]) (.seq (.seq (.reg [⟨(some 6), none, (.p (.mv (.t 0)))⟩, ⟨(some 7), none, (.p (.len (.t 6)))⟩, ⟨(some 8), none, (.p (.mv (.t 1)))⟩, ⟨(some 9), none, (.p (.len (.t 8)))⟩, ⟨(some 10), none, (.p (.bin .neq (.t 7) (.t 9)))⟩]) (.cond (.t 10) (.seq (.reg [⟨(some 4), none, (.p (.mv (.c (.bool false))))⟩]) .ret) .skip)) (.seq (.seq (.reg [⟨(some 5), none, (.p (.mv (.c (.int .i64 0))))⟩]) (.block 0 (.loop (.seq (.seq (.reg [⟨(some 11), none, (.p (.mv (.t 5)))⟩, ⟨(some 12), none, (.p (.mv (.t 0)))⟩, ⟨(some 13), none, (.p (.len (.t 12)))⟩, ⟨(some 14), none, (.p (.bin .lss (.t 11) (.t 13)))⟩]) (.cond (.t 14) .skip (.exit 0))) (.seq (.block 1 (.seq (.reg [⟨(some 17), none, (.p (.mv (.t 0)))⟩, ⟨(some 18), none, (.p (.mv (.t 5)))⟩, ⟨(some 19), none, (.p (.iad (.t 17) (.t 18) 1))⟩, ⟨(some 20), none, (.p (.ld (.t 19) 1 false))⟩, ⟨(some 21), none, (.p (.mv (.t 1)))⟩, ⟨(some 22), none, (.p (.mv (.t 5)))⟩, ⟨(some 23), none, (.p (.iad (.t 21) (.t 22) 1))⟩, ⟨(some 24), none, (.p (.ld (.t 23) 1 false))⟩, ⟨(some 25), none, (.p (.bin .neq (.t 20) (.t 24)))⟩]) (.cond (.t 25) (.seq (.reg [⟨(some 4), none, (.p (.mv (.c (.bool false))))⟩]) .ret) .skip))) (.reg [⟨(some 15), none, (.p (.mv (.t 5)))⟩, ⟨(some 16), none, (.p (.bin .add (.t 15) (.c (.int .i64 1))))⟩, ⟨(some 5), none, (.p (.mv (.t 16)))⟩])))))) (.seq (.reg [⟨(some 4), none, (.p (.mv (.c (.bool true))))⟩]) .ret))))

theorem eqC_con {P : Program} {f : Nat} (hc : compFn P f = some (mEqC, [.tmp 4])) (L : List V) (hlen : (L.length : Int) ≤ 9223372036854775807) (hL : ∀ x ∈ L, x.cells = [x] ∧ binV .neq x x = some (.bool false)) : Con P f [.sl 1 L, .sl 1 L] (.v (.bool true)) := by
  refine con_of hc fun N => ?_
  refine w_reg_seq 0 64 rfl (by simp) ?_
  refine r_p (by simp; rfl) ?_
  refine r_nil ?_
  refine w_seq ?_
  refine w_reg_seq 64 384 rfl (by simp) ?_
  refine r_p (by simp; rfl) ?_
  refine r_p (by simp; rfl) ?_
  refine r_p (by simp; rfl) ?_
  refine r_p (by simp; rfl) ?_
  refine r_p (by simp; rfl) ?_
  refine r_nil ?_
  refine w_false (by simp) ?_
  refine w_skip ?_
  refine thenQ_n ?_
  refine w_seq ?_
  refine w_reg_seq 384 448 rfl (by simp) ?_
  refine r_p (by simp; rfl) ?_
  refine r_nil ?_
  refine w_block ?_
  refine w_ren [0, 1, 5] [] 6400 (by simp; rfl) (by simp; try rfl) (by simp) (by simp) (by simp) ?_
  refine w_loop (ι := {p : Nat // p ≤ L.length}) (fun p => mkS [(0, .val none (.sl 1 L)), (1, .val none (.sl 1 L)), (5, .val none (.int .i64 p.1))] (fo []) 6400) (fun p => L.length - p.1) ⟨0, by omega⟩ rfl ?_
  rintro ⟨i, hi1⟩
  dsimp only at hi1 ⊢
  refine w_seq ?_
  refine w_reg_seq 6400 6656 rfl (by simp) ?_
  refine r_p (by simp; rfl) ?_
  refine r_p (by simp; rfl) ?_
  refine r_p (by simp; rfl) ?_
  refine r_p (by simp; rfl) ?_
  refine r_nil ?_
  refine w_case (by simp only [↓mk_get, ↓fr_eq, ↓fr_ne]; rfl) (fun h1 => ?_) (fun h1 => ?_)
  · try simp only [decide_eq_true_eq, decide_eq_false_iff_not, Bool.not_eq_true', Bool.not_eq_false', Bool.and_eq_true, Bool.or_eq_true, Bool.or_eq_false_iff] at h1
    refine w_skip ?_
    refine thenQ_n ?_
    refine w_seq ?_
    refine w_block ?_
    refine w_reg_seq 6656 7232 rfl (by simp) ?_
    refine r_p (by simp [h1]; rfl) ?_
    refine r_p (by simp [h1]; rfl) ?_
    refine r_p (by simp [h1]; rfl) ?_
    refine r_p (by simp [h1, (hL _ (List.getElem_mem h1)).1]; rfl) ?_
    refine r_p (by simp [h1]; rfl) ?_
    refine r_p (by simp [h1]; rfl) ?_
    refine r_p (by simp [h1]; rfl) ?_
    refine r_p (by simp [h1, (hL _ (List.getElem_mem h1)).1]; rfl) ?_
    refine r_p (by simp [h1, -binV, (hL _ (List.getElem_mem h1)).2]; rfl) ?_
    refine r_nil ?_
    refine w_false (by simp [h1]) ?_
    refine w_skip ?_
    refine blockQ_n ?_
    refine thenQ_n ?_
    refine w_reg 7232 7424 rfl (by simp) ?_
    refine r_p (by simp [h1]; rfl) ?_
    refine r_p (by simp [h1]; first | exact ⟨_, i_add (by omega), rfl⟩ | exact ⟨_, s_add (by first | omega | (simp; omega)), rfl⟩) ?_
    refine r_p (by simp [h1]; rfl) ?_
    refine r_nil ?_
    refine thenQ_n ?_
    refine aw_ren [0, 1, 5] [] 6400 (by simp [h1]; try rfl) (by simp; try rfl) (by simp) (by simp) (by simp) ⟨⟨i + 1, by omega⟩, rfl, by dsimp only; omega⟩
  · try simp only [decide_eq_true_eq, decide_eq_false_iff_not, Bool.not_eq_true', Bool.not_eq_false', Bool.and_eq_true, Bool.or_eq_true, Bool.or_eq_false_iff] at h1
    refine w_exit ?_
    refine thenQ_e ?_
    refine thenQ_e ?_
    refine blockQ_e ?_
    refine thenQ_n ?_
    refine w_reg_seq 6656 6720 rfl (by simp) ?_
    refine r_p (by simp [h1]; rfl) ?_
    refine r_nil ?_
    refine w_ret ?_
    refine endQ_r (by simp [h1]; rfl) (.inl ⟨_, _, by simp [h1]; first | exact ⟨rfl, rfl⟩ | rfl, by simp, by simp [*]⟩)

end Go.Ab
