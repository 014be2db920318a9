/- SameBlocks (own text; the walks were printed by walk.py). -/
import Derived.Test.YtcjbdiiffpkdoaaA28
import Derived.Test.YtcjbdiiffpkdoaaProg
import Derived.KernelRfl
set_option linter.unusedVariables false
set_option linter.unusedSimpArgs false
namespace Go.Ab
open Go.RowKit Go.Proofs

def c40 : MC := (.seq (.reg [⟨(some 2), none, (.f (.box (.t 0)))⟩, ⟨(some 4), none, (.p (.mv (.c (.int .i64 0))))⟩]) (.seq (.reg [⟨(some 5), none, (.p (.mv (.t 1)))⟩, ⟨(some 6), none, (.p (.fad (.t 2) 0))⟩, ⟨(some 7), none, (.p (.ld (.t 6) 1 false))⟩, ⟨(some 8), none, (.p (.lens (.t 7)))⟩, ⟨(some 9), none, (.p (.bin .sub (.t 5) (.t 8)))⟩, ⟨(some 1), none, (.p (.mv (.t 9)))⟩]) (.seq (.seq (.reg [⟨(some 10), none, (.p (.mv (.t 1)))⟩, ⟨(some 11), none, (.p (.bin .lss (.t 10) (.c (.int .i64 0))))⟩]) (.cond (.t 11) (.seq (.reg [⟨(some 4), none, (.p (.mv (.c (.int .i64 (-1)))))⟩]) .ret) .skip)) (.seq (.reg [⟨(some 12), none, (.p (.mv (.t 1)))⟩, ⟨(some 13), none, (.p (.fad (.t 2) 1))⟩, ⟨(some 14), none, (.p (.ld (.t 13) 1 false))⟩, ⟨(some 15), none, (.p (.lens (.t 14)))⟩, ⟨(some 16), none, (.p (.bin .sub (.t 12) (.t 15)))⟩, ⟨(some 1), none, (.p (.mv (.t 16)))⟩]) (.seq (.seq (.reg [⟨(some 17), none, (.p (.mv (.t 1)))⟩, ⟨(some 18), none, (.p (.bin .lss (.t 17) (.c (.int .i64 0))))⟩]) (.cond (.t 18) (.seq (.reg [⟨(some 4), none, (.p (.mv (.c (.int .i64 (-1)))))⟩]) .ret) .skip)) (.seq (.reg [⟨(some 19), none, (.p (.mv (.t 1)))⟩, ⟨(some 20), none, (.p (.fad (.t 2) 2))⟩, ⟨(some 21), none, (.p (.ld (.t 20) 1 false))⟩, ⟨(some 22), none, (.p (.lens (.t 21)))⟩, ⟨(some 23), none, (.p (.bin .sub (.t 19) (.t 22)))⟩, ⟨(some 1), none, (.p (.mv (.t 23)))⟩]) (.seq (.seq (.reg [⟨(some 24), none, (.p (.mv (.t 1)))⟩, ⟨(some 25), none, (.p (.bin .lss (.t 24) (.c (.int .i64 0))))⟩]) (.cond (.t 25) (.seq (.reg [⟨(some 4), none, (.p (.mv (.c (.int .i64 (-1)))))⟩]) .ret) .skip)) (.seq (.reg [⟨(some 26), none, (.p (.mv (.t 1)))⟩, ⟨(some 4), none, (.p (.mv (.t 26)))⟩]) .ret))))))))
theorem c40_is : compFn Try.prog 40 = some (c40, [(.tmp 4)]) := by kernel_rfl
theorem c40_ok : okFn Try.prog 40 = true := by kernel_rfl

def c42 : MC := (.seq (.reg [⟨(some 1), none, (.f (.box (.t 0)))⟩, ⟨(some 2), none, (.f (.alloc [((.str []), (0, false)), ((.str []), (0, false)), ((.str []), (0, false))]))⟩]) (.seq (.reg [⟨(some 3), none, (.f (.alloc [((.str []), (0, false)), ((.str []), (0, false)), ((.str []), (0, false))]))⟩]) (.seq (.reg [⟨(some 4), none, (.p (.fad (.t 1) 0))⟩, ⟨(some 5), none, (.p (.ld (.t 4) 1 false))⟩, ⟨(some 6), none, (.p (.fad (.t 3) 0))⟩, ⟨none, none, (.f (.st (.t 6) (.t 5) 1))⟩]) (.seq (.reg [⟨(some 7), none, (.p (.fad (.t 1) 1))⟩, ⟨(some 8), none, (.p (.ld (.t 7) 1 false))⟩, ⟨(some 9), none, (.p (.fad (.t 3) 1))⟩, ⟨none, none, (.f (.st (.t 9) (.t 8) 1))⟩]) (.seq (.reg [⟨(some 10), none, (.p (.fad (.t 1) 2))⟩, ⟨(some 11), none, (.p (.ld (.t 10) 1 false))⟩, ⟨(some 12), none, (.p (.fad (.t 3) 2))⟩, ⟨none, none, (.f (.st (.t 12) (.t 11) 1))⟩]) (.seq (.reg [⟨(some 13), none, (.p (.ld (.t 3) 3 true))⟩, ⟨none, none, (.f (.st (.t 2) (.t 13) 3))⟩]) .ret))))))
theorem c42_is : compFn Try.prog 42 = some (c42, [(.cell (.ld (.t 2) 3 true))]) := by kernel_rfl
theorem c42_ok : okFn Try.prog 42 = true := by kernel_rfl

def c68 : MC := (.seq (.reg [⟨(some 2), none, (.f (.box (.t 0)))⟩, ⟨(some 3), none, (.f (.box (.t 1)))⟩, ⟨(some 4), none, (.p (.mv (.c (.bool false))))⟩]) (.seq (.seq (.reg [⟨(some 5), none, (.p (.fad (.t 2) 0))⟩, ⟨(some 6), none, (.p (.ld (.t 5) 1 false))⟩, ⟨(some 7), none, (.p (.fad (.t 3) 0))⟩, ⟨(some 8), none, (.p (.ld (.t 7) 1 false))⟩, ⟨(some 9), none, (.p (.bin .neq (.t 6) (.t 8)))⟩]) (.cond (.t 9) (.seq (.reg [⟨(some 4), none, (.p (.mv (.c (.bool false))))⟩]) .ret) .skip)) (.seq (.seq (.reg [⟨(some 10), none, (.p (.fad (.t 2) 1))⟩, ⟨(some 11), none, (.p (.ld (.t 10) 1 false))⟩, ⟨(some 12), none, (.p (.fad (.t 3) 1))⟩, ⟨(some 13), none, (.p (.ld (.t 12) 1 false))⟩, ⟨(some 14), none, (.p (.bin .neq (.t 11) (.t 13)))⟩]) (.cond (.t 14) (.seq (.reg [⟨(some 4), none, (.p (.mv (.c (.bool false))))⟩]) .ret) .skip)) (.seq (.seq (.reg [⟨(some 15), none, (.p (.fad (.t 2) 2))⟩, ⟨(some 16), none, (.p (.ld (.t 15) 1 false))⟩, ⟨(some 17), none, (.p (.fad (.t 3) 2))⟩, ⟨(some 18), none, (.p (.ld (.t 17) 1 false))⟩, ⟨(some 19), none, (.p (.bin .neq (.t 16) (.t 18)))⟩]) (.cond (.t 19) (.seq (.reg [⟨(some 4), none, (.p (.mv (.c (.bool false))))⟩]) .ret) .skip)) (.seq (.reg [⟨(some 4), none, (.p (.mv (.c (.bool true))))⟩]) .ret)))))
theorem c68_is : compFn Try.prog 68 = some (c68, [(.tmp 4)]) := by kernel_rfl
theorem c68_ok : okFn Try.prog 68 = true := by kernel_rfl

def c66 : MC := (.seq (.reg [⟨(some 4), none, (.p (.mv (.c (.bool false))))⟩]) (.seq (.seq (.reg [⟨(some 6), none, (.p (.mv (.t 0)))⟩, ⟨(some 7), none, (.p (.len (.t 6)))⟩, ⟨(some 8), none, (.p (.mv (.t 1)))⟩, ⟨(some 9), none, (.p (.len (.t 8)))⟩, ⟨(some 10), none, (.p (.bin .neq (.t 7) (.t 9)))⟩]) (.cond (.t 10) (.seq (.reg [⟨(some 4), none, (.p (.mv (.c (.bool false))))⟩]) .ret) .skip)) (.seq (.seq (.reg [⟨(some 5), none, (.p (.mv (.c (.int .i64 0))))⟩]) (.block 0 (.loop (.seq (.seq (.reg [⟨(some 11), none, (.p (.mv (.t 5)))⟩, ⟨(some 12), none, (.p (.mv (.t 0)))⟩, ⟨(some 13), none, (.p (.len (.t 12)))⟩, ⟨(some 14), none, (.p (.bin .lss (.t 11) (.t 13)))⟩]) (.cond (.t 14) .skip (.exit 0))) (.seq (.block 1 (.seq (.reg [⟨(some 17), none, (.p (.mv (.t 0)))⟩, ⟨(some 18), none, (.p (.mv (.t 5)))⟩, ⟨(some 19), none, (.p (.iad (.t 17) (.t 18) 3))⟩, ⟨(some 20), none, (.p (.ld (.t 19) 3 true))⟩, ⟨(some 21), none, (.p (.mv (.t 1)))⟩, ⟨(some 22), none, (.p (.mv (.t 5)))⟩, ⟨(some 23), none, (.p (.iad (.t 21) (.t 22) 3))⟩, ⟨(some 24), none, (.p (.ld (.t 23) 3 true))⟩, ⟨(some 25), none, (.p (.eqs true [2, 2, 2] (.t 20) (.t 24)))⟩]) (.cond (.t 25) (.seq (.reg [⟨(some 4), none, (.p (.mv (.c (.bool false))))⟩]) .ret) .skip))) (.reg [⟨(some 15), none, (.p (.mv (.t 5)))⟩, ⟨(some 16), none, (.p (.bin .add (.t 15) (.c (.int .i64 1))))⟩, ⟨(some 5), none, (.p (.mv (.t 16)))⟩])))))) (.seq (.reg [⟨(some 4), none, (.p (.mv (.c (.bool true))))⟩]) .ret))))
theorem c66_is : compFn Try.prog 66 = some (c66, [(.tmp 4)]) := by kernel_rfl
theorem c66_ok : okFn Try.prog 66 = true := by kernel_rfl

def c67 : MC := (.seq (.reg [⟨(some 4), none, (.p (.mv (.c (.bool false))))⟩]) (.seq (.seq (.reg [⟨(some 6), none, (.p (.mv (.t 0)))⟩, ⟨(some 7), none, (.p (.len (.t 6)))⟩, ⟨(some 8), none, (.p (.mv (.t 1)))⟩, ⟨(some 9), none, (.p (.len (.t 8)))⟩, ⟨(some 10), none, (.p (.bin .neq (.t 7) (.t 9)))⟩]) (.cond (.t 10) (.seq (.reg [⟨(some 4), none, (.p (.mv (.c (.bool false))))⟩]) .ret) .skip)) (.seq (.seq (.reg [⟨(some 11), none, (.p (.mv (.t 0)))⟩, ⟨(some 12), none, (.p (.len (.t 11)))⟩, ⟨(some 13), none, (.p (.mv (.c (.int .i64 0))))⟩]) (.block 0 (.loop (.seq (.reg [⟨(some 14), none, (.p (.bin .lss (.t 13) (.t 12)))⟩]) (.seq (.cond (.t 14) .skip (.exit 0)) (.seq (.block 1 (.seq (.reg [⟨(some 15), none, (.p (.mv (.t 13)))⟩, ⟨(some 5), none, (.p (.mv (.t 15)))⟩]) (.seq (.reg [⟨(some 16), none, (.p (.mv (.t 0)))⟩, ⟨(some 17), none, (.p (.mv (.t 5)))⟩, ⟨(some 18), none, (.p (.iad (.t 16) (.t 17) 3))⟩, ⟨(some 19), none, (.p (.ld (.t 18) 3 true))⟩, ⟨(some 20), none, (.p (.mv (.t 1)))⟩, ⟨(some 21), none, (.p (.mv (.t 5)))⟩, ⟨(some 22), none, (.p (.iad (.t 20) (.t 21) 3))⟩, ⟨(some 23), none, (.p (.ld (.t 22) 3 true))⟩, ⟨(some 24), none, (.p (.eqs true [2, 2, 2] (.t 19) (.t 23)))⟩]) (.cond (.t 24) (.seq (.reg [⟨(some 4), none, (.p (.mv (.c (.bool false))))⟩]) .ret) .skip)))) (.reg [⟨(some 25), none, (.p (.bin .add (.t 13) (.c (.int .i64 1))))⟩, ⟨(some 13), none, (.p (.mv (.t 25)))⟩]))))))) (.seq (.reg [⟨(some 4), none, (.p (.mv (.c (.bool true))))⟩]) .ret))))
theorem c67_is : compFn Try.prog 67 = some (c67, [(.tmp 4)]) := by kernel_rfl
theorem c67_ok : okFn Try.prog 67 = true := by kernel_rfl

def c22 : MC := (.seq (.reg [⟨(some 4), none, (.p (.mv (.c (.bool false))))⟩]) (.seq (.reg [⟨(some 5), none, (.p (.mv (.t 0)))⟩, ⟨(some 6), none, (.p (.mv (.t 1)))⟩, ⟨(some 7), none, (.call 66 [(.t 5), (.t 6)])⟩, ⟨(some 4), none, (.p (.mv (.t 7)))⟩]) .ret))
theorem c22_is : compFn Try.prog 22 = some (c22, [(.tmp 4)]) := by kernel_rfl
theorem c22_ok : okFn Try.prog 22 = true := by kernel_rfl

def c24 : MC := (.seq (.reg [⟨(some 4), none, (.p (.mv (.c (.bool false))))⟩]) (.seq (.reg [⟨(some 5), none, (.p (.mv (.t 0)))⟩, ⟨(some 6), none, (.p (.mv (.t 1)))⟩, ⟨(some 7), none, (.call 67 [(.t 5), (.t 6)])⟩, ⟨(some 4), none, (.p (.mv (.t 7)))⟩]) .ret))
theorem c24_is : compFn Try.prog 24 = some (c24, [(.tmp 4)]) := by kernel_rfl
theorem c24_ok : okFn Try.prog 24 = true := by kernel_rfl

def c5 : MC := (.seq (.reg [⟨(some 4), none, (.p (.mv (.c (.bool false))))⟩]) (.seq (.reg [⟨(some 5), none, (.p (.mv (.c (.int .i64 1048576))))⟩]) (.seq (.reg [⟨(some 10), none, (.p (.mv (.t 0)))⟩, ⟨(some 11), none, (.p (.mv (.t 5)))⟩, ⟨(some 12), none, (.call 21 [(.t 10), (.t 11)])⟩, ⟨(some 5), none, (.p (.mv (.t 12)))⟩]) (.seq (.seq (.reg [⟨(some 13), none, (.p (.mv (.t 5)))⟩, ⟨(some 14), none, (.p (.bin .lss (.t 13) (.c (.int .i64 0))))⟩]) (.cond (.t 14) (.seq (.reg [⟨(some 4), none, (.p (.mv (.c (.bool true))))⟩]) .ret) .skip)) (.seq (.reg [⟨(some 15), none, (.p (.mv (.t 1)))⟩, ⟨(some 16), none, (.p (.mv (.t 5)))⟩, ⟨(some 17), none, (.call 21 [(.t 15), (.t 16)])⟩, ⟨(some 5), none, (.p (.mv (.t 17)))⟩]) (.seq (.seq (.reg [⟨(some 18), none, (.p (.mv (.t 5)))⟩, ⟨(some 19), none, (.p (.bin .lss (.t 18) (.c (.int .i64 0))))⟩]) (.cond (.t 19) (.seq (.reg [⟨(some 4), none, (.p (.mv (.c (.bool true))))⟩]) .ret) .skip)) (.seq (.reg [⟨(some 20), none, (.p (.mv (.t 0)))⟩, ⟨(some 21), none, (.call 23 [(.t 20)])⟩, ⟨(some 22), none, (.p (.mv (.t 1)))⟩, ⟨(some 23), none, (.call 23 [(.t 22)])⟩, ⟨(some 24), none, (.call 22 [(.t 21), (.t 23)])⟩, ⟨(some 6), none, (.p (.mv (.t 24)))⟩]) (.seq (.reg [⟨(some 25), none, (.p (.mv (.t 0)))⟩, ⟨(some 26), none, (.call 23 [(.t 25)])⟩, ⟨(some 7), none, (.p (.mv (.t 26)))⟩]) (.seq (.reg [⟨(some 27), none, (.p (.mv (.t 1)))⟩, ⟨(some 28), none, (.call 23 [(.t 27)])⟩, ⟨(some 8), none, (.p (.mv (.t 28)))⟩]) (.seq (.reg [⟨(some 29), none, (.p (.mv (.t 7)))⟩, ⟨(some 30), none, (.p (.mv (.t 8)))⟩, ⟨(some 31), none, (.call 24 [(.t 29), (.t 30)])⟩, ⟨(some 9), none, (.p (.mv (.t 31)))⟩]) (.seq (.seq (.reg [⟨(some 32), none, (.p (.mv (.t 9)))⟩, ⟨(some 33), none, (.p (.mv (.t 6)))⟩, ⟨(some 34), none, (.p (.bnb true (.t 32) (.t 33)))⟩]) (.cond (.t 34) (.seq (.reg [⟨(some 4), none, (.p (.mv (.c (.bool false))))⟩]) .ret) .skip)) (.seq (.seq (.reg [⟨(some 35), none, (.p (.mv (.t 7)))⟩, ⟨(some 36), none, (.p (.mv (.t 0)))⟩, ⟨(some 37), none, (.call 23 [(.t 36)])⟩, ⟨(some 38), none, (.call 25 [(.t 35), (.t 37)])⟩, ⟨(some 39), none, (.p (.not (.t 38)))⟩]) (.cond (.t 39) (.seq (.reg [⟨(some 4), none, (.p (.mv (.c (.bool false))))⟩]) .ret) .skip)) (.seq (.seq (.reg [⟨(some 40), none, (.p (.mv (.t 8)))⟩, ⟨(some 41), none, (.p (.mv (.t 1)))⟩, ⟨(some 42), none, (.call 23 [(.t 41)])⟩, ⟨(some 43), none, (.call 25 [(.t 40), (.t 42)])⟩, ⟨(some 44), none, (.p (.not (.t 43)))⟩]) (.cond (.t 44) (.seq (.reg [⟨(some 4), none, (.p (.mv (.c (.bool false))))⟩]) .ret) .skip)) (.seq (.reg [⟨(some 4), none, (.p (.mv (.c (.bool true))))⟩]) .ret))))))))))))))
theorem c5_is : compFn Try.prog 5 = some (c5, [(.tmp 4)]) := by kernel_rfl
theorem c5_ok : okFn Try.prog 5 = true := by kernel_rfl

theorem c21_is : compFn Try.prog 21 = some (mSzS 40 3 true, [.tmp 4]) := by kernel_rfl
theorem c21_ok : okFn Try.prog 21 = true := by kernel_rfl

theorem c23_is : compFn Try.prog 23 = some (mToS 42 3 48 (.agg [.str [], .str [], .str []]) true, [.tmp 2]) := by kernel_rfl
theorem c23_ok : okFn Try.prog 23 = true := by kernel_rfl

theorem c25_is : compFn Try.prog 25 = some (mEqS 68 3 true, [.tmp 4]) := by kernel_rfl
theorem c25_ok : okFn Try.prog 25 = true := by kernel_rfl

abbrev Bk := List UInt8 × List UInt8 × List UInt8
@[simp] def blk (b : Bk) : V := .agg [.str b.1, .str b.2.1, .str b.2.2]
def Bk.ok (b : Bk) : Prop := b.1.length ≤ 9223372036854775807 ∧ b.2.1.length ≤ 9223372036854775807 ∧ b.2.2.length ≤ 9223372036854775807
def szBk (b : Bk) (l : Int) : Int := if l - (b.1.length : Int) < 0 then -1 else if l - (b.1.length : Int) - (b.2.1.length : Int) < 0 then -1 else if l - (b.1.length : Int) - (b.2.1.length : Int) - (b.2.2.length : Int) < 0 then -1 else l - (b.1.length : Int) - (b.2.1.length : Int) - (b.2.2.length : Int)
def szB (x : V) (l : Int) : Int := match x with
  | .agg [.str a, .str b, .str c] => szBk (a, b, c) l
  | _ => 0
theorem szB_blk {b : Bk} {l : Int} : szB (blk b) l = szBk b l := rfl
theorem szBk_le {b : Bk} {l : Int} (h : 0 ≤ l) : szBk b l ≤ l := by
  unfold szBk
  split
  · omega
  · split
    · omega
    · split <;> omega

theorem con40 (b : Bk) (hb : b.ok) (l : Int) (h0 : 0 ≤ l) (hl : l ≤ 1048576) : Con Try.prog 40 [blk b, .int .i64 l] (.v (.int .i64 (szBk b l))) := by
  obtain ⟨b1, b2, b3⟩ := hb
  refine con_of c40_is fun N => ?_
  refine w_reg_seq 0 128 rfl (by simp) ?_
  refine r_f (by simp; exact ⟨rfl, rfl⟩) ?_
  refine r_p (by simp; rfl) ?_
  refine r_nil ?_
  refine w_reg_seq 128 512 rfl (by simp) ?_
  refine r_p (by simp; rfl) ?_
  refine r_p (by simp; rfl) ?_
  refine r_p (by simp; rfl) ?_
  refine r_p (by simp; rfl) ?_
  refine r_p (by simp; exact ⟨_, i_sub (by omega), rfl⟩) ?_
  refine r_p (by simp; rfl) ?_
  refine r_nil ?_
  refine w_seq ?_
  refine w_reg_seq 512 640 rfl (by simp) ?_
  refine r_p (by simp; rfl) ?_
  refine r_p (by simp; rfl) ?_
  refine r_nil ?_
  refine w_case (by simp only [↓mk_get, ↓fr_eq, ↓fr_ne]; rfl) (fun h1 => ?_) (fun h1 => ?_)
  · try simp only [decide_eq_true_eq, decide_eq_false_iff_not, Bool.not_eq_true', Bool.not_eq_false', Bool.and_eq_true, Bool.or_eq_true, Bool.or_eq_false_iff] at h1
    refine w_reg_seq 640 704 rfl (by simp) ?_
    refine r_p (by simp [h1]; rfl) ?_
    refine r_nil ?_
    refine w_ret ?_
    refine thenQ_r ?_
    refine endQ_r (by simp [h1]; rfl) (.inl ⟨_, _, by simp [h1]; first | exact ⟨rfl, rfl⟩ | rfl, by simp, by simp [szBk, *]⟩)
  · try simp only [decide_eq_true_eq, decide_eq_false_iff_not, Bool.not_eq_true', Bool.not_eq_false', Bool.and_eq_true, Bool.or_eq_true, Bool.or_eq_false_iff] at h1
    refine w_skip ?_
    refine thenQ_n ?_
    refine w_reg_seq 640 1024 rfl (by simp) ?_
    refine r_p (by simp [h1]; rfl) ?_
    refine r_p (by simp [h1]; rfl) ?_
    refine r_p (by simp [h1]; rfl) ?_
    refine r_p (by simp [h1]; rfl) ?_
    refine r_p (by simp [h1]; exact ⟨_, i_sub (by omega), rfl⟩) ?_
    refine r_p (by simp [h1]; rfl) ?_
    refine r_nil ?_
    refine w_seq ?_
    refine w_reg_seq 1024 1152 rfl (by simp) ?_
    refine r_p (by simp [h1]; rfl) ?_
    refine r_p (by simp [h1]; rfl) ?_
    refine r_nil ?_
    refine w_case (by simp only [↓mk_get, ↓fr_eq, ↓fr_ne]; rfl) (fun h2 => ?_) (fun h2 => ?_)
    · try simp only [decide_eq_true_eq, decide_eq_false_iff_not, Bool.not_eq_true', Bool.not_eq_false', Bool.and_eq_true, Bool.or_eq_true, Bool.or_eq_false_iff] at h2
      refine w_reg_seq 1152 1216 rfl (by simp) ?_
      refine r_p (by simp [h1, h2]; rfl) ?_
      refine r_nil ?_
      refine w_ret ?_
      refine thenQ_r ?_
      refine endQ_r (by simp [h1, h2]; rfl) (.inl ⟨_, _, by simp [h1, h2]; first | exact ⟨rfl, rfl⟩ | rfl, by simp, by simp [szBk, *]⟩)
    · try simp only [decide_eq_true_eq, decide_eq_false_iff_not, Bool.not_eq_true', Bool.not_eq_false', Bool.and_eq_true, Bool.or_eq_true, Bool.or_eq_false_iff] at h2
      refine w_skip ?_
      refine thenQ_n ?_
      refine w_reg_seq 1152 1536 rfl (by simp) ?_
      refine r_p (by simp [h1, h2]; rfl) ?_
      refine r_p (by simp [h1, h2]; rfl) ?_
      refine r_p (by simp [h1, h2]; rfl) ?_
      refine r_p (by simp [h1, h2]; rfl) ?_
      refine r_p (by simp [h1, h2]; exact ⟨_, i_sub (by omega), rfl⟩) ?_
      refine r_p (by simp [h1, h2]; rfl) ?_
      refine r_nil ?_
      refine w_seq ?_
      refine w_reg_seq 1536 1664 rfl (by simp) ?_
      refine r_p (by simp [h1, h2]; rfl) ?_
      refine r_p (by simp [h1, h2]; rfl) ?_
      refine r_nil ?_
      refine w_case (by simp only [↓mk_get, ↓fr_eq, ↓fr_ne]; rfl) (fun h3 => ?_) (fun h3 => ?_)
      · try simp only [decide_eq_true_eq, decide_eq_false_iff_not, Bool.not_eq_true', Bool.not_eq_false', Bool.and_eq_true, Bool.or_eq_true, Bool.or_eq_false_iff] at h3
        refine w_reg_seq 1664 1728 rfl (by simp) ?_
        refine r_p (by simp [h1, h2, h3]; rfl) ?_
        refine r_nil ?_
        refine w_ret ?_
        refine thenQ_r ?_
        refine endQ_r (by simp [h1, h2, h3]; rfl) (.inl ⟨_, _, by simp [h1, h2, h3]; first | exact ⟨rfl, rfl⟩ | rfl, by simp, by simp [szBk, *]⟩)
      · try simp only [decide_eq_true_eq, decide_eq_false_iff_not, Bool.not_eq_true', Bool.not_eq_false', Bool.and_eq_true, Bool.or_eq_true, Bool.or_eq_false_iff] at h3
        refine w_skip ?_
        refine thenQ_n ?_
        refine w_reg_seq 1664 1792 rfl (by simp) ?_
        refine r_p (by simp [h1, h2, h3]; rfl) ?_
        refine r_p (by simp [h1, h2, h3]; rfl) ?_
        refine r_nil ?_
        refine w_ret ?_
        refine endQ_r (by simp [h1, h2, h3]; rfl) (.inl ⟨_, _, by simp [h1, h2, h3]; first | exact ⟨rfl, rfl⟩ | rfl, by simp, by simp [szBk, *]⟩)

theorem con42 (b : Bk) : Con Try.prog 42 [blk b] (.v (blk b)) := by
  refine con_of c42_is fun N => ?_
  refine w_reg_seq 0 128 rfl (by simp) ?_
  refine r_f (by simp; exact ⟨rfl, rfl⟩) ?_
  refine r_f (by simp; exact ⟨rfl, rfl⟩) ?_
  refine r_nil ?_
  refine w_reg_seq 128 192 rfl (by simp) ?_
  refine r_f (by simp; exact ⟨rfl, rfl⟩) ?_
  refine r_nil ?_
  refine w_reg_seq 192 448 rfl (by simp) ?_
  refine r_p (by simp; rfl) ?_
  refine r_p (by simp; rfl) ?_
  refine r_p (by simp; rfl) ?_
  refine r_f0 (by simp; exact ⟨rfl, rfl⟩) ?_
  refine r_nil ?_
  refine w_reg_seq 448 704 rfl (by simp) ?_
  refine r_p (by simp; rfl) ?_
  refine r_p (by simp; rfl) ?_
  refine r_p (by simp; rfl) ?_
  refine r_f0 (by simp; exact ⟨rfl, rfl⟩) ?_
  refine r_nil ?_
  refine w_reg_seq 704 960 rfl (by simp) ?_
  refine r_p (by simp; rfl) ?_
  refine r_p (by simp; rfl) ?_
  refine r_p (by simp; rfl) ?_
  refine r_f0 (by simp; exact ⟨rfl, rfl⟩) ?_
  refine r_nil ?_
  refine w_reg_seq 960 1088 rfl (by simp) ?_
  refine r_p (by simp; rfl) ?_
  refine r_f0 (by simp; exact ⟨rfl, rfl⟩) ?_
  refine r_nil ?_
  refine w_ret ?_
  refine endQ_r (by simp; rfl) (.inl ⟨_, _, by simp; first | exact ⟨rfl, rfl⟩ | rfl, by simp, by simp [*]⟩)

theorem con68 (b : Bk) : Con Try.prog 68 [blk b, blk b] (.v (.bool true)) := by
  refine con_of c68_is fun N => ?_
  refine w_reg_seq 0 192 rfl (by simp) ?_
  refine r_f (by simp; exact ⟨rfl, rfl⟩) ?_
  refine r_f (by simp; exact ⟨rfl, rfl⟩) ?_
  refine r_p (by simp; rfl) ?_
  refine r_nil ?_
  refine w_seq ?_
  refine w_reg_seq 192 512 rfl (by simp) ?_
  refine r_p (by simp; rfl) ?_
  refine r_p (by simp; rfl) ?_
  refine r_p (by simp; rfl) ?_
  refine r_p (by simp; rfl) ?_
  refine r_p (by simp; rfl) ?_
  refine r_nil ?_
  refine w_false (by simp) ?_
  refine w_skip ?_
  refine thenQ_n ?_
  refine w_seq ?_
  refine w_reg_seq 512 832 rfl (by simp) ?_
  refine r_p (by simp; rfl) ?_
  refine r_p (by simp; rfl) ?_
  refine r_p (by simp; rfl) ?_
  refine r_p (by simp; rfl) ?_
  refine r_p (by simp; rfl) ?_
  refine r_nil ?_
  refine w_false (by simp) ?_
  refine w_skip ?_
  refine thenQ_n ?_
  refine w_seq ?_
  refine w_reg_seq 832 1152 rfl (by simp) ?_
  refine r_p (by simp; rfl) ?_
  refine r_p (by simp; rfl) ?_
  refine r_p (by simp; rfl) ?_
  refine r_p (by simp; rfl) ?_
  refine r_p (by simp; rfl) ?_
  refine r_nil ?_
  refine w_false (by simp) ?_
  refine w_skip ?_
  refine thenQ_n ?_
  refine w_reg_seq 1152 1216 rfl (by simp) ?_
  refine r_p (by simp; rfl) ?_
  refine r_nil ?_
  refine w_ret ?_
  refine endQ_r (by simp; rfl) (.inl ⟨_, _, by simp; first | exact ⟨rfl, rfl⟩ | rfl, by simp, by simp [*]⟩)

theorem con66 (A B : List Bk) (hA : (A.length : Int) ≤ 9223372036854775807) : Con Try.prog 66 [.sl 3 (A.map blk), .sl 3 (B.map blk)] (.v (.bool (decide (A = B)))) := by
  refine con_of c66_is fun N => ?_
  refine w_reg_seq 0 64 rfl (by simp) ?_
  refine r_p (by simp; rfl) ?_
  refine r_nil ?_
  refine w_seq ?_
  refine w_reg_seq 64 384 rfl (by simp) ?_
  refine r_p (by simp; rfl) ?_
  refine r_p (by simp; rfl) ?_
  refine r_p (by simp; rfl) ?_
  refine r_p (by simp; rfl) ?_
  refine r_p (by simp; rfl) ?_
  refine r_nil ?_
  refine w_case (by simp only [↓mk_get, ↓fr_eq, ↓fr_ne]; rfl) (fun h1 => ?_) (fun h1 => ?_)
  · try simp only [decide_eq_true_eq, decide_eq_false_iff_not, Bool.not_eq_true', Bool.not_eq_false', Bool.and_eq_true, Bool.or_eq_true, Bool.or_eq_false_iff] at h1
    refine w_reg_seq 384 448 rfl (by simp) ?_
    refine r_p (by simp; rfl) ?_
    refine r_nil ?_
    refine w_ret ?_
    refine thenQ_r ?_
    refine endQ_r (by simp; rfl) (.inl ⟨_, _, by simp; first | exact ⟨rfl, rfl⟩ | rfl, by simp, by have : A ≠ B := (by rintro rfl; simp at h1); simp [this]⟩)
  · try simp only [decide_eq_true_eq, decide_eq_false_iff_not, Bool.not_eq_true', Bool.not_eq_false', Bool.and_eq_true, Bool.or_eq_true, Bool.or_eq_false_iff] at h1
    refine w_skip ?_
    refine thenQ_n ?_
    refine w_seq ?_
    refine w_reg_seq 384 448 rfl (by simp) ?_
    refine r_p (by simp; rfl) ?_
    refine r_nil ?_
    refine w_block ?_
    refine w_ren [0, 1, 5] [] 6400 (by simp; rfl) (by simp; try rfl) (by simp) (by simp) (by simp) ?_
    refine w_loop (ι := {p : Nat // p ≤ A.length ∧ A.take p = B.take p}) (fun p => mkS [(0, .val none (.sl 3 (A.map blk))), (1, .val none (.sl 3 (B.map blk))), (5, .val none (.int .i64 p.1))] (fo []) 6400) (fun p => A.length - p.1) ⟨0, by simp⟩ rfl ?_
    rintro ⟨i, ⟨hi1, hi2⟩⟩
    dsimp only at hi1 hi2 ⊢
    refine w_seq ?_
    refine w_reg_seq 6400 6656 rfl (by simp) ?_
    refine r_p (by simp; rfl) ?_
    refine r_p (by simp; rfl) ?_
    refine r_p (by simp; rfl) ?_
    refine r_p (by simp; rfl) ?_
    refine r_nil ?_
    refine w_case (by simp only [↓mk_get, ↓fr_eq, ↓fr_ne]; rfl) (fun h2 => ?_) (fun h2 => ?_)
    · try simp only [decide_eq_true_eq, decide_eq_false_iff_not, Bool.not_eq_true', Bool.not_eq_false', Bool.and_eq_true, Bool.or_eq_true, Bool.or_eq_false_iff] at h2
      refine w_skip ?_
      refine thenQ_n ?_
      refine w_seq ?_
      refine w_block ?_
      refine w_reg_seq 6656 7232 rfl (by simp) ?_
      refine r_p (by simp [h2]; rfl) ?_
      refine r_p (by simp [h2]; rfl) ?_
      refine r_p (by simp [h2]; rfl) ?_
      refine r_p (by simp [h2]; rfl) ?_
      refine r_p (by simp [h2]; rfl) ?_
      refine r_p (by simp [h2]; rfl) ?_
      have hb : i < B.length := by omega
      refine r_p (by simp [h2, hb]; rfl) ?_
      refine r_p (by simp [h2]; rfl) ?_
      refine r_p (by simp [h2]; rfl) ?_
      refine r_nil ?_
      refine w_case (by simp only [↓mk_get, ↓fr_eq, ↓fr_ne]; rfl) (fun h3 => ?_) (fun h3 => ?_)
      · try simp only [decide_eq_true_eq, decide_eq_false_iff_not, Bool.not_eq_true', Bool.not_eq_false', Bool.and_eq_true, Bool.or_eq_true, Bool.or_eq_false_iff] at h3
        refine w_reg_seq 7232 7296 rfl (by simp) ?_
        refine r_p (by simp [h2, h3]; rfl) ?_
        refine r_nil ?_
        refine w_ret ?_
        refine blockQ_r ?_
        refine thenQ_r ?_
        refine thenQ_r ?_
        refine blockQ_r ?_
        refine thenQ_r ?_
        refine endQ_r (by simp [h2, h3]; rfl) (.inl ⟨_, _, by simp [h2, h3]; first | exact ⟨rfl, rfl⟩ | rfl, by simp, by have : A ≠ B := (by rintro rfl; simp at h3); simp [this]⟩)
      · try simp only [decide_eq_true_eq, decide_eq_false_iff_not, Bool.not_eq_true', Bool.not_eq_false', Bool.and_eq_true, Bool.or_eq_true, Bool.or_eq_false_iff] at h3
        refine w_skip ?_
        refine blockQ_n ?_
        refine thenQ_n ?_
        refine w_reg 7232 7424 rfl (by simp) ?_
        refine r_p (by simp [h2, h3]; rfl) ?_
        refine r_p (by simp [h2, h3]; first | exact ⟨_, i_add (by omega), rfl⟩ | exact ⟨_, s_add (by first | omega | (simp; omega)), rfl⟩) ?_
        refine r_p (by simp [h2, h3]; rfl) ?_
        refine r_nil ?_
        refine thenQ_n ?_
        refine aw_ren [0, 1, 5] [] 6400 (by simp [h2, h3]; try rfl) (by simp; try rfl) (by simp) (by simp) (by simp) ⟨⟨i + 1, by have hab : A[i] = B[i] := (by simpa [Prod.ext_iff] using h3); exact ⟨by omega, by rw [List.take_succ_eq_append_getElem h2, List.take_succ_eq_append_getElem hb, hi2, hab]⟩⟩, rfl, by dsimp only; omega⟩
    · try simp only [decide_eq_true_eq, decide_eq_false_iff_not, Bool.not_eq_true', Bool.not_eq_false', Bool.and_eq_true, Bool.or_eq_true, Bool.or_eq_false_iff] at h2
      refine w_exit ?_
      refine thenQ_e ?_
      refine thenQ_e ?_
      refine blockQ_e ?_
      refine thenQ_n ?_
      refine w_reg_seq 6656 6720 rfl (by simp) ?_
      refine r_p (by simp [h2]; rfl) ?_
      refine r_nil ?_
      refine w_ret ?_
      refine endQ_r (by simp [h2]; rfl) (.inl ⟨_, _, by simp [h2]; first | exact ⟨rfl, rfl⟩ | rfl, by simp, by have e : A = B := (by have := hi2; rw [List.take_of_length_le (by omega), List.take_of_length_le (by omega)] at this; exact this); simp [e]⟩)

theorem con67 (A B : List Bk) (hA : (A.length : Int) ≤ 9223372036854775807) : Con Try.prog 67 [.sl 3 (A.map blk), .sl 3 (B.map blk)] (.v (.bool (decide (A = B)))) := by
  refine con_of c67_is fun N => ?_
  refine w_reg_seq 0 64 rfl (by simp) ?_
  refine r_p (by simp; rfl) ?_
  refine r_nil ?_
  refine w_seq ?_
  refine w_reg_seq 64 384 rfl (by simp) ?_
  refine r_p (by simp; rfl) ?_
  refine r_p (by simp; rfl) ?_
  refine r_p (by simp; rfl) ?_
  refine r_p (by simp; rfl) ?_
  refine r_p (by simp; rfl) ?_
  refine r_nil ?_
  refine w_case (by simp only [↓mk_get, ↓fr_eq, ↓fr_ne]; rfl) (fun h1 => ?_) (fun h1 => ?_)
  · try simp only [decide_eq_true_eq, decide_eq_false_iff_not, Bool.not_eq_true', Bool.not_eq_false', Bool.and_eq_true, Bool.or_eq_true, Bool.or_eq_false_iff] at h1
    refine w_reg_seq 384 448 rfl (by simp) ?_
    refine r_p (by simp; rfl) ?_
    refine r_nil ?_
    refine w_ret ?_
    refine thenQ_r ?_
    refine endQ_r (by simp; rfl) (.inl ⟨_, _, by simp; first | exact ⟨rfl, rfl⟩ | rfl, by simp, by have : A ≠ B := (by rintro rfl; simp at h1); simp [this]⟩)
  · try simp only [decide_eq_true_eq, decide_eq_false_iff_not, Bool.not_eq_true', Bool.not_eq_false', Bool.and_eq_true, Bool.or_eq_true, Bool.or_eq_false_iff] at h1
    refine w_skip ?_
    refine thenQ_n ?_
    refine w_seq ?_
    refine w_reg_seq 384 576 rfl (by simp) ?_
    refine r_p (by simp; rfl) ?_
    refine r_p (by simp; rfl) ?_
    refine r_p (by simp; rfl) ?_
    refine r_nil ?_
    refine w_block ?_
    refine w_ren [0, 1, 12, 13] [] 6400 (by simp; rfl) (by simp; try rfl) (by simp) (by simp) (by simp) ?_
    refine w_loop (ι := {p : Nat // p ≤ A.length ∧ A.take p = B.take p}) (fun p => mkS [(0, .val none (.sl 3 (A.map blk))), (1, .val none (.sl 3 (B.map blk))), (12, .val none (.int .i64 A.length)), (13, .val none (.int .i64 p.1))] (fo []) 6400) (fun p => A.length - p.1) ⟨0, by simp⟩ rfl ?_
    rintro ⟨i, ⟨hi1, hi2⟩⟩
    dsimp only at hi1 hi2 ⊢
    refine w_reg_seq 6400 6464 rfl (by simp) ?_
    refine r_p (by simp; rfl) ?_
    refine r_nil ?_
    refine w_seq ?_
    refine w_case (by simp only [↓mk_get, ↓fr_eq, ↓fr_ne]; rfl) (fun h2 => ?_) (fun h2 => ?_)
    · try simp only [decide_eq_true_eq, decide_eq_false_iff_not, Bool.not_eq_true', Bool.not_eq_false', Bool.and_eq_true, Bool.or_eq_true, Bool.or_eq_false_iff] at h2
      refine w_skip ?_
      refine thenQ_n ?_
      refine w_seq ?_
      refine w_block ?_
      refine w_reg_seq 6464 6592 rfl (by simp) ?_
      refine r_p (by simp [h2]; rfl) ?_
      refine r_p (by simp [h2]; rfl) ?_
      refine r_nil ?_
      refine w_reg_seq 6592 7168 rfl (by simp) ?_
      refine r_p (by simp [h2]; rfl) ?_
      refine r_p (by simp [h2]; rfl) ?_
      refine r_p (by simp [h2]; rfl) ?_
      refine r_p (by simp [h2]; rfl) ?_
      refine r_p (by simp [h2]; rfl) ?_
      refine r_p (by simp [h2]; rfl) ?_
      have hb : i < B.length := by omega
      refine r_p (by simp [h2, hb]; rfl) ?_
      refine r_p (by simp [h2]; rfl) ?_
      refine r_p (by simp [h2]; rfl) ?_
      refine r_nil ?_
      refine w_case (by simp only [↓mk_get, ↓fr_eq, ↓fr_ne]; rfl) (fun h3 => ?_) (fun h3 => ?_)
      · try simp only [decide_eq_true_eq, decide_eq_false_iff_not, Bool.not_eq_true', Bool.not_eq_false', Bool.and_eq_true, Bool.or_eq_true, Bool.or_eq_false_iff] at h3
        refine w_reg_seq 7168 7232 rfl (by simp) ?_
        refine r_p (by simp [h2, h3]; rfl) ?_
        refine r_nil ?_
        refine w_ret ?_
        refine blockQ_r ?_
        refine thenQ_r ?_
        refine thenQ_r ?_
        refine blockQ_r ?_
        refine thenQ_r ?_
        refine endQ_r (by simp [h2, h3]; rfl) (.inl ⟨_, _, by simp [h2, h3]; first | exact ⟨rfl, rfl⟩ | rfl, by simp, by have : A ≠ B := (by rintro rfl; simp at h3); simp [this]⟩)
      · try simp only [decide_eq_true_eq, decide_eq_false_iff_not, Bool.not_eq_true', Bool.not_eq_false', Bool.and_eq_true, Bool.or_eq_true, Bool.or_eq_false_iff] at h3
        refine w_skip ?_
        refine blockQ_n ?_
        refine thenQ_n ?_
        refine w_reg 7168 7296 rfl (by simp) ?_
        refine r_p (by simp [h2, h3]; first | exact ⟨_, i_add (by omega), rfl⟩ | exact ⟨_, s_add (by first | omega | (simp; omega)), rfl⟩) ?_
        refine r_p (by simp [h2, h3]; rfl) ?_
        refine r_nil ?_
        refine thenQ_n ?_
        refine aw_ren [0, 1, 12, 13] [] 6400 (by simp [h2, h3]; try rfl) (by simp; try rfl) (by simp) (by simp) (by simp) ⟨⟨i + 1, by have hab : A[i] = B[i] := (by simpa [Prod.ext_iff] using h3); exact ⟨by omega, by rw [List.take_succ_eq_append_getElem h2, List.take_succ_eq_append_getElem hb, hi2, hab]⟩⟩, rfl, by dsimp only; omega⟩
    · try simp only [decide_eq_true_eq, decide_eq_false_iff_not, Bool.not_eq_true', Bool.not_eq_false', Bool.and_eq_true, Bool.or_eq_true, Bool.or_eq_false_iff] at h2
      refine w_exit ?_
      refine thenQ_e ?_
      refine thenQ_e ?_
      refine blockQ_e ?_
      refine thenQ_n ?_
      refine w_reg_seq 6464 6528 rfl (by simp) ?_
      refine r_p (by simp [h2]; rfl) ?_
      refine r_nil ?_
      refine w_ret ?_
      refine endQ_r (by simp [h2]; rfl) (.inl ⟨_, _, by simp [h2]; first | exact ⟨rfl, rfl⟩ | rfl, by simp, by have e : A = B := (by have := hi2; rw [List.take_of_length_le (by omega), List.take_of_length_le (by omega)] at this; exact this); simp [e]⟩)

theorem con22 (A B : List Bk) (hA : (A.length : Int) ≤ 9223372036854775807) : Con Try.prog 22 [.sl 3 (A.map blk), .sl 3 (B.map blk)] (.v (.bool (decide (A = B)))) := by
  refine con_of c22_is fun N => ?_
  refine w_reg_seq 0 64 rfl (by simp) ?_
  refine r_p (by simp; rfl) ?_
  refine r_nil ?_
  refine w_reg_seq 64 320 rfl (by simp) ?_
  refine r_p (by simp; rfl) ?_
  refine r_p (by simp; rfl) ?_
  refine r_c false (con66 A B hA) c66_ok (rfl) (by simp; exact ⟨rfl, rfl⟩) ?_
  refine r_p (by simp; rfl) ?_
  refine r_nil ?_
  refine w_ret ?_
  refine endQ_r (by simp; rfl) (.inl ⟨_, _, by simp; first | exact ⟨rfl, rfl⟩ | rfl, by simp, by simp [*]⟩)

theorem con24 (A B : List Bk) (hA : (A.length : Int) ≤ 9223372036854775807) : Con Try.prog 24 [.sl 3 (A.map blk), .sl 3 (B.map blk)] (.v (.bool (decide (A = B)))) := by
  refine con_of c24_is fun N => ?_
  refine w_reg_seq 0 64 rfl (by simp) ?_
  refine r_p (by simp; rfl) ?_
  refine r_nil ?_
  refine w_reg_seq 64 320 rfl (by simp) ?_
  refine r_p (by simp; rfl) ?_
  refine r_p (by simp; rfl) ?_
  refine r_c false (con67 A B hA) c67_ok (rfl) (by simp; exact ⟨rfl, rfl⟩) ?_
  refine r_p (by simp; rfl) ?_
  refine r_nil ?_
  refine w_ret ?_
  refine endQ_r (by simp; rfl) (.inl ⟨_, _, by simp; first | exact ⟨rfl, rfl⟩ | rfl, by simp, by simp [*]⟩)

theorem con21 (A : List Bk) (hA : ∀ b ∈ A, b.ok) (hl : A.length ≤ 9223372036854775807) (l : Int) (h0 : 0 ≤ l) (hB : l ≤ 1048576) : Con Try.prog 21 [.sl 3 (A.map blk), .int .i64 l] (.v (.int .i64 (szS szB (A.map blk) l))) := by
  refine szS_con c21_is c40_ok szB (A.map blk) l h0 hB (by simpa using hl) ?_ ?_ ?_
  · intro x hx; obtain ⟨b, hb, rfl⟩ := List.mem_map.1 hx; rfl
  · intro x hx l h; obtain ⟨b, hb, rfl⟩ := List.mem_map.1 hx; exact szBk_le h
  · intro x hx l h1 h2; obtain ⟨b, hb, rfl⟩ := List.mem_map.1 hx; exact con40 b (hA b hb) l h1 h2
theorem szB_le (A : List Bk) : ∀ x ∈ A.map blk, ∀ l, 0 ≤ l → szB x l ≤ l := by
  intro x hx l h; obtain ⟨b, hb, rfl⟩ := List.mem_map.1 hx; exact szBk_le h
theorem con23 (A : List Bk) (hl : (A.length : Int) ≤ 1048576) : Con Try.prog 23 [.sl 3 (A.map blk)] (.r true 3 (A.map blk)) := by
  refine toS_con c23_is c42_ok (A.map blk) (by simp; omega) (by simp; omega) ?_ ?_
  · intro x hx; obtain ⟨b, hb, rfl⟩ := List.mem_map.1 hx; exact ⟨rfl, rfl, rfl, rfl⟩
  · intro x hx; obtain ⟨b, hb, rfl⟩ := List.mem_map.1 hx; exact con42 b
theorem con25 (A : List Bk) (hl : (A.length : Int) ≤ 1048576) : Con Try.prog 25 [.sl 3 (A.map blk), .sl 3 (A.map blk)] (.v (.bool true)) := by
  refine eqS_con c25_is c68_ok (A.map blk) (by simp; omega) ?_ ?_
  · intro x hx; obtain ⟨b, hb, rfl⟩ := List.mem_map.1 hx; rfl
  · intro x hx; obtain ⟨b, hb, rfl⟩ := List.mem_map.1 hx; exact con68 b

theorem con5 (A B : List Bk) (hA : ∀ b ∈ A, b.ok) (hB : ∀ b ∈ B, b.ok) (hlA : A.length ≤ 9223372036854775807) (hlB : B.length ≤ 9223372036854775807) : Con Try.prog 5 [.sl 3 (A.map blk), .sl 3 (B.map blk)] (.v (.bool true)) := by
  refine con_of c5_is fun N => ?_
  refine w_reg_seq 0 64 rfl (by simp) ?_
  refine r_p (by simp; rfl) ?_
  refine r_nil ?_
  refine w_reg_seq 64 128 rfl (by simp) ?_
  refine r_p (by simp; rfl) ?_
  refine r_nil ?_
  refine w_reg_seq 128 384 rfl (by simp) ?_
  refine r_p (by simp; rfl) ?_
  refine r_p (by simp; rfl) ?_
  refine r_c false (con21 A hA hlA _ (by omega) (by omega)) c21_ok (rfl) (by simp; exact ⟨rfl, rfl⟩) ?_
  refine r_p (by simp; rfl) ?_
  refine r_nil ?_
  refine w_seq ?_
  refine w_reg_seq 384 512 rfl (by simp) ?_
  refine r_p (by simp; rfl) ?_
  refine r_p (by simp; rfl) ?_
  refine r_nil ?_
  refine w_case (by simp only [↓mk_get, ↓fr_eq, ↓fr_ne]; rfl) (fun h1 => ?_) (fun h1 => ?_)
  · try simp only [decide_eq_true_eq, decide_eq_false_iff_not, Bool.not_eq_true', Bool.not_eq_false', Bool.and_eq_true, Bool.or_eq_true, Bool.or_eq_false_iff] at h1
    refine w_reg_seq 512 576 rfl (by simp) ?_
    refine r_p (by simp [h1]; rfl) ?_
    refine r_nil ?_
    refine w_ret ?_
    refine thenQ_r ?_
    refine endQ_r (by simp [h1]; rfl) (.inl ⟨_, _, by simp [h1]; first | exact ⟨rfl, rfl⟩ | rfl, by simp, by simp [*]⟩)
  · try simp only [decide_eq_true_eq, decide_eq_false_iff_not, Bool.not_eq_true', Bool.not_eq_false', Bool.and_eq_true, Bool.or_eq_true, Bool.or_eq_false_iff] at h1
    refine w_skip ?_
    refine thenQ_n ?_
    refine w_reg_seq 512 768 rfl (by simp) ?_
    refine r_p (by simp [h1]; rfl) ?_
    refine r_p (by simp [h1]; rfl) ?_
    refine r_c false (con21 B hB hlB _ (by omega) (szS_le (szB_le A) (by omega))) c21_ok (rfl) (by simp; exact ⟨rfl, rfl⟩) ?_
    refine r_p (by simp [h1]; rfl) ?_
    refine r_nil ?_
    refine w_seq ?_
    refine w_reg_seq 768 896 rfl (by simp) ?_
    refine r_p (by simp [h1]; rfl) ?_
    refine r_p (by simp [h1]; rfl) ?_
    refine r_nil ?_
    refine w_case (by simp only [↓mk_get, ↓fr_eq, ↓fr_ne]; rfl) (fun h2 => ?_) (fun h2 => ?_)
    · try simp only [decide_eq_true_eq, decide_eq_false_iff_not, Bool.not_eq_true', Bool.not_eq_false', Bool.and_eq_true, Bool.or_eq_true, Bool.or_eq_false_iff] at h2
      refine w_reg_seq 896 960 rfl (by simp) ?_
      refine r_p (by simp [h1, h2]; rfl) ?_
      refine r_nil ?_
      refine w_ret ?_
      refine thenQ_r ?_
      refine endQ_r (by simp [h1, h2]; rfl) (.inl ⟨_, _, by simp [h1, h2]; first | exact ⟨rfl, rfl⟩ | rfl, by simp, by simp [*]⟩)
    · try simp only [decide_eq_true_eq, decide_eq_false_iff_not, Bool.not_eq_true', Bool.not_eq_false', Bool.and_eq_true, Bool.or_eq_true, Bool.or_eq_false_iff] at h2
      refine w_skip ?_
      refine thenQ_n ?_
      refine w_reg_seq 896 1280 rfl (by simp) ?_
      refine r_p (by simp [h1, h2]; rfl) ?_
      refine r_c false (con23 A (by have := szS_len h1; rw [List.length_map] at this; omega)) c23_ok (rfl) (by simp; exact ⟨rfl, rfl⟩) ?_
      refine r_p (by simp [h1, h2]; rfl) ?_
      refine r_c false (con23 B (by have := szS_len h2; have h9 := szS_le (szB_le A) (l := 1048576) (by omega); rw [List.length_map] at this; omega)) c23_ok (rfl) (by simp; exact ⟨rfl, rfl⟩) ?_
      refine r_c true (con22 A B (by omega)) c22_ok (by simp [List.take_of_length_le]) (by simp; exact ⟨rfl, rfl⟩) ?_
      refine r_p (by simp [h1, h2]; rfl) ?_
      refine r_nil ?_
      refine w_reg_seq 1280 1472 rfl (by simp) ?_
      refine r_p (by simp [h1, h2]; rfl) ?_
      refine r_c false (con23 A (by have := szS_len h1; rw [List.length_map] at this; omega)) c23_ok (rfl) (by simp; exact ⟨rfl, rfl⟩) ?_
      refine r_p (by simp [h1, h2]; rfl) ?_
      refine r_nil ?_
      refine w_reg_seq 1472 1664 rfl (by simp) ?_
      refine r_p (by simp [h1, h2]; rfl) ?_
      refine r_c false (con23 B (by have := szS_len h2; have h9 := szS_le (szB_le A) (l := 1048576) (by omega); rw [List.length_map] at this; omega)) c23_ok (rfl) (by simp; exact ⟨rfl, rfl⟩) ?_
      refine r_p (by simp [h1, h2]; rfl) ?_
      refine r_nil ?_
      refine w_reg_seq 1664 1920 rfl (by simp) ?_
      refine r_p (by simp [h1, h2]; rfl) ?_
      refine r_p (by simp [h1, h2]; rfl) ?_
      refine r_c true (con24 A B (by omega)) c24_ok (by simp [List.take_of_length_le]) (by simp; exact ⟨rfl, rfl⟩) ?_
      refine r_p (by simp [h1, h2]; rfl) ?_
      refine r_nil ?_
      refine w_seq ?_
      refine w_reg_seq 1920 2112 rfl (by simp) ?_
      refine r_p (by simp [h1, h2]; rfl) ?_
      refine r_p (by simp [h1, h2]; rfl) ?_
      refine r_p (by simp [h1, h2]; rfl) ?_
      refine r_nil ?_
      refine w_false (by simp [h1, h2]) ?_
      refine w_skip ?_
      refine thenQ_n ?_
      refine w_seq ?_
      refine w_reg_seq 2112 2432 rfl (by simp) ?_
      refine r_p (by simp [h1, h2]; rfl) ?_
      refine r_p (by simp [h1, h2]; rfl) ?_
      refine r_c false (con23 A (by have := szS_len h1; rw [List.length_map] at this; omega)) c23_ok (rfl) (by simp; exact ⟨rfl, rfl⟩) ?_
      refine r_c true (con25 A (by have := szS_len h1; rw [List.length_map] at this; omega)) c25_ok (by simp [List.take_of_length_le]) (by simp; exact ⟨rfl, rfl⟩) ?_
      refine r_p (by simp [h1, h2]; rfl) ?_
      refine r_nil ?_
      refine w_false (by simp [h1, h2]) ?_
      refine w_skip ?_
      refine thenQ_n ?_
      refine w_seq ?_
      refine w_reg_seq 2432 2752 rfl (by simp) ?_
      refine r_p (by simp [h1, h2]; rfl) ?_
      refine r_p (by simp [h1, h2]; rfl) ?_
      refine r_c false (con23 B (by have := szS_len h2; have h9 := szS_le (szB_le A) (l := 1048576) (by omega); rw [List.length_map] at this; omega)) c23_ok (rfl) (by simp; exact ⟨rfl, rfl⟩) ?_
      refine r_c true (con25 B (by have := szS_len h2; have h9 := szS_le (szB_le A) (l := 1048576) (by omega); rw [List.length_map] at this; omega)) c25_ok (by simp [List.take_of_length_le]) (by simp; exact ⟨rfl, rfl⟩) ?_
      refine r_p (by simp [h1, h2]; rfl) ?_
      refine r_nil ?_
      refine w_false (by simp [h1, h2]) ?_
      refine w_skip ?_
      refine thenQ_n ?_
      refine w_reg_seq 2752 2816 rfl (by simp) ?_
      refine r_p (by simp [h1, h2]; rfl) ?_
      refine r_nil ?_
      refine w_ret ?_
      refine endQ_r (by simp [h1, h2]; rfl) (.inl ⟨_, _, by simp [h1, h2]; first | exact ⟨rfl, rfl⟩ | rfl, by simp, by simp [*]⟩)

theorem blks {L : List V} (h : ∀ x ∈ L, (if true = true then x = .agg x.cells else V.one x = true) ∧ okCs [.str, .str, .str] x.cells) : ∃ A : List Bk, L = A.map blk ∧ ∀ b ∈ A, b.ok := by
  induction L with
  | nil => exact ⟨[], rfl, by simp⟩
  | cons x L ih =>
    obtain ⟨A, rfl, hA⟩ := ih (fun y hy => h y (by simp [hy]))
    obtain ⟨h1, h2⟩ := h x (by simp)
    simp only [okCs, okC, if_true] at h1 h2
    obtain ⟨v0, l0, hc, ⟨k, rfl, hk⟩, v1, l1, rfl, ⟨w, rfl, hw⟩, v2, l2, rfl, ⟨t, rfl, ht⟩, rfl⟩ := h2
    refine ⟨(k, w, t) :: A, by simp only [List.map_cons, blk]; rw [h1, hc], ?_⟩
    intro b hb
    rcases List.mem_cons.1 hb with rfl | hb
    · exact ⟨hk, hw, ht⟩
    · exact hA b hb
theorem law5 (x y : V) (hx : okV false [.sl 3 true [.str, .str, .str]] x) (hy : okV false [.sl 3 true [.str, .str, .str]] y) : Con Try.prog 5 [x, y] (.v (.bool true)) := by
  have key : ∀ z, okV false [.sl 3 true [.str, .str, .str]] z → ∃ A : List Bk, z = .sl 3 (A.map blk) ∧ (∀ b ∈ A, b.ok) ∧ A.length ≤ 9223372036854775807 := by
    rintro z ⟨h1, h2⟩
    have hz : z.cells = [z] := by cases z <;> first | rfl | simp [V.one] at h1
    rw [hz] at h2
    simp only [okCs, okC] at h2
    obtain ⟨v, l, e, ⟨L, rfl, hl, hL⟩, rfl⟩ := h2
    obtain ⟨A, rfl, hA⟩ := blks hL
    simp only [List.cons.injEq, and_true] at e
    exact ⟨A, e, hA, by rw [List.length_map] at hl; exact hl⟩
  obtain ⟨A, rfl, hA, lA⟩ := key x hx
  obtain ⟨B, rfl, hB, lB⟩ := key y hy
  exact con5 A B hA hB lA lB

end Go.Ab
