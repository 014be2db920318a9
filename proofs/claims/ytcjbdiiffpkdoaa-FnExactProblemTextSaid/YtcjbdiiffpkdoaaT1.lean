import Derived.Test.YtcjbdiiffpkdoaaA23
import Derived.Test.YtcjbdiiffpkdoaaProg
import Derived.KernelRfl
set_option linter.unusedVariables false
set_option linter.unusedSimpArgs false
namespace Go.Ab
open Go.RowKit Go.Proofs

def c95 : MC := (.seq (.reg [⟨(some 6), none, (.p (.mv (.c (.bool false))))⟩]) (.seq (.reg [⟨(some 7), none, (.p (.mv (.t 0)))⟩, ⟨(some 8), none, (.p (.mv (.t 1)))⟩, ⟨(some 9), none, (.p (.bin .geq (.t 7) (.t 8)))⟩, ⟨(some 10), none, (.p (.mv (.t 9)))⟩, ⟨(some 11), (some (10, true)), (.p (.mv (.t 0)))⟩, ⟨(some 12), (some (10, true)), (.p (.mv (.t 2)))⟩, ⟨(some 13), (some (10, true)), (.p (.bin .leq (.t 11) (.t 12)))⟩, ⟨(some 14), none, (.p (.pick (.t 10) (.t 13) (.c (.bool false))))⟩, ⟨(some 6), none, (.p (.mv (.t 14)))⟩]) .ret))
theorem c95_is : compFn Try.prog 95 = some (c95, [(.tmp 6)]) := by kernel_rfl
theorem c95_ok : okFn Try.prog 95 = true := by kernel_rfl

def c63 : MC := (.seq (.reg [⟨(some 2), none, (.p (.mv (.c (.bool false))))⟩]) (.seq (.reg [⟨(some 3), none, (.p (.mv (.t 0)))⟩, ⟨(some 4), none, (.call 95 [(.t 3), (.c (.int .i64 1)), (.c (.int .i64 5))])⟩, ⟨(some 2), none, (.p (.mv (.t 4)))⟩]) .ret))
theorem c63_is : compFn Try.prog 63 = some (c63, [(.tmp 2)]) := by kernel_rfl
theorem c63_ok : okFn Try.prog 63 = true := by kernel_rfl

def c64 : MC := (.seq (.reg [⟨(some 0), none, (.f (.nilrow 1))⟩]) (.seq (.reg [⟨(some 1), none, (.f (.bsl 1 [(.c (.str [])), (.c (.str [109, 111, 118, 101])), (.c (.str [103, 114, 97, 109, 109, 97, 114])), (.c (.str [99, 97, 100, 101, 110, 99, 101])), (.c (.str [110, 111, 116, 97, 116, 105, 111, 110])), (.c (.str [99, 108, 97, 115, 104]))]))⟩, ⟨(some 0), none, (.p (.mv (.t 1)))⟩]) .ret))
theorem c64_is : compFn Try.prog 64 = some (c64, [(.tmp 0)]) := by kernel_rfl
theorem c64_ok : okFn Try.prog 64 = true := by kernel_rfl

def c65 : MC := (.seq (.reg [⟨(some 6), none, (.p (.mv (.c (.bool false))))⟩]) (.seq (.reg [⟨(some 7), none, (.p (.mv (.t 0)))⟩, ⟨(some 8), none, (.p (.mv (.t 1)))⟩, ⟨(some 9), none, (.p (.bin .geq (.t 7) (.t 8)))⟩, ⟨(some 10), none, (.p (.mv (.t 9)))⟩, ⟨(some 11), (some (10, true)), (.p (.mv (.t 0)))⟩, ⟨(some 12), (some (10, true)), (.p (.mv (.t 2)))⟩, ⟨(some 13), (some (10, true)), (.p (.bin .leq (.t 11) (.t 12)))⟩, ⟨(some 14), none, (.p (.pick (.t 10) (.t 13) (.c (.bool false))))⟩, ⟨(some 6), none, (.p (.mv (.t 14)))⟩]) .ret))
theorem c65_is : compFn Try.prog 65 = some (c65, [(.tmp 6)]) := by kernel_rfl
theorem c65_ok : okFn Try.prog 65 = true := by kernel_rfl

def c15 : MC := (.seq (.reg [⟨(some 2), none, (.p (.mv (.c (.str []))))⟩]) (.seq (.seq (.reg [⟨(some 3), none, (.p (.mv (.t 0)))⟩, ⟨(some 4), none, (.call 63 [(.t 3)])⟩, ⟨(some 5), none, (.p (.not (.t 4)))⟩]) (.cond (.t 5) (.seq (.reg [⟨(some 2), none, (.p (.mv (.c (.str []))))⟩]) .ret) .skip)) (.seq (.reg [⟨(some 6), none, (.call 64 [])⟩, ⟨(some 7), none, (.p (.mv (.t 0)))⟩, ⟨(some 8), none, (.p (.iad (.t 6) (.t 7) 1))⟩, ⟨(some 9), none, (.p (.ld (.t 8) 1 false))⟩, ⟨(some 2), none, (.p (.mv (.t 9)))⟩]) .ret)))
theorem c15_is : compFn Try.prog 15 = some (c15, [(.tmp 2)]) := by kernel_rfl
theorem c15_ok : okFn Try.prog 15 = true := by kernel_rfl

def c16 : MC := (.seq (.reg [⟨(some 2), none, (.p (.mv (.c (.str []))))⟩]) (.seq (.seq (.reg [⟨(some 3), none, (.p (.mv (.t 0)))⟩, ⟨(some 4), none, (.call 65 [(.t 3), (.c (.int .i64 1)), (.c (.int .i64 5))])⟩, ⟨(some 5), none, (.p (.not (.t 4)))⟩]) (.cond (.t 5) (.seq (.reg [⟨(some 2), none, (.p (.mv (.c (.str []))))⟩]) .ret) .skip)) (.seq (.reg [⟨(some 6), none, (.f (.bld [((.str []), (0, false)), ((.str []), (0, true)), ((.str []), (0, true)), ((.str []), (0, true)), ((.str []), (0, true)), ((.str []), (0, true))] [(1, (1, (.c (.str [109, 111, 118, 101])))), (2, (1, (.c (.str [103, 114, 97, 109, 109, 97, 114])))), (3, (1, (.c (.str [99, 97, 100, 101, 110, 99, 101])))), (4, (1, (.c (.str [110, 111, 116, 97, 116, 105, 111, 110])))), (5, (1, (.c (.str [99, 108, 97, 115, 104]))))]))⟩, ⟨(some 7), none, (.p (.mv (.t 0)))⟩, ⟨(some 8), none, (.p (.ixa (.t 6) (.t 7) 6 1 false))⟩, ⟨(some 2), none, (.p (.mv (.t 8)))⟩]) .ret)))
theorem c16_is : compFn Try.prog 16 = some (c16, [(.tmp 2)]) := by kernel_rfl
theorem c16_ok : okFn Try.prog 16 = true := by kernel_rfl

def c3 : MC := (.seq (.reg [⟨(some 2), none, (.p (.mv (.c (.bool false))))⟩]) (.seq (.reg [⟨(some 5), none, (.p (.mv (.t 0)))⟩, ⟨(some 6), none, (.call 15 [(.t 5)])⟩, ⟨(some 3), none, (.p (.mv (.t 6)))⟩]) (.seq (.reg [⟨(some 7), none, (.p (.mv (.t 0)))⟩, ⟨(some 8), none, (.call 16 [(.t 7)])⟩, ⟨(some 4), none, (.p (.mv (.t 8)))⟩]) (.seq (.seq (.reg [⟨(some 9), none, (.p (.mv (.t 4)))⟩, ⟨(some 10), none, (.p (.mv (.t 3)))⟩, ⟨(some 11), none, (.p (.bin .neq (.t 9) (.t 10)))⟩]) (.cond (.t 11) (.seq (.reg [⟨(some 2), none, (.p (.mv (.c (.bool false))))⟩]) .ret) .skip)) (.seq (.reg [⟨(some 2), none, (.p (.mv (.c (.bool true))))⟩]) .ret)))))
theorem c3_is : compFn Try.prog 3 = some (c3, [(.tmp 2)]) := by kernel_rfl
theorem c3_ok : okFn Try.prog 3 = true := by kernel_rfl

def names : List (List UInt8) := [[], [109, 111, 118, 101], [103, 114, 97, 109, 109, 97, 114], [99, 97, 100, 101, 110, 99, 101], [110, 111, 116, 97, 116, 105, 111, 110], [99, 108, 97, 115, 104]]
def nameOf (k : Int) : List UInt8 := if 1 ≤ k ∧ k ≤ 5 then names.getD k.toNat [] else []
theorem five {k : Int} {p : Prop} (h0 : ¬ (1 ≤ k ∧ k ≤ 5) → p) (h1 : k = 1 → p) (h2 : k = 2 → p) (h3 : k = 3 → p) (h4 : k = 4 → p) (h5 : k = 5 → p) : p := by
  by_cases h : 1 ≤ k ∧ k ≤ 5
  · have : k = 1 ∨ k = 2 ∨ k = 3 ∨ k = 4 ∨ k = 5 := by omega
    rcases this with e | e | e | e | e
    · exact h1 e
    · exact h2 e
    · exact h3 e
    · exact h4 e
    · exact h5 e
  · exact h0 h

theorem con65 (a b c : Int) : Con Try.prog 65 [.int .i64 a, .int .i64 b, .int .i64 c] (.v (.bool (decide (b ≤ a) && decide (a ≤ c)))) := by
  refine con_of c65_is fun N => ?_
  refine w_reg_seq 0 64 rfl rfl ?_
  refine r_p (by simp; rfl) ?_
  refine r_nil ?_
  refine w_reg_seq 64 640 rfl rfl ?_
  refine r_p (by simp; rfl) ?_
  refine r_p (by simp; rfl) ?_
  refine r_p (by simp; rfl) ?_
  refine r_p (by simp; rfl) ?_
  refine r_case 10 (by simp; rfl) (fun g1 => ?_) (fun g1 => ?_)
  · try simp only [decide_eq_true_eq, decide_eq_false_iff_not, Bool.not_eq_true', Bool.not_eq_false', Bool.and_eq_true, Bool.or_eq_true, Bool.or_eq_false_iff] at g1
    refine r_pg (by simp [g1]) (by simp [g1]; rfl) ?_
    refine r_pg (by simp [g1]) (by simp [g1]; rfl) ?_
    refine r_pg (by simp [g1]) (by simp [g1]; rfl) ?_
    refine r_p (by simp [g1]; rfl) ?_
    refine r_p (by simp [g1]; rfl) ?_
    refine r_nil ?_
    refine w_ret ?_
    refine endQ_r (by simp [g1]; rfl) (.inl ⟨_, _, by simp [g1]; first | exact ⟨rfl, rfl⟩ | rfl, by simp, by simp [*]⟩)
  · try simp only [decide_eq_true_eq, decide_eq_false_iff_not, Bool.not_eq_true', Bool.not_eq_false', Bool.and_eq_true, Bool.or_eq_true, Bool.or_eq_false_iff] at g1
    refine r_no (by simp [g1]) ?_
    refine r_no (by simp [g1]) ?_
    refine r_no (by simp [g1]) ?_
    refine r_p (by simp [g1]; rfl) ?_
    refine r_p (by simp [g1]; rfl) ?_
    refine r_nil ?_
    refine w_ret ?_
    refine endQ_r (by simp [g1]; rfl) (.inl ⟨_, _, by simp [g1]; first | exact ⟨rfl, rfl⟩ | rfl, by simp, by simp [*]⟩)

theorem con95 (a b c : Int) : Con Try.prog 95 [.int .i64 a, .int .i64 b, .int .i64 c] (.v (.bool (decide (b ≤ a) && decide (a ≤ c)))) := by
  refine con_of c95_is fun N => ?_
  refine w_reg_seq 0 64 rfl rfl ?_
  refine r_p (by simp; rfl) ?_
  refine r_nil ?_
  refine w_reg_seq 64 640 rfl rfl ?_
  refine r_p (by simp; rfl) ?_
  refine r_p (by simp; rfl) ?_
  refine r_p (by simp; rfl) ?_
  refine r_p (by simp; rfl) ?_
  refine r_case 10 (by simp; rfl) (fun g1 => ?_) (fun g1 => ?_)
  · try simp only [decide_eq_true_eq, decide_eq_false_iff_not, Bool.not_eq_true', Bool.not_eq_false', Bool.and_eq_true, Bool.or_eq_true, Bool.or_eq_false_iff] at g1
    refine r_pg (by simp [g1]) (by simp [g1]; rfl) ?_
    refine r_pg (by simp [g1]) (by simp [g1]; rfl) ?_
    refine r_pg (by simp [g1]) (by simp [g1]; rfl) ?_
    refine r_p (by simp [g1]; rfl) ?_
    refine r_p (by simp [g1]; rfl) ?_
    refine r_nil ?_
    refine w_ret ?_
    refine endQ_r (by simp [g1]; rfl) (.inl ⟨_, _, by simp [g1]; first | exact ⟨rfl, rfl⟩ | rfl, by simp, by simp [*]⟩)
  · try simp only [decide_eq_true_eq, decide_eq_false_iff_not, Bool.not_eq_true', Bool.not_eq_false', Bool.and_eq_true, Bool.or_eq_true, Bool.or_eq_false_iff] at g1
    refine r_no (by simp [g1]) ?_
    refine r_no (by simp [g1]) ?_
    refine r_no (by simp [g1]) ?_
    refine r_p (by simp [g1]; rfl) ?_
    refine r_p (by simp [g1]; rfl) ?_
    refine r_nil ?_
    refine w_ret ?_
    refine endQ_r (by simp [g1]; rfl) (.inl ⟨_, _, by simp [g1]; first | exact ⟨rfl, rfl⟩ | rfl, by simp, by simp [*]⟩)

theorem con63 (k : Int) : Con Try.prog 63 [.int .i64 k] (.v (.bool (decide (1 ≤ k) && decide (k ≤ 5)))) := by
  refine con_of c63_is fun N => ?_
  refine w_reg_seq 0 64 rfl rfl ?_
  refine r_p (by simp; rfl) ?_
  refine r_nil ?_
  refine w_reg_seq 64 256 rfl rfl ?_
  refine r_p (by simp; rfl) ?_
  refine r_c false (con95 _ _ _) c95_ok rfl (by simp; exact ⟨rfl, rfl⟩) ?_
  refine r_p (by simp; rfl) ?_
  refine r_nil ?_
  refine w_ret ?_
  refine endQ_r (by simp; rfl) (.inl ⟨_, _, by simp; first | exact ⟨rfl, rfl⟩ | rfl, by simp, by simp [*]⟩)

theorem con64 : Con Try.prog 64 [] (.r true 1 (names.map V.str)) := by
  refine con_of c64_is fun N => ?_
  refine w_reg_seq 0 64 rfl rfl ?_
  refine r_f (by simp; exact ⟨rfl, rfl⟩) ?_
  refine r_nil ?_
  refine w_reg_seq 64 192 rfl rfl ?_
  refine r_f (by simp; exact ⟨rfl, rfl⟩) ?_
  refine r_p (by simp; rfl) ?_
  refine r_nil ?_
  refine w_ret ?_
  refine endQ_r (by simp; rfl) (.inl ⟨_, _, by simp; first | exact ⟨rfl, rfl⟩ | rfl, by simp, by simp [names]⟩)

theorem con16_1 : Con Try.prog 16 [.int .i64 1] (.v (.str (nameOf 1))) := by
  refine con_of c16_is fun N => ?_
  refine w_reg_seq 0 64 rfl rfl ?_
  refine r_p (by simp [names]; rfl) ?_
  refine r_nil ?_
  refine w_seq ?_
  refine w_reg_seq 64 256 rfl rfl ?_
  refine r_p (by simp [names]; rfl) ?_
  refine r_c false (con65 _ _ _) c65_ok rfl (by simp; exact ⟨rfl, rfl⟩) ?_
  refine r_p (by simp [names]; rfl) ?_
  refine r_nil ?_
  refine w_false (by simp [names]) ?_
  refine w_skip ?_
  refine thenQ_n ?_
  refine w_reg_seq 256 512 rfl rfl ?_
  refine r_f (by simp [names]; exact ⟨rfl, rfl⟩) ?_
  refine r_p (by simp [names]; rfl) ?_
  refine r_p (by simp [names]; rfl) ?_
  refine r_p (by simp [names]; rfl) ?_
  refine r_nil ?_
  refine w_ret ?_
  refine endQ_r (by simp [names]; rfl) (.inl ⟨_, _, by simp [names]; first | exact ⟨rfl, rfl⟩ | rfl, by simp, by simp [nameOf, names]⟩)

theorem con16_2 : Con Try.prog 16 [.int .i64 2] (.v (.str (nameOf 2))) := by
  refine con_of c16_is fun N => ?_
  refine w_reg_seq 0 64 rfl rfl ?_
  refine r_p (by simp [names]; rfl) ?_
  refine r_nil ?_
  refine w_seq ?_
  refine w_reg_seq 64 256 rfl rfl ?_
  refine r_p (by simp [names]; rfl) ?_
  refine r_c false (con65 _ _ _) c65_ok rfl (by simp; exact ⟨rfl, rfl⟩) ?_
  refine r_p (by simp [names]; rfl) ?_
  refine r_nil ?_
  refine w_false (by simp [names]) ?_
  refine w_skip ?_
  refine thenQ_n ?_
  refine w_reg_seq 256 512 rfl rfl ?_
  refine r_f (by simp [names]; exact ⟨rfl, rfl⟩) ?_
  refine r_p (by simp [names]; rfl) ?_
  refine r_p (by simp [names]; rfl) ?_
  refine r_p (by simp [names]; rfl) ?_
  refine r_nil ?_
  refine w_ret ?_
  refine endQ_r (by simp [names]; rfl) (.inl ⟨_, _, by simp [names]; first | exact ⟨rfl, rfl⟩ | rfl, by simp, by simp [nameOf, names]⟩)

theorem con16_3 : Con Try.prog 16 [.int .i64 3] (.v (.str (nameOf 3))) := by
  refine con_of c16_is fun N => ?_
  refine w_reg_seq 0 64 rfl rfl ?_
  refine r_p (by simp [names]; rfl) ?_
  refine r_nil ?_
  refine w_seq ?_
  refine w_reg_seq 64 256 rfl rfl ?_
  refine r_p (by simp [names]; rfl) ?_
  refine r_c false (con65 _ _ _) c65_ok rfl (by simp; exact ⟨rfl, rfl⟩) ?_
  refine r_p (by simp [names]; rfl) ?_
  refine r_nil ?_
  refine w_false (by simp [names]) ?_
  refine w_skip ?_
  refine thenQ_n ?_
  refine w_reg_seq 256 512 rfl rfl ?_
  refine r_f (by simp [names]; exact ⟨rfl, rfl⟩) ?_
  refine r_p (by simp [names]; rfl) ?_
  refine r_p (by simp [names]; rfl) ?_
  refine r_p (by simp [names]; rfl) ?_
  refine r_nil ?_
  refine w_ret ?_
  refine endQ_r (by simp [names]; rfl) (.inl ⟨_, _, by simp [names]; first | exact ⟨rfl, rfl⟩ | rfl, by simp, by simp [nameOf, names]⟩)

theorem con16_4 : Con Try.prog 16 [.int .i64 4] (.v (.str (nameOf 4))) := by
  refine con_of c16_is fun N => ?_
  refine w_reg_seq 0 64 rfl rfl ?_
  refine r_p (by simp [names]; rfl) ?_
  refine r_nil ?_
  refine w_seq ?_
  refine w_reg_seq 64 256 rfl rfl ?_
  refine r_p (by simp [names]; rfl) ?_
  refine r_c false (con65 _ _ _) c65_ok rfl (by simp; exact ⟨rfl, rfl⟩) ?_
  refine r_p (by simp [names]; rfl) ?_
  refine r_nil ?_
  refine w_false (by simp [names]) ?_
  refine w_skip ?_
  refine thenQ_n ?_
  refine w_reg_seq 256 512 rfl rfl ?_
  refine r_f (by simp [names]; exact ⟨rfl, rfl⟩) ?_
  refine r_p (by simp [names]; rfl) ?_
  refine r_p (by simp [names]; rfl) ?_
  refine r_p (by simp [names]; rfl) ?_
  refine r_nil ?_
  refine w_ret ?_
  refine endQ_r (by simp [names]; rfl) (.inl ⟨_, _, by simp [names]; first | exact ⟨rfl, rfl⟩ | rfl, by simp, by simp [nameOf, names]⟩)

theorem con16_5 : Con Try.prog 16 [.int .i64 5] (.v (.str (nameOf 5))) := by
  refine con_of c16_is fun N => ?_
  refine w_reg_seq 0 64 rfl rfl ?_
  refine r_p (by simp [names]; rfl) ?_
  refine r_nil ?_
  refine w_seq ?_
  refine w_reg_seq 64 256 rfl rfl ?_
  refine r_p (by simp [names]; rfl) ?_
  refine r_c false (con65 _ _ _) c65_ok rfl (by simp; exact ⟨rfl, rfl⟩) ?_
  refine r_p (by simp [names]; rfl) ?_
  refine r_nil ?_
  refine w_false (by simp [names]) ?_
  refine w_skip ?_
  refine thenQ_n ?_
  refine w_reg_seq 256 512 rfl rfl ?_
  refine r_f (by simp [names]; exact ⟨rfl, rfl⟩) ?_
  refine r_p (by simp [names]; rfl) ?_
  refine r_p (by simp [names]; rfl) ?_
  refine r_p (by simp [names]; rfl) ?_
  refine r_nil ?_
  refine w_ret ?_
  refine endQ_r (by simp [names]; rfl) (.inl ⟨_, _, by simp [names]; first | exact ⟨rfl, rfl⟩ | rfl, by simp, by simp [nameOf, names]⟩)

theorem con16_0 {k : Int} (h : ¬ (1 ≤ k ∧ k ≤ 5)) : Con Try.prog 16 [.int .i64 k] (.v (.str [])) := by
  have h2 : k < 1 ∨ 5 < k := by omega
  refine con_of c16_is fun N => ?_
  refine w_reg_seq 0 64 rfl rfl ?_
  refine r_p (by simp [h2]; rfl) ?_
  refine r_nil ?_
  refine w_seq ?_
  refine w_reg_seq 64 256 rfl rfl ?_
  refine r_p (by simp [h2]; rfl) ?_
  refine r_c false (con65 _ _ _) c65_ok rfl (by simp; exact ⟨rfl, rfl⟩) ?_
  refine r_p (by simp [h2]; rfl) ?_
  refine r_nil ?_
  refine w_true (by simp [h2]) ?_
  refine w_reg_seq 256 320 rfl rfl ?_
  refine r_p (by simp [h2]; rfl) ?_
  refine r_nil ?_
  refine w_ret ?_
  refine thenQ_r ?_
  refine endQ_r (by simp [h2]; rfl) (.inl ⟨_, _, by simp [h2]; first | exact ⟨rfl, rfl⟩ | rfl, by simp, by simp [*]⟩)

theorem con16 (k : Int) : Con Try.prog 16 [.int .i64 k] (.v (.str (nameOf k))) := by
  refine five (k := k) (fun h => ?_) (fun h => ?_) (fun h => ?_) (fun h => ?_) (fun h => ?_) (fun h => ?_)
  · rw [show nameOf k = [] from if_neg h]; exact con16_0 h
  · subst h; exact con16_1
  · subst h; exact con16_2
  · subst h; exact con16_3
  · subst h; exact con16_4
  · subst h; exact con16_5

theorem con15_1 : Con Try.prog 15 [.int .i64 1] (.v (.str (nameOf 1))) := by
  refine con_of c15_is fun N => ?_
  refine w_reg_seq 0 64 rfl rfl ?_
  refine r_p (by simp [names]; rfl) ?_
  refine r_nil ?_
  refine w_seq ?_
  refine w_reg_seq 64 256 rfl rfl ?_
  refine r_p (by simp [names]; rfl) ?_
  refine r_c false (con63 _) c63_ok rfl (by simp; exact ⟨rfl, rfl⟩) ?_
  refine r_p (by simp [names]; rfl) ?_
  refine r_nil ?_
  refine w_false (by simp [names]) ?_
  refine w_skip ?_
  refine thenQ_n ?_
  refine w_reg_seq 256 576 rfl rfl ?_
  refine r_c false (con64) c64_ok rfl (by simp; exact ⟨rfl, rfl⟩) ?_
  refine r_p (by simp [names]; rfl) ?_
  refine r_p (by simp [names]; rfl) ?_
  refine r_p (by simp [names]; rfl) ?_
  refine r_p (by simp [names]; rfl) ?_
  refine r_nil ?_
  refine w_ret ?_
  refine endQ_r (by simp [names]; rfl) (.inl ⟨_, _, by simp [names]; first | exact ⟨rfl, rfl⟩ | rfl, by simp, by simp [nameOf, names]⟩)

theorem con15_2 : Con Try.prog 15 [.int .i64 2] (.v (.str (nameOf 2))) := by
  refine con_of c15_is fun N => ?_
  refine w_reg_seq 0 64 rfl rfl ?_
  refine r_p (by simp [names]; rfl) ?_
  refine r_nil ?_
  refine w_seq ?_
  refine w_reg_seq 64 256 rfl rfl ?_
  refine r_p (by simp [names]; rfl) ?_
  refine r_c false (con63 _) c63_ok rfl (by simp; exact ⟨rfl, rfl⟩) ?_
  refine r_p (by simp [names]; rfl) ?_
  refine r_nil ?_
  refine w_false (by simp [names]) ?_
  refine w_skip ?_
  refine thenQ_n ?_
  refine w_reg_seq 256 576 rfl rfl ?_
  refine r_c false (con64) c64_ok rfl (by simp; exact ⟨rfl, rfl⟩) ?_
  refine r_p (by simp [names]; rfl) ?_
  refine r_p (by simp [names]; rfl) ?_
  refine r_p (by simp [names]; rfl) ?_
  refine r_p (by simp [names]; rfl) ?_
  refine r_nil ?_
  refine w_ret ?_
  refine endQ_r (by simp [names]; rfl) (.inl ⟨_, _, by simp [names]; first | exact ⟨rfl, rfl⟩ | rfl, by simp, by simp [nameOf, names]⟩)

theorem con15_3 : Con Try.prog 15 [.int .i64 3] (.v (.str (nameOf 3))) := by
  refine con_of c15_is fun N => ?_
  refine w_reg_seq 0 64 rfl rfl ?_
  refine r_p (by simp [names]; rfl) ?_
  refine r_nil ?_
  refine w_seq ?_
  refine w_reg_seq 64 256 rfl rfl ?_
  refine r_p (by simp [names]; rfl) ?_
  refine r_c false (con63 _) c63_ok rfl (by simp; exact ⟨rfl, rfl⟩) ?_
  refine r_p (by simp [names]; rfl) ?_
  refine r_nil ?_
  refine w_false (by simp [names]) ?_
  refine w_skip ?_
  refine thenQ_n ?_
  refine w_reg_seq 256 576 rfl rfl ?_
  refine r_c false (con64) c64_ok rfl (by simp; exact ⟨rfl, rfl⟩) ?_
  refine r_p (by simp [names]; rfl) ?_
  refine r_p (by simp [names]; rfl) ?_
  refine r_p (by simp [names]; rfl) ?_
  refine r_p (by simp [names]; rfl) ?_
  refine r_nil ?_
  refine w_ret ?_
  refine endQ_r (by simp [names]; rfl) (.inl ⟨_, _, by simp [names]; first | exact ⟨rfl, rfl⟩ | rfl, by simp, by simp [nameOf, names]⟩)

theorem con15_4 : Con Try.prog 15 [.int .i64 4] (.v (.str (nameOf 4))) := by
  refine con_of c15_is fun N => ?_
  refine w_reg_seq 0 64 rfl rfl ?_
  refine r_p (by simp [names]; rfl) ?_
  refine r_nil ?_
  refine w_seq ?_
  refine w_reg_seq 64 256 rfl rfl ?_
  refine r_p (by simp [names]; rfl) ?_
  refine r_c false (con63 _) c63_ok rfl (by simp; exact ⟨rfl, rfl⟩) ?_
  refine r_p (by simp [names]; rfl) ?_
  refine r_nil ?_
  refine w_false (by simp [names]) ?_
  refine w_skip ?_
  refine thenQ_n ?_
  refine w_reg_seq 256 576 rfl rfl ?_
  refine r_c false (con64) c64_ok rfl (by simp; exact ⟨rfl, rfl⟩) ?_
  refine r_p (by simp [names]; rfl) ?_
  refine r_p (by simp [names]; rfl) ?_
  refine r_p (by simp [names]; rfl) ?_
  refine r_p (by simp [names]; rfl) ?_
  refine r_nil ?_
  refine w_ret ?_
  refine endQ_r (by simp [names]; rfl) (.inl ⟨_, _, by simp [names]; first | exact ⟨rfl, rfl⟩ | rfl, by simp, by simp [nameOf, names]⟩)

theorem con15_5 : Con Try.prog 15 [.int .i64 5] (.v (.str (nameOf 5))) := by
  refine con_of c15_is fun N => ?_
  refine w_reg_seq 0 64 rfl rfl ?_
  refine r_p (by simp [names]; rfl) ?_
  refine r_nil ?_
  refine w_seq ?_
  refine w_reg_seq 64 256 rfl rfl ?_
  refine r_p (by simp [names]; rfl) ?_
  refine r_c false (con63 _) c63_ok rfl (by simp; exact ⟨rfl, rfl⟩) ?_
  refine r_p (by simp [names]; rfl) ?_
  refine r_nil ?_
  refine w_false (by simp [names]) ?_
  refine w_skip ?_
  refine thenQ_n ?_
  refine w_reg_seq 256 576 rfl rfl ?_
  refine r_c false (con64) c64_ok rfl (by simp; exact ⟨rfl, rfl⟩) ?_
  refine r_p (by simp [names]; rfl) ?_
  refine r_p (by simp [names]; rfl) ?_
  refine r_p (by simp [names]; rfl) ?_
  refine r_p (by simp [names]; rfl) ?_
  refine r_nil ?_
  refine w_ret ?_
  refine endQ_r (by simp [names]; rfl) (.inl ⟨_, _, by simp [names]; first | exact ⟨rfl, rfl⟩ | rfl, by simp, by simp [nameOf, names]⟩)

theorem con15_0 {k : Int} (h : ¬ (1 ≤ k ∧ k ≤ 5)) : Con Try.prog 15 [.int .i64 k] (.v (.str [])) := by
  have h2 : k < 1 ∨ 5 < k := by omega
  refine con_of c15_is fun N => ?_
  refine w_reg_seq 0 64 rfl rfl ?_
  refine r_p (by simp [h2]; rfl) ?_
  refine r_nil ?_
  refine w_seq ?_
  refine w_reg_seq 64 256 rfl rfl ?_
  refine r_p (by simp [h2]; rfl) ?_
  refine r_c false (con63 _) c63_ok rfl (by simp; exact ⟨rfl, rfl⟩) ?_
  refine r_p (by simp [h2]; rfl) ?_
  refine r_nil ?_
  refine w_true (by simp [h2]) ?_
  refine w_reg_seq 256 320 rfl rfl ?_
  refine r_p (by simp [h2]; rfl) ?_
  refine r_nil ?_
  refine w_ret ?_
  refine thenQ_r ?_
  refine endQ_r (by simp [h2]; rfl) (.inl ⟨_, _, by simp [h2]; first | exact ⟨rfl, rfl⟩ | rfl, by simp, by simp [*]⟩)

theorem con15 (k : Int) : Con Try.prog 15 [.int .i64 k] (.v (.str (nameOf k))) := by
  refine five (k := k) (fun h => ?_) (fun h => ?_) (fun h => ?_) (fun h => ?_) (fun h => ?_) (fun h => ?_)
  · rw [show nameOf k = [] from if_neg h]; exact con15_0 h
  · subst h; exact con15_1
  · subst h; exact con15_2
  · subst h; exact con15_3
  · subst h; exact con15_4
  · subst h; exact con15_5

theorem con3 (k : Int) : Con Try.prog 3 [.int .i64 k] (.v (.bool true)) := by
  refine con_of c3_is fun N => ?_
  refine w_reg_seq 0 64 rfl rfl ?_
  refine r_p (by simp; rfl) ?_
  refine r_nil ?_
  refine w_reg_seq 64 256 rfl rfl ?_
  refine r_p (by simp; rfl) ?_
  refine r_c false (con15 _) c15_ok rfl (by simp; exact ⟨rfl, rfl⟩) ?_
  refine r_p (by simp; rfl) ?_
  refine r_nil ?_
  refine w_reg_seq 256 448 rfl rfl ?_
  refine r_p (by simp; rfl) ?_
  refine r_c false (con16 _) c16_ok rfl (by simp; exact ⟨rfl, rfl⟩) ?_
  refine r_p (by simp; rfl) ?_
  refine r_nil ?_
  refine w_seq ?_
  refine w_reg_seq 448 640 rfl rfl ?_
  refine r_p (by simp; rfl) ?_
  refine r_p (by simp; rfl) ?_
  refine r_p (by simp; rfl) ?_
  refine r_nil ?_
  refine w_false (by simp) ?_
  refine w_skip ?_
  refine thenQ_n ?_
  refine w_reg_seq 640 704 rfl rfl ?_
  refine r_p (by simp; rfl) ?_
  refine r_nil ?_
  refine w_ret ?_
  refine endQ_r (by simp; rfl) (.inl ⟨_, _, by simp; first | exact ⟨rfl, rfl⟩ | rfl, by simp, by simp [*]⟩)

end Go.Ab
