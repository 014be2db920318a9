/- ProblemText (own text; the walks were printed by walk.py). -/
import Derived.Test.YtcjbdiiffpkdoaaT1
import Derived.Test.YtcjbdiiffpkdoaaA27
set_option linter.unusedVariables false
set_option linter.unusedSimpArgs false
namespace Go.Ab
open Go.RowKit Go.Proofs

def c17 : MC := (.seq (.reg [⟨(some 2), none, (.f (.box (.t 0)))⟩, ⟨(some 4), none, (.p (.mv (.c (.int .i64 0))))⟩]) (.seq (.reg [⟨(some 5), none, (.p (.mv (.t 1)))⟩, ⟨(some 6), none, (.p (.fad (.t 2) 1))⟩, ⟨(some 7), none, (.p (.ld (.t 6) 1 false))⟩, ⟨(some 8), none, (.p (.lens (.t 7)))⟩, ⟨(some 9), none, (.p (.bin .sub (.t 5) (.t 8)))⟩, ⟨(some 1), none, (.p (.mv (.t 9)))⟩]) (.seq (.seq (.reg [⟨(some 10), none, (.p (.mv (.t 1)))⟩, ⟨(some 11), none, (.p (.bin .lss (.t 10) (.c (.int .i64 0))))⟩]) (.cond (.t 11) (.seq (.reg [⟨(some 4), none, (.p (.mv (.c (.int .i64 (-1)))))⟩]) .ret) .skip)) (.seq (.reg [⟨(some 12), none, (.p (.mv (.t 1)))⟩, ⟨(some 13), none, (.p (.fad (.t 2) 2))⟩, ⟨(some 14), none, (.p (.ld (.t 13) 1 false))⟩, ⟨(some 15), none, (.p (.lens (.t 14)))⟩, ⟨(some 16), none, (.p (.bin .sub (.t 12) (.t 15)))⟩, ⟨(some 1), none, (.p (.mv (.t 16)))⟩]) (.seq (.seq (.reg [⟨(some 17), none, (.p (.mv (.t 1)))⟩, ⟨(some 18), none, (.p (.bin .lss (.t 17) (.c (.int .i64 0))))⟩]) (.cond (.t 18) (.seq (.reg [⟨(some 4), none, (.p (.mv (.c (.int .i64 (-1)))))⟩]) .ret) .skip)) (.seq (.reg [⟨(some 19), none, (.p (.mv (.t 1)))⟩, ⟨(some 4), none, (.p (.mv (.t 19)))⟩]) .ret))))))
theorem c17_is : compFn Try.prog 17 = some (c17, [(.tmp 4)]) := by kernel_rfl
theorem c17_ok : okFn Try.prog 17 = true := by kernel_rfl

def c18 : MC := (.seq (.reg [⟨(some 1), none, (.f (.box (.t 0)))⟩, ⟨(some 2), none, (.p (.mv (.c (.str []))))⟩]) (.seq (.seq (.reg [⟨(some 3), none, (.p (.fad (.t 1) 0))⟩, ⟨(some 4), none, (.p (.ld (.t 3) 1 false))⟩, ⟨(some 5), none, (.call 63 [(.t 4)])⟩, ⟨(some 6), none, (.p (.not (.t 5)))⟩]) (.cond (.t 6) (.seq (.reg [⟨(some 2), none, (.p (.mv (.c (.str []))))⟩]) .ret) .skip)) (.seq (.reg [⟨(some 7), none, (.call 64 [])⟩, ⟨(some 8), none, (.p (.fad (.t 1) 0))⟩, ⟨(some 9), none, (.p (.ld (.t 8) 1 false))⟩, ⟨(some 10), none, (.p (.iad (.t 7) (.t 9) 1))⟩, ⟨(some 11), none, (.p (.ld (.t 10) 1 false))⟩, ⟨(some 12), none, (.p (.bin .add (.t 11) (.c (.str [32]))))⟩, ⟨(some 13), none, (.p (.fad (.t 1) 1))⟩, ⟨(some 14), none, (.p (.ld (.t 13) 1 false))⟩, ⟨(some 15), none, (.p (.bin .add (.t 12) (.t 14)))⟩, ⟨(some 16), none, (.p (.bin .add (.t 15) (.c (.str [32]))))⟩, ⟨(some 17), none, (.p (.fad (.t 1) 2))⟩, ⟨(some 18), none, (.p (.ld (.t 17) 1 false))⟩, ⟨(some 19), none, (.p (.bin .add (.t 16) (.t 18)))⟩, ⟨(some 2), none, (.p (.mv (.t 19)))⟩]) .ret)))
theorem c18_is : compFn Try.prog 18 = some (c18, [(.tmp 2)]) := by kernel_rfl
theorem c18_ok : okFn Try.prog 18 = true := by kernel_rfl

def c19 : MC := (.seq (.reg [⟨(some 1), none, (.f (.box (.t 0)))⟩, ⟨(some 2), none, (.f (.alloc [((.int .i64 0), (0, false)), ((.str []), (0, false)), ((.str []), (0, false))]))⟩]) (.seq (.reg [⟨(some 3), none, (.f (.alloc [((.int .i64 0), (0, false)), ((.str []), (0, false)), ((.str []), (0, false))]))⟩]) (.seq (.reg [⟨(some 4), none, (.p (.fad (.t 1) 0))⟩, ⟨(some 5), none, (.p (.ld (.t 4) 1 false))⟩, ⟨(some 6), none, (.p (.fad (.t 3) 0))⟩, ⟨none, none, (.f (.st (.t 6) (.t 5) 1))⟩]) (.seq (.reg [⟨(some 7), none, (.p (.fad (.t 1) 1))⟩, ⟨(some 8), none, (.p (.ld (.t 7) 1 false))⟩, ⟨(some 9), none, (.p (.fad (.t 3) 1))⟩, ⟨none, none, (.f (.st (.t 9) (.t 8) 1))⟩]) (.seq (.reg [⟨(some 10), none, (.p (.fad (.t 1) 2))⟩, ⟨(some 11), none, (.p (.ld (.t 10) 1 false))⟩, ⟨(some 12), none, (.p (.fad (.t 3) 2))⟩, ⟨none, none, (.f (.st (.t 12) (.t 11) 1))⟩]) (.seq (.reg [⟨(some 13), none, (.p (.ld (.t 3) 3 true))⟩, ⟨none, none, (.f (.st (.t 2) (.t 13) 3))⟩]) .ret))))))
theorem c19_is : compFn Try.prog 19 = some (c19, [(.cell (.ld (.t 2) 3 true))]) := by kernel_rfl
theorem c19_ok : okFn Try.prog 19 = true := by kernel_rfl

def c20 : MC := (.seq (.reg [⟨(some 1), none, (.f (.box (.t 0)))⟩, ⟨(some 2), none, (.p (.mv (.c (.str []))))⟩]) (.seq (.reg [⟨(some 4), none, (.p (.fad (.t 1) 0))⟩, ⟨(some 5), none, (.p (.ld (.t 4) 1 false))⟩, ⟨(some 6), none, (.call 16 [(.t 5)])⟩, ⟨(some 3), none, (.p (.mv (.t 6)))⟩]) (.seq (.seq (.reg [⟨(some 7), none, (.p (.mv (.t 3)))⟩, ⟨(some 8), none, (.p (.bin .eql (.t 7) (.c (.str []))))⟩]) (.cond (.t 8) (.seq (.reg [⟨(some 2), none, (.p (.mv (.c (.str []))))⟩]) .ret) .skip)) (.seq (.reg [⟨(some 9), none, (.p (.mv (.t 3)))⟩, ⟨(some 10), none, (.p (.bin .add (.t 9) (.c (.str [32]))))⟩, ⟨(some 11), none, (.p (.fad (.t 1) 1))⟩, ⟨(some 12), none, (.p (.ld (.t 11) 1 false))⟩, ⟨(some 13), none, (.p (.bin .add (.t 10) (.t 12)))⟩, ⟨(some 14), none, (.p (.bin .add (.t 13) (.c (.str [32]))))⟩, ⟨(some 15), none, (.p (.fad (.t 1) 2))⟩, ⟨(some 16), none, (.p (.ld (.t 15) 1 false))⟩, ⟨(some 17), none, (.p (.bin .add (.t 14) (.t 16)))⟩, ⟨(some 2), none, (.p (.mv (.t 17)))⟩]) .ret))))
theorem c20_is : compFn Try.prog 20 = some (c20, [(.tmp 2)]) := by kernel_rfl
theorem c20_ok : okFn Try.prog 20 = true := by kernel_rfl

def c4 : MC := (.seq (.reg [⟨(some 1), none, (.f (.box (.t 0)))⟩, ⟨(some 2), none, (.p (.mv (.c (.bool false))))⟩]) (.seq (.reg [⟨(some 3), none, (.p (.mv (.c (.int .i64 1048576))))⟩]) (.seq (.reg [⟨(some 6), none, (.p (.ld (.t 1) 3 true))⟩, ⟨(some 7), none, (.p (.mv (.t 3)))⟩, ⟨(some 8), none, (.call 17 [(.t 6), (.t 7)])⟩, ⟨(some 3), none, (.p (.mv (.t 8)))⟩]) (.seq (.seq (.reg [⟨(some 9), none, (.p (.mv (.t 3)))⟩, ⟨(some 10), none, (.p (.bin .lss (.t 9) (.c (.int .i64 0))))⟩]) (.cond (.t 10) (.seq (.reg [⟨(some 2), none, (.p (.mv (.c (.bool true))))⟩]) .ret) .skip)) (.seq (.reg [⟨(some 11), none, (.p (.ld (.t 1) 3 true))⟩, ⟨(some 12), none, (.call 19 [(.t 11)])⟩, ⟨(some 13), none, (.call 18 [(.t 12)])⟩, ⟨(some 4), none, (.p (.mv (.t 13)))⟩]) (.seq (.reg [⟨(some 14), none, (.p (.ld (.t 1) 3 true))⟩, ⟨(some 15), none, (.call 19 [(.t 14)])⟩, ⟨(some 16), none, (.call 20 [(.t 15)])⟩, ⟨(some 5), none, (.p (.mv (.t 16)))⟩]) (.seq (.seq (.reg [⟨(some 17), none, (.p (.mv (.t 5)))⟩, ⟨(some 18), none, (.p (.mv (.t 4)))⟩, ⟨(some 19), none, (.p (.bin .neq (.t 17) (.t 18)))⟩]) (.cond (.t 19) (.seq (.reg [⟨(some 2), none, (.p (.mv (.c (.bool false))))⟩]) .ret) .skip)) (.seq (.reg [⟨(some 2), none, (.p (.mv (.c (.bool true))))⟩]) .ret))))))))
theorem c4_is : compFn Try.prog 4 = some (c4, [(.tmp 2)]) := by kernel_rfl
theorem c4_ok : okFn Try.prog 4 = true := by kernel_rfl

abbrev prob (k : Int) (w t : List UInt8) : V := .agg [.int .i64 k, .str w, .str t]
def szProb (w t : List UInt8) : Int := if 1048576 - (w.length : Int) < 0 then -1 else if 1048576 - (w.length : Int) - (t.length : Int) < 0 then -1 else 1048576 - (w.length : Int) - (t.length : Int)
def probText (k : Int) (w t : List UInt8) : List UInt8 := if 1 ≤ k ∧ k ≤ 5 then nameOf k ++ [32] ++ w ++ [32] ++ t else []

theorem con17 (k : Int) (w t : List UInt8) (hw : w.length ≤ 9223372036854775807) (ht : t.length ≤ 9223372036854775807) : Con Try.prog 17 [prob k w t, .int .i64 1048576] (.v (.int .i64 (szProb w t))) := by
  refine con_of c17_is fun N => ?_
  refine w_reg_seq 0 128 rfl rfl ?_
  refine r_f (by simp; exact ⟨rfl, rfl⟩) ?_
  refine r_p (by simp; rfl) ?_
  refine r_nil ?_
  refine w_reg_seq 128 512 rfl rfl ?_
  refine r_p (by simp; rfl) ?_
  refine r_p (by simp; rfl) ?_
  refine r_p (by simp; rfl) ?_
  refine r_p (by simp; rfl) ?_
  refine r_p (by simp; exact ⟨_, i_sub (by omega), rfl⟩) ?_
  refine r_p (by simp; rfl) ?_
  refine r_nil ?_
  refine w_seq ?_
  refine w_reg_seq 512 640 rfl rfl ?_
  refine r_p (by simp; rfl) ?_
  refine r_p (by simp; rfl) ?_
  refine r_nil ?_
  refine w_case (by simp; rfl) (fun h1 => ?_) (fun h1 => ?_)
  · try simp only [decide_eq_true_eq, decide_eq_false_iff_not, Bool.not_eq_true', Bool.not_eq_false', Bool.and_eq_true, Bool.or_eq_true, Bool.or_eq_false_iff] at h1
    refine w_reg_seq 640 704 rfl rfl ?_
    refine r_p (by simp [h1]; rfl) ?_
    refine r_nil ?_
    refine w_ret ?_
    refine thenQ_r ?_
    refine endQ_r (by simp [h1]; rfl) (.inl ⟨_, _, by simp [h1]; first | exact ⟨rfl, rfl⟩ | rfl, by simp, by simp [szProb, *]⟩)
  · try simp only [decide_eq_true_eq, decide_eq_false_iff_not, Bool.not_eq_true', Bool.not_eq_false', Bool.and_eq_true, Bool.or_eq_true, Bool.or_eq_false_iff] at h1
    refine w_skip ?_
    refine thenQ_n ?_
    refine w_reg_seq 640 1024 rfl rfl ?_
    refine r_p (by simp [h1]; rfl) ?_
    refine r_p (by simp [h1]; rfl) ?_
    refine r_p (by simp [h1]; rfl) ?_
    refine r_p (by simp [h1]; rfl) ?_
    refine r_p (by simp [h1]; exact ⟨_, i_sub (by omega), rfl⟩) ?_
    refine r_p (by simp [h1]; rfl) ?_
    refine r_nil ?_
    refine w_seq ?_
    refine w_reg_seq 1024 1152 rfl rfl ?_
    refine r_p (by simp [h1]; rfl) ?_
    refine r_p (by simp [h1]; rfl) ?_
    refine r_nil ?_
    refine w_case (by simp [h1]; rfl) (fun h2 => ?_) (fun h2 => ?_)
    · try simp only [decide_eq_true_eq, decide_eq_false_iff_not, Bool.not_eq_true', Bool.not_eq_false', Bool.and_eq_true, Bool.or_eq_true, Bool.or_eq_false_iff] at h2
      refine w_reg_seq 1152 1216 rfl rfl ?_
      refine r_p (by simp [h1, h2]; rfl) ?_
      refine r_nil ?_
      refine w_ret ?_
      refine thenQ_r ?_
      refine endQ_r (by simp [h1, h2]; rfl) (.inl ⟨_, _, by simp [h1, h2]; first | exact ⟨rfl, rfl⟩ | rfl, by simp, by simp [szProb, *]⟩)
    · try simp only [decide_eq_true_eq, decide_eq_false_iff_not, Bool.not_eq_true', Bool.not_eq_false', Bool.and_eq_true, Bool.or_eq_true, Bool.or_eq_false_iff] at h2
      refine w_skip ?_
      refine thenQ_n ?_
      refine w_reg_seq 1152 1280 rfl rfl ?_
      refine r_p (by simp [h1, h2]; rfl) ?_
      refine r_p (by simp [h1, h2]; rfl) ?_
      refine r_nil ?_
      refine w_ret ?_
      refine endQ_r (by simp [h1, h2]; rfl) (.inl ⟨_, _, by simp [h1, h2]; first | exact ⟨rfl, rfl⟩ | rfl, by simp, by simp [szProb, *]⟩)

theorem con19 (k : Int) (w t : List UInt8) : Con Try.prog 19 [prob k w t] (.v (prob k w t)) := by
  refine con_of c19_is fun N => ?_
  refine w_reg_seq 0 128 rfl rfl ?_
  refine r_f (by simp; exact ⟨rfl, rfl⟩) ?_
  refine r_f (by simp; exact ⟨rfl, rfl⟩) ?_
  refine r_nil ?_
  refine w_reg_seq 128 192 rfl rfl ?_
  refine r_f (by simp; exact ⟨rfl, rfl⟩) ?_
  refine r_nil ?_
  refine w_reg_seq 192 448 rfl rfl ?_
  refine r_p (by simp; rfl) ?_
  refine r_p (by simp; rfl) ?_
  refine r_p (by simp; rfl) ?_
  refine r_f0 (by simp; exact ⟨rfl, rfl⟩) ?_
  refine r_nil ?_
  refine w_reg_seq 448 704 rfl rfl ?_
  refine r_p (by simp; rfl) ?_
  refine r_p (by simp; rfl) ?_
  refine r_p (by simp; rfl) ?_
  refine r_f0 (by simp; exact ⟨rfl, rfl⟩) ?_
  refine r_nil ?_
  refine w_reg_seq 704 960 rfl rfl ?_
  refine r_p (by simp; rfl) ?_
  refine r_p (by simp; rfl) ?_
  refine r_p (by simp; rfl) ?_
  refine r_f0 (by simp; exact ⟨rfl, rfl⟩) ?_
  refine r_nil ?_
  refine w_reg_seq 960 1088 rfl rfl ?_
  refine r_p (by simp; rfl) ?_
  refine r_f0 (by simp; exact ⟨rfl, rfl⟩) ?_
  refine r_nil ?_
  refine w_ret ?_
  refine endQ_r (by simp; rfl) (.inl ⟨_, _, by simp; first | exact ⟨rfl, rfl⟩ | rfl, by simp, by simp [*]⟩)

theorem name_facts {k : Int} (h : 1 ≤ k ∧ k ≤ 5) : 0 ≤ k ∧ k.toNat < names.length ∧ names[k.toNat]? = some (nameOf k) ∧ (nameOf k).length ≤ 8 ∧ nameOf k ≠ [] := by
  have : k = 1 ∨ k = 2 ∨ k = 3 ∨ k = 4 ∨ k = 5 := by omega
  rcases this with e | e | e | e | e <;> subst e <;> decide
theorem name_none {k : Int} (h : ¬ (1 ≤ k ∧ k ≤ 5)) : nameOf k = [] := if_neg h

theorem con18_1 (k : Int) (w t : List UInt8) (hl : w.length + t.length ≤ 1048576) (h : 1 ≤ k ∧ k ≤ 5) : Con Try.prog 18 [prob k w t] (.v (.str (nameOf k ++ [32] ++ w ++ [32] ++ t))) := by
  obtain ⟨k0, k6, kg, kl, kn⟩ := name_facts h
  have kg2 : names[k.toNat]'k6 = nameOf k := by
    rw [List.getElem?_eq_getElem k6] at kg
    simpa using kg
  refine con_of c18_is fun N => ?_
  refine w_reg_seq 0 128 rfl rfl ?_
  refine r_f (by simp [h.1, h.2, k0, k6, kg, kg2, kn]; exact ⟨rfl, rfl⟩) ?_
  refine r_p (by simp [h.1, h.2, k0, k6, kg, kg2, kn]; rfl) ?_
  refine r_nil ?_
  refine w_seq ?_
  refine w_reg_seq 128 384 rfl rfl ?_
  refine r_p (by simp [h.1, h.2, k0, k6, kg, kg2, kn]; rfl) ?_
  refine r_p (by simp [h.1, h.2, k0, k6, kg, kg2, kn]; rfl) ?_
  refine r_c false (con63 _) c63_ok rfl (by simp; exact ⟨rfl, rfl⟩) ?_
  refine r_p (by simp [h.1, h.2, k0, k6, kg, kg2, kn]; rfl) ?_
  refine r_nil ?_
  refine w_false (by simp [h.1, h.2, k0, k6, kg, kg2, kn]) ?_
  refine w_skip ?_
  refine thenQ_n ?_
  refine w_reg_seq 384 1280 rfl rfl ?_
  refine r_c false (con64) c64_ok rfl (by simp; exact ⟨rfl, rfl⟩) ?_
  refine r_p (by simp [h.1, h.2, k0, k6, kg, kg2, kn]; rfl) ?_
  refine r_p (by simp [h.1, h.2, k0, k6, kg, kg2, kn]; rfl) ?_
  refine r_p (by simp [h.1, h.2, k0, k6, kg, kg2, kn]; rfl) ?_
  refine r_p (by simp [h.1, h.2, k0, k6, kg, kg2, kn]; rfl) ?_
  refine r_p (by simp [h.1, h.2, k0, k6, kg, kg2, kn]; first | exact ⟨_, i_add (by omega), rfl⟩ | exact ⟨_, s_add (by first | omega | (simp; omega)), rfl⟩) ?_
  refine r_p (by simp [h.1, h.2, k0, k6, kg, kg2, kn]; rfl) ?_
  refine r_p (by simp [h.1, h.2, k0, k6, kg, kg2, kn]; rfl) ?_
  refine r_p (by simp [h.1, h.2, k0, k6, kg, kg2, kn]; first | exact ⟨_, i_add (by omega), rfl⟩ | exact ⟨_, s_add (by first | omega | (simp; omega)), rfl⟩) ?_
  refine r_p (by simp [h.1, h.2, k0, k6, kg, kg2, kn]; first | exact ⟨_, i_add (by omega), rfl⟩ | exact ⟨_, s_add (by first | omega | (simp; omega)), rfl⟩) ?_
  refine r_p (by simp [h.1, h.2, k0, k6, kg, kg2, kn]; rfl) ?_
  refine r_p (by simp [h.1, h.2, k0, k6, kg, kg2, kn]; rfl) ?_
  refine r_p (by simp [h.1, h.2, k0, k6, kg, kg2, kn]; first | exact ⟨_, i_add (by omega), rfl⟩ | exact ⟨_, s_add (by first | omega | (simp; omega)), rfl⟩) ?_
  refine r_p (by simp [h.1, h.2, k0, k6, kg, kg2, kn]; rfl) ?_
  refine r_nil ?_
  refine w_ret ?_
  refine endQ_r (by simp [h.1, h.2, k0, k6, kg, kg2, kn]; rfl) (.inl ⟨_, _, by simp [h.1, h.2, k0, k6, kg, kg2, kn]; first | exact ⟨rfl, rfl⟩ | rfl, by simp, by simp [*]⟩)

theorem con18_0 (k : Int) (w t : List UInt8) (h : ¬ (1 ≤ k ∧ k ≤ 5)) : Con Try.prog 18 [prob k w t] (.v (.str [])) := by
  have h2 : k < 1 ∨ 5 < k := by omega
  refine con_of c18_is fun N => ?_
  refine w_reg_seq 0 128 rfl rfl ?_
  refine r_f (by simp [h2, name_none h]; exact ⟨rfl, rfl⟩) ?_
  refine r_p (by simp [h2, name_none h]; rfl) ?_
  refine r_nil ?_
  refine w_seq ?_
  refine w_reg_seq 128 384 rfl rfl ?_
  refine r_p (by simp [h2, name_none h]; rfl) ?_
  refine r_p (by simp [h2, name_none h]; rfl) ?_
  refine r_c false (con63 _) c63_ok rfl (by simp; exact ⟨rfl, rfl⟩) ?_
  refine r_p (by simp [h2, name_none h]; rfl) ?_
  refine r_nil ?_
  refine w_true (by simp [h2, name_none h]) ?_
  refine w_reg_seq 384 448 rfl rfl ?_
  refine r_p (by simp [h2, name_none h]; rfl) ?_
  refine r_nil ?_
  refine w_ret ?_
  refine thenQ_r ?_
  refine endQ_r (by simp [h2, name_none h]; rfl) (.inl ⟨_, _, by simp [h2, name_none h]; first | exact ⟨rfl, rfl⟩ | rfl, by simp, by simp [*]⟩)

theorem con18 (k : Int) (w t : List UInt8) (hl : w.length + t.length ≤ 1048576) : Con Try.prog 18 [prob k w t] (.v (.str (probText k w t))) := by
  by_cases h : 1 ≤ k ∧ k ≤ 5
  · rw [show probText k w t = _ from if_pos h]; exact con18_1 k w t hl h
  · rw [show probText k w t = _ from if_neg h]; exact con18_0 k w t h

theorem con20_1 (k : Int) (w t : List UInt8) (hl : w.length + t.length ≤ 1048576) (h : 1 ≤ k ∧ k ≤ 5) : Con Try.prog 20 [prob k w t] (.v (.str (nameOf k ++ [32] ++ w ++ [32] ++ t))) := by
  obtain ⟨k0, k6, kg, kl, kn⟩ := name_facts h
  have kg2 : names[k.toNat]'k6 = nameOf k := by
    rw [List.getElem?_eq_getElem k6] at kg
    simpa using kg
  refine con_of c20_is fun N => ?_
  refine w_reg_seq 0 128 rfl rfl ?_
  refine r_f (by simp [h.1, h.2, k0, k6, kg, kg2, kn]; exact ⟨rfl, rfl⟩) ?_
  refine r_p (by simp [h.1, h.2, k0, k6, kg, kg2, kn]; rfl) ?_
  refine r_nil ?_
  refine w_reg_seq 128 384 rfl rfl ?_
  refine r_p (by simp [h.1, h.2, k0, k6, kg, kg2, kn]; rfl) ?_
  refine r_p (by simp [h.1, h.2, k0, k6, kg, kg2, kn]; rfl) ?_
  refine r_c false (con16 _) c16_ok rfl (by simp; exact ⟨rfl, rfl⟩) ?_
  refine r_p (by simp [h.1, h.2, k0, k6, kg, kg2, kn]; rfl) ?_
  refine r_nil ?_
  refine w_seq ?_
  refine w_reg_seq 384 512 rfl rfl ?_
  refine r_p (by simp [h.1, h.2, k0, k6, kg, kg2, kn]; rfl) ?_
  refine r_p (by simp [h.1, h.2, k0, k6, kg, kg2, kn]; rfl) ?_
  refine r_nil ?_
  refine w_false (by simp [h.1, h.2, k0, k6, kg, kg2, kn]) ?_
  refine w_skip ?_
  refine thenQ_n ?_
  refine w_reg_seq 512 1152 rfl rfl ?_
  refine r_p (by simp [h.1, h.2, k0, k6, kg, kg2, kn]; rfl) ?_
  refine r_p (by simp [h.1, h.2, k0, k6, kg, kg2, kn]; first | exact ⟨_, i_add (by omega), rfl⟩ | exact ⟨_, s_add (by first | omega | (simp; omega)), rfl⟩) ?_
  refine r_p (by simp [h.1, h.2, k0, k6, kg, kg2, kn]; rfl) ?_
  refine r_p (by simp [h.1, h.2, k0, k6, kg, kg2, kn]; rfl) ?_
  refine r_p (by simp [h.1, h.2, k0, k6, kg, kg2, kn]; first | exact ⟨_, i_add (by omega), rfl⟩ | exact ⟨_, s_add (by first | omega | (simp; omega)), rfl⟩) ?_
  refine r_p (by simp [h.1, h.2, k0, k6, kg, kg2, kn]; first | exact ⟨_, i_add (by omega), rfl⟩ | exact ⟨_, s_add (by first | omega | (simp; omega)), rfl⟩) ?_
  refine r_p (by simp [h.1, h.2, k0, k6, kg, kg2, kn]; rfl) ?_
  refine r_p (by simp [h.1, h.2, k0, k6, kg, kg2, kn]; rfl) ?_
  refine r_p (by simp [h.1, h.2, k0, k6, kg, kg2, kn]; first | exact ⟨_, i_add (by omega), rfl⟩ | exact ⟨_, s_add (by first | omega | (simp; omega)), rfl⟩) ?_
  refine r_p (by simp [h.1, h.2, k0, k6, kg, kg2, kn]; rfl) ?_
  refine r_nil ?_
  refine w_ret ?_
  refine endQ_r (by simp [h.1, h.2, k0, k6, kg, kg2, kn]; rfl) (.inl ⟨_, _, by simp [h.1, h.2, k0, k6, kg, kg2, kn]; first | exact ⟨rfl, rfl⟩ | rfl, by simp, by simp [*]⟩)

theorem con20_0 (k : Int) (w t : List UInt8) (h : ¬ (1 ≤ k ∧ k ≤ 5)) : Con Try.prog 20 [prob k w t] (.v (.str [])) := by
  have h2 : k < 1 ∨ 5 < k := by omega
  refine con_of c20_is fun N => ?_
  refine w_reg_seq 0 128 rfl rfl ?_
  refine r_f (by simp [h2, name_none h]; exact ⟨rfl, rfl⟩) ?_
  refine r_p (by simp [h2, name_none h]; rfl) ?_
  refine r_nil ?_
  refine w_reg_seq 128 384 rfl rfl ?_
  refine r_p (by simp [h2, name_none h]; rfl) ?_
  refine r_p (by simp [h2, name_none h]; rfl) ?_
  refine r_c false (con16 _) c16_ok rfl (by simp; exact ⟨rfl, rfl⟩) ?_
  refine r_p (by simp [h2, name_none h]; rfl) ?_
  refine r_nil ?_
  refine w_seq ?_
  refine w_reg_seq 384 512 rfl rfl ?_
  refine r_p (by simp [h2, name_none h]; rfl) ?_
  refine r_p (by simp [h2, name_none h]; rfl) ?_
  refine r_nil ?_
  refine w_true (by simp [h2, name_none h]) ?_
  refine w_reg_seq 512 576 rfl rfl ?_
  refine r_p (by simp [h2, name_none h]; rfl) ?_
  refine r_nil ?_
  refine w_ret ?_
  refine thenQ_r ?_
  refine endQ_r (by simp [h2, name_none h]; rfl) (.inl ⟨_, _, by simp [h2, name_none h]; first | exact ⟨rfl, rfl⟩ | rfl, by simp, by simp [*]⟩)

theorem con20 (k : Int) (w t : List UInt8) (hl : w.length + t.length ≤ 1048576) : Con Try.prog 20 [prob k w t] (.v (.str (probText k w t))) := by
  by_cases h : 1 ≤ k ∧ k ≤ 5
  · rw [show probText k w t = _ from if_pos h]; exact con20_1 k w t hl h
  · rw [show probText k w t = _ from if_neg h]; exact con20_0 k w t h

theorem con4 (k : Int) (w t : List UInt8) (hw : w.length ≤ 9223372036854775807) (ht : t.length ≤ 9223372036854775807) : Con Try.prog 4 [prob k w t] (.v (.bool true)) := by
  refine con_of c4_is fun N => ?_
  refine w_reg_seq 0 128 rfl rfl ?_
  refine r_f (by simp; exact ⟨rfl, rfl⟩) ?_
  refine r_p (by simp; rfl) ?_
  refine r_nil ?_
  refine w_reg_seq 128 192 rfl rfl ?_
  refine r_p (by simp; rfl) ?_
  refine r_nil ?_
  refine w_reg_seq 192 448 rfl rfl ?_
  refine r_p (by simp; rfl) ?_
  refine r_p (by simp; rfl) ?_
  refine r_c false (con17 _ _ _ hw ht) c17_ok rfl (by simp; exact ⟨rfl, rfl⟩) ?_
  refine r_p (by simp; rfl) ?_
  refine r_nil ?_
  refine w_seq ?_
  refine w_reg_seq 448 576 rfl rfl ?_
  refine r_p (by simp; rfl) ?_
  refine r_p (by simp; rfl) ?_
  refine r_nil ?_
  refine w_case (by simp; rfl) (fun h1 => ?_) (fun h1 => ?_)
  · try simp only [decide_eq_true_eq, decide_eq_false_iff_not, Bool.not_eq_true', Bool.not_eq_false', Bool.and_eq_true, Bool.or_eq_true, Bool.or_eq_false_iff] at h1
    refine w_reg_seq 576 640 rfl rfl ?_
    refine r_p (by simp [h1]; rfl) ?_
    refine r_nil ?_
    refine w_ret ?_
    refine thenQ_r ?_
    refine endQ_r (by simp [h1]; rfl) (.inl ⟨_, _, by simp [h1]; first | exact ⟨rfl, rfl⟩ | rfl, by simp, by simp [*]⟩)
  · try simp only [decide_eq_true_eq, decide_eq_false_iff_not, Bool.not_eq_true', Bool.not_eq_false', Bool.and_eq_true, Bool.or_eq_true, Bool.or_eq_false_iff] at h1
    refine w_skip ?_
    refine thenQ_n ?_
    refine w_reg_seq 576 832 rfl rfl ?_
    refine r_p (by simp [h1]; rfl) ?_
    refine r_c false (con19 _ _ _) c19_ok rfl (by simp; exact ⟨rfl, rfl⟩) ?_
    refine r_c false (con18 _ _ _ (by simp only [szProb] at h1; split at h1 <;> (try split at h1) <;> omega)) c18_ok rfl (by simp; exact ⟨rfl, rfl⟩) ?_
    refine r_p (by simp [h1]; rfl) ?_
    refine r_nil ?_
    refine w_reg_seq 832 1088 rfl rfl ?_
    refine r_p (by simp [h1]; rfl) ?_
    refine r_c false (con19 _ _ _) c19_ok rfl (by simp; exact ⟨rfl, rfl⟩) ?_
    refine r_c false (con20 _ _ _ (by simp only [szProb] at h1; split at h1 <;> (try split at h1) <;> omega)) c20_ok rfl (by simp; exact ⟨rfl, rfl⟩) ?_
    refine r_p (by simp [h1]; rfl) ?_
    refine r_nil ?_
    refine w_seq ?_
    refine w_reg_seq 1088 1280 rfl rfl ?_
    refine r_p (by simp [h1]; rfl) ?_
    refine r_p (by simp [h1]; rfl) ?_
    refine r_p (by simp [h1]; rfl) ?_
    refine r_nil ?_
    refine w_false (by simp [h1]) ?_
    refine w_skip ?_
    refine thenQ_n ?_
    refine w_reg_seq 1280 1344 rfl rfl ?_
    refine r_p (by simp [h1]; rfl) ?_
    refine r_nil ?_
    refine w_ret ?_
    refine endQ_r (by simp [h1]; rfl) (.inl ⟨_, _, by simp [h1]; first | exact ⟨rfl, rfl⟩ | rfl, by simp, by simp [*]⟩)

theorem law4 (x : V) (h : okV true [.int .i64, .str, .str] x) : Con Try.prog 4 [x] (.v (.bool true)) := by
  simp only [okV, okCs, okC, if_true] at h
  obtain ⟨hx, v0, l0, hc, ⟨k, rfl, _⟩, v1, l1, rfl, ⟨w, rfl, hw⟩, v2, l2, rfl, ⟨t, rfl, ht⟩, rfl⟩ := h
  rw [hx, hc]
  exact con4 k w t hw ht

end Go.Ab
