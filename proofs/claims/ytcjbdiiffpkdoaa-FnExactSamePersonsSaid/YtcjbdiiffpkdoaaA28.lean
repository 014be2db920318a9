/- The loops that the laws share: the size, the copy and the equality of a list (own text; the walks were printed by walk.py). -/
import Derived.Test.YtcjbdiiffpkdoaaA27
set_option linter.unusedVariables false
set_option linter.unusedSimpArgs false
namespace Go.Ab
open Go.RowKit

def mSzS (g sz : Nat) (ag : Bool) : MC := (.seq (.reg [⟨(some 4), none, (.p (.mv (.c (.int .i64 0))))⟩]) (.seq (.reg [⟨(some 6), none, (.p (.mv (.t 1)))⟩, ⟨(some 7), none, (.p (.mv (.t 0)))⟩, ⟨(some 8), none, (.p (.len (.t 7)))⟩, ⟨(some 9), none, (.p (.bin .sub (.t 6) (.t 8)))⟩, ⟨(some 1), none, (.p (.mv (.t 9)))⟩]) (.seq (.seq (.reg [⟨(some 10), none, (.p (.mv (.t 1)))⟩, ⟨(some 11), none, (.p (.bin .lss (.t 10) (.c (.int .i64 0))))⟩]) (.cond (.t 11) (.seq (.reg [⟨(some 4), none, (.p (.mv (.c (.int .i64 (-1)))))⟩]) .ret) .skip)) (.seq (.seq (.reg [⟨(some 5), none, (.p (.mv (.c (.int .i64 0))))⟩]) (.block 0 (.loop (.seq (.seq (.reg [⟨(some 12), none, (.p (.mv (.t 5)))⟩, ⟨(some 13), none, (.p (.mv (.t 0)))⟩, ⟨(some 14), none, (.p (.len (.t 13)))⟩, ⟨(some 15), none, (.p (.bin .lss (.t 12) (.t 14)))⟩]) (.cond (.t 15) .skip (.exit 0))) (.seq (.block 1 (.seq (.reg [⟨(some 18), none, (.p (.mv (.t 0)))⟩, ⟨(some 19), none, (.p (.mv (.t 5)))⟩, ⟨(some 20), none, (.p (.iad (.t 18) (.t 19) sz))⟩, ⟨(some 21), none, (.p (.ld (.t 20) sz ag))⟩, ⟨(some 22), none, (.p (.mv (.t 1)))⟩, ⟨(some 23), none, (.call g [(.t 21), (.t 22)])⟩, ⟨(some 1), none, (.p (.mv (.t 23)))⟩]) (.seq (.reg [⟨(some 24), none, (.p (.mv (.t 1)))⟩, ⟨(some 25), none, (.p (.bin .lss (.t 24) (.c (.int .i64 0))))⟩]) (.cond (.t 25) (.seq (.reg [⟨(some 4), none, (.p (.mv (.c (.int .i64 (-1)))))⟩]) .ret) .skip)))) (.reg [⟨(some 16), none, (.p (.mv (.t 5)))⟩, ⟨(some 17), none, (.p (.bin .add (.t 16) (.c (.int .i64 1))))⟩, ⟨(some 5), none, (.p (.mv (.t 17)))⟩])))))) (.seq (.reg [⟨(some 26), none, (.p (.mv (.t 1)))⟩, ⟨(some 4), none, (.p (.mv (.t 26)))⟩]) .ret)))))

def szAll (e : V → Int → Int) : List V → Int → Int
  | [], l => l
  | x :: L, l => if e x l < 0 then -1 else szAll e L (e x l)
def szS (e : V → Int → Int) (L : List V) (l : Int) : Int := if l - (L.length : Int) < 0 then -1 else szAll e L (l - (L.length : Int))
theorem szAll_le {e : V → Int → Int} : ∀ {L : List V} (hle : ∀ x ∈ L, ∀ l, 0 ≤ l → e x l ≤ l) {l : Int}, 0 ≤ l → szAll e L l ≤ l
  | [], _, l, h => by simp [szAll]
  | x :: L, hle, l, h => by
    have h1 := hle x (by simp) l h
    simp only [szAll]
    split
    · omega
    · have := szAll_le (L := L) (fun y hy => hle y (by simp [hy])) (l := e x l) (by omega)
      omega
theorem szS_le {e : V → Int → Int} {L : List V} (hle : ∀ x ∈ L, ∀ l, 0 ≤ l → e x l ≤ l) {l : Int} (h : 0 ≤ l) : szS e L l ≤ l := by
  unfold szS
  split
  · omega
  · have := szAll_le hle (l := l - (L.length : Int)) (by omega)
    omega
theorem szAll_mem {e : V → Int → Int} : ∀ {L : List V} (hle : ∀ x ∈ L, ∀ l, 0 ≤ l → e x l ≤ l) {l : Int}, 0 ≤ l → ¬ szAll e L l < 0 → ∀ x ∈ L, ∃ m, 0 ≤ m ∧ m ≤ l ∧ ¬ e x m < 0
  | [], _, l, _, _ => by simp
  | y :: L, hle, l, h, hn => by
    have h1 := hle y (by simp) l h
    simp only [szAll] at hn
    split at hn
    · omega
    · rename_i h2
      intro x hx
      rcases List.mem_cons.1 hx with rfl | hx
      · exact ⟨l, h, by omega, h2⟩
      · obtain ⟨m, m1, m2, m3⟩ := szAll_mem (L := L) (fun z hz => hle z (by simp [hz])) (l := e y l) (by omega) hn x hx
        exact ⟨m, m1, by omega, m3⟩
theorem szS_mem {e : V → Int → Int} {L : List V} (hle : ∀ x ∈ L, ∀ l, 0 ≤ l → e x l ≤ l) {l : Int} (hn : ¬ szS e L l < 0) : ∀ x ∈ L, ∃ m, 0 ≤ m ∧ m ≤ l ∧ ¬ e x m < 0 := by
  unfold szS at hn
  split at hn
  · omega
  · intro x hx
    obtain ⟨m, m1, m2, m3⟩ := szAll_mem hle (by omega) hn x hx
    exact ⟨m, m1, by omega, m3⟩
theorem szS_len {e : V → Int → Int} {L : List V} {l : Int} (h : ¬ szS e L l < 0) : (L.length : Int) ≤ l := by
  unfold szS at h
  split at h
  · omega
  · omega

theorem szS_con {P : Program} {f g sz : Nat} {ag : Bool} (hc : compFn P f = some (mSzS g sz ag, [.tmp 4])) (hg : okFn P g = true) (e : V → Int → Int) (L : List V) (left : Int) (h0 : 0 ≤ left) (hB : left ≤ 1048576) (hlen : L.length ≤ 9223372036854775807) (hL : ∀ x ∈ L, ldV x.cells 0 sz ag = some x) (hle : ∀ x ∈ L, ∀ l, 0 ≤ l → e x l ≤ l) (he : ∀ x ∈ L, ∀ l, 0 ≤ l → l ≤ 1048576 → Con P g [x, .int .i64 l] (.v (.int .i64 (e x l)))) : Con P f [.sl sz L, .int .i64 left] (.v (.int .i64 (szS e L left))) := by
  refine con_of hc fun N => ?_
  refine w_reg_seq 0 64 rfl (by simp) ?_
  refine r_p (by simp [-ldV]; rfl) ?_
  refine r_nil ?_
  refine w_reg_seq 64 384 rfl (by simp) ?_
  refine r_p (by simp [-ldV]; rfl) ?_
  refine r_p (by simp [-ldV]; rfl) ?_
  refine r_p (by simp [-ldV]; rfl) ?_
  refine r_p (by simp [-ldV]; exact ⟨_, i_sub (by omega), rfl⟩) ?_
  refine r_p (by simp [-ldV]; rfl) ?_
  refine r_nil ?_
  refine w_seq ?_
  refine w_reg_seq 384 512 rfl (by simp) ?_
  refine r_p (by simp [-ldV]; rfl) ?_
  refine r_p (by simp [-ldV]; rfl) ?_
  refine r_nil ?_
  refine w_case (by simp only [↓mk_get, ↓fr_eq, ↓fr_ne]; rfl) (fun h1 => ?_) (fun h1 => ?_)
  · try simp only [decide_eq_true_eq, decide_eq_false_iff_not, Bool.not_eq_true', Bool.not_eq_false', Bool.and_eq_true, Bool.or_eq_true, Bool.or_eq_false_iff] at h1
    refine w_reg_seq 512 576 rfl (by simp) ?_
    refine r_p (by simp [h1, -ldV]; rfl) ?_
    refine r_nil ?_
    refine w_ret ?_
    refine thenQ_r ?_
    refine endQ_r (by simp [h1, -ldV]; rfl) (.inl ⟨_, _, by simp [h1, -ldV]; first | exact ⟨rfl, rfl⟩ | rfl, by simp, by simp [szS, *]⟩)
  · try simp only [decide_eq_true_eq, decide_eq_false_iff_not, Bool.not_eq_true', Bool.not_eq_false', Bool.and_eq_true, Bool.or_eq_true, Bool.or_eq_false_iff] at h1
    refine w_skip ?_
    refine thenQ_n ?_
    refine w_seq ?_
    refine w_reg_seq 512 576 rfl (by simp) ?_
    refine r_p (by simp [h1, -ldV]; rfl) ?_
    refine r_nil ?_
    refine w_block ?_
    refine w_ren [0, 1, 5] [] 0 (by simp [h1, -ldV]; rfl) (by simp; try rfl) (by simp) (by simp) (by simp) ?_
    refine w_loop (ι := {p : Nat × Int // p.1 ≤ L.length ∧ 0 ≤ p.2 ∧ p.2 ≤ 1048576 ∧ szAll e (L.drop p.1) p.2 = szAll e L (left - (L.length : Int))}) (fun p => mkS [(0, .val none (.sl sz L)), (1, .val none (.int .i64 p.1.2)), (5, .val none (.int .i64 p.1.1))] (fo []) 0) (fun p => L.length - p.1.1) ⟨(0, left - (L.length : Int)), by simp; omega⟩ rfl ?_
    rintro ⟨⟨i, l⟩, ⟨hi1, hi2, hi3, hi4⟩⟩
    dsimp only at hi1 hi2 hi3 hi4 ⊢
    refine w_seq ?_
    refine w_reg_seq 0 256 rfl (by simp) ?_
    refine r_p (by simp [h1, -ldV]; rfl) ?_
    refine r_p (by simp [h1, -ldV]; rfl) ?_
    refine r_p (by simp [h1, -ldV]; rfl) ?_
    refine r_p (by simp [h1, -ldV]; rfl) ?_
    refine r_nil ?_
    refine w_case (by simp only [↓mk_get, ↓fr_eq, ↓fr_ne]; rfl) (fun h2 => ?_) (fun h2 => ?_)
    · try simp only [decide_eq_true_eq, decide_eq_false_iff_not, Bool.not_eq_true', Bool.not_eq_false', Bool.and_eq_true, Bool.or_eq_true, Bool.or_eq_false_iff] at h2
      refine w_skip ?_
      refine thenQ_n ?_
      refine w_seq ?_
      refine w_block ?_
      refine w_reg_seq 256 704 rfl (by simp) ?_
      refine r_p (by simp [h1, h2, -ldV]; rfl) ?_
      refine r_p (by simp [h1, h2, -ldV]; rfl) ?_
      refine r_p (by simp [h1, h2, -ldV]; rfl) ?_
      refine r_p (by simp [h2, -ldV]; exact ⟨_, hL _ (List.getElem_mem h2), rfl⟩) ?_
      refine r_p (by simp [h1, h2, -ldV]; rfl) ?_
      refine r_c false (he _ (List.getElem_mem h2) _ hi2 hi3) hg (rfl) (by simp; exact ⟨rfl, rfl⟩) ?_
      refine r_p (by simp [h1, h2, -ldV]; rfl) ?_
      refine r_nil ?_
      refine w_reg_seq 704 832 rfl (by simp) ?_
      refine r_p (by simp [h1, h2, -ldV]; rfl) ?_
      refine r_p (by simp [h1, h2, -ldV]; rfl) ?_
      refine r_nil ?_
      refine w_case (by simp only [↓mk_get, ↓fr_eq, ↓fr_ne]; rfl) (fun h3 => ?_) (fun h3 => ?_)
      · try simp only [decide_eq_true_eq, decide_eq_false_iff_not, Bool.not_eq_true', Bool.not_eq_false', Bool.and_eq_true, Bool.or_eq_true, Bool.or_eq_false_iff] at h3
        refine w_reg_seq 832 896 rfl (by simp) ?_
        refine r_p (by simp [h1, h2, h3, -ldV]; rfl) ?_
        refine r_nil ?_
        refine w_ret ?_
        refine blockQ_r ?_
        refine thenQ_r ?_
        refine thenQ_r ?_
        refine blockQ_r ?_
        refine thenQ_r ?_
        refine endQ_r (by simp [h1, h2, h3, -ldV]; rfl) (.inl ⟨_, _, by simp [h1, h2, h3, -ldV]; first | exact ⟨rfl, rfl⟩ | rfl, by simp, by rw [List.drop_eq_getElem_cons h2] at hi4; simp only [szAll, h3, if_true] at hi4; simp [szS, h1, ← hi4]⟩)
      · try simp only [decide_eq_true_eq, decide_eq_false_iff_not, Bool.not_eq_true', Bool.not_eq_false', Bool.and_eq_true, Bool.or_eq_true, Bool.or_eq_false_iff] at h3
        refine w_skip ?_
        refine blockQ_n ?_
        refine thenQ_n ?_
        refine w_reg 832 1024 rfl (by simp) ?_
        refine r_p (by simp [h1, h2, h3, -ldV]; rfl) ?_
        refine r_p (by simp [h1, h2, h3, -ldV]; first | exact ⟨_, i_add (by omega), rfl⟩ | exact ⟨_, s_add (by first | omega | (simp; omega)), rfl⟩) ?_
        refine r_p (by simp [h1, h2, h3, -ldV]; rfl) ?_
        refine r_nil ?_
        refine thenQ_n ?_
        refine aw_ren [0, 1, 5] [] 0 (by simp [h1, h2, h3, -ldV]; try rfl) (by simp; try rfl) (by simp) (by simp) (by simp) ⟨⟨(i + 1, e L[i] l), by have hx := hle _ (List.getElem_mem h2) l hi2; rw [List.drop_eq_getElem_cons h2] at hi4; simp only [szAll, h3, if_false] at hi4; exact ⟨by dsimp only; omega, by dsimp only; omega, by dsimp only; omega, hi4⟩⟩, rfl, by dsimp only; omega⟩
    · try simp only [decide_eq_true_eq, decide_eq_false_iff_not, Bool.not_eq_true', Bool.not_eq_false', Bool.and_eq_true, Bool.or_eq_true, Bool.or_eq_false_iff] at h2
      refine w_exit ?_
      refine thenQ_e ?_
      refine thenQ_e ?_
      refine blockQ_e ?_
      refine thenQ_n ?_
      refine w_reg_seq 256 384 rfl (by simp) ?_
      refine r_p (by simp [h1, h2, -ldV]; rfl) ?_
      refine r_p (by simp [h1, h2, -ldV]; rfl) ?_
      refine r_nil ?_
      refine w_ret ?_
      refine endQ_r (by simp [h1, h2, -ldV]; rfl) (.inl ⟨_, _, by simp [h1, h2, -ldV]; first | exact ⟨rfl, rfl⟩ | rfl, by simp, by rw [List.drop_of_length_le (by omega)] at hi4; simp only [szAll] at hi4; simp [szS, h1, ← hi4]⟩)

def mToS (g sz bt : Nat) (z : V) (ag : Bool) : MC := (.seq (.reg [⟨(some 2), none, (.f (.nilrow sz))⟩]) (.seq (.reg [⟨(some 5), none, (.p (.mv (.t 0)))⟩, ⟨(some 6), none, (.p (.len (.t 5)))⟩, ⟨(some 7), none, (.f (.mks sz bt z (.t 6) (.t 6)))⟩, ⟨(some 3), none, (.p (.mv (.t 7)))⟩]) (.seq (.seq (.reg [⟨(some 4), none, (.p (.mv (.c (.int .i64 0))))⟩]) (.block 0 (.loop (.seq (.seq (.reg [⟨(some 8), none, (.p (.mv (.t 4)))⟩, ⟨(some 9), none, (.p (.mv (.t 0)))⟩, ⟨(some 10), none, (.p (.len (.t 9)))⟩, ⟨(some 11), none, (.p (.bin .lss (.t 8) (.t 10)))⟩]) (.cond (.t 11) .skip (.exit 0))) (.seq (.block 1 (.reg [⟨(some 14), none, (.p (.mv (.t 3)))⟩, ⟨(some 15), none, (.p (.mv (.t 4)))⟩, ⟨(some 16), none, (.p (.mv (.t 0)))⟩, ⟨(some 17), none, (.p (.mv (.t 4)))⟩, ⟨(some 18), none, (.p (.iad (.t 16) (.t 17) sz))⟩, ⟨(some 19), none, (.p (.ld (.t 18) sz ag))⟩, ⟨(some 20), none, (.call g [(.t 19)])⟩, ⟨(some 21), none, (.p (.iad (.t 14) (.t 15) sz))⟩, ⟨none, none, (.f (.st (.t 21) (.t 20) sz))⟩])) (.reg [⟨(some 12), none, (.p (.mv (.t 4)))⟩, ⟨(some 13), none, (.p (.bin .add (.t 12) (.c (.int .i64 1))))⟩, ⟨(some 4), none, (.p (.mv (.t 13)))⟩])))))) (.seq (.reg [⟨(some 22), none, (.p (.mv (.t 3)))⟩, ⟨(some 2), none, (.p (.mv (.t 22)))⟩]) .ret))))

/-- A copy of L, up to i. -/
def cpy (z : V) (L : List V) (i : Nat) : List V := L.take i ++ List.replicate (L.length - i) z
theorem cpy_len {z : V} {L : List V} {i : Nat} (h : i ≤ L.length) : (cpy z L i).length = L.length := by simp [cpy]; omega
theorem cpy_get {z : V} {L : List V} {i : Nat} (h : i < L.length) : (cpy z L i)[i]? = some z := by
  unfold cpy
  rw [List.getElem?_append_right (by simp; omega)]
  simp [List.getElem?_replicate]; omega
theorem cpy_set {z : V} {L : List V} {i : Nat} (h : i < L.length) : (cpy z L i).set i L[i] = cpy z L (i + 1) := by
  unfold cpy
  have e : L.length - i = (L.length - (i + 1)) + 1 := by omega
  rw [e, List.replicate_succ, List.set_append_right _ _ (by simp; omega)]
  have e2 : i - (L.take i).length = 0 := by simp; omega
  rw [e2, List.set_cons_zero, List.take_succ_eq_append_getElem h]
  simp only [List.append_assoc, List.singleton_append]
theorem cpy_end {z : V} {L : List V} {i : Nat} (h : ¬ i < L.length) (h2 : i ≤ L.length) : cpy z L i = L := by
  have : i = L.length := by omega
  subst this
  simp [cpy]

theorem toS_con {P : Program} {f g sz bt : Nat} {z : V} {ag : Bool} (hc : compFn P f = some (mToS g sz bt z ag, [.tmp 2])) (hg : okFn P g = true) (L : List V) (hlen : (L.length : Int) ≤ 9223372036854775807) (hbt : (bt : Int) * (L.length : Int) ≤ 281474976710656) (hL : ∀ x ∈ L, ldV x.cells 0 sz ag = some x ∧ x.plain = true ∧ x.cells.length = sz ∧ patch z 0 x.cells = x) (he : ∀ x ∈ L, Con P g [x] (.v x)) : Con P f [.sl sz L] (.r true sz L) := by
  refine con_of hc fun N => ?_
  refine w_reg_seq 0 64 rfl (by simp) ?_
  refine r_f (by simp [-ldV, -patch]; exact ⟨rfl, rfl⟩) ?_
  refine r_nil ?_
  refine w_reg_seq 64 320 rfl (by simp) ?_
  refine r_p (by simp [-ldV, -patch]; rfl) ?_
  refine r_p (by simp [-ldV, -patch]; rfl) ?_
  refine r_f (by simp [hbt, hlen]; exact ⟨rfl, rfl⟩) ?_
  refine r_p (by simp [-ldV, -patch]; rfl) ?_
  refine r_nil ?_
  refine w_seq ?_
  refine w_reg_seq 320 384 rfl (by simp) ?_
  refine r_p (by simp [-ldV, -patch]; rfl) ?_
  refine r_nil ?_
  refine w_block ?_
  refine w_ren [0, 3, 4] [(192, 0)] 6400 (by simp [-ldV, -patch]; rfl) (by simp; try rfl) (by simp) (by simp) (by simp) ?_
  refine w_loop (ι := {p : Nat // p ≤ L.length}) (fun p => mkS [(0, .val none (.sl sz L)), (3, .sl 0 0 L.length), (4, .val none (.int .i64 p.1))] (fo [(0, .row true sz (cpy z L p.1))]) 6400) (fun p => L.length - p.1) ⟨0, by omega⟩ rfl ?_
  rintro ⟨i, hi1⟩
  dsimp only at hi1 ⊢
  refine w_seq ?_
  refine w_reg_seq 6400 6656 rfl (by simp) ?_
  refine r_p (by simp [-ldV, -patch]; rfl) ?_
  refine r_p (by simp [-ldV, -patch]; rfl) ?_
  refine r_p (by simp [-ldV, -patch]; rfl) ?_
  refine r_p (by simp [-ldV, -patch]; rfl) ?_
  refine r_nil ?_
  refine w_case (by simp only [↓mk_get, ↓fr_eq, ↓fr_ne]; rfl) (fun h1 => ?_) (fun h1 => ?_)
  · try simp only [decide_eq_true_eq, decide_eq_false_iff_not, Bool.not_eq_true', Bool.not_eq_false', Bool.and_eq_true, Bool.or_eq_true, Bool.or_eq_false_iff] at h1
    refine w_skip ?_
    refine thenQ_n ?_
    refine w_seq ?_
    refine w_block ?_
    refine w_reg 6656 7232 rfl (by simp) ?_
    refine r_p (by simp [h1, -ldV, -patch]; rfl) ?_
    refine r_p (by simp [h1, -ldV, -patch]; rfl) ?_
    refine r_p (by simp [h1, -ldV, -patch]; rfl) ?_
    refine r_p (by simp [h1, -ldV, -patch]; rfl) ?_
    refine r_p (by simp [h1, -ldV, -patch]; rfl) ?_
    refine r_p (by simp [h1, -ldV]; exact ⟨_, (hL _ (List.getElem_mem h1)).1, rfl⟩) ?_
    refine r_c false (he _ (List.getElem_mem h1)) hg (rfl) (by simp; exact ⟨rfl, rfl⟩) ?_
    refine r_p (by simp [h1, -ldV, -patch]; rfl) ?_
    refine r_f0 (by have hx := hL _ (List.getElem_mem h1); simp [h1, -ldV, -patch, cpy_get h1, hx.2.1, hx.2.2.1, hx.2.2.2, cpy_set h1]; exact ⟨rfl, rfl⟩) ?_
    refine r_nil ?_
    refine blockQ_n ?_
    refine thenQ_n ?_
    refine w_reg 7232 7424 rfl (by simp) ?_
    refine r_p (by simp [h1, -ldV, -patch]; rfl) ?_
    refine r_p (by simp [h1, -ldV, -patch]; first | exact ⟨_, i_add (by omega), rfl⟩ | exact ⟨_, s_add (by first | omega | (simp; omega)), rfl⟩) ?_
    refine r_p (by simp [h1, -ldV, -patch]; rfl) ?_
    refine r_nil ?_
    refine thenQ_n ?_
    refine aw_ren [0, 3, 4] [(0, 0)] 6400 (by simp [h1, -ldV, -patch]; try rfl) (by simp; try rfl) (by simp) (by simp) (by simp) ⟨⟨i + 1, by omega⟩, rfl, by dsimp only; omega⟩
  · try simp only [decide_eq_true_eq, decide_eq_false_iff_not, Bool.not_eq_true', Bool.not_eq_false', Bool.and_eq_true, Bool.or_eq_true, Bool.or_eq_false_iff] at h1
    refine w_exit ?_
    refine thenQ_e ?_
    refine thenQ_e ?_
    refine blockQ_e ?_
    refine thenQ_n ?_
    refine w_reg_seq 6656 6784 rfl (by simp) ?_
    refine r_p (by simp [h1, -ldV, -patch]; rfl) ?_
    refine r_p (by simp [h1, -ldV, -patch]; rfl) ?_
    refine r_nil ?_
    refine w_ret ?_
    refine endQ_r (by simp [h1, -ldV, -patch]; rfl) (.inl ⟨_, _, by simp [h1, -ldV, -patch]; first | exact ⟨rfl, rfl⟩ | rfl, by simp, by simp [cpy_end h1 hi1, cpy_len hi1, List.take_of_length_le]⟩)

/-- The copy of an element is stored: the element, with all that it owns. -/
def Stored (sz : Nat) (x : V) (res : RV) : Prop := res.fits = true ∧ ∀ M, ∃ av O L', plV 7040 (fo [(0, .row true sz M)]) res = (av, fo O) ∧ elem (fo O) av = some (x, true, fo L') ∧ fo O 0 = some (.row true sz M) ∧ fo L' 0 = some (.row true sz M)

theorem toS_con2 {P : Program} {f g sz bt : Nat} {z : V} {ag : Bool} (hc : compFn P f = some (mToS g sz bt z ag, [.tmp 2])) (hg : okFn P g = true) (L : List V) (hlen : (L.length : Int) ≤ 9223372036854775807) (hbt : (bt : Int) * (L.length : Int) ≤ 281474976710656) (hL : ∀ x ∈ L, ldV x.cells 0 sz ag = some x ∧ x.cells.length = sz ∧ patch z 0 x.cells = x) (res : V → RV) (hres : ∀ x ∈ L, Stored sz x (res x)) (he : ∀ x ∈ L, Con P g [x] (res x)) : Con P f [.sl sz L] (.r true sz L) := by
  refine con_of hc fun N => ?_
  refine w_reg_seq 0 64 rfl (by simp) ?_
  refine r_f (by simp [-ldV, -patch]; exact ⟨rfl, rfl⟩) ?_
  refine r_nil ?_
  refine w_reg_seq 64 320 rfl (by simp) ?_
  refine r_p (by simp [-ldV, -patch]; rfl) ?_
  refine r_p (by simp [-ldV, -patch]; rfl) ?_
  refine r_f (by simp [hbt, hlen]; exact ⟨rfl, rfl⟩) ?_
  refine r_p (by simp [-ldV, -patch]; rfl) ?_
  refine r_nil ?_
  refine w_seq ?_
  refine w_reg_seq 320 384 rfl (by simp) ?_
  refine r_p (by simp [-ldV, -patch]; rfl) ?_
  refine r_nil ?_
  refine w_block ?_
  refine w_ren [0, 3, 4] [(192, 0)] 6400 (by simp [-ldV, -patch]; rfl) (by simp; try rfl) (by simp) (by simp) (by simp) ?_
  refine w_loop (ι := {p : Nat // p ≤ L.length}) (fun p => mkS [(0, .val none (.sl sz L)), (3, .sl 0 0 L.length), (4, .val none (.int .i64 p.1))] (fo [(0, .row true sz (cpy z L p.1))]) 6400) (fun p => L.length - p.1) ⟨0, by omega⟩ rfl ?_
  rintro ⟨i, hi1⟩
  dsimp only at hi1 ⊢
  refine w_seq ?_
  refine w_reg_seq 6400 6656 rfl (by simp) ?_
  refine r_p (by simp [-ldV, -patch]; rfl) ?_
  refine r_p (by simp [-ldV, -patch]; rfl) ?_
  refine r_p (by simp [-ldV, -patch]; rfl) ?_
  refine r_p (by simp [-ldV, -patch]; rfl) ?_
  refine r_nil ?_
  refine w_case (by simp only [↓mk_get, ↓fr_eq, ↓fr_ne]; rfl) (fun h1 => ?_) (fun h1 => ?_)
  · try simp only [decide_eq_true_eq, decide_eq_false_iff_not, Bool.not_eq_true', Bool.not_eq_false', Bool.and_eq_true, Bool.or_eq_true, Bool.or_eq_false_iff] at h1
    refine w_skip ?_
    refine thenQ_n ?_
    refine w_seq ?_
    refine w_block ?_
    refine w_reg 6656 7232 rfl (by simp) ?_
    refine r_p (by simp [h1, -ldV, -patch]; rfl) ?_
    refine r_p (by simp [h1, -ldV, -patch]; rfl) ?_
    refine r_p (by simp [h1, -ldV, -patch]; rfl) ?_
    refine r_p (by simp [h1, -ldV, -patch]; rfl) ?_
    refine r_p (by simp [h1, -ldV, -patch]; rfl) ?_
    refine r_p (by simp [h1, -ldV]; exact ⟨_, (hL _ (List.getElem_mem h1)).1, rfl⟩) ?_
    obtain ⟨hfit, hst⟩ := hres _ (List.getElem_mem h1)
    obtain ⟨av, O, L2, hp, hel, hO, hL2⟩ := hst (cpy z L i)
    refine r_c false (he _ (List.getElem_mem h1)) hg rfl hp ?_ hfit
    refine r_p (by simp [h1, hO]; rfl) ?_
    refine r_f0 (by have hx := hL _ (List.getElem_mem h1); simp [h1, -ldV, -patch, -elem, hO, hel, hL2, cpy_get h1, hx.2.1, hx.2.2, cpy_set h1]; exact ⟨rfl, rfl⟩) ?_
    refine r_nil ?_
    refine blockQ_n ?_
    refine thenQ_n ?_
    refine w_reg 7232 7424 rfl (by simp) ?_
    refine r_p (by simp [h1, -ldV, -patch]; rfl) ?_
    refine r_p (by simp [h1, -ldV, -patch]; first | exact ⟨_, i_add (by omega), rfl⟩ | exact ⟨_, s_add (by first | omega | (simp; omega)), rfl⟩) ?_
    refine r_p (by simp [h1, -ldV, -patch]; rfl) ?_
    refine r_nil ?_
    refine thenQ_n ?_
    refine aw_ren [0, 3, 4] [(0, 0)] 6400 (by simp [h1, -ldV, -patch]; try rfl) (by simp; try rfl) (by simp) (by simp) (by simp) ⟨⟨i + 1, by omega⟩, rfl, by dsimp only; omega⟩
  · try simp only [decide_eq_true_eq, decide_eq_false_iff_not, Bool.not_eq_true', Bool.not_eq_false', Bool.and_eq_true, Bool.or_eq_true, Bool.or_eq_false_iff] at h1
    refine w_exit ?_
    refine thenQ_e ?_
    refine thenQ_e ?_
    refine blockQ_e ?_
    refine thenQ_n ?_
    refine w_reg_seq 6656 6784 rfl (by simp) ?_
    refine r_p (by simp [h1, -ldV, -patch]; rfl) ?_
    refine r_p (by simp [h1, -ldV, -patch]; rfl) ?_
    refine r_nil ?_
    refine w_ret ?_
    refine endQ_r (by simp [h1, -ldV, -patch]; rfl) (.inl ⟨_, _, by simp [h1, -ldV, -patch]; first | exact ⟨rfl, rfl⟩ | rfl, by simp, by simp [cpy_end h1 hi1, cpy_len hi1, List.take_of_length_le]⟩)

def mEqS (g sz : Nat) (ag : Bool) : MC := (.seq (.reg [⟨(some 4), none, (.p (.mv (.c (.bool false))))⟩]) (.seq (.seq (.reg [⟨(some 6), none, (.p (.mv (.t 0)))⟩, ⟨(some 7), none, (.p (.len (.t 6)))⟩, ⟨(some 8), none, (.p (.mv (.t 1)))⟩, ⟨(some 9), none, (.p (.len (.t 8)))⟩, ⟨(some 10), none, (.p (.bin .neq (.t 7) (.t 9)))⟩]) (.cond (.t 10) (.seq (.reg [⟨(some 4), none, (.p (.mv (.c (.bool false))))⟩]) .ret) .skip)) (.seq (.seq (.reg [⟨(some 5), none, (.p (.mv (.c (.int .i64 0))))⟩]) (.block 0 (.loop (.seq (.seq (.reg [⟨(some 11), none, (.p (.mv (.t 5)))⟩, ⟨(some 12), none, (.p (.mv (.t 0)))⟩, ⟨(some 13), none, (.p (.len (.t 12)))⟩, ⟨(some 14), none, (.p (.bin .lss (.t 11) (.t 13)))⟩]) (.cond (.t 14) .skip (.exit 0))) (.seq (.block 1 (.seq (.reg [⟨(some 17), none, (.p (.mv (.t 0)))⟩, ⟨(some 18), none, (.p (.mv (.t 5)))⟩, ⟨(some 19), none, (.p (.iad (.t 17) (.t 18) sz))⟩, ⟨(some 20), none, (.p (.ld (.t 19) sz ag))⟩, ⟨(some 21), none, (.p (.mv (.t 1)))⟩, ⟨(some 22), none, (.p (.mv (.t 5)))⟩, ⟨(some 23), none, (.p (.iad (.t 21) (.t 22) sz))⟩, ⟨(some 24), none, (.p (.ld (.t 23) sz ag))⟩, ⟨(some 25), none, (.call g [(.t 20), (.t 24)])⟩, ⟨(some 26), none, (.p (.not (.t 25)))⟩]) (.cond (.t 26) (.seq (.reg [⟨(some 4), none, (.p (.mv (.c (.bool false))))⟩]) .ret) .skip))) (.reg [⟨(some 15), none, (.p (.mv (.t 5)))⟩, ⟨(some 16), none, (.p (.bin .add (.t 15) (.c (.int .i64 1))))⟩, ⟨(some 5), none, (.p (.mv (.t 16)))⟩])))))) (.seq (.reg [⟨(some 4), none, (.p (.mv (.c (.bool true))))⟩]) .ret))))

theorem eqS_con {P : Program} {f g sz : Nat} {ag : Bool} (hc : compFn P f = some (mEqS g sz ag, [.tmp 4])) (hg : okFn P g = true) (L : List V) (hlen : (L.length : Int) ≤ 9223372036854775807) (hL : ∀ x ∈ L, ldV x.cells 0 sz ag = some x) (he : ∀ x ∈ L, Con P g [x, x] (.v (.bool true))) : Con P f [.sl sz L, .sl sz L] (.v (.bool true)) := by
  refine con_of hc fun N => ?_
  refine w_reg_seq 0 64 rfl (by simp) ?_
  refine r_p (by simp [-ldV]; rfl) ?_
  refine r_nil ?_
  refine w_seq ?_
  refine w_reg_seq 64 384 rfl (by simp) ?_
  refine r_p (by simp [-ldV]; rfl) ?_
  refine r_p (by simp [-ldV]; rfl) ?_
  refine r_p (by simp [-ldV]; rfl) ?_
  refine r_p (by simp [-ldV]; rfl) ?_
  refine r_p (by simp [-ldV]; rfl) ?_
  refine r_nil ?_
  refine w_false (by simp [-ldV]) ?_
  refine w_skip ?_
  refine thenQ_n ?_
  refine w_seq ?_
  refine w_reg_seq 384 448 rfl (by simp) ?_
  refine r_p (by simp [-ldV]; rfl) ?_
  refine r_nil ?_
  refine w_block ?_
  refine w_ren [0, 1, 5] [] 6400 (by simp [-ldV]; rfl) (by simp; try rfl) (by simp) (by simp) (by simp) ?_
  refine w_loop (ι := {p : Nat // p ≤ L.length}) (fun p => mkS [(0, .val none (.sl sz L)), (1, .val none (.sl sz L)), (5, .val none (.int .i64 p.1))] (fo []) 6400) (fun p => L.length - p.1) ⟨0, by omega⟩ rfl ?_
  rintro ⟨i, hi1⟩
  dsimp only at hi1 ⊢
  refine w_seq ?_
  refine w_reg_seq 6400 6656 rfl (by simp) ?_
  refine r_p (by simp [-ldV]; rfl) ?_
  refine r_p (by simp [-ldV]; rfl) ?_
  refine r_p (by simp [-ldV]; rfl) ?_
  refine r_p (by simp [-ldV]; rfl) ?_
  refine r_nil ?_
  refine w_case (by simp only [↓mk_get, ↓fr_eq, ↓fr_ne]; rfl) (fun h1 => ?_) (fun h1 => ?_)
  · try simp only [decide_eq_true_eq, decide_eq_false_iff_not, Bool.not_eq_true', Bool.not_eq_false', Bool.and_eq_true, Bool.or_eq_true, Bool.or_eq_false_iff] at h1
    refine w_skip ?_
    refine thenQ_n ?_
    refine w_seq ?_
    refine w_block ?_
    refine w_reg_seq 6656 7296 rfl (by simp) ?_
    refine r_p (by simp [h1, -ldV]; rfl) ?_
    refine r_p (by simp [h1, -ldV]; rfl) ?_
    refine r_p (by simp [h1, -ldV]; rfl) ?_
    refine r_p (by simp [h1, -ldV]; exact ⟨_, hL _ (List.getElem_mem h1), rfl⟩) ?_
    refine r_p (by simp [h1, -ldV]; rfl) ?_
    refine r_p (by simp [h1, -ldV]; rfl) ?_
    refine r_p (by simp [h1, -ldV]; rfl) ?_
    refine r_p (by simp [h1, -ldV]; exact ⟨_, hL _ (List.getElem_mem h1), rfl⟩) ?_
    refine r_c false (he _ (List.getElem_mem h1)) hg (rfl) (by simp; exact ⟨rfl, rfl⟩) ?_
    refine r_p (by simp [h1, -ldV]; rfl) ?_
    refine r_nil ?_
    refine w_false (by simp [h1, -ldV]) ?_
    refine w_skip ?_
    refine blockQ_n ?_
    refine thenQ_n ?_
    refine w_reg 7296 7488 rfl (by simp) ?_
    refine r_p (by simp [h1, -ldV]; rfl) ?_
    refine r_p (by simp [h1, -ldV]; first | exact ⟨_, i_add (by omega), rfl⟩ | exact ⟨_, s_add (by first | omega | (simp; omega)), rfl⟩) ?_
    refine r_p (by simp [h1, -ldV]; rfl) ?_
    refine r_nil ?_
    refine thenQ_n ?_
    refine aw_ren [0, 1, 5] [] 6400 (by simp [h1, -ldV]; try rfl) (by simp; try rfl) (by simp) (by simp) (by simp) ⟨⟨i + 1, by omega⟩, rfl, by dsimp only; omega⟩
  · try simp only [decide_eq_true_eq, decide_eq_false_iff_not, Bool.not_eq_true', Bool.not_eq_false', Bool.and_eq_true, Bool.or_eq_true, Bool.or_eq_false_iff] at h1
    refine w_exit ?_
    refine thenQ_e ?_
    refine thenQ_e ?_
    refine blockQ_e ?_
    refine thenQ_n ?_
    refine w_reg_seq 6656 6720 rfl (by simp) ?_
    refine r_p (by simp [h1, -ldV]; rfl) ?_
    refine r_nil ?_
    refine w_ret ?_
    refine endQ_r (by simp [h1, -ldV]; rfl) (.inl ⟨_, _, by simp [h1, -ldV]; first | exact ⟨rfl, rfl⟩ | rfl, by simp, by simp [*]⟩)

end Go.Ab
