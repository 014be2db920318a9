/- RelationOf: how near two persons are (own text). -/
import Derived.Test.YtcoeihkaikmdpaaPHas
import Derived.Test.YtcoeihkaikmdpaaPAsk
import Derived.Test.YtcoeihkaikmdpaaPMap
set_option linter.unusedVariables false
set_option linter.unusedSimpArgs false
namespace Go.Ab
open Go.RowKit

def adjP (p q : TPerson) : Prop := q.1 ∈ p.2.2 ∨ p.1 ∈ q.2.2
theorem adjP_symm {p q : TPerson} (h : adjP p q) : adjP q p := h.symm
/-- Within so many steps of `a`. -/
def Rch (A : List TPerson) (a : List UInt8) : Nat → TPerson → Prop
  | 0, p => p.1 = a
  | k + 1, p => Rch A a k p ∨ ∃ q, q ∈ A ∧ Rch A a k q ∧ adjP q p
theorem rch_mono {A : List TPerson} {a : List UInt8} {p : TPerson} {k k' : Nat} (h : k ≤ k') (hr : Rch A a k p) : Rch A a k' p := by
  induction h with
  | refl => exact hr
  | step _ ih => exact .inl ih
def Dst (A : List TPerson) (a : List UInt8) (d : Nat) (p : TPerson) : Prop := Rch A a d p ∧ ∀ k, k < d → ¬ Rch A a k p
theorem dst_uniq {A : List TPerson} {a : List UInt8} {p : TPerson} {d d' : Nat} (h : Dst A a d p) (h' : Dst A a d' p) : d = d' := by
  rcases Nat.lt_trichotomy d d' with h1 | h1 | h1
  · exact absurd h.1 (h'.2 d h1)
  · exact h1
  · exact absurd h'.1 (h.2 d' h1)
theorem dst_of_rch {A : List TPerson} {a : List UInt8} {p : TPerson} : ∀ {k : Nat}, Rch A a k p → ∃ d, d ≤ k ∧ Dst A a d p
  | 0, h => ⟨0, Nat.le_refl _, h, fun k hk => by omega⟩
  | k + 1, h => by
    by_cases hk : Rch A a k p
    · obtain ⟨d, h1, h2⟩ := dst_of_rch hk
      exact ⟨d, by omega, h2⟩
    · exact ⟨k + 1, Nat.le_refl _, h, fun j hj hr => hk (rch_mono (by omega) hr)⟩

/-! The reference. -/
/-- A number for each person. -/
def FarP (A : List TPerson) (far : List Int) (ok : TPerson → Int → Prop) : Prop := far.length = A.length ∧ ∀ (i : Nat) p, A[i]? = some p → ∃ x, far[i]? = some x ∧ ok p x
def okF (A : List TPerson) (a : List UInt8) (s : Nat) (p : TPerson) (x : Int) : Prop := (x = -1 ∧ ¬ Rch A a s p) ∨ ∃ d : Nat, x = d ∧ d ≤ s ∧ Dst A a d p
def okM (A : List TPerson) (a : List UInt8) (s : Nat) (p : TPerson) (x : Int) : Prop := okF A a s p x ∨ (x = ((s + 1 : Nat) : Int) ∧ Dst A a (s + 1) p)
theorem okM_eq {A : List TPerson} {a : List UInt8} {s : Nat} {p : TPerson} {x : Int} (h : okM A a s p x) : (x = (s : Int) ↔ Dst A a s p) ∧ (x < 0 → x = -1 ∧ ¬ Rch A a s p) := by
  rcases h with (⟨rfl, h⟩ | ⟨d, rfl, h1, h2⟩) | ⟨rfl, h⟩
  · refine ⟨⟨fun h => by omega, fun hd => absurd hd.1 h⟩, fun _ => ⟨rfl, h⟩⟩
  · refine ⟨⟨fun h => ?_, fun hd => ?_⟩, fun h => by omega⟩
    · have : d = s := by omega
      subst this; exact h2
    · have := dst_uniq h2 hd; omega
  · refine ⟨⟨fun h => by omega, fun hd => ?_⟩, fun h => by omega⟩
    have := dst_uniq h hd; omega
theorem far_ix {A : List TPerson} {far : List Int} {ok : TPerson → Int → Prop} (h : FarP A far ok) {n : Int} {p : TPerson} (hp : ix A n = some p) : ∃ x, ix far n = some x ∧ ok p x := by
  obtain ⟨h1, h2⟩ := ix_some hp
  obtain ⟨x, h3, h4⟩ := h.2 _ p h2
  exact ⟨x, by unfold ix; rw [if_pos h1]; exact h3, h4⟩
theorem far_set {A : List TPerson} (hV : VP A) {a : List UInt8} {far : List Int} {s : Nat} (h : FarP A far (okM A a s)) {n : Int} {p : TPerson} (hp : ix A n = some p) (hd : Dst A a (s + 1) p) :
    FarP A (far.set n.toNat ((s + 1 : Nat) : Int)) (okM A a s) ∧ (∀ (q : TPerson) (m x : Int), ix A m = some q → ix far m = some x → 0 ≤ x → ∃ y, ix (far.set n.toNat ((s + 1 : Nat) : Int)) m = some y ∧ 0 ≤ y) ∧ ix (far.set n.toNat ((s + 1 : Nat) : Int)) n = some ((s + 1 : Nat) : Int) := by
  obtain ⟨h1, h2⟩ := ix_some hp
  have hl : n.toNat < far.length := by rw [h.1]; exact get_lt h2
  refine ⟨⟨by rw [List.length_set]; exact h.1, fun i q hq => ?_⟩, ?_, ?_⟩
  · by_cases e : i = n.toNat
    · subst e
      rw [h2] at hq
      simp only [Option.some.injEq] at hq; subst hq
      exact ⟨_, List.getElem?_set_self hl, .inr ⟨rfl, hd⟩⟩
    · rw [List.getElem?_set_ne (fun h => e h.symm)]
      exact h.2 i q hq
  · intro q m x hq hx hx0
    obtain ⟨m1, m2⟩ := ix_some hx
    unfold ix
    rw [if_pos m1]
    by_cases e : m.toNat = n.toNat
    · rw [e]; exact ⟨_, List.getElem?_set_self hl, by omega⟩
    · rw [List.getElem?_set_ne (fun h => e h.symm)]
      exact ⟨x, m2, hx0⟩
  · unfold ix
    rw [if_pos h1]
    exact List.getElem?_set_self hl
/-- What a pair asks once it has been looked at. -/
def Seen (A : List TPerson) (a : List UInt8) (s : Nat) (far : List Int) (p : TPerson) (t : List UInt8) : Prop :=
  ∀ q, ix A (atP A t) = some q → (Dst A a s p → ∃ y, ix far (atP A t) = some y ∧ 0 ≤ y) ∧ (Dst A a s q → ∃ y, ix far (atP A p.1) = some y ∧ 0 ≤ y)
theorem dst_next {A : List TPerson} {a : List UInt8} {s : Nat} {p q : TPerson} (hp : p ∈ A) (h : Dst A a s p) (ha : adjP p q) (hq : ¬ Rch A a s q) : Dst A a (s + 1) q :=
  ⟨.inr ⟨p, hp, h.1, ha⟩, fun k hk hr => hq (rch_mono (by omega) hr)⟩
theorem room_lit {n : Nat} {x : Int} (h : n ≤ 100) : room (n + ([x] : List Int).length) 8 := by
  refine ⟨?_, ?_⟩ <;> simp only [List.length_cons, List.length_nil] <;> omega
theorem spec_rel {A : List TPerson} (hA : OkPersons A) (hV : VP A) {a b : List UInt8} (ha : 0 ≤ atP A a) (hb : 0 ≤ atP A b) :
    ∃ r, loop (F_spec_RelationOf_l1 A a b) (0, []) = some r ∧ ∃ x pb, ix A (atP A b) = some pb ∧ okF A a A.length pb x ∧ r = if x < 0 then (0, 6) else (x, 0) := by
  have hlen := hV.len
  obtain ⟨qb, hqb, hib, hnb⟩ := at_pos hb
  obtain ⟨qa, hqa, hia, hna⟩ := at_pos ha
  refine loop_ex (L := A) (fun i s => s = ((i : Int), List.replicate i (-1))) hA.1 rfl ?_ ?_
  · rintro i _ k p hp hi rfl hk
    have hil := get_lt hp
    simp only [F_spec_RelationOf_l1, int_lt (get_lt hp), bif_t, need_true (room_lit (n := (List.replicate i (-1 : Int)).length) (by simp; omega)), w64_succ hi]
    refine hk _ ?_
    rw [show List.replicate (i + 1) (-1 : Int) = List.replicate i (-1) ++ [-1] from List.replicate_succ']
  · rintro _ k rfl
    have h0 : ix (List.replicate A.length (-1 : Int)) (atP A a) = some (-1) := by
      unfold ix
      rw [if_pos ha, List.getElem?_replicate, if_pos (get_lt hqa)]
    simp only [F_spec_RelationOf_l1, int_lt_self, bif_f, l30Find_eq A a hA.1, Option.bind_some, h0]
    have start : FarP A ((List.replicate A.length (-1 : Int)).set (atP A a).toNat 0) (okF A a 0) := by
      refine ⟨by simp, fun i p hp => ?_⟩
      by_cases e : i = (atP A a).toNat
      · subst e
        rw [hqa] at hp
        simp only [Option.some.injEq] at hp; subst hp
        exact ⟨0, List.getElem?_set_self (by simp; exact get_lt hqa), .inr ⟨0, rfl, Nat.le_refl _, hna, fun k hk => by omega⟩⟩
      · rw [List.getElem?_set_ne (fun h => e h.symm), List.getElem?_replicate, if_pos (get_lt hp)]
        refine ⟨-1, rfl, .inl ⟨rfl, fun h => e ?_⟩⟩
        exact same_name hV.srt hp hqa (by rw [hna]; exact h)
    refine loop_ex (L := A) (fun i s => s.1 = (i : Int) ∧ FarP A s.2 (okF A a i)) hA.1 ⟨rfl, start⟩ ?_ ?_
    · rintro s ⟨_, far⟩ k _ hs hsi ⟨rfl, hF⟩ hk
      have hs24 := get_lt hs
      simp only [F_spec_RelationOf_l28, int_lt hs24, bif_t]
      refine loop_ex (L := A) (fun i st => st.1 = (i : Int) ∧ FarP A st.2 (okM A a s) ∧ ∀ (j : Nat) p, j < i → A[j]? = some p → ∀ t ∈ p.2.2, Seen A a s st.2 p t) hA.1 ⟨rfl, ⟨hF.1, fun i p hp => by
        obtain ⟨x, h1, h2⟩ := hF.2 i p hp
        exact ⟨x, h1, .inl h2⟩⟩, fun j p h => by omega⟩ ?_ ?_
      · rintro i ⟨_, far1⟩ k1 p hp hi ⟨rfl, hM, hSn⟩ hk1
        have hpm := get_mem hp
        have hpp := hV.each p hpm
        have hiA : ix A (i : Int) = some p := ix_get hp
        have hself : atP A p.1 = (i : Int) := at_self hV hp
        simp only [F_spec_RelationOf_l37, int_lt (get_lt hp), bif_t]
        refine loop_ex (L := p.2.2) (fun j st => st.1 = (j : Int) ∧ FarP A st.2 (okM A a s) ∧ (∀ (j : Nat) p, j < i → A[j]? = some p → ∀ t ∈ p.2.2, Seen A a s st.2 p t) ∧ ∀ t ∈ p.2.2.take j, Seen A a s st.2 p t) (by have := hpp.few; omega) ⟨rfl, hM, hSn, by simp⟩ ?_ ?_
        · rintro j ⟨_, far2⟩ k2 t ht hj ⟨rfl, hM2, hSn2, hT⟩ hk2
          obtain ⟨q, hq0, hqi, hqb⟩ := hpp.tch t (get_mem ht)
          have hqm := ix_mem hqi
          have hqn := name_at hqi
          have hadj : adjP p q := .inl (by rw [hqn]; exact get_mem ht)
          obtain ⟨xi, hxi, oxi⟩ := far_ix hM2 hiA
          obtain ⟨xq, hxq, oxq⟩ := far_ix hM2 hqi
          have hw : w64 ((s : Int) + 1) = ((s + 1 : Nat) : Int) := w64_succ (by omega)
          simp only [F_spec_RelationOf_l40, hiA, Option.bind_some, int_lt (get_lt ht), bif_t, ix_get ht, l30Find_eq A t hA.1, hxi, hw]
          -- behind the first half
          have half : ∀ far3, FarP A far3 (okM A a s) → (∀ (q : TPerson) (m x : Int), ix A m = some q → ix far2 m = some x → 0 ≤ x → ∃ y, ix far3 m = some y ∧ 0 ≤ y) → (Dst A a s p → ∃ y, ix far3 (atP A t) = some y ∧ 0 ≤ y) →
              ∃ r, F_spec_RelationOf_j41 (s : Int) (i : Int) (j : Int) (atP A t) k2 far3 = some r ∧ ∃ x pb, ix A (atP A b) = some pb ∧ okF A a A.length pb x ∧ r = if x < 0 then (0, 6) else (x, 0) := by
            intro far3 hM3 hK hD
            obtain ⟨yi, hyi, oyi⟩ := far_ix hM3 hiA
            obtain ⟨yq, hyq, oyq⟩ := far_ix hM3 hqi
            have fin : ∀ far4, FarP A far4 (okM A a s) → (∀ (q : TPerson) (m x : Int), ix A m = some q → ix far3 m = some x → 0 ≤ x → ∃ y, ix far4 m = some y ∧ 0 ≤ y) → (Dst A a s q → ∃ y, ix far4 (atP A p.1) = some y ∧ 0 ≤ y) →
                ∃ r, k2 (((j + 1 : Nat) : Int), far4) = some r ∧ ∃ x pb, ix A (atP A b) = some pb ∧ okF A a A.length pb x ∧ r = if x < 0 then (0, 6) else (x, 0) := by
              intro far4 hM4 hK4 hD4
              have up : ∀ (m : Int) (q : TPerson), ix A m = some q → (∃ y, ix far2 m = some y ∧ 0 ≤ y) → ∃ y, ix far4 m = some y ∧ 0 ≤ y := by
                rintro m q hq ⟨y, h1, h2⟩
                obtain ⟨y2, h3, h4⟩ := hK q m y hq h1 h2
                exact hK4 q m y2 hq h3 h4
              have lift : ∀ (p2 : TPerson) t2, p2 ∈ A → Seen A a s far2 p2 t2 → Seen A a s far4 p2 t2 := by
                intro p2 t2 hp2 h q2 hq2
                obtain ⟨h1, h2⟩ := h q2 hq2
                refine ⟨fun hd => up _ q2 hq2 (h1 hd), fun hd => ?_⟩
                obtain ⟨j2, hj2⟩ := List.mem_iff_getElem?.1 hp2
                exact up _ p2 (by rw [at_self hV hj2]; exact ix_get hj2) (h2 hd)
              refine hk2 _ ⟨rfl, hM4, fun j2 p2 h1 h2 t2 ht2 => lift p2 t2 (get_mem h2) (hSn2 j2 p2 h1 h2 t2 ht2), ?_⟩
              intro t2 ht2
              rw [take_succ ht] at ht2
              rcases List.mem_append.1 ht2 with ht2 | ht2
              · exact lift p t2 hpm (hT t2 ht2)
              · rw [List.mem_singleton.1 ht2]
                intro q2 hq2
                rw [hqi] at hq2
                simp only [Option.some.injEq] at hq2; subst hq2
                refine ⟨fun hd => ?_, hD4⟩
                obtain ⟨y, h1, h2⟩ := hD hd
                exact hK4 q _ y hqi h1 h2
            simp only [F_spec_RelationOf_j41, hyq, hyi, Option.bind_some, bif_dec, w64_succ hj]
            split
            · rename_i he
              have hdq := (okM_eq oyq).1.1 he
              split
              · rename_i hneg
                obtain ⟨_, hn⟩ := (okM_eq oyi).2 hneg
                obtain ⟨g1, g2, g3⟩ := far_set hV hM3 hiA (dst_next hqm hdq (adjP_symm hadj) hn)
                rw [show w64 ((s : Int) + 1) = ((s + 1 : Nat) : Int) from hw]
                exact fin _ g1 g2 (fun _ => ⟨_, by rw [hself]; exact g3, by omega⟩)
              · rename_i hneg
                exact fin _ hM3 (fun q m x _ h1 h2 => ⟨x, h1, h2⟩) (fun _ => ⟨yi, by rw [hself]; exact hyi, by omega⟩)
            · rename_i he
              exact fin _ hM3 (fun q m x _ h1 h2 => ⟨x, h1, h2⟩) (fun hd => absurd ((okM_eq oyq).1.2 hd) he)
          rw [bif_dec]
          split
          · rename_i he
            have hdp := (okM_eq oxi).1.1 he
            simp only [hxq, Option.bind_some, bif_dec]
            split
            · rename_i hneg
              obtain ⟨_, hn⟩ := (okM_eq oxq).2 hneg
              obtain ⟨g1, g2, g3⟩ := far_set hV hM2 hqi (dst_next hpm hdp hadj hn)
              exact half _ g1 g2 (fun _ => ⟨_, g3, by omega⟩)
            · rename_i hneg
              exact half _ hM2 (fun q m x _ h1 h2 => ⟨x, h1, h2⟩) (fun _ => ⟨xq, hxq, by omega⟩)
          · rename_i he
            exact half _ hM2 (fun q m x _ h1 h2 => ⟨x, h1, h2⟩) (fun hd => absurd ((okM_eq oxi).1.2 hd) he)
        · rintro ⟨_, far2⟩ k2 ⟨rfl, hM2, hSn2, hT⟩
          simp only [F_spec_RelationOf_l40, hiA, Option.bind_some, int_lt_self, bif_f, w64_succ hi]
          rw [take_all (Nat.le_refl _)] at hT
          refine hk1 _ ⟨rfl, hM2, fun j p2 hj hp2 t ht => ?_⟩
          by_cases e : j = i
          · subst e
            rw [hp] at hp2
            simp only [Option.some.injEq] at hp2; subst hp2
            exact hT t ht
          · exact hSn2 j p2 (by omega) hp2 t ht
      · rintro ⟨_, far1⟩ k1 ⟨rfl, hM, hSn⟩
        simp only [F_spec_RelationOf_l37, int_lt_self, bif_f, w64_succ hsi]
        refine hk _ ⟨rfl, hM.1, fun i p hp => ?_⟩
        obtain ⟨x, hx, ox⟩ := hM.2 i p hp
        refine ⟨x, hx, ?_⟩
        have hixp : ix far1 (atP A p.1) = some x := by rw [at_self hV hp]; exact ix_get hx
        rcases ox with (⟨rfl, hn⟩ | ⟨d, rfl, h1, h2⟩) | ⟨rfl, h2⟩
        · refine .inl ⟨rfl, ?_⟩
          rintro (h | ⟨q, hq, hqr, hadj⟩)
          · exact hn h
          · obtain ⟨d, hd, hD⟩ := dst_of_rch hqr
            have : d = s := by
              by_cases e : d = s
              · exact e
              · exact absurd (show Rch A a s p from rch_mono (show d + 1 ≤ s by omega) (.inr ⟨q, hq, hD.1, hadj⟩)) hn
            subst this
            obtain ⟨jq, hjq⟩ := List.mem_iff_getElem?.1 hq
            rcases hadj with hadj | hadj
            · have := hSn jq q (get_lt hjq) hjq p.1 hadj p (by rw [at_self hV hp]; exact ix_get hp)
              obtain ⟨y, h1, h2⟩ := this.1 hD
              rw [hixp] at h1
              simp only [Option.some.injEq] at h1
              omega
            · have := hSn i p (get_lt hp) hp q.1 hadj q (by rw [at_self hV hjq]; exact ix_get hjq)
              obtain ⟨y, h1, h2⟩ := this.2 hD
              rw [hixp] at h1
              simp only [Option.some.injEq] at h1
              omega
        · exact .inr ⟨d, rfl, by omega, h2⟩
        · exact .inr ⟨s + 1, rfl, Nat.le_refl _, h2⟩
    · rintro ⟨_, far⟩ k2 ⟨rfl, hF⟩
      obtain ⟨x, hx, ox⟩ := far_ix hF hib
      simp only [F_spec_RelationOf_l28, int_lt_self, bif_f, l30Find_eq A b hA.1, Option.bind_some, hx, bif_dec]
      refine ⟨_, ?_, x, qb, hib, ox, rfl⟩
      split <;> rfl

/-! The program. -/
def cntM (A : List TPerson) (M : List (List UInt8 × Int)) : Nat := A.countP fun p => mhs M p.1
theorem cnt_new {A : List TPerson} (hV : VP A) {M : List (List UInt8 × Int)} {p : TPerson} {v : Int} (hp : p ∈ A) (h : mhs M p.1 = false) : cntM A M < cntM A (mst M p.1 v) := by
  unfold cntM
  have key : ∀ B : List TPerson, B.countP (fun q => mhs M q.1) ≤ B.countP (fun q => mhs (mst M p.1 v) q.1) ∧ (p ∈ B → B.countP (fun q => mhs M q.1) < B.countP (fun q => mhs (mst M p.1 v) q.1)) := by
    intro B
    induction B with
    | nil => simp
    | cons q B ih =>
      simp only [List.countP_cons, mhs_mst]
      simp only [mhs_mst] at ih
      by_cases e : q.1 = p.1
      · simp only [e, h, decide_true, Bool.true_or, if_true, Bool.false_eq_true, if_false]
        omega
      · simp only [e, decide_false, Bool.false_or]
        refine ⟨by omega, fun hm => ?_⟩
        rcases List.mem_cons.1 hm with hm | hm
        · exact absurd (by rw [hm]) e
        · have := ih.2 hm; omega
  exact (key A).2 hp
theorem cnt_le {A : List TPerson} {M : List (List UInt8 × Int)} : cntM A M ≤ A.length := List.countP_le_length
/-- The state of the search: M, the names to come. -/
structure Bfs (A : List TPerson) (a : List UInt8) (M : List (List UInt8 × Int)) (W : List (List UInt8)) (d : Nat) (W1 W2 : List (List UInt8)) : Prop where
  val : ∀ p ∈ A, mhs M p.1 = true → ∃ e : Nat, mgt M p.1 0 = e ∧ Dst A a e p ∧ e < cntM A M
  w : W = W1 ++ W2
  one : ∀ p ∈ A, p.1 ∈ W1 → mhs M p.1 = true ∧ mgt M p.1 0 = (d : Int)
  two : ∀ p ∈ A, p.1 ∈ W2 → mhs M p.1 = true ∧ mgt M p.1 0 = ((d + 1 : Nat) : Int)
  names : ∀ n ∈ W, 0 ≤ atP A n
  all : ∀ p ∈ A, Rch A a d p → mhs M p.1 = true
  upto : ∀ p ∈ A, mhs M p.1 = true → mgt M p.1 0 ≤ ((d + 1 : Nat) : Int)
theorem impl_rel {A : List TPerson} (hA : OkPersons A) (hV : VP A) {a b : List UInt8} (ha : 0 ≤ atP A a) (hb : 0 ≤ atP A b) :
    ∃ r, loop (F_impl_RelationOf_l14 A b) (mst ([] : List (List UInt8 × Int)) a 0, [a]) = some r ∧ ∃ pb, ix A (atP A b) = some pb ∧ ((∃ d : Nat, d < A.length ∧ Dst A a d pb ∧ r = ((d : Int), 0)) ∨ ((∀ k, ¬ Rch A a k pb) ∧ r = (0, 6))) := by
  have hlen := hV.len
  obtain ⟨qb, hqb, hib, hnb⟩ := at_pos hb
  obtain ⟨qa, hqa, hia, hna⟩ := at_pos ha
  have hqbm := get_mem hqb
  have hqam := get_mem hqa
  have hm0 : ∀ n, mhs (mst ([] : List (List UInt8 × Int)) a 0) n = decide (n = a) := fun n => by rw [mhs_mst, mhs_nil, Bool.or_false]
  refine loop_mu (fun s => (∃ d W1 W2, Bfs A a s.1 s.2 d W1 W2) ∧ mhs s.1 a = true ∧ s.2.length ≤ cntM A s.1 ∧ (∀ p ∈ A, mhs s.1 p.1 = true → p.1 ∉ s.2 → ∀ q ∈ A, adjP p q → mhs s.1 q.1 = true)) (fun s => 2 * (A.length - cntM A s.1) + s.2.length) ?_ ?_ ?_
  · refine ⟨⟨0, [a], [], ?_, rfl, ?_, fun p _ h => by simp at h, ?_, ?_, ?_⟩, by rw [hm0]; simp, ?_, ?_⟩
    · intro p hp h
      rw [hm0] at h
      have h := of_decide_eq_true h
      refine ⟨0, by rw [mgt_mst, if_pos h]; rfl, ⟨h, fun k hk => by omega⟩, ?_⟩
      have := cnt_new hV (M := []) (v := 0) hqam (mhs_nil _)
      rw [hna] at this
      exact Nat.lt_of_le_of_lt (Nat.zero_le _) this
    · intro p hp h
      have h := List.mem_singleton.1 h
      exact ⟨by rw [hm0]; exact decide_eq_true h, by rw [mgt_mst, if_pos h]; rfl⟩
    · intro n hn
      rw [List.mem_singleton.1 hn]; exact ha
    · intro p hp h
      rw [hm0]; exact decide_eq_true h
    · intro p hp h
      rw [hm0] at h
      rw [mgt_mst, if_pos (of_decide_eq_true h)]; omega
    · have := cnt_new hV (M := []) (v := 0) hqam (mhs_nil _)
      rw [hna] at this
      exact Nat.lt_of_le_of_lt (Nat.zero_le _) this
    · intro p hp h hn
      rw [hm0] at h
      exact absurd (List.mem_singleton.2 (of_decide_eq_true h)) hn
  · have := cnt_le (A := A) (M := mst ([] : List (List UInt8 × Int)) a 0)
    simp only [List.length_cons, List.length_nil]
    unfold lim; omega
  · rintro ⟨M, W⟩ k ⟨⟨d0, W10, W20, hB0⟩, haM, hWl, hcl⟩ hk
    simp only [F_impl_RelationOf_l14, bif_dec]
    split
    · rename_i hne
      have hWne : W ≠ [] := by rintro rfl; simp at hne
      -- the first name is among those at distance d
      obtain ⟨d, W1, W2, hB, u, W1', hW1⟩ : ∃ d W1 W2, Bfs A a M W d W1 W2 ∧ ∃ u W1', W1 = u :: W1' := by
        cases W10 with
        | cons u W1' => exact ⟨d0, _, W20, hB0, u, W1', rfl⟩
        | nil =>
          have hw := hB0.w
          simp only [List.nil_append] at hw
          cases W20 with
          | nil => exact absurd hw hWne
          | cons u W2' =>
            refine ⟨d0 + 1, u :: W2', [], ⟨hB0.val, by simpa using hw, hB0.two, fun p _ h => by simp at h, hB0.names, ?_, fun p hp h => by have : mgt M p.1 0 ≤ ((d0 + 1 : Nat) : Int) := hB0.upto p hp h; show mgt M p.1 0 ≤ ((d0 + 1 + 1 : Nat) : Int); omega⟩, u, W2', rfl⟩
            rintro p hp (h | ⟨q, hq, hr, hadj⟩)
            · exact hB0.all p hp h
            · have hqM := hB0.all q hq hr
              by_cases hqW : q.1 ∈ W
              · exfalso
                rw [hw] at hqW
                obtain ⟨_, h2⟩ := hB0.two q hq hqW
                obtain ⟨e, h3, h4, _⟩ := hB0.val q hq hqM
                obtain ⟨e2, h5, h6⟩ := dst_of_rch hr
                have := dst_uniq h4 h6
                omega
              · exact hcl q hq hqM hqW p hp hadj
      subst hW1
      have hw := hB.w
      simp only [List.cons_append] at hw
      subst hw
      have hun := hB.names u (by simp)
      obtain ⟨pu, hpu, hiu, hnu⟩ := at_pos hun
      have hpum := get_mem hpu
      obtain ⟨huM, huv⟩ := hB.one pu hpum (by rw [hnu]; simp)
      rw [hnu] at huM huv
      have hDu : Dst A a d pu := by
        obtain ⟨e, h1, h2, _⟩ := hB.val pu hpum (by rw [hnu]; exact huM)
        rw [hnu, huv] at h1
        have : e = d := by omega
        subst this; exact h2
      have hdn : d < A.length := by
        obtain ⟨e, h1, h2, h3⟩ := hB.val pu hpum (by rw [hnu]; exact huM)
        rw [hnu, huv] at h1
        have := cnt_le (A := A) (M := M)
        omega
      -- all persons beside the first name
      refine loop_ex (L := A) (fun i (st : Int × List (List UInt8 × Int) × List (List UInt8)) => st.1 = (i : Int) ∧ ∃ N, st.2.2 = u :: (W1' ++ (W2 ++ N)) ∧ Bfs A a st.2.1 st.2.2 d (u :: W1') (W2 ++ N) ∧ (∀ n, mhs M n = true → mhs st.2.1 n = true) ∧ mhs st.2.1 a = true ∧ 2 * (A.length - cntM A st.2.1) + N.length ≤ 2 * (A.length - cntM A M) ∧ st.2.2.length ≤ cntM A st.2.1 ∧
        (∀ p ∈ A, mhs st.2.1 p.1 = true → p.1 ∉ st.2.2 → ∀ q ∈ A, adjP p q → mhs st.2.1 q.1 = true) ∧ ∀ (j : Nat) p, j < i → A[j]? = some p → adjP pu p → mhs st.2.1 p.1 = true) hA.1
        ⟨rfl, [], by simp, by simpa using hB, fun _ h => h, haM, by simp, by simpa using hWl, hcl, fun j p h => by omega⟩ ?_ ?_
      · rintro i ⟨_, M1, _⟩ k1 x hx hi ⟨rfl, N, rfl, hB1, hup, haM1, hms, hNl, hcl1, hdone⟩ hk1
        have hxm := get_mem hx
        have hpx := hV.each x hxm
        have hix := ix_get hx
        have hfew := (hV.each pu hpum).few
        have hfx := hpx.few
        have hB1v := hB1.val
        -- behind the question of nearness
        have next : ∀ near : Bool, (near = true ↔ adjP pu x) → ∃ r, F_impl_RelationOf_j20 (i : Int) M1 (u :: (W1' ++ (W2 ++ N))) x k1 near = some r ∧ ∃ pb, ix A (atP A b) = some pb ∧ ((∃ d : Nat, d < A.length ∧ Dst A a d pb ∧ r = ((d : Int), 0)) ∨ ((∀ k, ¬ Rch A a k pb) ∧ r = (0, 6))) := by
          intro near hnear
          have stay : (adjP pu x → mhs M1 x.1 = true) → ∃ r, k1 (((i + 1 : Nat) : Int), M1, u :: (W1' ++ (W2 ++ N))) = some r ∧ ∃ pb, ix A (atP A b) = some pb ∧ ((∃ d : Nat, d < A.length ∧ Dst A a d pb ∧ r = ((d : Int), 0)) ∨ ((∀ k, ¬ Rch A a k pb) ∧ r = (0, 6))) := by
            intro hx2
            refine hk1 _ ⟨rfl, N, rfl, hB1, hup, haM1, hms, hNl, hcl1, fun j p hj hp => ?_⟩
            by_cases e : j = i
            · subst e
              rw [hx] at hp
              simp only [Option.some.injEq] at hp; subst hp
              exact hx2
            · exact hdone j p (by omega) hp
          unfold F_impl_RelationOf_j20
          cases near with
          | false =>
            simp only [bif_f, F_impl_RelationOf_j21, w64_succ hi]
            exact stay (fun h => by have := hnear.2 h; cases this)
          | true =>
            have hadj := hnear.1 rfl
            simp only [bif_t, F_impl_RelationOf_j21]
            cases hxM : mhs M1 x.1 with
            | true =>
              simp only [Bool.not_true, bif_f, w64_succ hi]
              exact stay (fun _ => hxM)
            | false =>
              have hxd : Dst A a (d + 1) x := by
                refine ⟨.inr ⟨pu, hpum, hDu.1, hadj⟩, fun k hk hr => ?_⟩
                have := hB1.all x hxm (rch_mono (by omega) hr)
                rw [hxM] at this; cases this
              have huv1 : mgt M1 u 0 = (d : Int) := by have := (hB1.one pu hpum (by rw [hnu]; simp)).2; rw [hnu] at this; exact this
              have hcnt := cnt_new (v := ((d + 1 : Nat) : Int)) hV hxm hxM
              have hcl2 := cnt_le (A := A) (M := mst M1 x.1 ((d + 1 : Nat) : Int))
              have hxe : ∀ q ∈ A, q.1 = x.1 → q = x := fun q hq h => same_one hV hq hxm h
              have hroom : room ((u :: (W1' ++ (W2 ++ N))).length + [x.1].length) 16 := by
                have h1 : (u :: (W1' ++ (W2 ++ N))).length ≤ cntM A M1 := hNl
                have h2 := cnt_le (A := A) (M := M1)
                have h3 : [x.1].length = 1 := rfl
                refine ⟨?_, ?_⟩ <;> omega
              simp only [Bool.not_false, bif_t, ix_zero, Option.bind_some, need_true hroom, w64_succ hi, huv1, show w64 ((d : Int) + 1) = ((d + 1 : Nat) : Int) from w64_succ (by omega)]
              have hns : ∀ n, mhs (mst M1 x.1 ((d + 1 : Nat) : Int)) n = (decide (n = x.1) || mhs M1 n) := fun n => mhs_mst _ _ _ _
              have hgs : ∀ n, mgt (mst M1 x.1 ((d + 1 : Nat) : Int)) n 0 = if n = x.1 then ((d + 1 : Nat) : Int) else mgt M1 n 0 := fun n => mgt_mst _ _ _ _ _
              have old : ∀ n, mhs M1 n = true → mhs (mst M1 x.1 ((d + 1 : Nat) : Int)) n = true ∧ mgt (mst M1 x.1 ((d + 1 : Nat) : Int)) n 0 = mgt M1 n 0 := by
                intro n hn
                have hne : n ≠ x.1 := by rintro rfl; rw [hxM] at hn; cases hn
                exact ⟨by rw [hns, hn, Bool.or_true], by rw [hgs, if_neg hne]⟩
              have hxs : mhs (mst M1 x.1 ((d + 1 : Nat) : Int)) x.1 = true := by rw [hns]; simp
              refine hk1 _ ⟨rfl, N ++ [x.1], by simp [List.append_assoc], ?_, fun n hn => (old n (hup n hn)).1, (old a haM1).1, ?_, ?_, ?_, ?_⟩
              · refine ⟨?_, by simp [List.append_assoc], ?_, ?_, ?_, ?_, ?_⟩
                · intro p hp hpM
                  by_cases e : p.1 = x.1
                  · have := hxe p hp e
                    subst this
                    obtain ⟨e1, h1, h2, h3⟩ := hB1v pu hpum (by rw [hnu]; exact hup u huM)
                    rw [hnu, huv1] at h1
                    exact ⟨d + 1, by rw [hgs, if_pos rfl], hxd, Nat.lt_of_le_of_lt (show d + 1 ≤ cntM A M1 from by have h3' : e1 < cntM A M1 := h3; omega) hcnt⟩
                  · rw [hns] at hpM
                    simp only [e, decide_false, Bool.false_or] at hpM
                    obtain ⟨e1, h1, h2, h3⟩ := hB1v p hp hpM
                    exact ⟨e1, by rw [(old _ hpM).2]; exact h1, h2, Nat.lt_trans h3 hcnt⟩
                · intro p hp hpW
                  obtain ⟨h1, h2⟩ := hB1.one p hp hpW
                  exact ⟨(old _ h1).1, by rw [(old _ h1).2]; exact h2⟩
                · intro p hp hpW
                  rw [← List.append_assoc] at hpW
                  rcases List.mem_append.1 hpW with hpW | hpW
                  · obtain ⟨h1, h2⟩ := hB1.two p hp hpW
                    exact ⟨(old _ h1).1, by rw [(old _ h1).2]; exact h2⟩
                  · have e := List.mem_singleton.1 hpW
                    rw [e]
                    exact ⟨hxs, by rw [hgs, if_pos rfl]⟩
                · intro n hn
                  rcases List.mem_append.1 hn with hn | hn
                  · exact hB1.names n hn
                  · rw [List.mem_singleton.1 hn, at_self hV hx]; omega
                · intro p hp hr
                  exact (old _ (hB1.all p hp hr)).1
                · intro p hp hpM
                  by_cases e : p.1 = x.1
                  · rw [hgs, if_pos e]; omega
                  · rw [hns] at hpM
                    simp only [e, decide_false, Bool.false_or] at hpM
                    rw [(old _ hpM).2]
                    exact hB1.upto p hp hpM
              · have hms : 2 * (A.length - cntM A M1) + N.length ≤ 2 * (A.length - cntM A M) := hms
                show 2 * (A.length - cntM A (mst M1 x.1 ((d + 1 : Nat) : Int))) + (N ++ [x.1]).length ≤ 2 * (A.length - cntM A M)
                simp only [List.length_append, List.length_cons, List.length_nil]; omega
              · have h1 : (u :: (W1' ++ (W2 ++ N))).length ≤ cntM A M1 := hNl
                show (u :: (W1' ++ (W2 ++ N)) ++ [x.1]).length ≤ cntM A (mst M1 x.1 ((d + 1 : Nat) : Int))
                rw [List.length_append]
                have h3 : [x.1].length = 1 := rfl
                omega
              · intro p hp hpM hpW q hq hadj2
                have e : p.1 ≠ x.1 := by rintro e; apply hpW; rw [e]; simp
                rw [hns] at hpM
                simp only [e, decide_false, Bool.false_or] at hpM
                refine (old _ (hcl1 p hp hpM (fun h => hpW (List.mem_append_left _ h)) q hq hadj2)).1
              · intro j p hj hp hadj2
                by_cases e : j = i
                · subst e
                  rw [hx] at hp
                  simp only [Option.some.injEq] at hp; subst hp
                  exact hxs
                · exact (old _ (hdone j p (by omega) hp hadj2)).1
        simp only [F_impl_RelationOf_l19, int_lt (get_lt hx), bif_t, hix, Option.bind_some, ix_zero, Contains_eq x.2.2 u (by omega)]
        by_cases h1 : u ∈ x.2.2
        · rw [decide_eq_true h1, bif_t]
          exact next true ⟨fun _ => .inr (by rw [hnu]; exact h1), fun _ => rfl⟩
        · rw [decide_eq_false h1, bif_f]
          simp only [personAt_eq A u hA.1, hiu, Option.bind_some, Contains_eq pu.2.2 x.1 (by omega)]
          refine next _ ⟨fun h => .inl (of_decide_eq_true h), fun h => ?_⟩
          rcases h with h | h
          · exact decide_eq_true h
          · rw [hnu] at h; exact absurd h h1
      · rintro ⟨_, M1, _⟩ k1 ⟨rfl, N, rfl, hB1, hup, haM1, hms, hNl, hcl1, hdone⟩
        have hn1 : (0 : Int) ≤ (1 : Int) ∧ (1 : Int) ≤ ((u :: (W1' ++ (W2 ++ N))).length : Int) ∧ ((u :: (W1' ++ (W2 ++ N))).length : Int) ≤ ((u :: (W1' ++ (W2 ++ N))).length : Int) := ⟨by omega, by simp only [List.length_cons]; omega, Int.le_refl _⟩
        have hsub : sub (u :: (W1' ++ (W2 ++ N))) 1 ((u :: (W1' ++ (W2 ++ N))).length : Int) = W1' ++ (W2 ++ N) := by
          unfold sub
          rw [Int.toNat_natCast, List.take_length]
          rfl
        simp only [F_impl_RelationOf_l19, int_lt_self, bif_f, need_true hn1, hsub]
        refine hk _ ⟨⟨d, W1', W2 ++ N, ⟨hB1.val, rfl, fun p hp h => hB1.one p hp (by simp [h]), hB1.two, fun n hn => hB1.names n (by simp only [List.mem_cons]; exact .inr hn), hB1.all, hB1.upto⟩⟩, haM1, by have h1 : (u :: (W1' ++ (W2 ++ N))).length ≤ cntM A M1 := hNl; show (W1' ++ (W2 ++ N)).length ≤ cntM A M1; simp only [List.length_cons] at h1; omega, ?_⟩ ?_
        · intro p hp hpM hpW q hq hadj
          by_cases e : p.1 = u
          · have := same_one hV hp hpum (by rw [hnu]; exact e)
            subst this
            obtain ⟨j, hj⟩ := List.mem_iff_getElem?.1 hq
            exact hdone j q (get_lt hj) hj hadj
          · refine hcl1 p hp hpM (fun h => ?_) q hq hadj
            rcases List.mem_cons.1 h with h | h
            · exact e h
            · exact hpW h
        · have hms : 2 * (A.length - cntM A M1) + N.length ≤ 2 * (A.length - cntM A M) := hms
          show 2 * (A.length - cntM A M1) + (W1' ++ (W2 ++ N)).length < 2 * (A.length - cntM A M) + (u :: (W1' ++ W2)).length
          simp only [List.length_append, List.length_cons]
          omega
    · rename_i hne
      have hW : W = [] := by
        cases W with
        | nil => rfl
        | cons x W => simp only [List.length_cons] at hne; omega
      subst hW
      have closed : ∀ n p, p ∈ A → Rch A a n p → mhs M p.1 = true := by
        intro n
        induction n with
        | zero => intro p hp h; rw [show p.1 = a from h]; exact haM
        | succ n ih =>
          rintro p hp (h | ⟨q, hq, hr, hadj⟩)
          · exact ih p hp h
          · exact hcl q hq (ih q hq hr) (by simp) p hp hadj
      cases hbM : mhs M b with
      | true =>
        simp only [Bool.not_true, bif_f]
        obtain ⟨e, h1, h2, h3⟩ := hB0.val qb hqbm (by rw [hnb]; exact hbM)
        refine ⟨_, rfl, qb, hib, .inl ⟨e, Nat.lt_of_lt_of_le h3 cnt_le, h2, ?_⟩⟩
        rw [hnb] at h1
        rw [h1]
      | false =>
        simp only [Bool.not_false, bif_t]
        refine ⟨_, rfl, qb, hib, .inr ⟨fun k hr => ?_, rfl⟩⟩
        have := closed k qb hqbm hr
        rw [hnb, hbM] at this; cases this

theorem rel_eq {A : List TPerson} (hA : OkPersons A) (a b : List UInt8) : ∃ r, F_spec_RelationOf A a b = some r ∧ F_impl_RelationOf A a b = some r := by
  obtain ⟨v, h1, h2, h3⟩ := valid_eq hA
  have he : F_impl_personsCode A [a, b] = some (askCode v A [a, b]) := personsCode_eq hA h2 [a, b] (by simp)
  have hs := l30Ask_eq hA h1 a
  have key : ∀ c, c = askCode v A [a, b] → ∃ r, F_spec_RelationOf_j0 A a b c = some r ∧ F_impl_RelationOf A a b = some r := by
    rintro _ rfl
    unfold F_spec_RelationOf_j0 F_impl_RelationOf
    rw [he]
    simp only [Option.bind_some, bif_dec]
    split
    · exact ⟨_, rfl, rfl⟩
    · rename_i hc
      obtain ⟨rfl, hn⟩ := ask_zero (show askCode v A [a, b] = 0 by omega)
      have ha := hn a (by simp)
      have hb := hn b (by simp)
      have hV := h3 rfl
      obtain ⟨r1, e1, x, pb, k1, k2, rfl⟩ := spec_rel hA hV ha hb
      obtain ⟨r2, e2, pb2, k3, k4⟩ := impl_rel hA hV ha hb
      rw [k1] at k3
      simp only [Option.some.injEq] at k3; subst k3
      refine ⟨_, e1, ?_⟩
      rw [e2]
      congr 1
      rcases k4 with ⟨d, hd, hD, rfl⟩ | ⟨hD, rfl⟩
      · rcases k2 with ⟨rfl, hn2⟩ | ⟨d2, rfl, _, hD2⟩
        · exact absurd (rch_mono (Nat.le_of_lt hd) hD.1) hn2
        · have := dst_uniq hD hD2
          subst this
          rw [if_neg (by omega)]
      · rcases k2 with ⟨rfl, hn2⟩ | ⟨d2, rfl, _, hD2⟩
        · rfl
        · exact absurd hD2.1 (hD d2)
  unfold F_spec_RelationOf
  rw [hs]
  simp only [Option.bind_some, bif_dec, l30Find_eq A b hA.1]
  have e2 : askCode v A [a, b] = if askCode v A [a] = 0 then (if atP A b < 0 then 3 else 0) else askCode v A [a] := by
    unfold askCode
    cases v
    · simp
    · by_cases h1 : atP A a < 0 <;> by_cases h2 : atP A b < 0 <;> simp [h1, h2]
  split
  · rename_i h0
    split
    · rename_i h4
      exact key 3 (by rw [e2, if_pos h0, if_pos h4])
    · rename_i h4
      exact key _ (by rw [e2, if_pos h0, if_neg h4, h0])
  · rename_i h0
    exact key _ (by rw [e2, if_neg h0])
theorem core_RelationOf (a0 : List TPerson) (a1 a2 : List UInt8) (o0 : OkPersons a0) (o1 : OkS a1) (o2 : OkS a2) (s0 : SmL SmPerson a0) (s1 : SmS a1) (s2 : SmS a2) : ∃ w, F_spec_RelationOf a0 a1 a2 = some w ∧ F_impl_RelationOf a0 a1 a2 = some w ∧ True := by
  obtain ⟨r, h1, h2⟩ := rel_eq o0 a1 a2
  exact ⟨r, h1, h2, trivial⟩
end Go.Ab
