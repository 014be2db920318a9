import Derived.Test.YtpnmhfbiaajaeaaGreatDoorGO
import Derived.Lib.SlicesCompact
import Derived.Shelf.SlicesE.Kit
import Derived.Shelf.SlicesE.Equal
set_option linter.unusedVariables false
set_option linter.unusedSimpArgs false
namespace Go.Ab
open Go.RowKit Go.Sort Go.Proofs
section
variable {α : Type} {e : α → V} {enc : α → Value}
variable [Inhabited α]
theorem holds_of {w : World} {g o : Nat} {A : List α} (h : BlkO w g o (A.map enc)) : Holds enc w g o A.toArray := by
 obtain ⟨cur, ty, h1, h2⟩ := h
 intro j hj
 have hj : j < A.length := by simpa using hj
 have h3 := h2 j (enc A[j]) (by rw [List.getElem?_map, List.getElem?_eq_getElem hj]; rfl)
 refine ⟨?_, by simp [World.frozen?, h1]⟩
 have e1 : A.toArray[j]! = A[j] := by simp [hj]
 rw [e1]
 simp [World.cell?, h1, h3]
theorem row_new {w : World} {g o n : Nat} {os : Array Obj} {B : List α} {cur : Array Value} {ty : TypeId} (hc : w.heap[g]? = some (.cells cur ty (0, 0))) (hfit : o + B.length ≤ cur.size) :
  ∃ cur', (grow (putRow enc (Sort.ahead w n) g o B.toArray) os).heap[g]? = some (.cells cur' ty (0, 0)) ∧ cur'.size = cur.size ∧ ∀ (j : Nat) (u : Value), (B.map enc)[j]? = some u → cur'[o + j]? = some u := by
 have hg : g < w.heap.size := by
  rcases Nat.lt_or_ge g w.heap.size with h | h
  ·exact h
  ·rw [Array.getElem?_eq_none h] at hc; cases hc
 refine ⟨putCells enc o B.toArray cur, ?_, by simp [putCells], ?_⟩
 ·simp only [grow, putRow, mapBlock, Sort.ahead]
  rw [Array.getElem?_append_left (by simpa using hg), Array.getElem?_modify, hc]
  simp [onCells]
 ·intro j u hj
  rw [List.getElem?_map] at hj
  obtain ⟨b, hb, rfl⟩ := Option.map_eq_some_iff.1 hj
  obtain ⟨hlt, hb⟩ := List.getElem?_eq_some_iff.1 hb
  have hs : o + j < cur.size := by omega
  simp only [putCells, Array.getElem?_mapIdx, Array.getElem?_eq_getElem hs, Option.map_some]
  rw [if_pos ⟨by omega, by simp; omega⟩]
  have e1 : o + j - o = j := by omega
  rw [e1]
  simp [hlt, hb]
theorem row_stays {w : World} {g o n : Nat} {os : Array Obj} {d : Array α} {S : BSet} {x : Value} (hS : S g) : Stays ⟨w, S, x⟩ (grow (putRow enc (Sort.ahead w n) g o d) os) := by
 have hsz : (putRow enc (Sort.ahead w n) g o d).heap.size = w.heap.size := by rw [size_putRow]; rfl
 refine ⟨rfl, rfl, rfl, ?_, ?_, ?_⟩
 ·simp only [grow, Array.size_append, hsz]; omega
 ·intro k hk hn
  have hk : k < w.heap.size := hk
  have hne : ¬ g = k := fun e => hn (e ▸ hS)
  simp only [grow]
  rw [Array.getElem?_append_left (by rw [hsz]; exact hk)]
  simp only [putRow, mapBlock, Sort.ahead, Array.getElem?_modify, hne, if_false]
 ·intro k cur ty hc
  have hc : w.heap[k]? = some (.cells cur ty (0, 0)) := hc
  have hk : k < w.heap.size := by
   rcases Nat.lt_or_ge k w.heap.size with h | h
   ·exact h
   ·rw [Array.getElem?_eq_none h] at hc; cases hc
  simp only [grow]
  rw [Array.getElem?_append_left (by rw [hsz]; exact hk)]
  simp only [putRow, mapBlock, Sort.ahead, Array.getElem?_modify, hc]
  by_cases e : g = k
  ·simp only [e, if_true, Option.map_some, onCells]
   exact ⟨_, _, rfl, by simp [putCells]⟩
  ·simp only [e, if_false]
   exact ⟨_, _, rfl, rfl⟩
theorem conM_row (h1 : OneEnc e enc) {P : Program} {f : FuncId} {A B : List α} (hl : B.length = A.length)
  (hc : ∀ (w : World) (g o c : Nat), Holds enc w g o A.toArray → g < w.heap.size → A.length ≤ c → c ≤ maxLen → Calls P f #[.slice (some ⟨g, o, none⟩) A.length c] w fun r w' => r = .returned (.tuple #[]) ∧ ∃ n os, w' = grow (putRow enc (Sort.ahead w n) g o B.toArray) os)
  (hn : A = [] → ∀ (w : World) (p : Option Addr) (c : Nat), Calls P f #[.slice p 0 c] w fun r w' => r = .returned (.tuple #[]) ∧ w' = w) :
  ConM P f (.one (.row true 1 (A.map e))) (.one (.row true 1 (B.map e))) [] (.agg []) := by
 intro w D S x vs hD hS hx hargs
 cases hargs
 have none_ : ∀ (p : Option Addr) (c : Nat), A = [] → x = .slice p 0 c → R1Rep w D (.row true 1 ([] : List V)) x S → Calls P f (x :: ([] : List Value)).toArray w (PostM w D S x (.one (.row true 1 (B.map e))) (.agg [])) := by
  intro p c hA hxx hrow
  subst hxx
  have hB : B = [] := List.eq_nil_of_length_eq_zero (by rw [hl, hA]; rfl)
  refine (hn hA w p c).mono ?_
  rintro r w' ⟨rfl, rfl⟩
  refine ⟨_, S, rfl, rfl, ?_, fun g hg => ⟨.inl hg, (hS g hg).1, (hS g hg).2⟩, Stays.refl _⟩
  rw [hB]
  exact .one hrow
 cases hx with
 | one hx =>
  generalize hr : A.map e = L at hx
  cases hx with
  | nil =>
   have hA : A = [] := by simpa using hr
   exact none_ _ 0 hA rfl .nil
  | row hSg hT hgT hb hu hrr hlc hm hz =>
   rename_i g o c us T
   subst hr
   rw [h1.flat] at hrr
   have hv := h1.vals hrr
   subst hv
   by_cases h0 : A = []
   ·subst h0
    exact none_ _ _ rfl rfl (.row hSg hT hgT hb hu (by simpa using hrr) hlc hm hz)
   ·have hlen : (A.map e).length = A.length := List.length_map ..
    rw [hlen] at hlc ⊢
    refine (hc w g o c (holds_of hb) (hS g hSg).1 hlc hm).mono ?_
    rintro r w' ⟨rfl, n, os, rfl⟩
    obtain ⟨cur, ty, hcur, hfit⟩ := hz
    have hpos : 0 < A.length := List.length_pos_iff.2 h0
    have hfit : o + c * 1 ≤ cur.size := hfit (by omega)
    obtain ⟨cur', k1, k2, k3⟩ := row_new (enc := enc) (n := n) (os := os) (B := B) hcur (show o + B.length ≤ cur.size by rw [hl]; omega)
    refine ⟨_, fun q => q = g, rfl, rfl, .one ?_, ?_, row_stays hSg⟩
    ·have := R1Rep.row (w := grow (putRow enc (Sort.ahead w n) g o B.toArray) os) (D := D) (own := true) (sz := 1) (L := B.map e) (g := g) (o := o) (c := c) (vs := B.map enc) (S := fun q => q = g) (T := Emp) rfl (fun _ h => h.elim) (fun h => h.elim) ⟨cur', ty, k1, k3⟩ (h1.uni B) (by rw [h1.flat]; exact h1.reps B) (by rw [List.length_map, hl]; exact hlc) hm ⟨cur', ty, k1, fun _ => by rw [k2]; exact hfit⟩
     rw [List.length_map, hl] at this
     exact this
    ·rintro q rfl
     refine ⟨.inl hSg, ?_, (hS q hSg).2⟩
     have hsz : (putRow enc (Sort.ahead w n) q o B.toArray).heap.size = w.heap.size := by rw [size_putRow]; rfl
     simp only [grow, Array.size_append, hsz]
     have := (hS q hSg).1
     omega
theorem conX_row (h1 : OneEnc e enc) {P : Program} {f : FuncId} {A B Z : List α} {ro : List V} (hl : B.length + Z.length = A.length)
  (hc : ∀ (w : World) (D : BSet) (g o c : Nat) (vs : List Value), (∀ q, D q → q < w.heap.size ∧ q ≠ g) → Reps w D false ro vs Emp → Holds enc w g o A.toArray → g < w.heap.size → A.length ≤ c → c ≤ maxLen → 0 < A.length → Calls P f (.slice (some ⟨g, o, none⟩) A.length c :: vs).toArray w fun r w' => r = .returned (.slice (some ⟨g, o, none⟩) B.length c) ∧ ∃ n os, w' = grow (putRow enc (Sort.ahead w n) g o (B ++ Z).toArray) os)
  (hn : A = [] → ∀ (w : World) (D : BSet) (p : Option Addr) (c : Nat) (vs : List Value), Reps w D false ro vs Emp → Calls P f (.slice p 0 c :: vs).toArray w fun r w' => r = .returned (.slice p 0 c) ∧ w' = w) :
  ConX P f true 1 (A.map e) ro (.r true 1 (B.map e)) := by
 intro w D S x vs hD hS hx hargs
 have none_ : ∀ (p : Option Addr) (c : Nat), A = [] → x = .slice p 0 c → R1Rep w D (.row true 1 ([] : List V)) x S → Calls P f (x :: vs).toArray w (PostX w D S x (.r true 1 (B.map e))) := by
  intro p c hA hxx hrow
  subst hxx
  have hB : B = [] := List.eq_nil_of_length_eq_zero (by rw [hA] at hl; simp at hl; exact hl.1 ▸ rfl)
  refine (hn hA w D p c vs hargs).mono ?_
  rintro r w' ⟨rfl, rfl⟩
  refine ⟨_, S, D, rfl, ?_, fun g hg => ⟨.inl hg, (hS g hg).1, (hS g hg).2⟩, fun _ h => h, fun g h => ⟨hD.lt g h, .inl h⟩, Stays.refl _⟩
  rw [hB]
  exact .one (.one hrow)
 generalize hr : A.map e = L at hx
 cases hx with
 | nil =>
  have hA : A = [] := by simpa using hr
  exact none_ _ 0 hA rfl .nil
 | row hSg hT hgT hb hu hrr hlc hm hz =>
  rename_i g o c us T
  subst hr
  rw [h1.flat] at hrr
  have hv := h1.vals hrr
  subst hv
  by_cases h0 : A = []
  ·subst h0
   exact none_ _ _ rfl rfl (.row hSg hT hgT hb hu (by simpa using hrr) hlc hm hz)
  ·have hlen : (A.map e).length = A.length := List.length_map ..
   rw [hlen] at hlc ⊢
   have hpos : 0 < A.length := List.length_pos_iff.2 h0
   refine (hc w D g o c vs (fun q hq => ⟨hD.lt q hq, fun e => (hS g hSg).2 (e ▸ hq)⟩) hargs (holds_of hb) (hS g hSg).1 hlc hm hpos).mono ?_
   rintro r w' ⟨rfl, n, os, rfl⟩
   obtain ⟨cur, ty, hcur, hfit⟩ := hz
   have hfit : o + c * 1 ≤ cur.size := hfit (by omega)
   obtain ⟨cur', k1, k2, k3⟩ := row_new (enc := enc) (n := n) (os := os) (B := B ++ Z) hcur (show o + (B ++ Z).length ≤ cur.size by rw [List.length_append]; omega)
   have hsz : (putRow enc (Sort.ahead w n) g o (B ++ Z).toArray).heap.size = w.heap.size := by rw [size_putRow]; rfl
   have hgrow : w.heap.size ≤ (grow (putRow enc (Sort.ahead w n) g o (B ++ Z).toArray) os).heap.size := by simp only [grow, Array.size_append, hsz]; omega
   refine ⟨_, fun q => q = g, D, rfl, .one (.one ?_), ?_, fun _ h => h, fun q h => ⟨Nat.lt_of_lt_of_le (hD.lt q h) hgrow, .inl h⟩, row_stays hSg⟩
   ·have := R1Rep.row (w := grow (putRow enc (Sort.ahead w n) g o (B ++ Z).toArray) os) (D := D) (own := true) (sz := 1) (L := B.map e) (g := g) (o := o) (c := c) (vs := B.map enc) (S := fun q => q = g) (T := Emp) rfl (fun _ h => h.elim) (fun h => h.elim) ⟨cur', ty, k1, fun j u hj => k3 j u (by
     rw [List.map_append, List.getElem?_append_left (List.getElem?_eq_some_iff.1 hj).1]; exact hj)⟩ (h1.uni B) (by rw [h1.flat]; exact h1.reps B) (by rw [List.length_map]; omega) hm ⟨cur', ty, k1, fun _ => by rw [k2]; exact hfit⟩
    rw [List.length_map] at this
    exact this
   ·rintro q rfl
    exact ⟨.inl hSg, Nat.lt_of_lt_of_le (hS q hSg).1 hgrow, (hS q hSg).2⟩
end
noncomputable def F_sortS (A : List (List UInt8)) : Option (List (List UInt8)) := need (A.length < 4611686018427387904) (some (A.mergeSort fun x y => decide (x ≤ y)))
noncomputable def F_compactS (A : List (List UInt8)) : Option (List (List UInt8)) := need (A.length ≤ 9223372036854775807) (some (Go.Lib.compactUpTo A.toArray A.length))
theorem compact_le {α : Type} [Inhabited α] [DecidableEq α] (d : Array α) (m : Nat) : (Go.Lib.compactUpTo d m).length ≤ m := by
 unfold Go.Lib.compactUpTo
 rw [List.length_map]
 exact Nat.le_trans (List.length_filter_le _ _) (by simp)
theorem eqlStr (P : Program) (T : TypeId) : EqlAt P T encStr (fun x y => decide (x = y)) :=
 ⟨fun x y w => by by_cases h : x = y <;> simp [encStr, binOp, Op.stringOp, ByteArray.ext_iff, h], fun op a b x y w => by rw [eqGuard_at_string]; rfl⟩
theorem neqStr (P : Program) (T : TypeId) : NeqAt P T encStr (fun x y => decide (x = y)) :=
 ⟨fun x y w => by by_cases h : x = y <;> simp [encStr, binOp, Op.stringOp, ByteArray.ext_iff, h], fun op a b x y w => by rw [eqGuard_at_string]; rfl⟩
end Go.Ab
