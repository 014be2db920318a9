import Derived.Test.YtikfkniplbeeeaaGreatDoorGO
import Derived.Lib.Join
import Derived.Deep.Draws
import Derived.Lib.Split
import Derived.Lib.CutLaws
import Derived.Lib.Strings
import Derived.Lib.Repeat
import Derived.Lib.ItoaNum
import Derived.Lib.ParseIntB
import Derived.Lib.SlTrimSet
set_option linter.unusedVariables false
set_option linter.unusedSimpArgs false
namespace Go.Ab
open Go.RowKit
open Go.Proofs (encStr)
open Go.Sort (grow)
section
variable {P : Program} {f : FuncId} {args : List V} {res : RV}
theorem con_pure (val : Value) (hv : ∀ (w : World) (D : BSet), RvRep w D res val Emp)
  (h : ∀ (w : World) (D : BSet) (vs : List Value), DOk w D → Reps w D false args vs Emp → Calls P f vs.toArray w fun e w' => e = .returned val ∧ Below w.heap.size w w') : Con P f args res := by
 intro w D vs hD hargs
 refine (h w D vs hD hargs).mono ?_
 rintro e w' ⟨rfl, hb⟩
 exact ⟨val, Emp, D, rfl, hv w' D, fun _ h => h.elim, fun _ h => h, fun g hg => ⟨Nat.lt_of_lt_of_le (hD.lt g hg) hb.size, .inl hg⟩, hb⟩
theorem rv_v {v : V} {val : Value} (h : ∀ (w : World) (D : BSet), Rep w D false v val Emp) (w : World) (D : BSet) : RvRep w D (.v v) val Emp := .one (.one (.val (h w D)))
theorem rep_str (s : List UInt8) (w : World) (D : BSet) : Rep w D false (.str s) (.string ⟨s.toArray⟩) Emp := .str s
theorem below_grow (w : World) (n : Nat) (os : Array Obj) : Below w.heap.size w (grow (w.drewN n) os) := by
 refine ⟨rfl, rfl, rfl, ?_, ?_⟩
 ·simp only [grow, Array.size_append]
  show w.heap.size ≤ w.heap.size + os.size
  omega
 ·intro k hk
  simp only [grow]
  exact Array.getElem?_append_left hk
theorem sc_inv {w : World} {D S : BSet} {o : Bool} {s : Sc} {x : Value} (h : Rep w D o s.v x S) : x = s.val := by cases s <;> cases h <;> rfl
theorem args_sc : ∀ {w : World} {D : BSet} {l : List Sc} {vs : List Value} {S : BSet}, Reps w D false (l.map Sc.v) vs S → vs = l.map Sc.val
 | _, _, [], _, _, .nil => rfl
 | _, _, s :: l, _, _, .cons h hs _ _ _ => by rw [sc_inv h, args_sc hs]; rfl
end
def bz (s : List UInt8) : ByteArray := ⟨s.toArray⟩
@[simp] theorem bz_data (s : List UInt8) : (bz s).data.toList = s := by simp [bz]
@[simp] theorem bz_size (s : List UInt8) : (bz s).size = s.length := by simp [bz, ByteArray.size]
def F_formatInt (n b : Int) : Option (List UInt8) := need (b = 10 ∧ -9223372036854775808 ≤ n ∧ n ≤ 9223372036854775807) (some (Go.Lib.itoa n))
def F_join (A : List (List UInt8)) (sep : List UInt8) : Option (List UInt8) := need (A.length ≤ 140737488355328 ∧ (Go.Lib.join A sep).length ≤ 140737488355328) (some (Go.Lib.join A sep))
@[simp] def res_split (r : List (List UInt8)) : RV := .r true 1 (r.map V.str)
@[simp] def res_splitN (r : List (List UInt8)) : RV := .r true 1 (r.map V.str)
section
variable {P : Program} {f : FuncId}
theorem t_formatInt {n b : Int} {r : List UInt8} (h : F_formatInt n b = some r)
  (hc : ∀ w : World, TabQ w → -9223372036854775808 ≤ n → n ≤ 9223372036854775807 → Calls P f #[.int .i64 n, .int .i64 10] w fun e w' => e = .returned (.string ⟨(Go.Lib.itoa n).toArray⟩) ∧ ∃ k os, w' = grow (w.drewN k) os) :
  Con P f [.int .i64 n, .int .i64 b] (.v (.str r)) := by
 unfold F_formatInt at h
 obtain ⟨⟨e, hn⟩, h2⟩ := need_some h
 subst e
 cases h2
 refine con_pure _ (rv_v (rep_str _)) ?_
 intro w D vs hD ha
 have := args_sc (l := [.int .i64 n, .int .i64 10]) ha
 subst this
 refine (hc w hD.tabs.q hn.1 hn.2).mono ?_
 rintro e w' ⟨rfl, k, os, rfl⟩
 exact ⟨rfl, below_grow _ _ _⟩
theorem t_join {A : List (List UInt8)} {sep r : List UInt8} (h : F_join A sep = some r)
  (hc : ∀ (w : World) (bk o c : Nat) (xs : List ByteArray), (∀ (j : Nat) x, xs[j]? = some x → w.cell? ⟨bk, o + j, none⟩ = some (.string x)) → bk < w.heap.size → xs.length ≤ 140737488355328 → xs.length ≤ c → (Go.Lib.join (xs.map (·.data.toList)) (bz sep).data.toList).length ≤ 140737488355328 →
   Calls P f #[.slice (some ⟨bk, o, none⟩) xs.length c, .string (bz sep)] w fun e w' => e = .returned (.string ⟨(Go.Lib.join (xs.map (·.data.toList)) (bz sep).data.toList).toArray⟩) ∧ Below w.heap.size w w')
  (hn : ∀ (w : World) (a : Option Addr) (c : Nat), Calls P f #[.slice a 0 c, .string (bz sep)] w fun e w' => e = .returned (.string ⟨#[]⟩) ∧ w' = w) :
  Con P f [.sl 1 (A.map V.str), .str sep] (.v (.str r)) := by
 obtain ⟨hl, h⟩ := need_some h
 simp only [Option.some.injEq] at h; subst h
 refine con_pure _ (rv_v (rep_str _)) ?_
 intro w D vs hD ha
 cases ha with
 | cons h1 h2 _ _ _ =>
  have h2 := args_sc (l := [.str sep]) h2
  subst h2
  have emp : ∀ (a : Option Addr) (c : Nat), A = [] → Calls P f #[.slice a 0 c, .string (bz sep)] w fun e w' => e = .returned (.string ⟨(Go.Lib.join A sep).toArray⟩) ∧ Below w.heap.size w w' := by
   rintro a c rfl
   refine (hn w a c).mono ?_
   rintro e w' ⟨rfl, rfl⟩
   exact ⟨rfl, Below.refl _ _⟩
  generalize hL : A.map V.str = L at h1
  cases h1 with
  | nil => exact emp _ 0 (by simpa using hL)
  | slro hD1 hb hu hr hlc hm =>
   rename_i g off c us
   subst hL
   rw [oneStr.flat] at hr
   have hv := oneStr.vals hr
   subst hv
   rw [List.length_map] at hlc ⊢
   by_cases h0 : A = []
   ·subst h0; exact emp _ _ rfl
   ·have e1 : ((A.map bz).map (·.data.toList)) = A := by
     rw [List.map_map]
     conv => rhs; rw [← List.map_id A]
     apply List.map_congr_left
     intro a _
     simp
    have := hc w g off c (A.map bz) (fun j x hj => by
     rw [List.getElem?_map] at hj
     obtain ⟨a, ha, rfl⟩ := Option.map_eq_some_iff.1 hj
     exact blk_cell hb (by rw [List.getElem?_map, ha]; rfl)) (hD.lt g hD1) (by simpa using hl.1) (by simpa using hlc) (by rw [e1, bz_data]; exact hl.2)
    rw [e1, bz_data, List.length_map] at this
    exact this
end
end Go.Ab
