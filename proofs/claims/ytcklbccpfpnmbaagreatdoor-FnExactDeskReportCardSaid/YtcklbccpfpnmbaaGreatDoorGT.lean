import Derived.Test.YtcklbccpfpnmbaaGreatDoorGO
import Derived.Lib.Join
import Derived.Deep.Draws
import Derived.Lib.Split
import Derived.Lib.CutLaws
import Derived.Lib.Strings
import Derived.Lib.Repeat
import Derived.Lib.ItoaNum
import Derived.Lib.ParseIntB
import Derived.Lib.SlTrimSet
set_option linter.unusedVariables false
set_option linter.unusedSimpArgs false
namespace Go.Ab
open Go.RowKit
open Go.Proofs (encStr)
open Go.Sort (grow)
section
variable {P : Program} {f : FuncId} {args : List V} {res : RV}
theorem c1N (val : Value) (hv : ∀ (w : World) (D : q9), RvRep w D res val Emp)
  (h : ∀ (w : World) (D : q9) (vs : List Value), DOk w D → Reps w D false args vs Emp → Calls P f vs.toArray w fun e w' => e = .returned val ∧ Below w.heap.size w w') : Con P f args res := by
 intro w D vs hD hargs
 refine (h w D vs hD hargs).mono ?_
 rintro e w' ⟨rfl, hb⟩
 exact ⟨val, Emp, D, rfl, hv w' D, fun _ h => h.elim, fun _ h => h, fun g hg => ⟨Nat.lt_of_lt_of_le (hD.lt g hg) hb.size, .inl hg⟩, hb⟩
theorem c9D {v : V} {val : Value} (h : ∀ (w : World) (D : q9), Rep w D false v val Emp) (w : World) (D : q9) : RvRep w D (.v v) val Emp := .one (.one (.val (h w D)))
theorem c3s (s : List UInt8) (w : World) (D : q9) : Rep w D false (.str s) (.string ⟨s.toArray⟩) Emp := .str s
theorem b8o (w : World) (n : Nat) (os : Array Obj) : Below w.heap.size w (grow (w.drewN n) os) := by
 refine ⟨rfl, rfl, rfl, ?_, ?_⟩
 ·simp only [grow, Array.size_append]
  show w.heap.size ≤ w.heap.size + os.size
  omega
 ·intro k hk
  simp only [grow]
  exact Array.getElem?_append_left hk
theorem c5S {w : World} {D S : q9} {o : Bool} {s : Sc} {x : Value} (h : Rep w D o s.v x S) : x = s.val := by cases s <;> cases h <;> rfl
theorem b9s : ∀ {w : World} {D : q9} {l : List Sc} {vs : List Value} {S : q9}, Reps w D false (l.map Sc.v) vs S → vs = l.map Sc.val
 | _, _, [], _, _, .nil => rfl
 | _, _, s :: l, _, _, .cons h hs _ _ _ => by rw [c5S h, b9s hs]; rfl
end
def bz (s : List UInt8) : ByteArray := ⟨s.toArray⟩
@[simp] theorem c8L (s : List UInt8) : (bz s).data.toList = s := by simp [bz]
@[simp] theorem c8K (s : List UInt8) : (bz s).size = s.length := by simp [bz, ByteArray.size]
def a2X (n b : Int) : Option (List UInt8) := need (b = 10 ∧ -9223372036854775808 ≤ n ∧ n ≤ 9223372036854775807) (some (Go.Lib.itoa n))
@[simp] def c6O (r : List (List UInt8)) : RV := .r true 1 (r.map V.str)
@[simp] def c5C (r : List (List UInt8)) : RV := .r true 1 (r.map V.str)
section
variable {P : Program} {f : FuncId}
theorem b7M {n b : Int} {r : List UInt8} (h : a2X n b = some r)
  (hc : ∀ w : World, TabQ w → -9223372036854775808 ≤ n → n ≤ 9223372036854775807 → Calls P f #[.int .i64 n, .int .i64 10] w fun e w' => e = .returned (.string ⟨(Go.Lib.itoa n).toArray⟩) ∧ ∃ k os, w' = grow (w.drewN k) os) :
  Con P f [.int .i64 n, .int .i64 b] (.v (.str r)) := by
 unfold a2X at h
 obtain ⟨⟨e, hn⟩, h2⟩ := y2 h
 subst e
 cases h2
 refine c1N _ (c9D (c3s _)) ?_
 intro w D vs hD ha
 have := b9s (l := [.int .i64 n, .int .i64 10]) ha
 subst this
 refine (hc w hD.tabs.q hn.1 hn.2).mono ?_
 rintro e w' ⟨rfl, k, os, rfl⟩
 exact ⟨rfl, b8o _ _ _⟩
end
end Go.Ab
