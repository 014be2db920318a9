import Derived.Test.YtpnmhfbiaajaeaaGreatDoorGO
import Derived.Lib.Join
import Derived.Deep.Draws
import Derived.Lib.Split
import Derived.Lib.CutLaws
import Derived.Lib.Strings
import Derived.Lib.Repeat
import Derived.Lib.ItoaNum
import Derived.Lib.ParseIntB
import Derived.Lib.SlTrimSet
set_option linter.unusedVariables false
set_option linter.unusedSimpArgs false
namespace Go.Ab
open Go.RowKit
open Go.Proofs (encStr)
open Go.Sort (grow)
section
variable {P : Program} {f : FuncId} {args : List V} {res : RV}
theorem con_pure (val : Value) (hv : ∀ (w : World) (D : BSet), RvRep w D res val Emp)
  (h : ∀ (w : World) (D : BSet) (vs : List Value), DOk w D → Reps w D false args vs Emp → Calls P f vs.toArray w fun e w' => e = .returned val ∧ Below w.heap.size w w') : Con P f args res := by
 intro w D vs hD hargs
 refine (h w D vs hD hargs).mono ?_
 rintro e w' ⟨rfl, hb⟩
 exact ⟨val, Emp, D, rfl, hv w' D, fun _ h => h.elim, fun _ h => h, fun g hg => ⟨Nat.lt_of_lt_of_le (hD.lt g hg) hb.size, .inl hg⟩, hb⟩
theorem rv_v {v : V} {val : Value} (h : ∀ (w : World) (D : BSet), Rep w D false v val Emp) (w : World) (D : BSet) : RvRep w D (.v v) val Emp := .one (.one (.val (h w D)))
theorem rv_t2 {v1 v2 : V} {x1 x2 : Value} (h1 : ∀ (w : World) (D : BSet), Rep w D false v1 x1 Emp) (h2 : ∀ (w : World) (D : BSet), Rep w D false v2 x2 Emp) (w : World) (D : BSet) : RvRep w D (.tup [.v v1, .v v2]) (.tuple #[x1, x2]) Emp :=
 .tup (.cons (.one (.val (h1 w D))) (.cons (.one (.val (h2 w D))) .nil (fun _ h => h.elim) (fun _ h => h) (fun _ h => h)) (fun _ h => h.elim) (fun _ h => h) (fun _ h => h))
theorem rv_t3 {v1 v2 v3 : V} {x1 x2 x3 : Value} (h1 : ∀ (w : World) (D : BSet), Rep w D false v1 x1 Emp) (h2 : ∀ (w : World) (D : BSet), Rep w D false v2 x2 Emp) (h3 : ∀ (w : World) (D : BSet), Rep w D false v3 x3 Emp) (w : World) (D : BSet) : RvRep w D (.tup [.v v1, .v v2, .v v3]) (.tuple #[x1, x2, x3]) Emp :=
 .tup (.cons (.one (.val (h1 w D))) (.cons (.one (.val (h2 w D))) (.cons (.one (.val (h3 w D))) .nil (fun _ h => h.elim) (fun _ h => h) (fun _ h => h)) (fun _ h => h.elim) (fun _ h => h) (fun _ h => h)) (fun _ h => h.elim) (fun _ h => h) (fun _ h => h))
theorem rep_str (s : List UInt8) (w : World) (D : BSet) : Rep w D false (.str s) (.string ⟨s.toArray⟩) Emp := .str s
theorem rep_int (n : Int) (w : World) (D : BSet) : Rep w D false (.int .i64 n) (.int .i64 n) Emp := .int _ n
theorem rep_bool (b : Bool) (w : World) (D : BSet) : Rep w D false (.bool b) (.bool b) Emp := .bool b
theorem below_grow (w : World) (n : Nat) (os : Array Obj) : Below w.heap.size w (grow (w.drewN n) os) := by
 refine ⟨rfl, rfl, rfl, ?_, ?_⟩
 ·simp only [grow, Array.size_append]
  show w.heap.size ≤ w.heap.size + os.size
  omega
 ·intro k hk
  simp only [grow]
  exact Array.getElem?_append_left hk
theorem below_drewN (w : World) (n : Nat) : Below w.heap.size w (w.drewN n) := ⟨rfl, rfl, rfl, Nat.le_refl _, fun _ _ => rfl⟩
theorem sc_inv {w : World} {D S : BSet} {o : Bool} {s : Sc} {x : Value} (h : Rep w D o s.v x S) : x = s.val := by cases s <;> cases h <;> rfl
theorem args_sc : ∀ {w : World} {D : BSet} {l : List Sc} {vs : List Value} {S : BSet}, Reps w D false (l.map Sc.v) vs S → vs = l.map Sc.val
 | _, _, [], _, _, .nil => rfl
 | _, _, s :: l, _, _, .cons h hs _ _ _ => by rw [sc_inv h, args_sc hs]; rfl
end
def bz (s : List UInt8) : ByteArray := ⟨s.toArray⟩
@[simp] theorem bz_data (s : List UInt8) : (bz s).data.toList = s := by simp [bz]
@[simp] theorem bz_size (s : List UInt8) : (bz s).size = s.length := by simp [bz, ByteArray.size]
def F_formatInt (n b : Int) : Option (List UInt8) := need (b = 10 ∧ -9223372036854775808 ≤ n ∧ n ≤ 9223372036854775807) (some (Go.Lib.itoa n))
def F_cut (s sep : List UInt8) : Option (List UInt8 × List UInt8 × Bool) := need (s.length < 4294967281) (some (Go.Lib.cut s sep))
@[simp] def res_split (r : List (List UInt8)) : RV := .r true 1 (r.map V.str)
@[simp] def res_splitN (r : List (List UInt8)) : RV := .r true 1 (r.map V.str)
def readDec (s : List UInt8) : Int × Bool := match Go.Lib.parseIntB 64 s with
 | .ok v => if 18 < (Go.Lib.trimPrefix s [45]).length ∨ Go.Lib.itoa v ≠ s then (0, false) else (v, true)
 | _ => (0, false)
def F_readDec (s : List UInt8) : Option (Int × Bool) := need (s.length ≤ 281474976710656) (some (readDec s))
section
variable {P : Program} {f : FuncId}
theorem t_formatInt {n b : Int} {r : List UInt8} (h : F_formatInt n b = some r)
  (hc : ∀ w : World, TabQ w → -9223372036854775808 ≤ n → n ≤ 9223372036854775807 → Calls P f #[.int .i64 n, .int .i64 10] w fun e w' => e = .returned (.string ⟨(Go.Lib.itoa n).toArray⟩) ∧ ∃ k os, w' = grow (w.drewN k) os) :
  Con P f [.int .i64 n, .int .i64 b] (.v (.str r)) := by
 unfold F_formatInt at h
 obtain ⟨⟨e, hn⟩, h2⟩ := need_some h
 subst e
 cases h2
 refine con_pure _ (rv_v (rep_str _)) ?_
 intro w D vs hD ha
 have := args_sc (l := [.int .i64 n, .int .i64 10]) ha
 subst this
 refine (hc w hD.tabs.q hn.1 hn.2).mono ?_
 rintro e w' ⟨rfl, k, os, rfl⟩
 exact ⟨rfl, below_grow _ _ _⟩
theorem t_cut {s sep : List UInt8} {r : List UInt8 × List UInt8 × Bool} (h : F_cut s sep = some r)
  (hc : ∀ (w : World), TabQ w → (bz s).size < 4294967281 → Calls P f #[.string (bz s), .string (bz sep)] w fun e w' =>
   e = .returned (.tuple #[.string ⟨(Go.Lib.cut (bz s).data.toList (bz sep).data.toList).1.toArray⟩, .string ⟨(Go.Lib.cut (bz s).data.toList (bz sep).data.toList).2.1.toArray⟩, .bool (Go.Lib.cut (bz s).data.toList (bz sep).data.toList).2.2]) ∧ ∃ n, w' = w.drewN n) :
  Con P f [.str s, .str sep] (.tup [.v (.str r.1), .v (.str r.2.1), .v (.bool r.2.2)]) := by
 obtain ⟨h1, h⟩ := need_some h
 simp only [Option.some.injEq] at h; subst h
 refine con_pure _ (rv_t3 (rep_str _) (rep_str _) (rep_bool _)) ?_
 intro w D vs hD ha
 have := args_sc (l := [.str s, .str sep]) ha
 subst this
 have := hc w hD.tabs.q (by simpa using h1)
 rw [bz_data, bz_data] at this
 refine this.mono ?_
 rintro e w' ⟨rfl, n, rfl⟩
 exact ⟨rfl, below_drewN _ _⟩
end
end Go.Ab
