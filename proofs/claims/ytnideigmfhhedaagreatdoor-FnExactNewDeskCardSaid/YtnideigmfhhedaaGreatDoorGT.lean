import Derived.Test.YtnideigmfhhedaaGreatDoorGO
import Derived.Lib.Join
import Derived.Deep.Draws
import Derived.Lib.Split
import Derived.Lib.CutLaws
import Derived.Lib.Strings
import Derived.Lib.Repeat
import Derived.Lib.ItoaNum
import Derived.Lib.ParseIntB
import Derived.Lib.SlTrimSet
set_option linter.unusedVariables false
set_option linter.unusedSimpArgs false
namespace Go.Ab
open Go.RowKit
open Go.Proofs (encStr)
open Go.Sort (grow)
section
variable {P : Program} {f : FuncId} {args : List V} {res : RV}
theorem con_strs {L : List (List UInt8)} (c : Nat) (hc : L.length ≤ c) (hm : c ≤ maxLen)
  (h : ∀ (w : World) (D : BSet) (vs : List Value), DOk w D → Reps w D false args vs Emp → Calls P f vs.toArray w fun e w' => e = .returned (.slice (some ⟨w.heap.size, 0, none⟩) L.length c) ∧
   ∃ cur ty, w' = w.alloc (.cells cur ty) ∧ c ≤ cur.size ∧ ∀ (j : Nat) (u : Value), (L.map encStr)[j]? = some u → cur[j]? = some u) : Con P f args (.r true 1 (L.map V.str)) := by
 intro w D vs hD hargs
 refine (h w D vs hD hargs).mono ?_
 rintro e w' ⟨rfl, cur, ty, rfl, hsz, hcur⟩
 have hnew : (w.alloc (.cells cur ty)).heap[w.heap.size]? = some (.cells cur ty (0, 0)) := heap_new _ _
 have hsize : (w.alloc (.cells cur ty)).heap.size = w.heap.size + 1 := by simp
 refine ⟨_, fun g => g = w.heap.size, D, rfl, .one (.one ?_), ?_, fun _ h => h, fun g hg => ⟨by have := hD.lt g hg; omega, .inl hg⟩, below_alloc' _ _⟩
 ·have := R1Rep.row (w := w.alloc (.cells cur ty)) (D := D) (own := true) (sz := 1) (L := L.map V.str) (g := w.heap.size) (o := 0) (c := c) (vs := L.map encStr) (S := fun g => g = w.heap.size) (T := Emp) rfl (fun _ h => h.elim) (fun h => h.elim)
   ⟨cur, ty, hnew, fun j u hj => by rw [Nat.zero_add]; exact hcur j u hj⟩ (oneStr.uni L) (by rw [oneStr.flat]; exact oneStr.reps L) (by rw [List.length_map]; exact hc) hm ⟨cur, ty, hnew, fun _ => by omega⟩
  rw [List.length_map] at this
  exact this
 ·rintro g rfl
  exact ⟨Nat.le_refl _, by omega, fun hd => Nat.lt_irrefl _ (hD.lt _ hd)⟩
theorem sc_inv {w : World} {D S : BSet} {o : Bool} {s : Sc} {x : Value} (h : Rep w D o s.v x S) : x = s.val := by cases s <;> cases h <;> rfl
theorem args_sc : ∀ {w : World} {D : BSet} {l : List Sc} {vs : List Value} {S : BSet}, Reps w D false (l.map Sc.v) vs S → vs = l.map Sc.val
 | _, _, [], _, _, .nil => rfl
 | _, _, s :: l, _, _, .cons h hs _ _ _ => by rw [sc_inv h, args_sc hs]; rfl
end
def bz (s : List UInt8) : ByteArray := ⟨s.toArray⟩
@[simp] theorem bz_data (s : List UInt8) : (bz s).data.toList = s := by simp [bz]
@[simp] theorem bz_size (s : List UInt8) : (bz s).size = s.length := by simp [bz, ByteArray.size]
def F_split (s sep : List UInt8) : Option (List (List UInt8)) := need (s.length < 4294967281 ∧ 1 ≤ sep.length) (some ((Go.Lib.splitB (bz sep) 0 (Go.Lib.countB (bz s) (bz sep)) (bz s)).map (·.data.toList)))
@[simp] def res_split (r : List (List UInt8)) : RV := .r true 1 (r.map V.str)
@[simp] def res_splitN (r : List (List UInt8)) : RV := .r true 1 (r.map V.str)
section
variable {P : Program} {f : FuncId}
theorem map_bz (l : List ByteArray) : (l.map (·.data.toList)).map encStr = l.map Value.string := by
 rw [List.map_map]
 apply List.map_congr_left
 intro a _
 simp [encStr]
theorem t_split {s sep : List UInt8} {r : List (List UInt8)} (h : F_split s sep = some r) {T : TypeId}
  (hlen : (Go.Lib.splitB (bz sep) 0 (Go.Lib.countB (bz s) (bz sep)) (bz s)).length = Go.Lib.countB (bz s) (bz sep) + 1) (hle : Go.Lib.countB (bz s) (bz sep) ≤ s.length)
  (hc : ∀ (w : World), TabQ w → (bz s).size < 4294967281 → 1 ≤ (bz sep).size → Calls P f #[.string (bz s), .string (bz sep)] w fun e w' =>
   e = .returned (.slice (some ⟨w.heap.size, 0, none⟩) (Go.Lib.countB (bz s) (bz sep) + 1) (Go.Lib.countB (bz s) (bz sep) + 1)) ∧ w' = w.alloc (.cells ((Go.Lib.splitB (bz sep) 0 (Go.Lib.countB (bz s) (bz sep)) (bz s)).map Value.string).toArray T)) :
  Con P f [.str s, .str sep] (.r true 1 (r.map V.str)) := by
 obtain ⟨⟨h1, h2⟩, h⟩ := need_some h
 simp only [Option.some.injEq] at h; subst h
 refine con_strs (Go.Lib.countB (bz s) (bz sep) + 1) (by rw [List.length_map]; omega) (by unfold maxLen; omega) ?_
 intro w D vs hD ha
 have := args_sc (l := [.str s, .str sep]) ha
 subst this
 refine (hc w hD.tabs.q (by simpa using h1) (by simpa using h2)).mono ?_
 rintro e w' ⟨rfl, rfl⟩
 refine ⟨by rw [List.length_map, hlen], _, T, rfl, ?_, ?_⟩
 ·simp [hlen]
 ·intro j u hj
  rw [map_bz] at hj
  rw [List.getElem?_toArray]
  exact hj
end
end Go.Ab
