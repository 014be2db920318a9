/- Contracts of the library's functions over texts, from the kit's (own framework). -/
import Derived.Test.YtcncimahmacpoaaGreatDoorGO
import Derived.Lib.Join
import Derived.Deep.Draws
import Derived.Lib.Split
import Derived.Lib.CutLaws
import Derived.Lib.Strings
import Derived.Lib.Repeat
import Derived.Lib.ItoaNum
import Derived.Lib.ParseIntB
import Derived.Lib.SlTrimSet
set_option linter.unusedVariables false
set_option linter.unusedSimpArgs false
namespace Go.Ab
open Go.RowKit
open Go.Proofs (encStr)
open Go.Sort (grow)

section
variable {P : Program} {f : FuncId} {args : List V} {res : RV}
/-- A function that gives a plain value and leaves memory below as it was. -/
theorem con_pure (val : Value) (hv : ∀ (w : World) (D : BSet), RvRep w D res val Emp)
    (h : ∀ (w : World) (D : BSet) (vs : List Value), DOk w D → Reps w D false args vs Emp → Calls P f vs.toArray w fun e w' => e = .returned val ∧ Below w.heap.size w w') : Con P f args res := by
  intro w D vs hD hargs
  refine (h w D vs hD hargs).mono ?_
  rintro e w' ⟨rfl, hb⟩
  exact ⟨val, Emp, D, rfl, hv w' D, fun _ h => h.elim, fun _ h => h, fun g hg => ⟨Nat.lt_of_lt_of_le (hD.lt g hg) hb.size, .inl hg⟩, hb⟩
theorem rv_v {v : V} {val : Value} (h : ∀ (w : World) (D : BSet), Rep w D false v val Emp) (w : World) (D : BSet) : RvRep w D (.v v) val Emp := .one (.one (.val (h w D)))
theorem rv_t2 {v1 v2 : V} {x1 x2 : Value} (h1 : ∀ (w : World) (D : BSet), Rep w D false v1 x1 Emp) (h2 : ∀ (w : World) (D : BSet), Rep w D false v2 x2 Emp) (w : World) (D : BSet) : RvRep w D (.tup [.v v1, .v v2]) (.tuple #[x1, x2]) Emp :=
  .tup (.cons (.one (.val (h1 w D))) (.cons (.one (.val (h2 w D))) .nil (fun _ h => h.elim) (fun _ h => h) (fun _ h => h)) (fun _ h => h.elim) (fun _ h => h) (fun _ h => h))
theorem rv_t3 {v1 v2 v3 : V} {x1 x2 x3 : Value} (h1 : ∀ (w : World) (D : BSet), Rep w D false v1 x1 Emp) (h2 : ∀ (w : World) (D : BSet), Rep w D false v2 x2 Emp) (h3 : ∀ (w : World) (D : BSet), Rep w D false v3 x3 Emp) (w : World) (D : BSet) : RvRep w D (.tup [.v v1, .v v2, .v v3]) (.tuple #[x1, x2, x3]) Emp :=
  .tup (.cons (.one (.val (h1 w D))) (.cons (.one (.val (h2 w D))) (.cons (.one (.val (h3 w D))) .nil (fun _ h => h.elim) (fun _ h => h) (fun _ h => h)) (fun _ h => h.elim) (fun _ h => h) (fun _ h => h)) (fun _ h => h.elim) (fun _ h => h) (fun _ h => h))
theorem rep_str (s : List UInt8) (w : World) (D : BSet) : Rep w D false (.str s) (.string ⟨s.toArray⟩) Emp := .str s
theorem rep_int (n : Int) (w : World) (D : BSet) : Rep w D false (.int .i64 n) (.int .i64 n) Emp := .int _ n
theorem rep_bool (b : Bool) (w : World) (D : BSet) : Rep w D false (.bool b) (.bool b) Emp := .bool b
theorem below_grow (w : World) (n : Nat) (os : Array Obj) : Below w.heap.size w (grow (w.drewN n) os) := by
  refine ⟨rfl, rfl, rfl, ?_, ?_⟩
  · simp only [grow, Array.size_append]
    show w.heap.size ≤ w.heap.size + os.size
    omega
  · intro k hk
    simp only [grow]
    exact Array.getElem?_append_left hk
theorem below_drewN (w : World) (n : Nat) : Below w.heap.size w (w.drewN n) := ⟨rfl, rfl, rfl, Nat.le_refl _, fun _ _ => rfl⟩

/-- A function that gives a new row of strings. -/
theorem con_strs {L : List (List UInt8)} (c : Nat) (hc : L.length ≤ c) (hm : c ≤ maxLen)
    (h : ∀ (w : World) (D : BSet) (vs : List Value), DOk w D → Reps w D false args vs Emp → Calls P f vs.toArray w fun e w' => e = .returned (.slice (some ⟨w.heap.size, 0, none⟩) L.length c) ∧
      ∃ cur ty, w' = w.alloc (.cells cur ty) ∧ c ≤ cur.size ∧ ∀ (j : Nat) (u : Value), (L.map encStr)[j]? = some u → cur[j]? = some u) : Con P f args (.r true 1 (L.map V.str)) := by
  intro w D vs hD hargs
  refine (h w D vs hD hargs).mono ?_
  rintro e w' ⟨rfl, cur, ty, rfl, hsz, hcur⟩
  have hnew : (w.alloc (.cells cur ty)).heap[w.heap.size]? = some (.cells cur ty (0, 0)) := heap_new _ _
  have hsize : (w.alloc (.cells cur ty)).heap.size = w.heap.size + 1 := by simp
  refine ⟨_, fun g => g = w.heap.size, D, rfl, .one (.one ?_), ?_, fun _ h => h, fun g hg => ⟨by have := hD.lt g hg; omega, .inl hg⟩, below_alloc' _ _⟩
  · have := R1Rep.row (w := w.alloc (.cells cur ty)) (D := D) (own := true) (sz := 1) (L := L.map V.str) (g := w.heap.size) (o := 0) (c := c) (vs := L.map encStr) (S := fun g => g = w.heap.size) (T := Emp) rfl (fun _ h => h.elim) (fun h => h.elim)
      ⟨cur, ty, hnew, fun j u hj => by rw [Nat.zero_add]; exact hcur j u hj⟩ (oneStr.uni L) (by rw [oneStr.flat]; exact oneStr.reps L) (by rw [List.length_map]; exact hc) hm ⟨cur, ty, hnew, fun _ => by omega⟩
    rw [List.length_map] at this
    exact this
  · rintro g rfl
    exact ⟨Nat.le_refl _, by omega, fun hd => Nat.lt_irrefl _ (hD.lt _ hd)⟩

/-- Scalars among the arguments. -/
theorem sc_inv {w : World} {D S : BSet} {o : Bool} {s : Sc} {x : Value} (h : Rep w D o s.v x S) : x = s.val := by cases s <;> cases h <;> rfl
theorem args_sc : ∀ {w : World} {D : BSet} {l : List Sc} {vs : List Value} {S : BSet}, Reps w D false (l.map Sc.v) vs S → vs = l.map Sc.val
  | _, _, [], _, _, .nil => rfl
  | _, _, s :: l, _, _, .cons h hs _ _ _ => by rw [sc_inv h, args_sc hs]; rfl
end

def bz (s : List UInt8) : ByteArray := ⟨s.toArray⟩
@[simp] theorem bz_data (s : List UInt8) : (bz s).data.toList = s := by simp [bz]
@[simp] theorem bz_size (s : List UInt8) : (bz s).size = s.length := by simp [bz, ByteArray.size]

/-- What the library's functions over texts give. -/
def F_formatInt (n b : Int) : Option (List UInt8) := need (b = 10 ∧ -9223372036854775808 ≤ n ∧ n ≤ 9223372036854775807) (some (Go.Lib.itoa n))
def F_join (A : List (List UInt8)) (sep : List UInt8) : Option (List UInt8) := need (A.length ≤ 140737488355328 ∧ (Go.Lib.join A sep).length ≤ 140737488355328) (some (Go.Lib.join A sep))
def F_split (s sep : List UInt8) : Option (List (List UInt8)) := need (s.length < 4294967281 ∧ 1 ≤ sep.length) (some ((Go.Lib.splitB (bz sep) 0 (Go.Lib.countB (bz s) (bz sep)) (bz s)).map (·.data.toList)))
def F_splitN (s sep : List UInt8) (n : Int) : Option (List (List UInt8)) := need (s.length < 4294967281 ∧ 1 ≤ sep.length ∧ 1 ≤ n ∧ n ≤ 9223372036854775807) (some ((Go.Lib.splitB (bz sep) 0 (min n.toNat (s.length + 1) - 1) (bz s)).map (·.data.toList)))
def F_cut (s sep : List UInt8) : Option (List UInt8 × List UInt8 × Bool) := need (s.length < 4294967281) (some (Go.Lib.cut s sep))
def F_cutPrefix (s p : List UInt8) : Option (List UInt8 × Bool) := some (Go.Lib.trimPrefix s p, Go.Lib.hasPrefix s p)
def F_hasPrefix (s p : List UInt8) : Option Bool := some (Go.Lib.hasPrefix s p)
def F_hasSuffix (s p : List UInt8) : Option Bool := need (s.length ≤ 9223372036854775807) (some (Go.Lib.hasSuffix s p))
def F_trimPrefix (s p : List UInt8) : Option (List UInt8) := some (Go.Lib.trimPrefix s p)
def F_trimSuffix (s p : List UInt8) : Option (List UInt8) := need (s.length ≤ 9223372036854775807) (some (Go.Lib.trimSuffix s p))
def F_trimRight (s c : List UInt8) : Option (List UInt8) := need (s.length ≤ 9223372036854775807 ∧ c.length < 4294967281 ∧ c.all (fun b => decide (b.toNat < 128)) = true) (some (Go.Lib.trimRightS s c))
def F_repeat (s : List UInt8) (c : Int) : Option (List UInt8) := need (0 ≤ c ∧ c ≤ 9223372036854775807 ∧ s.length * c.toNat ≤ 140737488355328) (some (Go.Lib.repeatL s c.toNat))
@[simp] def res_split (r : List (List UInt8)) : RV := .r true 1 (r.map V.str)
@[simp] def res_splitN (r : List (List UInt8)) : RV := .r true 1 (r.map V.str)
/-- ReadDecimal: the number, if the text is the one that it has. -/
def readDec (s : List UInt8) : Int × Bool := match Go.Lib.parseIntB 64 s with
  | .ok v => if 18 < (Go.Lib.trimPrefix s [45]).length ∨ Go.Lib.itoa v ≠ s then (0, false) else (v, true)
  | _ => (0, false)
def F_readDec (s : List UInt8) : Option (Int × Bool) := need (s.length ≤ 281474976710656) (some (readDec s))

section
variable {P : Program} {f : FuncId}
theorem t_formatInt {n b : Int} {r : List UInt8} (h : F_formatInt n b = some r)
    (hc : ∀ w : World, TabQ w → -9223372036854775808 ≤ n → n ≤ 9223372036854775807 → Calls P f #[.int .i64 n, .int .i64 10] w fun e w' => e = .returned (.string ⟨(Go.Lib.itoa n).toArray⟩) ∧ ∃ k os, w' = grow (w.drewN k) os) :
    Con P f [.int .i64 n, .int .i64 b] (.v (.str r)) := by
  unfold F_formatInt at h
  obtain ⟨⟨e, hn⟩, h2⟩ := need_some h
  subst e
  cases h2
  refine con_pure _ (rv_v (rep_str _)) ?_
  intro w D vs hD ha
  have := args_sc (l := [.int .i64 n, .int .i64 10]) ha
  subst this
  refine (hc w hD.tabs.q hn.1 hn.2).mono ?_
  rintro e w' ⟨rfl, k, os, rfl⟩
  exact ⟨rfl, below_grow _ _ _⟩
theorem t_join {A : List (List UInt8)} {sep r : List UInt8} (h : F_join A sep = some r)
    (hc : ∀ (w : World) (bk o c : Nat) (xs : List ByteArray), (∀ (j : Nat) x, xs[j]? = some x → w.cell? ⟨bk, o + j, none⟩ = some (.string x)) → bk < w.heap.size → xs.length ≤ 140737488355328 → xs.length ≤ c → (Go.Lib.join (xs.map (·.data.toList)) (bz sep).data.toList).length ≤ 140737488355328 →
      Calls P f #[.slice (some ⟨bk, o, none⟩) xs.length c, .string (bz sep)] w fun e w' => e = .returned (.string ⟨(Go.Lib.join (xs.map (·.data.toList)) (bz sep).data.toList).toArray⟩) ∧ Below w.heap.size w w')
    (hn : ∀ (w : World) (a : Option Addr) (c : Nat), Calls P f #[.slice a 0 c, .string (bz sep)] w fun e w' => e = .returned (.string ⟨#[]⟩) ∧ w' = w) :
    Con P f [.sl 1 (A.map V.str), .str sep] (.v (.str r)) := by
  obtain ⟨hl, h⟩ := need_some h
  simp only [Option.some.injEq] at h; subst h
  refine con_pure _ (rv_v (rep_str _)) ?_
  intro w D vs hD ha
  cases ha with
  | cons h1 h2 _ _ _ =>
    have h2 := args_sc (l := [.str sep]) h2
    subst h2
    have emp : ∀ (a : Option Addr) (c : Nat), A = [] → Calls P f #[.slice a 0 c, .string (bz sep)] w fun e w' => e = .returned (.string ⟨(Go.Lib.join A sep).toArray⟩) ∧ Below w.heap.size w w' := by
      rintro a c rfl
      refine (hn w a c).mono ?_
      rintro e w' ⟨rfl, rfl⟩
      exact ⟨rfl, Below.refl _ _⟩
    generalize hL : A.map V.str = L at h1
    cases h1 with
    | nil => exact emp _ 0 (by simpa using hL)
    | slro hD1 hb hu hr hlc hm =>
      rename_i g off c us
      subst hL
      rw [oneStr.flat] at hr
      have hv := oneStr.vals hr
      subst hv
      rw [List.length_map] at hlc ⊢
      by_cases h0 : A = []
      · subst h0; exact emp _ _ rfl
      · have e1 : ((A.map bz).map (·.data.toList)) = A := by
          rw [List.map_map]
          conv => rhs; rw [← List.map_id A]
          apply List.map_congr_left
          intro a _
          simp
        have := hc w g off c (A.map bz) (fun j x hj => by
          rw [List.getElem?_map] at hj
          obtain ⟨a, ha, rfl⟩ := Option.map_eq_some_iff.1 hj
          exact blk_cell hb (by rw [List.getElem?_map, ha]; rfl)) (hD.lt g hD1) (by simpa using hl.1) (by simpa using hlc) (by rw [e1, bz_data]; exact hl.2)
        rw [e1, bz_data, List.length_map] at this
        exact this
theorem splitB_len (sep : ByteArray) (k : Nat) : ∀ (n : Nat) (s : ByteArray), (Go.Lib.splitB sep k n s).length ≤ n + 1
  | 0, s => by simp [Go.Lib.splitB]
  | n + 1, s => by
    simp only [Go.Lib.splitB]
    split
    · simp
    · simp only [List.length_cons]
      have := splitB_len sep k n (s.extract ((Go.Lib.indexB s sep).toNat + sep.size) s.size)
      omega
theorem map_bz (l : List ByteArray) : (l.map (·.data.toList)).map encStr = l.map Value.string := by
  rw [List.map_map]
  apply List.map_congr_left
  intro a _
  simp [encStr]
theorem t_splitN {s sep : List UInt8} {n : Int} {r : List (List UInt8)} (h : F_splitN s sep n = some r) {T : TypeId}
    (hc : ∀ (w : World) (n : Nat), TabQ w → (bz s).size < 4294967281 → 1 ≤ (bz sep).size → 1 ≤ n → n ≤ 9223372036854775807 → Calls P f #[.string (bz s), .string (bz sep), .int .i64 n] w fun e w' =>
      e = .returned (.slice (some ⟨w.heap.size, 0, none⟩) (Go.Lib.splitB (bz sep) 0 (min n ((bz s).size + 1) - 1) (bz s)).length (min n ((bz s).size + 1))) ∧ w' = w.alloc (.cells (Go.Lib.cellsOf (Go.Lib.splitB (bz sep) 0 (min n ((bz s).size + 1) - 1) (bz s)) (min n ((bz s).size + 1))) T)) :
    Con P f [.str s, .str sep, .int .i64 n] (.r true 1 (r.map V.str)) := by
  obtain ⟨⟨h1, h2, h3, h4⟩, h⟩ := need_some h
  simp only [Option.some.injEq] at h; subst h
  have hlen := splitB_len (bz sep) 0 (min n.toNat (s.length + 1) - 1) (bz s)
  have hmin : 1 ≤ min n.toNat (s.length + 1) := by omega
  refine con_strs (min n.toNat (s.length + 1)) (by rw [List.length_map]; omega) (by unfold maxLen; omega) ?_
  intro w D vs hD ha
  have := args_sc (l := [.str s, .str sep, .int .i64 n]) ha
  subst this
  have := hc w n.toNat hD.tabs.q (by simpa using h1) (by simpa using h2) (by omega) (by omega)
  rw [show ((n.toNat : Nat) : Int) = n by omega, bz_size] at this
  refine this.mono ?_
  rintro e w' ⟨rfl, rfl⟩
  refine ⟨by rw [List.length_map], _, T, rfl, ?_, ?_⟩
  · rw [Go.Lib.cellsOf_size (by omega)]; exact Nat.le_refl _
  · intro j u hj
    rw [map_bz] at hj
    unfold Go.Lib.cellsOf
    rw [List.getElem?_toArray, List.getElem?_append_left (List.getElem?_eq_some_iff.1 hj).1]
    exact hj
theorem t_split {s sep : List UInt8} {r : List (List UInt8)} (h : F_split s sep = some r) {T : TypeId}
    (hlen : (Go.Lib.splitB (bz sep) 0 (Go.Lib.countB (bz s) (bz sep)) (bz s)).length = Go.Lib.countB (bz s) (bz sep) + 1) (hle : Go.Lib.countB (bz s) (bz sep) ≤ s.length)
    (hc : ∀ (w : World), TabQ w → (bz s).size < 4294967281 → 1 ≤ (bz sep).size → Calls P f #[.string (bz s), .string (bz sep)] w fun e w' =>
      e = .returned (.slice (some ⟨w.heap.size, 0, none⟩) (Go.Lib.countB (bz s) (bz sep) + 1) (Go.Lib.countB (bz s) (bz sep) + 1)) ∧ w' = w.alloc (.cells ((Go.Lib.splitB (bz sep) 0 (Go.Lib.countB (bz s) (bz sep)) (bz s)).map Value.string).toArray T)) :
    Con P f [.str s, .str sep] (.r true 1 (r.map V.str)) := by
  obtain ⟨⟨h1, h2⟩, h⟩ := need_some h
  simp only [Option.some.injEq] at h; subst h
  refine con_strs (Go.Lib.countB (bz s) (bz sep) + 1) (by rw [List.length_map]; omega) (by unfold maxLen; omega) ?_
  intro w D vs hD ha
  have := args_sc (l := [.str s, .str sep]) ha
  subst this
  refine (hc w hD.tabs.q (by simpa using h1) (by simpa using h2)).mono ?_
  rintro e w' ⟨rfl, rfl⟩
  refine ⟨by rw [List.length_map, hlen], _, T, rfl, ?_, ?_⟩
  · simp [hlen]
  · intro j u hj
    rw [map_bz] at hj
    rw [List.getElem?_toArray]
    exact hj
theorem t_cut {s sep : List UInt8} {r : List UInt8 × List UInt8 × Bool} (h : F_cut s sep = some r)
    (hc : ∀ (w : World), TabQ w → (bz s).size < 4294967281 → Calls P f #[.string (bz s), .string (bz sep)] w fun e w' =>
      e = .returned (.tuple #[.string ⟨(Go.Lib.cut (bz s).data.toList (bz sep).data.toList).1.toArray⟩, .string ⟨(Go.Lib.cut (bz s).data.toList (bz sep).data.toList).2.1.toArray⟩, .bool (Go.Lib.cut (bz s).data.toList (bz sep).data.toList).2.2]) ∧ ∃ n, w' = w.drewN n) :
    Con P f [.str s, .str sep] (.tup [.v (.str r.1), .v (.str r.2.1), .v (.bool r.2.2)]) := by
  obtain ⟨h1, h⟩ := need_some h
  simp only [Option.some.injEq] at h; subst h
  refine con_pure _ (rv_t3 (rep_str _) (rep_str _) (rep_bool _)) ?_
  intro w D vs hD ha
  have := args_sc (l := [.str s, .str sep]) ha
  subst this
  have := hc w hD.tabs.q (by simpa using h1)
  rw [bz_data, bz_data] at this
  refine this.mono ?_
  rintro e w' ⟨rfl, n, rfl⟩
  exact ⟨rfl, below_drewN _ _⟩
theorem t_cutPrefix {s p : List UInt8} {r : List UInt8 × Bool} (h : F_cutPrefix s p = some r)
    (hc : ∀ (w : World), Calls P f #[.string (bz s), .string (bz p)] w fun e w' => e = .returned (.tuple #[.string ⟨(Go.Lib.trimPrefix (bz s).data.toList (bz p).data.toList).toArray⟩, .bool (Go.Lib.hasPrefix (bz s).data.toList (bz p).data.toList)]) ∧ w' = w) :
    Con P f [.str s, .str p] (.tup [.v (.str r.1), .v (.bool r.2)]) := by
  unfold F_cutPrefix at h
  simp only [Option.some.injEq] at h; subst h
  refine con_pure _ (rv_t2 (rep_str _) (rep_bool _)) ?_
  intro w D vs hD ha
  have := args_sc (l := [.str s, .str p]) ha
  subst this
  have := hc w
  rw [bz_data, bz_data] at this
  refine this.mono ?_
  rintro e w' ⟨rfl, rfl⟩
  exact ⟨rfl, Below.refl _ _⟩
theorem t_bool {s p : List UInt8} {r : Bool} {g : List UInt8 → List UInt8 → Bool} (h : g s p = r)
    (hc : ∀ (w : World), Calls P f #[.string (bz s), .string (bz p)] w fun e w' => e = .returned (.bool (g (bz s).data.toList (bz p).data.toList)) ∧ w' = w) : Con P f [.str s, .str p] (.v (.bool r)) := by
  subst h
  refine con_pure _ (rv_v (rep_bool _)) ?_
  intro w D vs hD ha
  have := args_sc (l := [.str s, .str p]) ha
  subst this
  have := hc w
  rw [bz_data, bz_data] at this
  refine this.mono ?_
  rintro e w' ⟨rfl, rfl⟩
  exact ⟨rfl, Below.refl _ _⟩
theorem t_str {s p r : List UInt8} {g : List UInt8 → List UInt8 → List UInt8} (h : g s p = r)
    (hc : ∀ (w : World), Calls P f #[.string (bz s), .string (bz p)] w fun e w' => e = .returned (.string ⟨(g (bz s).data.toList (bz p).data.toList).toArray⟩) ∧ w' = w) : Con P f [.str s, .str p] (.v (.str r)) := by
  subst h
  refine con_pure _ (rv_v (rep_str _)) ?_
  intro w D vs hD ha
  have := args_sc (l := [.str s, .str p]) ha
  subst this
  have := hc w
  rw [bz_data, bz_data] at this
  refine this.mono ?_
  rintro e w' ⟨rfl, rfl⟩
  exact ⟨rfl, Below.refl _ _⟩
theorem t_trimRight {s c r : List UInt8} (h : F_trimRight s c = some r)
    (hc : ∀ (w : World), (bz s).size ≤ 9223372036854775807 → (bz c).size < 4294967281 → (∀ (j : Nat) b, (bz c).data.toList[j]? = some b → b.toNat < 128) → Calls P f #[.string (bz s), .string (bz c)] w fun e w' => e = .returned (.string ⟨(Go.Lib.trimRightS (bz s).data.toList (bz c).data.toList).toArray⟩) ∧ Below w.heap.size w w') :
    Con P f [.str s, .str c] (.v (.str r)) := by
  obtain ⟨⟨h1, h2, h3⟩, h⟩ := need_some h
  simp only [Option.some.injEq] at h; subst h
  refine con_pure _ (rv_v (rep_str _)) ?_
  intro w D vs hD ha
  have := args_sc (l := [.str s, .str c]) ha
  subst this
  have := hc w (by simpa using h1) (by simpa using h2) (by
    intro j b hb
    rw [bz_data] at hb
    exact of_decide_eq_true (List.all_eq_true.1 h3 b (List.mem_of_getElem? hb)))
  rw [bz_data, bz_data] at this
  exact this
theorem t_repeat {s r : List UInt8} {c : Int} (h : F_repeat s c = some r)
    (hc : ∀ (w : World) (c : Nat), c ≤ 9223372036854775807 → (bz s).size * c ≤ 140737488355328 → Calls P f #[.string (bz s), .int .i64 c] w fun e w' => e = .returned (.string ⟨(Go.Lib.repeatL (bz s).data.toList c).toArray⟩) ∧ Below w.heap.size w w') :
    Con P f [.str s, .int .i64 c] (.v (.str r)) := by
  obtain ⟨⟨h1, h2, h3⟩, h⟩ := need_some h
  simp only [Option.some.injEq] at h; subst h
  refine con_pure _ (rv_v (rep_str _)) ?_
  intro w D vs hD ha
  have := args_sc (l := [.str s, .int .i64 c]) ha
  subst this
  have := hc w c.toNat (by omega) (by simpa using h3)
  rw [bz_data, show ((c.toNat : Nat) : Int) = c by omega] at this
  exact this
end
end Go.Ab
