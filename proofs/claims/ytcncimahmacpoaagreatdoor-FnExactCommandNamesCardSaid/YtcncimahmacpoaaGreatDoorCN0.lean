/- The names of the commands: a map made, its keys collected and sorted (own text, over the kit's shelf). -/
import Derived.Test.YtcncimahmacpoaaGreatDoorGT
import Derived.Test.YtcncimahmacpoaaGreatDoorProg
import Derived.KernelRfl
import Derived.WalkKit
import Derived.Maps.Own
import Derived.Shelf.SlIter.Nil
import Derived.Shelf.SortM.Plain
import Derived.Shelf.SortM.SortNone
set_option linter.unusedVariables false
set_option linter.unusedSimpArgs false
set_option maxHeartbeats 4000000
namespace Go.Ab
open Go Go.RowKit Go.Proofs Go.Sort Go.Maps Go.Shelf
def lays10_ren : Go.Shelf.Ren where
  f := fun n => match n with | 7 => 10 | 10 => 15 | n => n
  t := fun n => match n with | 23 => 31 | 26 => 9 | 3 => 32 | 28 => 29 | 0 => 0 | 27 => 28 | 33 => 36 | 4 => 4 | n => n
  g := fun n => n
set_option maxRecDepth 100000 in
theorem lays10 : Go.Proofs.SlLaysZ.n7 Tryz.prog lays10_ren where
  mixed := by kernel_rfl
  f7 := ⟨ "maps.Keys[map[string]func(c *loop.example/g01033/impl.command, in loop.example/g01033/impl.input) bool,string,func(c *loop.example/g01033/impl.command, in loop.example/g01033/impl.input) bool]", by kernel_rfl, by kernel_rfl⟩
  f10 := ⟨ "maps.Keys[map[string]func(c *loop.example/g01033/impl.command, in loop.example/g01033/impl.input) bool,string,func(c *loop.example/g01033/impl.command, in loop.example/g01033/impl.input) bool]$1", by kernel_rfl, by kernel_rfl⟩
  t0 := Tryz.underlying0
  a0 := Tryz.isAgg0
  z0 := Tryz.sizeOf0
  v0 := Tryz.zeroValue0
  t4 := Tryz.underlying4
  a4 := Tryz.isAgg4
  z4 := Tryz.sizeOf4
  v4 := Tryz.zeroValue4
  t23 := Tryz.underlying31
  a23 := Tryz.isAgg31
  z23 := Tryz.sizeOf31
  v23 := Tryz.zeroValue31
  t26 := Tryz.underlying9
  a26 := Tryz.isAgg9
  z26 := Tryz.sizeOf9
  v26 := Tryz.zeroValue9
  t27 := Tryz.underlying28
  a27 := Tryz.isAgg28
  z27 := Tryz.sizeOf28
  v27 := Tryz.zeroValue28
  t28 := Tryz.underlying29
  a28 := Tryz.isAgg29
  z28 := Tryz.sizeOf29
  v28 := Tryz.zeroValue29
  t33 := Tryz.underlying36
  a33 := Tryz.isAgg36
  z33 := Tryz.sizeOf36
  v33 := Tryz.zeroValue36

def lays9_ren : Go.Shelf.Ren where
  f := fun n => match n with | 6 => 9 | 8 => 13 | 9 => 14 | 11 => 39 | 13 => 41 | 12 => 40 | 23 => 115 | 24 => 116 | 14 => 106 | 15 => 107 | 16 => 108 | 17 => 109 | 18 => 110 | 19 => 111 | 20 => 112 | 21 => 113 | 22 => 114 | 25 => 198 | 26 => 199 | 27 => 200 | 28 => 201 | 29 => 202 | 30 => 203 | 31 => 271 | n => n
  t := fun n => match n with | 26 => 9 | 28 => 29 | 24 => 22 | 0 => 0 | 3 => 3 | 37 => 43 | 48 => 138 | 50 => 140 | 4 => 4 | 40 => 131 | 39 => 130 | 45 => 105 | 5 => 5 | 9 => 9 | 51 => 226 | 55 => 230 | 57 => 287 | 58 => 288 | 33 => 36 | n => n
  g := fun n => n
set_option maxRecDepth 100000 in
theorem lays9 : Go.Proofs.SlLaysZ.n6 Tryz.prog lays9_ren where
  mixed := by kernel_rfl
  f6 := ⟨ "slices.Sorted[string]", by kernel_rfl, by kernel_rfl⟩
  f8 := ⟨ "slices.Collect[string]", by kernel_rfl, by kernel_rfl⟩
  f11 := ⟨ "slices.AppendSeq[[]string,string]", by kernel_rfl, by kernel_rfl⟩
  t0 := Tryz.underlying0
  a0 := Tryz.isAgg0
  z0 := Tryz.sizeOf0
  v0 := Tryz.zeroValue0
  t24 := Tryz.underlying22
  a24 := Tryz.isAgg22
  z24 := Tryz.sizeOf22
  v24 := Tryz.zeroValue22
  t26 := Tryz.underlying9
  a26 := Tryz.isAgg9
  z26 := Tryz.sizeOf9
  v26 := Tryz.zeroValue9
  t28 := Tryz.underlying29
  a28 := Tryz.isAgg29
  z28 := Tryz.sizeOf29
  v28 := Tryz.zeroValue29
  i26 := Eq.refl (some (some (Value.string { data := #[] }), 1, 16))

def lays14_ren : Go.Shelf.Ren where
  f := fun n => match n with | 6 => 14 | 8 => 41 | 9 => 40 | 19 => 115 | 20 => 116 | 21 => 106 | 22 => 107 | 23 => 108 | 24 => 109 | 25 => 110 | 26 => 111 | 27 => 112 | 28 => 113 | 29 => 114 | 36 => 198 | 31 => 199 | 32 => 200 | 37 => 201 | 38 => 202 | 39 => 203 | 41 => 271 | n => n
  t := fun n => match n with | 27 => 22 | 29 => 9 | 3 => 3 | 32 => 43 | 26 => 22 | 0 => 0 | 44 => 138 | 46 => 140 | 4 => 4 | 36 => 131 | 35 => 130 | 41 => 105 | 5 => 5 | 9 => 9 | 53 => 226 | 57 => 230 | 63 => 287 | 64 => 288 | n => n
  g := fun n => n
theorem lays14 : Go.Proofs.SlLaysM.n6 Tryz.prog lays14_ren where
  mixed := by kernel_rfl
  f6 := ⟨ "slices.Sort[[]string,string]", by kernel_rfl, by kernel_rfl⟩
  f8 := by kernel_rfl
  f9 := ⟨ "slices.pdqsortOrdered[string]", by kernel_rfl, by kernel_rfl⟩
  f19 := by kernel_rfl
  f20 := by kernel_rfl
  f21 := ⟨ "slices.insertionSortOrdered[string]", by kernel_rfl, by kernel_rfl⟩
  f22 := ⟨ "slices.heapSortOrdered[string]", by kernel_rfl, by kernel_rfl⟩
  f23 := ⟨ "slices.breakPatternsOrdered[string]", by kernel_rfl, by kernel_rfl⟩
  f24 := ⟨ "slices.choosePivotOrdered[string]", by kernel_rfl, by kernel_rfl⟩
  f25 := ⟨ "slices.reverseRangeOrdered[string]", by kernel_rfl, by kernel_rfl⟩
  f26 := ⟨ "slices.partialInsertionSortOrdered[string]", by kernel_rfl, by kernel_rfl⟩
  f27 := ⟨ "cmp.Less[string]", by kernel_rfl, by kernel_rfl⟩
  f28 := ⟨ "slices.partitionEqualOrdered[string]", by kernel_rfl, by kernel_rfl⟩
  f29 := ⟨ "slices.partitionOrdered[string]", by kernel_rfl, by kernel_rfl⟩
  f31 := by kernel_rfl
  f32 := by kernel_rfl
  f36 := ⟨ "slices.siftDownOrdered[string]", by kernel_rfl, by kernel_rfl⟩
  f37 := ⟨ "slices.medianAdjacentOrdered[string]", by kernel_rfl, by kernel_rfl⟩
  f38 := ⟨ "slices.medianOrdered[string]", by kernel_rfl, by kernel_rfl⟩
  f39 := ⟨ "cmp.isNaN[string]", by kernel_rfl, by kernel_rfl⟩
  f41 := ⟨ "slices.order2Ordered[string]", by kernel_rfl, by kernel_rfl⟩
  t0 := Tryz.underlying0
  a0 := Tryz.isAgg0
  z0 := Tryz.sizeOf0
  v0 := Tryz.zeroValue0
  t3 := Tryz.underlying3
  a3 := Tryz.isAgg3
  z3 := Tryz.sizeOf3
  v3 := Tryz.zeroValue3
  t4 := Tryz.underlying4
  a4 := Tryz.isAgg4
  z4 := Tryz.sizeOf4
  v4 := Tryz.zeroValue4
  t5 := Tryz.underlying5
  a5 := Tryz.isAgg5
  z5 := Tryz.sizeOf5
  v5 := Tryz.zeroValue5
  t9 := Tryz.underlying9
  a9 := Tryz.isAgg9
  z9 := Tryz.sizeOf9
  v9 := Tryz.zeroValue9
  t26 := Tryz.underlying22
  a26 := Tryz.isAgg22
  z26 := Tryz.sizeOf22
  v26 := Tryz.zeroValue22
  t27 := Tryz.underlying22
  a27 := Tryz.isAgg22
  z27 := Tryz.sizeOf22
  v27 := Tryz.zeroValue22
  t29 := Tryz.underlying9
  a29 := Tryz.isAgg9
  z29 := Tryz.sizeOf9
  v29 := Tryz.zeroValue9
  t32 := Tryz.underlying43
  a32 := Tryz.isAgg43
  z32 := Tryz.sizeOf43
  v32 := Tryz.zeroValue43
  t35 := Tryz.underlying130
  a35 := Tryz.isAgg130
  z35 := Tryz.sizeOf130
  v35 := Tryz.zeroValue130
  t36 := Tryz.underlying131
  a36 := Tryz.isAgg131
  z36 := Tryz.sizeOf131
  v36 := Tryz.zeroValue131
  t41 := Tryz.underlying105
  a41 := Tryz.isAgg105
  z41 := Tryz.sizeOf105
  v41 := Tryz.zeroValue105
  t44 := Tryz.underlying138
  a44 := Tryz.isAgg138
  z44 := Tryz.sizeOf138
  v44 := Tryz.zeroValue138
  t46 := Tryz.underlying140
  a46 := Tryz.isAgg140
  z46 := Tryz.sizeOf140
  v46 := Tryz.zeroValue140
  t53 := Tryz.underlying226
  a53 := Tryz.isAgg226
  z53 := Tryz.sizeOf226
  v53 := Tryz.zeroValue226
  t57 := Tryz.underlying230
  a57 := Tryz.isAgg230
  z57 := Tryz.sizeOf230
  v57 := Tryz.zeroValue230
  t63 := Tryz.underlying287
  a63 := Tryz.isAgg287
  z63 := Tryz.sizeOf287
  v63 := Tryz.zeroValue287
  t64 := Tryz.underlying288
  a64 := Tryz.isAgg288
  z64 := Tryz.sizeOf288
  v64 := Tryz.zeroValue288


theorem sorts9 (m : Nat) : AnyZ.SortsIn Tryz.prog lays9_ren Fence.wide m :=
  ⟨fun blk off cap ss W hH hblk hsz => callsIn_wide.2 (AnyM.slices_Sort_string lays14 blk off cap ss W hH hblk hsz),
   fun p cap W => callsIn_wide.2 (AnyM.slices_Sort_string_none lays14 p cap W)⟩
theorem keys10 (mb : Option Nat) (W : World) : CallsIn Fence.wide 5 Tryz.prog 10 #[.map mb] W fun e w' => e = .returned (.func (.func 15) #[] #[.pointer (some ⟨W.heap.size, 0, none⟩)]) ∧ w' = W.alloc (.cells #[.map mb] 31) :=
  AnyZ.keys_in lays10 Fence.wide 5 trivial rfl mb W
theorem sorted9 {H : Type} (b nn : Nat) (D0 : DataW H) (R : Value → Option (DataW H × List MemPlace)) (w : World) (hown : w.ownsMap Tryz.prog 9 R b nn D0) (hmax : Maps.size D0 ≤ maxLen) (hbytes : Maps.size D0 * 16 ≤ 140737488355328) :
    CallsIn Fence.wide 5 Tryz.prog 9 #[.func (.func 15) #[] #[.pointer (some ⟨w.heap.size, 0, none⟩)]] (w.alloc (.cells #[.map (some b)] 31)) fun e w' => ∃ (v : Value) (ss : List (List UInt8)), e = .returned v ∧ ss.Perm (strKeys D0) ∧
      w'.ownsRow (w.alloc (.cells #[.map (some b)] 31)).heap.size 9 1 v ss.length ((ss.mergeSort (fun x y => decide (x ≤ y))).map encStr) ∧ (v = .slice none 0 0 ↔ ss = []) ∧ Below (w.alloc (.cells #[.map (some b)] 31)).heap.size (w.alloc (.cells #[.map (some b)] 31)) w' := by
  have hbl := hown.lt
  have hseq : SeqGives Fence.wide 2 Tryz.prog 15 #[.pointer (some ⟨w.heap.size, 0, none⟩)] encStr (fun ss => ss.Perm (strKeys D0)) (Maps.size D0) (w.alloc (.cells #[.map (some b)] 31)) :=
    AnyZ.keys_gives (ρ := lays10_ren) { lays10 with } Fence.wide _ trivial rfl (by omega) w.heap.size b nn D0 _ (by simp) (by simp) (by
      obtain ⟨es, clock, hb, Ft, hs, hD⟩ := hown
      exact ⟨es, clock, (Below.heap_alloc _ _ b hbl).trans hb, Ft, hs, hD⟩)
  exact AnyZ.sorted_in lays9 Fence.wide 5 trivial trivial trivial trivial rfl (by omega) (sorts9 _) (enters_of Tryz.func14 (by kernel_rfl) rfl) 15 #[.pointer (some ⟨w.heap.size, 0, none⟩)] trivial (enters_of Tryz.func15 (by kernel_rfl) rfl) _ _ hmax hbytes _ hseq
def someR (_ : Value) : Option (DataW Unit × List MemPlace) := some (.lit (.bool true), [])
def cmdPut : List (List UInt8) → DataW Unit → DataW Unit
  | [], D => D
  | k :: ks, D => cmdPut ks (D.put (.string k) (.lit (.bool true)))
def cmdRaw : List (List UInt8) := [[114, 97, 103, 97], [109, 101, 108, 111, 100, 121], [99, 104, 101, 99, 107], [109, 111, 118, 101], [110, 101, 120, 116], [116, 117, 110, 105, 110, 103], [99, 101, 110, 116, 115], [112, 104, 114, 97, 115, 101, 115], [99, 111, 118, 101, 114, 101, 100], [112, 101, 114, 109, 117, 116, 97, 116, 105, 111, 110, 115], [115, 116, 114, 111, 107, 101, 115], [99, 111, 109, 112, 111, 115, 101], [116, 101, 109, 112, 111], [98, 101, 97, 116], [105, 116, 101, 109], [112, 114, 111, 103, 114, 97, 109, 109, 101], [115, 99, 114, 105, 112, 116], [108, 101, 115, 115, 111, 110], [114, 97, 110, 107], [112, 101, 114, 115, 111, 110], [108, 105, 110, 101], [115, 104, 111, 119], [104, 101, 108, 112]]
def cmdAll : List (List UInt8) := [[98, 101, 97, 116], [99, 101, 110, 116, 115], [99, 104, 101, 99, 107], [99, 111, 109, 112, 111, 115, 101], [99, 111, 118, 101, 114, 101, 100], [104, 101, 108, 112], [105, 116, 101, 109], [108, 101, 115, 115, 111, 110], [108, 105, 110, 101], [109, 101, 108, 111, 100, 121], [109, 111, 118, 101], [110, 101, 120, 116], [112, 101, 114, 109, 117, 116, 97, 116, 105, 111, 110, 115], [112, 101, 114, 115, 111, 110], [112, 104, 114, 97, 115, 101, 115], [112, 114, 111, 103, 114, 97, 109, 109, 101], [114, 97, 103, 97], [114, 97, 110, 107], [115, 99, 114, 105, 112, 116], [115, 104, 111, 119], [115, 116, 114, 111, 107, 101, 115], [116, 101, 109, 112, 111], [116, 117, 110, 105, 110, 103]]
theorem cmd_keys : strKeys (cmdPut cmdRaw (.map [])) = cmdAll := by decide +kernel
theorem keyed9 : Keyed Tryz.prog 9 := string_keyed Tryz.underlying9
set_option maxRecDepth 100000 in
theorem desk11 (w : World) : Calls Tryz.prog 11 #[] w fun e w' => e = .returned (.map (some w.heap.size)) ∧ w'.ownsMap Tryz.prog 9 someR w.heap.size 23 (cmdPut cmdRaw (.map [])) ∧ Below w.heap.size w w' := by
  have hmm := @run_makeMap Tryz.prog
  have hown : (w.alloc (.map #[] 0)).ownsMap Tryz.prog 9 someR w.heap.size 0 (.map []) := World.ownsMap_made _ _ _ _
  have hbl : Below w.heap.size w (w.alloc (.map #[] 0)) := (Below.refl _ _).alloc (Nat.le_refl _) _
  go_enter Tryz.func11, Tryz.ntmps11
  go_wp2
  obtain ⟨w0, hr, hown, hg⟩ := hown.update (key := .string ⟨#[114, 97, 103, 97]⟩) (val := .func (.func 16) #[] #[]) (t := 31) (e := 32) keyed9 Tryz.underlying31 (by unfold maxLen; omega) (WideMaps.keyOf_string_mk Tryz.underlying9 (by decide)) (d := .lit (.bool true)) (ps := []) rfl
  rw [hr]
  have hbl := hbl.grown hg hbl.size (fun j hj => by cases hj; exact Nat.le_refl _)
  go_wp2
  obtain ⟨w1, hr, hown, hg⟩ := hown.update (key := .string ⟨#[109, 101, 108, 111, 100, 121]⟩) (val := .func (.func 17) #[] #[]) (t := 31) (e := 32) keyed9 Tryz.underlying31 (by unfold maxLen; omega) (WideMaps.keyOf_string_mk Tryz.underlying9 (by decide)) (d := .lit (.bool true)) (ps := []) rfl
  rw [hr]
  have hbl := hbl.grown hg hbl.size (fun j hj => by cases hj; exact Nat.le_refl _)
  go_wp2
  obtain ⟨w2, hr, hown, hg⟩ := hown.update (key := .string ⟨#[99, 104, 101, 99, 107]⟩) (val := .func (.func 18) #[] #[]) (t := 31) (e := 32) keyed9 Tryz.underlying31 (by unfold maxLen; omega) (WideMaps.keyOf_string_mk Tryz.underlying9 (by decide)) (d := .lit (.bool true)) (ps := []) rfl
  rw [hr]
  have hbl := hbl.grown hg hbl.size (fun j hj => by cases hj; exact Nat.le_refl _)
  go_wp2
  obtain ⟨w3, hr, hown, hg⟩ := hown.update (key := .string ⟨#[109, 111, 118, 101]⟩) (val := .func (.func 19) #[] #[]) (t := 31) (e := 32) keyed9 Tryz.underlying31 (by unfold maxLen; omega) (WideMaps.keyOf_string_mk Tryz.underlying9 (by decide)) (d := .lit (.bool true)) (ps := []) rfl
  rw [hr]
  have hbl := hbl.grown hg hbl.size (fun j hj => by cases hj; exact Nat.le_refl _)
  go_wp2
  obtain ⟨w4, hr, hown, hg⟩ := hown.update (key := .string ⟨#[110, 101, 120, 116]⟩) (val := .func (.func 20) #[] #[]) (t := 31) (e := 32) keyed9 Tryz.underlying31 (by unfold maxLen; omega) (WideMaps.keyOf_string_mk Tryz.underlying9 (by decide)) (d := .lit (.bool true)) (ps := []) rfl
  rw [hr]
  have hbl := hbl.grown hg hbl.size (fun j hj => by cases hj; exact Nat.le_refl _)
  go_wp2
  obtain ⟨w5, hr, hown, hg⟩ := hown.update (key := .string ⟨#[116, 117, 110, 105, 110, 103]⟩) (val := .func (.func 21) #[] #[]) (t := 31) (e := 32) keyed9 Tryz.underlying31 (by unfold maxLen; omega) (WideMaps.keyOf_string_mk Tryz.underlying9 (by decide)) (d := .lit (.bool true)) (ps := []) rfl
  rw [hr]
  have hbl := hbl.grown hg hbl.size (fun j hj => by cases hj; exact Nat.le_refl _)
  go_wp2
  obtain ⟨w6, hr, hown, hg⟩ := hown.update (key := .string ⟨#[99, 101, 110, 116, 115]⟩) (val := .func (.func 22) #[] #[]) (t := 31) (e := 32) keyed9 Tryz.underlying31 (by unfold maxLen; omega) (WideMaps.keyOf_string_mk Tryz.underlying9 (by decide)) (d := .lit (.bool true)) (ps := []) rfl
  rw [hr]
  have hbl := hbl.grown hg hbl.size (fun j hj => by cases hj; exact Nat.le_refl _)
  go_wp2
  obtain ⟨w7, hr, hown, hg⟩ := hown.update (key := .string ⟨#[112, 104, 114, 97, 115, 101, 115]⟩) (val := .func (.func 23) #[] #[]) (t := 31) (e := 32) keyed9 Tryz.underlying31 (by unfold maxLen; omega) (WideMaps.keyOf_string_mk Tryz.underlying9 (by decide)) (d := .lit (.bool true)) (ps := []) rfl
  rw [hr]
  have hbl := hbl.grown hg hbl.size (fun j hj => by cases hj; exact Nat.le_refl _)
  go_wp2
  obtain ⟨w8, hr, hown, hg⟩ := hown.update (key := .string ⟨#[99, 111, 118, 101, 114, 101, 100]⟩) (val := .func (.func 24) #[] #[]) (t := 31) (e := 32) keyed9 Tryz.underlying31 (by unfold maxLen; omega) (WideMaps.keyOf_string_mk Tryz.underlying9 (by decide)) (d := .lit (.bool true)) (ps := []) rfl
  rw [hr]
  have hbl := hbl.grown hg hbl.size (fun j hj => by cases hj; exact Nat.le_refl _)
  go_wp2
  obtain ⟨w9, hr, hown, hg⟩ := hown.update (key := .string ⟨#[112, 101, 114, 109, 117, 116, 97, 116, 105, 111, 110, 115]⟩) (val := .func (.func 25) #[] #[]) (t := 31) (e := 32) keyed9 Tryz.underlying31 (by unfold maxLen; omega) (WideMaps.keyOf_string_mk Tryz.underlying9 (by decide)) (d := .lit (.bool true)) (ps := []) rfl
  rw [hr]
  have hbl := hbl.grown hg hbl.size (fun j hj => by cases hj; exact Nat.le_refl _)
  go_wp2
  obtain ⟨w10, hr, hown, hg⟩ := hown.update (key := .string ⟨#[115, 116, 114, 111, 107, 101, 115]⟩) (val := .func (.func 26) #[] #[]) (t := 31) (e := 32) keyed9 Tryz.underlying31 (by unfold maxLen; omega) (WideMaps.keyOf_string_mk Tryz.underlying9 (by decide)) (d := .lit (.bool true)) (ps := []) rfl
  rw [hr]
  have hbl := hbl.grown hg hbl.size (fun j hj => by cases hj; exact Nat.le_refl _)
  go_wp2
  obtain ⟨w11, hr, hown, hg⟩ := hown.update (key := .string ⟨#[99, 111, 109, 112, 111, 115, 101]⟩) (val := .func (.func 27) #[] #[]) (t := 31) (e := 32) keyed9 Tryz.underlying31 (by unfold maxLen; omega) (WideMaps.keyOf_string_mk Tryz.underlying9 (by decide)) (d := .lit (.bool true)) (ps := []) rfl
  rw [hr]
  have hbl := hbl.grown hg hbl.size (fun j hj => by cases hj; exact Nat.le_refl _)
  go_wp2
  obtain ⟨w12, hr, hown, hg⟩ := hown.update (key := .string ⟨#[116, 101, 109, 112, 111]⟩) (val := .func (.func 28) #[] #[]) (t := 31) (e := 32) keyed9 Tryz.underlying31 (by unfold maxLen; omega) (WideMaps.keyOf_string_mk Tryz.underlying9 (by decide)) (d := .lit (.bool true)) (ps := []) rfl
  rw [hr]
  have hbl := hbl.grown hg hbl.size (fun j hj => by cases hj; exact Nat.le_refl _)
  go_wp2
  obtain ⟨w13, hr, hown, hg⟩ := hown.update (key := .string ⟨#[98, 101, 97, 116]⟩) (val := .func (.func 29) #[] #[]) (t := 31) (e := 32) keyed9 Tryz.underlying31 (by unfold maxLen; omega) (WideMaps.keyOf_string_mk Tryz.underlying9 (by decide)) (d := .lit (.bool true)) (ps := []) rfl
  rw [hr]
  have hbl := hbl.grown hg hbl.size (fun j hj => by cases hj; exact Nat.le_refl _)
  go_wp2
  obtain ⟨w14, hr, hown, hg⟩ := hown.update (key := .string ⟨#[105, 116, 101, 109]⟩) (val := .func (.func 30) #[] #[]) (t := 31) (e := 32) keyed9 Tryz.underlying31 (by unfold maxLen; omega) (WideMaps.keyOf_string_mk Tryz.underlying9 (by decide)) (d := .lit (.bool true)) (ps := []) rfl
  rw [hr]
  have hbl := hbl.grown hg hbl.size (fun j hj => by cases hj; exact Nat.le_refl _)
  go_wp2
  obtain ⟨w15, hr, hown, hg⟩ := hown.update (key := .string ⟨#[112, 114, 111, 103, 114, 97, 109, 109, 101]⟩) (val := .func (.func 31) #[] #[]) (t := 31) (e := 32) keyed9 Tryz.underlying31 (by unfold maxLen; omega) (WideMaps.keyOf_string_mk Tryz.underlying9 (by decide)) (d := .lit (.bool true)) (ps := []) rfl
  rw [hr]
  have hbl := hbl.grown hg hbl.size (fun j hj => by cases hj; exact Nat.le_refl _)
  go_wp2
  obtain ⟨w16, hr, hown, hg⟩ := hown.update (key := .string ⟨#[115, 99, 114, 105, 112, 116]⟩) (val := .func (.func 32) #[] #[]) (t := 31) (e := 32) keyed9 Tryz.underlying31 (by unfold maxLen; omega) (WideMaps.keyOf_string_mk Tryz.underlying9 (by decide)) (d := .lit (.bool true)) (ps := []) rfl
  rw [hr]
  have hbl := hbl.grown hg hbl.size (fun j hj => by cases hj; exact Nat.le_refl _)
  go_wp2
  obtain ⟨w17, hr, hown, hg⟩ := hown.update (key := .string ⟨#[108, 101, 115, 115, 111, 110]⟩) (val := .func (.func 33) #[] #[]) (t := 31) (e := 32) keyed9 Tryz.underlying31 (by unfold maxLen; omega) (WideMaps.keyOf_string_mk Tryz.underlying9 (by decide)) (d := .lit (.bool true)) (ps := []) rfl
  rw [hr]
  have hbl := hbl.grown hg hbl.size (fun j hj => by cases hj; exact Nat.le_refl _)
  go_wp2
  obtain ⟨w18, hr, hown, hg⟩ := hown.update (key := .string ⟨#[114, 97, 110, 107]⟩) (val := .func (.func 34) #[] #[]) (t := 31) (e := 32) keyed9 Tryz.underlying31 (by unfold maxLen; omega) (WideMaps.keyOf_string_mk Tryz.underlying9 (by decide)) (d := .lit (.bool true)) (ps := []) rfl
  rw [hr]
  have hbl := hbl.grown hg hbl.size (fun j hj => by cases hj; exact Nat.le_refl _)
  go_wp2
  obtain ⟨w19, hr, hown, hg⟩ := hown.update (key := .string ⟨#[112, 101, 114, 115, 111, 110]⟩) (val := .func (.func 35) #[] #[]) (t := 31) (e := 32) keyed9 Tryz.underlying31 (by unfold maxLen; omega) (WideMaps.keyOf_string_mk Tryz.underlying9 (by decide)) (d := .lit (.bool true)) (ps := []) rfl
  rw [hr]
  have hbl := hbl.grown hg hbl.size (fun j hj => by cases hj; exact Nat.le_refl _)
  go_wp2
  obtain ⟨w20, hr, hown, hg⟩ := hown.update (key := .string ⟨#[108, 105, 110, 101]⟩) (val := .func (.func 36) #[] #[]) (t := 31) (e := 32) keyed9 Tryz.underlying31 (by unfold maxLen; omega) (WideMaps.keyOf_string_mk Tryz.underlying9 (by decide)) (d := .lit (.bool true)) (ps := []) rfl
  rw [hr]
  have hbl := hbl.grown hg hbl.size (fun j hj => by cases hj; exact Nat.le_refl _)
  go_wp2
  obtain ⟨w21, hr, hown, hg⟩ := hown.update (key := .string ⟨#[115, 104, 111, 119]⟩) (val := .func (.func 37) #[] #[]) (t := 31) (e := 32) keyed9 Tryz.underlying31 (by unfold maxLen; omega) (WideMaps.keyOf_string_mk Tryz.underlying9 (by decide)) (d := .lit (.bool true)) (ps := []) rfl
  rw [hr]
  have hbl := hbl.grown hg hbl.size (fun j hj => by cases hj; exact Nat.le_refl _)
  go_wp2
  obtain ⟨w22, hr, hown, hg⟩ := hown.update (key := .string ⟨#[104, 101, 108, 112]⟩) (val := .func (.func 38) #[] #[]) (t := 31) (e := 32) keyed9 Tryz.underlying31 (by unfold maxLen; omega) (WideMaps.keyOf_string_mk Tryz.underlying9 (by decide)) (d := .lit (.bool true)) (ps := []) rfl
  rw [hr]
  have hbl := hbl.grown hg hbl.size (fun j hj => by cases hj; exact Nat.le_refl _)
  go_wp2
  go_ret
  exact ⟨rfl, hown, hbl⟩
theorem cmd_sort {ss : List (List UInt8)} (h : ss.Perm cmdAll) : ss.mergeSort (fun x y => decide (x ≤ y)) = cmdAll := by
  have e := mergeSort_of_perm h
  refine e.trans ?_
  refine List.Perm.eq_of_pairwise (le := fun a b => leB a b = true) (fun a b _ _ h1 h2 => ?_) (List.pairwise_mergeSort (fun a b c h1 h2 => by simp only [leB, decide_eq_true_eq] at *; exact List.le_trans h1 h2) (fun a b => by simp only [leB, Bool.or_eq_true, decide_eq_true_eq]; exact List.le_total a b) cmdAll) (by decide +kernel) (List.mergeSort_perm cmdAll leB)
  simp only [leB, decide_eq_true_eq] at h1 h2
  exact List.le_antisymm h1 h2
theorem names5 (w : World) : Calls Tryz.prog 5 #[] w fun e w' => ∃ v, e = .returned v ∧ w'.ownsRow w.heap.size 9 1 v 23 (cmdAll.map encStr) ∧ Below w.heap.size w w' := by
  refine (callsIn_wide (n := 6)).1 ?_
  have hfK : Fence.wide.fn 10 := trivial
  have hfS : Fence.wide.fn 9 := trivial
  have hfD : Fence.wide.fn 11 := trivial
  refine callsIn_of_wp Tryz.func5 rfl trivial ?_ rfl
  simp only [Tryz.ntmps5, List.size_toArray, List.length_cons, List.length_nil, Nat.reduceAdd, Nat.reduceSub, Array.replicate_succ, Array.replicate_zero, List.push_toArray, List.append_toArray, List.nil_append, List.cons_append]
  gi_wp2_with (first
    | (gi_at_call 11; refine (callsIn_wide.2 (desk11 _)).mono ?_; rintro e w1 ⟨rfl, hown, hb1⟩)
    | (gi_at_call 10; refine (keys10 _ _).mono ?_; rintro e w2 ⟨rfl, rfl⟩)
    | (gi_at_call 9; refine (sorted9 w.heap.size 23 _ someR w1 hown (by decide) (by decide)).mono ?_; rintro e w3 ⟨v, ss, rfl, hS, hrow, hnil, hb⟩))
  go_ret
  have hS : ss.Perm cmdAll := by rw [cmd_keys] at hS; exact hS
  rw [cmd_sort hS, show ss.length = 23 from hS.length_eq] at hrow
  exact ⟨v, rfl, ownsRow_base_a hrow (Nat.le_trans hb1.size (by simp)), (hb1.alloc hb1.size _).trans (hb.mono (Nat.le_trans hb1.size (by simp)))⟩
def F_cmdNames : Option (List (List UInt8)) := some cmdAll
@[simp] def res_cmdNames (r : List (List UInt8)) : RV := .r true 1 (r.map V.str)
theorem con_cmdNames {r : List (List UInt8)} (h : F_cmdNames = some r) : Con Tryz.prog 5 [] (res_cmdNames r) := by
  cases h
  intro w D vs hD hargs
  cases hargs
  refine (names5 w).mono ?_
  rintro e w' ⟨v, rfl, ⟨_, hrow⟩, hb⟩
  rcases hrow with ⟨_, h0⟩ | ⟨g, cap, cur, rfl, hbg, hcur, hc, hm, hsz, htake⟩
  · cases h0
  refine ⟨_, fun q => q = g, D, rfl, .one (.one ?_), ?_, fun _ h => h, fun q hq => ⟨Nat.lt_of_lt_of_le (hD.lt q hq) hb.size, .inl hq⟩, hb⟩
  · have hblk : BlkO w' g 0 (cmdAll.map encStr) := ⟨cur, 9, hcur, fun j u hj => by
      rw [Nat.zero_add, ← Array.getElem?_toList]
      rw [← htake, List.getElem?_take] at hj
      split at hj
      · exact hj
      · cases hj⟩
    have := R1Rep.row (w := w') (D := D) (own := true) (sz := 1) (L := cmdAll.map V.str) (g := g) (o := 0) (c := cap) (vs := cmdAll.map encStr) (S := fun q => q = g) (T := Emp) rfl (fun _ h => h.elim) (fun h => h.elim)
      hblk (oneStr.uni cmdAll) (by rw [oneStr.flat]; exact oneStr.reps cmdAll) (by rw [List.length_map]; exact hc) hm ⟨cur, 9, hcur, fun _ => by omega⟩
    exact this
  · rintro q rfl
    exact ⟨hbg, (Array.getElem?_eq_some_iff.1 hcur).1, fun hd => by have := hD.lt _ hd; omega⟩
end Go.Ab
