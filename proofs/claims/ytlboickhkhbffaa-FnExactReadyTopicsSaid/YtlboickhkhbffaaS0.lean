/- Contracts of the library's functions at this program (printed by spec.py, own program; the structures lay the kit's shelf). -/
import Derived.Test.YtlboickhkhbffaaGS
import Derived.Test.YtlboickhkhbffaaProg
import Derived.KernelRfl
import Derived.WalkKit
import Derived.Shelf.SortM.Plain
import Derived.Shelf.SortM.SortNone
import Derived.Shelf.SlicesE.Compact
set_option linter.unusedVariables false
set_option linter.unusedSimpArgs false
set_option maxHeartbeats 4000000
namespace Go.Ab
open Go.RowKit Go.Proofs Go.Sort
def lays108_ren : Go.Shelf.Ren where
  f := fun n => match n with | 6 => 108 | 8 => 192 | 9 => 191 | 19 => 254 | 20 => 255 | 21 => 245 | 22 => 246 | 23 => 247 | 24 => 248 | 25 => 249 | 26 => 250 | 27 => 251 | 28 => 252 | 29 => 253 | 36 => 277 | 31 => 278 | 32 => 279 | 37 => 280 | 38 => 281 | 39 => 276 | 41 => 286 | n => n
  t := fun n => match n with | 27 => 70 | 29 => 9 | 3 => 3 | 32 => 242 | 26 => 70 | 0 => 0 | 44 => 292 | 46 => 294 | 4 => 4 | 36 => 284 | 35 => 283 | 41 => 289 | 5 => 5 | 9 => 9 | 53 => 315 | 57 => 319 | 63 => 323 | 64 => 324 | n => n
  g := fun n => n
theorem lays108 : Go.Proofs.SlLaysM.n6 Try.prog lays108_ren where
  mixed := by kernel_rfl
  f6 := ⟨ "slices.Sort[[]string,string]", by kernel_rfl, by kernel_rfl⟩
  f8 := by kernel_rfl
  f9 := ⟨ "slices.pdqsortOrdered[string]", by kernel_rfl, by kernel_rfl⟩
  f19 := by kernel_rfl
  f20 := by kernel_rfl
  f21 := ⟨ "slices.insertionSortOrdered[string]", by kernel_rfl, by kernel_rfl⟩
  f22 := ⟨ "slices.heapSortOrdered[string]", by kernel_rfl, by kernel_rfl⟩
  f23 := ⟨ "slices.breakPatternsOrdered[string]", by kernel_rfl, by kernel_rfl⟩
  f24 := ⟨ "slices.choosePivotOrdered[string]", by kernel_rfl, by kernel_rfl⟩
  f25 := ⟨ "slices.reverseRangeOrdered[string]", by kernel_rfl, by kernel_rfl⟩
  f26 := ⟨ "slices.partialInsertionSortOrdered[string]", by kernel_rfl, by kernel_rfl⟩
  f27 := ⟨ "cmp.Less[string]", by kernel_rfl, by kernel_rfl⟩
  f28 := ⟨ "slices.partitionEqualOrdered[string]", by kernel_rfl, by kernel_rfl⟩
  f29 := ⟨ "slices.partitionOrdered[string]", by kernel_rfl, by kernel_rfl⟩
  f31 := by kernel_rfl
  f32 := by kernel_rfl
  f36 := ⟨ "slices.siftDownOrdered[string]", by kernel_rfl, by kernel_rfl⟩
  f37 := ⟨ "slices.medianAdjacentOrdered[string]", by kernel_rfl, by kernel_rfl⟩
  f38 := ⟨ "slices.medianOrdered[string]", by kernel_rfl, by kernel_rfl⟩
  f39 := ⟨ "cmp.isNaN[string]", by kernel_rfl, by kernel_rfl⟩
  f41 := ⟨ "slices.order2Ordered[string]", by kernel_rfl, by kernel_rfl⟩
  t0 := Try.underlying0
  a0 := Try.isAgg0
  z0 := Try.sizeOf0
  v0 := Try.zeroValue0
  t3 := Try.underlying3
  a3 := Try.isAgg3
  z3 := Try.sizeOf3
  v3 := Try.zeroValue3
  t4 := Try.underlying4
  a4 := Try.isAgg4
  z4 := Try.sizeOf4
  v4 := Try.zeroValue4
  t5 := Try.underlying5
  a5 := Try.isAgg5
  z5 := Try.sizeOf5
  v5 := Try.zeroValue5
  t9 := Try.underlying9
  a9 := Try.isAgg9
  z9 := Try.sizeOf9
  v9 := Try.zeroValue9
  t26 := Try.underlying70
  a26 := Try.isAgg70
  z26 := Try.sizeOf70
  v26 := Try.zeroValue70
  t27 := Try.underlying70
  a27 := Try.isAgg70
  z27 := Try.sizeOf70
  v27 := Try.zeroValue70
  t29 := Try.underlying9
  a29 := Try.isAgg9
  z29 := Try.sizeOf9
  v29 := Try.zeroValue9
  t32 := Try.underlying242
  a32 := Try.isAgg242
  z32 := Try.sizeOf242
  v32 := Try.zeroValue242
  t35 := Try.underlying283
  a35 := Try.isAgg283
  z35 := Try.sizeOf283
  v35 := Try.zeroValue283
  t36 := Try.underlying284
  a36 := Try.isAgg284
  z36 := Try.sizeOf284
  v36 := Try.zeroValue284
  t41 := Try.underlying289
  a41 := Try.isAgg289
  z41 := Try.sizeOf289
  v41 := Try.zeroValue289
  t44 := Try.underlying292
  a44 := Try.isAgg292
  z44 := Try.sizeOf292
  v44 := Try.zeroValue292
  t46 := Try.underlying294
  a46 := Try.isAgg294
  z46 := Try.sizeOf294
  v46 := Try.zeroValue294
  t53 := Try.underlying315
  a53 := Try.isAgg315
  z53 := Try.sizeOf315
  v53 := Try.zeroValue315
  t57 := Try.underlying319
  a57 := Try.isAgg319
  z57 := Try.sizeOf319
  v57 := Try.zeroValue319
  t63 := Try.underlying323
  a63 := Try.isAgg323
  z63 := Try.sizeOf323
  v63 := Try.zeroValue323
  t64 := Try.underlying324
  a64 := Try.isAgg324
  z64 := Try.sizeOf324
  v64 := Try.zeroValue324

theorem con_sortS_108 {A r : List (List UInt8)} (h : F_sortS A = some r) : ConM Try.prog 108 (.one (.row true 1 (A.map V.str))) (.one (.row true 1 (r.map V.str))) [] (.agg []) := by
  obtain ⟨hlt, h⟩ := need_some h
  simp only [Option.some.injEq] at h
  subst h
  exact conM_row oneStr (by simp) (fun w g o c hH hg _ _ => AnyM.slices_Sort_string lays108 g o c A w hH hg hlt) (fun _ w p c => AnyM.slices_Sort_string_none lays108 p c w)

def lays109_ren : Go.Shelf.Ren where
  f := fun n => match n with | 43 => 109 | n => n
  t := fun n => match n with | 22 => 70 | 23 => 9 | 3 => 3 | 4 => 4 | 0 => 0 | n => n
  g := fun n => n
theorem lays109 : Go.Proofs.SlLaysE.n43 Try.prog lays109_ren where
  mixed := by kernel_rfl
  f43 := ⟨ "slices.Compact[[]string,string]", by kernel_rfl, by kernel_rfl⟩
  t0 := Try.underlying0
  a0 := Try.isAgg0
  z0 := Try.sizeOf0
  v0 := Try.zeroValue0
  t3 := Try.underlying3
  a3 := Try.isAgg3
  z3 := Try.sizeOf3
  v3 := Try.zeroValue3
  t4 := Try.underlying4
  a4 := Try.isAgg4
  z4 := Try.sizeOf4
  v4 := Try.zeroValue4
  t22 := Try.underlying70
  a22 := Try.isAgg70
  z22 := Try.sizeOf70
  v22 := Try.zeroValue70
  a23 := Try.isAgg9
  z23 := Try.sizeOf9

set_option maxRecDepth 1000000 in
theorem none_109 (p : Option Addr) (cap : Nat) (w : World) : Calls Try.prog 109 #[.slice p 0 cap] w fun e w' => e = .returned (.slice p 0 cap) ∧ w' = w := by
  go_enter Try.func109, Try.ntmps109
  go_wp2
  go_ret
  exact ⟨rfl, rfl⟩
theorem con_compactS_109 {A r : List (List UInt8)} (h : F_compactS A = some r) : ConX Try.prog 109 true 1 (A.map V.str) [] (.r true 1 (r.map V.str)) := by
  obtain ⟨hle, h⟩ := need_some h
  simp only [Option.some.injEq] at h
  subst h
  have hc := compact_le A.toArray A.length
  refine conX_row oneStr (Z := List.replicate (A.length - (Go.Lib.compactUpTo A.toArray A.length).length) []) (by rw [List.length_replicate]; omega) ?_ ?_
  · intro w D g o c vs _ hvs hH hg h1 h2 h3
    cases hvs
    have hk := AnyE.slices_Compact lays109 encStr (fun _ => rfl) (eqlStr _ _) (neqStr _ _) [] Try.zeroValue9 g o c A.toArray w hH (by simpa using hle) (by simpa using h1)
    refine hk.mono ?_
    rintro e w' ⟨rfl, q, rfl⟩
    exact ⟨by simp, q, #[], by simp⟩
  · intro hA w D p c vs hvs
    cases hvs
    exact none_109 p c w

end Go.Ab
