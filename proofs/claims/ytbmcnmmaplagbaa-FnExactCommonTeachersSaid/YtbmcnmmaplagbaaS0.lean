/- Contracts of the library's functions at this program (printed by spec.py, own program; the structures lay the kit's shelf). -/
import Derived.Test.YtbmcnmmaplagbaaGS
import Derived.Test.YtbmcnmmaplagbaaProg
import Derived.KernelRfl
import Derived.WalkKit
import Derived.Shelf.SortM.Plain
import Derived.Shelf.SortM.SortNone
set_option linter.unusedVariables false
set_option linter.unusedSimpArgs false
set_option maxHeartbeats 4000000
namespace Go.Ab
open Go.RowKit Go.Proofs Go.Sort
def lays131_ren : Go.Shelf.Ren where
  f := fun n => match n with | 6 => 131 | 8 => 147 | 9 => 146 | 19 => 164 | 20 => 165 | 21 => 155 | 22 => 156 | 23 => 157 | 24 => 158 | 25 => 159 | 26 => 160 | 27 => 161 | 28 => 162 | 29 => 163 | 36 => 173 | 31 => 174 | 32 => 175 | 37 => 176 | 38 => 177 | 39 => 125 | 41 => 181 | n => n
  t := fun n => match n with | 27 => 41 | 29 => 9 | 3 => 3 | 32 => 134 | 26 => 41 | 0 => 0 | 44 => 166 | 46 => 168 | 4 => 4 | 36 => 160 | 35 => 159 | 41 => 93 | 5 => 5 | 9 => 9 | 53 => 173 | 57 => 177 | 63 => 181 | 64 => 182 | n => n
  g := fun n => n
theorem lays131 : Go.Proofs.SlLaysM.n6 Try.prog lays131_ren where
  mixed := by kernel_rfl
  f6 := ⟨ "slices.Sort[[]string,string]", by kernel_rfl, by kernel_rfl⟩
  f8 := by kernel_rfl
  f9 := ⟨ "slices.pdqsortOrdered[string]", by kernel_rfl, by kernel_rfl⟩
  f19 := by kernel_rfl
  f20 := by kernel_rfl
  f21 := ⟨ "slices.insertionSortOrdered[string]", by kernel_rfl, by kernel_rfl⟩
  f22 := ⟨ "slices.heapSortOrdered[string]", by kernel_rfl, by kernel_rfl⟩
  f23 := ⟨ "slices.breakPatternsOrdered[string]", by kernel_rfl, by kernel_rfl⟩
  f24 := ⟨ "slices.choosePivotOrdered[string]", by kernel_rfl, by kernel_rfl⟩
  f25 := ⟨ "slices.reverseRangeOrdered[string]", by kernel_rfl, by kernel_rfl⟩
  f26 := ⟨ "slices.partialInsertionSortOrdered[string]", by kernel_rfl, by kernel_rfl⟩
  f27 := ⟨ "cmp.Less[string]", by kernel_rfl, by kernel_rfl⟩
  f28 := ⟨ "slices.partitionEqualOrdered[string]", by kernel_rfl, by kernel_rfl⟩
  f29 := ⟨ "slices.partitionOrdered[string]", by kernel_rfl, by kernel_rfl⟩
  f31 := by kernel_rfl
  f32 := by kernel_rfl
  f36 := ⟨ "slices.siftDownOrdered[string]", by kernel_rfl, by kernel_rfl⟩
  f37 := ⟨ "slices.medianAdjacentOrdered[string]", by kernel_rfl, by kernel_rfl⟩
  f38 := ⟨ "slices.medianOrdered[string]", by kernel_rfl, by kernel_rfl⟩
  f39 := ⟨ "cmp.isNaN[string]", by kernel_rfl, by kernel_rfl⟩
  f41 := ⟨ "slices.order2Ordered[string]", by kernel_rfl, by kernel_rfl⟩
  t0 := Try.underlying0
  a0 := Try.isAgg0
  z0 := Try.sizeOf0
  v0 := Try.zeroValue0
  t3 := Try.underlying3
  a3 := Try.isAgg3
  z3 := Try.sizeOf3
  v3 := Try.zeroValue3
  t4 := Try.underlying4
  a4 := Try.isAgg4
  z4 := Try.sizeOf4
  v4 := Try.zeroValue4
  t5 := Try.underlying5
  a5 := Try.isAgg5
  z5 := Try.sizeOf5
  v5 := Try.zeroValue5
  t9 := Try.underlying9
  a9 := Try.isAgg9
  z9 := Try.sizeOf9
  v9 := Try.zeroValue9
  t26 := Try.underlying41
  a26 := Try.isAgg41
  z26 := Try.sizeOf41
  v26 := Try.zeroValue41
  t27 := Try.underlying41
  a27 := Try.isAgg41
  z27 := Try.sizeOf41
  v27 := Try.zeroValue41
  t29 := Try.underlying9
  a29 := Try.isAgg9
  z29 := Try.sizeOf9
  v29 := Try.zeroValue9
  t32 := Try.underlying134
  a32 := Try.isAgg134
  z32 := Try.sizeOf134
  v32 := Try.zeroValue134
  t35 := Try.underlying159
  a35 := Try.isAgg159
  z35 := Try.sizeOf159
  v35 := Try.zeroValue159
  t36 := Try.underlying160
  a36 := Try.isAgg160
  z36 := Try.sizeOf160
  v36 := Try.zeroValue160
  t41 := Try.underlying93
  a41 := Try.isAgg93
  z41 := Try.sizeOf93
  v41 := Try.zeroValue93
  t44 := Try.underlying166
  a44 := Try.isAgg166
  z44 := Try.sizeOf166
  v44 := Try.zeroValue166
  t46 := Try.underlying168
  a46 := Try.isAgg168
  z46 := Try.sizeOf168
  v46 := Try.zeroValue168
  t53 := Try.underlying173
  a53 := Try.isAgg173
  z53 := Try.sizeOf173
  v53 := Try.zeroValue173
  t57 := Try.underlying177
  a57 := Try.isAgg177
  z57 := Try.sizeOf177
  v57 := Try.zeroValue177
  t63 := Try.underlying181
  a63 := Try.isAgg181
  z63 := Try.sizeOf181
  v63 := Try.zeroValue181
  t64 := Try.underlying182
  a64 := Try.isAgg182
  z64 := Try.sizeOf182
  v64 := Try.zeroValue182

theorem con_sortS_131 {A r : List (List UInt8)} (h : F_sortS A = some r) : ConM Try.prog 131 (.one (.row true 1 (A.map V.str))) (.one (.row true 1 (r.map V.str))) [] (.agg []) := by
  obtain ⟨hlt, h⟩ := need_some h
  simp only [Option.some.injEq] at h
  subst h
  exact conM_row oneStr (by simp) (fun w g o c hH hg _ _ => AnyM.slices_Sort_string lays131 g o c A w hH hg hlt) (fun _ w p c => AnyM.slices_Sort_string_none lays131 p c w)

end Go.Ab
