/- Contracts of the library's functions at this program (printed by spec.py, own program; the structures lay the kit's shelf). -/
import Derived.Test.YtcklbccpfpnmbaaGreatDoorGS
import Derived.Test.YtcklbccpfpnmbaaGreatDoorGT
import Derived.Test.YtcklbccpfpnmbaaGreatDoorProg
import Derived.KernelRfl
import Derived.WalkKit
import Derived.Shelf.LaysM
import Derived.Shelf.Strconv.Itoa4
import Derived.Shelf.SortM.Plain
import Derived.Shelf.SortM.SortNone
import Derived.Shelf.SlicesE.Compact
set_option linter.unusedVariables false
set_option linter.unusedSimpArgs false
set_option maxHeartbeats 4000000
namespace Go.Ab
open Go.RowKit Go.Proofs Go.Sort
def b8f : Go.Shelf.Ren where
  f := fun n => match n with | 173 => 86 | 246 => 137 | 283 => 162 | 284 => 163 | 285 => 164 | 286 => 165 | 129 => 174 | 317 => 173 | 318 => 175 | 319 => 176 | 320 => 177 | 337 => 189 | 338 => 190 | n => n
  t := fun n => match n with | 2 => 2 | 3 => 3 | 9 => 9 | 4 => 4 | 171 => 201 | 0 => 0 | 53 => 202 | 37 => 127 | 5 => 5 | 173 => 205 | 212 => 214 | 51 => 215 | 20 => 20 | 213 => 216 | 46 => 211 | 232 => 235 | 233 => 236 | n => n
  g := fun n => match n with | 17 => 0 | 18 => 1 | 19 => 2 | n => n
theorem c6D : Go.Proofs.LaysM.n173 Tryz.prog b8f where
  mixed := by kernel_rfl
  f129 := by kernel_rfl
  f173 := by kernel_rfl
  f246 := by kernel_rfl
  f283 := by kernel_rfl
  f284 := by kernel_rfl
  f285 := by kernel_rfl
  f286 := by kernel_rfl
  f317 := by kernel_rfl
  f318 := by kernel_rfl
  f319 := by kernel_rfl
  f320 := by kernel_rfl
  f337 := by kernel_rfl
  f338 := by kernel_rfl
  t0 := Tryz.underlying0
  a0 := Tryz.isAgg0
  z0 := Tryz.sizeOf0
  v0 := Tryz.zeroValue0
  t2 := Tryz.underlying2
  a2 := Tryz.isAgg2
  z2 := Tryz.sizeOf2
  v2 := Tryz.zeroValue2
  t3 := Tryz.underlying3
  a3 := Tryz.isAgg3
  z3 := Tryz.sizeOf3
  v3 := Tryz.zeroValue3
  t4 := Tryz.underlying4
  a4 := Tryz.isAgg4
  z4 := Tryz.sizeOf4
  v4 := Tryz.zeroValue4
  t5 := Tryz.underlying5
  a5 := Tryz.isAgg5
  z5 := Tryz.sizeOf5
  v5 := Tryz.zeroValue5
  t9 := Tryz.underlying9
  a9 := Tryz.isAgg9
  z9 := Tryz.sizeOf9
  v9 := Tryz.zeroValue9
  t20 := Tryz.underlying20
  a20 := Tryz.isAgg20
  z20 := Tryz.sizeOf20
  v20 := Tryz.zeroValue20
  t37 := Tryz.underlying127
  a37 := Tryz.isAgg127
  z37 := Tryz.sizeOf127
  v37 := Tryz.zeroValue127
  t46 := Tryz.underlying211
  a46 := Tryz.isAgg211
  z46 := Tryz.sizeOf211
  v46 := Tryz.zeroValue211
  t51 := Tryz.underlying215
  a51 := Tryz.isAgg215
  z51 := Tryz.sizeOf215
  v51 := Tryz.zeroValue215
  t53 := Tryz.underlying202
  a53 := Tryz.isAgg202
  z53 := Tryz.sizeOf202
  v53 := Tryz.zeroValue202
  t171 := Tryz.underlying201
  a171 := Tryz.isAgg201
  z171 := Tryz.sizeOf201
  v171 := Tryz.zeroValue201
  t173 := Tryz.underlying205
  a173 := Tryz.isAgg205
  z173 := Tryz.sizeOf205
  v173 := Tryz.zeroValue205
  t212 := Tryz.underlying214
  a212 := Tryz.isAgg214
  z212 := Tryz.sizeOf214
  v212 := Tryz.zeroValue214
  t213 := Tryz.underlying216
  a213 := Tryz.isAgg216
  z213 := Tryz.sizeOf216
  t232 := Tryz.underlying235
  a232 := Tryz.isAgg235
  z232 := Tryz.sizeOf235
  v232 := Tryz.zeroValue235
  t233 := Tryz.underlying236
  a233 := Tryz.isAgg236
  z233 := Tryz.sizeOf236
  v233 := Tryz.zeroValue236
  g17 := by kernel_rfl
  g18 := by kernel_rfl
  g19 := by kernel_rfl
  i0 := by kernel_rfl
  i2 := by kernel_rfl
  i3 := by kernel_rfl
  i4 := by kernel_rfl
  i5 := by kernel_rfl
  i9 := by kernel_rfl
  i20 := by kernel_rfl
  i37 := by kernel_rfl
  i46 := by kernel_rfl
  i51 := by kernel_rfl
  i53 := by kernel_rfl
  i171 := by kernel_rfl
  i173 := by kernel_rfl
  i212 := by kernel_rfl
  i232 := by kernel_rfl
  i233 := by kernel_rfl
  m17 := by kernel_rfl
  m18 := by kernel_rfl
  m19 := by kernel_rfl

theorem b4K {n b : Int} {r : List UInt8} (h : a2X n b = some r) : Con Tryz.prog 86 [.int .i64 n, .int .i64 b] (.v (.str r)) := b7M h (fun w hq h0 h1 => Any.strconv_FormatInt_10 c6D n h0 h1 w (by obtain ⟨ty, fz, e⟩ := hq.pow; unfold Go.Lib.TabIs World.var?; rw [show Tryz.prog.globalNamed "internal/strconv.uint64pow10" = some 0 by kernel_rfl, Option.bind_some, e]))
def b7r : Go.Shelf.Ren where
  f := fun n => match n with | 6 => 156 | 8 => 171 | 9 => 170 | 19 => 188 | 20 => 174 | 21 => 179 | 22 => 180 | 23 => 181 | 24 => 182 | 25 => 183 | 26 => 184 | 27 => 185 | 28 => 186 | 29 => 187 | 36 => 191 | 31 => 192 | 32 => 193 | 37 => 194 | 38 => 195 | 39 => 172 | 41 => 196 | n => n
  t := fun n => match n with | 27 => 38 | 29 => 9 | 3 => 3 | 32 => 211 | 26 => 38 | 0 => 0 | 44 => 215 | 46 => 202 | 4 => 4 | 36 => 221 | 35 => 220 | 41 => 226 | 5 => 5 | 9 => 9 | 53 => 229 | 57 => 233 | 63 => 237 | 64 => 238 | n => n
  g := fun n => n
theorem b9o : Go.Proofs.SlLaysM.n6 Tryz.prog b7r where
  mixed := by kernel_rfl
  f6 := ⟨ "slices.Sort[[]string,string]", by kernel_rfl, by kernel_rfl⟩
  f8 := by kernel_rfl
  f9 := ⟨ "slices.pdqsortOrdered[string]", by kernel_rfl, by kernel_rfl⟩
  f19 := by kernel_rfl
  f20 := by kernel_rfl
  f21 := ⟨ "slices.insertionSortOrdered[string]", by kernel_rfl, by kernel_rfl⟩
  f22 := ⟨ "slices.heapSortOrdered[string]", by kernel_rfl, by kernel_rfl⟩
  f23 := ⟨ "slices.breakPatternsOrdered[string]", by kernel_rfl, by kernel_rfl⟩
  f24 := ⟨ "slices.choosePivotOrdered[string]", by kernel_rfl, by kernel_rfl⟩
  f25 := ⟨ "slices.reverseRangeOrdered[string]", by kernel_rfl, by kernel_rfl⟩
  f26 := ⟨ "slices.partialInsertionSortOrdered[string]", by kernel_rfl, by kernel_rfl⟩
  f27 := ⟨ "cmp.Less[string]", by kernel_rfl, by kernel_rfl⟩
  f28 := ⟨ "slices.partitionEqualOrdered[string]", by kernel_rfl, by kernel_rfl⟩
  f29 := ⟨ "slices.partitionOrdered[string]", by kernel_rfl, by kernel_rfl⟩
  f31 := by kernel_rfl
  f32 := by kernel_rfl
  f36 := ⟨ "slices.siftDownOrdered[string]", by kernel_rfl, by kernel_rfl⟩
  f37 := ⟨ "slices.medianAdjacentOrdered[string]", by kernel_rfl, by kernel_rfl⟩
  f38 := ⟨ "slices.medianOrdered[string]", by kernel_rfl, by kernel_rfl⟩
  f39 := ⟨ "cmp.isNaN[string]", by kernel_rfl, by kernel_rfl⟩
  f41 := ⟨ "slices.order2Ordered[string]", by kernel_rfl, by kernel_rfl⟩
  t0 := Tryz.underlying0
  a0 := Tryz.isAgg0
  z0 := Tryz.sizeOf0
  v0 := Tryz.zeroValue0
  t3 := Tryz.underlying3
  a3 := Tryz.isAgg3
  z3 := Tryz.sizeOf3
  v3 := Tryz.zeroValue3
  t4 := Tryz.underlying4
  a4 := Tryz.isAgg4
  z4 := Tryz.sizeOf4
  v4 := Tryz.zeroValue4
  t5 := Tryz.underlying5
  a5 := Tryz.isAgg5
  z5 := Tryz.sizeOf5
  v5 := Tryz.zeroValue5
  t9 := Tryz.underlying9
  a9 := Tryz.isAgg9
  z9 := Tryz.sizeOf9
  v9 := Tryz.zeroValue9
  t26 := Tryz.underlying38
  a26 := Tryz.isAgg38
  z26 := Tryz.sizeOf38
  v26 := Tryz.zeroValue38
  t27 := Tryz.underlying38
  a27 := Tryz.isAgg38
  z27 := Tryz.sizeOf38
  v27 := Tryz.zeroValue38
  t29 := Tryz.underlying9
  a29 := Tryz.isAgg9
  z29 := Tryz.sizeOf9
  v29 := Tryz.zeroValue9
  t32 := Tryz.underlying211
  a32 := Tryz.isAgg211
  z32 := Tryz.sizeOf211
  v32 := Tryz.zeroValue211
  t35 := Tryz.underlying220
  a35 := Tryz.isAgg220
  z35 := Tryz.sizeOf220
  v35 := Tryz.zeroValue220
  t36 := Tryz.underlying221
  a36 := Tryz.isAgg221
  z36 := Tryz.sizeOf221
  v36 := Tryz.zeroValue221
  t41 := Tryz.underlying226
  a41 := Tryz.isAgg226
  z41 := Tryz.sizeOf226
  v41 := Tryz.zeroValue226
  t44 := Tryz.underlying215
  a44 := Tryz.isAgg215
  z44 := Tryz.sizeOf215
  v44 := Tryz.zeroValue215
  t46 := Tryz.underlying202
  a46 := Tryz.isAgg202
  z46 := Tryz.sizeOf202
  v46 := Tryz.zeroValue202
  t53 := Tryz.underlying229
  a53 := Tryz.isAgg229
  z53 := Tryz.sizeOf229
  v53 := Tryz.zeroValue229
  t57 := Tryz.underlying233
  a57 := Tryz.isAgg233
  z57 := Tryz.sizeOf233
  v57 := Tryz.zeroValue233
  t63 := Tryz.underlying237
  a63 := Tryz.isAgg237
  z63 := Tryz.sizeOf237
  v63 := Tryz.zeroValue237
  t64 := Tryz.underlying238
  a64 := Tryz.isAgg238
  z64 := Tryz.sizeOf238
  v64 := Tryz.zeroValue238

theorem b4I {A r : List (List UInt8)} (h : b2u A = some r) : a3n Tryz.prog 156 (.one (.row true 1 (A.map V.str))) (.one (.row true 1 (r.map V.str))) [] (.agg []) := by
  obtain ⟨hlt, h⟩ := y2 h
  simp only [Option.some.injEq] at h
  subst h
  exact c1D c2d (by simp) (fun w g o c hH hg _ _ => AnyM.slices_Sort_string b9o g o c A w hH hg hlt) (fun _ w p c => AnyM.slices_Sort_string_none b9o p c w)

def b7i : Go.Shelf.Ren where
  f := fun n => match n with | 43 => 157 | n => n
  t := fun n => match n with | 22 => 38 | 23 => 9 | 3 => 3 | 4 => 4 | 0 => 0 | n => n
  g := fun n => n
theorem c3z : Go.Proofs.SlLaysE.n43 Tryz.prog b7i where
  mixed := by kernel_rfl
  f43 := ⟨ "slices.Compact[[]string,string]", by kernel_rfl, by kernel_rfl⟩
  t0 := Tryz.underlying0
  a0 := Tryz.isAgg0
  z0 := Tryz.sizeOf0
  v0 := Tryz.zeroValue0
  t3 := Tryz.underlying3
  a3 := Tryz.isAgg3
  z3 := Tryz.sizeOf3
  v3 := Tryz.zeroValue3
  t4 := Tryz.underlying4
  a4 := Tryz.isAgg4
  z4 := Tryz.sizeOf4
  v4 := Tryz.zeroValue4
  t22 := Tryz.underlying38
  a22 := Tryz.isAgg38
  z22 := Tryz.sizeOf38
  v22 := Tryz.zeroValue38
  a23 := Tryz.isAgg9
  z23 := Tryz.sizeOf9

set_option maxRecDepth 1000000 in
theorem c2v (p : Option Addr) (cap : Nat) (w : World) : Calls Tryz.prog 157 #[.slice p 0 cap] w fun e w' => e = .returned (.slice p 0 cap) ∧ w' = w := by
  go_enter Tryz.func157, Tryz.ntmps157
  go_wp2
  go_ret
  exact ⟨rfl, rfl⟩
theorem b0W {A r : List (List UInt8)} (h : a4D A = some r) : c1m Tryz.prog 157 true 1 (A.map V.str) [] (.r true 1 (r.map V.str)) := by
  obtain ⟨hle, h⟩ := y2 h
  simp only [Option.some.injEq] at h
  subst h
  have hc := b8B A.toArray A.length
  refine c3a c2d (Z := List.replicate (A.length - (Go.Lib.compactUpTo A.toArray A.length).length) []) (by rw [List.length_replicate]; omega) ?_ ?_
  · intro w D g o c vs _ hvs hH hg h1 h2 h3
    cases hvs
    have hk := AnyE.slices_Compact c3z encStr (fun _ => rfl) (c5P _ _) (c6K _ _) [] Tryz.zeroValue9 g o c A.toArray w hH (by simpa using hle) (by simpa using h1)
    refine hk.mono ?_
    rintro e w' ⟨rfl, q, rfl⟩
    exact ⟨by simp, q, #[], by simp⟩
  · intro hA w D p c vs hvs
    cases hvs
    exact c2v p c w

end Go.Ab
