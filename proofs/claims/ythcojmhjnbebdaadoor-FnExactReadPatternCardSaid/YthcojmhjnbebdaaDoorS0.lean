/- Contracts of the library's functions at this program (printed by spec.py, own program; the structures lay the kit's shelf). -/
import Derived.Test.YthcojmhjnbebdaaDoorGT
import Derived.Test.YthcojmhjnbebdaaDoorProg
import Derived.KernelRfl
import Derived.WalkKit
import Derived.Shelf.Lays
import Derived.Shelf.Strings.OnBuilder
import Derived.Shelf.LaysC
import Derived.Shelf.LaysM
import Derived.Shelf.Strconv.ParseIntPublic10
import Derived.Shelf.Strconv.Itoa4
import Derived.Shelf.Strings.Prefix
import Derived.BigCall
import Derived.Lib.AtoiErrMem
import Derived.Shelf.Strings.Split
import Derived.Shelf.Strings.Cut
set_option linter.unusedVariables false
set_option linter.unusedSimpArgs false
set_option maxHeartbeats 4000000
namespace Go.Ab
open Go.RowKit Go.Proofs Go.Sort
def lays53_ren : Go.Shelf.Ren where
  f := fun n => match n with | 156 => 53 | 165 => 105 | 166 => 61 | 169 => 63 | 240 => 113 | 241 => 140 | 276 => 145 | 277 => 172 | n => n
  t := fun n => match n with | 31 => 68 | 9 => 9 | 3 => 3 | 4 => 4 | 0 => 0 | 20 => 20 | 72 => 87 | 76 => 90 | 70 => 84 | 37 => 85 | 75 => 89 | 127 => 145 | 164 => 167 | 5 => 5 | 80 => 93 | n => n
  g := fun n => n
theorem lays53 : Go.Proofs.Lays.n156 Tryd.prog lays53_ren where
  mixed := by kernel_rfl
  f156 := by kernel_rfl
  f165 := by kernel_rfl
  f166 := by kernel_rfl
  f169 := by kernel_rfl
  f240 := by kernel_rfl
  f241 := by kernel_rfl
  f276 := by kernel_rfl
  f277 := by kernel_rfl
  t0 := Tryd.underlying0
  a0 := Tryd.isAgg0
  z0 := Tryd.sizeOf0
  v0 := Tryd.zeroValue0
  t3 := Tryd.underlying3
  a3 := Tryd.isAgg3
  z3 := Tryd.sizeOf3
  v3 := Tryd.zeroValue3
  t4 := Tryd.underlying4
  a4 := Tryd.isAgg4
  z4 := Tryd.sizeOf4
  v4 := Tryd.zeroValue4
  t9 := Tryd.underlying9
  a9 := Tryd.isAgg9
  z9 := Tryd.sizeOf9
  v9 := Tryd.zeroValue9
  t20 := Tryd.underlying20
  a20 := Tryd.isAgg20
  z20 := Tryd.sizeOf20
  v20 := Tryd.zeroValue20
  t31 := Tryd.underlying68
  a31 := Tryd.isAgg68
  z31 := Tryd.sizeOf68
  v31 := Tryd.zeroValue68
  t37 := Tryd.underlying85
  a37 := Tryd.isAgg85
  z37 := Tryd.sizeOf85
  v37 := Tryd.zeroValue85
  t70 := Tryd.underlying84
  a70 := Tryd.isAgg84
  z70 := Tryd.sizeOf84
  v70 := Tryd.zeroValue84
  t72 := Tryd.underlying87
  a72 := Tryd.isAgg87
  z72 := Tryd.sizeOf87
  v72 := Tryd.zeroValue87
  t75 := Tryd.underlying89
  a75 := Tryd.isAgg89
  z75 := Tryd.sizeOf89
  v75 := Tryd.zeroValue89
  t76 := Tryd.underlying90
  a76 := Tryd.isAgg90
  z76 := Tryd.sizeOf90
  v76 := Tryd.zeroValue90
  t127 := Tryd.underlying145
  a127 := Tryd.isAgg145
  z127 := Tryd.sizeOf145
  v127 := Tryd.zeroValue145
  t164 := Tryd.underlying167
  a164 := Tryd.isAgg167
  z164 := Tryd.sizeOf167
  v164 := Tryd.zeroValue167
theorem lays53_x : Go.Proofs.Builder.Extra Tryd.prog lays53_ren where
  sizeBuilder := by kernel_rfl
  liesBuilder := by kernel_rfl
  t5 := Tryd.underlying5
  a5 := Tryd.isAgg5
  z5 := Tryd.sizeOf5
  v5 := Tryd.zeroValue5
  infoByte := by kernel_rfl
  cellsByte := by kernel_rfl
  sizeByte := by kernel_rfl
  neB5 := by decide

theorem con_join {A : List (List UInt8)} {sep r : List UInt8} (h : F_join A sep = some r) : Con Tryd.prog 53 [.sl 1 (A.map V.str), .str sep] (.v (.str r)) :=
  t_join h (fun w bk o c xs h1 h2 h3 h4 h5 => Any.strings_Join lays53 lays53_x bk o c xs (bz sep) w h1 h2 h3 h4 h5) (fun w a c => Any.strings_Join_none lays53 lays53_x a c (bz sep) w)
def laysRDp_ren : Go.Shelf.Ren where
  f := fun n => match n with | 174 => 120 | 247 => 152 | 245 => 153 | 287 => 184 | 279 => 185 | 280 => 186 | 281 => 187 | 282 => 188 | 321 => 204 | 322 => 205 | 316 => 206 | 171 => 208 | 205 => 207 | 243 => 215 | 246 => 141 | 283 => 173 | 284 => 174 | 285 => 175 | 286 => 176 | 129 => 199 | 317 => 198 | 318 => 200 | 319 => 201 | 320 => 202 | 337 => 213 | 338 => 214 | n => n
  t := fun n => match n with | 9 => 9 | 3 => 3 | 2 => 2 | 75 => 89 | 85 => 149 | 4 => 4 | 167 => 203 | 5 => 5 | 53 => 188 | 175 => 204 | 46 => 169 | 168 => 206 | 37 => 85 | 0 => 0 | 210 => 219 | 21 => 21 | 127 => 145 | 145 => 230 | 143 => 228 | 171 => 187 | 173 => 191 | 212 => 213 | 51 => 194 | 20 => 20 | 213 => 214 | 232 => 232 | 233 => 233 | 80 => 93 | n => n
  g := fun n => match n with | 15 => 2 | 16 => 3 | 17 => 1 | 18 => 6 | 19 => 7 | n => n
theorem laysRDp : Go.Proofs.LaysC.n174 Tryd.prog laysRDp_ren where
  mixed := by kernel_rfl
  f129 := by kernel_rfl
  f171 := by kernel_rfl
  f174 := by kernel_rfl
  f205 := by kernel_rfl
  f243 := by kernel_rfl
  f245 := by kernel_rfl
  f246 := by kernel_rfl
  f247 := by kernel_rfl
  f279 := by kernel_rfl
  f280 := by kernel_rfl
  f281 := by kernel_rfl
  f282 := by kernel_rfl
  f283 := by kernel_rfl
  f284 := by kernel_rfl
  f285 := by kernel_rfl
  f286 := by kernel_rfl
  f287 := by kernel_rfl
  f316 := by kernel_rfl
  f317 := by kernel_rfl
  f318 := by kernel_rfl
  f319 := by kernel_rfl
  f320 := by kernel_rfl
  f321 := by kernel_rfl
  f322 := by kernel_rfl
  f337 := by kernel_rfl
  f338 := by kernel_rfl
  t0 := Tryd.underlying0
  a0 := Tryd.isAgg0
  z0 := Tryd.sizeOf0
  v0 := Tryd.zeroValue0
  t2 := Tryd.underlying2
  a2 := Tryd.isAgg2
  z2 := Tryd.sizeOf2
  v2 := Tryd.zeroValue2
  t3 := Tryd.underlying3
  a3 := Tryd.isAgg3
  z3 := Tryd.sizeOf3
  v3 := Tryd.zeroValue3
  t4 := Tryd.underlying4
  a4 := Tryd.isAgg4
  z4 := Tryd.sizeOf4
  v4 := Tryd.zeroValue4
  t5 := Tryd.underlying5
  a5 := Tryd.isAgg5
  z5 := Tryd.sizeOf5
  v5 := Tryd.zeroValue5
  t9 := Tryd.underlying9
  a9 := Tryd.isAgg9
  z9 := Tryd.sizeOf9
  v9 := Tryd.zeroValue9
  t20 := Tryd.underlying20
  a20 := Tryd.isAgg20
  z20 := Tryd.sizeOf20
  v20 := Tryd.zeroValue20
  t21 := Tryd.underlying21
  a21 := Tryd.isAgg21
  z21 := Tryd.sizeOf21
  v21 := Tryd.zeroValue21
  t37 := Tryd.underlying85
  a37 := Tryd.isAgg85
  z37 := Tryd.sizeOf85
  v37 := Tryd.zeroValue85
  t46 := Tryd.underlying169
  a46 := Tryd.isAgg169
  z46 := Tryd.sizeOf169
  v46 := Tryd.zeroValue169
  t51 := Tryd.underlying194
  a51 := Tryd.isAgg194
  z51 := Tryd.sizeOf194
  v51 := Tryd.zeroValue194
  t53 := Tryd.underlying188
  a53 := Tryd.isAgg188
  z53 := Tryd.sizeOf188
  v53 := Tryd.zeroValue188
  t75 := Tryd.underlying89
  a75 := Tryd.isAgg89
  z75 := Tryd.sizeOf89
  v75 := Tryd.zeroValue89
  t85 := Tryd.underlying149
  a85 := Tryd.isAgg149
  z85 := Tryd.sizeOf149
  v85 := Tryd.zeroValue149
  t127 := Tryd.underlying145
  a127 := Tryd.isAgg145
  z127 := Tryd.sizeOf145
  v127 := Tryd.zeroValue145
  t143 := Tryd.underlying228
  a143 := Tryd.isAgg228
  z143 := Tryd.sizeOf228
  v143 := Tryd.zeroValue228
  t145 := Tryd.underlying230
  a145 := Tryd.isAgg230
  z145 := Tryd.sizeOf230
  v145 := Tryd.zeroValue230
  t167 := Tryd.underlying203
  a167 := Tryd.isAgg203
  z167 := Tryd.sizeOf203
  v167 := Tryd.zeroValue203
  t168 := Tryd.underlying206
  a168 := Tryd.isAgg206
  z168 := Tryd.sizeOf206
  v168 := Tryd.zeroValue206
  t171 := Tryd.underlying187
  a171 := Tryd.isAgg187
  z171 := Tryd.sizeOf187
  v171 := Tryd.zeroValue187
  t173 := Tryd.underlying191
  a173 := Tryd.isAgg191
  z173 := Tryd.sizeOf191
  v173 := Tryd.zeroValue191
  t175 := Tryd.underlying204
  a175 := Tryd.isAgg204
  z175 := Tryd.sizeOf204
  v175 := Tryd.zeroValue204
  t210 := Tryd.underlying219
  a210 := Tryd.isAgg219
  z210 := Tryd.sizeOf219
  v210 := Tryd.zeroValue219
  t212 := Tryd.underlying213
  a212 := Tryd.isAgg213
  z212 := Tryd.sizeOf213
  v212 := Tryd.zeroValue213
  t213 := Tryd.underlying214
  a213 := Tryd.isAgg214
  z213 := Tryd.sizeOf214
  t232 := Tryd.underlying232
  a232 := Tryd.isAgg232
  z232 := Tryd.sizeOf232
  v232 := Tryd.zeroValue232
  t233 := Tryd.underlying233
  a233 := Tryd.isAgg233
  z233 := Tryd.sizeOf233
  v233 := Tryd.zeroValue233
  g15 := by kernel_rfl
  g16 := by kernel_rfl
  g17 := by kernel_rfl
  g18 := by kernel_rfl
  g19 := by kernel_rfl
  t80 := Tryd.underlying93
  a80 := Tryd.isAgg93
  z80 := Tryd.sizeOf93
  v80 := Tryd.zeroValue93
  i0 := by kernel_rfl
  i2 := by kernel_rfl
  i3 := by kernel_rfl
  i4 := by kernel_rfl
  i5 := by kernel_rfl
  i9 := by kernel_rfl
  i20 := by kernel_rfl
  i21 := by kernel_rfl
  i37 := by kernel_rfl
  i46 := by kernel_rfl
  i51 := by kernel_rfl
  i53 := by kernel_rfl
  i75 := by kernel_rfl
  i80 := by kernel_rfl
  i85 := by kernel_rfl
  i127 := by kernel_rfl
  i143 := by kernel_rfl
  i145 := by kernel_rfl
  i167 := by kernel_rfl
  i168 := by kernel_rfl
  i171 := by kernel_rfl
  i173 := by kernel_rfl
  i175 := by kernel_rfl
  i210 := by kernel_rfl
  i212 := by kernel_rfl
  i232 := by kernel_rfl
  i233 := by kernel_rfl
  m15 := by kernel_rfl
  m16 := by kernel_rfl
  m17 := by kernel_rfl
  m18 := by kernel_rfl
  m19 := by kernel_rfl
  c0 := by kernel_rfl
  c2 := by kernel_rfl
  c3 := by kernel_rfl
  c4 := by kernel_rfl
  c5 := by kernel_rfl
  c9 := by kernel_rfl
  c20 := by kernel_rfl
  c21 := by kernel_rfl
  c37 := by kernel_rfl
  c46 := by kernel_rfl
  c51 := by kernel_rfl
  c53 := by kernel_rfl
  c75 := by kernel_rfl
  c80 := by kernel_rfl
  c85 := by kernel_rfl
  c127 := by kernel_rfl
  c143 := by kernel_rfl
  c145 := by kernel_rfl
  c167 := by kernel_rfl
  c168 := by kernel_rfl
  c171 := by kernel_rfl
  c173 := by kernel_rfl
  c175 := by kernel_rfl
  c210 := by kernel_rfl
  c212 := by kernel_rfl
  c213 := by kernel_rfl
  c232 := by kernel_rfl
  c233 := by kernel_rfl

def laysRDf_ren : Go.Shelf.Ren where
  f := fun n => match n with | 173 => 106 | 246 => 141 | 283 => 173 | 284 => 174 | 285 => 175 | 286 => 176 | 129 => 199 | 317 => 198 | 318 => 200 | 319 => 201 | 320 => 202 | 337 => 213 | 338 => 214 | n => n
  t := fun n => match n with | 2 => 2 | 3 => 3 | 9 => 9 | 4 => 4 | 171 => 187 | 0 => 0 | 53 => 188 | 37 => 85 | 5 => 5 | 173 => 191 | 212 => 213 | 51 => 194 | 20 => 20 | 213 => 214 | 46 => 169 | 232 => 232 | 233 => 233 | n => n
  g := fun n => match n with | 17 => 1 | 18 => 6 | 19 => 7 | n => n
theorem laysRDf : Go.Proofs.LaysM.n173 Tryd.prog laysRDf_ren where
  mixed := by kernel_rfl
  f129 := by kernel_rfl
  f173 := by kernel_rfl
  f246 := by kernel_rfl
  f283 := by kernel_rfl
  f284 := by kernel_rfl
  f285 := by kernel_rfl
  f286 := by kernel_rfl
  f317 := by kernel_rfl
  f318 := by kernel_rfl
  f319 := by kernel_rfl
  f320 := by kernel_rfl
  f337 := by kernel_rfl
  f338 := by kernel_rfl
  t0 := Tryd.underlying0
  a0 := Tryd.isAgg0
  z0 := Tryd.sizeOf0
  v0 := Tryd.zeroValue0
  t2 := Tryd.underlying2
  a2 := Tryd.isAgg2
  z2 := Tryd.sizeOf2
  v2 := Tryd.zeroValue2
  t3 := Tryd.underlying3
  a3 := Tryd.isAgg3
  z3 := Tryd.sizeOf3
  v3 := Tryd.zeroValue3
  t4 := Tryd.underlying4
  a4 := Tryd.isAgg4
  z4 := Tryd.sizeOf4
  v4 := Tryd.zeroValue4
  t5 := Tryd.underlying5
  a5 := Tryd.isAgg5
  z5 := Tryd.sizeOf5
  v5 := Tryd.zeroValue5
  t9 := Tryd.underlying9
  a9 := Tryd.isAgg9
  z9 := Tryd.sizeOf9
  v9 := Tryd.zeroValue9
  t20 := Tryd.underlying20
  a20 := Tryd.isAgg20
  z20 := Tryd.sizeOf20
  v20 := Tryd.zeroValue20
  t37 := Tryd.underlying85
  a37 := Tryd.isAgg85
  z37 := Tryd.sizeOf85
  v37 := Tryd.zeroValue85
  t46 := Tryd.underlying169
  a46 := Tryd.isAgg169
  z46 := Tryd.sizeOf169
  v46 := Tryd.zeroValue169
  t51 := Tryd.underlying194
  a51 := Tryd.isAgg194
  z51 := Tryd.sizeOf194
  v51 := Tryd.zeroValue194
  t53 := Tryd.underlying188
  a53 := Tryd.isAgg188
  z53 := Tryd.sizeOf188
  v53 := Tryd.zeroValue188
  t171 := Tryd.underlying187
  a171 := Tryd.isAgg187
  z171 := Tryd.sizeOf187
  v171 := Tryd.zeroValue187
  t173 := Tryd.underlying191
  a173 := Tryd.isAgg191
  z173 := Tryd.sizeOf191
  v173 := Tryd.zeroValue191
  t212 := Tryd.underlying213
  a212 := Tryd.isAgg213
  z212 := Tryd.sizeOf213
  v212 := Tryd.zeroValue213
  t213 := Tryd.underlying214
  a213 := Tryd.isAgg214
  z213 := Tryd.sizeOf214
  t232 := Tryd.underlying232
  a232 := Tryd.isAgg232
  z232 := Tryd.sizeOf232
  v232 := Tryd.zeroValue232
  t233 := Tryd.underlying233
  a233 := Tryd.isAgg233
  z233 := Tryd.sizeOf233
  v233 := Tryd.zeroValue233
  g17 := by kernel_rfl
  g18 := by kernel_rfl
  g19 := by kernel_rfl
  i0 := by kernel_rfl
  i2 := by kernel_rfl
  i3 := by kernel_rfl
  i4 := by kernel_rfl
  i5 := by kernel_rfl
  i9 := by kernel_rfl
  i20 := by kernel_rfl
  i37 := by kernel_rfl
  i46 := by kernel_rfl
  i51 := by kernel_rfl
  i53 := by kernel_rfl
  i171 := by kernel_rfl
  i173 := by kernel_rfl
  i212 := by kernel_rfl
  i232 := by kernel_rfl
  i233 := by kernel_rfl
  m17 := by kernel_rfl
  m18 := by kernel_rfl
  m19 := by kernel_rfl

def laysRDt_ren : Go.Shelf.Ren where
  f := fun n => match n with | 101 => 121 | 208 => 154 | 206 => 180 | n => n
  t := fun n => match n with | 9 => 9 | 4 => 4 | 3 => 3 | n => n
  g := fun n => n
theorem laysRDt : Go.Proofs.Lays.n101 Tryd.prog laysRDt_ren where
  mixed := by kernel_rfl
  f101 := by kernel_rfl
  f206 := by kernel_rfl
  f208 := by kernel_rfl
  t3 := Tryd.underlying3
  a3 := Tryd.isAgg3
  z3 := Tryd.sizeOf3
  v3 := Tryd.zeroValue3
  t4 := Tryd.underlying4
  a4 := Tryd.isAgg4
  z4 := Tryd.sizeOf4
  v4 := Tryd.zeroValue4
  t9 := Tryd.underlying9
  a9 := Tryd.isAgg9
  z9 := Tryd.sizeOf9
  v9 := Tryd.zeroValue9

theorem rd_ok (s : ByteArray) (hmax : s.size ≤ 9223372036854775806) (v : Int) (h : Go.Lib.parseIntB 64 s.data.toList = .ok v) (w : World) :
    Calls Tryd.prog 120 #[.string s, .int .i64 10, .int .i64 64] w fun e w' => e = .returned (.tuple #[.int .i64 v, .nilIface]) ∧ Below w.heap.size w w' :=
  (show Calls Tryd.prog 120 _ w _ from Any.strconv_ParseInt_10_at64_ok laysRDp s hmax v h w).mono fun e w' ⟨he, hw⟩ => ⟨he, by rcases hw with rfl | ⟨t, rfl⟩; exact Below.refl _ _; exact Go.Lib.bytesWorld_below _ _ _⟩
theorem rd_syntax (s : ByteArray) (hlim : s.size ≤ 281474976710656) (h : Go.Lib.parseIntB 64 s.data.toList = .«syntax») (ev : Value) (w : World) (hv : w.cell? ⟨2, 0, none⟩ = some ev) (hev : ev = .nilIface ∨ ∃ te pe, ev = .iface te pe) :
    Calls Tryd.prog 120 #[.string s, .int .i64 10, .int .i64 64] w fun e w' => ∃ T N, e = .returned (.tuple #[.int .i64 0, .iface T (.pointer (some ⟨N, 0, none⟩))]) ∧ Below w.heap.size w w' :=
  (show Calls Tryd.prog 120 _ w _ from Any.strconv_ParseInt_10_at64_syntax laysRDp s hlim h ev w hv hev).mono fun e w' ⟨N, he, _, _, hb⟩ => ⟨_, N, he, hb⟩
theorem rd_range (s : ByteArray) (hlim : s.size ≤ 281474976710656) (h : Go.Lib.parseIntB 64 s.data.toList = .range) (ev : Value) (w : World) (hv : w.cell? ⟨3, 0, none⟩ = some ev) (hev : ev = .nilIface ∨ ∃ te pe, ev = .iface te pe) :
    Calls Tryd.prog 120 #[.string s, .int .i64 10, .int .i64 64] w fun e w' => ∃ T N n, e = .returned (.tuple #[.int .i64 n, .iface T (.pointer (some ⟨N, 0, none⟩))]) ∧ Below w.heap.size w w' :=
  (show Calls Tryd.prog 120 _ w _ from Any.strconv_ParseInt_10_at64_range laysRDp s hlim h ev w hv hev).mono fun e w' ⟨N, he, _, _, hb⟩ => ⟨_, N, _, he, hb⟩
theorem rd_dec (n : Int) (h0 : -9223372036854775808 ≤ n) (h1 : n ≤ 9223372036854775807) (w : World) (hq : ∃ ty fz, w.heap[1]? = some (.cells (Go.Lib.pow10Tab.map fun z => Value.int .u64 z).toArray ty fz)) :
    Calls Tryd.prog 54 #[.int .i64 n] w fun e w' => e = .returned (.string ⟨(Go.Lib.itoa n).toArray⟩) ∧ Below w.heap.size w w' := by
  have hc : Calls Tryd.prog 106 #[.int .i64 n, .int .i64 10] w fun e w' => e = .returned (.string ⟨(Go.Lib.itoa n).toArray⟩) ∧ Below w.heap.size w w' :=
    (show Calls Tryd.prog 106 _ w _ from Any.strconv_FormatInt_10 laysRDf n h0 h1 w (by obtain ⟨ty, fz, e⟩ := hq; unfold Go.Lib.TabIs World.var?; rw [show Tryd.prog.globalNamed "internal/strconv.uint64pow10" = some 1 by kernel_rfl, Option.bind_some, e])).mono fun e w' ⟨he, k, os, hw⟩ => ⟨he, by subst hw; exact below_grow _ _ _⟩
  go_enter Tryd.func54, Tryd.ntmps54
  go_wp2_with (go_at_call 106; refine hc.mono ?_; rintro e W1 ⟨rfl, hb⟩)
  go_ret
  exact ⟨rfl, hb⟩
theorem rd_trim (s p : ByteArray) (w : World) : Calls Tryd.prog 121 #[.string s, .string p] w fun e w' => e = .returned (.string ⟨(Go.Lib.trimPrefix s.data.toList p.data.toList).toArray⟩) ∧ w' = w := Any.strings_TrimPrefix laysRDt s p w
theorem rd_rng {l : List UInt8} {v : Int} (h : Go.Lib.parseIntB 64 l = .ok v) : -9223372036854775808 ≤ v ∧ v ≤ 9223372036854775807 := by
  unfold Go.Lib.parseIntB at h
  split at h
  · cases h
  · dsimp only at h
    split at h
    · cases h
    · cases h
    · split at h
      · cases h
      · split at h
        · cases h
        · rename_i h1 h2
          simp only [Go.Lib.NumEnd.ok.injEq] at h
          subst h
          split
          · rename_i hn
            have := fun h3 => h2 ⟨hn, h3⟩
            omega
          · rename_i hn
            have := fun h3 => h1 ⟨hn, h3⟩
            omega
set_option maxRecDepth 100000 in
theorem rd_all (s : ByteArray) (hs : s.size ≤ 281474976710656) (w : World) (hq : TabQ w) :
    Calls Tryd.prog 70 #[.string s] w fun e w' => e = .returned (.tuple #[.int .i64 (readDec s.data.toList).1, .bool (readDec s.data.toList).2]) ∧ Below w.heap.size w w' := by
  cases h : Go.Lib.parseIntB 64 s.data.toList with
  | «syntax» =>
    have hr : readDec s.data.toList = (0, false) := by simp only [readDec, h]
    rw [hr]
    obtain ⟨ev, hv, he⟩ := hq.es
    go_enter Tryd.func70, Tryd.ntmps70
    go_wp2_with (go_at_call 120; refine (rd_syntax s hs h ev _ ?_ he).mono ?_)
    · exact hv
    rintro e W1 ⟨T, N, rfl, hb⟩
    go_wp2
    go_ret2
    exact ⟨rfl, hb⟩
  | range =>
    have hr : readDec s.data.toList = (0, false) := by simp only [readDec, h]
    rw [hr]
    obtain ⟨ev, hv, he⟩ := hq.er
    go_enter Tryd.func70, Tryd.ntmps70
    go_wp2_with (go_at_call 120; refine (rd_range s hs h ev _ ?_ he).mono ?_)
    · exact hv
    rintro e W1 ⟨T, N, n, rfl, hb⟩
    go_wp2
    go_ret2
    exact ⟨rfl, hb⟩
  | ok v =>
    obtain ⟨v0, v1⟩ := rd_rng h
    have hr : readDec s.data.toList = if 18 < (Go.Lib.trimPrefix s.data.toList [45]).length ∨ Go.Lib.itoa v ≠ s.data.toList then (0, false) else (v, true) := by simp only [readDec, h]
    rw [hr]
    obtain ⟨ty, fz, hp⟩ := hq.pow
    have hpl := (Array.getElem?_eq_some_iff.1 hp).1
    have hlen : ((⟨(Go.Lib.trimPrefix s.data.toList [45]).toArray⟩ : ByteArray).size : Int) = ((Go.Lib.trimPrefix s.data.toList [45]).length : Int) := by simp [ByteArray.size]
    have heq : ((⟨(Go.Lib.itoa v).toArray⟩ : ByteArray) = s) ↔ Go.Lib.itoa v = s.data.toList := by
      constructor
      · rintro rfl; simp
      · intro e; rw [e]
    by_cases h18 : 18 < (Go.Lib.trimPrefix s.data.toList [45]).length
    · rw [if_pos (Or.inl h18)]
      go_enter Tryd.func70, Tryd.ntmps70
      go_wp2_with (go_at_call 120; refine (rd_ok s (by omega) v h _).mono ?_; rintro e W1 ⟨rfl, hb⟩)
      go_wp2_with (go_at_call 121; refine (rd_trim s ⟨#[45]⟩ _).mono ?_; rintro e W2 ⟨rfl, rfl⟩)
      have hd : decide (((⟨(Go.Lib.trimPrefix s.data.toList [45]).toArray⟩ : ByteArray).size : Int) > 18) = true := decide_eq_true (by omega)
      go_wp2
      go_ret2
      exact ⟨rfl, hb⟩
    · by_cases he : Go.Lib.itoa v = s.data.toList
      · rw [if_neg (by simp [h18, he])]
        have hd2 : (⟨(Go.Lib.itoa v).toArray⟩ : ByteArray) = s := heq.2 he
        go_enter Tryd.func70, Tryd.ntmps70
        go_wp2_with (go_at_call 120; refine (rd_ok s (by omega) v h _).mono ?_; rintro e W1 ⟨rfl, hb⟩)
        go_wp2_with (go_at_call 121; refine (rd_trim s ⟨#[45]⟩ _).mono ?_; rintro e W2 ⟨rfl, rfl⟩)
        have hd : decide (((⟨(Go.Lib.trimPrefix s.data.toList [45]).toArray⟩ : ByteArray).size : Int) > 18) = false := decide_eq_false (by omega)
        go_wp2_with (go_at_call 54; refine (rd_dec v v0 v1 _ ⟨ty, fz, (hb.block 1 hpl).trans hp⟩).mono ?_; rintro e W2 ⟨rfl, hb2⟩)
        go_wp2
        go_ret2
        exact ⟨rfl, hb.trans (hb2.mono hb.size)⟩
      · rw [if_pos (Or.inr he)]
        have hd2 : ¬ (⟨(Go.Lib.itoa v).toArray⟩ : ByteArray) = s := fun e => he (heq.1 e)
        go_enter Tryd.func70, Tryd.ntmps70
        go_wp2_with (go_at_call 120; refine (rd_ok s (by omega) v h _).mono ?_; rintro e W1 ⟨rfl, hb⟩)
        go_wp2_with (go_at_call 121; refine (rd_trim s ⟨#[45]⟩ _).mono ?_; rintro e W2 ⟨rfl, rfl⟩)
        have hd : decide (((⟨(Go.Lib.trimPrefix s.data.toList [45]).toArray⟩ : ByteArray).size : Int) > 18) = false := decide_eq_false (by omega)
        go_wp2_with (go_at_call 54; refine (rd_dec v v0 v1 _ ⟨ty, fz, (hb.block 1 hpl).trans hp⟩).mono ?_; rintro e W2 ⟨rfl, hb2⟩)
        go_wp2
        · go_ret2
          exact ⟨rfl, hb.trans (hb2.mono hb.size)⟩
        · exfalso
          rename_i hx
          have h3 : Go.Lib.itoa v = s.toList := by simpa using hx.2
          exact he (h3.trans (by rw [ByteArray.toList_eq]))
theorem con_readDec {s : List UInt8} {r : Int × Bool} (h : F_readDec s = some r) : Con Tryd.prog 70 [.str s] (.tup [.v (.int .i64 r.1), .v (.bool r.2)]) := by
  obtain ⟨hs, h2⟩ := need_some h
  cases h2
  refine con_pure _ (rv_t2 (rep_int _) (rep_bool _)) ?_
  intro w D vs hD ha
  have := args_sc (l := [.str s]) ha
  subst this
  have := rd_all (bz s) (by simpa using hs) w hD.tabs.q
  rw [bz_data] at this
  exact this

def lays74_ren : Go.Shelf.Ren where
  f := fun n => match n with | 147 => 74 | 221 => 118 | 268 => 149 | 138 => 150 | 143 => 151 | 195 => 181 | 197 => 182 | 218 => 183 | 219 => 170 | 260 => 203 | 217 => 192 | 225 => 193 | 224 => 194 | 267 => 195 | 266 => 210 | 314 => 211 | n => n
  t := fun n => match n with | 9 => 9 | 3 => 3 | 31 => 68 | 4 => 4 | 0 => 0 | 105 => 200 | 21 => 21 | 5 => 5 | 46 => 169 | 119 => 224 | 139 => 227 | 138 => 226 | 146 => 195 | 51 => 194 | n => n
  g := fun n => match n with | 1 => 0 | 3 => 4 | 4 => 5 | n => n
theorem lays74 : Go.Proofs.Lays.n147 Tryd.prog lays74_ren where
  mixed := by kernel_rfl
  f138 := by kernel_rfl
  f143 := by kernel_rfl
  f147 := by kernel_rfl
  f195 := by kernel_rfl
  f197 := by kernel_rfl
  f217 := by kernel_rfl
  f218 := by kernel_rfl
  f219 := by kernel_rfl
  f221 := by kernel_rfl
  f224 := by kernel_rfl
  f225 := by kernel_rfl
  f260 := by kernel_rfl
  f266 := by kernel_rfl
  f267 := by kernel_rfl
  f268 := by kernel_rfl
  f314 := by kernel_rfl
  t0 := Tryd.underlying0
  a0 := Tryd.isAgg0
  z0 := Tryd.sizeOf0
  v0 := Tryd.zeroValue0
  t3 := Tryd.underlying3
  a3 := Tryd.isAgg3
  z3 := Tryd.sizeOf3
  v3 := Tryd.zeroValue3
  t4 := Tryd.underlying4
  a4 := Tryd.isAgg4
  z4 := Tryd.sizeOf4
  v4 := Tryd.zeroValue4
  t5 := Tryd.underlying5
  a5 := Tryd.isAgg5
  z5 := Tryd.sizeOf5
  v5 := Tryd.zeroValue5
  t9 := Tryd.underlying9
  a9 := Tryd.isAgg9
  z9 := Tryd.sizeOf9
  v9 := Tryd.zeroValue9
  t21 := Tryd.underlying21
  a21 := Tryd.isAgg21
  z21 := Tryd.sizeOf21
  v21 := Tryd.zeroValue21
  t31 := Tryd.underlying68
  a31 := Tryd.isAgg68
  z31 := Tryd.sizeOf68
  v31 := Tryd.zeroValue68
  t46 := Tryd.underlying169
  a46 := Tryd.isAgg169
  z46 := Tryd.sizeOf169
  v46 := Tryd.zeroValue169
  t51 := Tryd.underlying194
  a51 := Tryd.isAgg194
  z51 := Tryd.sizeOf194
  v51 := Tryd.zeroValue194
  t105 := Tryd.underlying200
  a105 := Tryd.isAgg200
  z105 := Tryd.sizeOf200
  v105 := Tryd.zeroValue200
  t119 := Tryd.underlying224
  a119 := Tryd.isAgg224
  z119 := Tryd.sizeOf224
  t138 := Tryd.underlying226
  a138 := Tryd.isAgg226
  z138 := Tryd.sizeOf226
  v138 := Tryd.zeroValue226
  t139 := Tryd.underlying227
  a139 := Tryd.isAgg227
  z139 := Tryd.sizeOf227
  v139 := Tryd.zeroValue227
  t146 := Tryd.underlying195
  a146 := Tryd.isAgg195
  z146 := Tryd.sizeOf195
  v146 := Tryd.zeroValue195
  g1 := by kernel_rfl
  g3 := by kernel_rfl
  g4 := by kernel_rfl

theorem con_splitN {s sep : List UInt8} {n : Int} {r : List (List UInt8)} (h : F_splitN s sep n = some r) : Con Tryd.prog 74 [.str s, .str sep, .int .i64 n] (res_splitN r) :=
  t_splitN h (fun w n hq h1 h2 h3 h4 => by obtain ⟨m, hm⟩ := hq.mx; exact Any.strings_SplitN lays74 (by kernel_rfl) (bz s) (bz sep) n m w h1 hm h2 h3 h4)
def lays93_ren : Go.Shelf.Ren where
  f := fun n => match n with | 145 => 93 | 220 => 134 | 219 => 170 | 217 => 192 | 225 => 193 | 224 => 194 | 267 => 195 | 266 => 210 | 314 => 211 | n => n
  t := fun n => match n with | 9 => 9 | 4 => 4 | 59 => 127 | 3 => 3 | 5 => 5 | 46 => 169 | 146 => 195 | 51 => 194 | n => n
  g := fun n => match n with | 1 => 0 | n => n
theorem lays93 : Go.Proofs.Lays.n145 Tryd.prog lays93_ren where
  mixed := by kernel_rfl
  f145 := by kernel_rfl
  f217 := by kernel_rfl
  f219 := by kernel_rfl
  f220 := by kernel_rfl
  f224 := by kernel_rfl
  f225 := by kernel_rfl
  f266 := by kernel_rfl
  f267 := by kernel_rfl
  f314 := by kernel_rfl
  t3 := Tryd.underlying3
  a3 := Tryd.isAgg3
  z3 := Tryd.sizeOf3
  v3 := Tryd.zeroValue3
  t4 := Tryd.underlying4
  a4 := Tryd.isAgg4
  z4 := Tryd.sizeOf4
  v4 := Tryd.zeroValue4
  t5 := Tryd.underlying5
  a5 := Tryd.isAgg5
  z5 := Tryd.sizeOf5
  v5 := Tryd.zeroValue5
  t9 := Tryd.underlying9
  a9 := Tryd.isAgg9
  z9 := Tryd.sizeOf9
  v9 := Tryd.zeroValue9
  t46 := Tryd.underlying169
  a46 := Tryd.isAgg169
  z46 := Tryd.sizeOf169
  v46 := Tryd.zeroValue169
  t51 := Tryd.underlying194
  a51 := Tryd.isAgg194
  z51 := Tryd.sizeOf194
  v51 := Tryd.zeroValue194
  t59 := Tryd.underlying127
  a59 := Tryd.isAgg127
  z59 := Tryd.sizeOf127
  v59 := Tryd.zeroValue127
  t146 := Tryd.underlying195
  a146 := Tryd.isAgg195
  z146 := Tryd.sizeOf195
  v146 := Tryd.zeroValue195
  g1 := by kernel_rfl

theorem con_cut {s sep : List UInt8} {r : List UInt8 × List UInt8 × Bool} (h : F_cut s sep = some r) : Con Tryd.prog 93 [.str s, .str sep] (.tup [.v (.str r.1), .v (.str r.2.1), .v (.bool r.2.2)]) :=
  t_cut h (fun w hq h1 => by obtain ⟨m, hm⟩ := hq.mx; exact Any.strings_Cut lays93 (bz s) (bz sep) m w h1 hm)
def lays106_ren : Go.Shelf.Ren where
  f := fun n => match n with | 173 => 106 | 246 => 141 | 283 => 173 | 284 => 174 | 285 => 175 | 286 => 176 | 129 => 199 | 317 => 198 | 318 => 200 | 319 => 201 | 320 => 202 | 337 => 213 | 338 => 214 | n => n
  t := fun n => match n with | 2 => 2 | 3 => 3 | 9 => 9 | 4 => 4 | 171 => 187 | 0 => 0 | 53 => 188 | 37 => 85 | 5 => 5 | 173 => 191 | 212 => 213 | 51 => 194 | 20 => 20 | 213 => 214 | 46 => 169 | 232 => 232 | 233 => 233 | n => n
  g := fun n => match n with | 17 => 1 | 18 => 6 | 19 => 7 | n => n
theorem lays106 : Go.Proofs.LaysM.n173 Tryd.prog lays106_ren where
  mixed := by kernel_rfl
  f129 := by kernel_rfl
  f173 := by kernel_rfl
  f246 := by kernel_rfl
  f283 := by kernel_rfl
  f284 := by kernel_rfl
  f285 := by kernel_rfl
  f286 := by kernel_rfl
  f317 := by kernel_rfl
  f318 := by kernel_rfl
  f319 := by kernel_rfl
  f320 := by kernel_rfl
  f337 := by kernel_rfl
  f338 := by kernel_rfl
  t0 := Tryd.underlying0
  a0 := Tryd.isAgg0
  z0 := Tryd.sizeOf0
  v0 := Tryd.zeroValue0
  t2 := Tryd.underlying2
  a2 := Tryd.isAgg2
  z2 := Tryd.sizeOf2
  v2 := Tryd.zeroValue2
  t3 := Tryd.underlying3
  a3 := Tryd.isAgg3
  z3 := Tryd.sizeOf3
  v3 := Tryd.zeroValue3
  t4 := Tryd.underlying4
  a4 := Tryd.isAgg4
  z4 := Tryd.sizeOf4
  v4 := Tryd.zeroValue4
  t5 := Tryd.underlying5
  a5 := Tryd.isAgg5
  z5 := Tryd.sizeOf5
  v5 := Tryd.zeroValue5
  t9 := Tryd.underlying9
  a9 := Tryd.isAgg9
  z9 := Tryd.sizeOf9
  v9 := Tryd.zeroValue9
  t20 := Tryd.underlying20
  a20 := Tryd.isAgg20
  z20 := Tryd.sizeOf20
  v20 := Tryd.zeroValue20
  t37 := Tryd.underlying85
  a37 := Tryd.isAgg85
  z37 := Tryd.sizeOf85
  v37 := Tryd.zeroValue85
  t46 := Tryd.underlying169
  a46 := Tryd.isAgg169
  z46 := Tryd.sizeOf169
  v46 := Tryd.zeroValue169
  t51 := Tryd.underlying194
  a51 := Tryd.isAgg194
  z51 := Tryd.sizeOf194
  v51 := Tryd.zeroValue194
  t53 := Tryd.underlying188
  a53 := Tryd.isAgg188
  z53 := Tryd.sizeOf188
  v53 := Tryd.zeroValue188
  t171 := Tryd.underlying187
  a171 := Tryd.isAgg187
  z171 := Tryd.sizeOf187
  v171 := Tryd.zeroValue187
  t173 := Tryd.underlying191
  a173 := Tryd.isAgg191
  z173 := Tryd.sizeOf191
  v173 := Tryd.zeroValue191
  t212 := Tryd.underlying213
  a212 := Tryd.isAgg213
  z212 := Tryd.sizeOf213
  v212 := Tryd.zeroValue213
  t213 := Tryd.underlying214
  a213 := Tryd.isAgg214
  z213 := Tryd.sizeOf214
  t232 := Tryd.underlying232
  a232 := Tryd.isAgg232
  z232 := Tryd.sizeOf232
  v232 := Tryd.zeroValue232
  t233 := Tryd.underlying233
  a233 := Tryd.isAgg233
  z233 := Tryd.sizeOf233
  v233 := Tryd.zeroValue233
  g17 := by kernel_rfl
  g18 := by kernel_rfl
  g19 := by kernel_rfl
  i0 := by kernel_rfl
  i2 := by kernel_rfl
  i3 := by kernel_rfl
  i4 := by kernel_rfl
  i5 := by kernel_rfl
  i9 := by kernel_rfl
  i20 := by kernel_rfl
  i37 := by kernel_rfl
  i46 := by kernel_rfl
  i51 := by kernel_rfl
  i53 := by kernel_rfl
  i171 := by kernel_rfl
  i173 := by kernel_rfl
  i212 := by kernel_rfl
  i232 := by kernel_rfl
  i233 := by kernel_rfl
  m17 := by kernel_rfl
  m18 := by kernel_rfl
  m19 := by kernel_rfl

theorem con_formatInt {n b : Int} {r : List UInt8} (h : F_formatInt n b = some r) : Con Tryd.prog 106 [.int .i64 n, .int .i64 b] (.v (.str r)) := t_formatInt h (fun w hq h0 h1 => Any.strconv_FormatInt_10 lays106 n h0 h1 w (by obtain ⟨ty, fz, e⟩ := hq.pow; unfold Go.Lib.TabIs World.var?; rw [show Tryd.prog.globalNamed "internal/strconv.uint64pow10" = some 1 by kernel_rfl, Option.bind_some, e]))
end Go.Ab
