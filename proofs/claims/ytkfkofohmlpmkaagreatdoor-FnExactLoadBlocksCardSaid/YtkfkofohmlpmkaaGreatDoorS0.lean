/- Contracts of the library's functions at this program (printed by spec.py, own program; the structures lay the kit's shelf). -/
import Derived.Test.YtkfkofohmlpmkaaGreatDoorGT
import Derived.Test.YtkfkofohmlpmkaaGreatDoorProg
import Derived.KernelRfl
import Derived.WalkKit
import Derived.Shelf.Lays
import Derived.Shelf.Strings.Prefix
import Derived.Shelf.Strings.Split
import Derived.Lib.SplitLaws
import Derived.Shelf.Small.Wraps
import Derived.Shelf.LaysC
import Derived.Shelf.LaysM
import Derived.Shelf.Strconv.ParseIntPublic10
import Derived.Shelf.Strconv.Itoa4
import Derived.BigCall
import Derived.Lib.AtoiErrMem
import Derived.Shelf.Strings.Cut
import Derived.Shelf.Strings.Repeat
set_option linter.unusedVariables false
set_option linter.unusedSimpArgs false
set_option maxHeartbeats 4000000
namespace Go.Ab
open Go.RowKit Go.Proofs Go.Sort
def lays13_ren : Go.Shelf.Ren where
  f := fun n => match n with | 100 => 13 | 207 => 29 | n => n
  t := fun n => match n with | 9 => 9 | 4 => 4 | 3 => 3 | n => n
  g := fun n => n
theorem lays13 : Go.Proofs.Lays.n100 Tryz.prog lays13_ren where
  mixed := by kernel_rfl
  f100 := by kernel_rfl
  f207 := by kernel_rfl
  t3 := Tryz.underlying3
  a3 := Tryz.isAgg3
  z3 := Tryz.sizeOf3
  v3 := Tryz.zeroValue3
  t4 := Tryz.underlying4
  a4 := Tryz.isAgg4
  z4 := Tryz.sizeOf4
  v4 := Tryz.zeroValue4
  t9 := Tryz.underlying9
  a9 := Tryz.isAgg9
  z9 := Tryz.sizeOf9
  v9 := Tryz.zeroValue9

theorem con_hasSuffix {s p : List UInt8} {r : Bool} (h : F_hasSuffix s p = some r) : Con Tryz.prog 13 [.str s, .str p] (.v (.bool r)) :=
  t_bool (Option.some.inj (need_some h).2) (fun w => Any.strings_HasSuffix lays13 (bz s) (bz p) w (by simpa using (need_some h).1))
def lays14_ren : Go.Shelf.Ren where
  f := fun n => match n with | 146 => 14 | 221 => 30 | 268 => 44 | 138 => 45 | 143 => 46 | 195 => 59 | 197 => 60 | 218 => 61 | 219 => 62 | 260 => 76 | 217 => 77 | 225 => 78 | 224 => 79 | 267 => 80 | 266 => 94 | 314 => 95 | n => n
  t := fun n => match n with | 9 => 9 | 31 => 28 | 3 => 3 | 4 => 4 | 0 => 0 | 105 => 72 | 21 => 21 | 5 => 5 | 46 => 65 | 119 => 108 | 139 => 111 | 138 => 110 | 146 => 103 | 51 => 102 | n => n
  g := fun n => match n with | 1 => 0 | 3 => 3 | 4 => 4 | n => n
theorem lays14 : Go.Proofs.Lays.n146 Tryz.prog lays14_ren where
  mixed := by kernel_rfl
  f138 := by kernel_rfl
  f143 := by kernel_rfl
  f146 := by kernel_rfl
  f195 := by kernel_rfl
  f197 := by kernel_rfl
  f217 := by kernel_rfl
  f218 := by kernel_rfl
  f219 := by kernel_rfl
  f221 := by kernel_rfl
  f224 := by kernel_rfl
  f225 := by kernel_rfl
  f260 := by kernel_rfl
  f266 := by kernel_rfl
  f267 := by kernel_rfl
  f268 := by kernel_rfl
  f314 := by kernel_rfl
  t0 := Tryz.underlying0
  a0 := Tryz.isAgg0
  z0 := Tryz.sizeOf0
  v0 := Tryz.zeroValue0
  t3 := Tryz.underlying3
  a3 := Tryz.isAgg3
  z3 := Tryz.sizeOf3
  v3 := Tryz.zeroValue3
  t4 := Tryz.underlying4
  a4 := Tryz.isAgg4
  z4 := Tryz.sizeOf4
  v4 := Tryz.zeroValue4
  t5 := Tryz.underlying5
  a5 := Tryz.isAgg5
  z5 := Tryz.sizeOf5
  v5 := Tryz.zeroValue5
  t9 := Tryz.underlying9
  a9 := Tryz.isAgg9
  z9 := Tryz.sizeOf9
  v9 := Tryz.zeroValue9
  t21 := Tryz.underlying21
  a21 := Tryz.isAgg21
  z21 := Tryz.sizeOf21
  v21 := Tryz.zeroValue21
  t31 := Tryz.underlying28
  a31 := Tryz.isAgg28
  z31 := Tryz.sizeOf28
  v31 := Tryz.zeroValue28
  t46 := Tryz.underlying65
  a46 := Tryz.isAgg65
  z46 := Tryz.sizeOf65
  v46 := Tryz.zeroValue65
  t51 := Tryz.underlying102
  a51 := Tryz.isAgg102
  z51 := Tryz.sizeOf102
  v51 := Tryz.zeroValue102
  t105 := Tryz.underlying72
  a105 := Tryz.isAgg72
  z105 := Tryz.sizeOf72
  v105 := Tryz.zeroValue72
  t119 := Tryz.underlying108
  a119 := Tryz.isAgg108
  z119 := Tryz.sizeOf108
  t138 := Tryz.underlying110
  a138 := Tryz.isAgg110
  z138 := Tryz.sizeOf110
  v138 := Tryz.zeroValue110
  t139 := Tryz.underlying111
  a139 := Tryz.isAgg111
  z139 := Tryz.sizeOf111
  v139 := Tryz.zeroValue111
  t146 := Tryz.underlying103
  a146 := Tryz.isAgg103
  z146 := Tryz.sizeOf103
  v146 := Tryz.zeroValue103
  g1 := by kernel_rfl
  g3 := by kernel_rfl
  g4 := by kernel_rfl

theorem con_split {s sep : List UInt8} {r : List (List UInt8)} (h : F_split s sep = some r) : Con Tryz.prog 14 [.str s, .str sep] (res_split r) := by
  have h1 : 1 ≤ (bz sep).size := by simpa using (need_some h).1.2
  exact t_split h (Go.Lib.splitB_all (bz sep) h1 0 _ (bz s) rfl) (by simpa using Go.Lib.countB_le (bz sep) h1 (bz s).size (bz s) (Nat.le_refl _)) (fun w hq h2 h3 => by obtain ⟨m, hm⟩ := hq.mx; exact Any.strings_Split lays14 (by kernel_rfl) (bz s) (bz sep) m w h2 hm h3)
def lays15_ren : Go.Shelf.Ren where
  f := fun n => match n with | 102 => 15 | 209 => 31 | 207 => 29 | n => n
  t := fun n => match n with | 9 => 9 | 4 => 4 | 3 => 3 | n => n
  g := fun n => n
theorem lays15 : Go.Proofs.Lays.n102 Tryz.prog lays15_ren where
  mixed := by kernel_rfl
  f102 := by kernel_rfl
  f207 := by kernel_rfl
  f209 := by kernel_rfl
  t3 := Tryz.underlying3
  a3 := Tryz.isAgg3
  z3 := Tryz.sizeOf3
  v3 := Tryz.zeroValue3
  t4 := Tryz.underlying4
  a4 := Tryz.isAgg4
  z4 := Tryz.sizeOf4
  v4 := Tryz.zeroValue4
  t9 := Tryz.underlying9
  a9 := Tryz.isAgg9
  z9 := Tryz.sizeOf9
  v9 := Tryz.zeroValue9

theorem con_trimSuffix {s p r : List UInt8} (h : F_trimSuffix s p = some r) : Con Tryz.prog 15 [.str s, .str p] (.v (.str r)) :=
  t_str (Option.some.inj (need_some h).2) (fun w => Any.strings_TrimSuffix lays15 (bz s) (bz p) w (by simpa using (need_some h).1))
def lays16_ren : Go.Shelf.Ren where
  f := fun n => match n with | 103 => 16 | 210 => 32 | 206 => 47 | n => n
  t := fun n => match n with | 9 => 9 | 4 => 4 | 24 => 42 | 3 => 3 | n => n
  g := fun n => n
theorem lays16 : Go.Proofs.Lays.n103 Tryz.prog lays16_ren where
  mixed := by kernel_rfl
  f103 := by kernel_rfl
  f206 := by kernel_rfl
  f210 := by kernel_rfl
  t3 := Tryz.underlying3
  a3 := Tryz.isAgg3
  z3 := Tryz.sizeOf3
  v3 := Tryz.zeroValue3
  t4 := Tryz.underlying4
  a4 := Tryz.isAgg4
  z4 := Tryz.sizeOf4
  v4 := Tryz.zeroValue4
  t9 := Tryz.underlying9
  a9 := Tryz.isAgg9
  z9 := Tryz.sizeOf9
  v9 := Tryz.zeroValue9
  t24 := Tryz.underlying42
  a24 := Tryz.isAgg42
  z24 := Tryz.sizeOf42
  v24 := Tryz.zeroValue42

theorem con_cutPrefix {s p : List UInt8} {r : List UInt8 × Bool} (h : F_cutPrefix s p = some r) : Con Tryz.prog 16 [.str s, .str p] (.tup [.v (.str r.1), .v (.bool r.2)]) :=
  t_cutPrefix h (fun w => Any.strings_CutPrefix lays16 (bz s) (bz p) w)
def laysRDp_ren : Go.Shelf.Ren where
  f := fun n => match n with | 174 => 33 | 247 => 48 | 245 => 49 | 287 => 63 | 279 => 64 | 280 => 65 | 281 => 66 | 282 => 67 | 321 => 81 | 322 => 82 | 316 => 83 | 171 => 85 | 205 => 84 | 243 => 96 | 246 => 68 | 283 => 86 | 284 => 87 | 285 => 88 | 286 => 89 | 129 => 98 | 317 => 97 | 318 => 99 | 319 => 100 | 320 => 101 | 337 => 104 | 338 => 105 | n => n
  t := fun n => match n with | 9 => 9 | 3 => 3 | 2 => 2 | 75 => 54 | 85 => 55 | 4 => 4 | 167 => 75 | 5 => 5 | 53 => 76 | 175 => 77 | 46 => 65 | 168 => 79 | 37 => 63 | 0 => 0 | 210 => 95 | 21 => 21 | 127 => 107 | 145 => 115 | 143 => 113 | 171 => 97 | 173 => 100 | 212 => 117 | 51 => 102 | 20 => 20 | 213 => 118 | 232 => 125 | 233 => 126 | 80 => 91 | n => n
  g := fun n => match n with | 15 => 1 | 16 => 2 | 17 => 5 | 18 => 6 | 19 => 7 | n => n
theorem laysRDp : Go.Proofs.LaysC.n174 Tryz.prog laysRDp_ren where
  mixed := by kernel_rfl
  f129 := by kernel_rfl
  f171 := by kernel_rfl
  f174 := by kernel_rfl
  f205 := by kernel_rfl
  f243 := by kernel_rfl
  f245 := by kernel_rfl
  f246 := by kernel_rfl
  f247 := by kernel_rfl
  f279 := by kernel_rfl
  f280 := by kernel_rfl
  f281 := by kernel_rfl
  f282 := by kernel_rfl
  f283 := by kernel_rfl
  f284 := by kernel_rfl
  f285 := by kernel_rfl
  f286 := by kernel_rfl
  f287 := by kernel_rfl
  f316 := by kernel_rfl
  f317 := by kernel_rfl
  f318 := by kernel_rfl
  f319 := by kernel_rfl
  f320 := by kernel_rfl
  f321 := by kernel_rfl
  f322 := by kernel_rfl
  f337 := by kernel_rfl
  f338 := by kernel_rfl
  t0 := Tryz.underlying0
  a0 := Tryz.isAgg0
  z0 := Tryz.sizeOf0
  v0 := Tryz.zeroValue0
  t2 := Tryz.underlying2
  a2 := Tryz.isAgg2
  z2 := Tryz.sizeOf2
  v2 := Tryz.zeroValue2
  t3 := Tryz.underlying3
  a3 := Tryz.isAgg3
  z3 := Tryz.sizeOf3
  v3 := Tryz.zeroValue3
  t4 := Tryz.underlying4
  a4 := Tryz.isAgg4
  z4 := Tryz.sizeOf4
  v4 := Tryz.zeroValue4
  t5 := Tryz.underlying5
  a5 := Tryz.isAgg5
  z5 := Tryz.sizeOf5
  v5 := Tryz.zeroValue5
  t9 := Tryz.underlying9
  a9 := Tryz.isAgg9
  z9 := Tryz.sizeOf9
  v9 := Tryz.zeroValue9
  t20 := Tryz.underlying20
  a20 := Tryz.isAgg20
  z20 := Tryz.sizeOf20
  v20 := Tryz.zeroValue20
  t21 := Tryz.underlying21
  a21 := Tryz.isAgg21
  z21 := Tryz.sizeOf21
  v21 := Tryz.zeroValue21
  t37 := Tryz.underlying63
  a37 := Tryz.isAgg63
  z37 := Tryz.sizeOf63
  v37 := Tryz.zeroValue63
  t46 := Tryz.underlying65
  a46 := Tryz.isAgg65
  z46 := Tryz.sizeOf65
  v46 := Tryz.zeroValue65
  t51 := Tryz.underlying102
  a51 := Tryz.isAgg102
  z51 := Tryz.sizeOf102
  v51 := Tryz.zeroValue102
  t53 := Tryz.underlying76
  a53 := Tryz.isAgg76
  z53 := Tryz.sizeOf76
  v53 := Tryz.zeroValue76
  t75 := Tryz.underlying54
  a75 := Tryz.isAgg54
  z75 := Tryz.sizeOf54
  v75 := Tryz.zeroValue54
  t85 := Tryz.underlying55
  a85 := Tryz.isAgg55
  z85 := Tryz.sizeOf55
  v85 := Tryz.zeroValue55
  t127 := Tryz.underlying107
  a127 := Tryz.isAgg107
  z127 := Tryz.sizeOf107
  v127 := Tryz.zeroValue107
  t143 := Tryz.underlying113
  a143 := Tryz.isAgg113
  z143 := Tryz.sizeOf113
  v143 := Tryz.zeroValue113
  t145 := Tryz.underlying115
  a145 := Tryz.isAgg115
  z145 := Tryz.sizeOf115
  v145 := Tryz.zeroValue115
  t167 := Tryz.underlying75
  a167 := Tryz.isAgg75
  z167 := Tryz.sizeOf75
  v167 := Tryz.zeroValue75
  t168 := Tryz.underlying79
  a168 := Tryz.isAgg79
  z168 := Tryz.sizeOf79
  v168 := Tryz.zeroValue79
  t171 := Tryz.underlying97
  a171 := Tryz.isAgg97
  z171 := Tryz.sizeOf97
  v171 := Tryz.zeroValue97
  t173 := Tryz.underlying100
  a173 := Tryz.isAgg100
  z173 := Tryz.sizeOf100
  v173 := Tryz.zeroValue100
  t175 := Tryz.underlying77
  a175 := Tryz.isAgg77
  z175 := Tryz.sizeOf77
  v175 := Tryz.zeroValue77
  t210 := Tryz.underlying95
  a210 := Tryz.isAgg95
  z210 := Tryz.sizeOf95
  v210 := Tryz.zeroValue95
  t212 := Tryz.underlying117
  a212 := Tryz.isAgg117
  z212 := Tryz.sizeOf117
  v212 := Tryz.zeroValue117
  t213 := Tryz.underlying118
  a213 := Tryz.isAgg118
  z213 := Tryz.sizeOf118
  t232 := Tryz.underlying125
  a232 := Tryz.isAgg125
  z232 := Tryz.sizeOf125
  v232 := Tryz.zeroValue125
  t233 := Tryz.underlying126
  a233 := Tryz.isAgg126
  z233 := Tryz.sizeOf126
  v233 := Tryz.zeroValue126
  g15 := by kernel_rfl
  g16 := by kernel_rfl
  g17 := by kernel_rfl
  g18 := by kernel_rfl
  g19 := by kernel_rfl
  t80 := Tryz.underlying91
  a80 := Tryz.isAgg91
  z80 := Tryz.sizeOf91
  v80 := Tryz.zeroValue91
  i0 := by kernel_rfl
  i2 := by kernel_rfl
  i3 := by kernel_rfl
  i4 := by kernel_rfl
  i5 := by kernel_rfl
  i9 := by kernel_rfl
  i20 := by kernel_rfl
  i21 := by kernel_rfl
  i37 := by kernel_rfl
  i46 := by kernel_rfl
  i51 := by kernel_rfl
  i53 := by kernel_rfl
  i75 := by kernel_rfl
  i80 := by kernel_rfl
  i85 := by kernel_rfl
  i127 := by kernel_rfl
  i143 := by kernel_rfl
  i145 := by kernel_rfl
  i167 := by kernel_rfl
  i168 := by kernel_rfl
  i171 := by kernel_rfl
  i173 := by kernel_rfl
  i175 := by kernel_rfl
  i210 := by kernel_rfl
  i212 := by kernel_rfl
  i232 := by kernel_rfl
  i233 := by kernel_rfl
  m15 := by kernel_rfl
  m16 := by kernel_rfl
  m17 := by kernel_rfl
  m18 := by kernel_rfl
  m19 := by kernel_rfl
  c0 := by kernel_rfl
  c2 := by kernel_rfl
  c3 := by kernel_rfl
  c4 := by kernel_rfl
  c5 := by kernel_rfl
  c9 := by kernel_rfl
  c20 := by kernel_rfl
  c21 := by kernel_rfl
  c37 := by kernel_rfl
  c46 := by kernel_rfl
  c51 := by kernel_rfl
  c53 := by kernel_rfl
  c75 := by kernel_rfl
  c80 := by kernel_rfl
  c85 := by kernel_rfl
  c127 := by kernel_rfl
  c143 := by kernel_rfl
  c145 := by kernel_rfl
  c167 := by kernel_rfl
  c168 := by kernel_rfl
  c171 := by kernel_rfl
  c173 := by kernel_rfl
  c175 := by kernel_rfl
  c210 := by kernel_rfl
  c212 := by kernel_rfl
  c213 := by kernel_rfl
  c232 := by kernel_rfl
  c233 := by kernel_rfl

def laysRDf_ren : Go.Shelf.Ren where
  f := fun n => match n with | 173 => 51 | 246 => 68 | 283 => 86 | 284 => 87 | 285 => 88 | 286 => 89 | 129 => 98 | 317 => 97 | 318 => 99 | 319 => 100 | 320 => 101 | 337 => 104 | 338 => 105 | n => n
  t := fun n => match n with | 2 => 2 | 3 => 3 | 9 => 9 | 4 => 4 | 171 => 97 | 0 => 0 | 53 => 76 | 37 => 63 | 5 => 5 | 173 => 100 | 212 => 117 | 51 => 102 | 20 => 20 | 213 => 118 | 46 => 65 | 232 => 125 | 233 => 126 | n => n
  g := fun n => match n with | 17 => 5 | 18 => 6 | 19 => 7 | n => n
theorem laysRDf : Go.Proofs.LaysM.n173 Tryz.prog laysRDf_ren where
  mixed := by kernel_rfl
  f129 := by kernel_rfl
  f173 := by kernel_rfl
  f246 := by kernel_rfl
  f283 := by kernel_rfl
  f284 := by kernel_rfl
  f285 := by kernel_rfl
  f286 := by kernel_rfl
  f317 := by kernel_rfl
  f318 := by kernel_rfl
  f319 := by kernel_rfl
  f320 := by kernel_rfl
  f337 := by kernel_rfl
  f338 := by kernel_rfl
  t0 := Tryz.underlying0
  a0 := Tryz.isAgg0
  z0 := Tryz.sizeOf0
  v0 := Tryz.zeroValue0
  t2 := Tryz.underlying2
  a2 := Tryz.isAgg2
  z2 := Tryz.sizeOf2
  v2 := Tryz.zeroValue2
  t3 := Tryz.underlying3
  a3 := Tryz.isAgg3
  z3 := Tryz.sizeOf3
  v3 := Tryz.zeroValue3
  t4 := Tryz.underlying4
  a4 := Tryz.isAgg4
  z4 := Tryz.sizeOf4
  v4 := Tryz.zeroValue4
  t5 := Tryz.underlying5
  a5 := Tryz.isAgg5
  z5 := Tryz.sizeOf5
  v5 := Tryz.zeroValue5
  t9 := Tryz.underlying9
  a9 := Tryz.isAgg9
  z9 := Tryz.sizeOf9
  v9 := Tryz.zeroValue9
  t20 := Tryz.underlying20
  a20 := Tryz.isAgg20
  z20 := Tryz.sizeOf20
  v20 := Tryz.zeroValue20
  t37 := Tryz.underlying63
  a37 := Tryz.isAgg63
  z37 := Tryz.sizeOf63
  v37 := Tryz.zeroValue63
  t46 := Tryz.underlying65
  a46 := Tryz.isAgg65
  z46 := Tryz.sizeOf65
  v46 := Tryz.zeroValue65
  t51 := Tryz.underlying102
  a51 := Tryz.isAgg102
  z51 := Tryz.sizeOf102
  v51 := Tryz.zeroValue102
  t53 := Tryz.underlying76
  a53 := Tryz.isAgg76
  z53 := Tryz.sizeOf76
  v53 := Tryz.zeroValue76
  t171 := Tryz.underlying97
  a171 := Tryz.isAgg97
  z171 := Tryz.sizeOf97
  v171 := Tryz.zeroValue97
  t173 := Tryz.underlying100
  a173 := Tryz.isAgg100
  z173 := Tryz.sizeOf100
  v173 := Tryz.zeroValue100
  t212 := Tryz.underlying117
  a212 := Tryz.isAgg117
  z212 := Tryz.sizeOf117
  v212 := Tryz.zeroValue117
  t213 := Tryz.underlying118
  a213 := Tryz.isAgg118
  z213 := Tryz.sizeOf118
  t232 := Tryz.underlying125
  a232 := Tryz.isAgg125
  z232 := Tryz.sizeOf125
  v232 := Tryz.zeroValue125
  t233 := Tryz.underlying126
  a233 := Tryz.isAgg126
  z233 := Tryz.sizeOf126
  v233 := Tryz.zeroValue126
  g17 := by kernel_rfl
  g18 := by kernel_rfl
  g19 := by kernel_rfl
  i0 := by kernel_rfl
  i2 := by kernel_rfl
  i3 := by kernel_rfl
  i4 := by kernel_rfl
  i5 := by kernel_rfl
  i9 := by kernel_rfl
  i20 := by kernel_rfl
  i37 := by kernel_rfl
  i46 := by kernel_rfl
  i51 := by kernel_rfl
  i53 := by kernel_rfl
  i171 := by kernel_rfl
  i173 := by kernel_rfl
  i212 := by kernel_rfl
  i232 := by kernel_rfl
  i233 := by kernel_rfl
  m17 := by kernel_rfl
  m18 := by kernel_rfl
  m19 := by kernel_rfl

def laysRDt_ren : Go.Shelf.Ren where
  f := fun n => match n with | 101 => 34 | 208 => 50 | 206 => 47 | n => n
  t := fun n => match n with | 9 => 9 | 4 => 4 | 3 => 3 | n => n
  g := fun n => n
theorem laysRDt : Go.Proofs.Lays.n101 Tryz.prog laysRDt_ren where
  mixed := by kernel_rfl
  f101 := by kernel_rfl
  f206 := by kernel_rfl
  f208 := by kernel_rfl
  t3 := Tryz.underlying3
  a3 := Tryz.isAgg3
  z3 := Tryz.sizeOf3
  v3 := Tryz.zeroValue3
  t4 := Tryz.underlying4
  a4 := Tryz.isAgg4
  z4 := Tryz.sizeOf4
  v4 := Tryz.zeroValue4
  t9 := Tryz.underlying9
  a9 := Tryz.isAgg9
  z9 := Tryz.sizeOf9
  v9 := Tryz.zeroValue9

theorem rd_ok (s : ByteArray) (hmax : s.size ≤ 9223372036854775806) (v : Int) (h : Go.Lib.parseIntB 64 s.data.toList = .ok v) (w : World) :
    Calls Tryz.prog 33 #[.string s, .int .i64 10, .int .i64 64] w fun e w' => e = .returned (.tuple #[.int .i64 v, .nilIface]) ∧ Below w.heap.size w w' :=
  (show Calls Tryz.prog 33 _ w _ from Any.strconv_ParseInt_10_at64_ok laysRDp s hmax v h w).mono fun e w' ⟨he, hw⟩ => ⟨he, by rcases hw with rfl | ⟨t, rfl⟩; exact Below.refl _ _; exact Go.Lib.bytesWorld_below _ _ _⟩
theorem rd_syntax (s : ByteArray) (hlim : s.size ≤ 281474976710656) (h : Go.Lib.parseIntB 64 s.data.toList = .«syntax») (ev : Value) (w : World) (hv : w.cell? ⟨1, 0, none⟩ = some ev) (hev : ev = .nilIface ∨ ∃ te pe, ev = .iface te pe) :
    Calls Tryz.prog 33 #[.string s, .int .i64 10, .int .i64 64] w fun e w' => ∃ T N, e = .returned (.tuple #[.int .i64 0, .iface T (.pointer (some ⟨N, 0, none⟩))]) ∧ Below w.heap.size w w' :=
  (show Calls Tryz.prog 33 _ w _ from Any.strconv_ParseInt_10_at64_syntax laysRDp s hlim h ev w hv hev).mono fun e w' ⟨N, he, _, _, hb⟩ => ⟨_, N, he, hb⟩
theorem rd_range (s : ByteArray) (hlim : s.size ≤ 281474976710656) (h : Go.Lib.parseIntB 64 s.data.toList = .range) (ev : Value) (w : World) (hv : w.cell? ⟨2, 0, none⟩ = some ev) (hev : ev = .nilIface ∨ ∃ te pe, ev = .iface te pe) :
    Calls Tryz.prog 33 #[.string s, .int .i64 10, .int .i64 64] w fun e w' => ∃ T N n, e = .returned (.tuple #[.int .i64 n, .iface T (.pointer (some ⟨N, 0, none⟩))]) ∧ Below w.heap.size w w' :=
  (show Calls Tryz.prog 33 _ w _ from Any.strconv_ParseInt_10_at64_range laysRDp s hlim h ev w hv hev).mono fun e w' ⟨N, he, _, _, hb⟩ => ⟨_, N, _, he, hb⟩
theorem rd_dec (n : Int) (h0 : -9223372036854775808 ≤ n) (h1 : n ≤ 9223372036854775807) (w : World) (hq : ∃ ty fz, w.heap[5]? = some (.cells (Go.Lib.pow10Tab.map fun z => Value.int .u64 z).toArray ty fz)) :
    Calls Tryz.prog 35 #[.int .i64 n] w fun e w' => e = .returned (.string ⟨(Go.Lib.itoa n).toArray⟩) ∧ Below w.heap.size w w' := by
  have hc : Calls Tryz.prog 51 #[.int .i64 n, .int .i64 10] w fun e w' => e = .returned (.string ⟨(Go.Lib.itoa n).toArray⟩) ∧ Below w.heap.size w w' :=
    (show Calls Tryz.prog 51 _ w _ from Any.strconv_FormatInt_10 laysRDf n h0 h1 w (by obtain ⟨ty, fz, e⟩ := hq; unfold Go.Lib.TabIs World.var?; rw [show Tryz.prog.globalNamed "internal/strconv.uint64pow10" = some 5 by kernel_rfl, Option.bind_some, e])).mono fun e w' ⟨he, k, os, hw⟩ => ⟨he, by subst hw; exact below_grow _ _ _⟩
  go_enter Tryz.func35, Tryz.ntmps35
  go_wp2_with (go_at_call 51; refine hc.mono ?_; rintro e W1 ⟨rfl, hb⟩)
  go_ret
  exact ⟨rfl, hb⟩
theorem rd_trim (s p : ByteArray) (w : World) : Calls Tryz.prog 34 #[.string s, .string p] w fun e w' => e = .returned (.string ⟨(Go.Lib.trimPrefix s.data.toList p.data.toList).toArray⟩) ∧ w' = w := Any.strings_TrimPrefix laysRDt s p w
theorem rd_rng {l : List UInt8} {v : Int} (h : Go.Lib.parseIntB 64 l = .ok v) : -9223372036854775808 ≤ v ∧ v ≤ 9223372036854775807 := by
  unfold Go.Lib.parseIntB at h
  split at h
  · cases h
  · dsimp only at h
    split at h
    · cases h
    · cases h
    · split at h
      · cases h
      · split at h
        · cases h
        · rename_i h1 h2
          simp only [Go.Lib.NumEnd.ok.injEq] at h
          subst h
          split
          · rename_i hn
            have := fun h3 => h2 ⟨hn, h3⟩
            omega
          · rename_i hn
            have := fun h3 => h1 ⟨hn, h3⟩
            omega
set_option maxRecDepth 100000 in
theorem rd_all (s : ByteArray) (hs : s.size ≤ 281474976710656) (w : World) (hq : TabQ w) :
    Calls Tryz.prog 17 #[.string s] w fun e w' => e = .returned (.tuple #[.int .i64 (readDec s.data.toList).1, .bool (readDec s.data.toList).2]) ∧ Below w.heap.size w w' := by
  cases h : Go.Lib.parseIntB 64 s.data.toList with
  | «syntax» =>
    have hr : readDec s.data.toList = (0, false) := by simp only [readDec, h]
    rw [hr]
    obtain ⟨ev, hv, he⟩ := hq.es
    go_enter Tryz.func17, Tryz.ntmps17
    go_wp2_with (go_at_call 33; refine (rd_syntax s hs h ev _ ?_ he).mono ?_)
    · exact hv
    rintro e W1 ⟨T, N, rfl, hb⟩
    go_wp2
    go_ret2
    exact ⟨rfl, hb⟩
  | range =>
    have hr : readDec s.data.toList = (0, false) := by simp only [readDec, h]
    rw [hr]
    obtain ⟨ev, hv, he⟩ := hq.er
    go_enter Tryz.func17, Tryz.ntmps17
    go_wp2_with (go_at_call 33; refine (rd_range s hs h ev _ ?_ he).mono ?_)
    · exact hv
    rintro e W1 ⟨T, N, n, rfl, hb⟩
    go_wp2
    go_ret2
    exact ⟨rfl, hb⟩
  | ok v =>
    obtain ⟨v0, v1⟩ := rd_rng h
    have hr : readDec s.data.toList = if 18 < (Go.Lib.trimPrefix s.data.toList [45]).length ∨ Go.Lib.itoa v ≠ s.data.toList then (0, false) else (v, true) := by simp only [readDec, h]
    rw [hr]
    obtain ⟨ty, fz, hp⟩ := hq.pow
    have hpl := (Array.getElem?_eq_some_iff.1 hp).1
    have hlen : ((⟨(Go.Lib.trimPrefix s.data.toList [45]).toArray⟩ : ByteArray).size : Int) = ((Go.Lib.trimPrefix s.data.toList [45]).length : Int) := by simp [ByteArray.size]
    have heq : ((⟨(Go.Lib.itoa v).toArray⟩ : ByteArray) = s) ↔ Go.Lib.itoa v = s.data.toList := by
      constructor
      · rintro rfl; simp
      · intro e; rw [e]
    by_cases h18 : 18 < (Go.Lib.trimPrefix s.data.toList [45]).length
    · rw [if_pos (Or.inl h18)]
      go_enter Tryz.func17, Tryz.ntmps17
      go_wp2_with (go_at_call 33; refine (rd_ok s (by omega) v h _).mono ?_; rintro e W1 ⟨rfl, hb⟩)
      go_wp2_with (go_at_call 34; refine (rd_trim s ⟨#[45]⟩ _).mono ?_; rintro e W2 ⟨rfl, rfl⟩)
      have hd : decide (((⟨(Go.Lib.trimPrefix s.data.toList [45]).toArray⟩ : ByteArray).size : Int) > 18) = true := decide_eq_true (by omega)
      go_wp2
      go_ret2
      exact ⟨rfl, hb⟩
    · by_cases he : Go.Lib.itoa v = s.data.toList
      · rw [if_neg (by simp [h18, he])]
        have hd2 : (⟨(Go.Lib.itoa v).toArray⟩ : ByteArray) = s := heq.2 he
        go_enter Tryz.func17, Tryz.ntmps17
        go_wp2_with (go_at_call 33; refine (rd_ok s (by omega) v h _).mono ?_; rintro e W1 ⟨rfl, hb⟩)
        go_wp2_with (go_at_call 34; refine (rd_trim s ⟨#[45]⟩ _).mono ?_; rintro e W2 ⟨rfl, rfl⟩)
        have hd : decide (((⟨(Go.Lib.trimPrefix s.data.toList [45]).toArray⟩ : ByteArray).size : Int) > 18) = false := decide_eq_false (by omega)
        go_wp2_with (go_at_call 35; refine (rd_dec v v0 v1 _ ⟨ty, fz, (hb.block 5 hpl).trans hp⟩).mono ?_; rintro e W2 ⟨rfl, hb2⟩)
        go_wp2
        go_ret2
        exact ⟨rfl, hb.trans (hb2.mono hb.size)⟩
      · rw [if_pos (Or.inr he)]
        have hd2 : ¬ (⟨(Go.Lib.itoa v).toArray⟩ : ByteArray) = s := fun e => he (heq.1 e)
        go_enter Tryz.func17, Tryz.ntmps17
        go_wp2_with (go_at_call 33; refine (rd_ok s (by omega) v h _).mono ?_; rintro e W1 ⟨rfl, hb⟩)
        go_wp2_with (go_at_call 34; refine (rd_trim s ⟨#[45]⟩ _).mono ?_; rintro e W2 ⟨rfl, rfl⟩)
        have hd : decide (((⟨(Go.Lib.trimPrefix s.data.toList [45]).toArray⟩ : ByteArray).size : Int) > 18) = false := decide_eq_false (by omega)
        go_wp2_with (go_at_call 35; refine (rd_dec v v0 v1 _ ⟨ty, fz, (hb.block 5 hpl).trans hp⟩).mono ?_; rintro e W2 ⟨rfl, hb2⟩)
        go_wp2
        · go_ret2
          exact ⟨rfl, hb.trans (hb2.mono hb.size)⟩
        · exfalso
          rename_i hx
          have h3 : Go.Lib.itoa v = s.toList := by simpa using hx.2
          exact he (h3.trans (by rw [ByteArray.toList_eq]))
theorem con_readDec {s : List UInt8} {r : Int × Bool} (h : F_readDec s = some r) : Con Tryz.prog 17 [.str s] (.tup [.v (.int .i64 r.1), .v (.bool r.2)]) := by
  obtain ⟨hs, h2⟩ := need_some h
  cases h2
  refine con_pure _ (rv_t2 (rep_int _) (rep_bool _)) ?_
  intro w D vs hD ha
  have := args_sc (l := [.str s]) ha
  subst this
  have := rd_all (bz s) (by simpa using hs) w hD.tabs.q
  rw [bz_data] at this
  exact this

def lays37_ren : Go.Shelf.Ren where
  f := fun n => match n with | 145 => 37 | 220 => 54 | 219 => 62 | 217 => 77 | 225 => 78 | 224 => 79 | 267 => 80 | 266 => 94 | 314 => 95 | n => n
  t := fun n => match n with | 9 => 9 | 4 => 4 | 59 => 58 | 3 => 3 | 5 => 5 | 46 => 65 | 146 => 103 | 51 => 102 | n => n
  g := fun n => match n with | 1 => 0 | n => n
theorem lays37 : Go.Proofs.Lays.n145 Tryz.prog lays37_ren where
  mixed := by kernel_rfl
  f145 := by kernel_rfl
  f217 := by kernel_rfl
  f219 := by kernel_rfl
  f220 := by kernel_rfl
  f224 := by kernel_rfl
  f225 := by kernel_rfl
  f266 := by kernel_rfl
  f267 := by kernel_rfl
  f314 := by kernel_rfl
  t3 := Tryz.underlying3
  a3 := Tryz.isAgg3
  z3 := Tryz.sizeOf3
  v3 := Tryz.zeroValue3
  t4 := Tryz.underlying4
  a4 := Tryz.isAgg4
  z4 := Tryz.sizeOf4
  v4 := Tryz.zeroValue4
  t5 := Tryz.underlying5
  a5 := Tryz.isAgg5
  z5 := Tryz.sizeOf5
  v5 := Tryz.zeroValue5
  t9 := Tryz.underlying9
  a9 := Tryz.isAgg9
  z9 := Tryz.sizeOf9
  v9 := Tryz.zeroValue9
  t46 := Tryz.underlying65
  a46 := Tryz.isAgg65
  z46 := Tryz.sizeOf65
  v46 := Tryz.zeroValue65
  t51 := Tryz.underlying102
  a51 := Tryz.isAgg102
  z51 := Tryz.sizeOf102
  v51 := Tryz.zeroValue102
  t59 := Tryz.underlying58
  a59 := Tryz.isAgg58
  z59 := Tryz.sizeOf58
  v59 := Tryz.zeroValue58
  t146 := Tryz.underlying103
  a146 := Tryz.isAgg103
  z146 := Tryz.sizeOf103
  v146 := Tryz.zeroValue103
  g1 := by kernel_rfl

theorem con_cut {s sep : List UInt8} {r : List UInt8 × List UInt8 × Bool} (h : F_cut s sep = some r) : Con Tryz.prog 37 [.str s, .str sep] (.tup [.v (.str r.1), .v (.str r.2.1), .v (.bool r.2.2)]) :=
  t_cut h (fun w hq h1 => by obtain ⟨m, hm⟩ := hq.mx; exact Any.strings_Cut lays37 (bz s) (bz sep) m w h1 hm)
def lays51_ren : Go.Shelf.Ren where
  f := fun n => match n with | 173 => 51 | 246 => 68 | 283 => 86 | 284 => 87 | 285 => 88 | 286 => 89 | 129 => 98 | 317 => 97 | 318 => 99 | 319 => 100 | 320 => 101 | 337 => 104 | 338 => 105 | n => n
  t := fun n => match n with | 2 => 2 | 3 => 3 | 9 => 9 | 4 => 4 | 171 => 97 | 0 => 0 | 53 => 76 | 37 => 63 | 5 => 5 | 173 => 100 | 212 => 117 | 51 => 102 | 20 => 20 | 213 => 118 | 46 => 65 | 232 => 125 | 233 => 126 | n => n
  g := fun n => match n with | 17 => 5 | 18 => 6 | 19 => 7 | n => n
theorem lays51 : Go.Proofs.LaysM.n173 Tryz.prog lays51_ren where
  mixed := by kernel_rfl
  f129 := by kernel_rfl
  f173 := by kernel_rfl
  f246 := by kernel_rfl
  f283 := by kernel_rfl
  f284 := by kernel_rfl
  f285 := by kernel_rfl
  f286 := by kernel_rfl
  f317 := by kernel_rfl
  f318 := by kernel_rfl
  f319 := by kernel_rfl
  f320 := by kernel_rfl
  f337 := by kernel_rfl
  f338 := by kernel_rfl
  t0 := Tryz.underlying0
  a0 := Tryz.isAgg0
  z0 := Tryz.sizeOf0
  v0 := Tryz.zeroValue0
  t2 := Tryz.underlying2
  a2 := Tryz.isAgg2
  z2 := Tryz.sizeOf2
  v2 := Tryz.zeroValue2
  t3 := Tryz.underlying3
  a3 := Tryz.isAgg3
  z3 := Tryz.sizeOf3
  v3 := Tryz.zeroValue3
  t4 := Tryz.underlying4
  a4 := Tryz.isAgg4
  z4 := Tryz.sizeOf4
  v4 := Tryz.zeroValue4
  t5 := Tryz.underlying5
  a5 := Tryz.isAgg5
  z5 := Tryz.sizeOf5
  v5 := Tryz.zeroValue5
  t9 := Tryz.underlying9
  a9 := Tryz.isAgg9
  z9 := Tryz.sizeOf9
  v9 := Tryz.zeroValue9
  t20 := Tryz.underlying20
  a20 := Tryz.isAgg20
  z20 := Tryz.sizeOf20
  v20 := Tryz.zeroValue20
  t37 := Tryz.underlying63
  a37 := Tryz.isAgg63
  z37 := Tryz.sizeOf63
  v37 := Tryz.zeroValue63
  t46 := Tryz.underlying65
  a46 := Tryz.isAgg65
  z46 := Tryz.sizeOf65
  v46 := Tryz.zeroValue65
  t51 := Tryz.underlying102
  a51 := Tryz.isAgg102
  z51 := Tryz.sizeOf102
  v51 := Tryz.zeroValue102
  t53 := Tryz.underlying76
  a53 := Tryz.isAgg76
  z53 := Tryz.sizeOf76
  v53 := Tryz.zeroValue76
  t171 := Tryz.underlying97
  a171 := Tryz.isAgg97
  z171 := Tryz.sizeOf97
  v171 := Tryz.zeroValue97
  t173 := Tryz.underlying100
  a173 := Tryz.isAgg100
  z173 := Tryz.sizeOf100
  v173 := Tryz.zeroValue100
  t212 := Tryz.underlying117
  a212 := Tryz.isAgg117
  z212 := Tryz.sizeOf117
  v212 := Tryz.zeroValue117
  t213 := Tryz.underlying118
  a213 := Tryz.isAgg118
  z213 := Tryz.sizeOf118
  t232 := Tryz.underlying125
  a232 := Tryz.isAgg125
  z232 := Tryz.sizeOf125
  v232 := Tryz.zeroValue125
  t233 := Tryz.underlying126
  a233 := Tryz.isAgg126
  z233 := Tryz.sizeOf126
  v233 := Tryz.zeroValue126
  g17 := by kernel_rfl
  g18 := by kernel_rfl
  g19 := by kernel_rfl
  i0 := by kernel_rfl
  i2 := by kernel_rfl
  i3 := by kernel_rfl
  i4 := by kernel_rfl
  i5 := by kernel_rfl
  i9 := by kernel_rfl
  i20 := by kernel_rfl
  i37 := by kernel_rfl
  i46 := by kernel_rfl
  i51 := by kernel_rfl
  i53 := by kernel_rfl
  i171 := by kernel_rfl
  i173 := by kernel_rfl
  i212 := by kernel_rfl
  i232 := by kernel_rfl
  i233 := by kernel_rfl
  m17 := by kernel_rfl
  m18 := by kernel_rfl
  m19 := by kernel_rfl

theorem con_formatInt {n b : Int} {r : List UInt8} (h : F_formatInt n b = some r) : Con Tryz.prog 51 [.int .i64 n, .int .i64 b] (.v (.str r)) := t_formatInt h (fun w hq h0 h1 => Any.strconv_FormatInt_10 lays51 n h0 h1 w (by obtain ⟨ty, fz, e⟩ := hq.pow; unfold Go.Lib.TabIs World.var?; rw [show Tryz.prog.globalNamed "internal/strconv.uint64pow10" = some 5 by kernel_rfl, Option.bind_some, e]))
def lays53_ren : Go.Shelf.Ren where
  f := fun n => match n with | 105 => 53 | 212 => 69 | 99 => 70 | 165 => 71 | 166 => 72 | 170 => 73 | 169 => 74 | 263 => 90 | 264 => 91 | 206 => 47 | 240 => 92 | 241 => 93 | 276 => 102 | 277 => 103 | n => n
  t := fun n => match n with | 9 => 9 | 3 => 3 | 4 => 4 | 20 => 20 | 0 => 0 | 46 => 65 | 109 => 82 | 5 => 5 | 72 => 86 | 76 => 88 | 51 => 102 | 146 => 103 | 53 => 76 | 148 => 105 | 70 => 84 | 37 => 63 | 75 => 54 | 127 => 107 | 164 => 121 | 80 => 91 | n => n
  g := fun n => n
theorem lays53 : Go.Proofs.Lays.n105 Tryz.prog lays53_ren where
  mixed := by kernel_rfl
  f99 := by kernel_rfl
  f105 := by kernel_rfl
  f165 := by kernel_rfl
  f166 := by kernel_rfl
  f169 := by kernel_rfl
  f170 := by kernel_rfl
  f206 := by kernel_rfl
  f212 := by kernel_rfl
  f240 := by kernel_rfl
  f241 := by kernel_rfl
  f263 := by kernel_rfl
  f264 := by kernel_rfl
  f276 := by kernel_rfl
  f277 := by kernel_rfl
  t0 := Tryz.underlying0
  a0 := Tryz.isAgg0
  z0 := Tryz.sizeOf0
  v0 := Tryz.zeroValue0
  t3 := Tryz.underlying3
  a3 := Tryz.isAgg3
  z3 := Tryz.sizeOf3
  v3 := Tryz.zeroValue3
  t4 := Tryz.underlying4
  a4 := Tryz.isAgg4
  z4 := Tryz.sizeOf4
  v4 := Tryz.zeroValue4
  t5 := Tryz.underlying5
  a5 := Tryz.isAgg5
  z5 := Tryz.sizeOf5
  v5 := Tryz.zeroValue5
  t9 := Tryz.underlying9
  a9 := Tryz.isAgg9
  z9 := Tryz.sizeOf9
  v9 := Tryz.zeroValue9
  t20 := Tryz.underlying20
  a20 := Tryz.isAgg20
  z20 := Tryz.sizeOf20
  v20 := Tryz.zeroValue20
  t37 := Tryz.underlying63
  a37 := Tryz.isAgg63
  z37 := Tryz.sizeOf63
  v37 := Tryz.zeroValue63
  t46 := Tryz.underlying65
  a46 := Tryz.isAgg65
  z46 := Tryz.sizeOf65
  v46 := Tryz.zeroValue65
  t51 := Tryz.underlying102
  a51 := Tryz.isAgg102
  z51 := Tryz.sizeOf102
  v51 := Tryz.zeroValue102
  t53 := Tryz.underlying76
  a53 := Tryz.isAgg76
  z53 := Tryz.sizeOf76
  v53 := Tryz.zeroValue76
  t70 := Tryz.underlying84
  a70 := Tryz.isAgg84
  z70 := Tryz.sizeOf84
  v70 := Tryz.zeroValue84
  t72 := Tryz.underlying86
  a72 := Tryz.isAgg86
  z72 := Tryz.sizeOf86
  v72 := Tryz.zeroValue86
  t75 := Tryz.underlying54
  a75 := Tryz.isAgg54
  z75 := Tryz.sizeOf54
  v75 := Tryz.zeroValue54
  t76 := Tryz.underlying88
  a76 := Tryz.isAgg88
  z76 := Tryz.sizeOf88
  v76 := Tryz.zeroValue88
  t109 := Tryz.underlying82
  a109 := Tryz.isAgg82
  z109 := Tryz.sizeOf82
  v109 := Tryz.zeroValue82
  t127 := Tryz.underlying107
  a127 := Tryz.isAgg107
  z127 := Tryz.sizeOf107
  v127 := Tryz.zeroValue107
  t146 := Tryz.underlying103
  a146 := Tryz.isAgg103
  z146 := Tryz.sizeOf103
  v146 := Tryz.zeroValue103
  t148 := Tryz.underlying105
  a148 := Tryz.isAgg105
  z148 := Tryz.sizeOf105
  v148 := Tryz.zeroValue105
  t164 := Tryz.underlying121
  a164 := Tryz.isAgg121
  z164 := Tryz.sizeOf121
  v164 := Tryz.zeroValue121
theorem lays53_x : Go.Proofs.Builder.Extra Tryz.prog lays53_ren where
  sizeBuilder := by kernel_rfl
  liesBuilder := by kernel_rfl
  t5 := Tryz.underlying5
  a5 := Tryz.isAgg5
  z5 := Tryz.sizeOf5
  v5 := Tryz.zeroValue5
  infoByte := by kernel_rfl
  cellsByte := by kernel_rfl
  sizeByte := by kernel_rfl
  neB5 := by decide

theorem con_repeat {s r : List UInt8} {c : Int} (h : F_repeat s c = some r) : Con Tryz.prog 53 [.str s, .int .i64 c] (.v (.str r)) :=
  t_repeat h (fun w c h1 h2 => Any.strings_Repeat lays53 lays53_x (bz s) c w h1 h2)
end Go.Ab
