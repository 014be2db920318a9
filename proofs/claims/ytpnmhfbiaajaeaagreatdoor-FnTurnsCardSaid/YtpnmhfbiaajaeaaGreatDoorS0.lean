/- Contracts of the library's functions at this program (printed by spec.py, own program; the structures lay the kit's shelf). -/
import Derived.Test.YtpnmhfbiaajaeaaGreatDoorGS
import Derived.Test.YtpnmhfbiaajaeaaGreatDoorGT
import Derived.Test.YtpnmhfbiaajaeaaGreatDoorProg
import Derived.KernelRfl
import Derived.WalkKit
import Derived.Shelf.Lays
import Derived.Shelf.Strings.Cut
import Derived.Shelf.LaysC
import Derived.Shelf.LaysM
import Derived.Shelf.Strconv.ParseIntPublic10
import Derived.Shelf.Strconv.Itoa4
import Derived.Shelf.Strings.Prefix
import Derived.BigCall
import Derived.Lib.AtoiErrMem
import Derived.Shelf.SortM.Plain
import Derived.Shelf.SortM.SortNone
import Derived.Shelf.SlicesE.Compact
set_option linter.unusedVariables false
set_option linter.unusedSimpArgs false
set_option maxHeartbeats 4000000
namespace Go.Ab
open Go.RowKit Go.Proofs Go.Sort
def lays19_ren : Go.Shelf.Ren where
  f := fun n => match n with | 145 => 19 | 220 => 30 | 219 => 44 | 217 => 57 | 225 => 58 | 224 => 59 | 267 => 60 | 266 => 82 | 314 => 83 | n => n
  t := fun n => match n with | 9 => 9 | 4 => 4 | 59 => 46 | 3 => 3 | 5 => 5 | 46 => 80 | 146 => 110 | 51 => 109 | n => n
  g := fun n => match n with | 1 => 0 | n => n
theorem lays19 : Go.Proofs.Lays.n145 Tryz.prog lays19_ren where
  mixed := by kernel_rfl
  f145 := by kernel_rfl
  f217 := by kernel_rfl
  f219 := by kernel_rfl
  f220 := by kernel_rfl
  f224 := by kernel_rfl
  f225 := by kernel_rfl
  f266 := by kernel_rfl
  f267 := by kernel_rfl
  f314 := by kernel_rfl
  t3 := Tryz.underlying3
  a3 := Tryz.isAgg3
  z3 := Tryz.sizeOf3
  v3 := Tryz.zeroValue3
  t4 := Tryz.underlying4
  a4 := Tryz.isAgg4
  z4 := Tryz.sizeOf4
  v4 := Tryz.zeroValue4
  t5 := Tryz.underlying5
  a5 := Tryz.isAgg5
  z5 := Tryz.sizeOf5
  v5 := Tryz.zeroValue5
  t9 := Tryz.underlying9
  a9 := Tryz.isAgg9
  z9 := Tryz.sizeOf9
  v9 := Tryz.zeroValue9
  t46 := Tryz.underlying80
  a46 := Tryz.isAgg80
  z46 := Tryz.sizeOf80
  v46 := Tryz.zeroValue80
  t51 := Tryz.underlying109
  a51 := Tryz.isAgg109
  z51 := Tryz.sizeOf109
  v51 := Tryz.zeroValue109
  t59 := Tryz.underlying46
  a59 := Tryz.isAgg46
  z59 := Tryz.sizeOf46
  v59 := Tryz.zeroValue46
  t146 := Tryz.underlying110
  a146 := Tryz.isAgg110
  z146 := Tryz.sizeOf110
  v146 := Tryz.zeroValue110
  g1 := by kernel_rfl

theorem con_cut {s sep : List UInt8} {r : List UInt8 × List UInt8 × Bool} (h : F_cut s sep = some r) : Con Tryz.prog 19 [.str s, .str sep] (.tup [.v (.str r.1), .v (.str r.2.1), .v (.bool r.2.2)]) :=
  t_cut h (fun w hq h1 => by obtain ⟨m, hm⟩ := hq.mx; exact Any.strings_Cut lays19 (bz s) (bz sep) m w h1 hm)
def laysRDp_ren : Go.Shelf.Ren where
  f := fun n => match n with | 174 => 31 | 247 => 45 | 245 => 46 | 287 => 61 | 279 => 62 | 280 => 63 | 281 => 64 | 282 => 65 | 321 => 84 | 322 => 85 | 316 => 86 | 171 => 88 | 205 => 87 | 243 => 98 | 246 => 48 | 283 => 67 | 284 => 68 | 285 => 69 | 286 => 70 | 129 => 81 | 317 => 89 | 318 => 90 | 319 => 91 | 320 => 92 | 337 => 99 | 338 => 100 | n => n
  t := fun n => match n with | 9 => 9 | 3 => 3 | 2 => 2 | 75 => 61 | 85 => 62 | 4 => 4 | 167 => 87 | 5 => 5 | 53 => 68 | 175 => 88 | 46 => 80 | 168 => 90 | 37 => 22 | 0 => 0 | 210 => 115 | 21 => 21 | 127 => 127 | 145 => 130 | 143 => 128 | 171 => 95 | 173 => 98 | 212 => 118 | 51 => 109 | 20 => 20 | 213 => 119 | 232 => 134 | 233 => 135 | 80 => 136 | n => n
  g := fun n => match n with | 15 => 1 | 16 => 2 | 17 => 3 | 18 => 4 | 19 => 5 | n => n
theorem laysRDp : Go.Proofs.LaysC.n174 Tryz.prog laysRDp_ren where
  mixed := by kernel_rfl
  f129 := by kernel_rfl
  f171 := by kernel_rfl
  f174 := by kernel_rfl
  f205 := by kernel_rfl
  f243 := by kernel_rfl
  f245 := by kernel_rfl
  f246 := by kernel_rfl
  f247 := by kernel_rfl
  f279 := by kernel_rfl
  f280 := by kernel_rfl
  f281 := by kernel_rfl
  f282 := by kernel_rfl
  f283 := by kernel_rfl
  f284 := by kernel_rfl
  f285 := by kernel_rfl
  f286 := by kernel_rfl
  f287 := by kernel_rfl
  f316 := by kernel_rfl
  f317 := by kernel_rfl
  f318 := by kernel_rfl
  f319 := by kernel_rfl
  f320 := by kernel_rfl
  f321 := by kernel_rfl
  f322 := by kernel_rfl
  f337 := by kernel_rfl
  f338 := by kernel_rfl
  t0 := Tryz.underlying0
  a0 := Tryz.isAgg0
  z0 := Tryz.sizeOf0
  v0 := Tryz.zeroValue0
  t2 := Tryz.underlying2
  a2 := Tryz.isAgg2
  z2 := Tryz.sizeOf2
  v2 := Tryz.zeroValue2
  t3 := Tryz.underlying3
  a3 := Tryz.isAgg3
  z3 := Tryz.sizeOf3
  v3 := Tryz.zeroValue3
  t4 := Tryz.underlying4
  a4 := Tryz.isAgg4
  z4 := Tryz.sizeOf4
  v4 := Tryz.zeroValue4
  t5 := Tryz.underlying5
  a5 := Tryz.isAgg5
  z5 := Tryz.sizeOf5
  v5 := Tryz.zeroValue5
  t9 := Tryz.underlying9
  a9 := Tryz.isAgg9
  z9 := Tryz.sizeOf9
  v9 := Tryz.zeroValue9
  t20 := Tryz.underlying20
  a20 := Tryz.isAgg20
  z20 := Tryz.sizeOf20
  v20 := Tryz.zeroValue20
  t21 := Tryz.underlying21
  a21 := Tryz.isAgg21
  z21 := Tryz.sizeOf21
  v21 := Tryz.zeroValue21
  t37 := Tryz.underlying22
  a37 := Tryz.isAgg22
  z37 := Tryz.sizeOf22
  v37 := Tryz.zeroValue22
  t46 := Tryz.underlying80
  a46 := Tryz.isAgg80
  z46 := Tryz.sizeOf80
  v46 := Tryz.zeroValue80
  t51 := Tryz.underlying109
  a51 := Tryz.isAgg109
  z51 := Tryz.sizeOf109
  v51 := Tryz.zeroValue109
  t53 := Tryz.underlying68
  a53 := Tryz.isAgg68
  z53 := Tryz.sizeOf68
  v53 := Tryz.zeroValue68
  t75 := Tryz.underlying61
  a75 := Tryz.isAgg61
  z75 := Tryz.sizeOf61
  v75 := Tryz.zeroValue61
  t85 := Tryz.underlying62
  a85 := Tryz.isAgg62
  z85 := Tryz.sizeOf62
  v85 := Tryz.zeroValue62
  t127 := Tryz.underlying127
  a127 := Tryz.isAgg127
  z127 := Tryz.sizeOf127
  v127 := Tryz.zeroValue127
  t143 := Tryz.underlying128
  a143 := Tryz.isAgg128
  z143 := Tryz.sizeOf128
  v143 := Tryz.zeroValue128
  t145 := Tryz.underlying130
  a145 := Tryz.isAgg130
  z145 := Tryz.sizeOf130
  v145 := Tryz.zeroValue130
  t167 := Tryz.underlying87
  a167 := Tryz.isAgg87
  z167 := Tryz.sizeOf87
  v167 := Tryz.zeroValue87
  t168 := Tryz.underlying90
  a168 := Tryz.isAgg90
  z168 := Tryz.sizeOf90
  v168 := Tryz.zeroValue90
  t171 := Tryz.underlying95
  a171 := Tryz.isAgg95
  z171 := Tryz.sizeOf95
  v171 := Tryz.zeroValue95
  t173 := Tryz.underlying98
  a173 := Tryz.isAgg98
  z173 := Tryz.sizeOf98
  v173 := Tryz.zeroValue98
  t175 := Tryz.underlying88
  a175 := Tryz.isAgg88
  z175 := Tryz.sizeOf88
  v175 := Tryz.zeroValue88
  t210 := Tryz.underlying115
  a210 := Tryz.isAgg115
  z210 := Tryz.sizeOf115
  v210 := Tryz.zeroValue115
  t212 := Tryz.underlying118
  a212 := Tryz.isAgg118
  z212 := Tryz.sizeOf118
  v212 := Tryz.zeroValue118
  t213 := Tryz.underlying119
  a213 := Tryz.isAgg119
  z213 := Tryz.sizeOf119
  t232 := Tryz.underlying134
  a232 := Tryz.isAgg134
  z232 := Tryz.sizeOf134
  v232 := Tryz.zeroValue134
  t233 := Tryz.underlying135
  a233 := Tryz.isAgg135
  z233 := Tryz.sizeOf135
  v233 := Tryz.zeroValue135
  g15 := by kernel_rfl
  g16 := by kernel_rfl
  g17 := by kernel_rfl
  g18 := by kernel_rfl
  g19 := by kernel_rfl
  t80 := Tryz.underlying136
  a80 := Tryz.isAgg136
  z80 := Tryz.sizeOf136
  v80 := Tryz.zeroValue136
  i0 := by kernel_rfl
  i2 := by kernel_rfl
  i3 := by kernel_rfl
  i4 := by kernel_rfl
  i5 := by kernel_rfl
  i9 := by kernel_rfl
  i20 := by kernel_rfl
  i21 := by kernel_rfl
  i37 := by kernel_rfl
  i46 := by kernel_rfl
  i51 := by kernel_rfl
  i53 := by kernel_rfl
  i75 := by kernel_rfl
  i80 := by kernel_rfl
  i85 := by kernel_rfl
  i127 := by kernel_rfl
  i143 := by kernel_rfl
  i145 := by kernel_rfl
  i167 := by kernel_rfl
  i168 := by kernel_rfl
  i171 := by kernel_rfl
  i173 := by kernel_rfl
  i175 := by kernel_rfl
  i210 := by kernel_rfl
  i212 := by kernel_rfl
  i232 := by kernel_rfl
  i233 := by kernel_rfl
  m15 := by kernel_rfl
  m16 := by kernel_rfl
  m17 := by kernel_rfl
  m18 := by kernel_rfl
  m19 := by kernel_rfl
  c0 := by kernel_rfl
  c2 := by kernel_rfl
  c3 := by kernel_rfl
  c4 := by kernel_rfl
  c5 := by kernel_rfl
  c9 := by kernel_rfl
  c20 := by kernel_rfl
  c21 := by kernel_rfl
  c37 := by kernel_rfl
  c46 := by kernel_rfl
  c51 := by kernel_rfl
  c53 := by kernel_rfl
  c75 := by kernel_rfl
  c80 := by kernel_rfl
  c85 := by kernel_rfl
  c127 := by kernel_rfl
  c143 := by kernel_rfl
  c145 := by kernel_rfl
  c167 := by kernel_rfl
  c168 := by kernel_rfl
  c171 := by kernel_rfl
  c173 := by kernel_rfl
  c175 := by kernel_rfl
  c210 := by kernel_rfl
  c212 := by kernel_rfl
  c213 := by kernel_rfl
  c232 := by kernel_rfl
  c233 := by kernel_rfl

def laysRDf_ren : Go.Shelf.Ren where
  f := fun n => match n with | 173 => 33 | 246 => 48 | 283 => 67 | 284 => 68 | 285 => 69 | 286 => 70 | 129 => 81 | 317 => 89 | 318 => 90 | 319 => 91 | 320 => 92 | 337 => 99 | 338 => 100 | n => n
  t := fun n => match n with | 2 => 2 | 3 => 3 | 9 => 9 | 4 => 4 | 171 => 95 | 0 => 0 | 53 => 68 | 37 => 22 | 5 => 5 | 173 => 98 | 212 => 118 | 51 => 109 | 20 => 20 | 213 => 119 | 46 => 80 | 232 => 134 | 233 => 135 | n => n
  g := fun n => match n with | 17 => 3 | 18 => 4 | 19 => 5 | n => n
theorem laysRDf : Go.Proofs.LaysM.n173 Tryz.prog laysRDf_ren where
  mixed := by kernel_rfl
  f129 := by kernel_rfl
  f173 := by kernel_rfl
  f246 := by kernel_rfl
  f283 := by kernel_rfl
  f284 := by kernel_rfl
  f285 := by kernel_rfl
  f286 := by kernel_rfl
  f317 := by kernel_rfl
  f318 := by kernel_rfl
  f319 := by kernel_rfl
  f320 := by kernel_rfl
  f337 := by kernel_rfl
  f338 := by kernel_rfl
  t0 := Tryz.underlying0
  a0 := Tryz.isAgg0
  z0 := Tryz.sizeOf0
  v0 := Tryz.zeroValue0
  t2 := Tryz.underlying2
  a2 := Tryz.isAgg2
  z2 := Tryz.sizeOf2
  v2 := Tryz.zeroValue2
  t3 := Tryz.underlying3
  a3 := Tryz.isAgg3
  z3 := Tryz.sizeOf3
  v3 := Tryz.zeroValue3
  t4 := Tryz.underlying4
  a4 := Tryz.isAgg4
  z4 := Tryz.sizeOf4
  v4 := Tryz.zeroValue4
  t5 := Tryz.underlying5
  a5 := Tryz.isAgg5
  z5 := Tryz.sizeOf5
  v5 := Tryz.zeroValue5
  t9 := Tryz.underlying9
  a9 := Tryz.isAgg9
  z9 := Tryz.sizeOf9
  v9 := Tryz.zeroValue9
  t20 := Tryz.underlying20
  a20 := Tryz.isAgg20
  z20 := Tryz.sizeOf20
  v20 := Tryz.zeroValue20
  t37 := Tryz.underlying22
  a37 := Tryz.isAgg22
  z37 := Tryz.sizeOf22
  v37 := Tryz.zeroValue22
  t46 := Tryz.underlying80
  a46 := Tryz.isAgg80
  z46 := Tryz.sizeOf80
  v46 := Tryz.zeroValue80
  t51 := Tryz.underlying109
  a51 := Tryz.isAgg109
  z51 := Tryz.sizeOf109
  v51 := Tryz.zeroValue109
  t53 := Tryz.underlying68
  a53 := Tryz.isAgg68
  z53 := Tryz.sizeOf68
  v53 := Tryz.zeroValue68
  t171 := Tryz.underlying95
  a171 := Tryz.isAgg95
  z171 := Tryz.sizeOf95
  v171 := Tryz.zeroValue95
  t173 := Tryz.underlying98
  a173 := Tryz.isAgg98
  z173 := Tryz.sizeOf98
  v173 := Tryz.zeroValue98
  t212 := Tryz.underlying118
  a212 := Tryz.isAgg118
  z212 := Tryz.sizeOf118
  v212 := Tryz.zeroValue118
  t213 := Tryz.underlying119
  a213 := Tryz.isAgg119
  z213 := Tryz.sizeOf119
  t232 := Tryz.underlying134
  a232 := Tryz.isAgg134
  z232 := Tryz.sizeOf134
  v232 := Tryz.zeroValue134
  t233 := Tryz.underlying135
  a233 := Tryz.isAgg135
  z233 := Tryz.sizeOf135
  v233 := Tryz.zeroValue135
  g17 := by kernel_rfl
  g18 := by kernel_rfl
  g19 := by kernel_rfl
  i0 := by kernel_rfl
  i2 := by kernel_rfl
  i3 := by kernel_rfl
  i4 := by kernel_rfl
  i5 := by kernel_rfl
  i9 := by kernel_rfl
  i20 := by kernel_rfl
  i37 := by kernel_rfl
  i46 := by kernel_rfl
  i51 := by kernel_rfl
  i53 := by kernel_rfl
  i171 := by kernel_rfl
  i173 := by kernel_rfl
  i212 := by kernel_rfl
  i232 := by kernel_rfl
  i233 := by kernel_rfl
  m17 := by kernel_rfl
  m18 := by kernel_rfl
  m19 := by kernel_rfl

def laysRDt_ren : Go.Shelf.Ren where
  f := fun n => match n with | 101 => 32 | 208 => 47 | 206 => 66 | n => n
  t := fun n => match n with | 9 => 9 | 4 => 4 | 3 => 3 | n => n
  g := fun n => n
theorem laysRDt : Go.Proofs.Lays.n101 Tryz.prog laysRDt_ren where
  mixed := by kernel_rfl
  f101 := by kernel_rfl
  f206 := by kernel_rfl
  f208 := by kernel_rfl
  t3 := Tryz.underlying3
  a3 := Tryz.isAgg3
  z3 := Tryz.sizeOf3
  v3 := Tryz.zeroValue3
  t4 := Tryz.underlying4
  a4 := Tryz.isAgg4
  z4 := Tryz.sizeOf4
  v4 := Tryz.zeroValue4
  t9 := Tryz.underlying9
  a9 := Tryz.isAgg9
  z9 := Tryz.sizeOf9
  v9 := Tryz.zeroValue9

theorem rd_ok (s : ByteArray) (hmax : s.size ≤ 9223372036854775806) (v : Int) (h : Go.Lib.parseIntB 64 s.data.toList = .ok v) (w : World) :
    Calls Tryz.prog 31 #[.string s, .int .i64 10, .int .i64 64] w fun e w' => e = .returned (.tuple #[.int .i64 v, .nilIface]) ∧ Below w.heap.size w w' :=
  (show Calls Tryz.prog 31 _ w _ from Any.strconv_ParseInt_10_at64_ok laysRDp s hmax v h w).mono fun e w' ⟨he, hw⟩ => ⟨he, by rcases hw with rfl | ⟨t, rfl⟩; exact Below.refl _ _; exact Go.Lib.bytesWorld_below _ _ _⟩
theorem rd_syntax (s : ByteArray) (hlim : s.size ≤ 281474976710656) (h : Go.Lib.parseIntB 64 s.data.toList = .«syntax») (ev : Value) (w : World) (hv : w.cell? ⟨1, 0, none⟩ = some ev) (hev : ev = .nilIface ∨ ∃ te pe, ev = .iface te pe) :
    Calls Tryz.prog 31 #[.string s, .int .i64 10, .int .i64 64] w fun e w' => ∃ T N, e = .returned (.tuple #[.int .i64 0, .iface T (.pointer (some ⟨N, 0, none⟩))]) ∧ Below w.heap.size w w' :=
  (show Calls Tryz.prog 31 _ w _ from Any.strconv_ParseInt_10_at64_syntax laysRDp s hlim h ev w hv hev).mono fun e w' ⟨N, he, _, _, hb⟩ => ⟨_, N, he, hb⟩
theorem rd_range (s : ByteArray) (hlim : s.size ≤ 281474976710656) (h : Go.Lib.parseIntB 64 s.data.toList = .range) (ev : Value) (w : World) (hv : w.cell? ⟨2, 0, none⟩ = some ev) (hev : ev = .nilIface ∨ ∃ te pe, ev = .iface te pe) :
    Calls Tryz.prog 31 #[.string s, .int .i64 10, .int .i64 64] w fun e w' => ∃ T N n, e = .returned (.tuple #[.int .i64 n, .iface T (.pointer (some ⟨N, 0, none⟩))]) ∧ Below w.heap.size w w' :=
  (show Calls Tryz.prog 31 _ w _ from Any.strconv_ParseInt_10_at64_range laysRDp s hlim h ev w hv hev).mono fun e w' ⟨N, he, _, _, hb⟩ => ⟨_, N, _, he, hb⟩
theorem rd_dec (n : Int) (h0 : -9223372036854775808 ≤ n) (h1 : n ≤ 9223372036854775807) (w : World) (hq : ∃ ty fz, w.heap[3]? = some (.cells (Go.Lib.pow10Tab.map fun z => Value.int .u64 z).toArray ty fz)) :
    Calls Tryz.prog 22 #[.int .i64 n] w fun e w' => e = .returned (.string ⟨(Go.Lib.itoa n).toArray⟩) ∧ Below w.heap.size w w' := by
  have hc : Calls Tryz.prog 33 #[.int .i64 n, .int .i64 10] w fun e w' => e = .returned (.string ⟨(Go.Lib.itoa n).toArray⟩) ∧ Below w.heap.size w w' :=
    (show Calls Tryz.prog 33 _ w _ from Any.strconv_FormatInt_10 laysRDf n h0 h1 w (by obtain ⟨ty, fz, e⟩ := hq; unfold Go.Lib.TabIs World.var?; rw [show Tryz.prog.globalNamed "internal/strconv.uint64pow10" = some 3 by kernel_rfl, Option.bind_some, e])).mono fun e w' ⟨he, k, os, hw⟩ => ⟨he, by subst hw; exact below_grow _ _ _⟩
  go_enter Tryz.func22, Tryz.ntmps22
  go_wp2_with (go_at_call 33; refine hc.mono ?_; rintro e W1 ⟨rfl, hb⟩)
  go_ret
  exact ⟨rfl, hb⟩
theorem rd_trim (s p : ByteArray) (w : World) : Calls Tryz.prog 32 #[.string s, .string p] w fun e w' => e = .returned (.string ⟨(Go.Lib.trimPrefix s.data.toList p.data.toList).toArray⟩) ∧ w' = w := Any.strings_TrimPrefix laysRDt s p w
theorem rd_rng {l : List UInt8} {v : Int} (h : Go.Lib.parseIntB 64 l = .ok v) : -9223372036854775808 ≤ v ∧ v ≤ 9223372036854775807 := by
  unfold Go.Lib.parseIntB at h
  split at h
  · cases h
  · dsimp only at h
    split at h
    · cases h
    · cases h
    · split at h
      · cases h
      · split at h
        · cases h
        · rename_i h1 h2
          simp only [Go.Lib.NumEnd.ok.injEq] at h
          subst h
          split
          · rename_i hn
            have := fun h3 => h2 ⟨hn, h3⟩
            omega
          · rename_i hn
            have := fun h3 => h1 ⟨hn, h3⟩
            omega
set_option maxRecDepth 100000 in
theorem rd_all (s : ByteArray) (hs : s.size ≤ 281474976710656) (w : World) (hq : TabQ w) :
    Calls Tryz.prog 20 #[.string s] w fun e w' => e = .returned (.tuple #[.int .i64 (readDec s.data.toList).1, .bool (readDec s.data.toList).2]) ∧ Below w.heap.size w w' := by
  cases h : Go.Lib.parseIntB 64 s.data.toList with
  | «syntax» =>
    have hr : readDec s.data.toList = (0, false) := by simp only [readDec, h]
    rw [hr]
    obtain ⟨ev, hv, he⟩ := hq.es
    go_enter Tryz.func20, Tryz.ntmps20
    go_wp2_with (go_at_call 31; refine (rd_syntax s hs h ev _ ?_ he).mono ?_)
    · exact hv
    rintro e W1 ⟨T, N, rfl, hb⟩
    go_wp2
    go_ret2
    exact ⟨rfl, hb⟩
  | range =>
    have hr : readDec s.data.toList = (0, false) := by simp only [readDec, h]
    rw [hr]
    obtain ⟨ev, hv, he⟩ := hq.er
    go_enter Tryz.func20, Tryz.ntmps20
    go_wp2_with (go_at_call 31; refine (rd_range s hs h ev _ ?_ he).mono ?_)
    · exact hv
    rintro e W1 ⟨T, N, n, rfl, hb⟩
    go_wp2
    go_ret2
    exact ⟨rfl, hb⟩
  | ok v =>
    obtain ⟨v0, v1⟩ := rd_rng h
    have hr : readDec s.data.toList = if 18 < (Go.Lib.trimPrefix s.data.toList [45]).length ∨ Go.Lib.itoa v ≠ s.data.toList then (0, false) else (v, true) := by simp only [readDec, h]
    rw [hr]
    obtain ⟨ty, fz, hp⟩ := hq.pow
    have hpl := (Array.getElem?_eq_some_iff.1 hp).1
    have hlen : ((⟨(Go.Lib.trimPrefix s.data.toList [45]).toArray⟩ : ByteArray).size : Int) = ((Go.Lib.trimPrefix s.data.toList [45]).length : Int) := by simp [ByteArray.size]
    have heq : ((⟨(Go.Lib.itoa v).toArray⟩ : ByteArray) = s) ↔ Go.Lib.itoa v = s.data.toList := by
      constructor
      · rintro rfl; simp
      · intro e; rw [e]
    by_cases h18 : 18 < (Go.Lib.trimPrefix s.data.toList [45]).length
    · rw [if_pos (Or.inl h18)]
      go_enter Tryz.func20, Tryz.ntmps20
      go_wp2_with (go_at_call 31; refine (rd_ok s (by omega) v h _).mono ?_; rintro e W1 ⟨rfl, hb⟩)
      go_wp2_with (go_at_call 32; refine (rd_trim s ⟨#[45]⟩ _).mono ?_; rintro e W2 ⟨rfl, rfl⟩)
      have hd : decide (((⟨(Go.Lib.trimPrefix s.data.toList [45]).toArray⟩ : ByteArray).size : Int) > 18) = true := decide_eq_true (by omega)
      go_wp2
      go_ret2
      exact ⟨rfl, hb⟩
    · by_cases he : Go.Lib.itoa v = s.data.toList
      · rw [if_neg (by simp [h18, he])]
        have hd2 : (⟨(Go.Lib.itoa v).toArray⟩ : ByteArray) = s := heq.2 he
        go_enter Tryz.func20, Tryz.ntmps20
        go_wp2_with (go_at_call 31; refine (rd_ok s (by omega) v h _).mono ?_; rintro e W1 ⟨rfl, hb⟩)
        go_wp2_with (go_at_call 32; refine (rd_trim s ⟨#[45]⟩ _).mono ?_; rintro e W2 ⟨rfl, rfl⟩)
        have hd : decide (((⟨(Go.Lib.trimPrefix s.data.toList [45]).toArray⟩ : ByteArray).size : Int) > 18) = false := decide_eq_false (by omega)
        go_wp2_with (go_at_call 22; refine (rd_dec v v0 v1 _ ⟨ty, fz, (hb.block 3 hpl).trans hp⟩).mono ?_; rintro e W2 ⟨rfl, hb2⟩)
        go_wp2
        go_ret2
        exact ⟨rfl, hb.trans (hb2.mono hb.size)⟩
      · rw [if_pos (Or.inr he)]
        have hd2 : ¬ (⟨(Go.Lib.itoa v).toArray⟩ : ByteArray) = s := fun e => he (heq.1 e)
        go_enter Tryz.func20, Tryz.ntmps20
        go_wp2_with (go_at_call 31; refine (rd_ok s (by omega) v h _).mono ?_; rintro e W1 ⟨rfl, hb⟩)
        go_wp2_with (go_at_call 32; refine (rd_trim s ⟨#[45]⟩ _).mono ?_; rintro e W2 ⟨rfl, rfl⟩)
        have hd : decide (((⟨(Go.Lib.trimPrefix s.data.toList [45]).toArray⟩ : ByteArray).size : Int) > 18) = false := decide_eq_false (by omega)
        go_wp2_with (go_at_call 22; refine (rd_dec v v0 v1 _ ⟨ty, fz, (hb.block 3 hpl).trans hp⟩).mono ?_; rintro e W2 ⟨rfl, hb2⟩)
        go_wp2
        · go_ret2
          exact ⟨rfl, hb.trans (hb2.mono hb.size)⟩
        · exfalso
          rename_i hx
          have h3 : Go.Lib.itoa v = s.toList := by simpa using hx.2
          exact he (h3.trans (by rw [ByteArray.toList_eq]))
theorem con_readDec {s : List UInt8} {r : Int × Bool} (h : F_readDec s = some r) : Con Tryz.prog 20 [.str s] (.tup [.v (.int .i64 r.1), .v (.bool r.2)]) := by
  obtain ⟨hs, h2⟩ := need_some h
  cases h2
  refine con_pure _ (rv_t2 (rep_int _) (rep_bool _)) ?_
  intro w D vs hD ha
  have := args_sc (l := [.str s]) ha
  subst this
  have := rd_all (bz s) (by simpa using hs) w hD.tabs.q
  rw [bz_data] at this
  exact this

theorem l00_24 (p : Option Addr) (n m : Nat) (w : World) : Calls Tryz.prog 24 #[.slice p n m] w fun e w' => ∃ ty, e = .returned (.pointer (some ⟨w.heap.size, 0, none⟩)) ∧ w' = w.alloc (.cells #[.slice p n m, .int .i64 0, .int .u64 0] ty (0, 0)) := by
  go_enter Tryz.func24, Tryz.ntmps24
  go_wp2
  go_ret
  exact ⟨_, rfl, rfl⟩
theorem rep_slice {w : World} {D S : BSet} {sz : Nat} {L : List V} {x : Value} (h : Rep w D false (.sl sz L) x S) : ∃ p n m, x = .slice p n m := by
  cases h <;> exact ⟨_, _, _, rfl⟩
theorem con_l00From_24 (code : List Int) : ConN Tryz.prog 24 [.sl 1 (code.map (V.int .u8))] [.sl 1 (code.map (V.int .u8)), .int .i64 0, .int .u64 0] := by
  intro w D vs hD hargs
  generalize hL : code.map (V.int .u8) = L at hargs
  cases hargs with
  | cons h hs hd h1 h2 =>
    cases hs
    obtain ⟨p, n, m, rfl⟩ := rep_slice h
    refine Calls.mono (l00_24 p n m w) ?_
    rintro e w' ⟨ty, rfl, rfl⟩
    refine ⟨w.heap.size, #[.slice p n m, .int .i64 0, .int .u64 0], _, rfl, Nat.le_refl _, heap_new _ _, ?_, ?_, below_alloc' _ _⟩
    · refine .cons (S1 := Emp) (S2 := Emp) ((h.wide (fun g hg => h1 g hg)).keep (fun g hg => ⟨hg, (below_alloc' w _).block g (hD.lt g hg)⟩) (fun h => by cases h)) (.cons (S1 := Emp) (S2 := Emp) (.int _ _) (.cons (S1 := Emp) (S2 := Emp) (.int _ _) .nil ?_ ?_ ?_) ?_ ?_ ?_) ?_ ?_ ?_
      all_goals exact fun _ h => h.elim
    · intro c hc
      simp at hc
      rcases hc with rfl | rfl | rfl <;> rfl

def lays33_ren : Go.Shelf.Ren where
  f := fun n => match n with | 173 => 33 | 246 => 48 | 283 => 67 | 284 => 68 | 285 => 69 | 286 => 70 | 129 => 81 | 317 => 89 | 318 => 90 | 319 => 91 | 320 => 92 | 337 => 99 | 338 => 100 | n => n
  t := fun n => match n with | 2 => 2 | 3 => 3 | 9 => 9 | 4 => 4 | 171 => 95 | 0 => 0 | 53 => 68 | 37 => 22 | 5 => 5 | 173 => 98 | 212 => 118 | 51 => 109 | 20 => 20 | 213 => 119 | 46 => 80 | 232 => 134 | 233 => 135 | n => n
  g := fun n => match n with | 17 => 3 | 18 => 4 | 19 => 5 | n => n
theorem lays33 : Go.Proofs.LaysM.n173 Tryz.prog lays33_ren where
  mixed := by kernel_rfl
  f129 := by kernel_rfl
  f173 := by kernel_rfl
  f246 := by kernel_rfl
  f283 := by kernel_rfl
  f284 := by kernel_rfl
  f285 := by kernel_rfl
  f286 := by kernel_rfl
  f317 := by kernel_rfl
  f318 := by kernel_rfl
  f319 := by kernel_rfl
  f320 := by kernel_rfl
  f337 := by kernel_rfl
  f338 := by kernel_rfl
  t0 := Tryz.underlying0
  a0 := Tryz.isAgg0
  z0 := Tryz.sizeOf0
  v0 := Tryz.zeroValue0
  t2 := Tryz.underlying2
  a2 := Tryz.isAgg2
  z2 := Tryz.sizeOf2
  v2 := Tryz.zeroValue2
  t3 := Tryz.underlying3
  a3 := Tryz.isAgg3
  z3 := Tryz.sizeOf3
  v3 := Tryz.zeroValue3
  t4 := Tryz.underlying4
  a4 := Tryz.isAgg4
  z4 := Tryz.sizeOf4
  v4 := Tryz.zeroValue4
  t5 := Tryz.underlying5
  a5 := Tryz.isAgg5
  z5 := Tryz.sizeOf5
  v5 := Tryz.zeroValue5
  t9 := Tryz.underlying9
  a9 := Tryz.isAgg9
  z9 := Tryz.sizeOf9
  v9 := Tryz.zeroValue9
  t20 := Tryz.underlying20
  a20 := Tryz.isAgg20
  z20 := Tryz.sizeOf20
  v20 := Tryz.zeroValue20
  t37 := Tryz.underlying22
  a37 := Tryz.isAgg22
  z37 := Tryz.sizeOf22
  v37 := Tryz.zeroValue22
  t46 := Tryz.underlying80
  a46 := Tryz.isAgg80
  z46 := Tryz.sizeOf80
  v46 := Tryz.zeroValue80
  t51 := Tryz.underlying109
  a51 := Tryz.isAgg109
  z51 := Tryz.sizeOf109
  v51 := Tryz.zeroValue109
  t53 := Tryz.underlying68
  a53 := Tryz.isAgg68
  z53 := Tryz.sizeOf68
  v53 := Tryz.zeroValue68
  t171 := Tryz.underlying95
  a171 := Tryz.isAgg95
  z171 := Tryz.sizeOf95
  v171 := Tryz.zeroValue95
  t173 := Tryz.underlying98
  a173 := Tryz.isAgg98
  z173 := Tryz.sizeOf98
  v173 := Tryz.zeroValue98
  t212 := Tryz.underlying118
  a212 := Tryz.isAgg118
  z212 := Tryz.sizeOf118
  v212 := Tryz.zeroValue118
  t213 := Tryz.underlying119
  a213 := Tryz.isAgg119
  z213 := Tryz.sizeOf119
  t232 := Tryz.underlying134
  a232 := Tryz.isAgg134
  z232 := Tryz.sizeOf134
  v232 := Tryz.zeroValue134
  t233 := Tryz.underlying135
  a233 := Tryz.isAgg135
  z233 := Tryz.sizeOf135
  v233 := Tryz.zeroValue135
  g17 := by kernel_rfl
  g18 := by kernel_rfl
  g19 := by kernel_rfl
  i0 := by kernel_rfl
  i2 := by kernel_rfl
  i3 := by kernel_rfl
  i4 := by kernel_rfl
  i5 := by kernel_rfl
  i9 := by kernel_rfl
  i20 := by kernel_rfl
  i37 := by kernel_rfl
  i46 := by kernel_rfl
  i51 := by kernel_rfl
  i53 := by kernel_rfl
  i171 := by kernel_rfl
  i173 := by kernel_rfl
  i212 := by kernel_rfl
  i232 := by kernel_rfl
  i233 := by kernel_rfl
  m17 := by kernel_rfl
  m18 := by kernel_rfl
  m19 := by kernel_rfl

theorem con_formatInt {n b : Int} {r : List UInt8} (h : F_formatInt n b = some r) : Con Tryz.prog 33 [.int .i64 n, .int .i64 b] (.v (.str r)) := t_formatInt h (fun w hq h0 h1 => Any.strconv_FormatInt_10 lays33 n h0 h1 w (by obtain ⟨ty, fz, e⟩ := hq.pow; unfold Go.Lib.TabIs World.var?; rw [show Tryz.prog.globalNamed "internal/strconv.uint64pow10" = some 3 by kernel_rfl, Option.bind_some, e]))
def lays34_ren : Go.Shelf.Ren where
  f := fun n => match n with | 6 => 34 | 8 => 50 | 9 => 49 | 19 => 80 | 20 => 81 | 21 => 71 | 22 => 72 | 23 => 73 | 24 => 74 | 25 => 75 | 26 => 76 | 27 => 77 | 28 => 78 | 29 => 79 | 36 => 93 | 31 => 94 | 32 => 95 | 37 => 96 | 38 => 97 | 39 => 54 | 41 => 101 | n => n
  t := fun n => match n with | 27 => 36 | 29 => 9 | 3 => 3 | 32 => 80 | 26 => 36 | 0 => 0 | 44 => 109 | 46 => 68 | 4 => 4 | 36 => 102 | 35 => 101 | 41 => 106 | 5 => 5 | 9 => 9 | 53 => 121 | 57 => 125 | 63 => 131 | 64 => 132 | n => n
  g := fun n => n
theorem lays34 : Go.Proofs.SlLaysM.n6 Tryz.prog lays34_ren where
  mixed := by kernel_rfl
  f6 := ⟨ "slices.Sort[[]string,string]", by kernel_rfl, by kernel_rfl⟩
  f8 := by kernel_rfl
  f9 := ⟨ "slices.pdqsortOrdered[string]", by kernel_rfl, by kernel_rfl⟩
  f19 := by kernel_rfl
  f20 := by kernel_rfl
  f21 := ⟨ "slices.insertionSortOrdered[string]", by kernel_rfl, by kernel_rfl⟩
  f22 := ⟨ "slices.heapSortOrdered[string]", by kernel_rfl, by kernel_rfl⟩
  f23 := ⟨ "slices.breakPatternsOrdered[string]", by kernel_rfl, by kernel_rfl⟩
  f24 := ⟨ "slices.choosePivotOrdered[string]", by kernel_rfl, by kernel_rfl⟩
  f25 := ⟨ "slices.reverseRangeOrdered[string]", by kernel_rfl, by kernel_rfl⟩
  f26 := ⟨ "slices.partialInsertionSortOrdered[string]", by kernel_rfl, by kernel_rfl⟩
  f27 := ⟨ "cmp.Less[string]", by kernel_rfl, by kernel_rfl⟩
  f28 := ⟨ "slices.partitionEqualOrdered[string]", by kernel_rfl, by kernel_rfl⟩
  f29 := ⟨ "slices.partitionOrdered[string]", by kernel_rfl, by kernel_rfl⟩
  f31 := by kernel_rfl
  f32 := by kernel_rfl
  f36 := ⟨ "slices.siftDownOrdered[string]", by kernel_rfl, by kernel_rfl⟩
  f37 := ⟨ "slices.medianAdjacentOrdered[string]", by kernel_rfl, by kernel_rfl⟩
  f38 := ⟨ "slices.medianOrdered[string]", by kernel_rfl, by kernel_rfl⟩
  f39 := ⟨ "cmp.isNaN[string]", by kernel_rfl, by kernel_rfl⟩
  f41 := ⟨ "slices.order2Ordered[string]", by kernel_rfl, by kernel_rfl⟩
  t0 := Tryz.underlying0
  a0 := Tryz.isAgg0
  z0 := Tryz.sizeOf0
  v0 := Tryz.zeroValue0
  t3 := Tryz.underlying3
  a3 := Tryz.isAgg3
  z3 := Tryz.sizeOf3
  v3 := Tryz.zeroValue3
  t4 := Tryz.underlying4
  a4 := Tryz.isAgg4
  z4 := Tryz.sizeOf4
  v4 := Tryz.zeroValue4
  t5 := Tryz.underlying5
  a5 := Tryz.isAgg5
  z5 := Tryz.sizeOf5
  v5 := Tryz.zeroValue5
  t9 := Tryz.underlying9
  a9 := Tryz.isAgg9
  z9 := Tryz.sizeOf9
  v9 := Tryz.zeroValue9
  t26 := Tryz.underlying36
  a26 := Tryz.isAgg36
  z26 := Tryz.sizeOf36
  v26 := Tryz.zeroValue36
  t27 := Tryz.underlying36
  a27 := Tryz.isAgg36
  z27 := Tryz.sizeOf36
  v27 := Tryz.zeroValue36
  t29 := Tryz.underlying9
  a29 := Tryz.isAgg9
  z29 := Tryz.sizeOf9
  v29 := Tryz.zeroValue9
  t32 := Tryz.underlying80
  a32 := Tryz.isAgg80
  z32 := Tryz.sizeOf80
  v32 := Tryz.zeroValue80
  t35 := Tryz.underlying101
  a35 := Tryz.isAgg101
  z35 := Tryz.sizeOf101
  v35 := Tryz.zeroValue101
  t36 := Tryz.underlying102
  a36 := Tryz.isAgg102
  z36 := Tryz.sizeOf102
  v36 := Tryz.zeroValue102
  t41 := Tryz.underlying106
  a41 := Tryz.isAgg106
  z41 := Tryz.sizeOf106
  v41 := Tryz.zeroValue106
  t44 := Tryz.underlying109
  a44 := Tryz.isAgg109
  z44 := Tryz.sizeOf109
  v44 := Tryz.zeroValue109
  t46 := Tryz.underlying68
  a46 := Tryz.isAgg68
  z46 := Tryz.sizeOf68
  v46 := Tryz.zeroValue68
  t53 := Tryz.underlying121
  a53 := Tryz.isAgg121
  z53 := Tryz.sizeOf121
  v53 := Tryz.zeroValue121
  t57 := Tryz.underlying125
  a57 := Tryz.isAgg125
  z57 := Tryz.sizeOf125
  v57 := Tryz.zeroValue125
  t63 := Tryz.underlying131
  a63 := Tryz.isAgg131
  z63 := Tryz.sizeOf131
  v63 := Tryz.zeroValue131
  t64 := Tryz.underlying132
  a64 := Tryz.isAgg132
  z64 := Tryz.sizeOf132
  v64 := Tryz.zeroValue132

theorem con_sortS_34 {A r : List (List UInt8)} (h : F_sortS A = some r) : ConM Tryz.prog 34 (.one (.row true 1 (A.map V.str))) (.one (.row true 1 (r.map V.str))) [] (.agg []) := by
  obtain ⟨hlt, h⟩ := need_some h
  simp only [Option.some.injEq] at h
  subst h
  exact conM_row oneStr (by simp) (fun w g o c hH hg _ _ => AnyM.slices_Sort_string lays34 g o c A w hH hg hlt) (fun _ w p c => AnyM.slices_Sort_string_none lays34 p c w)

def lays35_ren : Go.Shelf.Ren where
  f := fun n => match n with | 43 => 35 | n => n
  t := fun n => match n with | 22 => 36 | 23 => 9 | 3 => 3 | 4 => 4 | 0 => 0 | n => n
  g := fun n => n
theorem lays35 : Go.Proofs.SlLaysE.n43 Tryz.prog lays35_ren where
  mixed := by kernel_rfl
  f43 := ⟨ "slices.Compact[[]string,string]", by kernel_rfl, by kernel_rfl⟩
  t0 := Tryz.underlying0
  a0 := Tryz.isAgg0
  z0 := Tryz.sizeOf0
  v0 := Tryz.zeroValue0
  t3 := Tryz.underlying3
  a3 := Tryz.isAgg3
  z3 := Tryz.sizeOf3
  v3 := Tryz.zeroValue3
  t4 := Tryz.underlying4
  a4 := Tryz.isAgg4
  z4 := Tryz.sizeOf4
  v4 := Tryz.zeroValue4
  t22 := Tryz.underlying36
  a22 := Tryz.isAgg36
  z22 := Tryz.sizeOf36
  v22 := Tryz.zeroValue36
  a23 := Tryz.isAgg9
  z23 := Tryz.sizeOf9

set_option maxRecDepth 1000000 in
theorem none_35 (p : Option Addr) (cap : Nat) (w : World) : Calls Tryz.prog 35 #[.slice p 0 cap] w fun e w' => e = .returned (.slice p 0 cap) ∧ w' = w := by
  go_enter Tryz.func35, Tryz.ntmps35
  go_wp2
  go_ret
  exact ⟨rfl, rfl⟩
theorem con_compactS_35 {A r : List (List UInt8)} (h : F_compactS A = some r) : ConX Tryz.prog 35 true 1 (A.map V.str) [] (.r true 1 (r.map V.str)) := by
  obtain ⟨hle, h⟩ := need_some h
  simp only [Option.some.injEq] at h
  subst h
  have hc := compact_le A.toArray A.length
  refine conX_row oneStr (Z := List.replicate (A.length - (Go.Lib.compactUpTo A.toArray A.length).length) []) (by rw [List.length_replicate]; omega) ?_ ?_
  · intro w D g o c vs _ hvs hH hg h1 h2 h3
    cases hvs
    have hk := AnyE.slices_Compact lays35 encStr (fun _ => rfl) (eqlStr _ _) (neqStr _ _) [] Tryz.zeroValue9 g o c A.toArray w hH (by simpa using hle) (by simpa using h1)
    refine hk.mono ?_
    rintro e w' ⟨rfl, q, rfl⟩
    exact ⟨by simp, q, #[], by simp⟩
  · intro hA w D p c vs hvs
    cases hvs
    exact none_35 p c w

end Go.Ab
