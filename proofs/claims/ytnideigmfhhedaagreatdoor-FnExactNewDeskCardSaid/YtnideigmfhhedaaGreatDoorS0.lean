/- Contracts of the library's functions at this program (printed by spec.py, own program; the structures lay the kit's shelf). -/
import Derived.Test.YtnideigmfhhedaaGreatDoorGT
import Derived.Test.YtnideigmfhhedaaGreatDoorProg
import Derived.KernelRfl
import Derived.WalkKit
import Derived.Shelf.Lays
import Derived.Shelf.Strings.Split
import Derived.Lib.SplitLaws
import Derived.Test.YtnideigmfhhedaaGreatDoorSQ
set_option linter.unusedVariables false
set_option linter.unusedSimpArgs false
set_option maxHeartbeats 4000000
namespace Go.Ab
open Go.RowKit Go.Proofs Go.Sort
def lays41_ren : Go.Shelf.Ren where
  f := fun n => match n with | 146 => 41 | 221 => 65 | 268 => 78 | 138 => 79 | 143 => 67 | 195 => 92 | 197 => 93 | 218 => 94 | 219 => 81 | 260 => 104 | 217 => 95 | 225 => 96 | 224 => 97 | 267 => 98 | 266 => 105 | 314 => 106 | n => n
  t := fun n => match n with | 9 => 9 | 31 => 64 | 3 => 3 | 4 => 4 | 0 => 0 | 105 => 120 | 21 => 21 | 5 => 5 | 46 => 124 | 119 => 131 | 139 => 134 | 138 => 133 | 146 => 128 | 51 => 127 | n => n
  g := fun n => match n with | 1 => 0 | 3 => 1 | 4 => 2 | n => n
theorem lays41 : Go.Proofs.Lays.n146 Tryz.prog lays41_ren where
  mixed := by kernel_rfl
  f138 := by kernel_rfl
  f143 := by kernel_rfl
  f146 := by kernel_rfl
  f195 := by kernel_rfl
  f197 := by kernel_rfl
  f217 := by kernel_rfl
  f218 := by kernel_rfl
  f219 := by kernel_rfl
  f221 := by kernel_rfl
  f224 := by kernel_rfl
  f225 := by kernel_rfl
  f260 := by kernel_rfl
  f266 := by kernel_rfl
  f267 := by kernel_rfl
  f268 := by kernel_rfl
  f314 := by kernel_rfl
  t0 := Tryz.underlying0
  a0 := Tryz.isAgg0
  z0 := Tryz.sizeOf0
  v0 := Tryz.zeroValue0
  t3 := Tryz.underlying3
  a3 := Tryz.isAgg3
  z3 := Tryz.sizeOf3
  v3 := Tryz.zeroValue3
  t4 := Tryz.underlying4
  a4 := Tryz.isAgg4
  z4 := Tryz.sizeOf4
  v4 := Tryz.zeroValue4
  t5 := Tryz.underlying5
  a5 := Tryz.isAgg5
  z5 := Tryz.sizeOf5
  v5 := Tryz.zeroValue5
  t9 := Tryz.underlying9
  a9 := Tryz.isAgg9
  z9 := Tryz.sizeOf9
  v9 := Tryz.zeroValue9
  t21 := Tryz.underlying21
  a21 := Tryz.isAgg21
  z21 := Tryz.sizeOf21
  v21 := Tryz.zeroValue21
  t31 := Tryz.underlying64
  a31 := Tryz.isAgg64
  z31 := Tryz.sizeOf64
  v31 := Tryz.zeroValue64
  t46 := Tryz.underlying124
  a46 := Tryz.isAgg124
  z46 := Tryz.sizeOf124
  v46 := Tryz.zeroValue124
  t51 := Tryz.underlying127
  a51 := Tryz.isAgg127
  z51 := Tryz.sizeOf127
  v51 := Tryz.zeroValue127
  t105 := Tryz.underlying120
  a105 := Tryz.isAgg120
  z105 := Tryz.sizeOf120
  v105 := Tryz.zeroValue120
  t119 := Tryz.underlying131
  a119 := Tryz.isAgg131
  z119 := Tryz.sizeOf131
  t138 := Tryz.underlying133
  a138 := Tryz.isAgg133
  z138 := Tryz.sizeOf133
  v138 := Tryz.zeroValue133
  t139 := Tryz.underlying134
  a139 := Tryz.isAgg134
  z139 := Tryz.sizeOf134
  v139 := Tryz.zeroValue134
  t146 := Tryz.underlying128
  a146 := Tryz.isAgg128
  z146 := Tryz.sizeOf128
  v146 := Tryz.zeroValue128
  g1 := by kernel_rfl
  g3 := by kernel_rfl
  g4 := by kernel_rfl

theorem con_split {s sep : List UInt8} {r : List (List UInt8)} (h : F_split s sep = some r) : Con Tryz.prog 41 [.str s, .str sep] (res_split r) := by
  have h1 : 1 ≤ (bz sep).size := by simpa using (need_some h).1.2
  exact t_split h (Go.Lib.splitB_all (bz sep) h1 0 _ (bz s) rfl) (by simpa using Go.Lib.countB_le (bz sep) h1 (bz s).size (bz s) (Nat.le_refl _)) (fun w hq h2 h3 => by obtain ⟨m, hm⟩ := hq.mx; exact Any.strings_Split lays41 (by kernel_rfl) (bz s) (bz sep) m w h2 hm h3)
def ce44 : MC := (.seq (.reg [⟨(some 2), none, (.f (.nilrow 1))⟩]) (.seq (.seq (.reg [⟨(some 3), none, (.p true (.mv (.t 0)))⟩, ⟨(some 4), none, (.p true (.isn false (.t 3)))⟩]) (.cond (.t 4) (.seq (.reg [⟨(some 2), none, (.f (.nilrow 1))⟩]) .ret) .skip)) (.seq (.reg [⟨(some 5), none, (.f (.bsl 1 []))⟩, ⟨(some 6), none, (.p true (.mv (.t 0)))⟩, ⟨(some 7), none, (.f (.app (.t 5) (.t 6) 1 24 false))⟩, ⟨(some 2), none, (.p true (.mv (.t 7)))⟩]) .ret)))
theorem ce44_is : compFn Tryz.prog 44 = some (ce44, [(.tmp 2)]) := by kernel_rfl
theorem con_cloneE_44 {α : Type} {e : α → V} {L : List α} (h : L.length = 0) : Con Tryz.prog 44 [.sl 1 (L.map e)] (.one (.one (.row true 1 (([] : List α).map e)))) := by
  have hL : L = [] := List.eq_nil_of_length_eq_zero h
  subst hL
  refine con_of ce44_is fun N => ?_
  refine w_reg_seq 0 64 rfl rfl (qf (.sl 0 0 0) [(0, .row true 1 [])] (by simp) (r_nil ?_))
  refine w_meet (fun s' => s' = mkS [(0, .val none (.sl 1 []))] (fo []) 1) ?_ ?_
  · refine w_reg_seq 64 192 rfl rfl (qp (.val none (.sl 1 [])) rfl (qp .ub (isn_e rfl) (r_nil ?_)))
    refine w_condU rfl ?_ ?_
    · refine w_reg_seq 192 256 rfl rfl (qf (.sl 192 0 0) [(192, .row true 1 []), (0, .row true 1 [])] (by simp) (r_nil (w_ret (thenQ_r ?_))))
      exact endQ_r rfl (.inl ⟨_, _, by first | rfl | (simp [List.take_of_length_le]; first | exact ⟨rfl, rfl⟩ | rfl), by simp, by first | rfl | simp⟩)
    · refine w_skip (thenQ_n ?_)
      refine ar (l' := [(0, .val none (.sl 1 []))]) (L := []) [0] [] 1 rfl
  · rintro s' rfl
    refine w_reg_seq 1 257 rfl rfl (qf (.sl 1 0 0) [(1, .row true 1 [])] (by simp) (qp (.val none (.sl 1 [])) rfl ?_))
    have hr : room ([] : List Int).length 24 := ⟨by decide, by decide⟩
    refine qf (.sl 129 0 0) [(129, .row true 1 []), (1, .dead), (1, .row true 1 [])] ?_ (qp (.sl 129 0 0) rfl (r_nil (w_ret ?_)))
    · exact effT_app_r0 (own := true) (B := ([] : List Int)) (e := V.int .i64) rfl rfl rfl rfl hr
    exact endQ_r rfl (.inl ⟨_, _, by first | rfl | (simp [List.take_of_length_le]; first | exact ⟨rfl, rfl⟩ | rfl), by simp, by first | rfl | simp⟩)

end Go.Ab
