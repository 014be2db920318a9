/- Walks (printed by auto.py, a program of this session's own). -/
import Derived.Test.YtnideigmfhhedaaGreatDoorU2
import Derived.Test.YtnideigmfhhedaaGreatDoorProg
import Derived.KernelRfl
import Derived.Test.YtnideigmfhhedaaGreatDoorSQ
set_option linter.unusedVariables false
set_option linter.unusedSimpArgs false
set_option maxRecDepth 8000
set_option maxHeartbeats 8000000
noncomputable section
namespace Go.Ab
open Go.RowKit Go.Proofs

def c27 : MC := (sr [pT 4 (.mv (ci 0))] (.seq (sr [pT 5 (.mv (ci 0))] (.block 0 (.loop (.seq (sr [mvt 6 5, mvt 7 0, zT 8 7, bT 9 .lss t6 t8] (cx t9 0)) (.seq (.block 1 (sr [mvt 12 0, mvt 13 5, mvt 14 1, dT 15 56 [t14], iT 16 12 13 6, pT 17 (.fad t16 0), ⟨none, none, (.f (.st t17 t15 1))⟩] (sr [mvt 18 1, bT 19 .add t18 (ci 1), mvt 1 19] (sr [mvt 20 0, mvt 21 5, mvt 22 1, iT 23 20 21 6, pT 24 (.fad t23 1), ⟨none, none, (.f (.st t24 t22 1))⟩] (sr [mvt 25 1, bT 26 .add t25 (ci 1), mvt 1 26] (sr [mvt 27 0, mvt 28 5, mvt 29 1, iT 30 27 28 6, pT 31 (.fad t30 2), ⟨none, none, (.f (.st t31 t29 1))⟩] (sr [mvt 32 1, bT 33 .add t32 (ci 1), mvt 1 33] (sr [mvt 34 0, mvt 35 5, mvt 36 1, iT 37 34 35 6, pT 38 (.fad t37 3), ⟨none, none, (.f (.st t38 t36 1))⟩] (sr [mvt 39 1, bT 40 .add t39 (ci 1), mvt 1 40] (sr [mvt 41 0, mvt 42 5, mvt 43 1, iT 44 41 42 6, pT 45 (.fad t44 4), ⟨none, none, (.f (.st t45 t43 1))⟩] (sr [mvt 46 1, bT 47 .add t46 (ci 1), mvt 1 47] (sr [mvt 48 0, mvt 49 5, mvt 50 1, iT 51 48 49 6, pT 52 (.fad t51 5), ⟨none, none, (.f (.st t52 t50 1))⟩] (.reg [mvt 53 1, bT 54 .add t53 (ci 1), mvt 1 54]))))))))))))) (.reg [mvt 10 5, bT 11 .add t10 (ci 1), mvt 5 11])))))) (sr [mvt 55 1, mvt 4 55] .ret)))
theorem c27_is : compFnM Tryz.prog 27 = some (c27, [(.tmp 4)]) := by kernel_rfl
theorem c27_ok : okFn Tryz.prog 27 = true := by kernel_rfl

def F_laws_markItemS_l0 (k0 : Int × Int × (List TItem) → Option ((List TItem) × Int)) : Int × Int × (List TItem) → Option ((List TItem) × Int)
 | (x3, x4, x5) => (bif (decide (x4 < (x5.length : Int))) then ((F_laws_markText x3).bind fun u0 => ((ix x5 x4).bind fun u1 => ((ix (List.set x5 x4.toNat (u0, u1.2.1, u1.2.2.1, u1.2.2.2.1, u1.2.2.2.2.1, u1.2.2.2.2.2)) x4).bind fun u2 => ((ix (List.set (List.set x5 x4.toNat (u0, u1.2.1, u1.2.2.1, u1.2.2.2.1, u1.2.2.2.2.1, u1.2.2.2.2.2)) x4.toNat (u2.1, w64 (x3 + 1), u2.2.2.1, u2.2.2.2.1, u2.2.2.2.2.1, u2.2.2.2.2.2)) x4).bind fun u3 => ((ix (List.set (List.set (List.set x5 x4.toNat (u0, u1.2.1, u1.2.2.1, u1.2.2.2.1, u1.2.2.2.2.1, u1.2.2.2.2.2)) x4.toNat (u2.1, w64 (x3 + 1), u2.2.2.1, u2.2.2.2.1, u2.2.2.2.2.1, u2.2.2.2.2.2)) x4.toNat (u3.1, u3.2.1, w64 ((w64 (x3 + 1)) + 1), u3.2.2.2.1, u3.2.2.2.2.1, u3.2.2.2.2.2)) x4).bind fun u4 => ((ix (List.set (List.set (List.set (List.set x5 x4.toNat (u0, u1.2.1, u1.2.2.1, u1.2.2.2.1, u1.2.2.2.2.1, u1.2.2.2.2.2)) x4.toNat (u2.1, w64 (x3 + 1), u2.2.2.1, u2.2.2.2.1, u2.2.2.2.2.1, u2.2.2.2.2.2)) x4.toNat (u3.1, u3.2.1, w64 ((w64 (x3 + 1)) + 1), u3.2.2.2.1, u3.2.2.2.2.1, u3.2.2.2.2.2)) x4.toNat (u4.1, u4.2.1, u4.2.2.1, w64 ((w64 ((w64 (x3 + 1)) + 1)) + 1), u4.2.2.2.2.1, u4.2.2.2.2.2)) x4).bind fun u5 => ((ix (List.set (List.set (List.set (List.set (List.set x5 x4.toNat (u0, u1.2.1, u1.2.2.1, u1.2.2.2.1, u1.2.2.2.2.1, u1.2.2.2.2.2)) x4.toNat (u2.1, w64 (x3 + 1), u2.2.2.1, u2.2.2.2.1, u2.2.2.2.2.1, u2.2.2.2.2.2)) x4.toNat (u3.1, u3.2.1, w64 ((w64 (x3 + 1)) + 1), u3.2.2.2.1, u3.2.2.2.2.1, u3.2.2.2.2.2)) x4.toNat (u4.1, u4.2.1, u4.2.2.1, w64 ((w64 ((w64 (x3 + 1)) + 1)) + 1), u4.2.2.2.2.1, u4.2.2.2.2.2)) x4.toNat (u5.1, u5.2.1, u5.2.2.1, u5.2.2.2.1, w64 ((w64 ((w64 ((w64 (x3 + 1)) + 1)) + 1)) + 1), u5.2.2.2.2.2)) x4).bind fun u6 => k0 (w64 ((w64 ((w64 ((w64 ((w64 ((w64 (x3 + 1)) + 1)) + 1)) + 1)) + 1)) + 1), w64 (x4 + 1), List.set (List.set (List.set (List.set (List.set (List.set x5 x4.toNat (u0, u1.2.1, u1.2.2.1, u1.2.2.2.1, u1.2.2.2.2.1, u1.2.2.2.2.2)) x4.toNat (u2.1, w64 (x3 + 1), u2.2.2.1, u2.2.2.2.1, u2.2.2.2.2.1, u2.2.2.2.2.2)) x4.toNat (u3.1, u3.2.1, w64 ((w64 (x3 + 1)) + 1), u3.2.2.2.1, u3.2.2.2.2.1, u3.2.2.2.2.2)) x4.toNat (u4.1, u4.2.1, u4.2.2.1, w64 ((w64 ((w64 (x3 + 1)) + 1)) + 1), u4.2.2.2.2.1, u4.2.2.2.2.2)) x4.toNat (u5.1, u5.2.1, u5.2.2.1, u5.2.2.2.1, w64 ((w64 ((w64 ((w64 (x3 + 1)) + 1)) + 1)) + 1), u5.2.2.2.2.2)) x4.toNat (u6.1, u6.2.1, u6.2.2.1, u6.2.2.2.1, u6.2.2.2.2.1, w64 ((w64 ((w64 ((w64 ((w64 (x3 + 1)) + 1)) + 1)) + 1)) + 1))))))))))
 else some (x5, x3))
def F_laws_markItemS (v0 : List TItem) (v1 : Int) : Option ((List TItem) × Int) :=
 loop (F_laws_markItemS_l0) (v1, 0, v0)
@[simp] abbrev K4b (x5 : List TItem) (x4 : Int) (u0 : List UInt8) (u1 : TItem) : List (Nat × Root) := [(0, .row true 6 ((List.set x5 x4.toNat (u0, u1.2.1, u1.2.2.1, u1.2.2.2.1, u1.2.2.2.2.1, u1.2.2.2.2.2)).map eItem)), (0, .row true 6 (x5.map eItem))]
@[simp] abbrev K4c (x5 : List TItem) (x4 : Int) (u0 : List UInt8) (u1 : TItem) (u2 : TItem) (x3 : Int) : List (Nat × Root) := ((0, .row true 6 ((List.set (List.set x5 x4.toNat (u0, u1.2.1, u1.2.2.1, u1.2.2.2.1, u1.2.2.2.2.1, u1.2.2.2.2.2)) x4.toNat (u2.1, w64 (x3 + 1), u2.2.2.1, u2.2.2.2.1, u2.2.2.2.2.1, u2.2.2.2.2.2)).map eItem)) :: (K4b x5 x4 u0 u1))
@[simp] abbrev K4d (x5 : List TItem) (x4 : Int) (u0 : List UInt8) (u1 : TItem) (u2 : TItem) (x3 : Int) (u3 : TItem) : List (Nat × Root) := ((0, .row true 6 ((List.set (List.set (List.set x5 x4.toNat (u0, u1.2.1, u1.2.2.1, u1.2.2.2.1, u1.2.2.2.2.1, u1.2.2.2.2.2)) x4.toNat (u2.1, w64 (x3 + 1), u2.2.2.1, u2.2.2.2.1, u2.2.2.2.2.1, u2.2.2.2.2.2)) x4.toNat (u3.1, u3.2.1, w64 ((w64 (x3 + 1)) + 1), u3.2.2.2.1, u3.2.2.2.2.1, u3.2.2.2.2.2)).map eItem)) :: (K4c x5 x4 u0 u1 u2 x3))
@[simp] abbrev K4e (x5 : List TItem) (x4 : Int) (u0 : List UInt8) (u1 : TItem) (u2 : TItem) (x3 : Int) (u3 : TItem) (u4 : TItem) : List (Nat × Root) := ((0, .row true 6 ((List.set (List.set (List.set (List.set x5 x4.toNat (u0, u1.2.1, u1.2.2.1, u1.2.2.2.1, u1.2.2.2.2.1, u1.2.2.2.2.2)) x4.toNat (u2.1, w64 (x3 + 1), u2.2.2.1, u2.2.2.2.1, u2.2.2.2.2.1, u2.2.2.2.2.2)) x4.toNat (u3.1, u3.2.1, w64 ((w64 (x3 + 1)) + 1), u3.2.2.2.1, u3.2.2.2.2.1, u3.2.2.2.2.2)) x4.toNat (u4.1, u4.2.1, u4.2.2.1, w64 ((w64 ((w64 (x3 + 1)) + 1)) + 1), u4.2.2.2.2.1, u4.2.2.2.2.2)).map eItem)) :: (K4d x5 x4 u0 u1 u2 x3 u3))
@[simp] abbrev K4f (x5 : List TItem) (x4 : Int) (u0 : List UInt8) (u1 : TItem) (u2 : TItem) (x3 : Int) (u3 : TItem) (u4 : TItem) (u5 : TItem) : List (Nat × Root) := ((0, .row true 6 ((List.set (List.set (List.set (List.set (List.set x5 x4.toNat (u0, u1.2.1, u1.2.2.1, u1.2.2.2.1, u1.2.2.2.2.1, u1.2.2.2.2.2)) x4.toNat (u2.1, w64 (x3 + 1), u2.2.2.1, u2.2.2.2.1, u2.2.2.2.2.1, u2.2.2.2.2.2)) x4.toNat (u3.1, u3.2.1, w64 ((w64 (x3 + 1)) + 1), u3.2.2.2.1, u3.2.2.2.2.1, u3.2.2.2.2.2)) x4.toNat (u4.1, u4.2.1, u4.2.2.1, w64 ((w64 ((w64 (x3 + 1)) + 1)) + 1), u4.2.2.2.2.1, u4.2.2.2.2.2)) x4.toNat (u5.1, u5.2.1, u5.2.2.1, u5.2.2.2.1, w64 ((w64 ((w64 ((w64 (x3 + 1)) + 1)) + 1)) + 1), u5.2.2.2.2.2)).map eItem)) :: (K4e x5 x4 u0 u1 u2 x3 u3 u4))
@[simp] abbrev K4g (x5 : List TItem) (x4 : Int) (u0 : List UInt8) (u1 : TItem) (u2 : TItem) (x3 : Int) (u3 : TItem) (u4 : TItem) (u5 : TItem) (u6 : TItem) : Nat × Root := (0, .row true 6 ((List.set (List.set (List.set (List.set (List.set (List.set x5 x4.toNat (u0, u1.2.1, u1.2.2.1, u1.2.2.2.1, u1.2.2.2.2.1, u1.2.2.2.2.2)) x4.toNat (u2.1, w64 (x3 + 1), u2.2.2.1, u2.2.2.2.1, u2.2.2.2.2.1, u2.2.2.2.2.2)) x4.toNat (u3.1, u3.2.1, w64 ((w64 (x3 + 1)) + 1), u3.2.2.2.1, u3.2.2.2.2.1, u3.2.2.2.2.2)) x4.toNat (u4.1, u4.2.1, u4.2.2.1, w64 ((w64 ((w64 (x3 + 1)) + 1)) + 1), u4.2.2.2.2.1, u4.2.2.2.2.2)) x4.toNat (u5.1, u5.2.1, u5.2.2.1, u5.2.2.2.1, w64 ((w64 ((w64 ((w64 (x3 + 1)) + 1)) + 1)) + 1), u5.2.2.2.2.2)) x4.toNat (u6.1, u6.2.1, u6.2.2.1, u6.2.2.2.1, u6.2.2.2.2.1, w64 ((w64 ((w64 ((w64 ((w64 (x3 + 1)) + 1)) + 1)) + 1)) + 1))).map eItem))
@[simp] abbrev K4h (x3 : Int) : AV := AI (w64 ((w64 ((w64 ((w64 ((w64 (x3 + 1)) + 1)) + 1)) + 1)) + 1))
@[simp] abbrev K4i (x3 : Int) : AV := AI (w64 ((w64 ((w64 ((w64 (x3 + 1)) + 1)) + 1)) + 1))
@[simp] abbrev K4j (x3 : Int) : AV := AI (w64 ((w64 ((w64 (x3 + 1)) + 1)) + 1))
theorem con_laws_markItemS {v0 : List TItem} {v1 : Int} {r : (List TItem) × Int} (hF : F_laws_markItemS v0 v1 = some r) : ConM Tryz.prog 27 (.one (.row true 6 (v0.map eItem))) (.one (.row true 6 (r.1.map eItem))) [.int .i64 v1] (.int .i64 r.2) := by
 unfold F_laws_markItemS at hF
 refine conM_of (av := .sl 0 0 v0.length) (L := [(0, .row true 6 (v0.map eItem))]) c27_is rfl rfl rfl (by simp) fun N => ?_
 refine ws 64 128 (qr (AI 0) (r_nil (w_seq (ws 128 192 (qr (AI 0) (r_nil (w_block ?_)))))))
 refine wr (l' := [(0, .sl 0 0 v0.length), (1, AI v1), (5, AI 0)]) (L := [(0, .row true 6 (v0.map eItem))]) [0, 1, 5] [(0, 0)] 1 ?_
 refine w_loopF (F_laws_markItemS_l0) (fun s : Int × Int × (List TItem) => mkS [(0, .sl 0 0 s.2.2.length), (1, AI s.1), (5, AI s.2.1)] (fo [(0, .row true 6 (s.2.2.map eItem))]) 1) hF ?_
 rintro k0 ⟨x3, x4, x5⟩ hF
 rw [F_laws_markItemS_l0] at hF
 try dsimp only
 refine w_seq (ws 1 257 (qr (AI x4) (qr (.sl 0 0 x5.length) (qr (AI (x5.length : Int)) (qr (AB (decide (x4 < (x5.length : Int)))) (r_nil ?_))))))
 refine cF hF (fun hF => ?_) fun hF => ?_
 ·
  refine w_skip (thenQ_n (w_seq (w_block (ws 257 705 (qr (.sl 0 0 x5.length) (qr (AI x4) (qr (AI x3) (bk hF fun u0 e0 hF => qC (AS u0) [(0, .row true 6 (x5.map eItem))] (con_laws_markText e0) c56_ (bk hF fun u1 e1 hF => qp (.ptr 0 x4.toNat 0) (ev_iad_r rfl (by simp) rfl rfl e1) (qr (.ptr 0 x4.toNat 0) (qf0 (.undef) (K4b x5 x4 u0 u1) (effT_st rfl rfl (ix_some e1).2 rfl rfl (by rfl) (by first | rfl | simp [patch, reb, List.take_of_length_le]) (by rfl) rfl) (r_nil (ws 705 897 ?_)))))))))))))
  refine qr (AI x3) (qr (AI (w64 (x3 + 1))) (qr (AI (w64 (x3 + 1))) (r_nil (ws 897 1281 (qr (.sl 0 0 x5.length) (qr (AI x4) (qr (AI (w64 (x3 + 1))) (bk hF fun u2 e2 hF => qp (.ptr 0 x4.toNat 0) (ev_iad_r rfl (by simp) rfl rfl e2) (qr (.ptr 0 x4.toNat 1) (qf0 (.undef) (K4c x5 x4 u0 u1 u2 x3) (effT_st rfl rfl (ix_some e2).2 rfl rfl (by rfl) (by first | rfl | simp [patch, reb, List.take_of_length_le]) (by rfl) rfl) (r_nil ?_)))))))))))
  refine ws 1281 1473 (qr (AI (w64 (x3 + 1))) (qr (AI (w64 ((w64 (x3 + 1)) + 1))) (qr (AI (w64 ((w64 (x3 + 1)) + 1))) (r_nil (ws 1473 1857 ?_)))))
  refine qr (.sl 0 0 x5.length) (qr (AI x4) (qr (AI (w64 ((w64 (x3 + 1)) + 1))) (bk hF fun u3 e3 hF => qp (.ptr 0 x4.toNat 0) (ev_iad_r rfl (by simp) rfl rfl e3) (qr (.ptr 0 x4.toNat 2) (qf0 (.undef) (K4d x5 x4 u0 u1 u2 x3 u3) (effT_st rfl rfl (ix_some e3).2 rfl rfl (by rfl) (by first | rfl | simp [patch, reb, List.take_of_length_le]) (by rfl) rfl) (r_nil (ws 1857 2049 (qr (AI (w64 ((w64 (x3 + 1)) + 1))) (qr (K4j x3) (qr (K4j x3) ?_))))))))))
  refine r_nil (ws 2049 2433 (qr (.sl 0 0 x5.length) (qr (AI x4) (qr (K4j x3) (bk hF fun u4 e4 hF => qp (.ptr 0 x4.toNat 0) (ev_iad_r rfl (by simp) rfl rfl e4) (qr (.ptr 0 x4.toNat 3) (qf0 (.undef) (K4e x5 x4 u0 u1 u2 x3 u3 u4) (effT_st rfl rfl (ix_some e4).2 rfl rfl (by rfl) (by first | rfl | simp [patch, reb, List.take_of_length_le]) (by rfl) rfl) (r_nil (ws 2433 2625 (qr (K4j x3) (qr (K4i x3) (qr (K4i x3) (r_nil (ws 2625 3009 ?_))))))))))))))
  refine qr (.sl 0 0 x5.length) (qr (AI x4) (qr (K4i x3) (bk hF fun u5 e5 hF => qp (.ptr 0 x4.toNat 0) (ev_iad_r rfl (by simp) rfl rfl e5) (qr (.ptr 0 x4.toNat 4) (qf0 (.undef) (K4f x5 x4 u0 u1 u2 x3 u3 u4 u5) (effT_st rfl rfl (ix_some e5).2 rfl rfl (by rfl) (by first | rfl | simp [patch, reb, List.take_of_length_le]) (by rfl) rfl) (r_nil (ws 3009 3201 (qr (K4i x3) (qr (K4h x3) (qr (K4h x3) (r_nil (ws 3201 3585 ?_))))))))))))
  refine qr (.sl 0 0 x5.length) (qr (AI x4) (qr (K4h x3) (bk hF fun u6 e6 hF => qp (.ptr 0 x4.toNat 0) (ev_iad_r rfl (by simp) rfl rfl e6) (qr (.ptr 0 x4.toNat 5) (qf0 (.undef) ((K4g x5 x4 u0 u1 u2 x3 u3 u4 u5 u6) :: (K4f x5 x4 u0 u1 u2 x3 u3 u4 u5)) (effT_st rfl rfl (ix_some e6).2 rfl rfl (by rfl) (by first | rfl | simp [patch, reb, List.take_of_length_le]) (by rfl) rfl) (r_nil (w_reg 3585 3777 rfl rfl ?_)))))))
  refine qr (K4h x3) (qr (AI (w64 ((w64 ((w64 ((w64 ((w64 ((w64 (x3 + 1)) + 1)) + 1)) + 1)) + 1)) + 1))) (qr (AI (w64 ((w64 ((w64 ((w64 ((w64 ((w64 (x3 + 1)) + 1)) + 1)) + 1)) + 1)) + 1))) ?_))
  refine r_nil (blockQ_n (thenQ_n (w_reg 3777 3969 rfl rfl (qr (AI x4) (qr (AI (w64 (x4 + 1))) (qr (AI (w64 (x4 + 1))) (r_nil (thenQ_n ?_))))))))
  refine ar (l' := [(0, .sl 0 0 (List.set (List.set (List.set (List.set (List.set (List.set x5 x4.toNat (u0, u1.2.1, u1.2.2.1, u1.2.2.2.1, u1.2.2.2.2.1, u1.2.2.2.2.2)) x4.toNat (u2.1, w64 (x3 + 1), u2.2.2.1, u2.2.2.2.1, u2.2.2.2.2.1, u2.2.2.2.2.2)) x4.toNat (u3.1, u3.2.1, w64 ((w64 (x3 + 1)) + 1), u3.2.2.2.1, u3.2.2.2.2.1, u3.2.2.2.2.2)) x4.toNat (u4.1, u4.2.1, u4.2.2.1, w64 ((w64 ((w64 (x3 + 1)) + 1)) + 1), u4.2.2.2.2.1, u4.2.2.2.2.2)) x4.toNat (u5.1, u5.2.1, u5.2.2.1, u5.2.2.2.1, w64 ((w64 ((w64 ((w64 (x3 + 1)) + 1)) + 1)) + 1), u5.2.2.2.2.2)) x4.toNat (u6.1, u6.2.1, u6.2.2.1, u6.2.2.2.1, u6.2.2.2.2.1, w64 ((w64 ((w64 ((w64 ((w64 (x3 + 1)) + 1)) + 1)) + 1)) + 1))).length), (1, AI (w64 ((w64 ((w64 ((w64 ((w64 ((w64 (x3 + 1)) + 1)) + 1)) + 1)) + 1)) + 1))), (5, AI (w64 (x4 + 1)))]) (L := [(K4g x5 x4 u0 u1 u2 x3 u3 u4 u5 u6)]) [0, 1, 5] [(0, 0)] 1 ⟨_, by rfl, hF⟩
 refine w_exit (thenQ_e (thenQ_e (blockQ_e (thenQ_n (ws 257 385 (qr (AI x3) (qr (AI x3) (r_nil (w_ret ?_)))))))))
 cases hF
 exact endM_r rfl rfl (by first | rfl | (simp [List.take_of_length_le]; first | exact ⟨rfl, rfl⟩ | rfl)) (by simp)

def c28 : MC := (sr [pT 4 (.mv (ci 0))] (.seq (sr [pT 5 (.mv (ci 0))] (.block 0 (.loop (.seq (sr [mvt 6 5, mvt 7 0, zT 8 7, bT 9 .lss t6 t8] (cx t9 0)) (.seq (.block 1 (sr [mvt 12 0, mvt 13 5, mvt 14 1, iT 15 12 13 5, pT 16 (.fad t15 0), ⟨none, none, (.f (.st t16 t14 1))⟩] (sr [mvt 17 1, bT 18 .add t17 (ci 1), mvt 1 18] (sr [mvt 19 0, mvt 20 5, mvt 21 1, dT 22 56 [t21], iT 23 19 20 5, pT 24 (.fad t23 1), ⟨none, none, (.f (.st t24 t22 1))⟩] (sr [mvt 25 1, bT 26 .add t25 (ci 1), mvt 1 26] (sr [mvt 27 0, mvt 28 5, mvt 29 1, dT 30 56 [t29], iT 31 27 28 5, pT 32 (.fad t31 2), ⟨none, none, (.f (.st t32 t30 1))⟩] (sr [mvt 33 1, bT 34 .add t33 (ci 1), mvt 1 34] (sr [mvt 35 0, mvt 36 5, mvt 37 1, iT 38 35 36 5, pT 39 (.fad t38 3), ⟨none, none, (.f (.st t39 t37 1))⟩] (sr [mvt 40 1, bT 41 .add t40 (ci 1), mvt 1 41] (sr [mvt 42 0, mvt 43 5, mvt 44 1, iT 45 42 43 5, pT 46 (.fad t45 4), ⟨none, none, (.f (.st t46 t44 1))⟩] (.reg [mvt 47 1, bT 48 .add t47 (ci 1), mvt 1 48]))))))))))) (.reg [mvt 10 5, bT 11 .add t10 (ci 1), mvt 5 11])))))) (sr [mvt 49 1, mvt 4 49] .ret)))
theorem c28_is : compFnM Tryz.prog 28 = some (c28, [(.tmp 4)]) := by kernel_rfl
theorem c28_ok : okFn Tryz.prog 28 = true := by kernel_rfl

def F_laws_markLessonS_l0 (k0 : Int × Int × (List TLesson) → Option ((List TLesson) × Int)) : Int × Int × (List TLesson) → Option ((List TLesson) × Int)
 | (x3, x4, x5) => (bif (decide (x4 < (x5.length : Int))) then ((ix x5 x4).bind fun u0 => ((F_laws_markText (w64 (x3 + 1))).bind fun u1 => ((ix (List.set x5 x4.toNat (x3, u0.2.1, u0.2.2.1, u0.2.2.2.1, u0.2.2.2.2)) x4).bind fun u2 => ((F_laws_markText (w64 ((w64 (x3 + 1)) + 1))).bind fun u3 => ((ix (List.set (List.set x5 x4.toNat (x3, u0.2.1, u0.2.2.1, u0.2.2.2.1, u0.2.2.2.2)) x4.toNat (u2.1, u1, u2.2.2.1, u2.2.2.2.1, u2.2.2.2.2)) x4).bind fun u4 => ((ix (List.set (List.set (List.set x5 x4.toNat (x3, u0.2.1, u0.2.2.1, u0.2.2.2.1, u0.2.2.2.2)) x4.toNat (u2.1, u1, u2.2.2.1, u2.2.2.2.1, u2.2.2.2.2)) x4.toNat (u4.1, u4.2.1, u3, u4.2.2.2.1, u4.2.2.2.2)) x4).bind fun u5 => ((ix (List.set (List.set (List.set (List.set x5 x4.toNat (x3, u0.2.1, u0.2.2.1, u0.2.2.2.1, u0.2.2.2.2)) x4.toNat (u2.1, u1, u2.2.2.1, u2.2.2.2.1, u2.2.2.2.2)) x4.toNat (u4.1, u4.2.1, u3, u4.2.2.2.1, u4.2.2.2.2)) x4.toNat (u5.1, u5.2.1, u5.2.2.1, w64 ((w64 ((w64 (x3 + 1)) + 1)) + 1), u5.2.2.2.2)) x4).bind fun u6 => k0 (w64 ((w64 ((w64 ((w64 ((w64 (x3 + 1)) + 1)) + 1)) + 1)) + 1), w64 (x4 + 1), List.set (List.set (List.set (List.set (List.set x5 x4.toNat (x3, u0.2.1, u0.2.2.1, u0.2.2.2.1, u0.2.2.2.2)) x4.toNat (u2.1, u1, u2.2.2.1, u2.2.2.2.1, u2.2.2.2.2)) x4.toNat (u4.1, u4.2.1, u3, u4.2.2.2.1, u4.2.2.2.2)) x4.toNat (u5.1, u5.2.1, u5.2.2.1, w64 ((w64 ((w64 (x3 + 1)) + 1)) + 1), u5.2.2.2.2)) x4.toNat (u6.1, u6.2.1, u6.2.2.1, u6.2.2.2.1, w64 ((w64 ((w64 ((w64 (x3 + 1)) + 1)) + 1)) + 1))))))))))
 else some (x5, x3))
def F_laws_markLessonS (v0 : List TLesson) (v1 : Int) : Option ((List TLesson) × Int) :=
 loop (F_laws_markLessonS_l0) (v1, 0, v0)
@[simp] abbrev K4k (x5 : List TLesson) (x4 : Int) (x3 : Int) (u0 : TLesson) : List (Nat × Root) := [(0, .row true 5 ((List.set x5 x4.toNat (x3, u0.2.1, u0.2.2.1, u0.2.2.2.1, u0.2.2.2.2)).map eLesson)), (0, .row true 5 (x5.map eLesson))]
@[simp] abbrev K4l (x5 : List TLesson) (x4 : Int) (x3 : Int) (u0 : TLesson) (u2 : TLesson) (u1 : List UInt8) : List (Nat × Root) := ((0, .row true 5 ((List.set (List.set x5 x4.toNat (x3, u0.2.1, u0.2.2.1, u0.2.2.2.1, u0.2.2.2.2)) x4.toNat (u2.1, u1, u2.2.2.1, u2.2.2.2.1, u2.2.2.2.2)).map eLesson)) :: (K4k x5 x4 x3 u0))
@[simp] abbrev K4m (x5 : List TLesson) (x4 : Int) (x3 : Int) (u0 : TLesson) (u2 : TLesson) (u1 : List UInt8) (u4 : TLesson) (u3 : List UInt8) : List (Nat × Root) := ((0, .row true 5 ((List.set (List.set (List.set x5 x4.toNat (x3, u0.2.1, u0.2.2.1, u0.2.2.2.1, u0.2.2.2.2)) x4.toNat (u2.1, u1, u2.2.2.1, u2.2.2.2.1, u2.2.2.2.2)) x4.toNat (u4.1, u4.2.1, u3, u4.2.2.2.1, u4.2.2.2.2)).map eLesson)) :: (K4l x5 x4 x3 u0 u2 u1))
@[simp] abbrev K4n (x5 : List TLesson) (x4 : Int) (x3 : Int) (u0 : TLesson) (u2 : TLesson) (u1 : List UInt8) (u4 : TLesson) (u3 : List UInt8) (u5 : TLesson) : List (Nat × Root) := ((0, .row true 5 ((List.set (List.set (List.set (List.set x5 x4.toNat (x3, u0.2.1, u0.2.2.1, u0.2.2.2.1, u0.2.2.2.2)) x4.toNat (u2.1, u1, u2.2.2.1, u2.2.2.2.1, u2.2.2.2.2)) x4.toNat (u4.1, u4.2.1, u3, u4.2.2.2.1, u4.2.2.2.2)) x4.toNat (u5.1, u5.2.1, u5.2.2.1, w64 ((w64 ((w64 (x3 + 1)) + 1)) + 1), u5.2.2.2.2)).map eLesson)) :: (K4m x5 x4 x3 u0 u2 u1 u4 u3))
@[simp] abbrev K4o (x5 : List TLesson) (x4 : Int) (x3 : Int) (u0 : TLesson) (u2 : TLesson) (u1 : List UInt8) (u4 : TLesson) (u3 : List UInt8) (u5 : TLesson) (u6 : TLesson) : Nat × Root := (0, .row true 5 ((List.set (List.set (List.set (List.set (List.set x5 x4.toNat (x3, u0.2.1, u0.2.2.1, u0.2.2.2.1, u0.2.2.2.2)) x4.toNat (u2.1, u1, u2.2.2.1, u2.2.2.2.1, u2.2.2.2.2)) x4.toNat (u4.1, u4.2.1, u3, u4.2.2.2.1, u4.2.2.2.2)) x4.toNat (u5.1, u5.2.1, u5.2.2.1, w64 ((w64 ((w64 (x3 + 1)) + 1)) + 1), u5.2.2.2.2)) x4.toNat (u6.1, u6.2.1, u6.2.2.1, u6.2.2.2.1, w64 ((w64 ((w64 ((w64 (x3 + 1)) + 1)) + 1)) + 1))).map eLesson))
@[simp] abbrev K4p (x3 : Int) : AV := AI (w64 ((w64 ((w64 ((w64 (x3 + 1)) + 1)) + 1)) + 1))
@[simp] abbrev K4q (x3 : Int) : AV := AI (w64 ((w64 ((w64 (x3 + 1)) + 1)) + 1))
theorem con_laws_markLessonS {v0 : List TLesson} {v1 : Int} {r : (List TLesson) × Int} (hF : F_laws_markLessonS v0 v1 = some r) : ConM Tryz.prog 28 (.one (.row true 5 (v0.map eLesson))) (.one (.row true 5 (r.1.map eLesson))) [.int .i64 v1] (.int .i64 r.2) := by
 unfold F_laws_markLessonS at hF
 refine conM_of (av := .sl 0 0 v0.length) (L := [(0, .row true 5 (v0.map eLesson))]) c28_is rfl rfl rfl (by simp) fun N => ?_
 refine ws 64 128 (qr (AI 0) (r_nil (w_seq (ws 128 192 (qr (AI 0) (r_nil (w_block ?_)))))))
 refine wr (l' := [(0, .sl 0 0 v0.length), (1, AI v1), (5, AI 0)]) (L := [(0, .row true 5 (v0.map eLesson))]) [0, 1, 5] [(0, 0)] 1 ?_
 refine w_loopF (F_laws_markLessonS_l0) (fun s : Int × Int × (List TLesson) => mkS [(0, .sl 0 0 s.2.2.length), (1, AI s.1), (5, AI s.2.1)] (fo [(0, .row true 5 (s.2.2.map eLesson))]) 1) hF ?_
 rintro k0 ⟨x3, x4, x5⟩ hF
 rw [F_laws_markLessonS_l0] at hF
 try dsimp only
 refine w_seq (ws 1 257 (qr (AI x4) (qr (.sl 0 0 x5.length) (qr (AI (x5.length : Int)) (qr (AB (decide (x4 < (x5.length : Int)))) (r_nil ?_))))))
 refine cF hF (fun hF => ?_) fun hF => ?_
 ·
  refine w_skip (thenQ_n (w_seq (w_block (ws 257 641 (qr (.sl 0 0 x5.length) (qr (AI x4) (qr (AI x3) (bk hF fun u0 e0 hF => qp (.ptr 0 x4.toNat 0) (ev_iad_r rfl (by simp) rfl rfl e0) (qr (.ptr 0 x4.toNat 0) (qf0 (.undef) (K4k x5 x4 x3 u0) (effT_st rfl rfl (ix_some e0).2 rfl rfl (by rfl) (by first | rfl | simp [patch, reb, List.take_of_length_le]) (by rfl) rfl) (r_nil (ws 641 833 ?_))))))))))))
  refine qr (AI x3) (qr (AI (w64 (x3 + 1))) (qr (AI (w64 (x3 + 1))) (r_nil (ws 833 1281 (qr (.sl 0 0 x5.length) (qr (AI x4) (qr (AI (w64 (x3 + 1))) (bk hF fun u1 e1 hF => qC (AS u1) (K4k x5 x4 x3 u0) (con_laws_markText e1) c56_ (bk hF fun u2 e2 hF => qp (.ptr 0 x4.toNat 0) (ev_iad_r rfl (by simp) rfl rfl e2) (qr (.ptr 0 x4.toNat 1) (qf0 (.undef) (K4l x5 x4 x3 u0 u2 u1) (effT_st rfl rfl (ix_some e2).2 rfl rfl (by rfl) (by first | rfl | simp [patch, reb, List.take_of_length_le]) (by rfl) rfl) (r_nil ?_))))))))))))
  refine ws 1281 1473 (qr (AI (w64 (x3 + 1))) (qr (AI (w64 ((w64 (x3 + 1)) + 1))) (qr (AI (w64 ((w64 (x3 + 1)) + 1))) (r_nil (ws 1473 1921 ?_)))))
  refine qr (.sl 0 0 x5.length) (qr (AI x4) (qr (AI (w64 ((w64 (x3 + 1)) + 1))) (bk hF fun u3 e3 hF => qC (AS u3) (K4l x5 x4 x3 u0 u2 u1) (con_laws_markText e3) c56_ (bk hF fun u4 e4 hF => qp (.ptr 0 x4.toNat 0) (ev_iad_r rfl (by simp) rfl rfl e4) (qr (.ptr 0 x4.toNat 2) (qf0 (.undef) (K4m x5 x4 x3 u0 u2 u1 u4 u3) (effT_st rfl rfl (ix_some e4).2 rfl rfl (by rfl) (by first | rfl | simp [patch, reb, List.take_of_length_le]) (by rfl) rfl) (r_nil (ws 1921 2113 (qr (AI (w64 ((w64 (x3 + 1)) + 1))) (qr (K4q x3) (qr (K4q x3) ?_)))))))))))
  refine r_nil (ws 2113 2497 (qr (.sl 0 0 x5.length) (qr (AI x4) (qr (K4q x3) (bk hF fun u5 e5 hF => qp (.ptr 0 x4.toNat 0) (ev_iad_r rfl (by simp) rfl rfl e5) (qr (.ptr 0 x4.toNat 3) (qf0 (.undef) (K4n x5 x4 x3 u0 u2 u1 u4 u3 u5) (effT_st rfl rfl (ix_some e5).2 rfl rfl (by rfl) (by first | rfl | simp [patch, reb, List.take_of_length_le]) (by rfl) rfl) (r_nil (ws 2497 2689 (qr (K4q x3) (qr (K4p x3) (qr (K4p x3) (r_nil (ws 2689 3073 ?_))))))))))))))
  refine qr (.sl 0 0 x5.length) (qr (AI x4) (qr (K4p x3) (bk hF fun u6 e6 hF => qp (.ptr 0 x4.toNat 0) (ev_iad_r rfl (by simp) rfl rfl e6) (qr (.ptr 0 x4.toNat 4) (qf0 (.undef) ((K4o x5 x4 x3 u0 u2 u1 u4 u3 u5 u6) :: (K4n x5 x4 x3 u0 u2 u1 u4 u3 u5)) (effT_st rfl rfl (ix_some e6).2 rfl rfl (by rfl) (by first | rfl | simp [patch, reb, List.take_of_length_le]) (by rfl) rfl) (r_nil (w_reg 3073 3265 rfl rfl ?_)))))))
  refine qr (K4p x3) (qr (AI (w64 ((w64 ((w64 ((w64 ((w64 (x3 + 1)) + 1)) + 1)) + 1)) + 1))) (qr (AI (w64 ((w64 ((w64 ((w64 ((w64 (x3 + 1)) + 1)) + 1)) + 1)) + 1))) (r_nil ?_)))
  refine blockQ_n (thenQ_n (w_reg 3265 3457 rfl rfl (qr (AI x4) (qr (AI (w64 (x4 + 1))) (qr (AI (w64 (x4 + 1))) (r_nil (thenQ_n ?_)))))))
  refine ar (l' := [(0, .sl 0 0 (List.set (List.set (List.set (List.set (List.set x5 x4.toNat (x3, u0.2.1, u0.2.2.1, u0.2.2.2.1, u0.2.2.2.2)) x4.toNat (u2.1, u1, u2.2.2.1, u2.2.2.2.1, u2.2.2.2.2)) x4.toNat (u4.1, u4.2.1, u3, u4.2.2.2.1, u4.2.2.2.2)) x4.toNat (u5.1, u5.2.1, u5.2.2.1, w64 ((w64 ((w64 (x3 + 1)) + 1)) + 1), u5.2.2.2.2)) x4.toNat (u6.1, u6.2.1, u6.2.2.1, u6.2.2.2.1, w64 ((w64 ((w64 ((w64 (x3 + 1)) + 1)) + 1)) + 1))).length), (1, AI (w64 ((w64 ((w64 ((w64 ((w64 (x3 + 1)) + 1)) + 1)) + 1)) + 1))), (5, AI (w64 (x4 + 1)))]) (L := [(K4o x5 x4 x3 u0 u2 u1 u4 u3 u5 u6)]) [0, 1, 5] [(0, 0)] 1 ⟨_, by rfl, hF⟩
 refine w_exit (thenQ_e (thenQ_e (blockQ_e (thenQ_n (ws 257 385 (qr (AI x3) (qr (AI x3) (r_nil (w_ret ?_)))))))))
 cases hF
 exact endM_r rfl rfl (by first | rfl | (simp [List.take_of_length_le]; first | exact ⟨rfl, rfl⟩ | rfl)) (by simp)

def c57 : MC := (sr [pT 4 (.mv (ci 0))] (.seq (sr [pT 5 (.mv (ci 0))] (.block 0 (.loop (.seq (sr [mvt 6 5, mvt 7 0, zT 8 7, bT 9 .lss t6 t8] (cx t9 0)) (.seq (.block 1 (sr [mvt 12 0, mvt 13 5, mvt 14 1, dT 15 56 [t14], iT 16 12 13 1, ⟨none, none, (.f (.st t16 t15 1))⟩] (.reg [mvt 17 1, bT 18 .add t17 (ci 1), mvt 1 18]))) (.reg [mvt 10 5, bT 11 .add t10 (ci 1), mvt 5 11])))))) (sr [mvt 19 1, mvt 4 19] .ret)))
theorem c57_is : compFnM Tryz.prog 57 = some (c57, [(.tmp 4)]) := by kernel_rfl
theorem c57_ok : okFn Tryz.prog 57 = true := by kernel_rfl

def F_laws_markStringS_l0 (k0 : Int × Int × (List (List UInt8)) → Option ((List (List UInt8)) × Int)) : Int × Int × (List (List UInt8)) → Option ((List (List UInt8)) × Int)
 | (x3, x4, x5) => (bif (decide (x4 < (x5.length : Int))) then ((F_laws_markText x3).bind fun u0 => ((ix x5 x4).bind fun u1 => k0 (w64 (x3 + 1), w64 (x4 + 1), List.set x5 x4.toNat u0)))
 else some (x5, x3))
def F_laws_markStringS (v0 : List (List UInt8)) (v1 : Int) : Option ((List (List UInt8)) × Int) :=
 loop (F_laws_markStringS_l0) (v1, 0, v0)
theorem con_laws_markStringS {v0 : List (List UInt8)} {v1 : Int} {r : (List (List UInt8)) × Int} (hF : F_laws_markStringS v0 v1 = some r) : ConM Tryz.prog 57 (.one (.row true 1 (v0.map V.str))) (.one (.row true 1 (r.1.map V.str))) [.int .i64 v1] (.int .i64 r.2) := by
 unfold F_laws_markStringS at hF
 refine conM_of (av := .sl 0 0 v0.length) (L := [(0, .row true 1 (v0.map V.str))]) c57_is rfl rfl rfl (by simp) fun N => ?_
 refine ws 64 128 (qr (AI 0) (r_nil (w_seq (ws 128 192 (qr (AI 0) (r_nil (w_block ?_)))))))
 refine wr (l' := [(0, .sl 0 0 v0.length), (1, AI v1), (5, AI 0)]) (L := [(0, .row true 1 (v0.map V.str))]) [0, 1, 5] [(0, 0)] 1 ?_
 refine w_loopF (F_laws_markStringS_l0) (fun s : Int × Int × (List (List UInt8)) => mkS [(0, .sl 0 0 s.2.2.length), (1, AI s.1), (5, AI s.2.1)] (fo [(0, .row true 1 (s.2.2.map V.str))]) 1) hF ?_
 rintro k0 ⟨x3, x4, x5⟩ hF
 rw [F_laws_markStringS_l0] at hF
 try dsimp only
 refine w_seq (ws 1 257 (qr (AI x4) (qr (.sl 0 0 x5.length) (qr (AI (x5.length : Int)) (qr (AB (decide (x4 < (x5.length : Int)))) (r_nil ?_))))))
 refine cF hF (fun hF => ?_) fun hF => ?_
 ·
  refine w_skip (thenQ_n (w_seq (w_block (ws 257 641 (qr (.sl 0 0 x5.length) (qr (AI x4) (qr (AI x3) (bk hF fun u0 e0 hF => qC (AS u0) [(0, .row true 1 (x5.map V.str))] (con_laws_markText e0) c56_ (bk hF fun u1 e1 hF => qp (.ptr 0 x4.toNat 0) (ev_iad_r rfl (by simp) rfl rfl e1) (qf0 (.undef) [(0, .row true 1 ((List.set x5 x4.toNat u0).map V.str)), (0, .row true 1 (x5.map V.str))] (effT_st rfl rfl (ix_some e1).2 rfl rfl (by rfl) (by first | rfl | simp [patch, reb, List.take_of_length_le]) (by rfl) rfl) (r_nil (w_reg 641 833 rfl rfl ?_))))))))))))
  refine qr (AI x3) (qr (AI (w64 (x3 + 1))) (qr (AI (w64 (x3 + 1))) (r_nil (blockQ_n (thenQ_n (w_reg 833 1025 rfl rfl (qr (AI x4) (qr (AI (w64 (x4 + 1))) (qr (AI (w64 (x4 + 1))) ?_)))))))))
  refine r_nil (thenQ_n ?_)
  refine ar (l' := [(0, .sl 0 0 (List.set x5 x4.toNat u0).length), (1, AI (w64 (x3 + 1))), (5, AI (w64 (x4 + 1)))]) (L := [(0, .row true 1 ((List.set x5 x4.toNat u0).map V.str))]) [0, 1, 5] [(0, 0)] 1 ⟨_, by rfl, hF⟩
 refine w_exit (thenQ_e (thenQ_e (blockQ_e (thenQ_n (ws 257 385 (qr (AI x3) (qr (AI x3) (r_nil (w_ret ?_)))))))))
 cases hF
 exact endM_r rfl rfl (by first | rfl | (simp [List.take_of_length_le]; first | exact ⟨rfl, rfl⟩ | rfl)) (by simp)

def c29 : MC := (sr [pT 4 (.mv (ci 0))] (.seq (sr [pT 5 (.mv (ci 0))] (.block 0 (.loop (.seq (sr [mvt 6 5, mvt 7 0, zT 8 7, bT 9 .lss t6 t8] (cx t9 0)) (.seq (.block 1 (sr [mvt 12 0, mvt 13 5, mvt 14 1, dT 15 56 [t14], iT 16 12 13 3, pT 17 (.fad t16 0), ⟨none, none, (.f (.st t17 t15 1))⟩] (sr [mvt 18 1, bT 19 .add t18 (ci 1), mvt 1 19] (sr [mvt 20 0, mvt 21 5, mvt 22 1, iT 23 20 21 3, pT 24 (.fad t23 1), ⟨none, none, (.f (.st t24 t22 1))⟩] (sr [mvt 25 1, bT 26 .add t25 (ci 1), mvt 1 26] (.reg [mvt 27 0, mvt 28 5, iT 29 27 28 3, pT 30 (.fad t29 2), lT 31 30, mvt 32 1, dT 33 57 [t31, t32], mvt 1 33])))))) (.reg [mvt 10 5, bT 11 .add t10 (ci 1), mvt 5 11])))))) (sr [mvt 34 1, mvt 4 34] .ret)))
theorem c29_is : compFnM Tryz.prog 29 = some (c29, [(.tmp 4)]) := by kernel_rfl
theorem c29_ok : okFn Tryz.prog 29 = true := by kernel_rfl

def F_laws_markPersonS_l0 (k0 : Int × Int × (List TPerson) → Option ((List TPerson) × Int)) : Int × Int × (List TPerson) → Option ((List TPerson) × Int)
 | (x3, x4, x5) => (bif (decide (x4 < (x5.length : Int))) then ((F_laws_markText x3).bind fun u0 => ((ix x5 x4).bind fun u1 => ((ix (List.set x5 x4.toNat (u0, u1.2.1, u1.2.2)) x4).bind fun u2 => ((ix (List.set (List.set x5 x4.toNat (u0, u1.2.1, u1.2.2)) x4.toNat (u2.1, w64 (x3 + 1), u2.2.2)) x4).bind fun u3 => ((F_laws_markStringS u3.2.2 (w64 ((w64 (x3 + 1)) + 1))).bind fun u4 => need (u4.1.length = u3.2.2.length) (k0 (u4.2, w64 (x4 + 1), List.set (List.set (List.set x5 x4.toNat (u0, u1.2.1, u1.2.2)) x4.toNat (u2.1, w64 (x3 + 1), u2.2.2)) x4.toNat (u3.1, u3.2.1, u4.1))))))))
 else some (x5, x3))
def F_laws_markPersonS (v0 : List TPerson) (v1 : Int) : Option ((List TPerson) × Int) :=
 loop (F_laws_markPersonS_l0) (v1, 0, v0)
@[simp] abbrev K4r (x5 : List TPerson) (x4 : Int) (u0 : List UInt8) (u1 : TPerson) : List (Nat × Root) := [(0, .row true 3 ((List.set x5 x4.toNat (u0, u1.2.1, u1.2.2)).map ePerson)), (0, .row true 3 (x5.map ePerson))]
@[simp] abbrev K4s (x5 : List TPerson) (x4 : Int) (u0 : List UInt8) (u1 : TPerson) (u2 : TPerson) (x3 : Int) : List (Nat × Root) := ((0, .row true 3 ((List.set (List.set x5 x4.toNat (u0, u1.2.1, u1.2.2)) x4.toNat (u2.1, w64 (x3 + 1), u2.2.2)).map ePerson)) :: (K4r x5 x4 u0 u1))
theorem con_laws_markPersonS {v0 : List TPerson} {v1 : Int} {r : (List TPerson) × Int} (hF : F_laws_markPersonS v0 v1 = some r) : ConM Tryz.prog 29 (.one (.row true 3 (v0.map ePerson))) (.one (.row true 3 (r.1.map ePerson))) [.int .i64 v1] (.int .i64 r.2) := by
 unfold F_laws_markPersonS at hF
 refine conM_of (av := .sl 0 0 v0.length) (L := [(0, .row true 3 (v0.map ePerson))]) c29_is rfl rfl rfl (by simp) fun N => ?_
 refine ws 64 128 (qr (AI 0) (r_nil (w_seq (ws 128 192 (qr (AI 0) (r_nil (w_block ?_)))))))
 refine wr (l' := [(0, .sl 0 0 v0.length), (1, AI v1), (5, AI 0)]) (L := [(0, .row true 3 (v0.map ePerson))]) [0, 1, 5] [(0, 0)] 1 ?_
 refine w_loopF (F_laws_markPersonS_l0) (fun s : Int × Int × (List TPerson) => mkS [(0, .sl 0 0 s.2.2.length), (1, AI s.1), (5, AI s.2.1)] (fo [(0, .row true 3 (s.2.2.map ePerson))]) 1) hF ?_
 rintro k0 ⟨x3, x4, x5⟩ hF
 rw [F_laws_markPersonS_l0] at hF
 try dsimp only
 refine w_seq (ws 1 257 (qr (AI x4) (qr (.sl 0 0 x5.length) (qr (AI (x5.length : Int)) (qr (AB (decide (x4 < (x5.length : Int)))) (r_nil ?_))))))
 refine cF hF (fun hF => ?_) fun hF => ?_
 ·
  refine w_skip (thenQ_n (w_seq (w_block (ws 257 705 (qr (.sl 0 0 x5.length) (qr (AI x4) (qr (AI x3) (bk hF fun u0 e0 hF => qC (AS u0) [(0, .row true 3 (x5.map ePerson))] (con_laws_markText e0) c56_ (bk hF fun u1 e1 hF => qp (.ptr 0 x4.toNat 0) (ev_iad_r rfl (by simp) rfl rfl e1) (qr (.ptr 0 x4.toNat 0) (qf0 (.undef) (K4r x5 x4 u0 u1) (effT_st rfl rfl (ix_some e1).2 rfl rfl (by rfl) (by first | rfl | simp [patch, reb, List.take_of_length_le]) (by rfl) rfl) (r_nil (ws 705 897 ?_)))))))))))))
  refine qr (AI x3) (qr (AI (w64 (x3 + 1))) (qr (AI (w64 (x3 + 1))) (r_nil (ws 897 1281 (qr (.sl 0 0 x5.length) (qr (AI x4) (qr (AI (w64 (x3 + 1))) (bk hF fun u2 e2 hF => qp (.ptr 0 x4.toNat 0) (ev_iad_r rfl (by simp) rfl rfl e2) (qr (.ptr 0 x4.toNat 1) (qf0 (.undef) (K4s x5 x4 u0 u1 u2 x3) (effT_st rfl rfl (ix_some e2).2 rfl rfl (by rfl) (by first | rfl | simp [patch, reb, List.take_of_length_le]) (by rfl) rfl) (r_nil ?_)))))))))))
  refine ws 1281 1473 (qr (AI (w64 (x3 + 1))) (qr (AI (w64 ((w64 (x3 + 1)) + 1))) (qr (AI (w64 ((w64 (x3 + 1)) + 1))) (r_nil (w_reg 1473 1985 rfl rfl (qr (.sl 0 0 x5.length) (qr (AI x4) (bk hF fun u3 e3 hF => ?_))))))))
  refine qp (.ptr 0 x4.toNat 0) (ev_iad_r rfl (by simp) rfl rfl e3) (qr (.ptr 0 x4.toNat 2) (bk hF fun u4 e4 hF => nk hF fun g5 hF => qm_l ((0, .row true 3 ((List.set (List.set (List.set x5 x4.toNat (u0, u1.2.1, u1.2.2)) x4.toNat (u2.1, w64 (x3 + 1), u2.2.2)) x4.toNat (u3.1, u3.2.1, u4.1)).map ePerson)) :: (K4s x5 x4 u0 u1 u2 x3)) rfl rfl (map_get (ix_some e3).2) rfl rfl rfl (con_laws_markStringS e4) c57_ok (by simp [g5]) rfl rfl rfl (by simp [scrO_fo, scrR, scrA, scrAs, patch, reb, List.map_set]) (qr (AI u4.2) (r_nil (blockQ_n (thenQ_n (w_reg 1985 2177 rfl rfl (qr (AI x4) (qr (AI (w64 (x4 + 1))) (qr (AI (w64 (x4 + 1))) (r_nil (thenQ_n ?_))))))))))))
  refine ar (l' := [(0, .sl 0 0 (List.set (List.set (List.set x5 x4.toNat (u0, u1.2.1, u1.2.2)) x4.toNat (u2.1, w64 (x3 + 1), u2.2.2)) x4.toNat (u3.1, u3.2.1, u4.1)).length), (1, AI u4.2), (5, AI (w64 (x4 + 1)))]) (L := [(0, .row true 3 ((List.set (List.set (List.set x5 x4.toNat (u0, u1.2.1, u1.2.2)) x4.toNat (u2.1, w64 (x3 + 1), u2.2.2)) x4.toNat (u3.1, u3.2.1, u4.1)).map ePerson))]) [0, 1, 5] [(0, 0)] 1 ⟨_, by rfl, hF⟩
 refine w_exit (thenQ_e (thenQ_e (blockQ_e (thenQ_n (ws 257 385 (qr (AI x3) (qr (AI x3) (r_nil (w_ret ?_)))))))))
 cases hF
 exact endM_r rfl rfl (by first | rfl | (simp [List.take_of_length_le]; first | exact ⟨rfl, rfl⟩ | rfl)) (by simp)

def c7 : MC := (sr [rg 2 (.f (.box t0)), pT 4 (.mv (ci 0))] (sr [pT 5 (.fad t2 0), pT 6 (.ld t5 6 true), mvt 7 1, dT 8 21 [t6, t7], mvt 1 8] (sr [pT 9 (.fad t2 6), lT 10 9, mvt 11 1, dT 12 22 [t10, t11], mvt 1 12] (sr [pT 13 (.fad t2 7), pT 14 (.ld t13 2 true), mvt 15 1, dT 16 23 [t14, t15], mvt 1 16] (sr [pT 17 (.fad t2 9), lT 18 17, mvt 19 1, dT 20 24 [t18, t19], mvt 1 20] (sr [pT 21 (.fad t2 10), lT 22 21, mvt 23 1, dT 24 25 [t22, t23], mvt 1 24] (sr [pT 25 (.fad t2 11), lT 26 25, mvt 27 1, dT 28 26 [t26, t27], mvt 1 28] (sr [pT 29 (.fad t2 12), lT 30 29, mvt 31 1, dT 32 27 [t30, t31], mvt 1 32] (sr [pT 33 (.fad t2 13), lT 34 33, mvt 35 1, dT 36 28 [t34, t35], mvt 1 36] (sr [pT 37 (.fad t2 14), lT 38 37, mvt 39 1, dT 40 29 [t38, t39], mvt 1 40] (sr [mvt 41 1, mvt 4 41] .ret)))))))))))
theorem c7_is : compFnM Tryz.prog 7 = some (c7, [(.tmp 4)]) := by kernel_rfl
theorem c7_ok : okFn Tryz.prog 7 = true := by kernel_rfl

def F_laws_markDesk (v0 : TDesk) (v1 : Int) : Option (TDesk × Int) :=
 ((F_laws_markRaga (v0.1, v0.2.1, v0.2.2.1, v0.2.2.2.1, v0.2.2.2.2.1, v0.2.2.2.2.2.1) v1).bind fun u0 => need (u0.1.2.1.length = v0.2.1.length) (need (u0.1.2.2.1.length = v0.2.2.1.length) (need (u0.1.2.2.2.2.2.length = v0.2.2.2.2.2.1.length) (((F_laws_markNoteS v0.2.2.2.2.2.2.1 u0.2).bind fun u7 => need (u7.1.length = v0.2.2.2.2.2.2.1.length) (((F_laws_markTuning (v0.2.2.2.2.2.2.2.1, v0.2.2.2.2.2.2.2.2.1) u7.2).bind fun u9 => need (u9.1.2.length = v0.2.2.2.2.2.2.2.2.1.length) (((F_laws_markInt64SS v0.2.2.2.2.2.2.2.2.2.1 u9.2).bind fun u12 => need (u12.1.length = v0.2.2.2.2.2.2.2.2.2.1.length) (((F_laws_markSyllableS v0.2.2.2.2.2.2.2.2.2.2.1 u12.2).bind fun u14 => need (u14.1.length = v0.2.2.2.2.2.2.2.2.2.2.1.length) (((F_laws_markTempoMarkS v0.2.2.2.2.2.2.2.2.2.2.2.1 u14.2).bind fun u16 => need (u16.1.length = v0.2.2.2.2.2.2.2.2.2.2.2.1.length) (((F_laws_markItemS v0.2.2.2.2.2.2.2.2.2.2.2.2.1 u16.2).bind fun u18 => need (u18.1.length = v0.2.2.2.2.2.2.2.2.2.2.2.2.1.length) (((F_laws_markLessonS v0.2.2.2.2.2.2.2.2.2.2.2.2.2.1 u18.2).bind fun u20 => need (u20.1.length = v0.2.2.2.2.2.2.2.2.2.2.2.2.2.1.length) (((F_laws_markPersonS v0.2.2.2.2.2.2.2.2.2.2.2.2.2.2 u20.2).bind fun u22 => need (u22.1.length = v0.2.2.2.2.2.2.2.2.2.2.2.2.2.2.length) (some ((v0.1, u0.1.2.1, u0.1.2.2.1, v0.2.2.2.1, v0.2.2.2.2.1, u0.1.2.2.2.2.2, u7.1, v0.2.2.2.2.2.2.2.1, u9.1.2, u12.1, u14.1, u16.1, u18.1, u20.1, u22.1), u22.2)))))))))))))))))))))
@[simp] abbrev K4t (v0 : TDesk) : List (Nat × Root) := [(14, .row true 3 (v0.2.2.2.2.2.2.2.2.2.2.2.2.2.2.map ePerson)), (13, .row true 5 (v0.2.2.2.2.2.2.2.2.2.2.2.2.2.1.map eLesson)), (12, .row true 6 (v0.2.2.2.2.2.2.2.2.2.2.2.2.1.map eItem)), (11, .row true 2 (v0.2.2.2.2.2.2.2.2.2.2.2.1.map eNote)), (10, .row true 3 (v0.2.2.2.2.2.2.2.2.2.2.1.map eSyllable)), (9, .row true 1 (v0.2.2.2.2.2.2.2.2.2.1.map (eL 1 vI))), (8, .row true 2 (v0.2.2.2.2.2.2.2.2.1.map eNote)), (6, .row true 2 (v0.2.2.2.2.2.2.1.map eNote)), (5, .row true 1 (v0.2.2.2.2.2.1.map (eL 1 vI))), (2, .row true 1 (v0.2.2.1.map vI)), (1, .row true 1 (v0.2.1.map vI))]
@[simp] abbrev K53 (v0 : TDesk) : List AV := [AS v0.1, .sl 1 0 v0.2.1.length, .sl 2 0 v0.2.2.1.length, AI v0.2.2.2.1, AI v0.2.2.2.2.1, .sl 5 0 v0.2.2.2.2.2.1.length, .sl 6 0 v0.2.2.2.2.2.2.1.length, AS v0.2.2.2.2.2.2.2.1, .sl 8 0 v0.2.2.2.2.2.2.2.2.1.length, .sl 9 0 v0.2.2.2.2.2.2.2.2.2.1.length, .sl 10 0 v0.2.2.2.2.2.2.2.2.2.2.1.length, .sl 11 0 v0.2.2.2.2.2.2.2.2.2.2.2.1.length, .sl 12 0 v0.2.2.2.2.2.2.2.2.2.2.2.2.1.length, .sl 13 0 v0.2.2.2.2.2.2.2.2.2.2.2.2.2.1.length, .sl 14 0 v0.2.2.2.2.2.2.2.2.2.2.2.2.2.2.length]
@[simp] abbrev K4u (v0 : TDesk) : List (Nat × Root) := ((64, .box (K53 v0)) :: (K4t v0))
@[simp] abbrev K4v (u0 : TRaga × Int) (v0 : TDesk) : List (Nat × Root) := ((1, .row true 1 (u0.1.2.1.map vI)) :: (2, .row true 1 (u0.1.2.2.1.map vI)) :: (5, .row true 1 (u0.1.2.2.2.2.2.map (eL 1 vI))) :: (K4u v0))
@[simp] abbrev K4x (u9 : TTuning × Int) (u7 : (List TNote) × Int) (u0 : TRaga × Int) (v0 : TDesk) : List (Nat × Root) := ((8, .row true 2 (u9.1.2.map eNote)) :: (6, .row true 2 (u7.1.map eNote)) :: (K4v u0 v0))
@[simp] abbrev K4y (u12 : (List (List Int)) × Int) (u9 : TTuning × Int) (u7 : (List TNote) × Int) (u0 : TRaga × Int) (v0 : TDesk) : List (Nat × Root) := ((9, .row true 1 (u12.1.map (eL 1 vI))) :: (K4x u9 u7 u0 v0))
@[simp] abbrev K50 (u16 : (List TNote) × Int) (u14 : (List TSyllable) × Int) (u12 : (List (List Int)) × Int) (u9 : TTuning × Int) (u7 : (List TNote) × Int) (u0 : TRaga × Int) (v0 : TDesk) : List (Nat × Root) := ((11, .row true 2 (u16.1.map eNote)) :: (10, .row true 3 (u14.1.map eSyllable)) :: (K4y u12 u9 u7 u0 v0))
@[simp] abbrev K52 (u20 : (List TLesson) × Int) (u18 : (List TItem) × Int) (u16 : (List TNote) × Int) (u14 : (List TSyllable) × Int) (u12 : (List (List Int)) × Int) (u9 : TTuning × Int) (u7 : (List TNote) × Int) (u0 : TRaga × Int) (v0 : TDesk) : List (Nat × Root) := ((13, .row true 5 (u20.1.map eLesson)) :: (12, .row true 6 (u18.1.map eItem)) :: (K50 u16 u14 u12 u9 u7 u0 v0))
theorem con_laws_markDesk {v0 : TDesk} {v1 : Int} {r : TDesk × Int} (hF : F_laws_markDesk v0 v1 = some r) : ConM Tryz.prog 7 (.agg [.val (.str v0.1), .row true 1 (v0.2.1.map vI), .row true 1 (v0.2.2.1.map vI), .val (.int .i64 v0.2.2.2.1), .val (.int .i64 v0.2.2.2.2.1), .row true 1 (v0.2.2.2.2.2.1.map (eL 1 vI)), .row true 2 (v0.2.2.2.2.2.2.1.map eNote), .val (.str v0.2.2.2.2.2.2.2.1), .row true 2 (v0.2.2.2.2.2.2.2.2.1.map eNote), .row true 1 (v0.2.2.2.2.2.2.2.2.2.1.map (eL 1 vI)), .row true 3 (v0.2.2.2.2.2.2.2.2.2.2.1.map eSyllable), .row true 2 (v0.2.2.2.2.2.2.2.2.2.2.2.1.map eNote), .row true 6 (v0.2.2.2.2.2.2.2.2.2.2.2.2.1.map eItem), .row true 5 (v0.2.2.2.2.2.2.2.2.2.2.2.2.2.1.map eLesson), .row true 3 (v0.2.2.2.2.2.2.2.2.2.2.2.2.2.2.map ePerson)]) (.agg [.val (.str r.1.1), .row true 1 (r.1.2.1.map vI), .row true 1 (r.1.2.2.1.map vI), .val (.int .i64 r.1.2.2.2.1), .val (.int .i64 r.1.2.2.2.2.1), .row true 1 (r.1.2.2.2.2.2.1.map (eL 1 vI)), .row true 2 (r.1.2.2.2.2.2.2.1.map eNote), .val (.str r.1.2.2.2.2.2.2.2.1), .row true 2 (r.1.2.2.2.2.2.2.2.2.1.map eNote), .row true 1 (r.1.2.2.2.2.2.2.2.2.2.1.map (eL 1 vI)), .row true 3 (r.1.2.2.2.2.2.2.2.2.2.2.1.map eSyllable), .row true 2 (r.1.2.2.2.2.2.2.2.2.2.2.2.1.map eNote), .row true 6 (r.1.2.2.2.2.2.2.2.2.2.2.2.2.1.map eItem), .row true 5 (r.1.2.2.2.2.2.2.2.2.2.2.2.2.2.1.map eLesson), .row true 3 (r.1.2.2.2.2.2.2.2.2.2.2.2.2.2.2.map ePerson)]) [.int .i64 v1] (.int .i64 r.2) := by
 unfold F_laws_markDesk at hF
 refine conM_of (av := .agg (K53 v0)) (L := (K4t v0)) c7_is rfl rfl rfl (by simp) fun N => ?_
 refine ws 64 192 (qf (.ptr 64 0 0) (K4u v0) (by simp) (qr (AI 0) (r_nil (ws 192 512 (qr (.ptr 64 0 0) (qr (.agg [AS v0.1, .sl 1 0 v0.2.1.length, .sl 2 0 v0.2.2.1.length, AI v0.2.2.2.1, AI v0.2.2.2.2.1, .sl 5 0 v0.2.2.2.2.2.1.length]) (qr (AI v1) (bk hF fun u0 e0 hF => nk hF fun g1 hF => nk hF fun g2 hF => nk hF fun g3 hF => ?_))))))))
 have g4 : u0.1.1 = v0.1 := by have h := e0; unfold F_laws_markRaga at h; obtain ⟨_, _, h⟩ := bind_get h; obtain ⟨_, h⟩ := need_some h; obtain ⟨_, _, h⟩ := bind_get h; obtain ⟨_, h⟩ := need_some h; obtain ⟨_, _, h⟩ := bind_get h; obtain ⟨_, h⟩ := need_some h; cases h; rfl
 have g5 : u0.1.2.2.2.1 = v0.2.2.2.1 := by have h := e0; unfold F_laws_markRaga at h; obtain ⟨_, _, h⟩ := bind_get h; obtain ⟨_, h⟩ := need_some h; obtain ⟨_, _, h⟩ := bind_get h; obtain ⟨_, h⟩ := need_some h; obtain ⟨_, _, h⟩ := bind_get h; obtain ⟨_, h⟩ := need_some h; cases h; rfl
 have g6 : u0.1.2.2.2.2.1 = v0.2.2.2.2.1 := by have h := e0; unfold F_laws_markRaga at h; obtain ⟨_, _, h⟩ := bind_get h; obtain ⟨_, h⟩ := need_some h; obtain ⟨_, _, h⟩ := bind_get h; obtain ⟨_, h⟩ := need_some h; obtain ⟨_, _, h⟩ := bind_get h; obtain ⟨_, h⟩ := need_some h; cases h; rfl
 refine qm (ls := [1, 2, 5]) (K4v u0 v0) (con_laws_markRaga e0) c21_ok (by first | rfl | simp [takeM, takeML, takeM1, g1, g2, g3, g4, g5, g6]) (by decide) (by simp [like2, likeL, like1, g1, g2, g3, g4, g5, g6]) rfl rfl rfl (by simp [scrO_fo, newO2, newO, scrR, scrA, scrAs]) (qr (AI u0.2) (r_nil (ws 512 832 (qr (.ptr 64 0 6) (qr (.sl 6 0 v0.2.2.2.2.2.2.1.length) (qr (AI u0.2) (bk hF fun u7 e7 hF => nk hF fun g8 hF => qm (ls := [6]) ((6, .row true 2 (u7.1.map eNote)) :: (K4v u0 v0)) (con_laws_markNoteS e7) c22_ok (by first | rfl | simp [takeM, takeML, takeM1, g1, g2, g3, g4, g5, g6, g8]) (by decide) (by simp [like2, likeL, like1, g8]) rfl rfl rfl (by simp [scrO_fo, newO2, newO, scrR, scrA, scrAs]) (qr (AI u7.2) (r_nil (ws 832 1152 (qr (.ptr 64 0 7) (qr (.agg [AS v0.2.2.2.2.2.2.2.1, .sl 8 0 v0.2.2.2.2.2.2.2.2.1.length]) (qr (AI u7.2) (bk hF fun u9 e9 hF => nk hF fun g10 hF => ?_))))))))))))))
 have g11 : u9.1.1 = v0.2.2.2.2.2.2.2.1 := by have h := e9; unfold F_laws_markTuning at h; obtain ⟨_, _, h⟩ := bind_get h; obtain ⟨_, h⟩ := need_some h; cases h; rfl
 refine qm (ls := [8]) (K4x u9 u7 u0 v0) (con_laws_markTuning e9) c23_ok (by first | rfl | simp [takeM, takeML, takeM1, g1, g2, g3, g4, g5, g6, g8, g10, g11]) (by decide) (by simp [like2, likeL, like1, g10, g11]) rfl rfl rfl (by simp [scrO_fo, newO2, newO, scrR, scrA, scrAs]) (qr (AI u9.2) (r_nil (ws 1152 1472 (qr (.ptr 64 0 9) (qr (.sl 9 0 v0.2.2.2.2.2.2.2.2.2.1.length) (qr (AI u9.2) (bk hF fun u12 e12 hF => nk hF fun g13 hF => qm (ls := [9]) (K4y u12 u9 u7 u0 v0) (con_laws_markInt64SS e12) c24_ok (by first | rfl | simp [takeM, takeML, takeM1, g1, g2, g3, g4, g5, g6, g8, g10, g11, g13]) (by decide) (by simp [like2, likeL, like1, g13]) rfl rfl rfl (by simp [scrO_fo, newO2, newO, scrR, scrA, scrAs]) (qr (AI u12.2) (r_nil (ws 1472 1792 (qr (.ptr 64 0 10) (qr (.sl 10 0 v0.2.2.2.2.2.2.2.2.2.2.1.length) (qr (AI u12.2) (bk hF fun u14 e14 hF => nk hF fun g15 hF => qm (ls := [10]) ((10, .row true 3 (u14.1.map eSyllable)) :: (K4y u12 u9 u7 u0 v0)) (con_laws_markSyllableS e14) c25_ok (by first | rfl | simp [takeM, takeML, takeM1, g1, g2, g3, g4, g5, g6, g8, g10, g11, g13, g15]) (by decide) (by simp [like2, likeL, like1, g15]) rfl rfl rfl (by simp [scrO_fo, newO2, newO, scrR, scrA, scrAs]) (qr (AI u14.2) ?_)))))))))))))))
 refine r_nil (ws 1792 2112 (qr (.ptr 64 0 11) (qr (.sl 11 0 v0.2.2.2.2.2.2.2.2.2.2.2.1.length) (qr (AI u14.2) (bk hF fun u16 e16 hF => nk hF fun g17 hF => qm (ls := [11]) (K50 u16 u14 u12 u9 u7 u0 v0) (con_laws_markTempoMarkS e16) c26_ok (by first | rfl | simp [takeM, takeML, takeM1, g1, g2, g3, g4, g5, g6, g8, g10, g11, g13, g15, g17]) (by decide) (by simp [like2, likeL, like1, g17]) rfl rfl rfl (by simp [scrO_fo, newO2, newO, scrR, scrA, scrAs]) (qr (AI u16.2) (r_nil (ws 2112 2432 (qr (.ptr 64 0 12) (qr (.sl 12 0 v0.2.2.2.2.2.2.2.2.2.2.2.2.1.length) (qr (AI u16.2) (bk hF fun u18 e18 hF => nk hF fun g19 hF => qm (ls := [12]) ((12, .row true 6 (u18.1.map eItem)) :: (K50 u16 u14 u12 u9 u7 u0 v0)) (con_laws_markItemS e18) c27_ok (by first | rfl | simp [takeM, takeML, takeM1, g1, g2, g3, g4, g5, g6, g8, g10, g11, g13, g15, g17, g19]) (by decide) (by simp [like2, likeL, like1, g19]) rfl rfl rfl (by simp [scrO_fo, newO2, newO, scrR, scrA, scrAs]) (qr (AI u18.2) (r_nil (ws 2432 2752 ?_)))))))))))))))
 refine qr (.ptr 64 0 13) (qr (.sl 13 0 v0.2.2.2.2.2.2.2.2.2.2.2.2.2.1.length) (qr (AI u18.2) (bk hF fun u20 e20 hF => nk hF fun g21 hF => qm (ls := [13]) (K52 u20 u18 u16 u14 u12 u9 u7 u0 v0) (con_laws_markLessonS e20) c28_ok (by first | rfl | simp [takeM, takeML, takeM1, g1, g2, g3, g4, g5, g6, g8, g10, g11, g13, g15, g17, g19, g21]) (by decide) (by simp [like2, likeL, like1, g21]) rfl rfl rfl (by simp [scrO_fo, newO2, newO, scrR, scrA, scrAs]) (qr (AI u20.2) (r_nil (ws 2752 3072 (qr (.ptr 64 0 14) (qr (.sl 14 0 v0.2.2.2.2.2.2.2.2.2.2.2.2.2.2.length) (qr (AI u20.2) (bk hF fun u22 e22 hF => nk hF fun g23 hF => qm (ls := [14]) ((14, .row true 3 (u22.1.map ePerson)) :: (K52 u20 u18 u16 u14 u12 u9 u7 u0 v0)) (con_laws_markPersonS e22) c29_ok (by first | rfl | simp [takeM, takeML, takeM1, g1, g2, g3, g4, g5, g6, g8, g10, g11, g13, g15, g17, g19, g21, g23]) (by decide) (by simp [like2, likeL, like1, g23]) rfl rfl rfl (by simp [scrO_fo, newO2, newO, scrR, scrA, scrAs]) (qr (AI u22.2) (r_nil (ws 3072 3200 (qr (AI u22.2) (qr (AI u22.2) ?_)))))))))))))))
 refine r_nil (w_ret ?_)
 cases hF
 exact endM_r rfl rfl (by first | rfl | (simp [List.take_of_length_le, g1, g2, g3, g4, g5, g6, g8, g10, g11, g13, g15, g17, g19, g21, g23]; first | exact ⟨rfl, rfl⟩ | rfl)) (by simp)

def c58 : MC := (sr [pT 4 (.mv (ci 0))] (.seq (sr [pT 5 (.mv (ci 0))] (.block 0 (.loop (.seq (sr [mvt 6 5, mvt 7 0, zT 8 7, bT 9 .lss t6 t8] (cx t9 0)) (.seq (.block 1 (.seq (sr [mvt 12 0, mvt 13 5, iT 14 12 13 1, lT 15 14, mvt 16 1, bT 17 .neq t15 t16] (.cond t17 (sr [pT 4 (.mv (ci (-1)))] .ret) .skip)) (.reg [mvt 18 1, bT 19 .add t18 (ci 1), mvt 1 19]))) (.reg [mvt 10 5, bT 11 .add t10 (ci 1), mvt 5 11])))))) (sr [mvt 20 1, mvt 4 20] .ret)))
theorem c58_ : IsF Tryz.prog 58 c58 [(.tmp 4)] := ⟨by kernel_rfl, by kernel_rfl⟩

def F_laws_heldInt64S_l0 (v0 : List Int) (k0 : Int × Int → Option (Int)) : Int × Int → Option (Int)
 | (x2, x3) => (bif (decide (x3 < (v0.length : Int))) then ((ix v0 x3).bind fun u0 => (bif (decide (u0 ≠ x2)) then some (-1)
 else k0 (w64 (x2 + 1), w64 (x3 + 1))))
 else some x2)
def F_laws_heldInt64S (v0 : List Int) (v1 : Int) : Option (Int) :=
 loop (F_laws_heldInt64S_l0 v0) (v1, 0)
@[simp] def res_laws_heldInt64S (r : Int) : RV := .one (.one (.val (.int .i64 r)))
theorem con_laws_heldInt64S {v0 : List Int} {v1 : Int} {r : Int} (hF : F_laws_heldInt64S v0 v1 = some r) : Con Tryz.prog 58 [.sl 1 (v0.map vI), .int .i64 v1] (res_laws_heldInt64S r) := by
 unfold F_laws_heldInt64S at hF
 refine con_of c58_.1 fun N => ?_
 refine ws 0 64 (qr (AI 0) (r_nil (w_seq (ws 64 128 (qr (AI 0) (r_nil (w_block ?_)))))))
 refine wr (l' := [(0, AL 1 (v0.map vI)), (1, AI v1), (5, AI 0)]) (L := []) [0, 1, 5] [] 1 ?_
 refine w_loopF (F_laws_heldInt64S_l0 v0) (fun s : Int × Int => mkS [(0, AL 1 (v0.map vI)), (1, AI s.1), (5, AI s.2)] (fo []) 1) hF ?_
 rintro k0 ⟨x2, x3⟩ hF
 rw [F_laws_heldInt64S_l0] at hF
 try dsimp only
 refine w_seq (ws 1 257 (qr (AI x3) (qr (AL 1 (v0.map vI)) (qp (AI (v0.length : Int)) (ev_len_n rfl) (qr (AB (decide (x3 < (v0.length : Int)))) (r_nil ?_))))))
 refine cF hF (fun hF => ?_) fun hF => ?_
 ·
  refine w_skip (thenQ_n (w_seq (w_block (w_seq (ws 257 641 (qr (AL 1 (v0.map vI)) (qr (AI x3) (bk hF fun u0 e0 hF => qp (.val none (.ptr [.int .i64 u0])) (ev_iad_n rfl rfl e0 rfl) (qr (AI u0) (qr (AI x2) (qr (AB (decide (u0 ≠ x2))) (r_nil ?_))))))))))))
  refine cF hF (fun hF => ws 641 705 (qr (AI (-1)) (r_nil (w_ret (thenQ_r (blockQ_r (thenQ_r (thenQ_r (blockQ_r (thenQ_r (eQ hF))))))))))) fun hF => ?_
  refine w_skip (thenQ_n (w_reg 641 833 rfl rfl (qr (AI x2) (qr (AI (w64 (x2 + 1))) (qr (AI (w64 (x2 + 1))) (r_nil (blockQ_n (thenQ_n (w_reg 833 1025 rfl rfl ?_)))))))))
  refine qr (AI x3) (qr (AI (w64 (x3 + 1))) (qr (AI (w64 (x3 + 1))) (r_nil (thenQ_n ?_))))
  refine ar (l' := [(0, AL 1 (v0.map vI)), (1, AI (w64 (x2 + 1))), (5, AI (w64 (x3 + 1)))]) (L := []) [0, 1, 5] [] 1 ⟨_, by rfl, hF⟩
 exact w_exit (thenQ_e (thenQ_e (blockQ_e (thenQ_n (ws 257 385 (qr (AI x2) (qr (AI x2) (rR hF))))))))

def c33 : MC := (sr [pT 4 (.mv (ci 0))] (.seq (sr [pT 5 (.mv (ci 0))] (.block 0 (.loop (.seq (sr [mvt 6 5, mvt 7 0, zT 8 7, bT 9 .lss t6 t8] (cx t9 0)) (.seq (.block 1 (sr [mvt 12 0, mvt 13 5, iT 14 12 13 1, lT 15 14, mvt 16 1, dT 17 58 [t15, t16], mvt 1 17] (sr [mvt 18 1, bT 19 .lss t18 (ci 0)] (.cond t19 (sr [pT 4 (.mv (ci (-1)))] .ret) .skip)))) (.reg [mvt 10 5, bT 11 .add t10 (ci 1), mvt 5 11])))))) (sr [mvt 20 1, mvt 4 20] .ret)))
theorem c33_ : IsF Tryz.prog 33 c33 [(.tmp 4)] := ⟨by kernel_rfl, by kernel_rfl⟩

def F_laws_heldInt64SS_l0 (v0 : List (List Int)) (k0 : Int × Int → Option (Int)) : Int × Int → Option (Int)
 | (x2, x3) => (bif (decide (x3 < (v0.length : Int))) then ((ix v0 x3).bind fun u0 => ((F_laws_heldInt64S u0 x2).bind fun u1 => (bif (decide (u1 < (0 : Int))) then some (-1)
 else k0 (u1, w64 (x3 + 1)))))
 else some x2)
def F_laws_heldInt64SS (v0 : List (List Int)) (v1 : Int) : Option (Int) :=
 loop (F_laws_heldInt64SS_l0 v0) (v1, 0)
@[simp] abbrev K54 (v0 : List (List Int)) : V := .sl 1 (v0.map (eL 1 vI))
@[simp] def res_laws_heldInt64SS (r : Int) : RV := .one (.one (.val (.int .i64 r)))
theorem con_laws_heldInt64SS {v0 : List (List Int)} {v1 : Int} {r : Int} (hF : F_laws_heldInt64SS v0 v1 = some r) : Con Tryz.prog 33 [.sl 1 (v0.map (eL 1 vI)), .int .i64 v1] (res_laws_heldInt64SS r) := by
 unfold F_laws_heldInt64SS at hF
 refine con_of c33_.1 fun N => ?_
 refine ws 0 64 (qr (AI 0) (r_nil (w_seq (ws 64 128 (qr (AI 0) (r_nil (w_block ?_)))))))
 refine wr (l' := [(0, .val none (K54 v0)), (1, AI v1), (5, AI 0)]) (L := []) [0, 1, 5] [] 1 ?_
 refine w_loopF (F_laws_heldInt64SS_l0 v0) (fun s : Int × Int => mkS [(0, .val none (K54 v0)), (1, AI s.1), (5, AI s.2)] (fo []) 1) hF ?_
 rintro k0 ⟨x2, x3⟩ hF
 rw [F_laws_heldInt64SS_l0] at hF
 try dsimp only
 refine w_seq (ws 1 257 (qr (AI x3) (qr (.val none (K54 v0)) (qp (AI (v0.length : Int)) (ev_len_n rfl) (qr (AB (decide (x3 < (v0.length : Int)))) (r_nil ?_))))))
 refine cF hF (fun hF => ?_) fun hF => ?_
 ·
  refine w_skip (thenQ_n (w_seq (w_block (ws 257 705 (qr (.val none (K54 v0)) (qr (AI x3) (bk hF fun u0 e0 hF => qp (.val none (.ptr [.sl 1 (u0.map vI)])) (ev_iad_n rfl rfl e0 rfl) (qr (AL 1 (u0.map vI)) (qr (AI x2) (bk hF fun u1 e1 hF => qC (AI u1) [] (con_laws_heldInt64S e1) c58_ (qr (AI u1) (r_nil (ws 705 833 (qr (AI u1) (qr (AB (decide (u1 < (0 : Int)))) ?_)))))))))))))))
  refine r_nil (cF hF (fun hF => ws 833 897 (qr (AI (-1)) (r_nil (w_ret (blockQ_r (thenQ_r (thenQ_r (blockQ_r (thenQ_r (eQ hF)))))))))) fun hF => ?_)
  refine w_skip (blockQ_n (thenQ_n (w_reg 833 1025 rfl rfl (qr (AI x3) (qr (AI (w64 (x3 + 1))) (qr (AI (w64 (x3 + 1))) (r_nil (thenQ_n ?_))))))))
  refine ar (l' := [(0, .val none (K54 v0)), (1, AI u1), (5, AI (w64 (x3 + 1)))]) (L := []) [0, 1, 5] [] 1 ⟨_, by rfl, hF⟩
 exact w_exit (thenQ_e (thenQ_e (blockQ_e (thenQ_n (ws 257 385 (qr (AI x2) (qr (AI x2) (rR hF))))))))

def c30 : MC := (sr [rg 2 (.f (.box t0)), pT 4 (.mv (ci 0))] (sr [pT 5 (.fad t2 1), lT 6 5, mvt 7 1, dT 8 58 [t6, t7], mvt 1 8] (.seq (sr [mvt 9 1, bT 10 .lss t9 (ci 0)] (.cond t10 (sr [pT 4 (.mv (ci (-1)))] .ret) .skip)) (sr [pT 11 (.fad t2 2), lT 12 11, mvt 13 1, dT 14 58 [t12, t13], mvt 1 14] (.seq (sr [mvt 15 1, bT 16 .lss t15 (ci 0)] (.cond t16 (sr [pT 4 (.mv (ci (-1)))] .ret) .skip)) (sr [pT 17 (.fad t2 5), lT 18 17, mvt 19 1, dT 20 33 [t18, t19], mvt 1 20] (.seq (sr [mvt 21 1, bT 22 .lss t21 (ci 0)] (.cond t22 (sr [pT 4 (.mv (ci (-1)))] .ret) .skip)) (sr [mvt 23 1, mvt 4 23] .ret))))))))
theorem c30_ : IsF Tryz.prog 30 c30 [(.tmp 4)] := ⟨by kernel_rfl, by kernel_rfl⟩

def F_laws_heldRaga (v0 : TRaga) (v1 : Int) : Option (Int) :=
 ((F_laws_heldInt64S v0.2.1 v1).bind fun u0 => (bif (decide (u0 < (0 : Int))) then some (-1)
 else ((F_laws_heldInt64S v0.2.2.1 u0).bind fun u1 => (bif (decide (u1 < (0 : Int))) then some (-1)
 else ((F_laws_heldInt64SS v0.2.2.2.2.2 u1).bind fun u2 => (bif (decide (u2 < (0 : Int))) then some (-1)
 else some u2))))))
@[simp] abbrev K55 (v0 : TRaga) : List (Nat × Root) := [(0, .box [AS v0.1, AL 1 (v0.2.1.map vI), AL 1 (v0.2.2.1.map vI), AI v0.2.2.2.1, AI v0.2.2.2.2.1, AL 1 (v0.2.2.2.2.2.map (eL 1 vI))])]
@[simp] def res_laws_heldRaga (r : Int) : RV := .one (.one (.val (.int .i64 r)))
theorem con_laws_heldRaga {v0 : TRaga} {v1 : Int} {r : Int} (hF : F_laws_heldRaga v0 v1 = some r) : Con Tryz.prog 30 [eRaga v0, .int .i64 v1] (res_laws_heldRaga r) := by
 unfold F_laws_heldRaga at hF
 refine con_of c30_.1 fun N => ?_
 refine ws 0 128 (qf (.ptr 0 0 0) (K55 v0) (by simp) (qr (AI 0) (r_nil (ws 128 448 (qr (.ptr 0 0 1) (qr (AL 1 (v0.2.1.map vI)) (qr (AI v1) (bk hF fun u0 e0 hF => qC (AI u0) (K55 v0) (con_laws_heldInt64S e0) c58_ (qr (AI u0) (r_nil (w_seq (ws 448 576 (qr (AI u0) (qr (AB (decide (u0 < (0 : Int)))) ?_))))))))))))))
 refine r_nil (cF hF (fun hF => ws 576 640 (qr (AI (-1)) (r_nil (w_ret (thenQ_r (eQ hF)))))) fun hF => ?_)
 refine w_skip (thenQ_n (ws 576 896 (qr (.ptr 0 0 2) (qr (AL 1 (v0.2.2.1.map vI)) (qr (AI u0) (bk hF fun u1 e1 hF => qC (AI u1) (K55 v0) (con_laws_heldInt64S e1) c58_ (qr (AI u1) (r_nil (w_seq (ws 896 1024 (qr (AI u1) (qr (AB (decide (u1 < (0 : Int)))) (r_nil ?_)))))))))))))
 refine cF hF (fun hF => ws 1024 1088 (qr (AI (-1)) (r_nil (w_ret (thenQ_r (eQ hF)))))) fun hF => ?_
 refine w_skip (thenQ_n (ws 1024 1344 (qr (.ptr 0 0 5) (qr (AL 1 (v0.2.2.2.2.2.map (eL 1 vI))) (qr (AI u1) (bk hF fun u2 e2 hF => qC (AI u2) (K55 v0) (con_laws_heldInt64SS e2) c33_ (qr (AI u2) (r_nil (w_seq (ws 1344 1472 (qr (AI u2) (qr (AB (decide (u2 < (0 : Int)))) (r_nil ?_)))))))))))))
 refine cF hF (fun hF => ws 1472 1536 (qr (AI (-1)) (r_nil (w_ret (thenQ_r (eQ hF)))))) fun hF => ?_
 exact w_skip (thenQ_n (ws 1472 1600 (qr (AI u2) (qr (AI u2) (rR hF)))))

def c31 : MC := (sr [pT 4 (.mv (ci 0))] (.seq (sr [pT 5 (.mv (ci 0))] (.block 0 (.loop (.seq (sr [mvt 6 5, mvt 7 0, zT 8 7, bT 9 .lss t6 t8] (cx t9 0)) (.seq (.block 1 (.seq (sr [mvt 12 0, mvt 13 5, iT 14 12 13 2, pT 15 (.fad t14 0), lT 16 15, mvt 17 1, bT 18 .neq t16 t17] (.cond t18 (sr [pT 4 (.mv (ci (-1)))] .ret) .skip)) (sr [mvt 19 1, bT 20 .add t19 (ci 1), mvt 1 20] (.seq (sr [mvt 21 0, mvt 22 5, iT 23 21 22 2, pT 24 (.fad t23 1), lT 25 24, mvt 26 1, bT 27 .neq t25 t26] (.cond t27 (sr [pT 4 (.mv (ci (-1)))] .ret) .skip)) (.reg [mvt 28 1, bT 29 .add t28 (ci 1), mvt 1 29]))))) (.reg [mvt 10 5, bT 11 .add t10 (ci 1), mvt 5 11])))))) (sr [mvt 30 1, mvt 4 30] .ret)))
theorem c31_ : IsF Tryz.prog 31 c31 [(.tmp 4)] := ⟨by kernel_rfl, by kernel_rfl⟩

def F_laws_heldNoteS_l0 (v0 : List TNote) (k0 : Int × Int → Option (Int)) : Int × Int → Option (Int)
 | (x2, x3) => (bif (decide (x3 < (v0.length : Int))) then ((ix v0 x3).bind fun u0 => (bif (decide (u0.1 ≠ x2)) then some (-1)
 else ((ix v0 x3).bind fun u1 => (bif (decide (u1.2 ≠ w64 (x2 + 1))) then some (-1)
 else k0 (w64 ((w64 (x2 + 1)) + 1), w64 (x3 + 1))))))
 else some x2)
def F_laws_heldNoteS (v0 : List TNote) (v1 : Int) : Option (Int) :=
 loop (F_laws_heldNoteS_l0 v0) (v1, 0)
@[simp] def res_laws_heldNoteS (r : Int) : RV := .one (.one (.val (.int .i64 r)))
theorem con_laws_heldNoteS {v0 : List TNote} {v1 : Int} {r : Int} (hF : F_laws_heldNoteS v0 v1 = some r) : Con Tryz.prog 31 [.sl 2 (v0.map eNote), .int .i64 v1] (res_laws_heldNoteS r) := by
 unfold F_laws_heldNoteS at hF
 refine con_of c31_.1 fun N => ?_
 refine ws 0 64 (qr (AI 0) (r_nil (w_seq (ws 64 128 (qr (AI 0) (r_nil (w_block ?_)))))))
 refine wr (l' := [(0, AL 2 (v0.map eNote)), (1, AI v1), (5, AI 0)]) (L := []) [0, 1, 5] [] 1 ?_
 refine w_loopF (F_laws_heldNoteS_l0 v0) (fun s : Int × Int => mkS [(0, AL 2 (v0.map eNote)), (1, AI s.1), (5, AI s.2)] (fo []) 1) hF ?_
 rintro k0 ⟨x2, x3⟩ hF
 rw [F_laws_heldNoteS_l0] at hF
 try dsimp only
 refine w_seq (ws 1 257 (qr (AI x3) (qr (AL 2 (v0.map eNote)) (qp (AI (v0.length : Int)) (ev_len_n rfl) (qr (AB (decide (x3 < (v0.length : Int)))) (r_nil ?_))))))
 refine cF hF (fun hF => ?_) fun hF => ?_
 ·
  refine w_skip (thenQ_n (w_seq (w_block (w_seq (ws 257 705 (qr (AL 2 (v0.map eNote)) (qr (AI x3) (bk hF fun u0 e0 hF => qp (.val none (.ptr [.int .i64 u0.1, .int .i64 u0.2])) (ev_iad_n rfl rfl e0 rfl) (qr (.val none (.ptr [.int .i64 u0.1, .int .i64 u0.2])) (qr (AI u0.1) (qr (AI x2) (qr (AB (decide (u0.1 ≠ x2))) (r_nil ?_)))))))))))))
  refine cF hF (fun hF => ws 705 769 (qr (AI (-1)) (r_nil (w_ret (thenQ_r (blockQ_r (thenQ_r (thenQ_r (blockQ_r (thenQ_r (eQ hF))))))))))) fun hF => ?_
  refine w_skip (thenQ_n (ws 705 897 (qr (AI x2) (qr (AI (w64 (x2 + 1))) (qr (AI (w64 (x2 + 1))) (r_nil (w_seq (ws 897 1345 (qr (AL 2 (v0.map eNote)) (qr (AI x3) (bk hF fun u1 e1 hF => ?_)))))))))))
  refine qp (.val none (.ptr [.int .i64 u1.1, .int .i64 u1.2])) (ev_iad_n rfl rfl e1 rfl) (qr (.val none (.ptr [.int .i64 u1.2])) (qr (AI u1.2) (qr (AI (w64 (x2 + 1))) (qr (AB (decide (u1.2 ≠ w64 (x2 + 1)))) (r_nil ?_)))))
  refine cF hF (fun hF => ws 1345 1409 (qr (AI (-1)) (r_nil (w_ret (thenQ_r (blockQ_r (thenQ_r (thenQ_r (blockQ_r (thenQ_r (eQ hF))))))))))) fun hF => ?_
  refine w_skip (thenQ_n (w_reg 1345 1537 rfl rfl (qr (AI (w64 (x2 + 1))) (qr (AI (w64 ((w64 (x2 + 1)) + 1))) (qr (AI (w64 ((w64 (x2 + 1)) + 1))) (r_nil (blockQ_n (thenQ_n ?_))))))))
  refine w_reg 1537 1729 rfl rfl (qr (AI x3) (qr (AI (w64 (x3 + 1))) (qr (AI (w64 (x3 + 1))) (r_nil (thenQ_n ?_)))))
  refine ar (l' := [(0, AL 2 (v0.map eNote)), (1, AI (w64 ((w64 (x2 + 1)) + 1))), (5, AI (w64 (x3 + 1)))]) (L := []) [0, 1, 5] [] 1 ⟨_, by rfl, hF⟩
 exact w_exit (thenQ_e (thenQ_e (blockQ_e (thenQ_n (ws 257 385 (qr (AI x2) (qr (AI x2) (rR hF))))))))

def c59 : MC := (sr [pT 4 (.mv (ci 0))] (.seq (sr [pT 5 (.mv (ci 0))] (.block 0 (.loop (.seq (sr [mvt 6 5, mvt 7 0, zT 8 7, bT 9 .lss t6 t8] (cx t9 0)) (.seq (.block 1 (.seq (sr [mvt 12 0, mvt 13 5, iT 14 12 13 2, pT 15 (.fad t14 0), lT 16 15, mvt 17 1, bT 18 .neq t16 t17] (.cond t18 (sr [pT 4 (.mv (ci (-1)))] .ret) .skip)) (sr [mvt 19 1, bT 20 .add t19 (ci 1), mvt 1 20] (.seq (sr [mvt 21 0, mvt 22 5, iT 23 21 22 2, pT 24 (.fad t23 1), lT 25 24, mvt 26 1, bT 27 .neq t25 t26] (.cond t27 (sr [pT 4 (.mv (ci (-1)))] .ret) .skip)) (.reg [mvt 28 1, bT 29 .add t28 (ci 1), mvt 1 29]))))) (.reg [mvt 10 5, bT 11 .add t10 (ci 1), mvt 5 11])))))) (sr [mvt 30 1, mvt 4 30] .ret)))
theorem c59_ : IsF Tryz.prog 59 c59 [(.tmp 4)] := ⟨by kernel_rfl, by kernel_rfl⟩

def F_laws_heldRatioS_l0 (v0 : List TNote) (k0 : Int × Int → Option (Int)) : Int × Int → Option (Int)
 | (x2, x3) => (bif (decide (x3 < (v0.length : Int))) then ((ix v0 x3).bind fun u0 => (bif (decide (u0.1 ≠ x2)) then some (-1)
 else ((ix v0 x3).bind fun u1 => (bif (decide (u1.2 ≠ w64 (x2 + 1))) then some (-1)
 else k0 (w64 ((w64 (x2 + 1)) + 1), w64 (x3 + 1))))))
 else some x2)
def F_laws_heldRatioS (v0 : List TNote) (v1 : Int) : Option (Int) :=
 loop (F_laws_heldRatioS_l0 v0) (v1, 0)
@[simp] def res_laws_heldRatioS (r : Int) : RV := .one (.one (.val (.int .i64 r)))
theorem con_laws_heldRatioS {v0 : List TNote} {v1 : Int} {r : Int} (hF : F_laws_heldRatioS v0 v1 = some r) : Con Tryz.prog 59 [.sl 2 (v0.map eNote), .int .i64 v1] (res_laws_heldRatioS r) := by
 unfold F_laws_heldRatioS at hF
 refine con_of c59_.1 fun N => ?_
 refine ws 0 64 (qr (AI 0) (r_nil (w_seq (ws 64 128 (qr (AI 0) (r_nil (w_block ?_)))))))
 refine wr (l' := [(0, AL 2 (v0.map eNote)), (1, AI v1), (5, AI 0)]) (L := []) [0, 1, 5] [] 1 ?_
 refine w_loopF (F_laws_heldRatioS_l0 v0) (fun s : Int × Int => mkS [(0, AL 2 (v0.map eNote)), (1, AI s.1), (5, AI s.2)] (fo []) 1) hF ?_
 rintro k0 ⟨x2, x3⟩ hF
 rw [F_laws_heldRatioS_l0] at hF
 try dsimp only
 refine w_seq (ws 1 257 (qr (AI x3) (qr (AL 2 (v0.map eNote)) (qp (AI (v0.length : Int)) (ev_len_n rfl) (qr (AB (decide (x3 < (v0.length : Int)))) (r_nil ?_))))))
 refine cF hF (fun hF => ?_) fun hF => ?_
 ·
  refine w_skip (thenQ_n (w_seq (w_block (w_seq (ws 257 705 (qr (AL 2 (v0.map eNote)) (qr (AI x3) (bk hF fun u0 e0 hF => qp (.val none (.ptr [.int .i64 u0.1, .int .i64 u0.2])) (ev_iad_n rfl rfl e0 rfl) (qr (.val none (.ptr [.int .i64 u0.1, .int .i64 u0.2])) (qr (AI u0.1) (qr (AI x2) (qr (AB (decide (u0.1 ≠ x2))) (r_nil ?_)))))))))))))
  refine cF hF (fun hF => ws 705 769 (qr (AI (-1)) (r_nil (w_ret (thenQ_r (blockQ_r (thenQ_r (thenQ_r (blockQ_r (thenQ_r (eQ hF))))))))))) fun hF => ?_
  refine w_skip (thenQ_n (ws 705 897 (qr (AI x2) (qr (AI (w64 (x2 + 1))) (qr (AI (w64 (x2 + 1))) (r_nil (w_seq (ws 897 1345 (qr (AL 2 (v0.map eNote)) (qr (AI x3) (bk hF fun u1 e1 hF => ?_)))))))))))
  refine qp (.val none (.ptr [.int .i64 u1.1, .int .i64 u1.2])) (ev_iad_n rfl rfl e1 rfl) (qr (.val none (.ptr [.int .i64 u1.2])) (qr (AI u1.2) (qr (AI (w64 (x2 + 1))) (qr (AB (decide (u1.2 ≠ w64 (x2 + 1)))) (r_nil ?_)))))
  refine cF hF (fun hF => ws 1345 1409 (qr (AI (-1)) (r_nil (w_ret (thenQ_r (blockQ_r (thenQ_r (thenQ_r (blockQ_r (thenQ_r (eQ hF))))))))))) fun hF => ?_
  refine w_skip (thenQ_n (w_reg 1345 1537 rfl rfl (qr (AI (w64 (x2 + 1))) (qr (AI (w64 ((w64 (x2 + 1)) + 1))) (qr (AI (w64 ((w64 (x2 + 1)) + 1))) (r_nil (blockQ_n (thenQ_n ?_))))))))
  refine w_reg 1537 1729 rfl rfl (qr (AI x3) (qr (AI (w64 (x3 + 1))) (qr (AI (w64 (x3 + 1))) (r_nil (thenQ_n ?_)))))
  refine ar (l' := [(0, AL 2 (v0.map eNote)), (1, AI (w64 ((w64 (x2 + 1)) + 1))), (5, AI (w64 (x3 + 1)))]) (L := []) [0, 1, 5] [] 1 ⟨_, by rfl, hF⟩
 exact w_exit (thenQ_e (thenQ_e (blockQ_e (thenQ_n (ws 257 385 (qr (AI x2) (qr (AI x2) (rR hF))))))))

def c32 : MC := (sr [rg 2 (.f (.box t0)), pT 4 (.mv (ci 0))] (sr [pT 5 (.fad t2 1), lT 6 5, mvt 7 1, dT 8 59 [t6, t7], mvt 1 8] (.seq (sr [mvt 9 1, bT 10 .lss t9 (ci 0)] (.cond t10 (sr [pT 4 (.mv (ci (-1)))] .ret) .skip)) (sr [mvt 11 1, mvt 4 11] .ret))))
theorem c32_ : IsF Tryz.prog 32 c32 [(.tmp 4)] := ⟨by kernel_rfl, by kernel_rfl⟩

def F_laws_heldTuning (v0 : TTuning) (v1 : Int) : Option (Int) :=
 ((F_laws_heldRatioS v0.2 v1).bind fun u0 => (bif (decide (u0 < (0 : Int))) then some (-1)
 else some u0))
@[simp] abbrev K56 (v0 : TTuning) : List (Nat × Root) := [(0, .box [AS v0.1, AL 2 (v0.2.map eNote)])]
@[simp] def res_laws_heldTuning (r : Int) : RV := .one (.one (.val (.int .i64 r)))
theorem con_laws_heldTuning {v0 : TTuning} {v1 : Int} {r : Int} (hF : F_laws_heldTuning v0 v1 = some r) : Con Tryz.prog 32 [eTuning v0, .int .i64 v1] (res_laws_heldTuning r) := by
 unfold F_laws_heldTuning at hF
 refine con_of c32_.1 fun N => ?_
 refine ws 0 128 (qf (.ptr 0 0 0) (K56 v0) (by simp) (qr (AI 0) (r_nil (ws 128 448 (qr (.ptr 0 0 1) (qr (AL 2 (v0.2.map eNote)) (qr (AI v1) (bk hF fun u0 e0 hF => qC (AI u0) (K56 v0) (con_laws_heldRatioS e0) c59_ (qr (AI u0) (r_nil (w_seq (ws 448 576 (qr (AI u0) (qr (AB (decide (u0 < (0 : Int)))) ?_))))))))))))))
 refine r_nil (cF hF (fun hF => ws 576 640 (qr (AI (-1)) (r_nil (w_ret (thenQ_r (eQ hF)))))) fun hF => ?_)
 exact w_skip (thenQ_n (ws 576 704 (qr (AI u0) (qr (AI u0) (rR hF)))))

def c34 : MC := (sr [pT 4 (.mv (ci 0))] (.seq (sr [pT 5 (.mv (ci 0))] (.block 0 (.loop (.seq (sr [mvt 6 5, mvt 7 0, zT 8 7, bT 9 .lss t6 t8] (cx t9 0)) (.seq (.block 1 (.seq (sr [mP 12 t0, mP 13 t5, iF 14 12 13 3, pF 15 (.fad t14 0), lF 16 15, mP 17 t1, dF 18 56 [t17], bF 19 .neq t16 t18] (.cond t19 (sr [pT 4 (.mv (ci (-1)))] .ret) .skip)) (sr [mvt 20 1, bT 21 .add t20 (ci 1), mvt 1 21] (.seq (sr [mvt 22 0, mvt 23 5, iT 24 22 23 3, pT 25 (.fad t24 1), lT 26 25, mvt 27 1, bT 28 .neq t26 t27] (.cond t28 (sr [pT 4 (.mv (ci (-1)))] .ret) .skip)) (sr [mvt 29 1, bT 30 .add t29 (ci 1), mvt 1 30] (.seq (sr [mvt 31 0, mvt 32 5, iT 33 31 32 3, pT 34 (.fad t33 2), lT 35 34, mvt 36 1, bT 37 .neq t35 t36] (.cond t37 (sr [pT 4 (.mv (ci (-1)))] .ret) .skip)) (.reg [mvt 38 1, bT 39 .add t38 (ci 1), mvt 1 39]))))))) (.reg [mvt 10 5, bT 11 .add t10 (ci 1), mvt 5 11])))))) (sr [mvt 40 1, mvt 4 40] .ret)))
theorem c34_ : IsF Tryz.prog 34 c34 [(.tmp 4)] := ⟨by kernel_rfl, by kernel_rfl⟩

def F_laws_heldSyllableS_l0 (v0 : List TSyllable) (k0 : Int × Int → Option (Int)) : Int × Int → Option (Int)
 | (x2, x3) => (bif (decide (x3 < (v0.length : Int))) then ((ix v0 x3).bind fun u0 => ((F_laws_markText x2).bind fun u1 => (bif (decide (u0.1 ≠ u1)) then some (-1)
 else ((ix v0 x3).bind fun u2 => (bif (decide (u2.2.1 ≠ w64 (x2 + 1))) then some (-1)
 else ((ix v0 x3).bind fun u3 => (bif (decide (u3.2.2 ≠ w64 ((w64 (x2 + 1)) + 1))) then some (-1)
 else k0 (w64 ((w64 ((w64 (x2 + 1)) + 1)) + 1), w64 (x3 + 1)))))))))
 else some x2)
def F_laws_heldSyllableS (v0 : List TSyllable) (v1 : Int) : Option (Int) :=
 loop (F_laws_heldSyllableS_l0 v0) (v1, 0)
@[simp] abbrev K57 (v0 : List TSyllable) : V := .sl 3 (v0.map eSyllable)
@[simp] def res_laws_heldSyllableS (r : Int) : RV := .one (.one (.val (.int .i64 r)))
theorem con_laws_heldSyllableS {v0 : List TSyllable} {v1 : Int} {r : Int} (hF : F_laws_heldSyllableS v0 v1 = some r) : Con Tryz.prog 34 [.sl 3 (v0.map eSyllable), .int .i64 v1] (res_laws_heldSyllableS r) := by
 unfold F_laws_heldSyllableS at hF
 refine con_of c34_.1 fun N => ?_
 refine ws 0 64 (qr (AI 0) (r_nil (w_seq (ws 64 128 (qr (AI 0) (r_nil (w_block ?_)))))))
 refine wr (l' := [(0, .val none (K57 v0)), (1, AI v1), (5, AI 0)]) (L := []) [0, 1, 5] [] 1 ?_
 refine w_loopF (F_laws_heldSyllableS_l0 v0) (fun s : Int × Int => mkS [(0, .val none (K57 v0)), (1, AI s.1), (5, AI s.2)] (fo []) 1) hF ?_
 rintro k0 ⟨x2, x3⟩ hF
 rw [F_laws_heldSyllableS_l0] at hF
 try dsimp only
 refine w_seq (ws 1 257 (qr (AI x3) (qr (.val none (K57 v0)) (qp (AI (v0.length : Int)) (ev_len_n rfl) (qr (AB (decide (x3 < (v0.length : Int)))) (r_nil ?_))))))
 refine cF hF (fun hF => ?_) fun hF => ?_
 ·
  refine w_skip (thenQ_n (w_seq (w_block (w_seq (ws 257 769 (qr (.val none (K57 v0)) (qr (AI x3) (bk hF fun u0 e0 hF => qp (.val none (.ptr [.str u0.1, .int .i64 u0.2.1, .int .i64 u0.2.2])) (ev_iad_n rfl rfl e0 rfl) (qr (.val none (.ptr [.str u0.1, .int .i64 u0.2.1, .int .i64 u0.2.2])) (qr (AS u0.1) (qr (AI x2) (bk hF fun u1 e1 hF => qC (AS u1) [] (con_laws_markText e1) c56_ (qr (AB (decide (u0.1 ≠ u1))) (r_nil ?_))))))))))))))
  refine cF hF (fun hF => ws 769 833 (qr (AI (-1)) (r_nil (w_ret (thenQ_r (blockQ_r (thenQ_r (thenQ_r (blockQ_r (thenQ_r (eQ hF))))))))))) fun hF => ?_
  refine w_skip (thenQ_n (ws 769 961 (qr (AI x2) (qr (AI (w64 (x2 + 1))) (qr (AI (w64 (x2 + 1))) (r_nil (w_seq (ws 961 1409 (qr (.val none (K57 v0)) (qr (AI x3) (bk hF fun u2 e2 hF => ?_)))))))))))
  refine qp (.val none (.ptr [.str u2.1, .int .i64 u2.2.1, .int .i64 u2.2.2])) (ev_iad_n rfl rfl e2 rfl) (qr (.val none (.ptr [.int .i64 u2.2.1, .int .i64 u2.2.2])) (qr (AI u2.2.1) (qr (AI (w64 (x2 + 1))) (qr (AB (decide (u2.2.1 ≠ w64 (x2 + 1)))) (r_nil ?_)))))
  refine cF hF (fun hF => ws 1409 1473 (qr (AI (-1)) (r_nil (w_ret (thenQ_r (blockQ_r (thenQ_r (thenQ_r (blockQ_r (thenQ_r (eQ hF))))))))))) fun hF => ?_
  refine w_skip (thenQ_n (ws 1409 1601 (qr (AI (w64 (x2 + 1))) (qr (AI (w64 ((w64 (x2 + 1)) + 1))) (qr (AI (w64 ((w64 (x2 + 1)) + 1))) (r_nil (w_seq (ws 1601 2049 ?_))))))))
  refine qr (.val none (K57 v0)) (qr (AI x3) (bk hF fun u3 e3 hF => qp (.val none (.ptr [.str u3.1, .int .i64 u3.2.1, .int .i64 u3.2.2])) (ev_iad_n rfl rfl e3 rfl) (qr (.val none (.ptr [.int .i64 u3.2.2])) (qr (AI u3.2.2) (qr (AI (w64 ((w64 (x2 + 1)) + 1))) (qr (AB (decide (u3.2.2 ≠ w64 ((w64 (x2 + 1)) + 1)))) (r_nil ?_)))))))
  refine cF hF (fun hF => ws 2049 2113 (qr (AI (-1)) (r_nil (w_ret (thenQ_r (blockQ_r (thenQ_r (thenQ_r (blockQ_r (thenQ_r (eQ hF))))))))))) fun hF => ?_
  refine w_skip (thenQ_n (w_reg 2049 2241 rfl rfl (qr (AI (w64 ((w64 (x2 + 1)) + 1))) (qr (AI (w64 ((w64 ((w64 (x2 + 1)) + 1)) + 1))) (qr (AI (w64 ((w64 ((w64 (x2 + 1)) + 1)) + 1))) ?_)))))
  refine r_nil (blockQ_n (thenQ_n (w_reg 2241 2433 rfl rfl (qr (AI x3) (qr (AI (w64 (x3 + 1))) (qr (AI (w64 (x3 + 1))) (r_nil (thenQ_n ?_))))))))
  refine ar (l' := [(0, .val none (K57 v0)), (1, AI (w64 ((w64 ((w64 (x2 + 1)) + 1)) + 1))), (5, AI (w64 (x3 + 1)))]) (L := []) [0, 1, 5] [] 1 ⟨_, by rfl, hF⟩
 exact w_exit (thenQ_e (thenQ_e (blockQ_e (thenQ_n (ws 257 385 (qr (AI x2) (qr (AI x2) (rR hF))))))))

def c35 : MC := (sr [pT 4 (.mv (ci 0))] (.seq (sr [pT 5 (.mv (ci 0))] (.block 0 (.loop (.seq (sr [mvt 6 5, mvt 7 0, zT 8 7, bT 9 .lss t6 t8] (cx t9 0)) (.seq (.block 1 (.seq (sr [mvt 12 0, mvt 13 5, iT 14 12 13 2, pT 15 (.fad t14 0), lT 16 15, mvt 17 1, bT 18 .neq t16 t17] (.cond t18 (sr [pT 4 (.mv (ci (-1)))] .ret) .skip)) (sr [mvt 19 1, bT 20 .add t19 (ci 1), mvt 1 20] (.seq (sr [mvt 21 0, mvt 22 5, iT 23 21 22 2, pT 24 (.fad t23 1), lT 25 24, mvt 26 1, bT 27 .neq t25 t26] (.cond t27 (sr [pT 4 (.mv (ci (-1)))] .ret) .skip)) (.reg [mvt 28 1, bT 29 .add t28 (ci 1), mvt 1 29]))))) (.reg [mvt 10 5, bT 11 .add t10 (ci 1), mvt 5 11])))))) (sr [mvt 30 1, mvt 4 30] .ret)))
theorem c35_ : IsF Tryz.prog 35 c35 [(.tmp 4)] := ⟨by kernel_rfl, by kernel_rfl⟩

def F_laws_heldTempoMarkS_l0 (v0 : List TNote) (k0 : Int × Int → Option (Int)) : Int × Int → Option (Int)
 | (x2, x3) => (bif (decide (x3 < (v0.length : Int))) then ((ix v0 x3).bind fun u0 => (bif (decide (u0.1 ≠ x2)) then some (-1)
 else ((ix v0 x3).bind fun u1 => (bif (decide (u1.2 ≠ w64 (x2 + 1))) then some (-1)
 else k0 (w64 ((w64 (x2 + 1)) + 1), w64 (x3 + 1))))))
 else some x2)
def F_laws_heldTempoMarkS (v0 : List TNote) (v1 : Int) : Option (Int) :=
 loop (F_laws_heldTempoMarkS_l0 v0) (v1, 0)
@[simp] def res_laws_heldTempoMarkS (r : Int) : RV := .one (.one (.val (.int .i64 r)))
theorem con_laws_heldTempoMarkS {v0 : List TNote} {v1 : Int} {r : Int} (hF : F_laws_heldTempoMarkS v0 v1 = some r) : Con Tryz.prog 35 [.sl 2 (v0.map eNote), .int .i64 v1] (res_laws_heldTempoMarkS r) := by
 unfold F_laws_heldTempoMarkS at hF
 refine con_of c35_.1 fun N => ?_
 refine ws 0 64 (qr (AI 0) (r_nil (w_seq (ws 64 128 (qr (AI 0) (r_nil (w_block ?_)))))))
 refine wr (l' := [(0, AL 2 (v0.map eNote)), (1, AI v1), (5, AI 0)]) (L := []) [0, 1, 5] [] 1 ?_
 refine w_loopF (F_laws_heldTempoMarkS_l0 v0) (fun s : Int × Int => mkS [(0, AL 2 (v0.map eNote)), (1, AI s.1), (5, AI s.2)] (fo []) 1) hF ?_
 rintro k0 ⟨x2, x3⟩ hF
 rw [F_laws_heldTempoMarkS_l0] at hF
 try dsimp only
 refine w_seq (ws 1 257 (qr (AI x3) (qr (AL 2 (v0.map eNote)) (qp (AI (v0.length : Int)) (ev_len_n rfl) (qr (AB (decide (x3 < (v0.length : Int)))) (r_nil ?_))))))
 refine cF hF (fun hF => ?_) fun hF => ?_
 ·
  refine w_skip (thenQ_n (w_seq (w_block (w_seq (ws 257 705 (qr (AL 2 (v0.map eNote)) (qr (AI x3) (bk hF fun u0 e0 hF => qp (.val none (.ptr [.int .i64 u0.1, .int .i64 u0.2])) (ev_iad_n rfl rfl e0 rfl) (qr (.val none (.ptr [.int .i64 u0.1, .int .i64 u0.2])) (qr (AI u0.1) (qr (AI x2) (qr (AB (decide (u0.1 ≠ x2))) (r_nil ?_)))))))))))))
  refine cF hF (fun hF => ws 705 769 (qr (AI (-1)) (r_nil (w_ret (thenQ_r (blockQ_r (thenQ_r (thenQ_r (blockQ_r (thenQ_r (eQ hF))))))))))) fun hF => ?_
  refine w_skip (thenQ_n (ws 705 897 (qr (AI x2) (qr (AI (w64 (x2 + 1))) (qr (AI (w64 (x2 + 1))) (r_nil (w_seq (ws 897 1345 (qr (AL 2 (v0.map eNote)) (qr (AI x3) (bk hF fun u1 e1 hF => ?_)))))))))))
  refine qp (.val none (.ptr [.int .i64 u1.1, .int .i64 u1.2])) (ev_iad_n rfl rfl e1 rfl) (qr (.val none (.ptr [.int .i64 u1.2])) (qr (AI u1.2) (qr (AI (w64 (x2 + 1))) (qr (AB (decide (u1.2 ≠ w64 (x2 + 1)))) (r_nil ?_)))))
  refine cF hF (fun hF => ws 1345 1409 (qr (AI (-1)) (r_nil (w_ret (thenQ_r (blockQ_r (thenQ_r (thenQ_r (blockQ_r (thenQ_r (eQ hF))))))))))) fun hF => ?_
  refine w_skip (thenQ_n (w_reg 1345 1537 rfl rfl (qr (AI (w64 (x2 + 1))) (qr (AI (w64 ((w64 (x2 + 1)) + 1))) (qr (AI (w64 ((w64 (x2 + 1)) + 1))) (r_nil (blockQ_n (thenQ_n ?_))))))))
  refine w_reg 1537 1729 rfl rfl (qr (AI x3) (qr (AI (w64 (x3 + 1))) (qr (AI (w64 (x3 + 1))) (r_nil (thenQ_n ?_)))))
  refine ar (l' := [(0, AL 2 (v0.map eNote)), (1, AI (w64 ((w64 (x2 + 1)) + 1))), (5, AI (w64 (x3 + 1)))]) (L := []) [0, 1, 5] [] 1 ⟨_, by rfl, hF⟩
 exact w_exit (thenQ_e (thenQ_e (blockQ_e (thenQ_n (ws 257 385 (qr (AI x2) (qr (AI x2) (rR hF))))))))

def c36 : MC := (sr [pT 4 (.mv (ci 0))] (.seq (sr [pT 5 (.mv (ci 0))] (.block 0 (.loop (.seq (sr [mvt 6 5, mvt 7 0, zT 8 7, bT 9 .lss t6 t8] (cx t9 0)) (.seq (.block 1 (.seq (sr [mP 12 t0, mP 13 t5, iF 14 12 13 6, pF 15 (.fad t14 0), lF 16 15, mP 17 t1, dF 18 56 [t17], bF 19 .neq t16 t18] (.cond t19 (sr [pT 4 (.mv (ci (-1)))] .ret) .skip)) (sr [mvt 20 1, bT 21 .add t20 (ci 1), mvt 1 21] (.seq (sr [mvt 22 0, mvt 23 5, iT 24 22 23 6, pT 25 (.fad t24 1), lT 26 25, mvt 27 1, bT 28 .neq t26 t27] (.cond t28 (sr [pT 4 (.mv (ci (-1)))] .ret) .skip)) (sr [mvt 29 1, bT 30 .add t29 (ci 1), mvt 1 30] (.seq (sr [mvt 31 0, mvt 32 5, iT 33 31 32 6, pT 34 (.fad t33 2), lT 35 34, mvt 36 1, bT 37 .neq t35 t36] (.cond t37 (sr [pT 4 (.mv (ci (-1)))] .ret) .skip)) (sr [mvt 38 1, bT 39 .add t38 (ci 1), mvt 1 39] (.seq (sr [mvt 40 0, mvt 41 5, iT 42 40 41 6, pT 43 (.fad t42 3), lT 44 43, mvt 45 1, bT 46 .neq t44 t45] (.cond t46 (sr [pT 4 (.mv (ci (-1)))] .ret) .skip)) (sr [mvt 47 1, bT 48 .add t47 (ci 1), mvt 1 48] (.seq (sr [mvt 49 0, mvt 50 5, iT 51 49 50 6, pT 52 (.fad t51 4), lT 53 52, mvt 54 1, bT 55 .neq t53 t54] (.cond t55 (sr [pT 4 (.mv (ci (-1)))] .ret) .skip)) (sr [mvt 56 1, bT 57 .add t56 (ci 1), mvt 1 57] (.seq (sr [mvt 58 0, mvt 59 5, iT 60 58 59 6, pT 61 (.fad t60 5), lT 62 61, mvt 63 1, bT 64 .neq t62 t63] (.cond t64 (sr [pT 4 (.mv (ci (-1)))] .ret) .skip)) (.reg [mvt 65 1, bT 66 .add t65 (ci 1), mvt 1 66]))))))))))))) (.reg [mvt 10 5, bT 11 .add t10 (ci 1), mvt 5 11])))))) (sr [mvt 67 1, mvt 4 67] .ret)))
theorem c36_ : IsF Tryz.prog 36 c36 [(.tmp 4)] := ⟨by kernel_rfl, by kernel_rfl⟩

def F_laws_heldItemS_l0 (v0 : List TItem) (k0 : Int × Int → Option (Int)) : Int × Int → Option (Int)
 | (x2, x3) => (bif (decide (x3 < (v0.length : Int))) then ((ix v0 x3).bind fun u0 => ((F_laws_markText x2).bind fun u1 => (bif (decide (u0.1 ≠ u1)) then some (-1)
 else ((ix v0 x3).bind fun u2 => (bif (decide (u2.2.1 ≠ w64 (x2 + 1))) then some (-1)
 else ((ix v0 x3).bind fun u3 => (bif (decide (u3.2.2.1 ≠ w64 ((w64 (x2 + 1)) + 1))) then some (-1)
 else ((ix v0 x3).bind fun u4 => (bif (decide (u4.2.2.2.1 ≠ w64 ((w64 ((w64 (x2 + 1)) + 1)) + 1))) then some (-1)
 else ((ix v0 x3).bind fun u5 => (bif (decide (u5.2.2.2.2.1 ≠ w64 ((w64 ((w64 ((w64 (x2 + 1)) + 1)) + 1)) + 1))) then some (-1)
 else ((ix v0 x3).bind fun u6 => (bif (decide (u6.2.2.2.2.2 ≠ w64 ((w64 ((w64 ((w64 ((w64 (x2 + 1)) + 1)) + 1)) + 1)) + 1))) then some (-1)
 else k0 (w64 ((w64 ((w64 ((w64 ((w64 ((w64 (x2 + 1)) + 1)) + 1)) + 1)) + 1)) + 1), w64 (x3 + 1)))))))))))))))
 else some x2)
def F_laws_heldItemS (v0 : List TItem) (v1 : Int) : Option (Int) :=
 loop (F_laws_heldItemS_l0 v0) (v1, 0)
@[simp] abbrev K58 (x2 : Int) : AV := AI (w64 ((w64 ((w64 ((w64 ((w64 (x2 + 1)) + 1)) + 1)) + 1)) + 1))
@[simp] abbrev K59 (v0 : List TItem) : AV := AL 6 (v0.map eItem)
@[simp] abbrev K5a (u0 : TItem) : AV := .val none (.ptr [.str u0.1, .int .i64 u0.2.1, .int .i64 u0.2.2.1, .int .i64 u0.2.2.2.1, .int .i64 u0.2.2.2.2.1, .int .i64 u0.2.2.2.2.2])
@[simp] abbrev K5b (x2 : Int) : AV := AI (w64 ((w64 ((w64 ((w64 (x2 + 1)) + 1)) + 1)) + 1))
@[simp] abbrev K5c (x2 : Int) : AV := AI (w64 ((w64 ((w64 (x2 + 1)) + 1)) + 1))
@[simp] def res_laws_heldItemS (r : Int) : RV := .one (.one (.val (.int .i64 r)))
theorem con_laws_heldItemS {v0 : List TItem} {v1 : Int} {r : Int} (hF : F_laws_heldItemS v0 v1 = some r) : Con Tryz.prog 36 [.sl 6 (v0.map eItem), .int .i64 v1] (res_laws_heldItemS r) := by
 unfold F_laws_heldItemS at hF
 refine con_of c36_.1 fun N => ?_
 refine ws 0 64 (qr (AI 0) (r_nil (w_seq (ws 64 128 (qr (AI 0) (r_nil (w_block ?_)))))))
 refine wr (l' := [(0, AL 6 (v0.map eItem)), (1, AI v1), (5, AI 0)]) (L := []) [0, 1, 5] [] 1 ?_
 refine w_loopF (F_laws_heldItemS_l0 v0) (fun s : Int × Int => mkS [(0, AL 6 (v0.map eItem)), (1, AI s.1), (5, AI s.2)] (fo []) 1) hF ?_
 rintro k0 ⟨x2, x3⟩ hF
 rw [F_laws_heldItemS_l0] at hF
 try dsimp only
 refine w_seq (ws 1 257 (qr (AI x3) (qr (K59 v0) (qp (AI (v0.length : Int)) (ev_len_n rfl) (qr (AB (decide (x3 < (v0.length : Int)))) (r_nil ?_))))))
 refine cF hF (fun hF => ?_) fun hF => ?_
 ·
  refine w_skip (thenQ_n (w_seq (w_block (w_seq (ws 257 769 (qr (K59 v0) (qr (AI x3) (bk hF fun u0 e0 hF => qp (K5a u0) (ev_iad_n rfl rfl e0 rfl) (qr (K5a u0) (qr (AS u0.1) (qr (AI x2) (bk hF fun u1 e1 hF => qC (AS u1) [] (con_laws_markText e1) c56_ (qr (AB (decide (u0.1 ≠ u1))) (r_nil ?_))))))))))))))
  refine cF hF (fun hF => ws 769 833 (qr (AI (-1)) (r_nil (w_ret (thenQ_r (blockQ_r (thenQ_r (thenQ_r (blockQ_r (thenQ_r (eQ hF))))))))))) fun hF => ?_
  refine w_skip (thenQ_n (ws 769 961 (qr (AI x2) (qr (AI (w64 (x2 + 1))) (qr (AI (w64 (x2 + 1))) (r_nil (w_seq (ws 961 1409 (qr (K59 v0) (qr (AI x3) (bk hF fun u2 e2 hF => ?_)))))))))))
  refine qp (.val none (.ptr [.str u2.1, .int .i64 u2.2.1, .int .i64 u2.2.2.1, .int .i64 u2.2.2.2.1, .int .i64 u2.2.2.2.2.1, .int .i64 u2.2.2.2.2.2])) (ev_iad_n rfl rfl e2 rfl) (qr (.val none (.ptr [.int .i64 u2.2.1, .int .i64 u2.2.2.1, .int .i64 u2.2.2.2.1, .int .i64 u2.2.2.2.2.1, .int .i64 u2.2.2.2.2.2])) (qr (AI u2.2.1) (qr (AI (w64 (x2 + 1))) (qr (AB (decide (u2.2.1 ≠ w64 (x2 + 1)))) (r_nil ?_)))))
  refine cF hF (fun hF => ws 1409 1473 (qr (AI (-1)) (r_nil (w_ret (thenQ_r (blockQ_r (thenQ_r (thenQ_r (blockQ_r (thenQ_r (eQ hF))))))))))) fun hF => ?_
  refine w_skip (thenQ_n (ws 1409 1601 (qr (AI (w64 (x2 + 1))) (qr (AI (w64 ((w64 (x2 + 1)) + 1))) (qr (AI (w64 ((w64 (x2 + 1)) + 1))) (r_nil (w_seq (ws 1601 2049 ?_))))))))
  refine qr (K59 v0) (qr (AI x3) (bk hF fun u3 e3 hF => qp (.val none (.ptr [.str u3.1, .int .i64 u3.2.1, .int .i64 u3.2.2.1, .int .i64 u3.2.2.2.1, .int .i64 u3.2.2.2.2.1, .int .i64 u3.2.2.2.2.2])) (ev_iad_n rfl rfl e3 rfl) (qr (.val none (.ptr [.int .i64 u3.2.2.1, .int .i64 u3.2.2.2.1, .int .i64 u3.2.2.2.2.1, .int .i64 u3.2.2.2.2.2])) (qr (AI u3.2.2.1) (qr (AI (w64 ((w64 (x2 + 1)) + 1))) (qr (AB (decide (u3.2.2.1 ≠ w64 ((w64 (x2 + 1)) + 1)))) (r_nil ?_)))))))
  refine cF hF (fun hF => ws 2049 2113 (qr (AI (-1)) (r_nil (w_ret (thenQ_r (blockQ_r (thenQ_r (thenQ_r (blockQ_r (thenQ_r (eQ hF))))))))))) fun hF => ?_
  refine w_skip (thenQ_n (ws 2049 2241 (qr (AI (w64 ((w64 (x2 + 1)) + 1))) (qr (K5c x2) (qr (K5c x2) (r_nil (w_seq (ws 2241 2689 (qr (K59 v0) (qr (AI x3) (bk hF fun u4 e4 hF => ?_)))))))))))
  refine qp (.val none (.ptr [.str u4.1, .int .i64 u4.2.1, .int .i64 u4.2.2.1, .int .i64 u4.2.2.2.1, .int .i64 u4.2.2.2.2.1, .int .i64 u4.2.2.2.2.2])) (ev_iad_n rfl rfl e4 rfl) (qr (.val none (.ptr [.int .i64 u4.2.2.2.1, .int .i64 u4.2.2.2.2.1, .int .i64 u4.2.2.2.2.2])) (qr (AI u4.2.2.2.1) (qr (K5c x2) (qr (AB (decide (u4.2.2.2.1 ≠ w64 ((w64 ((w64 (x2 + 1)) + 1)) + 1)))) (r_nil ?_)))))
  refine cF hF (fun hF => ws 2689 2753 (qr (AI (-1)) (r_nil (w_ret (thenQ_r (blockQ_r (thenQ_r (thenQ_r (blockQ_r (thenQ_r (eQ hF))))))))))) fun hF => ?_
  refine w_skip (thenQ_n (ws 2689 2881 (qr (K5c x2) (qr (K5b x2) (qr (K5b x2) (r_nil (w_seq (ws 2881 3329 (qr (K59 v0) (qr (AI x3) (bk hF fun u5 e5 hF => ?_)))))))))))
  refine qp (.val none (.ptr [.str u5.1, .int .i64 u5.2.1, .int .i64 u5.2.2.1, .int .i64 u5.2.2.2.1, .int .i64 u5.2.2.2.2.1, .int .i64 u5.2.2.2.2.2])) (ev_iad_n rfl rfl e5 rfl) (qr (.val none (.ptr [.int .i64 u5.2.2.2.2.1, .int .i64 u5.2.2.2.2.2])) (qr (AI u5.2.2.2.2.1) (qr (K5b x2) (qr (AB (decide (u5.2.2.2.2.1 ≠ w64 ((w64 ((w64 ((w64 (x2 + 1)) + 1)) + 1)) + 1)))) (r_nil ?_)))))
  refine cF hF (fun hF => ws 3329 3393 (qr (AI (-1)) (r_nil (w_ret (thenQ_r (blockQ_r (thenQ_r (thenQ_r (blockQ_r (thenQ_r (eQ hF))))))))))) fun hF => ?_
  refine w_skip (thenQ_n (ws 3329 3521 (qr (K5b x2) (qr (K58 x2) (qr (K58 x2) (r_nil (w_seq (ws 3521 3969 (qr (K59 v0) (qr (AI x3) (bk hF fun u6 e6 hF => ?_)))))))))))
  refine qp (.val none (.ptr [.str u6.1, .int .i64 u6.2.1, .int .i64 u6.2.2.1, .int .i64 u6.2.2.2.1, .int .i64 u6.2.2.2.2.1, .int .i64 u6.2.2.2.2.2])) (ev_iad_n rfl rfl e6 rfl) (qr (.val none (.ptr [.int .i64 u6.2.2.2.2.2])) (qr (AI u6.2.2.2.2.2) (qr (K58 x2) (qr (AB (decide (u6.2.2.2.2.2 ≠ w64 ((w64 ((w64 ((w64 ((w64 (x2 + 1)) + 1)) + 1)) + 1)) + 1)))) (r_nil ?_)))))
  refine cF hF (fun hF => ws 3969 4033 (qr (AI (-1)) (r_nil (w_ret (thenQ_r (blockQ_r (thenQ_r (thenQ_r (blockQ_r (thenQ_r (eQ hF))))))))))) fun hF => w_skip (thenQ_n (w_reg 3969 4161 rfl rfl ?_))
  refine qr (K58 x2) (qr (AI (w64 ((w64 ((w64 ((w64 ((w64 ((w64 (x2 + 1)) + 1)) + 1)) + 1)) + 1)) + 1))) (qr (AI (w64 ((w64 ((w64 ((w64 ((w64 ((w64 (x2 + 1)) + 1)) + 1)) + 1)) + 1)) + 1))) ?_))
  refine r_nil (blockQ_n (thenQ_n (w_reg 4161 4353 rfl rfl (qr (AI x3) (qr (AI (w64 (x3 + 1))) (qr (AI (w64 (x3 + 1))) (r_nil (thenQ_n ?_))))))))
  refine ar (l' := [(0, AL 6 (v0.map eItem)), (1, AI (w64 ((w64 ((w64 ((w64 ((w64 ((w64 (x2 + 1)) + 1)) + 1)) + 1)) + 1)) + 1))), (5, AI (w64 (x3 + 1)))]) (L := []) [0, 1, 5] [] 1 ⟨_, by rfl, hF⟩
 exact w_exit (thenQ_e (thenQ_e (blockQ_e (thenQ_n (ws 257 385 (qr (AI x2) (qr (AI x2) (rR hF))))))))

def c37 : MC := (sr [pT 4 (.mv (ci 0))] (.seq (sr [pT 5 (.mv (ci 0))] (.block 0 (.loop (.seq (sr [mvt 6 5, mvt 7 0, zT 8 7, bT 9 .lss t6 t8] (cx t9 0)) (.seq (.block 1 (.seq (sr [mvt 12 0, mvt 13 5, iT 14 12 13 5, pT 15 (.fad t14 0), lT 16 15, mvt 17 1, bT 18 .neq t16 t17] (.cond t18 (sr [pT 4 (.mv (ci (-1)))] .ret) .skip)) (sr [mvt 19 1, bT 20 .add t19 (ci 1), mvt 1 20] (.seq (sr [mP 21 t0, mP 22 t5, iF 23 21 22 5, pF 24 (.fad t23 1), lF 25 24, mP 26 t1, dF 27 56 [t26], bF 28 .neq t25 t27] (.cond t28 (sr [pT 4 (.mv (ci (-1)))] .ret) .skip)) (sr [mvt 29 1, bT 30 .add t29 (ci 1), mvt 1 30] (.seq (sr [mP 31 t0, mP 32 t5, iF 33 31 32 5, pF 34 (.fad t33 2), lF 35 34, mP 36 t1, dF 37 56 [t36], bF 38 .neq t35 t37] (.cond t38 (sr [pT 4 (.mv (ci (-1)))] .ret) .skip)) (sr [mvt 39 1, bT 40 .add t39 (ci 1), mvt 1 40] (.seq (sr [mvt 41 0, mvt 42 5, iT 43 41 42 5, pT 44 (.fad t43 3), lT 45 44, mvt 46 1, bT 47 .neq t45 t46] (.cond t47 (sr [pT 4 (.mv (ci (-1)))] .ret) .skip)) (sr [mvt 48 1, bT 49 .add t48 (ci 1), mvt 1 49] (.seq (sr [mvt 50 0, mvt 51 5, iT 52 50 51 5, pT 53 (.fad t52 4), lT 54 53, mvt 55 1, bT 56 .neq t54 t55] (.cond t56 (sr [pT 4 (.mv (ci (-1)))] .ret) .skip)) (.reg [mvt 57 1, bT 58 .add t57 (ci 1), mvt 1 58]))))))))))) (.reg [mvt 10 5, bT 11 .add t10 (ci 1), mvt 5 11])))))) (sr [mvt 59 1, mvt 4 59] .ret)))
theorem c37_ : IsF Tryz.prog 37 c37 [(.tmp 4)] := ⟨by kernel_rfl, by kernel_rfl⟩

def F_laws_heldLessonS_l0 (v0 : List TLesson) (k0 : Int × Int → Option (Int)) : Int × Int → Option (Int)
 | (x2, x3) => (bif (decide (x3 < (v0.length : Int))) then ((ix v0 x3).bind fun u0 => (bif (decide (u0.1 ≠ x2)) then some (-1)
 else ((ix v0 x3).bind fun u1 => ((F_laws_markText (w64 (x2 + 1))).bind fun u2 => (bif (decide (u1.2.1 ≠ u2)) then some (-1)
 else ((ix v0 x3).bind fun u3 => ((F_laws_markText (w64 ((w64 (x2 + 1)) + 1))).bind fun u4 => (bif (decide (u3.2.2.1 ≠ u4)) then some (-1)
 else ((ix v0 x3).bind fun u5 => (bif (decide (u5.2.2.2.1 ≠ w64 ((w64 ((w64 (x2 + 1)) + 1)) + 1))) then some (-1)
 else ((ix v0 x3).bind fun u6 => (bif (decide (u6.2.2.2.2 ≠ w64 ((w64 ((w64 ((w64 (x2 + 1)) + 1)) + 1)) + 1))) then some (-1)
 else k0 (w64 ((w64 ((w64 ((w64 ((w64 (x2 + 1)) + 1)) + 1)) + 1)) + 1), w64 (x3 + 1))))))))))))))
 else some x2)
def F_laws_heldLessonS (v0 : List TLesson) (v1 : Int) : Option (Int) :=
 loop (F_laws_heldLessonS_l0 v0) (v1, 0)
@[simp] abbrev K5d (x2 : Int) : AV := AI (w64 ((w64 ((w64 ((w64 (x2 + 1)) + 1)) + 1)) + 1))
@[simp] abbrev K5e (v0 : List TLesson) : AV := AL 5 (v0.map eLesson)
@[simp] abbrev K5f (u0 : TLesson) : AV := .val none (.ptr [.int .i64 u0.1, .str u0.2.1, .str u0.2.2.1, .int .i64 u0.2.2.2.1, .int .i64 u0.2.2.2.2])
@[simp] abbrev K5g (x2 : Int) : AV := AI (w64 ((w64 ((w64 (x2 + 1)) + 1)) + 1))
@[simp] def res_laws_heldLessonS (r : Int) : RV := .one (.one (.val (.int .i64 r)))
theorem con_laws_heldLessonS {v0 : List TLesson} {v1 : Int} {r : Int} (hF : F_laws_heldLessonS v0 v1 = some r) : Con Tryz.prog 37 [.sl 5 (v0.map eLesson), .int .i64 v1] (res_laws_heldLessonS r) := by
 unfold F_laws_heldLessonS at hF
 refine con_of c37_.1 fun N => ?_
 refine ws 0 64 (qr (AI 0) (r_nil (w_seq (ws 64 128 (qr (AI 0) (r_nil (w_block ?_)))))))
 refine wr (l' := [(0, AL 5 (v0.map eLesson)), (1, AI v1), (5, AI 0)]) (L := []) [0, 1, 5] [] 1 ?_
 refine w_loopF (F_laws_heldLessonS_l0 v0) (fun s : Int × Int => mkS [(0, AL 5 (v0.map eLesson)), (1, AI s.1), (5, AI s.2)] (fo []) 1) hF ?_
 rintro k0 ⟨x2, x3⟩ hF
 rw [F_laws_heldLessonS_l0] at hF
 try dsimp only
 refine w_seq (ws 1 257 (qr (AI x3) (qr (K5e v0) (qp (AI (v0.length : Int)) (ev_len_n rfl) (qr (AB (decide (x3 < (v0.length : Int)))) (r_nil ?_))))))
 refine cF hF (fun hF => ?_) fun hF => ?_
 ·
  refine w_skip (thenQ_n (w_seq (w_block (w_seq (ws 257 705 (qr (K5e v0) (qr (AI x3) (bk hF fun u0 e0 hF => qp (K5f u0) (ev_iad_n rfl rfl e0 rfl) (qr (K5f u0) (qr (AI u0.1) (qr (AI x2) (qr (AB (decide (u0.1 ≠ x2))) (r_nil ?_)))))))))))))
  refine cF hF (fun hF => ws 705 769 (qr (AI (-1)) (r_nil (w_ret (thenQ_r (blockQ_r (thenQ_r (thenQ_r (blockQ_r (thenQ_r (eQ hF))))))))))) fun hF => ?_
  refine w_skip (thenQ_n (ws 705 897 (qr (AI x2) (qr (AI (w64 (x2 + 1))) (qr (AI (w64 (x2 + 1))) (r_nil (w_seq (ws 897 1409 (qr (K5e v0) (qr (AI x3) (bk hF fun u1 e1 hF => ?_)))))))))))
  refine qp (.val none (.ptr [.int .i64 u1.1, .str u1.2.1, .str u1.2.2.1, .int .i64 u1.2.2.2.1, .int .i64 u1.2.2.2.2])) (ev_iad_n rfl rfl e1 rfl) (qr (.val none (.ptr [.str u1.2.1, .str u1.2.2.1, .int .i64 u1.2.2.2.1, .int .i64 u1.2.2.2.2])) (qr (AS u1.2.1) (qr (AI (w64 (x2 + 1))) (bk hF fun u2 e2 hF => qC (AS u2) [] (con_laws_markText e2) c56_ (qr (AB (decide (u1.2.1 ≠ u2))) (r_nil ?_))))))
  refine cF hF (fun hF => ws 1409 1473 (qr (AI (-1)) (r_nil (w_ret (thenQ_r (blockQ_r (thenQ_r (thenQ_r (blockQ_r (thenQ_r (eQ hF))))))))))) fun hF => ?_
  refine w_skip (thenQ_n (ws 1409 1601 (qr (AI (w64 (x2 + 1))) (qr (AI (w64 ((w64 (x2 + 1)) + 1))) (qr (AI (w64 ((w64 (x2 + 1)) + 1))) (r_nil (w_seq (ws 1601 2113 ?_))))))))
  refine qr (K5e v0) (qr (AI x3) (bk hF fun u3 e3 hF => qp (.val none (.ptr [.int .i64 u3.1, .str u3.2.1, .str u3.2.2.1, .int .i64 u3.2.2.2.1, .int .i64 u3.2.2.2.2])) (ev_iad_n rfl rfl e3 rfl) (qr (.val none (.ptr [.str u3.2.2.1, .int .i64 u3.2.2.2.1, .int .i64 u3.2.2.2.2])) (qr (AS u3.2.2.1) (qr (AI (w64 ((w64 (x2 + 1)) + 1))) (bk hF fun u4 e4 hF => qC (AS u4) [] (con_laws_markText e4) c56_ (qr (AB (decide (u3.2.2.1 ≠ u4))) (r_nil ?_))))))))
  refine cF hF (fun hF => ws 2113 2177 (qr (AI (-1)) (r_nil (w_ret (thenQ_r (blockQ_r (thenQ_r (thenQ_r (blockQ_r (thenQ_r (eQ hF))))))))))) fun hF => ?_
  refine w_skip (thenQ_n (ws 2113 2305 (qr (AI (w64 ((w64 (x2 + 1)) + 1))) (qr (K5g x2) (qr (K5g x2) (r_nil (w_seq (ws 2305 2753 (qr (K5e v0) (qr (AI x3) (bk hF fun u5 e5 hF => ?_)))))))))))
  refine qp (.val none (.ptr [.int .i64 u5.1, .str u5.2.1, .str u5.2.2.1, .int .i64 u5.2.2.2.1, .int .i64 u5.2.2.2.2])) (ev_iad_n rfl rfl e5 rfl) (qr (.val none (.ptr [.int .i64 u5.2.2.2.1, .int .i64 u5.2.2.2.2])) (qr (AI u5.2.2.2.1) (qr (K5g x2) (qr (AB (decide (u5.2.2.2.1 ≠ w64 ((w64 ((w64 (x2 + 1)) + 1)) + 1)))) (r_nil ?_)))))
  refine cF hF (fun hF => ws 2753 2817 (qr (AI (-1)) (r_nil (w_ret (thenQ_r (blockQ_r (thenQ_r (thenQ_r (blockQ_r (thenQ_r (eQ hF))))))))))) fun hF => ?_
  refine w_skip (thenQ_n (ws 2753 2945 (qr (K5g x2) (qr (K5d x2) (qr (K5d x2) (r_nil (w_seq (ws 2945 3393 (qr (K5e v0) (qr (AI x3) (bk hF fun u6 e6 hF => ?_)))))))))))
  refine qp (.val none (.ptr [.int .i64 u6.1, .str u6.2.1, .str u6.2.2.1, .int .i64 u6.2.2.2.1, .int .i64 u6.2.2.2.2])) (ev_iad_n rfl rfl e6 rfl) (qr (.val none (.ptr [.int .i64 u6.2.2.2.2])) (qr (AI u6.2.2.2.2) (qr (K5d x2) (qr (AB (decide (u6.2.2.2.2 ≠ w64 ((w64 ((w64 ((w64 (x2 + 1)) + 1)) + 1)) + 1)))) (r_nil ?_)))))
  refine cF hF (fun hF => ws 3393 3457 (qr (AI (-1)) (r_nil (w_ret (thenQ_r (blockQ_r (thenQ_r (thenQ_r (blockQ_r (thenQ_r (eQ hF))))))))))) fun hF => w_skip (thenQ_n (w_reg 3393 3585 rfl rfl ?_))
  refine qr (K5d x2) (qr (AI (w64 ((w64 ((w64 ((w64 ((w64 (x2 + 1)) + 1)) + 1)) + 1)) + 1))) (qr (AI (w64 ((w64 ((w64 ((w64 ((w64 (x2 + 1)) + 1)) + 1)) + 1)) + 1))) (r_nil ?_)))
  refine blockQ_n (thenQ_n (w_reg 3585 3777 rfl rfl (qr (AI x3) (qr (AI (w64 (x3 + 1))) (qr (AI (w64 (x3 + 1))) (r_nil (thenQ_n ?_)))))))
  refine ar (l' := [(0, AL 5 (v0.map eLesson)), (1, AI (w64 ((w64 ((w64 ((w64 ((w64 (x2 + 1)) + 1)) + 1)) + 1)) + 1))), (5, AI (w64 (x3 + 1)))]) (L := []) [0, 1, 5] [] 1 ⟨_, by rfl, hF⟩
 exact w_exit (thenQ_e (thenQ_e (blockQ_e (thenQ_n (ws 257 385 (qr (AI x2) (qr (AI x2) (rR hF))))))))

def c60 : MC := (sr [pT 4 (.mv (ci 0))] (.seq (sr [pT 5 (.mv (ci 0))] (.block 0 (.loop (.seq (sr [mvt 6 5, mvt 7 0, zT 8 7, bT 9 .lss t6 t8] (cx t9 0)) (.seq (.block 1 (.seq (sr [mP 12 t0, mP 13 t5, iF 14 12 13 1, lF 15 14, mP 16 t1, dF 17 56 [t16], bF 18 .neq t15 t17] (.cond t18 (sr [pT 4 (.mv (ci (-1)))] .ret) .skip)) (.reg [mvt 19 1, bT 20 .add t19 (ci 1), mvt 1 20]))) (.reg [mvt 10 5, bT 11 .add t10 (ci 1), mvt 5 11])))))) (sr [mvt 21 1, mvt 4 21] .ret)))
theorem c60_ : IsF Tryz.prog 60 c60 [(.tmp 4)] := ⟨by kernel_rfl, by kernel_rfl⟩

def F_laws_heldStringS_l0 (v0 : List (List UInt8)) (k0 : Int × Int → Option (Int)) : Int × Int → Option (Int)
 | (x2, x3) => (bif (decide (x3 < (v0.length : Int))) then ((ix v0 x3).bind fun u0 => ((F_laws_markText x2).bind fun u1 => (bif (decide (u0 ≠ u1)) then some (-1)
 else k0 (w64 (x2 + 1), w64 (x3 + 1)))))
 else some x2)
def F_laws_heldStringS (v0 : List (List UInt8)) (v1 : Int) : Option (Int) :=
 loop (F_laws_heldStringS_l0 v0) (v1, 0)
@[simp] def res_laws_heldStringS (r : Int) : RV := .one (.one (.val (.int .i64 r)))
theorem con_laws_heldStringS {v0 : List (List UInt8)} {v1 : Int} {r : Int} (hF : F_laws_heldStringS v0 v1 = some r) : Con Tryz.prog 60 [.sl 1 (v0.map V.str), .int .i64 v1] (res_laws_heldStringS r) := by
 unfold F_laws_heldStringS at hF
 refine con_of c60_.1 fun N => ?_
 refine ws 0 64 (qr (AI 0) (r_nil (w_seq (ws 64 128 (qr (AI 0) (r_nil (w_block ?_)))))))
 refine wr (l' := [(0, AL 1 (v0.map V.str)), (1, AI v1), (5, AI 0)]) (L := []) [0, 1, 5] [] 1 ?_
 refine w_loopF (F_laws_heldStringS_l0 v0) (fun s : Int × Int => mkS [(0, AL 1 (v0.map V.str)), (1, AI s.1), (5, AI s.2)] (fo []) 1) hF ?_
 rintro k0 ⟨x2, x3⟩ hF
 rw [F_laws_heldStringS_l0] at hF
 try dsimp only
 refine w_seq (ws 1 257 (qr (AI x3) (qr (AL 1 (v0.map V.str)) (qp (AI (v0.length : Int)) (ev_len_n rfl) (qr (AB (decide (x3 < (v0.length : Int)))) (r_nil ?_))))))
 refine cF hF (fun hF => ?_) fun hF => ?_
 ·
  refine w_skip (thenQ_n (w_seq (w_block (w_seq (ws 257 705 (qr (AL 1 (v0.map V.str)) (qr (AI x3) (bk hF fun u0 e0 hF => qp (.val none (.ptr [.str u0])) (ev_iad_n rfl rfl e0 rfl) (qr (AS u0) (qr (AI x2) (bk hF fun u1 e1 hF => qC (AS u1) [] (con_laws_markText e1) c56_ (qr (AB (decide (u0 ≠ u1))) (r_nil ?_)))))))))))))
  refine cF hF (fun hF => ws 705 769 (qr (AI (-1)) (r_nil (w_ret (thenQ_r (blockQ_r (thenQ_r (thenQ_r (blockQ_r (thenQ_r (eQ hF))))))))))) fun hF => ?_
  refine w_skip (thenQ_n (w_reg 705 897 rfl rfl (qr (AI x2) (qr (AI (w64 (x2 + 1))) (qr (AI (w64 (x2 + 1))) (r_nil (blockQ_n (thenQ_n (w_reg 897 1089 rfl rfl ?_)))))))))
  refine qr (AI x3) (qr (AI (w64 (x3 + 1))) (qr (AI (w64 (x3 + 1))) (r_nil (thenQ_n ?_))))
  refine ar (l' := [(0, AL 1 (v0.map V.str)), (1, AI (w64 (x2 + 1))), (5, AI (w64 (x3 + 1)))]) (L := []) [0, 1, 5] [] 1 ⟨_, by rfl, hF⟩
 exact w_exit (thenQ_e (thenQ_e (blockQ_e (thenQ_n (ws 257 385 (qr (AI x2) (qr (AI x2) (rR hF))))))))

def c38 : MC := (sr [pT 4 (.mv (ci 0))] (.seq (sr [pT 5 (.mv (ci 0))] (.block 0 (.loop (.seq (sr [mvt 6 5, mvt 7 0, zT 8 7, bT 9 .lss t6 t8] (cx t9 0)) (.seq (.block 1 (.seq (sr [mP 12 t0, mP 13 t5, iF 14 12 13 3, pF 15 (.fad t14 0), lF 16 15, mP 17 t1, dF 18 56 [t17], bF 19 .neq t16 t18] (.cond t19 (sr [pT 4 (.mv (ci (-1)))] .ret) .skip)) (sr [mvt 20 1, bT 21 .add t20 (ci 1), mvt 1 21] (.seq (sr [mvt 22 0, mvt 23 5, iT 24 22 23 3, pT 25 (.fad t24 1), lT 26 25, mvt 27 1, bT 28 .neq t26 t27] (.cond t28 (sr [pT 4 (.mv (ci (-1)))] .ret) .skip)) (sr [mvt 29 1, bT 30 .add t29 (ci 1), mvt 1 30] (sr [mvt 31 0, mvt 32 5, iT 33 31 32 3, pT 34 (.fad t33 2), lT 35 34, mvt 36 1, dT 37 60 [t35, t36], mvt 1 37] (sr [mvt 38 1, bT 39 .lss t38 (ci 0)] (.cond t39 (sr [pT 4 (.mv (ci (-1)))] .ret) .skip)))))))) (.reg [mvt 10 5, bT 11 .add t10 (ci 1), mvt 5 11])))))) (sr [mvt 40 1, mvt 4 40] .ret)))
theorem c38_ : IsF Tryz.prog 38 c38 [(.tmp 4)] := ⟨by kernel_rfl, by kernel_rfl⟩

def F_laws_heldPersonS_l0 (v0 : List TPerson) (k0 : Int × Int → Option (Int)) : Int × Int → Option (Int)
 | (x2, x3) => (bif (decide (x3 < (v0.length : Int))) then ((ix v0 x3).bind fun u0 => ((F_laws_markText x2).bind fun u1 => (bif (decide (u0.1 ≠ u1)) then some (-1)
 else ((ix v0 x3).bind fun u2 => (bif (decide (u2.2.1 ≠ w64 (x2 + 1))) then some (-1)
 else ((ix v0 x3).bind fun u3 => ((F_laws_heldStringS u3.2.2 (w64 ((w64 (x2 + 1)) + 1))).bind fun u4 => (bif (decide (u4 < (0 : Int))) then some (-1)
 else k0 (u4, w64 (x3 + 1))))))))))
 else some x2)
def F_laws_heldPersonS (v0 : List TPerson) (v1 : Int) : Option (Int) :=
 loop (F_laws_heldPersonS_l0 v0) (v1, 0)
@[simp] def res_laws_heldPersonS (r : Int) : RV := .one (.one (.val (.int .i64 r)))
theorem con_laws_heldPersonS {v0 : List TPerson} {v1 : Int} {r : Int} (hF : F_laws_heldPersonS v0 v1 = some r) : Con Tryz.prog 38 [.sl 3 (v0.map ePerson), .int .i64 v1] (res_laws_heldPersonS r) := by
 unfold F_laws_heldPersonS at hF
 refine con_of c38_.1 fun N => ?_
 refine ws 0 64 (qr (AI 0) (r_nil (w_seq (ws 64 128 (qr (AI 0) (r_nil (w_block ?_)))))))
 refine wr (l' := [(0, AL 3 (v0.map ePerson)), (1, AI v1), (5, AI 0)]) (L := []) [0, 1, 5] [] 1 ?_
 refine w_loopF (F_laws_heldPersonS_l0 v0) (fun s : Int × Int => mkS [(0, AL 3 (v0.map ePerson)), (1, AI s.1), (5, AI s.2)] (fo []) 1) hF ?_
 rintro k0 ⟨x2, x3⟩ hF
 rw [F_laws_heldPersonS_l0] at hF
 try dsimp only
 refine w_seq (ws 1 257 (qr (AI x3) (qr (AL 3 (v0.map ePerson)) (qp (AI (v0.length : Int)) (ev_len_n rfl) (qr (AB (decide (x3 < (v0.length : Int)))) (r_nil ?_))))))
 refine cF hF (fun hF => ?_) fun hF => ?_
 ·
  refine w_skip (thenQ_n (w_seq (w_block (w_seq (ws 257 769 (qr (AL 3 (v0.map ePerson)) (qr (AI x3) (bk hF fun u0 e0 hF => qp (.val none (.ptr [.str u0.1, .int .i64 u0.2.1, .sl 1 (u0.2.2.map V.str)])) (ev_iad_n rfl rfl e0 rfl) (qr (.val none (.ptr [.str u0.1, .int .i64 u0.2.1, .sl 1 (u0.2.2.map V.str)])) (qr (AS u0.1) (qr (AI x2) (bk hF fun u1 e1 hF => qC (AS u1) [] (con_laws_markText e1) c56_ (qr (AB (decide (u0.1 ≠ u1))) (r_nil ?_))))))))))))))
  refine cF hF (fun hF => ws 769 833 (qr (AI (-1)) (r_nil (w_ret (thenQ_r (blockQ_r (thenQ_r (thenQ_r (blockQ_r (thenQ_r (eQ hF))))))))))) fun hF => ?_
  refine w_skip (thenQ_n (ws 769 961 (qr (AI x2) (qr (AI (w64 (x2 + 1))) (qr (AI (w64 (x2 + 1))) (r_nil (w_seq (ws 961 1409 (qr (AL 3 (v0.map ePerson)) (qr (AI x3) (bk hF fun u2 e2 hF => ?_)))))))))))
  refine qp (.val none (.ptr [.str u2.1, .int .i64 u2.2.1, .sl 1 (u2.2.2.map V.str)])) (ev_iad_n rfl rfl e2 rfl) (qr (.val none (.ptr [.int .i64 u2.2.1, .sl 1 (u2.2.2.map V.str)])) (qr (AI u2.2.1) (qr (AI (w64 (x2 + 1))) (qr (AB (decide (u2.2.1 ≠ w64 (x2 + 1)))) (r_nil ?_)))))
  refine cF hF (fun hF => ws 1409 1473 (qr (AI (-1)) (r_nil (w_ret (thenQ_r (blockQ_r (thenQ_r (thenQ_r (blockQ_r (thenQ_r (eQ hF))))))))))) fun hF => ?_
  refine w_skip (thenQ_n (ws 1409 1601 (qr (AI (w64 (x2 + 1))) (qr (AI (w64 ((w64 (x2 + 1)) + 1))) (qr (AI (w64 ((w64 (x2 + 1)) + 1))) (r_nil (ws 1601 2113 ?_)))))))
  refine qr (AL 3 (v0.map ePerson)) (qr (AI x3) (bk hF fun u3 e3 hF => qp (.val none (.ptr [.str u3.1, .int .i64 u3.2.1, .sl 1 (u3.2.2.map V.str)])) (ev_iad_n rfl rfl e3 rfl) (qr (.val none (.ptr [.sl 1 (u3.2.2.map V.str)])) (qr (AL 1 (u3.2.2.map V.str)) (qr (AI (w64 ((w64 (x2 + 1)) + 1))) (bk hF fun u4 e4 hF => qC (AI u4) [] (con_laws_heldStringS e4) c60_ (qr (AI u4) (r_nil (ws 2113 2241 (qr (AI u4) (qr (AB (decide (u4 < (0 : Int)))) (r_nil ?_))))))))))))
  refine cF hF (fun hF => ws 2241 2305 (qr (AI (-1)) (r_nil (w_ret (blockQ_r (thenQ_r (thenQ_r (blockQ_r (thenQ_r (eQ hF)))))))))) fun hF => ?_
  refine w_skip (blockQ_n (thenQ_n (w_reg 2241 2433 rfl rfl (qr (AI x3) (qr (AI (w64 (x3 + 1))) (qr (AI (w64 (x3 + 1))) (r_nil (thenQ_n ?_))))))))
  refine ar (l' := [(0, AL 3 (v0.map ePerson)), (1, AI u4), (5, AI (w64 (x3 + 1)))]) (L := []) [0, 1, 5] [] 1 ⟨_, by rfl, hF⟩
 exact w_exit (thenQ_e (thenQ_e (blockQ_e (thenQ_n (ws 257 385 (qr (AI x2) (qr (AI x2) (rR hF))))))))

def c8 : MC := (sr [rg 2 (.f (.box t0)), pT 4 (.mv (ci 0))] (sr [pT 5 (.fad t2 0), pT 6 (.ld t5 6 true), mvt 7 1, dT 8 30 [t6, t7], mvt 1 8] (.seq (sr [mvt 9 1, bT 10 .lss t9 (ci 0)] (.cond t10 (sr [pT 4 (.mv (ci (-1)))] .ret) .skip)) (sr [pT 11 (.fad t2 6), lT 12 11, mvt 13 1, dT 14 31 [t12, t13], mvt 1 14] (.seq (sr [mvt 15 1, bT 16 .lss t15 (ci 0)] (.cond t16 (sr [pT 4 (.mv (ci (-1)))] .ret) .skip)) (sr [pT 17 (.fad t2 7), pT 18 (.ld t17 2 true), mvt 19 1, dT 20 32 [t18, t19], mvt 1 20] (.seq (sr [mvt 21 1, bT 22 .lss t21 (ci 0)] (.cond t22 (sr [pT 4 (.mv (ci (-1)))] .ret) .skip)) (sr [pT 23 (.fad t2 9), lT 24 23, mvt 25 1, dT 26 33 [t24, t25], mvt 1 26] (.seq (sr [mvt 27 1, bT 28 .lss t27 (ci 0)] (.cond t28 (sr [pT 4 (.mv (ci (-1)))] .ret) .skip)) (sr [pT 29 (.fad t2 10), lT 30 29, mvt 31 1, dT 32 34 [t30, t31], mvt 1 32] (.seq (sr [mvt 33 1, bT 34 .lss t33 (ci 0)] (.cond t34 (sr [pT 4 (.mv (ci (-1)))] .ret) .skip)) (sr [pT 35 (.fad t2 11), lT 36 35, mvt 37 1, dT 38 35 [t36, t37], mvt 1 38] (.seq (sr [mvt 39 1, bT 40 .lss t39 (ci 0)] (.cond t40 (sr [pT 4 (.mv (ci (-1)))] .ret) .skip)) (sr [pT 41 (.fad t2 12), lT 42 41, mvt 43 1, dT 44 36 [t42, t43], mvt 1 44] (.seq (sr [mvt 45 1, bT 46 .lss t45 (ci 0)] (.cond t46 (sr [pT 4 (.mv (ci (-1)))] .ret) .skip)) (sr [pT 47 (.fad t2 13), lT 48 47, mvt 49 1, dT 50 37 [t48, t49], mvt 1 50] (.seq (sr [mvt 51 1, bT 52 .lss t51 (ci 0)] (.cond t52 (sr [pT 4 (.mv (ci (-1)))] .ret) .skip)) (sr [pT 53 (.fad t2 14), lT 54 53, mvt 55 1, dT 56 38 [t54, t55], mvt 1 56] (.seq (sr [mvt 57 1, bT 58 .lss t57 (ci 0)] (.cond t58 (sr [pT 4 (.mv (ci (-1)))] .ret) .skip)) (sr [mvt 59 1, mvt 4 59] .ret))))))))))))))))))))
theorem c8_ : IsF Tryz.prog 8 c8 [(.tmp 4)] := ⟨by kernel_rfl, by kernel_rfl⟩

def F_laws_heldDesk (v0 : TDesk) (v1 : Int) : Option (Int) :=
 ((F_laws_heldRaga (v0.1, v0.2.1, v0.2.2.1, v0.2.2.2.1, v0.2.2.2.2.1, v0.2.2.2.2.2.1) v1).bind fun u0 => (bif (decide (u0 < (0 : Int))) then some (-1)
 else ((F_laws_heldNoteS v0.2.2.2.2.2.2.1 u0).bind fun u1 => (bif (decide (u1 < (0 : Int))) then some (-1)
 else ((F_laws_heldTuning (v0.2.2.2.2.2.2.2.1, v0.2.2.2.2.2.2.2.2.1) u1).bind fun u2 => (bif (decide (u2 < (0 : Int))) then some (-1)
 else ((F_laws_heldInt64SS v0.2.2.2.2.2.2.2.2.2.1 u2).bind fun u3 => (bif (decide (u3 < (0 : Int))) then some (-1)
 else ((F_laws_heldSyllableS v0.2.2.2.2.2.2.2.2.2.2.1 u3).bind fun u4 => (bif (decide (u4 < (0 : Int))) then some (-1)
 else ((F_laws_heldTempoMarkS v0.2.2.2.2.2.2.2.2.2.2.2.1 u4).bind fun u5 => (bif (decide (u5 < (0 : Int))) then some (-1)
 else ((F_laws_heldItemS v0.2.2.2.2.2.2.2.2.2.2.2.2.1 u5).bind fun u6 => (bif (decide (u6 < (0 : Int))) then some (-1)
 else ((F_laws_heldLessonS v0.2.2.2.2.2.2.2.2.2.2.2.2.2.1 u6).bind fun u7 => (bif (decide (u7 < (0 : Int))) then some (-1)
 else ((F_laws_heldPersonS v0.2.2.2.2.2.2.2.2.2.2.2.2.2.2 u7).bind fun u8 => (bif (decide (u8 < (0 : Int))) then some (-1)
 else some u8))))))))))))))))))
@[simp] abbrev K5h (v0 : TDesk) : List (Nat × Root) := [(0, .box [AS v0.1, AL 1 (v0.2.1.map vI), AL 1 (v0.2.2.1.map vI), AI v0.2.2.2.1, AI v0.2.2.2.2.1, AL 1 (v0.2.2.2.2.2.1.map (eL 1 vI)), AL 2 (v0.2.2.2.2.2.2.1.map eNote), AS v0.2.2.2.2.2.2.2.1, AL 2 (v0.2.2.2.2.2.2.2.2.1.map eNote), AL 1 (v0.2.2.2.2.2.2.2.2.2.1.map (eL 1 vI)), AL 3 (v0.2.2.2.2.2.2.2.2.2.2.1.map eSyllable), AL 2 (v0.2.2.2.2.2.2.2.2.2.2.2.1.map eNote), AL 6 (v0.2.2.2.2.2.2.2.2.2.2.2.2.1.map eItem), AL 5 (v0.2.2.2.2.2.2.2.2.2.2.2.2.2.1.map eLesson), AL 3 (v0.2.2.2.2.2.2.2.2.2.2.2.2.2.2.map ePerson)])]
@[simp] def res_laws_heldDesk (r : Int) : RV := .one (.one (.val (.int .i64 r)))
theorem con_laws_heldDesk {v0 : TDesk} {v1 : Int} {r : Int} (hF : F_laws_heldDesk v0 v1 = some r) : Con Tryz.prog 8 [eDesk v0, .int .i64 v1] (res_laws_heldDesk r) := by
 unfold F_laws_heldDesk at hF
 refine con_of c8_.1 fun N => ?_
 refine ws 0 128 (qf (.ptr 0 0 0) (K5h v0) (by simp) (qr (AI 0) (r_nil (ws 128 448 (qr (.ptr 0 0 0) (qr (.agg [AS v0.1, AL 1 (v0.2.1.map vI), AL 1 (v0.2.2.1.map vI), AI v0.2.2.2.1, AI v0.2.2.2.2.1, AL 1 (v0.2.2.2.2.2.1.map (eL 1 vI))]) (qr (AI v1) (bk hF fun u0 e0 hF => qC (AI u0) (K5h v0) (con_laws_heldRaga e0) c30_ (qr (AI u0) (r_nil (w_seq (ws 448 576 (qr (AI u0) (qr (AB (decide (u0 < (0 : Int)))) ?_))))))))))))))
 refine r_nil (cF hF (fun hF => ws 576 640 (qr (AI (-1)) (r_nil (w_ret (thenQ_r (eQ hF)))))) fun hF => ?_)
 refine w_skip (thenQ_n (ws 576 896 (qr (.ptr 0 0 6) (qr (AL 2 (v0.2.2.2.2.2.2.1.map eNote)) (qr (AI u0) (bk hF fun u1 e1 hF => qC (AI u1) (K5h v0) (con_laws_heldNoteS e1) c31_ (qr (AI u1) (r_nil (w_seq (ws 896 1024 (qr (AI u1) (qr (AB (decide (u1 < (0 : Int)))) (r_nil ?_)))))))))))))
 refine cF hF (fun hF => ws 1024 1088 (qr (AI (-1)) (r_nil (w_ret (thenQ_r (eQ hF)))))) fun hF => ?_
 refine w_skip (thenQ_n (ws 1024 1344 (qr (.ptr 0 0 7) (qr (.agg [AS v0.2.2.2.2.2.2.2.1, AL 2 (v0.2.2.2.2.2.2.2.2.1.map eNote)]) (qr (AI u1) (bk hF fun u2 e2 hF => qC (AI u2) (K5h v0) (con_laws_heldTuning e2) c32_ (qr (AI u2) (r_nil (w_seq (ws 1344 1472 (qr (AI u2) (qr (AB (decide (u2 < (0 : Int)))) (r_nil ?_)))))))))))))
 refine cF hF (fun hF => ws 1472 1536 (qr (AI (-1)) (r_nil (w_ret (thenQ_r (eQ hF)))))) fun hF => ?_
 refine w_skip (thenQ_n (ws 1472 1792 (qr (.ptr 0 0 9) (qr (AL 1 (v0.2.2.2.2.2.2.2.2.2.1.map (eL 1 vI))) (qr (AI u2) (bk hF fun u3 e3 hF => qC (AI u3) (K5h v0) (con_laws_heldInt64SS e3) c33_ (qr (AI u3) (r_nil (w_seq (ws 1792 1920 (qr (AI u3) (qr (AB (decide (u3 < (0 : Int)))) (r_nil ?_)))))))))))))
 refine cF hF (fun hF => ws 1920 1984 (qr (AI (-1)) (r_nil (w_ret (thenQ_r (eQ hF)))))) fun hF => ?_
 refine w_skip (thenQ_n (ws 1920 2240 (qr (.ptr 0 0 10) (qr (AL 3 (v0.2.2.2.2.2.2.2.2.2.2.1.map eSyllable)) (qr (AI u3) (bk hF fun u4 e4 hF => qC (AI u4) (K5h v0) (con_laws_heldSyllableS e4) c34_ (qr (AI u4) (r_nil (w_seq (ws 2240 2368 (qr (AI u4) (qr (AB (decide (u4 < (0 : Int)))) (r_nil ?_)))))))))))))
 refine cF hF (fun hF => ws 2368 2432 (qr (AI (-1)) (r_nil (w_ret (thenQ_r (eQ hF)))))) fun hF => ?_
 refine w_skip (thenQ_n (ws 2368 2688 (qr (.ptr 0 0 11) (qr (AL 2 (v0.2.2.2.2.2.2.2.2.2.2.2.1.map eNote)) (qr (AI u4) (bk hF fun u5 e5 hF => qC (AI u5) (K5h v0) (con_laws_heldTempoMarkS e5) c35_ (qr (AI u5) (r_nil (w_seq (ws 2688 2816 (qr (AI u5) (qr (AB (decide (u5 < (0 : Int)))) (r_nil ?_)))))))))))))
 refine cF hF (fun hF => ws 2816 2880 (qr (AI (-1)) (r_nil (w_ret (thenQ_r (eQ hF)))))) fun hF => ?_
 refine w_skip (thenQ_n (ws 2816 3136 (qr (.ptr 0 0 12) (qr (AL 6 (v0.2.2.2.2.2.2.2.2.2.2.2.2.1.map eItem)) (qr (AI u5) (bk hF fun u6 e6 hF => qC (AI u6) (K5h v0) (con_laws_heldItemS e6) c36_ (qr (AI u6) (r_nil (w_seq (ws 3136 3264 (qr (AI u6) (qr (AB (decide (u6 < (0 : Int)))) (r_nil ?_)))))))))))))
 refine cF hF (fun hF => ws 3264 3328 (qr (AI (-1)) (r_nil (w_ret (thenQ_r (eQ hF)))))) fun hF => ?_
 refine w_skip (thenQ_n (ws 3264 3584 (qr (.ptr 0 0 13) (qr (AL 5 (v0.2.2.2.2.2.2.2.2.2.2.2.2.2.1.map eLesson)) (qr (AI u6) (bk hF fun u7 e7 hF => qC (AI u7) (K5h v0) (con_laws_heldLessonS e7) c37_ (qr (AI u7) (r_nil (w_seq (ws 3584 3712 (qr (AI u7) (qr (AB (decide (u7 < (0 : Int)))) (r_nil ?_)))))))))))))
 refine cF hF (fun hF => ws 3712 3776 (qr (AI (-1)) (r_nil (w_ret (thenQ_r (eQ hF)))))) fun hF => ?_
 refine w_skip (thenQ_n (ws 3712 4032 (qr (.ptr 0 0 14) (qr (AL 3 (v0.2.2.2.2.2.2.2.2.2.2.2.2.2.2.map ePerson)) (qr (AI u7) (bk hF fun u8 e8 hF => qC (AI u8) (K5h v0) (con_laws_heldPersonS e8) c38_ (qr (AI u8) (r_nil (w_seq (ws 4032 4160 (qr (AI u8) (qr (AB (decide (u8 < (0 : Int)))) (r_nil ?_)))))))))))))
 refine cF hF (fun hF => ws 4160 4224 (qr (AI (-1)) (r_nil (w_ret (thenQ_r (eQ hF)))))) fun hF => ?_
 exact w_skip (thenQ_n (ws 4160 4288 (qr (AI u8) (qr (AI u8) (rR hF)))))

end Go.Ab
