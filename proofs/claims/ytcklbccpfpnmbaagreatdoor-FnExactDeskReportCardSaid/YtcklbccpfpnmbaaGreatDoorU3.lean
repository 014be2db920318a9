/- Walks (printed by auto.py, a program of this session's own). -/
import Derived.Test.YtcklbccpfpnmbaaGreatDoorU2
import Derived.Test.YtcklbccpfpnmbaaGreatDoorProg
import Derived.KernelRfl
import Derived.Test.YtcklbccpfpnmbaaGreatDoorSQ
set_option linter.unusedVariables false
set_option linter.unusedSimpArgs false
set_option maxRecDepth 8000
set_option maxHeartbeats 8000000
noncomputable section
namespace Go.Ab
open Go.RowKit Go.Proofs

def c5 : MC := (sr [rg 1 (.f (.box t0)), rg 2 (.f (.nilrow 1)), pT 3 (.mv (ci 0))] (.seq (sr [dT 8 22 [t1], pT 9 (.not t8)] (.cond t9 (sr [rg 2 (.f (.nilrow 1)), pT 3 (.mv (ci 1))] .ret) .skip)) (sr [rg 10 (.f (.bsl 1 [(.c (.str [110, 111, 116, 101, 115])), (.c (.str [112, 104, 114, 97, 115, 101, 115])), (.c (.str [115, 116, 114, 111, 107, 101, 115])), (.c (.str [109, 97, 114, 107, 115])), (.c (.str [105, 116, 101, 109, 115])), (.c (.str [108, 101, 115, 115, 111, 110, 115])), (.c (.str [112, 101, 114, 115, 111, 110, 115]))])), mvt 4 10] (sr [pT 11 (.fad t1 6), lT 12 11, zT 13 12, pT 14 (.fad t1 9), lT 15 14, zT 16 15, pT 17 (.fad t1 10), lT 18 17, zT 19 18, pT 20 (.fad t1 11), lT 21 20, zT 22 21, pT 23 (.fad t1 12), lT 24 23, zT 25 24, pT 26 (.fad t1 13), lT 27 26, zT 28 27, pT 29 (.fad t1 14), lT 30 29, zT 31 30, rg 32 (.f (.bsl 1 [t13, t16, t19, t22, t25, t28, t31])), mvt 5 32] (sr [rg 33 (.f (.bsl 1 [])), mvt 6 33] (.seq (sr [pT 7 (.mv (ci 0))] (.block 0 (.loop (.seq (sr [mvt 34 7, mvt 35 4, zT 36 35, bT 37 .lss t34 t36] (cx t37 0)) (.seq (.block 1 (.reg [mP 40 t6, mP 41 t4, mP 42 t7, iF 43 41 42 1, lF 44 43, pF 45 (.bin .add t44 (.c (.str [32]))), mP 46 t5, mP 47 t7, iF 48 46 47 1, lF 49 48, dF 50 23 [t49], bF 51 .add t45 t50, rg 52 (.f (.bsl 1 [t51])), rg 53 (.f (.app t40 t52 1 16 true)), mP 6 t53])) (.reg [mvt 38 7, bT 39 .add t38 (ci 1), mvt 7 39])))))) (sr [mvt 54 6, mvt 2 54, pT 3 (.mv (ci 0))] .ret)))))))
theorem c5_ : IsF Tryz.prog 5 c5 [(.tmp 2), (.tmp 3)] := ⟨by kernel_rfl, by kernel_rfl⟩

def U9 (v0 : y8) (k1 : Int × (List (List UInt8)) → Option ((List (List UInt8)) × Int)) : Int × (List (List UInt8)) → Option ((List (List UInt8)) × Int)
 | (x6, x7) => (bif (decide (x6 < (([[110, 111, 116, 101, 115], [112, 104, 114, 97, 115, 101, 115], [115, 116, 114, 111, 107, 101, 115], [109, 97, 114, 107, 115], [105, 116, 101, 109, 115], [108, 101, 115, 115, 111, 110, 115], [112, 101, 114, 115, 111, 110, 115]] : List (List UInt8)).length : Int))) then ((ix ([[110, 111, 116, 101, 115], [112, 104, 114, 97, 115, 101, 115], [115, 116, 114, 111, 107, 101, 115], [109, 97, 114, 107, 115], [105, 116, 101, 109, 115], [108, 101, 115, 115, 111, 110, 115], [112, 101, 114, 115, 111, 110, 115]] : List (List UInt8)) x6).bind fun u13 => (need (u13.length + ([32] : List UInt8).length < 9223372036854775808) (((ix [(v0.2.2.2.2.2.2.1.length : Int), (v0.2.2.2.2.2.2.2.2.2.1.length : Int), (v0.2.2.2.2.2.2.2.2.2.2.1.length : Int), (v0.2.2.2.2.2.2.2.2.2.2.2.1.length : Int), (v0.2.2.2.2.2.2.2.2.2.2.2.2.1.length : Int), (v0.2.2.2.2.2.2.2.2.2.2.2.2.2.1.length : Int), (v0.2.2.2.2.2.2.2.2.2.2.2.2.2.2.length : Int)] x6).bind fun u15 => ((a0C u15).bind fun u16 => (need ((u13 ++ ([32] : List UInt8)).length + u16.length < 9223372036854775808) ((need (room (x7.length + [(u13 ++ ([32] : List UInt8)) ++ u16].length) 16) (k1 (w64 (x6 + 1), x7 ++ [(u13 ++ ([32] : List UInt8)) ++ u16]))))))))))
 else some (x7, 0))
def W5 (v0 : y8) : Option ((List (List UInt8)) × Int) :=
 ((a2s v0).bind fun u0 => (bif (!u0) then some ([], 1)
 else loop (U9 v0) (0, [])))
@[simp] abbrev K4e (v0 : y8) : List (Nat × Root) := [(0, .box [AS v0.1, AL 1 (v0.2.1.map vI), AL 1 (v0.2.2.1.map vI), AI v0.2.2.2.1, AI v0.2.2.2.2.1, AL 1 (v0.2.2.2.2.2.1.map (eL 1 vI)), AL 2 (v0.2.2.2.2.2.2.1.map j3), AS v0.2.2.2.2.2.2.2.1, AL 2 (v0.2.2.2.2.2.2.2.2.1.map j3), AL 1 (v0.2.2.2.2.2.2.2.2.2.1.map (eL 1 vI)), AL 3 (v0.2.2.2.2.2.2.2.2.2.2.1.map p3), AL 2 (v0.2.2.2.2.2.2.2.2.2.2.2.1.map j3), AL 6 (v0.2.2.2.2.2.2.2.2.2.2.2.2.1.map A1), AL 5 (v0.2.2.2.2.2.2.2.2.2.2.2.2.2.1.map p8), AL 3 (v0.2.2.2.2.2.2.2.2.2.2.2.2.2.2.map p9)])]
@[simp] abbrev K4f (v0 : y8) : List (Nat × Root) := ((64, .row true 1 (([] : List Int).map vI)) :: (K4e v0))
@[simp] abbrev K4g (v0 : y8) : List (Nat × Root) := ((320, .row true 1 (([[110, 111, 116, 101, 115], [112, 104, 114, 97, 115, 101, 115], [115, 116, 114, 111, 107, 101, 115], [109, 97, 114, 107, 115], [105, 116, 101, 109, 115], [108, 101, 115, 115, 111, 110, 115], [112, 101, 114, 115, 111, 110, 115]] : List (List UInt8)).map V.str)) :: (K4f v0))
@[simp] abbrev K4k (v0 : y8) : Nat × Root := (1, .row true 1 ([(v0.2.2.2.2.2.2.1.length : Int), (v0.2.2.2.2.2.2.2.2.2.1.length : Int), (v0.2.2.2.2.2.2.2.2.2.2.1.length : Int), (v0.2.2.2.2.2.2.2.2.2.2.2.1.length : Int), (v0.2.2.2.2.2.2.2.2.2.2.2.2.1.length : Int), (v0.2.2.2.2.2.2.2.2.2.2.2.2.2.1.length : Int), (v0.2.2.2.2.2.2.2.2.2.2.2.2.2.2.length : Int)].map vI))
@[simp] abbrev K4l : Nat × Root := (0, .row true 1 (([[110, 111, 116, 101, 115], [112, 104, 114, 97, 115, 101, 115], [115, 116, 114, 111, 107, 101, 115], [109, 97, 114, 107, 115], [105, 116, 101, 109, 115], [108, 101, 115, 115, 111, 110, 115], [112, 101, 114, 115, 111, 110, 115]] : List (List UInt8)).map V.str))
@[simp] abbrev K4h (x7 : List (List UInt8)) (v0 : y8) : List (Nat × Root) := [(2, .row true 1 (x7.map V.str)), (K4k v0), K4l]
@[simp] abbrev K4i (v0 : y8) : List (Nat × Root) := ((1792, .row true 1 ([(v0.2.2.2.2.2.2.1.length : Int), (v0.2.2.2.2.2.2.2.2.2.1.length : Int), (v0.2.2.2.2.2.2.2.2.2.2.1.length : Int), (v0.2.2.2.2.2.2.2.2.2.2.2.1.length : Int), (v0.2.2.2.2.2.2.2.2.2.2.2.2.1.length : Int), (v0.2.2.2.2.2.2.2.2.2.2.2.2.2.1.length : Int), (v0.2.2.2.2.2.2.2.2.2.2.2.2.2.2.length : Int)].map vI)) :: (K4g v0))
@[simp] abbrev K4j (u13 : List UInt8) (u16 : List UInt8) (x7 : List (List UInt8)) (v0 : y8) : List (Nat × Root) := ((1027, .row true 1 ([(u13 ++ ([32] : List UInt8)) ++ u16].map V.str)) :: (K4h x7 v0))
@[simp] abbrev K4m (v0 : y8) : Nat × AV := (5, .sl 1 0 ([(v0.2.2.2.2.2.2.1.length : Int), (v0.2.2.2.2.2.2.2.2.2.1.length : Int), (v0.2.2.2.2.2.2.2.2.2.2.1.length : Int), (v0.2.2.2.2.2.2.2.2.2.2.2.1.length : Int), (v0.2.2.2.2.2.2.2.2.2.2.2.2.1.length : Int), (v0.2.2.2.2.2.2.2.2.2.2.2.2.2.1.length : Int), (v0.2.2.2.2.2.2.2.2.2.2.2.2.2.2.length : Int)].length))
@[simp] abbrev K4n : Nat × AV := (4, .sl 0 0 (([[110, 111, 116, 101, 115], [112, 104, 114, 97, 115, 101, 115], [115, 116, 114, 111, 107, 101, 115], [109, 97, 114, 107, 115], [105, 116, 101, 109, 115], [108, 101, 115, 115, 111, 110, 115], [112, 101, 114, 115, 111, 110, 115]] : List (List UInt8)).length))
@[simp] abbrev K4o (v0 : y8) : AV := .sl 1792 0 ([(v0.2.2.2.2.2.2.1.length : Int), (v0.2.2.2.2.2.2.2.2.2.1.length : Int), (v0.2.2.2.2.2.2.2.2.2.2.1.length : Int), (v0.2.2.2.2.2.2.2.2.2.2.2.1.length : Int), (v0.2.2.2.2.2.2.2.2.2.2.2.2.1.length : Int), (v0.2.2.2.2.2.2.2.2.2.2.2.2.2.1.length : Int), (v0.2.2.2.2.2.2.2.2.2.2.2.2.2.2.length : Int)].length)
@[simp] abbrev K4p : AV := .sl 320 0 (([[110, 111, 116, 101, 115], [112, 104, 114, 97, 115, 101, 115], [115, 116, 114, 111, 107, 101, 115], [109, 97, 114, 107, 115], [105, 116, 101, 109, 115], [108, 101, 115, 115, 111, 110, 115], [112, 101, 114, 115, 111, 110, 115]] : List (List UInt8)).length)
@[simp] abbrev K4q : AV := .sl 0 0 (([[110, 111, 116, 101, 115], [112, 104, 114, 97, 115, 101, 115], [115, 116, 114, 111, 107, 101, 115], [109, 97, 114, 107, 115], [105, 116, 101, 109, 115], [108, 101, 115, 115, 111, 110, 115], [112, 101, 114, 115, 111, 110, 115]] : List (List UInt8)).length)
@[simp] def a3g (r : (List (List UInt8)) × Int) : RV := .tup [.one (.row true 1 (r.1.map V.str)), .one (.val (.int .i64 r.2))]
theorem a6E {v0 : y8} {r : (List (List UInt8)) × Int} (hF : W5 v0 = some r) : Con Tryz.prog 5 [a9S v0] (a3g r) := by
 unfold W5 at hF
 refine p7 c5_.1 fun N => ?_
 refine ws 0 192 (qf (.ptr 0 0 0) (K4e v0) (by simp) (qf (.sl 64 0 0) (K4f v0) (by simp) (qr (AI 0) (d9 (i8 (ws 192 320 (bk hF fun u0 e0 hF => qc (AB u0) (K4f v0) true (b3c e0) c7B.2 (by simp [List.take_of_length_le]) rfl (qr (AB (!u0)) (d9 ?_)))))))))
 refine cF hF (fun hF => ?_) fun hF => ?_
 ·
  exact ws 320 448 (qf (.sl 320 0 0) ((320, .row true 1 (([] : List (List UInt8)).map V.str)) :: (K4f v0)) (by simp) (qr (AI 1) (d9 (j8 (f7 (eQ hF))))))
 refine g9 (f5 (ws 320 448 (qf K4p (K4g v0) (by simp [List.take_of_length_le]) (qr K4p (d9 (ws 448 1920 ?_))))))
 refine qr (.ptr 0 0 6) (qr (AL 2 (v0.2.2.2.2.2.2.1.map j3)) (qp (AI (v0.2.2.2.2.2.2.1.length : Int)) (j0 rfl) (qr (.ptr 0 0 9) (qr (AL 1 (v0.2.2.2.2.2.2.2.2.2.1.map (eL 1 vI))) (qp (AI (v0.2.2.2.2.2.2.2.2.2.1.length : Int)) (j0 rfl) (qr (.ptr 0 0 10) (qr (AL 3 (v0.2.2.2.2.2.2.2.2.2.2.1.map p3)) ?_)))))))
 refine qp (AI (v0.2.2.2.2.2.2.2.2.2.2.1.length : Int)) (j0 rfl) (qr (.ptr 0 0 11) (qr (AL 2 (v0.2.2.2.2.2.2.2.2.2.2.2.1.map j3)) (qp (AI (v0.2.2.2.2.2.2.2.2.2.2.2.1.length : Int)) (j0 rfl) (qr (.ptr 0 0 12) (qr (AL 6 (v0.2.2.2.2.2.2.2.2.2.2.2.2.1.map A1)) (qp (AI (v0.2.2.2.2.2.2.2.2.2.2.2.2.1.length : Int)) (j0 rfl) (qr (.ptr 0 0 13) (qr (AL 5 (v0.2.2.2.2.2.2.2.2.2.2.2.2.2.1.map p8)) (qp (AI (v0.2.2.2.2.2.2.2.2.2.2.2.2.2.1.length : Int)) (j0 rfl) (qr (.ptr 0 0 14) (qr (AL 3 (v0.2.2.2.2.2.2.2.2.2.2.2.2.2.2.map p9)) (qp (AI (v0.2.2.2.2.2.2.2.2.2.2.2.2.2.2.length : Int)) (j0 rfl) (qf (K4o v0) (K4i v0) (by simp [List.take_of_length_le]) ?_)))))))))))))
 refine qr (K4o v0) (d9 (ws 1920 2048 (qf (.sl 1920 0 0) ((1920, .row true 1 (([] : List (List UInt8)).map V.str)) :: (K4i v0)) (by simp [List.take_of_length_le]) (qr (.sl 1920 0 0) (d9 (i8 (ws 2048 2112 (qr (AI 0) (d9 (j7 ?_))))))))))
 refine wr (l' := [K4n, (K4m v0), (6, .sl 2 0 0), (7, AI 0)]) (L := [(2, .row true 1 (([] : List (List UInt8)).map V.str)), (K4k v0), K4l]) [4, 5, 6, 7] [(1920, 2), (1792, 1), (320, 0)] 3 ?_
 refine y5 (U9 v0) (fun s : Int × (List (List UInt8)) => mkS [K4n, (K4m v0), (6, .sl 2 0 s.2.length), (7, AI s.1)] (fo [(2, .row true 1 (s.2.map V.str)), (K4k v0), K4l]) 3) hF ?_
 rintro k1 ⟨x6, x7⟩ hF
 rw [U9] at hF
 try dsimp only
 refine i8 (ws 3 259 (qr (AI x6) (qr K4q (qr (AI (([[110, 111, 116, 101, 115], [112, 104, 114, 97, 115, 101, 115], [115, 116, 114, 111, 107, 101, 115], [109, 97, 114, 107, 115], [105, 116, 101, 109, 115], [108, 101, 115, 115, 111, 110, 115], [112, 101, 114, 115, 111, 110, 115]] : List (List UInt8)).length : Int)) (qr (AB (decide (x6 < (([[110, 111, 116, 101, 115], [112, 104, 114, 97, 115, 101, 115], [115, 116, 114, 111, 107, 101, 115], [109, 97, 114, 107, 115], [105, 116, 101, 109, 115], [108, 101, 115, 115, 111, 110, 115], [112, 101, 114, 115, 111, 110, 115]] : List (List UInt8)).length : Int)))) (d9 ?_))))))
 refine cF hF (fun hF => ?_) fun hF => ?_
 ·
  refine g9 (f5 (i8 (j7 (y4 259 1219 rfl rfl (qr (.sl 2 0 x7.length) (qr K4q (qr (AI x6) (bk hF fun u13 e13 hF => qp (.ptr 0 x6.toNat 0) (B1 rfl (by simp) rfl rfl e13) (qp (AS u13) (b2w rfl rfl (B9 e13).2 rfl rfl) (nk hF fun g14 hF => qp (AS (u13 ++ ([32] : List UInt8))) (a4n rfl rfl g14) (qr (.sl 1 0 ([(v0.2.2.2.2.2.2.1.length : Int), (v0.2.2.2.2.2.2.2.2.2.1.length : Int), (v0.2.2.2.2.2.2.2.2.2.2.1.length : Int), (v0.2.2.2.2.2.2.2.2.2.2.2.1.length : Int), (v0.2.2.2.2.2.2.2.2.2.2.2.2.1.length : Int), (v0.2.2.2.2.2.2.2.2.2.2.2.2.2.1.length : Int), (v0.2.2.2.2.2.2.2.2.2.2.2.2.2.2.length : Int)].length)) (qr (AI x6) (bk hF fun u15 e15 hF => qp (.ptr 1 x6.toNat 0) (B1 rfl (by simp) rfl rfl e15) (qp (AI u15) (b2w rfl rfl (B9 e15).2 rfl rfl) (bk hF fun u16 e16 hF => qC (AS u16) (K4h x7 v0) (b2b e16) c8n (nk hF fun g17 hF => qp (AS ((u13 ++ ([32] : List UInt8)) ++ u16)) (a4n rfl rfl g17) (qf (.sl 1027 0 ([(u13 ++ ([32] : List UInt8)) ++ u16].length)) (K4j u13 u16 x7 v0) (by simp [List.take_of_length_le]) (nk hF fun g18 hF => qf (.sl 1091 0 ((x7 ++ [(u13 ++ ([32] : List UInt8)) ++ u16]).length)) ((1091, .row true 1 ((x7 ++ [(u13 ++ ([32] : List UInt8)) ++ u16]).map V.str)) :: (2, .dead) :: (1027, .dead) :: (K4j u13 u16 x7 v0)) (a0b rfl (by simp) rfl rfl (by simp) rfl (by decide) g18 rfl) (qr (.sl 1091 0 ((x7 ++ [(u13 ++ ([32] : List UInt8)) ++ u16]).length)) ?_)))))))))))))))))))
  refine d9 (p6 (f5 (y4 1219 1411 rfl rfl (qr (AI x6) (qr (AI (w64 (x6 + 1))) (qr (AI (w64 (x6 + 1))) (d9 (f5 ?_))))))))
  refine ar (l' := [K4n, (K4m v0), (6, .sl 2 0 (x7 ++ [(u13 ++ ([32] : List UInt8)) ++ u16]).length), (7, AI (w64 (x6 + 1)))]) (L := [(2, .row true 1 ((x7 ++ [(u13 ++ ([32] : List UInt8)) ++ u16]).map V.str)), (K4k v0), K4l]) [4, 5, 6, 7] [(1091, 2), (1, 1), (0, 0)] 3 ⟨_, by rfl, hF⟩
 exact z8 (j5 (j5 (s9 (f5 (ws 259 451 (qr (.sl 2 0 x7.length) (qr (.sl 2 0 x7.length) (qr (AI 0) (rR hF)))))))))

def c9Q : MC := (sr [pT 2 (.mv cf)] (.seq (sr [mvt 5 0, pT 6 (.lens t5), pT 7 (.mv (ci 0))] (.block 0 (.loop (sr [bT 8 .lss t7 t6] (.seq (cx t8 0) (.seq (.block 1 (sr [mvt 9 7, mvt 3 9] (sr [mvt 10 0, mvt 11 3, pT 12 (.ixs t10 t11), mvt 4 12] (sr [mvt 13 4, pT 14 (.bin .lss t13 (.c (.int .u8 97))), mvt 15 14, nF 16 15 t4, kF 17 15 (.bin .gtr t16 (.c (.int .u8 122))), pT 18 (.pick t15 ct t17), mvt 19 18, nT 20 19 t4, kT 21 19 (.bin .lss t20 (.c (.int .u8 48))), nT 22 19 t21, nF 23 22 t4, kF 24 22 (.bin .gtr t23 (.c (.int .u8 57))), kT 25 19 (.pick t22 ct t24), pT 26 (.pick t19 t25 cf)] (.cond t26 (sr [pT 2 (.mv cf)] .ret) .skip))))) (.reg [bT 27 .add t7 (ci 1), mvt 7 27]))))))) (sr [pT 2 (.mv ct)] .ret)))
theorem c4Y : IsF Tryz.prog 149 c9Q [(.tmp 2)] := ⟨by kernel_rfl, by kernel_rfl⟩

def H8 (v0 : List UInt8) (k0 : Int → Option (Bool)) : Int → Option (Bool)
 | x1 => (bif (decide (x1 < (v0.length : Int))) then ((ix v0 x1).bind fun u0 => (bif (decide ((u0.toNat : Int) < (97 : Int))) then (bif (decide ((u0.toNat : Int) < (48 : Int))) then some false
 else (bif (decide ((57 : Int) < (u0.toNat : Int))) then some false
 else k0 (w64 (x1 + 1))))
 else (bif (decide ((122 : Int) < (u0.toNat : Int))) then (bif (decide ((u0.toNat : Int) < (48 : Int))) then some false
 else (bif (decide ((57 : Int) < (u0.toNat : Int))) then some false
 else k0 (w64 (x1 + 1))))
 else k0 (w64 (x1 + 1)))))
 else some true)
def N2 (v0 : List UInt8) : Option (Bool) :=
 loop (H8 v0) 0
@[simp] def a4E (r : Bool) : RV := .one (.one (.val (.bool r)))
theorem a4y {v0 : List UInt8} {r : Bool} (hF : N2 v0 = some r) : Con Tryz.prog 149 [.str v0] (a4E r) := by
 unfold N2 at hF
 refine p7 c4Y.1 fun N => ?_
 refine ws 0 64 (qb (d9 (i8 (ws 64 256 (qr (AS v0) (qr (AI (v0.length : Int)) (qr (AI 0) (d9 (j7 ?_)))))))))
 refine wr (l' := [(0, AS v0), (6, AI (v0.length : Int)), (7, AI 0)]) (L := []) [0, 6, 7] [] 1 ?_
 refine y5 (H8 v0) (fun s : Int => mkS [(0, AS v0), (6, AI (v0.length : Int)), (7, AI s)] (fo []) 1) hF ?_
 rintro k0 x1 hF
 rw [H8] at hF
 try dsimp only
 refine ws 1 65 (qr (AB (decide (x1 < (v0.length : Int)))) (d9 (i8 ?_)))
 refine cF hF (fun hF => ?_) fun hF => ?_
 ·
  refine g9 (f5 (i8 (j7 (ws 65 193 (qr (AI x1) (qr (AI x1) (d9 (ws 193 449 (qr (AS v0) (qr (AI x1) (bk hF fun u0 e0 hF => qp (.val none (.int .u8 (u0.toNat : Int))) (b0b rfl rfl e0) (qr (.val none (.int .u8 (u0.toNat : Int))) (d9 (ws 449 1345 ?_))))))))))))))
  refine qr (.val none (.int .u8 (u0.toNat : Int))) (qr (AB (decide ((u0.toNat : Int) < (97 : Int)))) (qr (AB (decide ((u0.toNat : Int) < (97 : Int)))) ?_))
  refine p5 15 hF rfl (fun hF => ?_) (fun hF => ?_)
  ·
   refine qn2 (qt (qt (qg (.val none (.int .u8 (u0.toNat : Int))) rfl rfl (qg (AB (decide ((u0.toNat : Int) < (48 : Int)))) rfl rfl (qg (AB (decide ((u0.toNat : Int) < (48 : Int)))) rfl rfl ?_)))))
   refine p5 22 hF rfl (fun hF => qn2 (qg (AB true) rfl rfl (qt (d9 (B5 rfl (ws 1345 1409 (qb (d9 (j8 (g7 (f7 (f7 (g7 (f7 (eQ hF))))))))))))))) fun hF => ?_
   refine qg (.val none (.int .u8 (u0.toNat : Int))) rfl rfl (qg (AB (decide ((57 : Int) < (u0.toNat : Int)))) rfl rfl (qg (AB (decide ((57 : Int) < (u0.toNat : Int)))) rfl rfl (qr (AB (decide ((57 : Int) < (u0.toNat : Int)))) (d9 (cF hF (fun hF => ws 1345 1409 (qb (d9 (j8 (g7 (f7 (f7 (g7 (f7 (eQ hF)))))))))) fun hF => ?_)))))
   refine g9 (p6 (f5 (y4 1345 1473 rfl rfl (qr (AI (w64 (x1 + 1))) (qr (AI (w64 (x1 + 1))) (d9 (f5 ?_)))))))
   refine ar (l' := [(0, AS v0), (6, AI (v0.length : Int)), (7, AI (w64 (x1 + 1)))]) (L := []) [0, 6, 7] [] 1 ⟨_, by rfl, hF⟩
  refine qg (.val none (.int .u8 (u0.toNat : Int))) rfl rfl (qg (AB (decide ((122 : Int) < (u0.toNat : Int)))) rfl rfl (qr (AB (decide ((122 : Int) < (u0.toNat : Int)))) (qr (AB (decide ((122 : Int) < (u0.toNat : Int)))) ?_)))
  refine p5 19 hF rfl (fun hF => ?_) (fun hF => ?_)
  ·
   refine qg (.val none (.int .u8 (u0.toNat : Int))) rfl rfl (qg (AB (decide ((u0.toNat : Int) < (48 : Int)))) rfl rfl (qg (AB (decide ((u0.toNat : Int) < (48 : Int)))) rfl rfl ?_))
   refine p5 22 hF rfl (fun hF => qn2 (qg (AB true) rfl rfl (qt (d9 (B5 rfl (ws 1345 1409 (qb (d9 (j8 (g7 (f7 (f7 (g7 (f7 (eQ hF))))))))))))))) fun hF => ?_
   refine qg (.val none (.int .u8 (u0.toNat : Int))) rfl rfl (qg (AB (decide ((57 : Int) < (u0.toNat : Int)))) rfl rfl (qg (AB (decide ((57 : Int) < (u0.toNat : Int)))) rfl rfl (qr (AB (decide ((57 : Int) < (u0.toNat : Int)))) (d9 (cF hF (fun hF => ws 1345 1409 (qb (d9 (j8 (g7 (f7 (f7 (g7 (f7 (eQ hF)))))))))) fun hF => ?_)))))
   refine g9 (p6 (f5 (y4 1345 1473 rfl rfl (qr (AI (w64 (x1 + 1))) (qr (AI (w64 (x1 + 1))) (d9 (f5 ?_)))))))
   refine ar (l' := [(0, AS v0), (6, AI (v0.length : Int)), (7, AI (w64 (x1 + 1)))]) (L := []) [0, 6, 7] [] 1 ⟨_, by rfl, hF⟩
  refine qn3 (qu rfl (qu rfl (qn rfl (qb (d9 (H2 rfl (g9 (p6 (f5 (y4 1345 1473 rfl rfl ?_))))))))))
  refine qr (AI (w64 (x1 + 1))) (qr (AI (w64 (x1 + 1))) (d9 (f5 ?_)))
  refine ar (l' := [(0, AS v0), (6, AI (v0.length : Int)), (7, AI (w64 (x1 + 1)))]) (L := []) [0, 6, 7] [] 1 ⟨_, by rfl, hF⟩
 exact z8 (j5 (j5 (s9 (f5 (ws 65 129 (qt (rR hF)))))))

def d0p : MC := (sr [pT 2 (.mv cf)] (.seq (sr [mvt 3 0, pT 4 (.lens t3), bT 5 .lss t4 (ci 1), mvt 6 5, nF 7 6 t0, kF 8 6 (.lens t7), kF 9 6 (.bin .gtr t8 (ci 10)), pT 10 (.pick t6 ct t9), mvt 11 10, nF 12 11 t0, kF 13 11 (.ixs t12 (ci 0)), kF 14 11 (.bin .lss t13 (.c (.int .u8 97))), pT 15 (.pick t11 ct t14), mvt 16 15, nF 17 16 t0, kF 18 16 (.ixs t17 (ci 0)), kF 19 16 (.bin .gtr t18 (.c (.int .u8 122))), pT 20 (.pick t16 ct t19)] (.cond t20 (sr [pT 2 (.mv cf)] .ret) .skip)) (sr [mvt 21 0, dT 22 149 [t21], mvt 2 22] .ret)))
theorem b1n : IsF Tryz.prog 119 d0p [(.tmp 2)] := ⟨by kernel_rfl, by kernel_rfl⟩

def H1 (v0 : List UInt8) : Option (Bool) :=
 (bif (decide ((v0.length : Int) < (1 : Int))) then some false
 else (bif (decide ((10 : Int) < (v0.length : Int))) then some false
 else ((ix v0 0).bind fun u0 => (bif (decide ((u0.toNat : Int) < (97 : Int))) then some false
 else ((ix v0 0).bind fun u1 => (bif (decide ((122 : Int) < (u1.toNat : Int))) then some false
 else ((N2 v0).bind fun u2 => some u2)))))))
@[simp] def b2h (r : Bool) : RV := .one (.one (.val (.bool r)))
theorem O4 {v0 : List UInt8} {r : Bool} (hF : H1 v0 = some r) : Con Tryz.prog 119 [.str v0] (b2h r) := by
 unfold H1 at hF
 refine p7 b1n.1 fun N => ?_
 refine ws 0 64 (qb (d9 (i8 (ws 64 1216 (qr (AS v0) (qr (AI (v0.length : Int)) (qr (AB (decide ((v0.length : Int) < (1 : Int)))) (qr (AB (decide ((v0.length : Int) < (1 : Int)))) ?_))))))))
 refine p5 6 hF rfl (fun hF => ?_) (fun hF => ?_)
 ·
  refine qn3 (qt (qt (qn3 (qt (qt (qn3 (qt (d9 (B5 rfl (ws 1216 1280 (qb (d9 (j8 ?_)))))))))))))
  exact f7 (eQ hF)
 refine qg (AS v0) rfl rfl (qg (AI (v0.length : Int)) rfl rfl (qg (AB (decide ((10 : Int) < (v0.length : Int)))) rfl rfl (qr (AB (decide ((10 : Int) < (v0.length : Int)))) (qr (AB (decide ((10 : Int) < (v0.length : Int)))) ?_))))
 refine p5 11 hF rfl (fun hF => qn3 (qt (qt (qn3 (qt (d9 (B5 rfl (ws 1216 1280 (qb (d9 (j8 (f7 (eQ hF))))))))))))) fun hF => ?_
 refine qg (AS v0) rfl rfl (bk hF fun u0 e0 hF => qg (.val none (.int .u8 (u0.toNat : Int))) rfl (b0b rfl rfl e0) (qg (AB (decide ((u0.toNat : Int) < (97 : Int)))) rfl rfl (qr (AB (decide ((u0.toNat : Int) < (97 : Int)))) (qr (AB (decide ((u0.toNat : Int) < (97 : Int)))) (p5 16 hF rfl (fun hF => qn3 (qt (d9 (B5 rfl (ws 1216 1280 (qb (d9 (j8 (f7 (eQ hF)))))))))) fun hF => ?_)))))
 refine qg (AS v0) rfl rfl (bk hF fun u1 e1 hF => qg (.val none (.int .u8 (u1.toNat : Int))) rfl (b0b rfl rfl e1) (qg (AB (decide ((122 : Int) < (u1.toNat : Int)))) rfl rfl (qr (AB (decide ((122 : Int) < (u1.toNat : Int)))) (d9 (cF hF (fun hF => ws 1216 1280 (qb (d9 (j8 (f7 (eQ hF)))))) fun hF => ?_)))))
 exact g9 (f5 (ws 1216 1408 (qr (AS v0) (bk hF fun u2 e2 hF => qC (AB u2) [] (a4y e2) c4Y (qr (AB u2) (rR hF))))))

def c9a : MC := (sr [pT 2 (.mv cf)] (.seq (sr [pT 3 (.mv (ci 1))] (.block 0 (.loop (.seq (sr [mvt 4 3, mvt 5 0, zT 6 5, bT 7 .lss t4 t6] (cx t7 0)) (.seq (.block 1 (sr [mP 10 t0, mP 11 t3, iF 12 10 11 1, lF 13 12, mP 14 t0, mP 15 t3, bF 16 .sub t15 (ci 1), iF 17 14 16 1, lF 18 17, bF 19 .leq t13 t18] (.cond t19 (sr [pT 2 (.mv cf)] .ret) .skip))) (.reg [mvt 8 3, bT 9 .add t8 (ci 1), mvt 3 9])))))) (sr [pT 2 (.mv ct)] .ret)))
theorem c4E : IsF Tryz.prog 150 c9a [(.tmp 2)] := ⟨by kernel_rfl, by kernel_rfl⟩

def H6 (v0 : List Int) (k0 : Int → Option (Bool)) : Int → Option (Bool)
 | x1 => (bif (decide (x1 < (v0.length : Int))) then ((ix v0 x1).bind fun u0 => ((ix v0 (w64 (x1 - 1))).bind fun u1 => (bif (decide (u0 ≤ u1)) then some false
 else k0 (w64 (x1 + 1)))))
 else some true)
def V1 (v0 : List Int) : Option (Bool) :=
 loop (H6 v0) 1
@[simp] abbrev K4r (v0 : List Int) : V := .sl 1 (v0.map vI)
@[simp] def a6Q (r : Bool) : RV := .one (.one (.val (.bool r)))
theorem a7b {v0 : List Int} {r : Bool} (hF : V1 v0 = some r) : Con Tryz.prog 150 [.sl 1 (v0.map vI)] (a6Q r) := by
 unfold V1 at hF
 refine p7 c4E.1 fun N => ?_
 refine ws 0 64 (qb (d9 (i8 (ws 64 128 (qr (AI 1) (d9 (j7 ?_)))))))
 refine wr (l' := [(0, .val none (K4r v0)), (3, AI 1)]) (L := []) [0, 3] [] 1 ?_
 refine y5 (H6 v0) (fun s : Int => mkS [(0, .val none (K4r v0)), (3, AI s)] (fo []) 1) hF ?_
 rintro k0 x1 hF
 rw [H6] at hF
 try dsimp only
 refine i8 (ws 1 257 (qr (AI x1) (qr (.val none (K4r v0)) (qp (AI (v0.length : Int)) (j0 rfl) (qr (AB (decide (x1 < (v0.length : Int)))) (d9 ?_))))))
 refine cF hF (fun hF => ?_) fun hF => ?_
 ·
  refine g9 (f5 (i8 (j7 (ws 257 897 (qr (.val none (K4r v0)) (qr (AI x1) (bk hF fun u0 e0 hF => qp (.val none (.ptr [.int .i64 u0])) (j4 rfl rfl e0 rfl) (qr (AI u0) (qr (.val none (K4r v0)) (qr (AI x1) (qr (AI (w64 (x1 - 1))) (bk hF fun u1 e1 hF => ?_))))))))))))
  refine qp (.val none (.ptr [.int .i64 u1])) (j4 rfl rfl e1 rfl) (qr (AI u1) (qr (AB (decide (u0 ≤ u1))) (d9 (cF hF (fun hF => ws 897 961 (qb (d9 (j8 (g7 (f7 (f7 (g7 (f7 (eQ hF)))))))))) fun hF => ?_))))
  refine g9 (p6 (f5 (y4 897 1089 rfl rfl (qr (AI x1) (qr (AI (w64 (x1 + 1))) (qr (AI (w64 (x1 + 1))) (d9 (f5 ?_))))))))
  refine ar (l' := [(0, .val none (K4r v0)), (3, AI (w64 (x1 + 1)))]) (L := []) [0, 3] [] 1 ⟨_, by rfl, hF⟩
 exact z8 (j5 (j5 (s9 (f5 (ws 257 321 (qt (rR hF)))))))

def c9S : MC := (sr [pT 2 (.mv cf)] (sr [mvt 3 0, zT 4 3, bT 5 .geq t4 (ci 5), mvt 6 5, nT 7 6 t0, kT 8 6 (.iad t7 (ci 0) 1), kT 9 6 (.ld t8 1 false), kT 10 6 (.bin .eql t9 (ci 0)), pT 11 (.pick t6 t10 cf), mvt 12 11, nT 13 12 t0, ⟨(some 14), (some (12, true)), (.call true 150 [t13])⟩, pT 15 (.pick t12 t14 cf), mvt 16 15, nT 17 16 t0, nT 18 16 t0, kT 19 16 (.len t18), kT 20 16 (.bin .sub t19 (ci 1)), kT 21 16 (.iad t17 t20 1), kT 22 16 (.ld t21 1 false), kT 23 16 (.bin .lss t22 (ci 12)), pT 24 (.pick t16 t23 cf), mvt 2 24] .ret))
theorem c2A : IsF Tryz.prog 120 c9S [(.tmp 2)] := ⟨by kernel_rfl, by kernel_rfl⟩

def N6 (v0 : List Int) : Option (Bool) :=
 (bif (decide ((5 : Int) ≤ (v0.length : Int))) then ((ix v0 0).bind fun u0 => (bif (decide (u0 = (0 : Int))) then ((V1 v0).bind fun u1 => (bif u1 then ((ix v0 (w64 ((v0.length : Int) - 1))).bind fun u2 => some (decide (u2 < (12 : Int))))
 else some false))
 else some false))
 else some false)
@[simp] abbrev K4s (v0 : List Int) : AV := AL 1 (v0.map vI)
@[simp] def a7a (r : Bool) : RV := .one (.one (.val (.bool r)))
theorem a3i {v0 : List Int} {r : Bool} (hF : N6 v0 = some r) : Con Tryz.prog 120 [.sl 1 (v0.map vI)] (a7a r) := by
 unfold N6 at hF
 refine p7 c2A.1 fun N => ?_
 refine ws 0 64 (qb (d9 (ws 64 1536 (qr (K4s v0) (qp (AI (v0.length : Int)) (j0 rfl) (qr (AB (decide ((5 : Int) ≤ (v0.length : Int)))) (qr (AB (decide ((5 : Int) ≤ (v0.length : Int)))) ?_)))))))
 refine p5 6 hF rfl (fun hF => ?_) (fun hF => ?_)
 ·
  refine qg (K4s v0) rfl rfl (bk hF fun u0 e0 hF => qg (.val none (.ptr [.int .i64 u0])) rfl (j4 rfl rfl e0 rfl) (qg (AI u0) rfl rfl (qg (AB (decide (u0 = (0 : Int)))) rfl rfl (qr (AB (decide (u0 = (0 : Int)))) (qr (AB (decide (u0 = (0 : Int)))) ?_)))))
  refine p5 12 hF rfl (fun hF => ?_) (fun hF => ?_)
  ·
   refine qg (K4s v0) rfl rfl (bk hF fun u1 e1 hF => qG (AB u1) [] (a7b e1) c4E (qr (AB u1) (qr (AB u1) (p5 16 hF rfl (fun hF => qg (K4s v0) rfl rfl (qg (K4s v0) rfl rfl (qg (AI (v0.length : Int)) rfl (j0 rfl) (qg (AI (w64 ((v0.length : Int) - 1))) rfl rfl (bk hF fun u2 e2 hF => qg (.val none (.ptr [.int .i64 u2])) rfl (j4 rfl rfl e2 rfl) (qg (AI u2) rfl rfl (qg (AB (decide (u2 < (12 : Int)))) rfl rfl (qr (AB (decide (u2 < (12 : Int)))) (qr (AB (decide (u2 < (12 : Int)))) (rR hF)))))))))) fun hF => ?_))))
   exact qn7 (qb (qb (rR hF)))
  exact qn2 (qb (qb (qn4 (qn3 (qb (qb (rR hF)))))))
 exact qn4 (qb (qb (qn2 (qb (qb (qn6 (qn rfl (qb (qb (rR hF))))))))))

def c9r : MC := (sr [pT 4 (.mv (ci 0))] (.seq (sr [mvt 6 0, zT 7 6, pT 8 (.mv (ci 0))] (.block 0 (.loop (sr [bT 9 .lss t8 t7] (.seq (cx t9 0) (.seq (.block 1 (sr [mvt 10 8, mvt 5 10] (sr [mvt 11 1, mvt 12 0, mvt 13 5, iT 14 12 13 1, lT 15 14, bT 16 .eql t11 t15] (.cond t16 (sr [mvt 17 5, mvt 4 17] .ret) .skip)))) (.reg [bT 18 .add t8 (ci 1), mvt 8 18]))))))) (sr [pT 4 (.mv (ci (-1)))] .ret)))
theorem c4T : IsF Tryz.prog 166 c9r [(.tmp 4)] := ⟨by kernel_rfl, by kernel_rfl⟩

def C9 (v0 : List Int) (v1 : Int) (k0 : Int → Option (Int)) : Int → Option (Int)
 | x1 => (bif (decide (x1 < (v0.length : Int))) then ((ix v0 x1).bind fun u0 => (bif (decide (v1 = u0)) then some x1
 else k0 (w64 (x1 + 1))))
 else some (-1))
def I5 (v0 : List Int) (v1 : Int) : Option (Int) :=
 loop (C9 v0 v1) 0
@[simp] def a2V (r : Int) : RV := .one (.one (.val (.int .i64 r)))
theorem a3a {v0 : List Int} {v1 : Int} {r : Int} (hF : I5 v0 v1 = some r) : Con Tryz.prog 166 [.sl 1 (v0.map vI), .int .i64 v1] (a2V r) := by
 unfold I5 at hF
 refine p7 c4T.1 fun N => ?_
 refine ws 0 64 (qr (AI 0) (d9 (i8 (ws 64 256 (qr (AL 1 (v0.map vI)) (qp (AI (v0.length : Int)) (j0 rfl) (qr (AI 0) (d9 (j7 ?_)))))))))
 refine wr (l' := [(0, AL 1 (v0.map vI)), (1, AI v1), (7, AI (v0.length : Int)), (8, AI 0)]) (L := []) [0, 1, 7, 8] [] 1 ?_
 refine y5 (C9 v0 v1) (fun s : Int => mkS [(0, AL 1 (v0.map vI)), (1, AI v1), (7, AI (v0.length : Int)), (8, AI s)] (fo []) 1) hF ?_
 rintro k0 x1 hF
 rw [C9] at hF
 try dsimp only
 refine ws 1 65 (qr (AB (decide (x1 < (v0.length : Int)))) (d9 (i8 ?_)))
 refine cF hF (fun hF => ?_) fun hF => ?_
 ·
  refine g9 (f5 (i8 (j7 (ws 65 193 (qr (AI x1) (qr (AI x1) (d9 (ws 193 577 (qr (AI v1) (qr (AL 1 (v0.map vI)) (qr (AI x1) (bk hF fun u0 e0 hF => ?_))))))))))))
  refine qp (.val none (.ptr [.int .i64 u0])) (j4 rfl rfl e0 rfl) (qr (AI u0) (qr (AB (decide (v1 = u0))) (d9 (cF hF (fun hF => ws 577 705 (qr (AI x1) (qr (AI x1) (d9 (j8 (g7 (f7 (f7 (g7 (f7 (eQ hF))))))))))) fun hF => ?_))))
  refine g9 (p6 (f5 (y4 577 705 rfl rfl (qr (AI (w64 (x1 + 1))) (qr (AI (w64 (x1 + 1))) (d9 (f5 ?_)))))))
  refine ar (l' := [(0, AL 1 (v0.map vI)), (1, AI v1), (7, AI (v0.length : Int)), (8, AI (w64 (x1 + 1)))]) (L := []) [0, 1, 7, 8] [] 1 ⟨_, by rfl, hF⟩
 exact z8 (j5 (j5 (s9 (f5 (ws 65 129 (qr (AI (-1)) (rR hF)))))))

def c8W : MC := (sr [pT 4 (.mv cf)] (sr [mvt 5 0, mvt 6 1, dT 7 166 [t5, t6], bT 8 .geq t7 (ci 0), mvt 4 8] .ret))
theorem c1l : IsF Tryz.prog 151 c8W [(.tmp 4)] := ⟨by kernel_rfl, by kernel_rfl⟩

def C8 (v0 : List Int) (v1 : Int) : Option (Bool) :=
 ((I5 v0 v1).bind fun u0 => some (decide ((0 : Int) ≤ u0)))
@[simp] def a2m (r : Bool) : RV := .one (.one (.val (.bool r)))
theorem W3 {v0 : List Int} {v1 : Int} {r : Bool} (hF : C8 v0 v1 = some r) : Con Tryz.prog 151 [.sl 1 (v0.map vI), .int .i64 v1] (a2m r) := by
 unfold C8 at hF
 refine p7 c1l.1 fun N => ?_
 exact ws 0 64 (qb (d9 (ws 64 384 (qr (AL 1 (v0.map vI)) (qr (AI v1) (bk hF fun u0 e0 hF => qC (AI u0) [] (a3a e0) c4T (qr (AB (decide ((0 : Int) ≤ u0))) (qr (AB (decide ((0 : Int) ≤ u0))) (rR hF)))))))))

def c9j : MC := (sr [rg 2 (.f (.box t0)), pT 4 (.mv cf)] (sr [pT 5 (.fad t2 1), lT 6 5, mvt 7 1, dT 8 151 [t6, t7], mvt 9 8, kF 10 9 (.fad t2 2), kF 11 9 (.ld t10 1 false), nF 12 9 t1, ⟨(some 13), (some (9, false)), (.call true 151 [t11, t12])⟩, pT 14 (.pick t9 ct t13), mvt 4 14] .ret))
theorem c2a : IsF Tryz.prog 121 c9j [(.tmp 4)] := ⟨by kernel_rfl, by kernel_rfl⟩

def K0 (v0 : A8) (v1 : Int) : Option (Bool) :=
 ((C8 v0.2.1 v1).bind fun u0 => (bif u0 then some true
 else ((C8 v0.2.2.1 v1).bind fun u1 => some u1)))
@[simp] abbrev K4t (v0 : A8) : List (Nat × Root) := [(0, .box [AS v0.1, AL 1 (v0.2.1.map vI), AL 1 (v0.2.2.1.map vI), AI v0.2.2.2.1, AI v0.2.2.2.2.1, AL 1 (v0.2.2.2.2.2.map (eL 1 vI))])]
@[simp] def a5f (r : Bool) : RV := .one (.one (.val (.bool r)))
theorem a2C {v0 : A8} {v1 : Int} {r : Bool} (hF : K0 v0 v1 = some r) : Con Tryz.prog 121 [b3m v0, .int .i64 v1] (a5f r) := by
 unfold K0 at hF
 refine p7 c2a.1 fun N => ?_
 refine ws 0 128 (qf (.ptr 0 0 0) (K4t v0) (by simp) (qb (d9 (ws 128 832 (qr (.ptr 0 0 1) (qr (AL 1 (v0.2.1.map vI)) (qr (AI v1) (bk hF fun u0 e0 hF => qC (AB u0) (K4t v0) (W3 e0) c1l (qr (AB u0) (p5 9 hF rfl (fun hF => qn4 (qt (qt (rR hF)))) fun hF => ?_))))))))))
 exact qg (.ptr 0 0 2) rfl rfl (qg (AL 1 (v0.2.2.1.map vI)) rfl rfl (qg (AI v1) rfl rfl (bk hF fun u1 e1 hF => qG (AB u1) (K4t v0) (W3 e1) c1l (qr (AB u1) (qr (AB u1) (rR hF))))))

def d0d : MC := (sr [pT 6 (.mv cf)] (sr [mvt 7 0, mvt 8 1, bT 9 .geq t7 t8, mvt 10 9, nT 11 10 t0, nT 12 10 t2, kT 13 10 (.bin .leq t11 t12), pT 14 (.pick t10 t13 cf), mvt 6 14] .ret))
theorem a2D : IsF Tryz.prog 135 d0d [(.tmp 6)] := ⟨by kernel_rfl, by kernel_rfl⟩

def B3 (v0 : Int) (v1 : Int) (v2 : Int) : Option (Bool) :=
 (bif (decide (v1 ≤ v0)) then some (decide (v0 ≤ v2))
 else some false)
@[simp] def b1H (r : Bool) : RV := .one (.one (.val (.bool r)))
theorem B7 {v0 : Int} {v1 : Int} {v2 : Int} {r : Bool} (hF : B3 v0 v1 v2 = some r) : Con Tryz.prog 135 [.int .i64 v0, .int .i64 v1, .int .i64 v2] (b1H r) := by
 unfold B3 at hF
 refine p7 a2D.1 fun N => ?_
 refine ws 0 64 (qb (d9 (ws 64 640 (qr (AI v0) (qr (AI v1) (qr (AB (decide (v1 ≤ v0))) (qr (AB (decide (v1 ≤ v0))) (p5 10 hF rfl (fun hF => qg (AI v0) rfl rfl (qg (AI v2) rfl rfl (qg (AB (decide (v0 ≤ v2))) rfl rfl (qr (AB (decide (v0 ≤ v2))) (qr (AB (decide (v0 ≤ v2))) (rR hF)))))) fun hF => ?_))))))))
 exact qn3 (qb (qb (rR hF)))

def c8S : MC := (sr [pT 2 (.mv cf)] (sr [mvt 3 0, dT 4 135 [t3, (ci 0), (ci 11)], mvt 2 4] .ret))
theorem c1O : IsF Tryz.prog 122 c8S [(.tmp 2)] := ⟨by kernel_rfl, by kernel_rfl⟩

def a0E (v0 : Int) : Option (Bool) :=
 ((B3 v0 0 11).bind fun u0 => some u0)
@[simp] def b1S (r : Bool) : RV := .one (.one (.val (.bool r)))
theorem a4Z {v0 : Int} {r : Bool} (hF : a0E v0 = some r) : Con Tryz.prog 122 [.int .i64 v0] (b1S r) := by
 unfold a0E at hF
 refine p7 c1O.1 fun N => ?_
 exact ws 0 64 (qb (d9 (ws 64 256 (qr (AI v0) (bk hF fun u0 e0 hF => qC (AB u0) [] (B7 e0) a2D (qr (AB u0) (rR hF)))))))

def c9e : MC := (sr [pT 2 (.mv cf)] (sr [mvt 3 0, mvt 4 0, bT 5 .neq t3 t4, mvt 2 5] .ret))
theorem c1F : IsF Tryz.prog 167 c9e [(.tmp 2)] := ⟨by kernel_rfl, by kernel_rfl⟩

def V7 (v0 : Int) : Option (Bool) :=
 some (decide (v0 ≠ v0))
@[simp] def a7c (r : Bool) : RV := .one (.one (.val (.bool r)))
theorem a3j {v0 : Int} {r : Bool} (hF : V7 v0 = some r) : Con Tryz.prog 167 [.int .i64 v0] (a7c r) := by
 unfold V7 at hF
 refine p7 c1F.1 fun N => ?_
 exact ws 0 64 (qb (d9 (ws 64 320 (qr (AI v0) (qr (AI v0) (qr (AB (decide (v0 ≠ v0))) (qr (AB (decide (v0 ≠ v0))) (rR hF))))))))

def c8N : MC := (sr [pT 4 (.mv (ci 0))] (sr [mvt 7 0, dT 8 167 [t7], mvt 5 8] (sr [mvt 9 1, dT 10 167 [t9], mvt 6 10] (.seq (sr [mvt 11 5] (.cond t11 (.seq (sr [mvt 12 6] (.cond t12 (sr [pT 4 (.mv (ci 0))] .ret) .skip)) (sr [pT 4 (.mv (ci (-1)))] .ret)) .skip)) (.seq (sr [mvt 13 6] (.cond t13 (sr [pT 4 (.mv (ci 1))] .ret) .skip)) (.seq (sr [mvt 14 0, mvt 15 1, bT 16 .lss t14 t15] (.cond t16 (sr [pT 4 (.mv (ci (-1)))] .ret) .skip)) (.seq (sr [mvt 17 0, mvt 18 1, bT 19 .gtr t17 t18] (.cond t19 (sr [pT 4 (.mv (ci 1))] .ret) .skip)) (sr [pT 4 (.mv (ci 0))] .ret))))))))
theorem b9n : IsF Tryz.prog 152 c8N [(.tmp 4)] := ⟨by kernel_rfl, by kernel_rfl⟩

def G1 (v0 : Int) (v1 : Int) : Option (Int) :=
 ((V7 v0).bind fun u0 => ((V7 v1).bind fun u1 => (bif u0 then (bif u1 then some 0
 else some (-1))
 else (bif u1 then some 1
 else (bif (decide (v0 < v1)) then some (-1)
 else (bif (decide (v1 < v0)) then some 1
 else some 0))))))
@[simp] def a5t (r : Int) : RV := .one (.one (.val (.int .i64 r)))
theorem a0G {v0 : Int} {v1 : Int} {r : Int} (hF : G1 v0 v1 = some r) : Con Tryz.prog 152 [.int .i64 v0, .int .i64 v1] (a5t r) := by
 unfold G1 at hF
 refine p7 b9n.1 fun N => ?_
 refine ws 0 64 (qr (AI 0) (d9 (ws 64 256 (qr (AI v0) (bk hF fun u0 e0 hF => qC (AB u0) [] (a3j e0) c1F (qr (AB u0) (d9 (ws 256 448 (qr (AI v1) (bk hF fun u1 e1 hF => qC (AB u1) [] (a3j e1) c1F (qr (AB u1) (d9 (i8 (ws 448 512 (qr (AB u0) ?_)))))))))))))))
 refine d9 ?_
 refine cF hF (fun hF => ?_) fun hF => ?_
 ·
  refine i8 (ws 512 576 (qr (AB u1) (d9 (cF hF (fun hF => ws 576 640 (qr (AI 0) (d9 (j8 (f7 (f7 (eQ hF))))))) fun hF => ?_))))
  exact g9 (f5 (ws 576 640 (qr (AI (-1)) (d9 (j8 (f7 (eQ hF)))))))
 refine g9 (f5 (i8 (ws 512 576 (qr (AB u1) (d9 (cF hF (fun hF => ws 576 640 (qr (AI 1) (d9 (j8 (f7 (eQ hF)))))) fun hF => ?_))))))
 refine g9 (f5 (i8 (ws 576 768 (qr (AI v0) (qr (AI v1) (qr (AB (decide (v0 < v1))) (d9 (cF hF (fun hF => ws 768 832 (qr (AI (-1)) (d9 (j8 (f7 (eQ hF)))))) fun hF => ?_))))))))
 refine g9 (f5 (i8 (ws 768 960 (qr (AI v0) (qr (AI v1) (qr (AB (decide (v1 < v0))) (d9 (cF hF (fun hF => ws 960 1024 (qr (AI 1) (d9 (j8 (f7 (eQ hF)))))) fun hF => ?_))))))))
 exact g9 (f5 (ws 960 1024 (qr (AI 0) (rR hF))))

def d0q : MC := (sr [pT 4 (.mv (ci 0))] (.seq (sr [mvt 9 0, zT 10 9, pT 11 (.mv (ci 0))] (.block 0 (.loop (sr [bT 12 .lss t11 t10] (.seq (cx t12 0) (.seq (.block 1 (sr [mvt 13 11, iT 14 9 11 1, lT 15 14, mvt 5 13, mvt 6 15] (.seq (sr [mvt 16 5, mvt 17 1, zT 18 17, bT 19 .geq t16 t18] (.cond t19 (sr [pT 4 (.mv (ci 1))] .ret) .skip)) (sr [mvt 20 1, mvt 21 5, iT 22 20 21 1, lT 23 22, mvt 7 23] (sr [mvt 24 6, mvt 25 7, dT 26 152 [t24, t25], mvt 8 26] (sr [mvt 27 8, bT 28 .neq t27 (ci 0)] (.cond t28 (sr [mvt 29 8, mvt 4 29] .ret) .skip))))))) (.reg [bT 30 .add t11 (ci 1), mvt 11 30]))))))) (.seq (sr [mvt 31 0, zT 32 31, mvt 33 1, zT 34 33, bT 35 .lss t32 t34] (.cond t35 (sr [pT 4 (.mv (ci (-1)))] .ret) .skip)) (sr [pT 4 (.mv (ci 0))] .ret))))
theorem c2x : IsF Tryz.prog 123 d0q [(.tmp 4)] := ⟨by kernel_rfl, by kernel_rfl⟩

def B4 (v0 : List Int) (v1 : List Int) (k0 : Int → Option (Int)) : Int → Option (Int)
 | x1 => (bif (decide (x1 < (v0.length : Int))) then ((ix v0 x1).bind fun u0 => (bif (decide ((v1.length : Int) ≤ x1)) then some 1
 else ((ix v1 x1).bind fun u1 => ((G1 u0 u1).bind fun u2 => (bif (decide (u2 ≠ (0 : Int))) then some u2
 else k0 (w64 (x1 + 1)))))))
 else (bif (decide ((v0.length : Int) < (v1.length : Int))) then some (-1)
 else some 0))
def B2 (v0 : List Int) (v1 : List Int) : Option (Int) :=
 loop (B4 v0 v1) 0
@[simp] abbrev K4u (v0 : List Int) : V := .sl 1 (v0.map vI)
@[simp] abbrev K4v (v1 : List Int) : V := .sl 1 (v1.map vI)
@[simp] def a2B (r : Int) : RV := .one (.one (.val (.int .i64 r)))
theorem X1 {v0 : List Int} {v1 : List Int} {r : Int} (hF : B2 v0 v1 = some r) : Con Tryz.prog 123 [.sl 1 (v0.map vI), .sl 1 (v1.map vI)] (a2B r) := by
 unfold B2 at hF
 refine p7 c2x.1 fun N => ?_
 refine ws 0 64 (qr (AI 0) (d9 (i8 (ws 64 256 (qr (.val none (K4u v0)) (qp (AI (v0.length : Int)) (j0 rfl) (qr (AI 0) (d9 (j7 ?_)))))))))
 refine wr (l' := [(0, .val none (K4u v0)), (1, .val none (K4v v1)), (9, .val none (K4u v0)), (10, AI (v0.length : Int)), (11, AI 0)]) (L := []) [0, 1, 9, 10, 11] [] 1 ?_
 refine y5 (B4 v0 v1) (fun s : Int => mkS [(0, .val none (K4u v0)), (1, .val none (K4v v1)), (9, .val none (K4u v0)), (10, AI (v0.length : Int)), (11, AI s)] (fo []) 1) hF ?_
 rintro k0 x1 hF
 rw [B4] at hF
 try dsimp only
 refine ws 1 65 (qr (AB (decide (x1 < (v0.length : Int)))) (d9 (i8 ?_)))
 refine cF hF (fun hF => ?_) fun hF => ?_
 ·
  refine g9 (f5 (i8 (j7 (ws 65 385 (qr (AI x1) (bk hF fun u0 e0 hF => qp (.val none (.ptr [.int .i64 u0])) (j4 rfl rfl e0 rfl) (qr (AI u0) (qr (AI x1) (qr (AI u0) (d9 (i8 (ws 385 641 ?_))))))))))))
  refine qr (AI x1) (qr (.val none (K4v v1)) (qp (AI (v1.length : Int)) (j0 rfl) (qr (AB (decide ((v1.length : Int) ≤ x1))) (d9 (cF hF (fun hF => ws 641 705 (qr (AI 1) (d9 (j8 (f7 (g7 (f7 (f7 (g7 (f7 (eQ hF))))))))))) fun hF => ?_)))))
  refine g9 (f5 (ws 641 961 (qr (.val none (K4v v1)) (qr (AI x1) (bk hF fun u1 e1 hF => qp (.val none (.ptr [.int .i64 u1])) (j4 rfl rfl e1 rfl) (qr (AI u1) (qr (AI u1) (d9 (ws 961 1217 (qr (AI u0) (qr (AI u1) (bk hF fun u2 e2 hF => qC (AI u2) [] (a0G e2) b9n (qr (AI u2) (d9 (ws 1217 1345 ?_)))))))))))))))
  refine qr (AI u2) (qr (AB (decide (u2 ≠ (0 : Int)))) (d9 (cF hF (fun hF => ws 1345 1473 (qr (AI u2) (qr (AI u2) (d9 (j8 (g7 (f7 (f7 (g7 (f7 (eQ hF))))))))))) fun hF => ?_)))
  refine g9 (p6 (f5 (y4 1345 1473 rfl rfl (qr (AI (w64 (x1 + 1))) (qr (AI (w64 (x1 + 1))) (d9 (f5 ?_)))))))
  refine ar (l' := [(0, .val none (K4u v0)), (1, .val none (K4v v1)), (9, .val none (K4u v0)), (10, AI (v0.length : Int)), (11, AI (w64 (x1 + 1)))]) (L := []) [0, 1, 9, 10, 11] [] 1 ⟨_, by rfl, hF⟩
 refine z8 (j5 (j5 (s9 (f5 (i8 (ws 65 385 (qr (.val none (K4u v0)) (qp (AI (v0.length : Int)) (j0 rfl) (qr (.val none (K4v v1)) (qp (AI (v1.length : Int)) (j0 rfl) (qr (AB (decide ((v0.length : Int) < (v1.length : Int)))) (d9 ?_))))))))))))
 refine cF hF (fun hF => ws 385 449 (qr (AI (-1)) (d9 (j8 (f7 (eQ hF)))))) fun hF => ?_
 exact g9 (f5 (ws 385 449 (qr (AI 0) (rR hF))))

def c77 : MC := (sr [rg 1 (.f (.box t0)), pT 2 (.mv cf)] (.seq (sr [pT 5 (.fad t1 0), lT 6 5, dT 7 119 [t6], pT 8 (.not t7), mvt 9 8, kF 10 9 (.fad t1 1), kF 11 9 (.ld t10 1 false), ⟨(some 12), (some (9, false)), (.call true 120 [t11])⟩, kF 13 9 (.not t12), pT 14 (.pick t9 ct t13), mvt 15 14, kF 16 15 (.fad t1 2), kF 17 15 (.ld t16 1 false), ⟨(some 18), (some (15, false)), (.call true 120 [t17])⟩, kF 19 15 (.not t18), pT 20 (.pick t15 ct t19), mvt 21 20, kF 22 21 (.fad t1 3), kF 23 21 (.ld t22 1 false), kF 24 21 (.fad t1 4), kF 25 21 (.ld t24 1 false), kF 26 21 (.bin .eql t23 t25), pT 27 (.pick t21 ct t26), mvt 28 27, kF 29 28 (.ld t1 6 true), kF 30 28 (.fad t1 3), kF 31 28 (.ld t30 1 false), ⟨(some 32), (some (28, false)), (.call true 121 [t29, t31])⟩, kF 33 28 (.not t32), pT 34 (.pick t28 ct t33), mvt 35 34, kF 36 35 (.ld t1 6 true), kF 37 35 (.fad t1 4), kF 38 35 (.ld t37 1 false), ⟨(some 39), (some (35, false)), (.call true 121 [t36, t38])⟩, kF 40 35 (.not t39), pT 41 (.pick t35 ct t40), mvt 42 41, kF 43 42 (.fad t1 5), kF 44 42 (.ld t43 1 false), kF 45 42 (.len t44), kF 46 42 (.bin .gtr t45 (ci 8)), pT 47 (.pick t42 ct t46)] (.cond t47 (sr [pT 2 (.mv cf)] .ret) .skip)) (.seq (sr [pT 48 (.fad t1 5), lT 49 48, zT 50 49, pT 51 (.mv (ci 0))] (.block 0 (.loop (sr [bT 52 .lss t51 t50] (.seq (cx t52 0) (.seq (.block 1 (sr [mvt 53 51, iT 54 49 51 1, lT 55 54, mvt 3 53, mvt 4 55] (sr [mP 56 t4, zF 57 56, bF 58 .neq t57 (ci 2), mP 59 t58, mF 60 59 t4, jH 61 59 60 0 1, lH 62 59 61, ⟨(some 63), (some (59, false)), (.call false 122 [t62])⟩, gF 64 59 (.not t63), pF 65 (.pick t59 ct t64), mP 66 t65, mF 67 66 t4, jH 68 66 67 1 1, lH 69 66 68, ⟨(some 70), (some (66, false)), (.call false 122 [t69])⟩, gF 71 66 (.not t70), pF 72 (.pick t66 ct t71), mP 73 t72, mF 74 73 t4, jH 75 73 74 0 1, lH 76 73 75, mF 77 73 t4, jH 78 73 77 1 1, lH 79 73 78, bH 80 73 .eql t76 t79, pF 81 (.pick t73 ct t80), mP 82 t81, mF 83 82 t3, bH 84 82 .gtr t83 (ci 0), mF 85 82 t84, gT 86 85 (.fad t1 5), lG 87 85 86, mT 88 85 t3, bG 89 85 .sub t88 (ci 1), iG 90 85 87 89 1, lG 91 85 90, mT 92 85 t4, ⟨(some 93), (some (85, true)), (.call false 123 [t91, t92])⟩, bG 94 85 .geq t93 (ci 0), gF 95 82 (.pick t85 t94 cf), pF 96 (.pick t82 ct t95)] (.cond t96 (sr [pT 2 (.mv cf)] .ret) .skip)))) (.reg [bT 97 .add t51 (ci 1), mvt 51 97]))))))) (sr [pT 2 (.mv ct)] .ret))))
theorem c7j : IsF Tryz.prog 77 c77 [(.tmp 2)] := ⟨by kernel_rfl, by kernel_rfl⟩

def G0 (v0 : A8) (k1 : Int → Option (Bool)) : Int → Option (Bool)
 | x3 => (bif (decide (x3 < (v0.2.2.2.2.2.length : Int))) then ((ix v0.2.2.2.2.2 x3).bind fun u23 => (bif (decide ((u23.length : Int) ≠ (2 : Int))) then some false
 else ((ix u23 0).bind fun u24 => ((a0E u24).bind fun u25 => (bif (!u25) then some false
 else ((ix u23 1).bind fun u26 => ((a0E u26).bind fun u27 => (bif (!u27) then some false
 else ((ix u23 0).bind fun u28 => ((ix u23 1).bind fun u29 => (bif (decide (u28 = u29)) then some false
 else (bif (decide ((0 : Int) < x3)) then ((ix v0.2.2.2.2.2 (w64 (x3 - 1))).bind fun u30 => ((B2 u30 u23).bind fun u31 => (bif (decide ((0 : Int) ≤ u31)) then some false
 else k1 (w64 (x3 + 1)))))
 else k1 (w64 (x3 + 1))))))))))))))
 else some true)
def Y6 (v0 : A8) : Option (Bool) :=
 ((H1 v0.1).bind fun u0 => (bif (!u0) then some false
 else ((N6 v0.2.1).bind fun u1 => (bif (!u1) then some false
 else ((N6 v0.2.2.1).bind fun u2 => (bif (!u2) then some false
 else (bif (decide (v0.2.2.2.1 = v0.2.2.2.2.1)) then some false
 else ((K0 v0 v0.2.2.2.1).bind fun u3 => (bif (!u3) then some false
 else ((K0 v0 v0.2.2.2.2.1).bind fun u4 => (bif (!u4) then some false
 else (bif (decide ((8 : Int) < (v0.2.2.2.2.2.length : Int))) then some false
 else loop (G0 v0) 0))))))))))))
@[simp] abbrev K4y (v0 : A8) : V := .sl 1 (v0.2.2.2.2.2.map (eL 1 vI))
@[simp] abbrev K4x (v0 : A8) : List AV := [AS v0.1, AL 1 (v0.2.1.map vI), AL 1 (v0.2.2.1.map vI), AI v0.2.2.2.1, AI v0.2.2.2.2.1, .val none (K4y v0)]
@[simp] abbrev K4w (v0 : A8) : List (Nat × Root) := [(0, .box (K4x v0))]
@[simp] abbrev K4z (u23 : List Int) : AV := AL 1 (u23.map vI)
@[simp] def a8j (r : Bool) : RV := .one (.one (.val (.bool r)))
theorem a7B {v0 : A8} {r : Bool} (hF : Y6 v0 = some r) : Con Tryz.prog 77 [b3m v0] (a8j r) := by
 unfold Y6 at hF
 refine p7 c7j.1 fun N => ?_
 refine ws 0 128 (qf (.ptr 0 0 0) (K4w v0) (by simp) (qb (d9 (i8 (ws 128 2880 (qr (.ptr 0 0 0) (qr (AS v0.1) (bk hF fun u0 e0 hF => qC (AB u0) (K4w v0) (O4 e0) b1n (qr (AB (!u0)) (qr (AB (!u0)) ?_))))))))))
 refine p5 9 hF rfl (fun hF => ?_) (fun hF => ?_)
 ·
  refine qn4 (qt (qt (qn2 (qn2 (qt (qt (qn4 ?_)))))))
  refine qn rfl (qt (qt (qn rfl (qn rfl (qn rfl (qn rfl (qn rfl (qt (qt (qn5 (qt ?_)))))))))))
  exact qt (qn4 (qt (d9 (B5 rfl (ws 2880 2944 (qb (d9 (j8 (f7 (eQ hF))))))))))
 refine qg (.ptr 0 0 1) rfl rfl (qg (AL 1 (v0.2.1.map vI)) rfl rfl (bk hF fun u1 e1 hF => qG (AB u1) (K4w v0) (a3i e1) c2A (qg (AB (!u1)) rfl rfl (qr (AB (!u1)) (qr (AB (!u1)) ?_)))))
 refine p5 15 hF rfl (fun hF => ?_) (fun hF => ?_)
 ·
  refine qn4 (qt (qt (qn2 (qn3 (qt (qt (qn3 (qn2 (qt (qt (qn4 ?_)))))))))))
  refine qn rfl (qt (qt (qn rfl (qn rfl (qn rfl (qn rfl (qt (d9 (B5 rfl (ws 2880 2944 (qb (d9 (j8 ?_)))))))))))))
  exact f7 (eQ hF)
 refine qg (.ptr 0 0 2) rfl rfl (qg (AL 1 (v0.2.2.1.map vI)) rfl rfl (bk hF fun u2 e2 hF => qG (AB u2) (K4w v0) (a3i e2) c2A (qg (AB (!u2)) rfl rfl (qr (AB (!u2)) (qr (AB (!u2)) ?_)))))
 refine p5 21 hF rfl (fun hF => ?_) (fun hF => ?_)
 ·
  refine qn5 (qt (qt (qn rfl (qn4 (qt (qt (qn2 (qn3 (qt (qt (qn3 (qn rfl (qt ?_)))))))))))))
  exact d9 (B5 rfl (ws 2880 2944 (qb (d9 (j8 (f7 (eQ hF)))))))
 refine qg (.ptr 0 0 3) rfl rfl (qg (AI v0.2.2.2.1) rfl rfl (qg (.ptr 0 0 4) rfl rfl (qg (AI v0.2.2.2.2.1) rfl rfl (qg (AB (decide (v0.2.2.2.1 = v0.2.2.2.2.1))) rfl rfl (qr (AB (decide (v0.2.2.2.1 = v0.2.2.2.2.1))) (qr (AB (decide (v0.2.2.2.1 = v0.2.2.2.2.1))) ?_))))))
 refine p5 28 hF rfl (fun hF => ?_) (fun hF => ?_)
 ·
  refine qn5 (qt (qt (qn rfl (qn4 (qt (qt (qn2 (qn2 (qt (d9 (B5 rfl (ws 2880 2944 (qb ?_)))))))))))))
  exact d9 (j8 (f7 (eQ hF)))
 refine qg (.agg (K4x v0)) rfl rfl (qg (.ptr 0 0 3) rfl rfl (qg (AI v0.2.2.2.1) rfl rfl (bk hF fun u3 e3 hF => qG (AB u3) (K4w v0) (a2C e3) c2a (qg (AB (!u3)) rfl rfl (qr (AB (!u3)) (qr (AB (!u3)) ?_))))))
 refine p5 35 hF rfl (fun hF => qn5 (qt (qt (qn rfl (qn3 (qt (d9 (B5 rfl (ws 2880 2944 (qb (d9 (j8 (f7 (eQ hF)))))))))))))) fun hF => ?_
 refine qg (.agg (K4x v0)) rfl rfl (qg (.ptr 0 0 4) rfl rfl (qg (AI v0.2.2.2.2.1) rfl rfl (bk hF fun u4 e4 hF => qG (AB u4) (K4w v0) (a2C e4) c2a (qg (AB (!u4)) rfl rfl (qr (AB (!u4)) (qr (AB (!u4)) ?_))))))
 refine p5 42 hF rfl (fun hF => qn4 (qt (d9 (B5 rfl (ws 2880 2944 (qb (d9 (j8 (f7 (eQ hF)))))))))) fun hF => ?_
 refine qg (.ptr 0 0 5) rfl rfl (qg (.val none (K4y v0)) rfl rfl (qg (AI (v0.2.2.2.2.2.length : Int)) rfl (j0 rfl) (qg (AB (decide ((8 : Int) < (v0.2.2.2.2.2.length : Int)))) rfl rfl (qr (AB (decide ((8 : Int) < (v0.2.2.2.2.2.length : Int)))) (d9 (cF hF (fun hF => ws 2880 2944 (qb (d9 (j8 (f7 (eQ hF)))))) fun hF => ?_))))))
 refine g9 (f5 (i8 (ws 2880 3136 (qr (.ptr 0 0 5) (qr (.val none (K4y v0)) (qp (AI (v0.2.2.2.2.2.length : Int)) (j0 rfl) (qr (AI 0) (d9 (j7 ?_)))))))))
 refine b8a (l' := [(1, .ptr 0 0 0), (49, .val none (K4y v0)), (50, AI (v0.2.2.2.2.2.length : Int)), (51, AI 0)]) (L := (K4w v0)) [1, 49, 50, 51] [(0, 0)] 1 (by first | rfl | simp) (by first | rfl | simp) (by decide) (by decide) (by decide) ?_
 refine y5 (G0 v0) (fun s : Int => mkS [(1, .ptr 0 0 0), (49, .val none (K4y v0)), (50, AI (v0.2.2.2.2.2.length : Int)), (51, AI s)] (fo (K4w v0)) 1) hF ?_
 rintro k1 x3 hF
 rw [G0] at hF
 try dsimp only
 refine ws 1 65 (qr (AB (decide (x3 < (v0.2.2.2.2.2.length : Int)))) (d9 (i8 ?_)))
 refine cF hF (fun hF => ?_) fun hF => ?_
 ·
  refine g9 (f5 (i8 (j7 (ws 65 385 (qr (AI x3) (bk hF fun u23 e23 hF => qp (.val none (.ptr [.sl 1 (u23.map vI)])) (j4 rfl rfl e23 rfl) (qr (K4z u23) (qr (AI x3) (qr (K4z u23) (d9 (ws 385 3009 ?_)))))))))))
  refine qr (K4z u23) (qp (AI (u23.length : Int)) (j0 rfl) (qr (AB (decide ((u23.length : Int) ≠ (2 : Int)))) (qr (AB (decide ((u23.length : Int) ≠ (2 : Int)))) ?_)))
  refine p5 59 hF rfl (fun hF => ?_) (fun hF => ?_)
  ·
   refine qn5 (qt (qt (qn rfl (qn4 (qt (qt (qn2 (qn5 (qt (qt (qn rfl ?_)))))))))))
   refine qn2 (qu rfl (qu rfl (qu rfl (qu rfl (qu rfl (qu rfl (qu rfl (qu rfl (qu rfl (qn rfl (qt (d9 (B5 rfl ?_)))))))))))))
   exact ws 3009 3073 (qb (d9 (j8 (g7 (f7 (f7 (g7 (f7 (eQ hF)))))))))
  refine qg (K4z u23) rfl rfl (bk hF fun u24 e24 hF => qg (.val none (.ptr [.int .i64 u24])) rfl (j4 rfl rfl e24 rfl) (qg (AI u24) rfl rfl (bk hF fun u25 e25 hF => qG (AB u25) (K4w v0) (a4Z e25) c1O (qg (AB (!u25)) rfl rfl (qr (AB (!u25)) (qr (AB (!u25)) ?_))))))
  refine p5 66 hF rfl (fun hF => ?_) (fun hF => ?_)
  ·
   refine qn5 (qt (qt (qn rfl (qn6 (qt (qt (qn3 (qu rfl (qu rfl (qu rfl (qu rfl (qu rfl ?_))))))))))))
   refine qu rfl (qu rfl (qu rfl (qu rfl (qn rfl (qt (d9 (B5 rfl (ws 3009 3073 (qb (d9 (j8 (g7 (f7 ?_)))))))))))))
   exact f7 (g7 (f7 (eQ hF)))
  refine qg (K4z u23) rfl rfl (bk hF fun u26 e26 hF => qg (.val none (.ptr [.int .i64 u26])) rfl (j4 rfl rfl e26 rfl) (qg (AI u26) rfl rfl (bk hF fun u27 e27 hF => qG (AB u27) (K4w v0) (a4Z e27) c1O (qg (AB (!u27)) rfl rfl (qr (AB (!u27)) (qr (AB (!u27)) ?_))))))
  refine p5 73 hF rfl (fun hF => ?_) (fun hF => ?_)
  ·
   refine qn7 (qt (qt (qn3 (qu rfl (qu rfl (qu rfl (qu rfl ?_)))))))
   refine qu rfl (qu rfl (qu rfl (qu rfl (qu rfl (qn rfl (qt (d9 (B5 rfl (ws 3009 3073 (qb (d9 (j8 (g7 ?_)))))))))))))
   exact f7 (f7 (g7 (f7 (eQ hF))))
  refine qg (K4z u23) rfl rfl (bk hF fun u28 e28 hF => qg (.val none (.ptr [.int .i64 u28])) rfl (j4 rfl rfl e28 rfl) (qg (AI u28) rfl rfl (qg (K4z u23) rfl rfl (bk hF fun u29 e29 hF => qg (.val none (.ptr [.int .i64 u29])) rfl (j4 rfl rfl e29 rfl) (qg (AI u29) rfl rfl (qg (AB (decide (u28 = u29))) rfl rfl (qr (AB (decide (u28 = u29))) (qr (AB (decide (u28 = u29))) ?_))))))))
  refine p5 82 hF rfl (fun hF => ?_) (fun hF => ?_)
  ·
   refine qn3 (qu rfl (qu rfl (qu rfl (qu rfl (qu rfl (qu rfl (qu rfl (qu rfl (qu rfl (qn rfl (qt (d9 (B5 rfl ?_)))))))))))))
   exact ws 3009 3073 (qb (d9 (j8 (g7 (f7 (f7 (g7 (f7 (eQ hF)))))))))
  refine qg (AI x3) rfl rfl (qg (AB (decide ((0 : Int) < x3))) rfl rfl (qg (AB (decide ((0 : Int) < x3))) rfl rfl ?_))
  refine p5 85 hF rfl (fun hF => ?_) (fun hF => ?_)
  ·
   refine qg (.ptr 0 0 5) rfl rfl (qg (.val none (K4y v0)) rfl rfl (qg (AI x3) rfl rfl (qg (AI (w64 (x3 - 1))) rfl rfl (bk hF fun u30 e30 hF => qg (.val none (.ptr [.sl 1 (u30.map vI)])) rfl (j4 rfl rfl e30 rfl) (qg (AL 1 (u30.map vI)) rfl rfl (qg (K4z u23) rfl rfl (bk hF fun u31 e31 hF => qG (AI u31) (K4w v0) (X1 e31) c2x (qg (AB (decide ((0 : Int) ≤ u31))) rfl rfl (qg (AB (decide ((0 : Int) ≤ u31))) rfl rfl (qr (AB (decide ((0 : Int) ≤ u31))) (d9 ?_)))))))))))
   refine cF hF (fun hF => ws 3009 3073 (qb (d9 (j8 (g7 (f7 (f7 (g7 (f7 (eQ hF)))))))))) fun hF => ?_
   refine g9 (p6 (f5 (y4 3009 3137 rfl rfl (qr (AI (w64 (x3 + 1))) (qr (AI (w64 (x3 + 1))) (d9 (f5 ?_)))))))
   refine ar (l' := [(1, .ptr 0 0 0), (49, .val none (K4y v0)), (50, AI (v0.2.2.2.2.2.length : Int)), (51, AI (w64 (x3 + 1)))]) (L := (K4w v0)) [1, 49, 50, 51] [(0, 0)] 1 ⟨_, by rfl, hF⟩
  refine qn8 (qn rfl (qg (AB false) rfl rfl (qb (d9 (H2 rfl (g9 (p6 (f5 (y4 3009 3137 rfl rfl (qr (AI (w64 (x3 + 1))) (qr (AI (w64 (x3 + 1))) ?_)))))))))))
  refine d9 (f5 ?_)
  refine ar (l' := [(1, .ptr 0 0 0), (49, .val none (K4y v0)), (50, AI (v0.2.2.2.2.2.length : Int)), (51, AI (w64 (x3 + 1)))]) (L := (K4w v0)) [1, 49, 50, 51] [(0, 0)] 1 ⟨_, by rfl, hF⟩
 exact z8 (j5 (j5 (s9 (f5 (ws 65 129 (qt (rR hF)))))))

def d0l : MC := (sr [pT 2 (.mv cf)] (sr [mvt 3 0, dT 4 135 [t3, (ci (-12)), (ci 23)], mvt 2 4] .ret))
theorem c4u : IsF Tryz.prog 124 d0l [(.tmp 2)] := ⟨by kernel_rfl, by kernel_rfl⟩

def a2t (v0 : Int) : Option (Bool) :=
 ((B3 v0 (-12) 23).bind fun u0 => some u0)
@[simp] def b0E (r : Bool) : RV := .one (.one (.val (.bool r)))
theorem b0a {v0 : Int} {r : Bool} (hF : a2t v0 = some r) : Con Tryz.prog 124 [.int .i64 v0] (b0E r) := by
 unfold a2t at hF
 refine p7 c4u.1 fun N => ?_
 exact ws 0 64 (qb (d9 (ws 64 256 (qr (AI v0) (bk hF fun u0 e0 hF => qC (AB u0) [] (B7 e0) a2D (qr (AB u0) (rR hF)))))))

def c9x : MC := (sr [pT 2 (.mv cf)] (sr [mvt 3 0, dT 4 135 [t3, (ci 1), (ci 64)], mvt 2 4] .ret))
theorem c5o : IsF Tryz.prog 125 c9x [(.tmp 2)] := ⟨by kernel_rfl, by kernel_rfl⟩

def a1S (v0 : Int) : Option (Bool) :=
 ((B3 v0 1 64).bind fun u0 => some u0)
@[simp] def a8F (r : Bool) : RV := .one (.one (.val (.bool r)))
theorem a8w {v0 : Int} {r : Bool} (hF : a1S v0 = some r) : Con Tryz.prog 125 [.int .i64 v0] (a8F r) := by
 unfold a1S at hF
 refine p7 c5o.1 fun N => ?_
 exact ws 0 64 (qb (d9 (ws 64 256 (qr (AI v0) (bk hF fun u0 e0 hF => qC (AB u0) [] (B7 e0) a2D (qr (AB u0) (rR hF)))))))

def c78 : MC := (sr [pT 2 (.mv cf)] (.seq (sr [mvt 5 0, zT 6 5, bT 7 .gtr t6 (ci 48)] (.cond t7 (sr [pT 2 (.mv cf)] .ret) .skip)) (.seq (sr [mvt 8 0, zT 9 8, pT 10 (.mv (ci 0))] (.block 0 (.loop (sr [bT 11 .lss t10 t9] (.seq (cx t11 0) (.seq (.block 1 (sr [iT 12 8 10 2, pT 13 (.ld t12 2 true), rg 4 (.f (.alloc [((.int .i64 0), (0, false)), ((.int .i64 0), (0, false))])), ⟨none, none, (.f (.st t4 t13 2))⟩] (sr [pT 14 (.fad t4 0), lT 15 14, dT 16 124 [t15], pT 17 (.not t16), mvt 18 17, kF 19 18 (.fad t4 1), kF 20 18 (.ld t19 1 false), ⟨(some 21), (some (18, false)), (.call true 125 [t20])⟩, kF 22 18 (.not t21), pT 23 (.pick t18 ct t22)] (.cond t23 (sr [pT 2 (.mv cf)] .ret) .skip)))) (.reg [bT 24 .add t10 (ci 1), mvt 10 24]))))))) (sr [pT 2 (.mv ct)] .ret))))
theorem c7T : IsF Tryz.prog 78 c78 [(.tmp 2)] := ⟨by kernel_rfl, by kernel_rfl⟩

def E9 (v0 : List j6) (k0 : Int → Option (Bool)) : Int → Option (Bool)
 | x1 => (bif (decide (x1 < (v0.length : Int))) then ((ix v0 x1).bind fun u0 => ((a2t u0.1).bind fun u1 => (bif (!u1) then some false
 else ((a1S u0.2).bind fun u2 => (bif (!u2) then some false
 else k0 (w64 (x1 + 1)))))))
 else some true)
def S0 (v0 : List j6) : Option (Bool) :=
 (bif (decide ((48 : Int) < (v0.length : Int))) then some false
 else loop (E9 v0) 0)
@[simp] abbrev K50 (u0 : j6) : List (Nat × Root) := [(193, .box [AI u0.1, AI u0.2]), (193, .box [AI 0, AI 0])]
@[simp] def a6g (r : Bool) : RV := .one (.one (.val (.bool r)))
theorem a6p {v0 : List j6} {r : Bool} (hF : S0 v0 = some r) : Con Tryz.prog 78 [.sl 2 (v0.map j3)] (a6g r) := by
 unfold S0 at hF
 refine p7 c7T.1 fun N => ?_
 refine ws 0 64 (qb (d9 (i8 (ws 64 256 (qr (AL 2 (v0.map j3)) (qp (AI (v0.length : Int)) (j0 rfl) (qr (AB (decide ((48 : Int) < (v0.length : Int)))) (d9 (cF hF (fun hF => ws 256 320 (qb (d9 (j8 (f7 (eQ hF)))))) fun hF => ?_)))))))))
 refine g9 (f5 (i8 (ws 256 448 (qr (AL 2 (v0.map j3)) (qp (AI (v0.length : Int)) (j0 rfl) (qr (AI 0) (d9 (j7 ?_))))))))
 refine wr (l' := [(8, AL 2 (v0.map j3)), (9, AI (v0.length : Int)), (10, AI 0)]) (L := []) [8, 9, 10] [] 1 ?_
 refine y5 (E9 v0) (fun s : Int => mkS [(8, AL 2 (v0.map j3)), (9, AI (v0.length : Int)), (10, AI s)] (fo []) 1) hF ?_
 rintro k0 x1 hF
 rw [E9] at hF
 try dsimp only
 refine ws 1 65 (qr (AB (decide (x1 < (v0.length : Int)))) (d9 (i8 ?_)))
 refine cF hF (fun hF => ?_) fun hF => ?_
 ·
  refine g9 (f5 (i8 (j7 (ws 65 321 (bk hF fun u0 e0 hF => qp (.val none (.ptr [.int .i64 u0.1, .int .i64 u0.2])) (j4 rfl rfl e0 rfl) (qr (.val none (j3 u0)) (qf (.ptr 193 0 0) [(193, .box [AI 0, AI 0])] (by simp) (qf0 (.undef) (K50 u0) (by simp) (d9 (ws 321 961 (qr (.ptr 193 0 0) (qr (AI u0.1) (bk hF fun u1 e1 hF => qC (AB u1) (K50 u0) (b0a e1) c4u (qr (AB (!u1)) (qr (AB (!u1)) ?_)))))))))))))))
  refine p5 18 hF rfl (fun hF => qn4 (qt (d9 (B5 rfl (ws 961 1025 (qb (d9 (j8 (g7 (f7 (f7 (g7 (f7 (eQ hF)))))))))))))) fun hF => ?_
  refine qg (.ptr 193 0 1) rfl rfl (qg (AI u0.2) rfl rfl (bk hF fun u2 e2 hF => qG (AB u2) (K50 u0) (a8w e2) c5o (qg (AB (!u2)) rfl rfl (qr (AB (!u2)) (d9 (cF hF (fun hF => ws 961 1025 (qb (d9 (j8 (g7 (f7 (f7 (g7 (f7 (eQ hF)))))))))) fun hF => ?_))))))
  refine g9 (p6 (f5 (y4 961 1089 rfl rfl (qr (AI (w64 (x1 + 1))) (qr (AI (w64 (x1 + 1))) (d9 (f5 ?_)))))))
  refine ar (l' := [(8, AL 2 (v0.map j3)), (9, AI (v0.length : Int)), (10, AI (w64 (x1 + 1)))]) (L := []) [8, 9, 10] [] 1 ⟨_, by rfl, hF⟩
 exact z8 (j5 (j5 (s9 (f5 (ws 65 129 (qt (rR hF)))))))

def d0h : MC := (sr [pT 4 (.mv (ci 0))] (.seq (.block 0 (.loop (.seq (sr [mvt 5 1, bT 6 .neq t5 (ci 0)] (cx t6 0)) (.block 1 (.reg [mP 7 t1, mP 8 t0, mP 9 t1, bF 10 .rem t8 t9, mP 0 t7, mP 1 t10]))))) (sr [mvt 11 0, mvt 4 11] .ret)))
theorem c4t : IsF Tryz.prog 153 d0h [(.tmp 4)] := ⟨by kernel_rfl, by kernel_rfl⟩

def H9 (k0 : Int × Int → Option (Int)) : Int × Int → Option (Int)
 | (x2, x3) => (bif (decide (x3 ≠ (0 : Int))) then (need (x3 ≠ 0) (k0 (x3, Int.tmod x2 x3)))
 else some x2)
def D7 (v0 : Int) (v1 : Int) : Option (Int) :=
 loop (H9) (v0, v1)
@[simp] def a4G (r : Int) : RV := .one (.one (.val (.int .i64 r)))
theorem a4A {v0 : Int} {v1 : Int} {r : Int} (hF : D7 v0 v1 = some r) : Con Tryz.prog 153 [.int .i64 v0, .int .i64 v1] (a4G r) := by
 unfold D7 at hF
 refine p7 c4t.1 fun N => ?_
 refine ws 0 64 (qr (AI 0) (d9 (i8 (j7 ?_))))
 refine wr (l' := [(0, AI v0), (1, AI v1)]) (L := []) [0, 1] [] 1 ?_
 refine y5 (H9) (fun s : Int × Int => mkS [(0, AI s.1), (1, AI s.2)] (fo []) 1) hF ?_
 rintro k0 ⟨x2, x3⟩ hF
 rw [H9] at hF
 try dsimp only
 refine i8 (ws 1 129 (qr (AI x3) (qr (AB (decide (x3 ≠ (0 : Int)))) (d9 ?_))))
 refine cF hF (fun hF => ?_) fun hF => ?_
 ·
  refine g9 (f5 (j7 (y4 129 513 rfl rfl (qr (AI x3) (qr (AI x2) (qr (AI x3) (nk hF fun g0 hF => qp (AI (Int.tmod x2 x3)) (b6t rfl rfl g0) (qr (AI x3) (qr (AI (Int.tmod x2 x3)) (d9 (p6 (f5 ?_))))))))))))
  refine ar (l' := [(0, AI x3), (1, AI (Int.tmod x2 x3))]) (L := []) [0, 1] [] 1 ⟨_, by rfl, hF⟩
 exact z8 (j5 (j5 (s9 (f5 (ws 129 257 (qr (AI x2) (qr (AI x2) (rR hF))))))))

def c9o : MC := (sr [rg 1 (.f (.box t0)), pT 2 (.mv cf)] (sr [pT 3 (.fad t1 0), lT 4 3, dT 5 135 [t4, (ci 1), (ci 1000000)], mvt 6 5, kT 7 6 (.fad t1 1), kT 8 6 (.ld t7 1 false), ⟨(some 9), (some (6, true)), (.call true 135 [t8, (ci 1), (ci 1000000)])⟩, pT 10 (.pick t6 t9 cf), mvt 11 10, kT 12 11 (.fad t1 0), kT 13 11 (.ld t12 1 false), kT 14 11 (.fad t1 1), kT 15 11 (.ld t14 1 false), ⟨(some 16), (some (11, true)), (.call true 153 [t13, t15])⟩, kT 17 11 (.bin .eql t16 (ci 1)), pT 18 (.pick t11 t17 cf), mvt 2 18] .ret))
theorem c4w : IsF Tryz.prog 126 c9o [(.tmp 2)] := ⟨by kernel_rfl, by kernel_rfl⟩

def W2 (v0 : j6) : Option (Bool) :=
 ((B3 v0.1 1 1000000).bind fun u0 => (bif u0 then ((B3 v0.2 1 1000000).bind fun u1 => (bif u1 then ((D7 v0.1 v0.2).bind fun u2 => some (decide (u2 = (1 : Int))))
 else some false))
 else some false))
@[simp] def a6V (r : Bool) : RV := .one (.one (.val (.bool r)))
theorem a6L {v0 : j6} {r : Bool} (hF : W2 v0 = some r) : Con Tryz.prog 126 [j3 v0] (a6V r) := by
 unfold W2 at hF
 refine p7 c4w.1 fun N => ?_
 refine ws 0 128 (qf (.ptr 0 0 0) [(0, .box [AI v0.1, AI v0.2])] (by simp) (qb (d9 (ws 128 1216 (qr (.ptr 0 0 0) (qr (AI v0.1) (bk hF fun u0 e0 hF => qC (AB u0) [(0, .box [AI v0.1, AI v0.2])] (B7 e0) a2D (qr (AB u0) ?_))))))))
 refine p5 6 hF rfl (fun hF => ?_) (fun hF => ?_)
 ·
  refine qg (.ptr 0 0 1) rfl rfl (qg (AI v0.2) rfl rfl (bk hF fun u1 e1 hF => qG (AB u1) [(0, .box [AI v0.1, AI v0.2])] (B7 e1) a2D (qr (AB u1) (qr (AB u1) (p5 11 hF rfl (fun hF => qg (.ptr 0 0 0) rfl rfl (qg (AI v0.1) rfl rfl (qg (.ptr 0 0 1) rfl rfl (qg (AI v0.2) rfl rfl (bk hF fun u2 e2 hF => qG (AI u2) [(0, .box [AI v0.1, AI v0.2])] (a4A e2) c4t (qg (AB (decide (u2 = (1 : Int)))) rfl rfl (qr (AB (decide (u2 = (1 : Int)))) (qr (AB (decide (u2 = (1 : Int)))) (rR hF))))))))) fun hF => ?_)))))
  exact qn6 (qb (qb (rR hF)))
 exact qn3 (qb (qb (qn3 (qn3 (qb (qb (rR hF)))))))

def c9O : MC := (sr [rg 2 (.f (.box t0)), rg 3 (.f (.box t1)), pT 4 (.mv (ci 0))] (sr [pT 5 (.fad t2 0), lT 6 5, pT 7 (.fad t3 1), lT 8 7, bT 9 .mul t6 t8, pT 10 (.fad t3 0), lT 11 10, pT 12 (.fad t2 1), lT 13 12, bT 14 .mul t11 t13, dT 15 152 [t9, t14], mvt 4 15] .ret))
theorem c4G : IsF Tryz.prog 127 c9O [(.tmp 4)] := ⟨by kernel_rfl, by kernel_rfl⟩

def M9 (v0 : j6) (v1 : j6) : Option (Int) :=
 ((G1 (w64 (v0.1 * v1.2)) (w64 (v1.1 * v0.2))).bind fun u0 => some u0)
@[simp] abbrev K51 (v1 : j6) (v0 : j6) : List (Nat × Root) := [(64, .box [AI v1.1, AI v1.2]), (0, .box [AI v0.1, AI v0.2])]
@[simp] def a4U (r : Int) : RV := .one (.one (.val (.int .i64 r)))
theorem a4B {v0 : j6} {v1 : j6} {r : Int} (hF : M9 v0 v1 = some r) : Con Tryz.prog 127 [j3 v0, j3 v1] (a4U r) := by
 unfold M9 at hF
 refine p7 c4G.1 fun N => ?_
 refine ws 0 192 (qf (.ptr 0 0 0) [(0, .box [AI v0.1, AI v0.2])] (by simp) (qf (.ptr 64 0 0) (K51 v1 v0) (by simp) (qr (AI 0) (d9 (ws 192 960 ?_)))))
 exact qr (.ptr 0 0 0) (qr (AI v0.1) (qr (.ptr 64 0 1) (qr (AI v1.2) (qr (AI (w64 (v0.1 * v1.2))) (qr (.ptr 64 0 0) (qr (AI v1.1) (qr (.ptr 0 0 1) (qr (AI v0.2) (qr (AI (w64 (v1.1 * v0.2))) (bk hF fun u0 e0 hF => qC (AI u0) (K51 v1 v0) (a0G e0) b9n (qr (AI u0) (rR hF))))))))))))

def c79 : MC := (sr [rg 1 (.f (.box t0)), pT 2 (.mv cf)] (.seq (sr [pT 5 (.fad t1 0), lT 6 5, dT 7 119 [t6], pT 8 (.not t7), mvt 9 8, kF 10 9 (.fad t1 1), kF 11 9 (.ld t10 1 false), kF 12 9 (.len t11), kF 13 9 (.bin .neq t12 (ci 12)), pT 14 (.pick t9 ct t13), mvt 15 14, kF 16 15 (.fad t1 1), kF 17 15 (.ld t16 1 false), kF 18 15 (.iad t17 (ci 0) 2), kF 19 15 (.ld t18 2 true), ⟨(some 20), (some (15, false)), (.f (.bld [((.int .i64 0), (0, true)), ((.int .i64 0), (0, true))] [(0, (1, (ci 1))), (1, (1, (ci 1)))]))⟩, kF 21 15 (.eqs true [0, 0] t19 t20), pT 22 (.pick t15 ct t21)] (.cond t22 (sr [pT 2 (.mv cf)] .ret) .skip)) (.seq (sr [pT 23 (.fad t1 1), lT 24 23, zT 25 24, pT 26 (.mv (ci 0))] (.block 0 (.loop (sr [bT 27 .lss t26 t25] (.seq (cx t27 0) (.seq (.block 1 (sr [mvt 28 26, iT 29 24 26 2, pT 30 (.ld t29 2 true), rg 4 (.f (.alloc [((.int .i64 0), (0, false)), ((.int .i64 0), (0, false))])), mvt 3 28, ⟨none, none, (.f (.st t4 t30 2))⟩] (sr [pF 31 (.ld t4 2 true), dF 32 126 [t31], pF 33 (.not t32), mP 34 t33, gF 35 34 (.fad t4 0), lH 36 34 35, gF 37 34 (.fad t4 1), lH 38 34 37, bH 39 34 .mul (ci 2) t38, bH 40 34 .geq t36 t39, pF 41 (.pick t34 ct t40), mP 42 t41, mF 43 42 t3, bH 44 42 .gtr t43 (ci 0), mF 45 42 t44, gT 46 45 (.ld t4 2 true), gT 47 45 (.fad t1 1), lG 48 45 47, mT 49 45 t3, bG 50 45 .sub t49 (ci 1), iG 51 45 48 50 2, gT 52 45 (.ld t51 2 true), ⟨(some 53), (some (45, true)), (.call false 127 [t46, t52])⟩, bG 54 45 .leq t53 (ci 0), gF 55 42 (.pick t45 t54 cf), pF 56 (.pick t42 ct t55)] (.cond t56 (sr [pT 2 (.mv cf)] .ret) .skip)))) (.reg [bT 57 .add t26 (ci 1), mvt 26 57]))))))) (sr [pT 2 (.mv ct)] .ret))))
theorem c6W : IsF Tryz.prog 79 c79 [(.tmp 2)] := ⟨by kernel_rfl, by kernel_rfl⟩

def F0 (v0 : z7) (k1 : Int → Option (Bool)) : Int → Option (Bool)
 | x3 => (bif (decide (x3 < (v0.2.length : Int))) then ((ix v0.2 x3).bind fun u10 => ((W2 u10).bind fun u11 => (bif (!u11) then some false
 else (bif (decide (w64 (2 * u10.2) ≤ u10.1)) then some false
 else (bif (decide ((0 : Int) < x3)) then ((ix v0.2 (w64 (x3 - 1))).bind fun u12 => ((M9 u10 u12).bind fun u13 => (bif (decide (u13 ≤ (0 : Int))) then some false
 else k1 (w64 (x3 + 1)))))
 else k1 (w64 (x3 + 1)))))))
 else some true)
def S6 (v0 : z7) : Option (Bool) :=
 ((H1 v0.1).bind fun u0 => (bif (!u0) then some false
 else (bif (decide ((v0.2.length : Int) ≠ (12 : Int))) then some false
 else ((ix v0.2 0).bind fun u1 => (bif (!(decide (u1.1 = (1 : Int)) && (decide (u1.2 = (1 : Int)) && true))) then some false
 else loop (F0 v0) 0)))))
@[simp] abbrev K55 (v0 : z7) : V := .sl 2 (v0.2.map j3)
@[simp] abbrev K52 (v0 : z7) : List (Nat × Root) := [(0, .box [AS v0.1, .val none (K55 v0)])]
@[simp] abbrev K54 (u10 : j6) (v0 : z7) : List (Nat × Root) := ((257, .box [AI u10.1, AI u10.2]) :: (257, .box [AI 0, AI 0]) :: (K52 v0))
@[simp] def a5Y (r : Bool) : RV := .one (.one (.val (.bool r)))
theorem a5Z {v0 : z7} {r : Bool} (hF : S6 v0 = some r) : Con Tryz.prog 79 [a6v v0] (a5Y r) := by
 unfold S6 at hF
 refine p7 c6W.1 fun N => ?_
 refine ws 0 128 (qf (.ptr 0 0 0) (K52 v0) (by simp) (qb (d9 (i8 (ws 128 1280 (qr (.ptr 0 0 0) (qr (AS v0.1) (bk hF fun u0 e0 hF => qC (AB u0) (K52 v0) (O4 e0) b1n (qr (AB (!u0)) (qr (AB (!u0)) ?_))))))))))
 refine p5 9 hF rfl (fun hF => qn4 (qt (qt (qn2 (qn4 (qt (d9 (B5 rfl (ws 1280 1344 (qb (d9 (j8 (f7 (eQ hF)))))))))))))) fun hF => ?_
 refine qg (.ptr 0 0 1) rfl rfl (qg (.val none (K55 v0)) rfl rfl (qg (AI (v0.2.length : Int)) rfl (j0 rfl) (qg (AB (decide ((v0.2.length : Int) ≠ (12 : Int)))) rfl rfl (qr (AB (decide ((v0.2.length : Int) ≠ (12 : Int)))) (qr (AB (decide ((v0.2.length : Int) ≠ (12 : Int)))) ?_)))))
 refine p5 15 hF rfl (fun hF => qn6 (qt (d9 (B5 rfl (ws 1280 1344 (qb (d9 (j8 (f7 (eQ hF)))))))))) fun hF => ?_
 refine qg (.ptr 0 0 1) rfl rfl (qg (.val none (K55 v0)) rfl rfl (bk hF fun u1 e1 hF => qg (.val none (.ptr [.int .i64 u1.1, .int .i64 u1.2])) rfl (j4 rfl rfl e1 rfl) (qg (.val none (j3 u1)) rfl rfl (qfg (.agg [AI 1, AI 1]) (K52 v0) rfl (by simp) (qg (AB (!(decide (u1.1 = (1 : Int)) && (decide (u1.2 = (1 : Int)) && true)))) rfl rfl (qr (AB (!(decide (u1.1 = (1 : Int)) && (decide (u1.2 = (1 : Int)) && true)))) (d9 (cF hF (fun hF => ws 1280 1344 (qb (d9 (j8 (f7 (eQ hF)))))) fun hF => ?_))))))))
 refine g9 (f5 (i8 (ws 1280 1536 (qr (.ptr 0 0 1) (qr (.val none (K55 v0)) (qp (AI (v0.2.length : Int)) (j0 rfl) (qr (AI 0) (d9 (j7 ?_)))))))))
 refine b8a (l' := [(1, .ptr 0 0 0), (24, .val none (K55 v0)), (25, AI (v0.2.length : Int)), (26, AI 0)]) (L := (K52 v0)) [1, 24, 25, 26] [(0, 0)] 1 (by first | rfl | simp) (by first | rfl | simp) (by decide) (by decide) (by decide) ?_
 refine y5 (F0 v0) (fun s : Int => mkS [(1, .ptr 0 0 0), (24, .val none (K55 v0)), (25, AI (v0.2.length : Int)), (26, AI s)] (fo (K52 v0)) 1) hF ?_
 rintro k1 x3 hF
 rw [F0] at hF
 try dsimp only
 refine ws 1 65 (qr (AB (decide (x3 < (v0.2.length : Int)))) (d9 (i8 ?_)))
 refine cF hF (fun hF => ?_) fun hF => ?_
 ·
  refine g9 (f5 (i8 (j7 (ws 65 449 (qr (AI x3) (bk hF fun u10 e10 hF => qp (.val none (.ptr [.int .i64 u10.1, .int .i64 u10.2])) (j4 rfl rfl e10 rfl) (qr (.val none (j3 u10)) (qf (.ptr 257 0 0) ((257, .box [AI 0, AI 0]) :: (K52 v0)) (by simp) (qr (AI x3) (qf0 (.undef) (K54 u10 v0) (by simp) (d9 (ws 449 2113 (qr (.agg [AI u10.1, AI u10.2]) (bk hF fun u11 e11 hF => qC (AB u11) (K54 u10 v0) (a6L e11) c4w ?_))))))))))))))
  refine qr (AB (!u11)) (qr (AB (!u11)) ?_)
  refine p5 34 hF rfl (fun hF => ?_) (fun hF => ?_)
  ·
   refine qn6 (qt (qt (qn3 (qu rfl (qu rfl (qu rfl (qu rfl (qu rfl ?_))))))))
   refine qu rfl (qu rfl (qu rfl (qu rfl (qn rfl (qt (d9 (B5 rfl (ws 2113 2177 (qb (d9 (j8 (g7 (f7 ?_)))))))))))))
   exact f7 (g7 (f7 (eQ hF)))
  refine qg (.ptr 257 0 0) rfl rfl (qg (AI u10.1) rfl rfl (qg (.ptr 257 0 1) rfl rfl (qg (AI u10.2) rfl rfl (qg (AI (w64 (2 * u10.2))) rfl rfl (qg (AB (decide (w64 (2 * u10.2) ≤ u10.1))) rfl rfl (qr (AB (decide (w64 (2 * u10.2) ≤ u10.1))) (qr (AB (decide (w64 (2 * u10.2) ≤ u10.1))) ?_)))))))
  refine p5 42 hF rfl (fun hF => ?_) (fun hF => ?_)
  ·
   refine qn3 (qu rfl (qu rfl (qu rfl (qu rfl (qu rfl (qu rfl (qu rfl (qu rfl (qu rfl (qn rfl (qt (d9 (B5 rfl ?_)))))))))))))
   exact ws 2113 2177 (qb (d9 (j8 (g7 (f7 (f7 (g7 (f7 (eQ hF)))))))))
  refine qg (AI x3) rfl rfl (qg (AB (decide ((0 : Int) < x3))) rfl rfl (qg (AB (decide ((0 : Int) < x3))) rfl rfl ?_))
  refine p5 45 hF rfl (fun hF => ?_) (fun hF => ?_)
  ·
   refine qg (.agg [AI u10.1, AI u10.2]) rfl rfl (qg (.ptr 0 0 1) rfl rfl (qg (.val none (K55 v0)) rfl rfl (qg (AI x3) rfl rfl (qg (AI (w64 (x3 - 1))) rfl rfl (bk hF fun u12 e12 hF => qg (.val none (.ptr [.int .i64 u12.1, .int .i64 u12.2])) rfl (j4 rfl rfl e12 rfl) (qg (.val none (j3 u12)) rfl rfl (bk hF fun u13 e13 hF => qG (AI u13) (K54 u10 v0) (a4B e13) c4G (qg (AB (decide (u13 ≤ (0 : Int)))) rfl rfl (qg (AB (decide (u13 ≤ (0 : Int)))) rfl rfl (qr (AB (decide (u13 ≤ (0 : Int)))) (d9 ?_)))))))))))
   refine cF hF (fun hF => ws 2113 2177 (qb (d9 (j8 (g7 (f7 (f7 (g7 (f7 (eQ hF)))))))))) fun hF => ?_
   refine g9 (p6 (f5 (y4 2113 2241 rfl rfl (qr (AI (w64 (x3 + 1))) (qr (AI (w64 (x3 + 1))) (d9 (f5 ?_)))))))
   refine ar (l' := [(1, .ptr 0 0 0), (24, .val none (K55 v0)), (25, AI (v0.2.length : Int)), (26, AI (w64 (x3 + 1)))]) (L := (K52 v0)) [1, 24, 25, 26] [(0, 0)] 1 ⟨_, by rfl, hF⟩
  refine qn8 (qn rfl (qg (AB false) rfl rfl (qb (d9 (H2 rfl (g9 (p6 (f5 (y4 2113 2241 rfl rfl (qr (AI (w64 (x3 + 1))) (qr (AI (w64 (x3 + 1))) ?_)))))))))))
  refine d9 (f5 ?_)
  refine ar (l' := [(1, .ptr 0 0 0), (24, .val none (K55 v0)), (25, AI (v0.2.length : Int)), (26, AI (w64 (x3 + 1)))]) (L := (K52 v0)) [1, 24, 25, 26] [(0, 0)] 1 ⟨_, by rfl, hF⟩
 exact z8 (j5 (j5 (s9 (f5 (ws 65 129 (qt (rR hF)))))))

def c9t : MC := (sr [pT 4 (.mv cf)] (sr [mvt 5 0, lT 6 1, lT 7 2, dT 8 135 [t5, t6, t7], pT 9 (.not t8), mvt 4 9] .ret))
theorem c4L : IsF Tryz.prog 169 c9t [(.tmp 4)] := ⟨by kernel_rfl, by kernel_rfl⟩

def a0a (v0 : Int) (v1 : Int) (v2 : Int) : Option (Bool) :=
 ((B3 v0 v1 v2).bind fun u0 => some (!u0))
@[simp] def a5W (r : Bool) : RV := .one (.one (.val (.bool r)))
theorem a5O {v0 : Int} {v1 : Int} {v2 : Int} {r : Bool} (hF : a0a v0 v1 v2 = some r) : Con Tryz.prog 169 [.int .i64 v0, .ptr [.int .i64 v1], .ptr [.int .i64 v2]] (a5W r) := by
 unfold a0a at hF
 refine p7 c4L.1 fun N => ?_
 exact ws 0 64 (qb (d9 (ws 64 448 (qr (AI v0) (qr (AI v1) (qr (AI v2) (bk hF fun u0 e0 hF => qC (AB u0) [] (B7 e0) a2D (qr (AB (!u0)) (qr (AB (!u0)) (rR hF))))))))))

def c8U : MC := (sr [pT 4 (.mv (ci 0))] (.seq (sr [mvt 6 0, zT 7 6, pT 8 (.mv (ci 0))] (.block 0 (.loop (sr [bT 9 .lss t8 t7] (.seq (cx t9 0) (.seq (.block 1 (sr [mvt 10 8, mvt 5 10] (sr [mvt 11 1, mvt 12 0, mvt 13 5, iT 14 12 13 1, lT 15 14, rg 16 (.callv t11 [t15])] (.cond t16 (sr [mvt 17 5, mvt 4 17] .ret) .skip)))) (.reg [bT 18 .add t8 (ci 1), mvt 8 18]))))))) (sr [pT 4 (.mv (ci (-1)))] .ret)))
theorem c5h : IsF Tryz.prog 178 c8U [(.tmp 4)] := ⟨by kernel_rfl, by kernel_rfl⟩

def C2 (v0 : List Int) (v1 : Int) (v2 : Int) (k0 : Int → Option (Int)) : Int → Option (Int)
 | x1 => (bif (decide (x1 < (v0.length : Int))) then ((ix v0 x1).bind fun u0 => ((a0a u0 v1 v2).bind fun u1 => (bif u1 then some x1
 else k0 (w64 (x1 + 1)))))
 else some (-1))
def F4 (v0 : List Int) (v1 : Int) (v2 : Int) : Option (Int) :=
 loop (C2 v0 v1 v2) 0
@[simp] abbrev K56 (v1 : Int) (v2 : Int) : Nat × AV := (1, .val none (.fn 169 [.ptr [.int .i64 v1], .ptr [.int .i64 v2]]))
@[simp] def a2a (r : Int) : RV := .one (.one (.val (.int .i64 r)))
theorem a2b {v0 : List Int} {v1 : Int} {v2 : Int} {r : Int} (hF : F4 v0 v1 v2 = some r) : Con Tryz.prog 178 [.sl 1 (v0.map vI), .fn 169 [.ptr [.int .i64 v1], .ptr [.int .i64 v2]]] (a2a r) := by
 unfold F4 at hF
 refine p7 c5h.1 fun N => ?_
 refine ws 0 64 (qr (AI 0) (d9 (i8 (ws 64 256 (qr (AL 1 (v0.map vI)) (qp (AI (v0.length : Int)) (j0 rfl) (qr (AI 0) (d9 (j7 ?_)))))))))
 refine wr (l' := [(0, AL 1 (v0.map vI)), (K56 v1 v2), (7, AI (v0.length : Int)), (8, AI 0)]) (L := []) [0, 1, 7, 8] [] 1 ?_
 refine y5 (C2 v0 v1 v2) (fun s : Int => mkS [(0, AL 1 (v0.map vI)), (K56 v1 v2), (7, AI (v0.length : Int)), (8, AI s)] (fo []) 1) hF ?_
 rintro k0 x1 hF
 rw [C2] at hF
 try dsimp only
 refine ws 1 65 (qr (AB (decide (x1 < (v0.length : Int)))) (d9 (i8 ?_)))
 refine cF hF (fun hF => ?_) fun hF => ?_
 ·
  refine g9 (f5 (i8 (j7 (ws 65 193 (qr (AI x1) (qr (AI x1) (d9 (ws 193 577 (qr (.val none (.fn 169 [.ptr [.int .i64 v1], .ptr [.int .i64 v2]])) (qr (AL 1 (v0.map vI)) (qr (AI x1) (bk hF fun u0 e0 hF => qp (.val none (.ptr [.int .i64 u0])) (j4 rfl rfl e0 rfl) (qr (AI u0) (bk hF fun u1 e1 hF => qcv (AB u1) [] false rfl (a5O e1) c4L.2 (by first | rfl | simp) rfl (d9 ?_)))))))))))))))
  refine cF hF (fun hF => ws 577 705 (qr (AI x1) (qr (AI x1) (d9 (j8 (g7 (f7 (f7 (g7 (f7 (eQ hF))))))))))) fun hF => ?_
  refine g9 (p6 (f5 (y4 577 705 rfl rfl (qr (AI (w64 (x1 + 1))) (qr (AI (w64 (x1 + 1))) (d9 (f5 ?_)))))))
  refine ar (l' := [(0, AL 1 (v0.map vI)), (K56 v1 v2), (7, AI (v0.length : Int)), (8, AI (w64 (x1 + 1)))]) (L := []) [0, 1, 7, 8] [] 1 ⟨_, by rfl, hF⟩
 exact z8 (j5 (j5 (s9 (f5 (ws 65 129 (qr (AI (-1)) (rR hF)))))))

def c9Z : MC := (sr [pT 4 (.mv cf)] (sr [mvt 5 0, mvt 6 1, dT 7 178 [t5, t6], bT 8 .geq t7 (ci 0), mvt 4 8] .ret))
theorem c5m : IsF Tryz.prog 168 c9Z [(.tmp 4)] := ⟨by kernel_rfl, by kernel_rfl⟩

def D9 (v0 : List Int) (v1 : Int) (v2 : Int) : Option (Bool) :=
 ((F4 v0 v1 v2).bind fun u0 => some (decide ((0 : Int) ≤ u0)))
@[simp] def a1r (r : Bool) : RV := .one (.one (.val (.bool r)))
theorem a1s {v0 : List Int} {v1 : Int} {v2 : Int} {r : Bool} (hF : D9 v0 v1 v2 = some r) : Con Tryz.prog 168 [.sl 1 (v0.map vI), .fn 169 [.ptr [.int .i64 v1], .ptr [.int .i64 v2]]] (a1r r) := by
 unfold D9 at hF
 refine p7 c5m.1 fun N => ?_
 exact ws 0 64 (qb (d9 (ws 64 384 (qr (AL 1 (v0.map vI)) (qr (.val none (.fn 169 [.ptr [.int .i64 v1], .ptr [.int .i64 v2]])) (bk hF fun u0 e0 hF => qC (AI u0) [] (a2b e0) c5h (qr (AB (decide ((0 : Int) ≤ u0))) (qr (AB (decide ((0 : Int) ≤ u0))) (rR hF)))))))))

def c9g : MC := (sr [rg 4 (.f (.box t1)), rg 5 (.f (.box t2)), pT 6 (.mv cf)] (sr [mvt 7 0, pT 8 (.mkf 169 [t4, t5]), dT 9 168 [t7, t8], pT 10 (.not t9), mvt 6 10] .ret))
theorem c4P : IsF Tryz.prog 154 c9g [(.tmp 6)] := ⟨by kernel_rfl, by kernel_rfl⟩

def Y2 (v0 : List Int) (v1 : Int) (v2 : Int) : Option (Bool) :=
 ((D9 v0 v1 v2).bind fun u0 => some (!u0))
@[simp] def a7D (r : Bool) : RV := .one (.one (.val (.bool r)))
theorem a8i {v0 : List Int} {v1 : Int} {v2 : Int} {r : Bool} (hF : Y2 v0 v1 v2 = some r) : Con Tryz.prog 154 [.sl 1 (v0.map vI), .int .i64 v1, .int .i64 v2] (a7D r) := by
 unfold Y2 at hF
 refine p7 c4P.1 fun N => ?_
 exact ws 0 192 (qf (.ptr 0 0 0) [(0, .box [AI v1])] (by simp) (qf (.ptr 64 0 0) [(64, .box [AI v2]), (0, .box [AI v1])] (by simp) (qb (d9 (ws 192 512 (qr (AL 1 (v0.map vI)) (qr (.fn 169 [.ptr 0 0 0, .ptr 64 0 0]) (bk hF fun u0 e0 hF => qc (AB u0) [(64, .box [AI v2]), (0, .box [AI v1])] true (a1s e0) c5m.2 (by simp [List.take_of_length_le]) rfl (qr (AB (!u0)) (qr (AB (!u0)) (rR hF)))))))))))

def c9K : MC := (sr [pT 2 (.mv cf)] (sr [mvt 3 0, zT 4 3, bT 5 .geq t4 (ci 2), mvt 6 5, nT 7 6 t0, kT 8 6 (.len t7), kT 9 6 (.bin .leq t8 (ci 8)), pT 10 (.pick t6 t9 cf), mvt 11 10, nT 12 11 t0, ⟨(some 13), (some (11, true)), (.call true 154 [t12, (ci (-12)), (ci 23)])⟩, pT 14 (.pick t11 t13 cf), mvt 2 14] .ret))
theorem c4V : IsF Tryz.prog 128 c9K [(.tmp 2)] := ⟨by kernel_rfl, by kernel_rfl⟩

def a0n (v0 : List Int) : Option (Bool) :=
 (bif (decide ((2 : Int) ≤ (v0.length : Int))) then (bif (decide ((v0.length : Int) ≤ (8 : Int))) then ((Y2 v0 (-12) 23).bind fun u0 => some u0)
 else some false)
 else some false)
@[simp] def a8R (r : Bool) : RV := .one (.one (.val (.bool r)))
theorem a8E {v0 : List Int} {r : Bool} (hF : a0n v0 = some r) : Con Tryz.prog 128 [.sl 1 (v0.map vI)] (a8R r) := by
 unfold a0n at hF
 refine p7 c4V.1 fun N => ?_
 refine ws 0 64 (qb (d9 (ws 64 896 (qr (AL 1 (v0.map vI)) (qp (AI (v0.length : Int)) (j0 rfl) (qr (AB (decide ((2 : Int) ≤ (v0.length : Int)))) (qr (AB (decide ((2 : Int) ≤ (v0.length : Int)))) ?_)))))))
 refine p5 6 hF rfl (fun hF => ?_) (fun hF => ?_)
 ·
  refine qg (AL 1 (v0.map vI)) rfl rfl (qg (AI (v0.length : Int)) rfl (j0 rfl) (qg (AB (decide ((v0.length : Int) ≤ (8 : Int)))) rfl rfl (qr (AB (decide ((v0.length : Int) ≤ (8 : Int)))) (qr (AB (decide ((v0.length : Int) ≤ (8 : Int)))) (p5 11 hF rfl (fun hF => qg (AL 1 (v0.map vI)) rfl rfl (bk hF fun u0 e0 hF => qG (AB u0) [] (a8i e0) c4P (qr (AB u0) (qr (AB u0) (rR hF))))) fun hF => ?_)))))
  exact qn2 (qb (qb (rR hF)))
 exact qn3 (qb (qb (qn2 (qb (qb (rR hF))))))

def c80 : MC := (sr [pT 2 (.mv cf)] (.seq (sr [mvt 5 0, zT 6 5, bT 7 .gtr t6 (ci 12)] (.cond t7 (sr [pT 2 (.mv cf)] .ret) .skip)) (.seq (sr [mvt 8 0, zT 9 8, pT 10 (.mv (ci 0))] (.block 0 (.loop (sr [bT 11 .lss t10 t9] (.seq (cx t11 0) (.seq (.block 1 (sr [mvt 12 10, iT 13 8 10 1, lT 14 13, mvt 3 12, mvt 4 14] (sr [mvt 15 4, dT 16 128 [t15], pT 17 (.not t16), mvt 18 17, nF 19 18 t3, kF 20 18 (.bin .gtr t19 (ci 0)), nF 21 18 t20, nT 22 21 t0, nT 23 21 t3, kT 24 21 (.bin .sub t23 (ci 1)), kT 25 21 (.iad t22 t24 1), kT 26 21 (.ld t25 1 false), nT 27 21 t4, ⟨(some 28), (some (21, true)), (.call true 123 [t26, t27])⟩, kT 29 21 (.bin .geq t28 (ci 0)), kF 30 18 (.pick t21 t29 cf), pT 31 (.pick t18 ct t30)] (.cond t31 (sr [pT 2 (.mv cf)] .ret) .skip)))) (.reg [bT 32 .add t10 (ci 1), mvt 10 32]))))))) (sr [pT 2 (.mv ct)] .ret))))
theorem c7Z : IsF Tryz.prog 80 c80 [(.tmp 2)] := ⟨by kernel_rfl, by kernel_rfl⟩

def E0 (v0 : List (List Int)) (k0 : Int → Option (Bool)) : Int → Option (Bool)
 | x1 => (bif (decide (x1 < (v0.length : Int))) then ((ix v0 x1).bind fun u0 => ((a0n u0).bind fun u1 => (bif (!u1) then some false
 else (bif (decide ((0 : Int) < x1)) then ((ix v0 (w64 (x1 - 1))).bind fun u2 => ((B2 u2 u0).bind fun u3 => (bif (decide ((0 : Int) ≤ u3)) then some false
 else k0 (w64 (x1 + 1)))))
 else k0 (w64 (x1 + 1))))))
 else some true)
def P7 (v0 : List (List Int)) : Option (Bool) :=
 (bif (decide ((12 : Int) < (v0.length : Int))) then some false
 else loop (E0 v0) 0)
@[simp] abbrev K57 (v0 : List (List Int)) : V := .sl 1 (v0.map (eL 1 vI))
@[simp] abbrev K58 (u0 : List Int) : AV := AL 1 (u0.map vI)
@[simp] def a5m (r : Bool) : RV := .one (.one (.val (.bool r)))
theorem a5q {v0 : List (List Int)} {r : Bool} (hF : P7 v0 = some r) : Con Tryz.prog 80 [.sl 1 (v0.map (eL 1 vI))] (a5m r) := by
 unfold P7 at hF
 refine p7 c7Z.1 fun N => ?_
 refine ws 0 64 (qb (d9 (i8 (ws 64 256 (qr (.val none (K57 v0)) (qp (AI (v0.length : Int)) (j0 rfl) (qr (AB (decide ((12 : Int) < (v0.length : Int)))) (d9 (cF hF (fun hF => ws 256 320 (qb (d9 (j8 (f7 (eQ hF)))))) fun hF => ?_)))))))))
 refine g9 (f5 (i8 (ws 256 448 (qr (.val none (K57 v0)) (qp (AI (v0.length : Int)) (j0 rfl) (qr (AI 0) (d9 (j7 ?_))))))))
 refine wr (l' := [(0, .val none (K57 v0)), (8, .val none (K57 v0)), (9, AI (v0.length : Int)), (10, AI 0)]) (L := []) [0, 8, 9, 10] [] 1 ?_
 refine y5 (E0 v0) (fun s : Int => mkS [(0, .val none (K57 v0)), (8, .val none (K57 v0)), (9, AI (v0.length : Int)), (10, AI s)] (fo []) 1) hF ?_
 rintro k0 x1 hF
 rw [E0] at hF
 try dsimp only
 refine ws 1 65 (qr (AB (decide (x1 < (v0.length : Int)))) (d9 (i8 ?_)))
 refine cF hF (fun hF => ?_) fun hF => ?_
 ·
  refine g9 (f5 (i8 (j7 (ws 65 385 (qr (AI x1) (bk hF fun u0 e0 hF => qp (.val none (.ptr [.sl 1 (u0.map vI)])) (j4 rfl rfl e0 rfl) (qr (K58 u0) (qr (AI x1) (qr (K58 u0) (d9 (ws 385 1473 (qr (K58 u0) (bk hF fun u1 e1 hF => qC (AB u1) [] (a8E e1) c4V (qr (AB (!u1)) (qr (AB (!u1)) ?_)))))))))))))))
  refine p5 18 hF rfl (fun hF => ?_) (fun hF => ?_)
  ·
   refine qn3 (qu rfl (qu rfl (qu rfl (qu rfl (qu rfl (qu rfl (qu rfl (qu rfl (qn rfl (qt (d9 (B5 rfl (ws 1473 1537 ?_)))))))))))))
   exact qb (d9 (j8 (g7 (f7 (f7 (g7 (f7 (eQ hF))))))))
  refine qg (AI x1) rfl rfl (qg (AB (decide ((0 : Int) < x1))) rfl rfl (qg (AB (decide ((0 : Int) < x1))) rfl rfl ?_))
  refine p5 21 hF rfl (fun hF => ?_) (fun hF => ?_)
  ·
   refine qg (.val none (K57 v0)) rfl rfl (qg (AI x1) rfl rfl (qg (AI (w64 (x1 - 1))) rfl rfl (bk hF fun u2 e2 hF => qg (.val none (.ptr [.sl 1 (u2.map vI)])) rfl (j4 rfl rfl e2 rfl) (qg (AL 1 (u2.map vI)) rfl rfl (qg (K58 u0) rfl rfl (bk hF fun u3 e3 hF => qG (AI u3) [] (X1 e3) c2x (qg (AB (decide ((0 : Int) ≤ u3))) rfl rfl (qg (AB (decide ((0 : Int) ≤ u3))) rfl rfl (qr (AB (decide ((0 : Int) ≤ u3))) (d9 ?_))))))))))
   refine cF hF (fun hF => ws 1473 1537 (qb (d9 (j8 (g7 (f7 (f7 (g7 (f7 (eQ hF)))))))))) fun hF => ?_
   refine g9 (p6 (f5 (y4 1473 1601 rfl rfl (qr (AI (w64 (x1 + 1))) (qr (AI (w64 (x1 + 1))) (d9 (f5 ?_)))))))
   refine ar (l' := [(0, .val none (K57 v0)), (8, .val none (K57 v0)), (9, AI (v0.length : Int)), (10, AI (w64 (x1 + 1)))]) (L := []) [0, 8, 9, 10] [] 1 ⟨_, by rfl, hF⟩
  refine qn8 (qg (AB false) rfl rfl (qb (d9 (H2 rfl (g9 (p6 (f5 (y4 1473 1601 rfl rfl (qr (AI (w64 (x1 + 1))) (qr (AI (w64 (x1 + 1))) (d9 ?_)))))))))))
  refine f5 ?_
  refine ar (l' := [(0, .val none (K57 v0)), (8, .val none (K57 v0)), (9, AI (v0.length : Int)), (10, AI (w64 (x1 + 1)))]) (L := []) [0, 8, 9, 10] [] 1 ⟨_, by rfl, hF⟩
 exact z8 (j5 (j5 (s9 (f5 (ws 65 129 (qt (rR hF)))))))

def c9V : MC := (sr [rg 1 (.f (.box t0)), pT 2 (.mv cf)] (sr [pT 3 (.fad t1 0), lT 4 3, dT 5 119 [t4], mvt 6 5, kT 7 6 (.fad t1 0), kT 8 6 (.ld t7 1 false), kT 9 6 (.lens t8), kT 10 6 (.bin .leq t9 (ci 6)), pT 11 (.pick t6 t10 cf), mvt 12 11, kT 13 12 (.fad t1 1), kT 14 12 (.ld t13 1 false), ⟨(some 15), (some (12, true)), (.call true 135 [t14, (ci 1), (ci 3)])⟩, pT 16 (.pick t12 t15 cf), mvt 17 16, kT 18 17 (.fad t1 2), kT 19 17 (.ld t18 1 false), ⟨(some 20), (some (17, true)), (.call true 135 [t19, (ci 1), (ci 8)])⟩, pT 21 (.pick t17 t20 cf), mvt 2 21] .ret))
theorem c4B : IsF Tryz.prog 129 c9V [(.tmp 2)] := ⟨by kernel_rfl, by kernel_rfl⟩

def N1 (v0 : m9) : Option (Bool) :=
 ((H1 v0.1).bind fun u0 => (bif u0 then (bif (decide ((v0.1.length : Int) ≤ (6 : Int))) then ((B3 v0.2.1 1 3).bind fun u1 => (bif u1 then ((B3 v0.2.2 1 8).bind fun u2 => some u2)
 else some false))
 else some false)
 else some false))
@[simp] abbrev K59 (v0 : m9) : List (Nat × Root) := [(0, .box [AS v0.1, AI v0.2.1, AI v0.2.2])]
@[simp] def a4R (r : Bool) : RV := .one (.one (.val (.bool r)))
theorem a4S {v0 : m9} {r : Bool} (hF : N1 v0 = some r) : Con Tryz.prog 129 [p3 v0] (a4R r) := by
 unfold N1 at hF
 refine p7 c4B.1 fun N => ?_
 refine ws 0 128 (qf (.ptr 0 0 0) (K59 v0) (by simp) (qb (d9 (ws 128 1408 (qr (.ptr 0 0 0) (qr (AS v0.1) (bk hF fun u0 e0 hF => qC (AB u0) (K59 v0) (O4 e0) b1n (qr (AB u0) ?_))))))))
 refine p5 6 hF rfl (fun hF => ?_) (fun hF => ?_)
 ·
  refine qg (.ptr 0 0 0) rfl rfl (qg (AS v0.1) rfl rfl (qg (AI (v0.1.length : Int)) rfl rfl (qg (AB (decide ((v0.1.length : Int) ≤ (6 : Int)))) rfl rfl (qr (AB (decide ((v0.1.length : Int) ≤ (6 : Int)))) (qr (AB (decide ((v0.1.length : Int) ≤ (6 : Int)))) ?_)))))
  refine p5 12 hF rfl (fun hF => ?_) (fun hF => ?_)
  ·
   refine qg (.ptr 0 0 1) rfl rfl (qg (AI v0.2.1) rfl rfl (bk hF fun u1 e1 hF => qG (AB u1) (K59 v0) (B7 e1) a2D (qr (AB u1) (qr (AB u1) (p5 17 hF rfl (fun hF => qg (.ptr 0 0 2) rfl rfl (qg (AI v0.2.2) rfl rfl (bk hF fun u2 e2 hF => qG (AB u2) (K59 v0) (B7 e2) a2D (qr (AB u2) (qr (AB u2) (rR hF)))))) fun hF => ?_)))))
   exact qn3 (qb (qb (rR hF)))
  exact qn3 (qb (qb (qn3 (qb (qb (rR hF))))))
 exact qn4 (qb (qb (qn2 (qn rfl (qb (qb (qn rfl (qn rfl (qn rfl (qb (qb (rR hF))))))))))))

def c81 : MC := (sr [pT 2 (.mv cf)] (.seq (sr [mvt 5 0, zT 6 5, bT 7 .gtr t6 (ci 16)] (.cond t7 (sr [pT 2 (.mv cf)] .ret) .skip)) (.seq (sr [mvt 8 0, zT 9 8, pT 10 (.mv (ci 0))] (.block 0 (.loop (sr [bT 11 .lss t10 t9] (.seq (cx t11 0) (.seq (.block 1 (sr [mvt 12 10, iT 13 8 10 3, pT 14 (.ld t13 3 true), rg 4 (.f (.alloc [((.str []), (0, false)), ((.int .i64 0), (0, false)), ((.int .i64 0), (0, false))])), mvt 3 12, ⟨none, none, (.f (.st t4 t14 3))⟩] (sr [pF 15 (.ld t4 3 true), dF 16 129 [t15], pF 17 (.not t16), mP 18 t17, mF 19 18 t3, bH 20 18 .gtr t19 (ci 0), mF 21 18 t20, gT 22 21 (.fad t4 0), lG 23 21 22, mT 24 21 t0, mT 25 21 t3, bG 26 21 .sub t25 (ci 1), iG 27 21 24 26 3, gT 28 21 (.fad t27 0), lG 29 21 28, bG 30 21 .leq t23 t29, gF 31 18 (.pick t21 t30 cf), pF 32 (.pick t18 ct t31)] (.cond t32 (sr [pT 2 (.mv cf)] .ret) .skip)))) (.reg [bT 33 .add t10 (ci 1), mvt 10 33]))))))) (sr [pT 2 (.mv ct)] .ret))))
theorem c7c : IsF Tryz.prog 81 c81 [(.tmp 2)] := ⟨by kernel_rfl, by kernel_rfl⟩

def D5 (v0 : List m9) (k0 : Int → Option (Bool)) : Int → Option (Bool)
 | x1 => (bif (decide (x1 < (v0.length : Int))) then ((ix v0 x1).bind fun u0 => ((N1 u0).bind fun u1 => (bif (!u1) then some false
 else (bif (decide ((0 : Int) < x1)) then ((ix v0 (w64 (x1 - 1))).bind fun u2 => (bif (Op.bytesLess u0.1 u2.1 || decide (u0.1 = u2.1)) then some false
 else k0 (w64 (x1 + 1))))
 else k0 (w64 (x1 + 1))))))
 else some true)
def L8 (v0 : List m9) : Option (Bool) :=
 (bif (decide ((16 : Int) < (v0.length : Int))) then some false
 else loop (D5 v0) 0)
@[simp] abbrev K5a (u0 : m9) : List (Nat × Root) := [(257, .box [AS u0.1, AI u0.2.1, AI u0.2.2]), (257, .box [AS [], AI 0, AI 0])]
@[simp] abbrev K5b (v0 : List m9) : V := .sl 3 (v0.map p3)
@[simp] def a4p (r : Bool) : RV := .one (.one (.val (.bool r)))
theorem a4h {v0 : List m9} {r : Bool} (hF : L8 v0 = some r) : Con Tryz.prog 81 [.sl 3 (v0.map p3)] (a4p r) := by
 unfold L8 at hF
 refine p7 c7c.1 fun N => ?_
 refine ws 0 64 (qb (d9 (i8 (ws 64 256 (qr (.val none (K5b v0)) (qp (AI (v0.length : Int)) (j0 rfl) (qr (AB (decide ((16 : Int) < (v0.length : Int)))) (d9 (cF hF (fun hF => ws 256 320 (qb (d9 (j8 (f7 (eQ hF)))))) fun hF => ?_)))))))))
 refine g9 (f5 (i8 (ws 256 448 (qr (.val none (K5b v0)) (qp (AI (v0.length : Int)) (j0 rfl) (qr (AI 0) (d9 (j7 ?_))))))))
 refine wr (l' := [(0, .val none (K5b v0)), (8, .val none (K5b v0)), (9, AI (v0.length : Int)), (10, AI 0)]) (L := []) [0, 8, 9, 10] [] 1 ?_
 refine y5 (D5 v0) (fun s : Int => mkS [(0, .val none (K5b v0)), (8, .val none (K5b v0)), (9, AI (v0.length : Int)), (10, AI s)] (fo []) 1) hF ?_
 rintro k0 x1 hF
 rw [D5] at hF
 try dsimp only
 refine ws 1 65 (qr (AB (decide (x1 < (v0.length : Int)))) (d9 (i8 ?_)))
 refine cF hF (fun hF => ?_) fun hF => ?_
 ·
  refine g9 (f5 (i8 (j7 (ws 65 449 (qr (AI x1) (bk hF fun u0 e0 hF => qp (.val none (.ptr [.str u0.1, .int .i64 u0.2.1, .int .i64 u0.2.2])) (j4 rfl rfl e0 rfl) (qr (.val none (p3 u0)) (qf (.ptr 257 0 0) [(257, .box [AS [], AI 0, AI 0])] (by simp) (qr (AI x1) (qf0 (.undef) (K5a u0) (by simp) (d9 (ws 449 1601 (qr (.agg [AS u0.1, AI u0.2.1, AI u0.2.2]) (bk hF fun u1 e1 hF => qC (AB u1) (K5a u0) (a4S e1) c4B ?_))))))))))))))
  refine qr (AB (!u1)) (qr (AB (!u1)) ?_)
  refine p5 18 hF rfl (fun hF => ?_) (fun hF => ?_)
  ·
   refine qn3 (qu rfl (qu rfl (qu rfl (qu rfl (qu rfl (qu rfl (qu rfl (qu rfl (qu rfl (qn rfl (qt (d9 (B5 rfl ?_)))))))))))))
   exact ws 1601 1665 (qb (d9 (j8 (g7 (f7 (f7 (g7 (f7 (eQ hF)))))))))
  refine qg (AI x1) rfl rfl (qg (AB (decide ((0 : Int) < x1))) rfl rfl (qg (AB (decide ((0 : Int) < x1))) rfl rfl ?_))
  refine p5 21 hF rfl (fun hF => ?_) (fun hF => ?_)
  ·
   refine qg (.ptr 257 0 0) rfl rfl (qg (AS u0.1) rfl rfl (qg (.val none (K5b v0)) rfl rfl (qg (AI x1) rfl rfl (qg (AI (w64 (x1 - 1))) rfl rfl (bk hF fun u2 e2 hF => qg (.val none (.ptr [.str u2.1, .int .i64 u2.2.1, .int .i64 u2.2.2])) rfl (j4 rfl rfl e2 rfl) (qg (.val none (.ptr [.str u2.1, .int .i64 u2.2.1, .int .i64 u2.2.2])) rfl rfl (qg (AS u2.1) rfl rfl (qg (AB (Op.bytesLess u0.1 u2.1 || decide (u0.1 = u2.1))) rfl rfl (qg (AB (Op.bytesLess u0.1 u2.1 || decide (u0.1 = u2.1))) rfl rfl (qr (AB (Op.bytesLess u0.1 u2.1 || decide (u0.1 = u2.1))) (d9 ?_)))))))))))
   refine cF hF (fun hF => ws 1601 1665 (qb (d9 (j8 (g7 (f7 (f7 (g7 (f7 (eQ hF)))))))))) fun hF => ?_
   refine g9 (p6 (f5 (y4 1601 1729 rfl rfl (qr (AI (w64 (x1 + 1))) (qr (AI (w64 (x1 + 1))) (d9 (f5 ?_)))))))
   refine ar (l' := [(0, .val none (K5b v0)), (8, .val none (K5b v0)), (9, AI (v0.length : Int)), (10, AI (w64 (x1 + 1)))]) (L := []) [0, 8, 9, 10] [] 1 ⟨_, by rfl, hF⟩
  refine qn8 (qn rfl (qg (AB false) rfl rfl (qb (d9 (H2 rfl (g9 (p6 (f5 (y4 1601 1729 rfl rfl (qr (AI (w64 (x1 + 1))) (qr (AI (w64 (x1 + 1))) ?_)))))))))))
  refine d9 (f5 ?_)
  refine ar (l' := [(0, .val none (K5b v0)), (8, .val none (K5b v0)), (9, AI (v0.length : Int)), (10, AI (w64 (x1 + 1)))]) (L := []) [0, 8, 9, 10] [] 1 ⟨_, by rfl, hF⟩
 exact z8 (j5 (j5 (s9 (f5 (ws 65 129 (qt (rR hF)))))))

def c9C : MC := (sr [pT 2 (.mv cf)] (sr [mvt 3 0, dT 4 135 [t3, (ci 10), (ci 600)], mvt 2 4] .ret))
theorem c5d : IsF Tryz.prog 130 c9C [(.tmp 2)] := ⟨by kernel_rfl, by kernel_rfl⟩

def a0U (v0 : Int) : Option (Bool) :=
 ((B3 v0 10 600).bind fun u0 => some u0)
@[simp] def b0O (r : Bool) : RV := .one (.one (.val (.bool r)))
theorem b0R {v0 : Int} {r : Bool} (hF : a0U v0 = some r) : Con Tryz.prog 130 [.int .i64 v0] (b0O r) := by
 unfold a0U at hF
 refine p7 c5d.1 fun N => ?_
 exact ws 0 64 (qb (d9 (ws 64 256 (qr (AI v0) (bk hF fun u0 e0 hF => qC (AB u0) [] (B7 e0) a2D (qr (AB u0) (rR hF)))))))

def c82 : MC := (sr [pT 2 (.mv cf)] (.seq (sr [mvt 5 0, zT 6 5, bT 7 .lss t6 (ci 1), mvt 8 7, nF 9 8 t0, kF 10 8 (.len t9), kF 11 8 (.bin .gtr t10 (ci 16)), pT 12 (.pick t8 ct t11), mvt 13 12, nF 14 13 t0, kF 15 13 (.iad t14 (ci 0) 2), kF 16 13 (.fad t15 0), kF 17 13 (.ld t16 1 false), kF 18 13 (.bin .neq t17 (ci 0)), pT 19 (.pick t13 ct t18)] (.cond t19 (sr [pT 2 (.mv cf)] .ret) .skip)) (.seq (sr [mvt 20 0, zT 21 20, pT 22 (.mv (ci 0))] (.block 0 (.loop (sr [bT 23 .lss t22 t21] (.seq (cx t23 0) (.seq (.block 1 (sr [mvt 24 22, iT 25 20 22 2, pT 26 (.ld t25 2 true), rg 4 (.f (.alloc [((.int .i64 0), (0, false)), ((.int .i64 0), (0, false))])), mvt 3 24, ⟨none, none, (.f (.st t4 t26 2))⟩] (sr [pF 27 (.fad t4 1), lF 28 27, dF 29 130 [t28], pF 30 (.not t29), mP 31 t30, gF 32 31 (.fad t4 0), lH 33 31 32, bH 34 31 .gtr t33 (ci 2000), pF 35 (.pick t31 ct t34), mP 36 t35, mF 37 36 t3, bH 38 36 .gtr t37 (ci 0), mF 39 36 t38, gT 40 39 (.fad t4 0), lG 41 39 40, mT 42 39 t0, mT 43 39 t3, bG 44 39 .sub t43 (ci 1), iG 45 39 42 44 2, gT 46 39 (.fad t45 0), lG 47 39 46, bG 48 39 .leq t41 t47, gF 49 36 (.pick t39 t48 cf), pF 50 (.pick t36 ct t49)] (.cond t50 (sr [pT 2 (.mv cf)] .ret) .skip)))) (.reg [bT 51 .add t22 (ci 1), mvt 22 51]))))))) (sr [pT 2 (.mv ct)] .ret))))
theorem c7I : IsF Tryz.prog 82 c82 [(.tmp 2)] := ⟨by kernel_rfl, by kernel_rfl⟩

def F7 (v0 : List j6) (k1 : Int → Option (Bool)) : Int → Option (Bool)
 | x3 => (bif (decide (x3 < (v0.length : Int))) then ((ix v0 x3).bind fun u7 => ((a0U u7.2).bind fun u8 => (bif (!u8) then some false
 else (bif (decide ((2000 : Int) < u7.1)) then some false
 else (bif (decide ((0 : Int) < x3)) then ((ix v0 (w64 (x3 - 1))).bind fun u9 => (bif (decide (u7.1 ≤ u9.1)) then some false
 else k1 (w64 (x3 + 1))))
 else k1 (w64 (x3 + 1)))))))
 else some true)
def V5 (v0 : List j6) : Option (Bool) :=
 (bif (decide ((v0.length : Int) < (1 : Int))) then some false
 else (bif (decide ((16 : Int) < (v0.length : Int))) then some false
 else ((ix v0 0).bind fun u0 => (bif (decide (u0.1 ≠ (0 : Int))) then some false
 else loop (F7 v0) 0))))
@[simp] abbrev K5c (u7 : j6) : List (Nat × Root) := [(257, .box [AI u7.1, AI u7.2]), (257, .box [AI 0, AI 0])]
@[simp] abbrev K5d (v0 : List j6) : V := .sl 2 (v0.map j3)
@[simp] def a6Y (r : Bool) : RV := .one (.one (.val (.bool r)))
theorem a6T {v0 : List j6} {r : Bool} (hF : V5 v0 = some r) : Con Tryz.prog 82 [.sl 2 (v0.map j3)] (a6Y r) := by
 unfold V5 at hF
 refine p7 c7I.1 fun N => ?_
 refine ws 0 64 (qb (d9 (i8 (ws 64 1024 (qr (.val none (K5d v0)) (qp (AI (v0.length : Int)) (j0 rfl) (qr (AB (decide ((v0.length : Int) < (1 : Int)))) (qr (AB (decide ((v0.length : Int) < (1 : Int)))) ?_))))))))
 refine p5 8 hF rfl (fun hF => qn3 (qt (qt (qn3 (qn2 (qt (d9 (B5 rfl (ws 1024 1088 (qb (d9 (j8 (f7 (eQ hF)))))))))))))) fun hF => ?_
 refine qg (.val none (K5d v0)) rfl rfl (qg (AI (v0.length : Int)) rfl (j0 rfl) (qg (AB (decide ((16 : Int) < (v0.length : Int)))) rfl rfl (qr (AB (decide ((16 : Int) < (v0.length : Int)))) (qr (AB (decide ((16 : Int) < (v0.length : Int)))) (p5 13 hF rfl (fun hF => qn5 (qt (d9 (B5 rfl (ws 1024 1088 (qb (d9 (j8 (f7 (eQ hF)))))))))) fun hF => ?_)))))
 refine qg (.val none (K5d v0)) rfl rfl (bk hF fun u0 e0 hF => qg (.val none (.ptr [.int .i64 u0.1, .int .i64 u0.2])) rfl (j4 rfl rfl e0 rfl) (qg (.val none (.ptr [.int .i64 u0.1, .int .i64 u0.2])) rfl rfl (qg (AI u0.1) rfl rfl (qg (AB (decide (u0.1 ≠ (0 : Int)))) rfl rfl (qr (AB (decide (u0.1 ≠ (0 : Int)))) (d9 (cF hF (fun hF => ws 1024 1088 (qb (d9 (j8 (f7 (eQ hF)))))) fun hF => ?_)))))))
 refine g9 (f5 (i8 (ws 1024 1216 (qr (.val none (K5d v0)) (qp (AI (v0.length : Int)) (j0 rfl) (qr (AI 0) (d9 (j7 ?_))))))))
 refine wr (l' := [(0, .val none (K5d v0)), (20, .val none (K5d v0)), (21, AI (v0.length : Int)), (22, AI 0)]) (L := []) [0, 20, 21, 22] [] 1 ?_
 refine y5 (F7 v0) (fun s : Int => mkS [(0, .val none (K5d v0)), (20, .val none (K5d v0)), (21, AI (v0.length : Int)), (22, AI s)] (fo []) 1) hF ?_
 rintro k1 x3 hF
 rw [F7] at hF
 try dsimp only
 refine ws 1 65 (qr (AB (decide (x3 < (v0.length : Int)))) (d9 (i8 ?_)))
 refine cF hF (fun hF => ?_) fun hF => ?_
 ·
  refine g9 (f5 (i8 (j7 (ws 65 449 (qr (AI x3) (bk hF fun u7 e7 hF => qp (.val none (.ptr [.int .i64 u7.1, .int .i64 u7.2])) (j4 rfl rfl e7 rfl) (qr (.val none (j3 u7)) (qf (.ptr 257 0 0) [(257, .box [AI 0, AI 0])] (by simp) (qr (AI x3) (qf0 (.undef) (K5c u7) (by simp) (d9 (ws 449 1985 (qr (.ptr 257 0 1) (qr (AI u7.2) (bk hF fun u8 e8 hF => ?_)))))))))))))))
  refine qC (AB u8) (K5c u7) (b0R e8) c5d (qr (AB (!u8)) (qr (AB (!u8)) ?_))
  refine p5 31 hF rfl (fun hF => ?_) (fun hF => ?_)
  ·
   refine qn3 (qt (qt (qn3 (qu rfl (qu rfl (qu rfl (qu rfl (qu rfl (qu rfl (qu rfl (qu rfl ?_)))))))))))
   exact qu rfl (qn rfl (qt (d9 (B5 rfl (ws 1985 2049 (qb (d9 (j8 (g7 (f7 (f7 (g7 (f7 (eQ hF))))))))))))))
  refine qg (.ptr 257 0 0) rfl rfl (qg (AI u7.1) rfl rfl (qg (AB (decide ((2000 : Int) < u7.1))) rfl rfl (qr (AB (decide ((2000 : Int) < u7.1))) (qr (AB (decide ((2000 : Int) < u7.1))) ?_))))
  refine p5 36 hF rfl (fun hF => ?_) (fun hF => ?_)
  ·
   refine qn3 (qu rfl (qu rfl (qu rfl (qu rfl (qu rfl (qu rfl (qu rfl (qu rfl (qu rfl (qn rfl (qt (d9 (B5 rfl ?_)))))))))))))
   exact ws 1985 2049 (qb (d9 (j8 (g7 (f7 (f7 (g7 (f7 (eQ hF)))))))))
  refine qg (AI x3) rfl rfl (qg (AB (decide ((0 : Int) < x3))) rfl rfl (qg (AB (decide ((0 : Int) < x3))) rfl rfl ?_))
  refine p5 39 hF rfl (fun hF => ?_) (fun hF => ?_)
  ·
   refine qg (.ptr 257 0 0) rfl rfl (qg (AI u7.1) rfl rfl (qg (.val none (K5d v0)) rfl rfl (qg (AI x3) rfl rfl (qg (AI (w64 (x3 - 1))) rfl rfl (bk hF fun u9 e9 hF => qg (.val none (.ptr [.int .i64 u9.1, .int .i64 u9.2])) rfl (j4 rfl rfl e9 rfl) (qg (.val none (.ptr [.int .i64 u9.1, .int .i64 u9.2])) rfl rfl (qg (AI u9.1) rfl rfl (qg (AB (decide (u7.1 ≤ u9.1))) rfl rfl (qg (AB (decide (u7.1 ≤ u9.1))) rfl rfl (qr (AB (decide (u7.1 ≤ u9.1))) (d9 ?_)))))))))))
   refine cF hF (fun hF => ws 1985 2049 (qb (d9 (j8 (g7 (f7 (f7 (g7 (f7 (eQ hF)))))))))) fun hF => ?_
   refine g9 (p6 (f5 (y4 1985 2113 rfl rfl (qr (AI (w64 (x3 + 1))) (qr (AI (w64 (x3 + 1))) (d9 (f5 ?_)))))))
   refine ar (l' := [(0, .val none (K5d v0)), (20, .val none (K5d v0)), (21, AI (v0.length : Int)), (22, AI (w64 (x3 + 1)))]) (L := []) [0, 20, 21, 22] [] 1 ⟨_, by rfl, hF⟩
  refine qn8 (qn rfl (qg (AB false) rfl rfl (qb (d9 (H2 rfl (g9 (p6 (f5 (y4 1985 2113 rfl rfl (qr (AI (w64 (x3 + 1))) (qr (AI (w64 (x3 + 1))) ?_)))))))))))
  refine d9 (f5 ?_)
  refine ar (l' := [(0, .val none (K5d v0)), (20, .val none (K5d v0)), (21, AI (v0.length : Int)), (22, AI (w64 (x3 + 1)))]) (L := []) [0, 20, 21, 22] [] 1 ⟨_, by rfl, hF⟩
 exact z8 (j5 (j5 (s9 (f5 (ws 65 129 (qt (rR hF)))))))

def c9A : MC := (sr [pT 2 (.mv cf)] (sr [mvt 3 0, dT 4 135 [t3, (ci 0), (ci 1439)], mvt 2 4] .ret))
theorem c2r : IsF Tryz.prog 155 c9A [(.tmp 2)] := ⟨by kernel_rfl, by kernel_rfl⟩

def a0w (v0 : Int) : Option (Bool) :=
 ((B3 v0 0 1439).bind fun u0 => some u0)
@[simp] def a8M (r : Bool) : RV := .one (.one (.val (.bool r)))
theorem a3L {v0 : Int} {r : Bool} (hF : a0w v0 = some r) : Con Tryz.prog 155 [.int .i64 v0] (a8M r) := by
 unfold a0w at hF
 refine p7 c2r.1 fun N => ?_
 exact ws 0 64 (qb (d9 (ws 64 256 (qr (AI v0) (bk hF fun u0 e0 hF => qC (AB u0) [] (B7 e0) a2D (qr (AB u0) (rR hF)))))))

end Go.Ab
