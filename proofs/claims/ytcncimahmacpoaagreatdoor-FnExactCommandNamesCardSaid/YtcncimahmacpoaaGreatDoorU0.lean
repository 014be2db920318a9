/- Walks (printed by auto.py, a program of this session's own). -/
import Derived.Test.YtcncimahmacpoaaGreatDoorS0
import Derived.Test.YtcncimahmacpoaaGreatDoorProg
import Derived.KernelRfl
import Derived.Test.YtcncimahmacpoaaGreatDoorSQ
set_option linter.unusedVariables false
set_option linter.unusedSimpArgs false
set_option maxRecDepth 8000
set_option maxHeartbeats 8000000
noncomputable section
namespace Go.Ab
open Go.RowKit Go.Proofs

def c4 : MC := (sr [rg 0 (.f (.nilrow 1))] (sr [rg 1 (.f (.bsl 1 [(.c (.str [98, 101, 97, 116])), (.c (.str [99, 101, 110, 116, 115])), (.c (.str [99, 104, 101, 99, 107])), (.c (.str [99, 111, 109, 112, 111, 115, 101])), (.c (.str [99, 111, 118, 101, 114, 101, 100])), (.c (.str [104, 101, 108, 112])), (.c (.str [105, 116, 101, 109])), (.c (.str [108, 101, 115, 115, 111, 110])), (.c (.str [108, 105, 110, 101])), (.c (.str [109, 101, 108, 111, 100, 121])), (.c (.str [109, 111, 118, 101])), (.c (.str [110, 101, 120, 116])), (.c (.str [112, 101, 114, 109, 117, 116, 97, 116, 105, 111, 110, 115])), (.c (.str [112, 101, 114, 115, 111, 110])), (.c (.str [112, 104, 114, 97, 115, 101, 115])), (.c (.str [112, 114, 111, 103, 114, 97, 109, 109, 101])), (.c (.str [114, 97, 103, 97])), (.c (.str [114, 97, 110, 107])), (.c (.str [115, 99, 114, 105, 112, 116])), (.c (.str [115, 104, 111, 119])), (.c (.str [115, 116, 114, 111, 107, 101, 115])), (.c (.str [116, 101, 109, 112, 111])), (.c (.str [116, 117, 110, 105, 110, 103]))])), mvt 0 1] .ret))
theorem c4_ : IsF Tryz.prog 4 c4 [(.tmp 0)] := ⟨by kernel_rfl, by kernel_rfl⟩

def F_spec_CommandNames : Option (List (List UInt8)) :=
 some ([[98, 101, 97, 116], [99, 101, 110, 116, 115], [99, 104, 101, 99, 107], [99, 111, 109, 112, 111, 115, 101], [99, 111, 118, 101, 114, 101, 100], [104, 101, 108, 112], [105, 116, 101, 109], [108, 101, 115, 115, 111, 110], [108, 105, 110, 101], [109, 101, 108, 111, 100, 121], [109, 111, 118, 101], [110, 101, 120, 116], [112, 101, 114, 109, 117, 116, 97, 116, 105, 111, 110, 115], [112, 101, 114, 115, 111, 110], [112, 104, 114, 97, 115, 101, 115], [112, 114, 111, 103, 114, 97, 109, 109, 101], [114, 97, 103, 97], [114, 97, 110, 107], [115, 99, 114, 105, 112, 116], [115, 104, 111, 119], [115, 116, 114, 111, 107, 101, 115], [116, 101, 109, 112, 111], [116, 117, 110, 105, 110, 103]] : List (List UInt8))
@[simp] abbrev K1 : List (Nat × Root) := [(0, .row true 1 (([] : List Int).map vI))]
@[simp] abbrev K2 : AV := .sl 64 0 (([[98, 101, 97, 116], [99, 101, 110, 116, 115], [99, 104, 101, 99, 107], [99, 111, 109, 112, 111, 115, 101], [99, 111, 118, 101, 114, 101, 100], [104, 101, 108, 112], [105, 116, 101, 109], [108, 101, 115, 115, 111, 110], [108, 105, 110, 101], [109, 101, 108, 111, 100, 121], [109, 111, 118, 101], [110, 101, 120, 116], [112, 101, 114, 109, 117, 116, 97, 116, 105, 111, 110, 115], [112, 101, 114, 115, 111, 110], [112, 104, 114, 97, 115, 101, 115], [112, 114, 111, 103, 114, 97, 109, 109, 101], [114, 97, 103, 97], [114, 97, 110, 107], [115, 99, 114, 105, 112, 116], [115, 104, 111, 119], [115, 116, 114, 111, 107, 101, 115], [116, 101, 109, 112, 111], [116, 117, 110, 105, 110, 103]] : List (List UInt8)).length)
@[simp] def res_spec_CommandNames (r : List (List UInt8)) : RV := .one (.one (.row true 1 (r.map V.str)))
theorem con_spec_CommandNames {r : List (List UInt8)} (hF : F_spec_CommandNames = some r) : Con Tryz.prog 4 [] (res_spec_CommandNames r) := by
 unfold F_spec_CommandNames at hF
 refine con_of c4_.1 fun N => ?_
 exact ws 0 64 (qf (.sl 0 0 0) K1 (by simp) (r_nil (ws 64 192 (qf K2 ((64, .row true 1 (([[98, 101, 97, 116], [99, 101, 110, 116, 115], [99, 104, 101, 99, 107], [99, 111, 109, 112, 111, 115, 101], [99, 111, 118, 101, 114, 101, 100], [104, 101, 108, 112], [105, 116, 101, 109], [108, 101, 115, 115, 111, 110], [108, 105, 110, 101], [109, 101, 108, 111, 100, 121], [109, 111, 118, 101], [110, 101, 120, 116], [112, 101, 114, 109, 117, 116, 97, 116, 105, 111, 110, 115], [112, 101, 114, 115, 111, 110], [112, 104, 114, 97, 115, 101, 115], [112, 114, 111, 103, 114, 97, 109, 109, 101], [114, 97, 103, 97], [114, 97, 110, 107], [115, 99, 114, 105, 112, 116], [115, 104, 111, 119], [115, 116, 114, 111, 107, 101, 115], [116, 101, 109, 112, 111], [116, 117, 110, 105, 110, 103]] : List (List UInt8)).map V.str)) :: K1) (by simp [List.take_of_length_le]) (qp K2 rfl (rR hF))))))

theorem c5_ok : okFn Tryz.prog 5 = true := by kernel_rfl




def c6 : MC := (sr [pT 4 (.mv cf)] (.seq (sr [mvt 6 0, zT 7 6, mvt 8 1, zT 9 8, bT 10 .neq t7 t9] (.cond t10 (sr [pT 4 (.mv cf)] .ret) .skip)) (.seq (sr [pT 5 (.mv (ci 0))] (.block 0 (.loop (.seq (sr [mvt 11 5, mvt 12 0, zT 13 12, bT 14 .lss t11 t13] (cx t14 0)) (.seq (.block 1 (sr [mP 17 t0, mP 18 t5, iF 19 17 18 1, lF 20 19, mP 21 t1, mP 22 t5, iF 23 21 22 1, lF 24 23, bF 25 .neq t20 t24] (.cond t25 (sr [pT 4 (.mv cf)] .ret) .skip))) (.reg [mvt 15 5, bT 16 .add t15 (ci 1), mvt 5 16])))))) (sr [pT 4 (.mv ct)] .ret))))
theorem c6_ : IsF Tryz.prog 6 c6 [(.tmp 4)] := ⟨by kernel_rfl, by kernel_rfl⟩

def F_laws_eqStringS_l0 (v0 : List (List UInt8)) (v1 : List (List UInt8)) (k0 : Int → Option (Bool)) : Int → Option (Bool)
 | x1 => (bif (decide (x1 < (v0.length : Int))) then ((ix v0 x1).bind fun u0 => ((ix v1 x1).bind fun u1 => (bif (decide (u0 ≠ u1)) then some false
 else k0 (w64 (x1 + 1)))))
 else some true)
def F_laws_eqStringS (v0 : List (List UInt8)) (v1 : List (List UInt8)) : Option (Bool) :=
 (bif (decide ((v0.length : Int) ≠ (v1.length : Int))) then some false
 else loop (F_laws_eqStringS_l0 v0 v1) 0)
@[simp] def res_laws_eqStringS (r : Bool) : RV := .one (.one (.val (.bool r)))
theorem con_laws_eqStringS {v0 : List (List UInt8)} {v1 : List (List UInt8)} {r : Bool} (hF : F_laws_eqStringS v0 v1 = some r) : Con Tryz.prog 6 [.sl 1 (v0.map V.str), .sl 1 (v1.map V.str)] (res_laws_eqStringS r) := by
 unfold F_laws_eqStringS at hF
 refine con_of c6_.1 fun N => ?_
 refine ws 0 64 (qp (AB false) rfl (r_nil (w_seq (ws 64 384 (qp (AL 1 (v0.map V.str)) rfl (qp (AI (v0.length : Int)) (ev_len_n rfl) (qp (AL 1 (v1.map V.str)) rfl (qp (AI (v1.length : Int)) (ev_len_n rfl) (qp (AB (decide ((v0.length : Int) ≠ (v1.length : Int)))) rfl (r_nil ?_))))))))))
 refine cF hF (fun hF => ws 384 448 (qp (AB false) rfl (r_nil (w_ret (thenQ_r (eQ hF)))))) fun hF => w_skip (thenQ_n (w_seq (ws 384 448 (qp (AI 0) rfl (r_nil (w_block ?_))))))
 refine wr (l' := [(0, AL 1 (v0.map V.str)), (1, AL 1 (v1.map V.str)), (5, AI 0)]) (L := []) [0, 1, 5] [] 1 ?_
 refine w_loopF (F_laws_eqStringS_l0 v0 v1) (fun s : Int => mkS [(0, AL 1 (v0.map V.str)), (1, AL 1 (v1.map V.str)), (5, AI s)] (fo []) 1) hF ?_
 rintro k0 x1 hF
 rw [F_laws_eqStringS_l0] at hF
 try dsimp only
 refine w_seq (ws 1 257 (qp (AI x1) rfl (qp (AL 1 (v0.map V.str)) rfl (qp (AI (v0.length : Int)) (ev_len_n rfl) (qp (AB (decide (x1 < (v0.length : Int)))) rfl (r_nil ?_))))))
 refine cF hF (fun hF => ?_) fun hF => ?_
 ·
  refine w_skip (thenQ_n (w_seq (w_block (ws 257 833 (qp (AL 1 (v0.map V.str)) rfl (qp (AI x1) rfl (bk hF fun u0 e0 hF => qp (.val none (.ptr [.str u0])) (ev_iad_n rfl rfl e0 rfl) (qp (AS u0) rfl (qp (AL 1 (v1.map V.str)) rfl (qp (AI x1) rfl (bk hF fun u1 e1 hF => qp (.val none (.ptr [.str u1])) (ev_iad_n rfl rfl e1 rfl) (qp (AS u1) rfl (qp (AB (decide (u0 ≠ u1))) rfl (r_nil ?_))))))))))))))
  refine cF hF (fun hF => ws 833 897 (qp (AB false) rfl (r_nil (w_ret (blockQ_r (thenQ_r (thenQ_r (blockQ_r (thenQ_r (eQ hF)))))))))) fun hF => ?_
  refine w_skip (blockQ_n (thenQ_n (w_reg 833 1025 rfl rfl (qp (AI x1) rfl (qp (AI (w64 (x1 + 1))) rfl (qp (AI (w64 (x1 + 1))) rfl (r_nil (thenQ_n ?_))))))))
  refine ar (l' := [(0, AL 1 (v0.map V.str)), (1, AL 1 (v1.map V.str)), (5, AI (w64 (x1 + 1)))]) (L := []) [0, 1, 5] [] 1 ⟨_, by rfl, hF⟩
 exact w_exit (thenQ_e (thenQ_e (blockQ_e (thenQ_n (ws 257 321 (qp (AB true) rfl (rR hF)))))))

def c12 : MC := (sr [pT 2 (.mv (.c (.str [])))] (.seq (sr [mvt 4 0, bT 5 .leq t4 (ci 0)] (.cond t5 (sr [pT 2 (.mv (.c (.str [109, 48])))] .ret) .skip)) (sr [pT 3 (.mv (.c (.str [])))] (.seq (.block 0 (.loop (.seq (sr [mvt 6 0, bT 7 .gtr t6 (ci 0)] (cx t7 0)) (.block 1 (sr [mvt 8 0, bT 9 .rem t8 (ci 10), bT 10 .add (ci 48) t9, pT 11 (.conv .u8 t10), rg 12 (.f (.bsl 1 [t11])), pT 13 (.bts t12), mvt 14 3, bT 15 .add t13 t14, mvt 3 15] (.reg [mvt 16 0, bT 17 .quo t16 (ci 10), mvt 0 17])))))) (sr [mvt 18 3, pT 19 (.bin .add (.c (.str [109])) t18), mvt 2 19] .ret)))))
theorem c12_ : IsF Tryz.prog 12 c12 [(.tmp 2)] := ⟨by kernel_rfl, by kernel_rfl⟩

def F_laws_markText_l0 (k0 : Int × (List UInt8) → Option (List UInt8)) : Int × (List UInt8) → Option (List UInt8)
 | (x2, x3) => (bif (decide ((0 : Int) < x2)) then (need ((bytesI ([IntKind.wrap .u8 (w64 (48 + (Int.tmod x2 10)))] : List Int)).length + x3.length < 9223372036854775808) (k0 (w64 (Int.tdiv x2 10), (bytesI ([IntKind.wrap .u8 (w64 (48 + (Int.tmod x2 10)))] : List Int)) ++ x3)))
 else (need ([109].length + x3.length < 9223372036854775808) (some ([109] ++ x3))))
def F_laws_markText (v0 : Int) : Option (List UInt8) :=
 (bif (decide (v0 ≤ (0 : Int))) then some [109, 48]
 else loop (F_laws_markText_l0) (v0, []))
@[simp] def res_laws_markText (r : List UInt8) : RV := .one (.one (.val (.str r)))
theorem con_laws_markText {v0 : Int} {r : List UInt8} (hF : F_laws_markText v0 = some r) : Con Tryz.prog 12 [.int .i64 v0] (res_laws_markText r) := by
 unfold F_laws_markText at hF
 refine con_of c12_.1 fun N => ?_
 refine ws 0 64 (qp (AS []) rfl (r_nil (w_seq (ws 64 192 (qp (AI v0) rfl (qp (AB (decide (v0 ≤ (0 : Int)))) rfl (r_nil (cF hF (fun hF => ws 192 256 (qp (AS [109, 48]) rfl (r_nil (w_ret (thenQ_r (eQ hF)))))) fun hF => ?_))))))))
 refine w_skip (thenQ_n (ws 192 256 (qp (AS []) rfl (r_nil (w_seq (w_block ?_))))))
 refine wr (l' := [(0, AI v0), (3, AS ([] : List UInt8))]) (L := []) [0, 3] [] 1 ?_
 refine w_loopF (F_laws_markText_l0) (fun s : Int × (List UInt8) => mkS [(0, AI s.1), (3, AS s.2)] (fo []) 1) hF ?_
 rintro k0 ⟨x2, x3⟩ hF
 rw [F_laws_markText_l0] at hF
 try dsimp only
 refine w_seq (ws 1 129 (qp (AI x2) rfl (qp (AB (decide ((0 : Int) < x2))) rfl (r_nil ?_))))
 refine cF hF (fun hF => ?_) fun hF => ?_
 ·
  refine w_skip (thenQ_n (w_block (ws 129 705 (qp (AI x2) rfl (qp (AI (Int.tmod x2 10)) (ev_rem rfl rfl (by decide)) (qp (AI (w64 (48 + (Int.tmod x2 10)))) rfl (qp (.val none (.int .u8 (IntKind.wrap .u8 (w64 (48 + (Int.tmod x2 10)))))) rfl (qf (.sl 385 0 (([IntKind.wrap .u8 (w64 (48 + (Int.tmod x2 10)))] : List Int).length)) [(385, .row true 1 (([IntKind.wrap .u8 (w64 (48 + (Int.tmod x2 10)))] : List Int).map (V.int .u8)))] (by simp [List.take_of_length_le]) ?_))))))))
  refine qp (AS (bytesI ([IntKind.wrap .u8 (w64 (48 + (Int.tmod x2 10)))] : List Int))) (ev_bts_r rfl (by simp) rfl) (qp (AS x3) rfl (nk hF fun g0 hF => qp (AS ((bytesI ([IntKind.wrap .u8 (w64 (48 + (Int.tmod x2 10)))] : List Int)) ++ x3)) (ev_add_s rfl rfl g0) (qp (AS ((bytesI ([IntKind.wrap .u8 (w64 (48 + (Int.tmod x2 10)))] : List Int)) ++ x3)) rfl (r_nil (w_reg 705 897 rfl rfl (qp (AI x2) rfl (qp (AI (w64 (Int.tdiv x2 10))) (ev_quo rfl rfl (by decide)) (qp (AI (w64 (Int.tdiv x2 10))) rfl (r_nil ?_)))))))))
  refine blockQ_n (thenQ_n ?_)
  refine ar (l' := [(0, AI (w64 (Int.tdiv x2 10))), (3, AS ((bytesI ([IntKind.wrap .u8 (w64 (48 + (Int.tmod x2 10)))] : List Int)) ++ x3))]) (L := []) [0, 3] [] 1 ⟨_, by rfl, hF⟩
 exact w_exit (thenQ_e (thenQ_e (blockQ_e (thenQ_n (ws 129 321 (qp (AS x3) rfl (nk hF fun g1 hF => qp (AS ([109] ++ x3)) (ev_add_s rfl rfl g1) (qp (AS ([109] ++ x3)) rfl (rR hF)))))))))

def c7 : MC := (sr [pT 4 (.mv (ci 0))] (.seq (sr [pT 5 (.mv (ci 0))] (.block 0 (.loop (.seq (sr [mvt 6 5, mvt 7 0, zT 8 7, bT 9 .lss t6 t8] (cx t9 0)) (.seq (.block 1 (sr [mvt 12 0, mvt 13 5, mvt 14 1, dT 15 12 [t14], iT 16 12 13 1, ⟨none, none, (.f (.st t16 t15 1))⟩] (.reg [mvt 17 1, bT 18 .add t17 (ci 1), mvt 1 18]))) (.reg [mvt 10 5, bT 11 .add t10 (ci 1), mvt 5 11])))))) (sr [mvt 19 1, mvt 4 19] .ret)))
theorem c7_is : compFnM Tryz.prog 7 = some (c7, [(.tmp 4)]) := by kernel_rfl
theorem c7_ok : okFn Tryz.prog 7 = true := by kernel_rfl

def F_laws_markStringS_l0 (k0 : Int × Int × (List (List UInt8)) → Option ((List (List UInt8)) × Int)) : Int × Int × (List (List UInt8)) → Option ((List (List UInt8)) × Int)
 | (x3, x4, x5) => (bif (decide (x4 < (x5.length : Int))) then ((F_laws_markText x3).bind fun u0 => ((ix x5 x4).bind fun u1 => k0 (w64 (x3 + 1), w64 (x4 + 1), List.set x5 x4.toNat u0)))
 else some (x5, x3))
def F_laws_markStringS (v0 : List (List UInt8)) (v1 : Int) : Option ((List (List UInt8)) × Int) :=
 loop (F_laws_markStringS_l0) (v1, 0, v0)
theorem con_laws_markStringS {v0 : List (List UInt8)} {v1 : Int} {r : (List (List UInt8)) × Int} (hF : F_laws_markStringS v0 v1 = some r) : ConM Tryz.prog 7 (.one (.row true 1 (v0.map V.str))) (.one (.row true 1 (r.1.map V.str))) [.int .i64 v1] (.int .i64 r.2) := by
 unfold F_laws_markStringS at hF
 refine conM_of (av := .sl 0 0 v0.length) (L := [(0, .row true 1 (v0.map V.str))]) c7_is rfl rfl rfl (by simp) fun N => ?_
 refine ws 64 128 (qp (AI 0) rfl (r_nil (w_seq (ws 128 192 (qp (AI 0) rfl (r_nil (w_block ?_)))))))
 refine wr (l' := [(0, .sl 0 0 v0.length), (1, AI v1), (5, AI 0)]) (L := [(0, .row true 1 (v0.map V.str))]) [0, 1, 5] [(0, 0)] 1 ?_
 refine w_loopF (F_laws_markStringS_l0) (fun s : Int × Int × (List (List UInt8)) => mkS [(0, .sl 0 0 s.2.2.length), (1, AI s.1), (5, AI s.2.1)] (fo [(0, .row true 1 (s.2.2.map V.str))]) 1) hF ?_
 rintro k0 ⟨x3, x4, x5⟩ hF
 rw [F_laws_markStringS_l0] at hF
 try dsimp only
 refine w_seq (ws 1 257 (qp (AI x4) rfl (qp (.sl 0 0 x5.length) rfl (qp (AI (x5.length : Int)) rfl (qp (AB (decide (x4 < (x5.length : Int)))) rfl (r_nil ?_))))))
 refine cF hF (fun hF => ?_) fun hF => ?_
 ·
  refine w_skip (thenQ_n (w_seq (w_block (ws 257 641 (qp (.sl 0 0 x5.length) rfl (qp (AI x4) rfl (qp (AI x3) rfl (bk hF fun u0 e0 hF => qC (AS u0) [(0, .row true 1 (x5.map V.str))] (con_laws_markText e0) c12_ (bk hF fun u1 e1 hF => qp (.ptr 0 x4.toNat 0) (ev_iad_r rfl (by simp) rfl rfl e1) (qf0 (.undef) [(0, .row true 1 ((List.set x5 x4.toNat u0).map V.str)), (0, .row true 1 (x5.map V.str))] (effT_st rfl rfl (ix_some e1).2 rfl rfl (by rfl) (by first | rfl | simp [patch, reb, List.take_of_length_le]) (by rfl) rfl) (r_nil (w_reg 641 833 rfl rfl ?_))))))))))))
  refine qp (AI x3) rfl (qp (AI (w64 (x3 + 1))) rfl (qp (AI (w64 (x3 + 1))) rfl (r_nil (blockQ_n (thenQ_n (w_reg 833 1025 rfl rfl (qp (AI x4) rfl (qp (AI (w64 (x4 + 1))) rfl (qp (AI (w64 (x4 + 1))) rfl ?_)))))))))
  refine r_nil (thenQ_n ?_)
  refine ar (l' := [(0, .sl 0 0 (List.set x5 x4.toNat u0).length), (1, AI (w64 (x3 + 1))), (5, AI (w64 (x4 + 1)))]) (L := [(0, .row true 1 ((List.set x5 x4.toNat u0).map V.str))]) [0, 1, 5] [(0, 0)] 1 ⟨_, by rfl, hF⟩
 refine w_exit (thenQ_e (thenQ_e (blockQ_e (thenQ_n (ws 257 385 (qp (AI x3) rfl (qp (AI x3) rfl (r_nil (w_ret ?_)))))))))
 cases hF
 exact endM_r rfl rfl (by first | rfl | (simp [List.take_of_length_le]; first | exact ⟨rfl, rfl⟩ | rfl)) (by simp)

def c8 : MC := (sr [pT 4 (.mv (ci 0))] (.seq (sr [pT 5 (.mv (ci 0))] (.block 0 (.loop (.seq (sr [mvt 6 5, mvt 7 0, zT 8 7, bT 9 .lss t6 t8] (cx t9 0)) (.seq (.block 1 (.seq (sr [mP 12 t0, mP 13 t5, iF 14 12 13 1, lF 15 14, mP 16 t1, dF 17 12 [t16], bF 18 .neq t15 t17] (.cond t18 (sr [pT 4 (.mv (ci (-1)))] .ret) .skip)) (.reg [mvt 19 1, bT 20 .add t19 (ci 1), mvt 1 20]))) (.reg [mvt 10 5, bT 11 .add t10 (ci 1), mvt 5 11])))))) (sr [mvt 21 1, mvt 4 21] .ret)))
theorem c8_ : IsF Tryz.prog 8 c8 [(.tmp 4)] := ⟨by kernel_rfl, by kernel_rfl⟩

def F_laws_heldStringS_l0 (v0 : List (List UInt8)) (k0 : Int × Int → Option (Int)) : Int × Int → Option (Int)
 | (x2, x3) => (bif (decide (x3 < (v0.length : Int))) then ((ix v0 x3).bind fun u0 => ((F_laws_markText x2).bind fun u1 => (bif (decide (u0 ≠ u1)) then some (-1)
 else k0 (w64 (x2 + 1), w64 (x3 + 1)))))
 else some x2)
def F_laws_heldStringS (v0 : List (List UInt8)) (v1 : Int) : Option (Int) :=
 loop (F_laws_heldStringS_l0 v0) (v1, 0)
@[simp] def res_laws_heldStringS (r : Int) : RV := .one (.one (.val (.int .i64 r)))
theorem con_laws_heldStringS {v0 : List (List UInt8)} {v1 : Int} {r : Int} (hF : F_laws_heldStringS v0 v1 = some r) : Con Tryz.prog 8 [.sl 1 (v0.map V.str), .int .i64 v1] (res_laws_heldStringS r) := by
 unfold F_laws_heldStringS at hF
 refine con_of c8_.1 fun N => ?_
 refine ws 0 64 (qp (AI 0) rfl (r_nil (w_seq (ws 64 128 (qp (AI 0) rfl (r_nil (w_block ?_)))))))
 refine wr (l' := [(0, AL 1 (v0.map V.str)), (1, AI v1), (5, AI 0)]) (L := []) [0, 1, 5] [] 1 ?_
 refine w_loopF (F_laws_heldStringS_l0 v0) (fun s : Int × Int => mkS [(0, AL 1 (v0.map V.str)), (1, AI s.1), (5, AI s.2)] (fo []) 1) hF ?_
 rintro k0 ⟨x2, x3⟩ hF
 rw [F_laws_heldStringS_l0] at hF
 try dsimp only
 refine w_seq (ws 1 257 (qp (AI x3) rfl (qp (AL 1 (v0.map V.str)) rfl (qp (AI (v0.length : Int)) (ev_len_n rfl) (qp (AB (decide (x3 < (v0.length : Int)))) rfl (r_nil ?_))))))
 refine cF hF (fun hF => ?_) fun hF => ?_
 ·
  refine w_skip (thenQ_n (w_seq (w_block (w_seq (ws 257 705 (qp (AL 1 (v0.map V.str)) rfl (qp (AI x3) rfl (bk hF fun u0 e0 hF => qp (.val none (.ptr [.str u0])) (ev_iad_n rfl rfl e0 rfl) (qp (AS u0) rfl (qp (AI x2) rfl (bk hF fun u1 e1 hF => qC (AS u1) [] (con_laws_markText e1) c12_ (qp (AB (decide (u0 ≠ u1))) rfl (r_nil ?_)))))))))))))
  refine cF hF (fun hF => ws 705 769 (qp (AI (-1)) rfl (r_nil (w_ret (thenQ_r (blockQ_r (thenQ_r (thenQ_r (blockQ_r (thenQ_r (eQ hF))))))))))) fun hF => ?_
  refine w_skip (thenQ_n (w_reg 705 897 rfl rfl (qp (AI x2) rfl (qp (AI (w64 (x2 + 1))) rfl (qp (AI (w64 (x2 + 1))) rfl (r_nil (blockQ_n (thenQ_n (w_reg 897 1089 rfl rfl ?_)))))))))
  refine qp (AI x3) rfl (qp (AI (w64 (x3 + 1))) rfl (qp (AI (w64 (x3 + 1))) rfl (r_nil (thenQ_n ?_))))
  refine ar (l' := [(0, AL 1 (v0.map V.str)), (1, AI (w64 (x2 + 1))), (5, AI (w64 (x3 + 1)))]) (L := []) [0, 1, 5] [] 1 ⟨_, by rfl, hF⟩
 exact w_exit (thenQ_e (thenQ_e (blockQ_e (thenQ_n (ws 257 385 (qp (AI x2) rfl (qp (AI x2) rfl (rR hF))))))))

def c3 : MC := (sr [pT 0 (.mv cf)] (sr [dT 6 4 [], mvt 1 6] (sr [dT 7 5 [], mvt 2 7] (.seq (sr [mvt 8 2, mvt 9 1, dT 10 6 [t8, t9], pT 11 (.not t10)] (.cond t11 (sr [pT 0 (.mv cf)] .ret) .skip)) (sr [pT 3 (.mv (ci 1))] (sr [mvt 12 2, mvt 13 3, dT 14 7 [t12, t13], mvt 3 14] (sr [pT 4 (.mv (ci 1))] (sr [mvt 15 2, mvt 16 4, dT 17 8 [t15, t16], mvt 4 17] (.seq (sr [mvt 18 4, bT 19 .lss t18 (ci 0)] (.cond t19 (sr [pT 0 (.mv cf)] .ret) .skip)) (.seq (sr [mvt 20 4, mvt 21 3, bT 22 .neq t20 t21] (.cond t22 (sr [pT 0 (.mv cf)] .ret) .skip)) (sr [dT 23 5 [], mvt 5 23] (.seq (sr [mvt 24 5, mvt 25 1, dT 26 6 [t24, t25], pT 27 (.not t26)] (.cond t27 (sr [pT 0 (.mv cf)] .ret) .skip)) (sr [pT 4 (.mv (ci 1))] (sr [mvt 28 2, mvt 29 4, dT 30 8 [t28, t29], mvt 4 30] (.seq (sr [mvt 31 4, bT 32 .lss t31 (ci 0)] (.cond t32 (sr [pT 0 (.mv cf)] .ret) .skip)) (.seq (sr [mvt 33 4, mvt 34 3, bT 35 .neq t33 t34] (.cond t35 (sr [pT 0 (.mv cf)] .ret) .skip)) (sr [pT 0 (.mv ct)] .ret)))))))))))))))))
theorem c3_ : IsF Tryz.prog 3 c3 [(.tmp 0)] := ⟨by kernel_rfl, by kernel_rfl⟩

def F_laws_FnExactCommandNames : Option (Bool) :=
 ((F_spec_CommandNames).bind fun u0 => ((F_cmdNames).bind fun u1 => ((F_laws_eqStringS u1 u0).bind fun u2 => (bif (!u2) then some false
 else ((F_laws_markStringS u1 1).bind fun u3 => need (u3.1.length = u1.length) (((F_laws_heldStringS u3.1 1).bind fun u5 => (bif (decide (u5 < (0 : Int))) then some false
 else (bif (decide (u5 ≠ u3.2)) then some false
 else ((F_cmdNames).bind fun u6 => ((F_laws_eqStringS u6 u0).bind fun u7 => (bif (!u7) then some false
 else ((F_laws_heldStringS u3.1 1).bind fun u8 => (bif (decide (u8 < (0 : Int))) then some false
 else (bif (decide (u8 ≠ u3.2)) then some false
 else some true)))))))))))))))
@[simp] abbrev K3 (u1 : List (List UInt8)) (u0 : List (List UInt8)) : List (Nat × Root) := [(192, .row true 1 (u1.map V.str)), (64, .row true 1 (u0.map V.str))]
@[simp] abbrev K4 (u3 : (List (List UInt8)) × Int) (u1 : List (List UInt8)) (u0 : List (List UInt8)) : List (Nat × Root) := ((192, .row true 1 (u3.1.map V.str)) :: (K3 u1 u0))
@[simp] def res_laws_FnExactCommandNames (r : Bool) : RV := .one (.one (.val (.bool r)))
theorem con_laws_FnExactCommandNames {r : Bool} (hF : F_laws_FnExactCommandNames = some r) : Con Tryz.prog 3 [] (res_laws_FnExactCommandNames r) := by
 unfold F_laws_FnExactCommandNames at hF
 refine con_of c3_.1 fun N => ?_
 refine ws 0 64 (qp (AB false) rfl (r_nil (ws 64 192 (bk hF fun u0 e0 hF => qc (.sl 64 0 u0.length) [(64, .row true 1 (u0.map V.str))] false (con_spec_CommandNames e0) c4_.2 (by first | rfl | simp) (by simp [res_spec_CommandNames]) (qp (.sl 64 0 u0.length) rfl (r_nil (ws 192 320 (bk hF fun u1 e1 hF => qc (.sl 192 0 u1.length) (K3 u1 u0) false (con_cmdNames e1) c5_ok (by first | rfl | simp) (by simp [res_cmdNames]) (qp (.sl 192 0 u1.length) rfl (r_nil (w_seq (ws 320 576 (qp (.sl 192 0 u1.length) rfl (qp (.sl 64 0 u0.length) rfl (bk hF fun u2 e2 hF => qc (AB u2) (K3 u1 u0) true (con_laws_eqStringS e2) c6_.2 (by simp [List.take_of_length_le]) rfl (qp (AB (!u2)) rfl ?_))))))))))))))))
 refine r_nil (cF hF (fun hF => ws 576 640 (qp (AB false) rfl (r_nil (w_ret (thenQ_r (eQ hF)))))) fun hF => ?_)
 refine w_skip (thenQ_n (ws 576 640 (qp (AI 1) rfl (r_nil (ws 640 896 (qp (.sl 192 0 u1.length) rfl (qp (AI 1) rfl (bk hF fun u3 e3 hF => nk hF fun g4 hF => qm (ls := [192]) (K4 u3 u1 u0) (con_laws_markStringS e3) c7_ok (by first | rfl | simp [takeM, takeML, takeM1, g4]) (by decide) (by simp [like2, likeL, like1, g4]) rfl rfl rfl (by simp [scrO_fo, newO2, newO, scrR, scrA, scrAs]) (qp (AI u3.2) rfl (r_nil (ws 896 960 (qp (AI 1) rfl (r_nil (ws 960 1216 ?_))))))))))))))
 refine qp (.sl 192 0 u1.length) rfl (qp (AI 1) rfl (bk hF fun u5 e5 hF => qc (AI u5) (K4 u3 u1 u0) true (con_laws_heldStringS e5) c8_.2 (by simp [g4, List.take_of_length_le]) rfl (qp (AI u5) rfl (r_nil (w_seq (ws 1216 1344 (qp (AI u5) rfl (qp (AB (decide (u5 < (0 : Int)))) rfl (r_nil ?_)))))))))
 refine cF hF (fun hF => ?_) fun hF => ?_
 ·
  refine ws 1344 1408 (qp (AB false) rfl (r_nil (w_ret (thenQ_r ?_))))
  cases hF
  exact endQ_r rfl (.inl ⟨_, _, by first | rfl | (simp [List.take_of_length_le]; first | exact ⟨rfl, rfl⟩ | rfl), by simp, by first | rfl | simp [res_laws_FnExactCommandNames, List.take_of_length_le, g4]⟩)
 refine w_skip (thenQ_n (w_seq (ws 1344 1536 (qp (AI u5) rfl (qp (AI u3.2) rfl (qp (AB (decide (u5 ≠ u3.2))) rfl (r_nil ?_)))))))
 refine cF hF (fun hF => ?_) fun hF => ?_
 ·
  refine ws 1536 1600 (qp (AB false) rfl (r_nil (w_ret (thenQ_r ?_))))
  cases hF
  exact endQ_r rfl (.inl ⟨_, _, by first | rfl | (simp [List.take_of_length_le]; first | exact ⟨rfl, rfl⟩ | rfl), by simp, by first | rfl | simp [res_laws_FnExactCommandNames, List.take_of_length_le, g4]⟩)
 refine w_skip (thenQ_n (ws 1536 1664 (bk hF fun u6 e6 hF => qc (.sl 1536 0 u6.length) ((1536, .row true 1 (u6.map V.str)) :: (K4 u3 u1 u0)) false (con_cmdNames e6) c5_ok (by first | rfl | simp) (by simp [res_cmdNames]) (qp (.sl 1536 0 u6.length) rfl (r_nil (w_seq (ws 1664 1920 (qp (.sl 1536 0 u6.length) rfl (qp (.sl 64 0 u0.length) rfl (bk hF fun u7 e7 hF => qc (AB u7) ((1536, .row true 1 (u6.map V.str)) :: (K4 u3 u1 u0)) true (con_laws_eqStringS e7) c6_.2 (by simp [g4, List.take_of_length_le]) rfl (qp (AB (!u7)) rfl (r_nil ?_))))))))))))
 refine cF hF (fun hF => ?_) fun hF => ?_
 ·
  refine ws 1920 1984 (qp (AB false) rfl (r_nil (w_ret (thenQ_r ?_))))
  cases hF
  exact endQ_r rfl (.inl ⟨_, _, by first | rfl | (simp [List.take_of_length_le]; first | exact ⟨rfl, rfl⟩ | rfl), by simp, by first | rfl | simp [res_laws_FnExactCommandNames, List.take_of_length_le, g4]⟩)
 refine w_skip (thenQ_n (ws 1920 1984 (qp (AI 1) rfl (r_nil (ws 1984 2240 (qp (.sl 192 0 u1.length) rfl (qp (AI 1) rfl (bk hF fun u8 e8 hF => qc (AI u8) ((1536, .row true 1 (u6.map V.str)) :: (K4 u3 u1 u0)) true (con_laws_heldStringS e8) c8_.2 (by simp [g4, List.take_of_length_le]) rfl (qp (AI u8) rfl (r_nil (w_seq (ws 2240 2368 (qp (AI u8) rfl (qp (AB (decide (u8 < (0 : Int)))) rfl ?_))))))))))))))
 refine r_nil ?_
 refine cF hF (fun hF => ?_) fun hF => ?_
 ·
  refine ws 2368 2432 (qp (AB false) rfl (r_nil (w_ret (thenQ_r ?_))))
  cases hF
  exact endQ_r rfl (.inl ⟨_, _, by first | rfl | (simp [List.take_of_length_le]; first | exact ⟨rfl, rfl⟩ | rfl), by simp, by first | rfl | simp [res_laws_FnExactCommandNames, List.take_of_length_le, g4]⟩)
 refine w_skip (thenQ_n (w_seq (ws 2368 2560 (qp (AI u8) rfl (qp (AI u3.2) rfl (qp (AB (decide (u8 ≠ u3.2))) rfl (r_nil ?_)))))))
 refine cF hF (fun hF => ?_) fun hF => ?_
 ·
  refine ws 2560 2624 (qp (AB false) rfl (r_nil (w_ret (thenQ_r ?_))))
  cases hF
  exact endQ_r rfl (.inl ⟨_, _, by first | rfl | (simp [List.take_of_length_le]; first | exact ⟨rfl, rfl⟩ | rfl), by simp, by first | rfl | simp [res_laws_FnExactCommandNames, List.take_of_length_le, g4]⟩)
 refine w_skip (thenQ_n (ws 2560 2624 (qp (AB true) rfl (r_nil (w_ret ?_)))))
 cases hF
 exact endQ_r rfl (.inl ⟨_, _, by first | rfl | (simp [List.take_of_length_le]; first | exact ⟨rfl, rfl⟩ | rfl), by simp, by first | rfl | simp [res_laws_FnExactCommandNames, List.take_of_length_le, g4]⟩)

end Go.Ab
