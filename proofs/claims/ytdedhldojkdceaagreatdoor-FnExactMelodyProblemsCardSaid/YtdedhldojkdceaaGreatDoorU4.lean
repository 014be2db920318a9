/- Walks (printed by auto.py, a program of this session's own). -/
import Derived.Test.YtdedhldojkdceaaGreatDoorU3
import Derived.Test.YtdedhldojkdceaaGreatDoorProg
import Derived.KernelRfl
import Derived.Test.YtdedhldojkdceaaGreatDoorSQ
set_option linter.unusedVariables false
set_option linter.unusedSimpArgs false
set_option maxRecDepth 8000
set_option maxHeartbeats 8000000
noncomputable section
namespace Go.Ab
open Go.RowKit Go.Proofs

def c76 : MC := (sr [rg 1 (.f (.box t0)), pT 2 (.mv cf)] (sr [pT 6 (.fad t1 0), pT 7 (.ld t6 6 true), pT 8 (.fad t1 6), lT 9 8, pT 10 (.fad t1 7), lT 11 10, dT 12 80 [t7, t9, t11], mvt 5 12, pT 13 (.ext t5 0), pT 14 (.ext t5 1), rg 3 (.f (.alloc [((.int .i64 0), (0, false)), ((.int .i64 0), (0, false)), ((.sl 0 []), (1, false)), ((.sl 0 []), (3, false))])), ⟨none, none, (.f (.st t3 t13 4))⟩, mvt 4 14] (sr [mvt 15 4, bT 16 .eql t15 (ci 0), mvt 17 16, kT 18 17 (.fad t1 8), kT 19 17 (.ld t18 1 false), ⟨(some 20), (some (17, true)), (.call true 107 [t19])⟩, pT 21 (.pick t17 t20 cf), mvt 22 21, kT 23 22 (.fad t1 9), kT 24 22 (.ld t23 3 true), kT 25 22 (.fad t1 12), kT 26 22 (.ld t25 1 false), kT 27 22 (.fad t1 14), kT 28 22 (.ld t27 1 false), kT 29 22 (.fad t1 15), kT 30 22 (.ld t29 1 false), kT 31 22 (.fad t1 16), kT 32 22 (.ld t31 1 false), ⟨(some 33), (some (22, true)), (.call true 129 [t24, t26, t28, t30, t32, (ci 0)])⟩, kT 34 22 (.bin .eql t33 (ci 0)), pT 35 (.pick t22 t34 cf), mvt 36 35, kT 37 36 (.fad t1 17), kT 38 36 (.ld t37 1 false), ⟨(some 39), (some (36, true)), (.call true 130 [t38])⟩, pT 40 (.pick t36 t39 cf), mvt 2 40] .ret)))
theorem c76_ : IsF Tryz.prog 76 c76 [(.tmp 2)] := ⟨by kernel_rfl, by kernel_rfl⟩

def F_impl_ValidWork (v0 : TWork) : Option (Bool) :=
 ((F_impl_GrammarOf (v0.1, v0.2.1, v0.2.2.1, v0.2.2.2.1, v0.2.2.2.2.1, v0.2.2.2.2.2.1) v0.2.2.2.2.2.2.1 v0.2.2.2.2.2.2.2.1).bind fun u0 => (bif (decide (u0.2 = (0 : Int))) then ((F_impl_ValidMelody v0.2.2.2.2.2.2.2.2.1).bind fun u1 => (bif u1 then ((F_impl_cadenceCode (v0.2.2.2.2.2.2.2.2.2.1, v0.2.2.2.2.2.2.2.2.2.2.1, v0.2.2.2.2.2.2.2.2.2.2.2.1) v0.2.2.2.2.2.2.2.2.2.2.2.2.1 v0.2.2.2.2.2.2.2.2.2.2.2.2.2.2.1 v0.2.2.2.2.2.2.2.2.2.2.2.2.2.2.2.1 v0.2.2.2.2.2.2.2.2.2.2.2.2.2.2.2.2.1 0).bind fun u2 => (bif (decide (u2 = (0 : Int))) then ((F_impl_ValidTurns v0.2.2.2.2.2.2.2.2.2.2.2.2.2.2.2.2.2).bind fun u3 => some u3)
 else some false))
 else some false))
 else some false))
@[simp] abbrev K5x (v0 : TWork) : List (Nat × Root) := [(0, .box [AS v0.1, AL 1 (v0.2.1.map vI), AL 1 (v0.2.2.1.map vI), AI v0.2.2.2.1, AI v0.2.2.2.2.1, AL 1 (v0.2.2.2.2.2.1.map (eL 1 vI)), AI v0.2.2.2.2.2.2.1, AI v0.2.2.2.2.2.2.2.1, AL 2 (v0.2.2.2.2.2.2.2.2.1.map eNote), AS v0.2.2.2.2.2.2.2.2.2.1, AL 1 (v0.2.2.2.2.2.2.2.2.2.2.1.map vI), AL 1 (v0.2.2.2.2.2.2.2.2.2.2.2.1.map vI), AI v0.2.2.2.2.2.2.2.2.2.2.2.2.1, AS v0.2.2.2.2.2.2.2.2.2.2.2.2.2.1, AI v0.2.2.2.2.2.2.2.2.2.2.2.2.2.2.1, AI v0.2.2.2.2.2.2.2.2.2.2.2.2.2.2.2.1, AI v0.2.2.2.2.2.2.2.2.2.2.2.2.2.2.2.2.1, AL 3 (v0.2.2.2.2.2.2.2.2.2.2.2.2.2.2.2.2.2.map eTurn)])]
@[simp] abbrev K5y (u0 : TGrammar × Int) (v0 : TWork) : List (Nat × Root) := ((515, .row true 3 (u0.1.2.2.2.map eArc)) :: (514, .row true 1 (u0.1.2.2.1.map vI)) :: (K5x v0))
@[simp] abbrev K5z (u0 : TGrammar × Int) (v0 : TWork) : List (Nat × Root) := ((768, .box [AI 0, AI 0, .sl 769 0 0, .sl 770 0 0]) :: (770, .row true 3 (([] : List Int).map vI)) :: (769, .row true 1 (([] : List Int).map vI)) :: (K5y u0 v0))
@[simp] abbrev K61 (u0 : TGrammar × Int) : List AV := [AI u0.1.1, AI u0.1.2.1, .sl 514 0 u0.1.2.2.1.length, .sl 515 0 u0.1.2.2.2.length]
@[simp] abbrev K60 (u0 : TGrammar × Int) (v0 : TWork) : List (Nat × Root) := ((768, .box (K61 u0)) :: (K5z u0 v0))
@[simp] def res_impl_ValidWork (r : Bool) : RV := .one (.one (.val (.bool r)))
theorem con_impl_ValidWork {v0 : TWork} {r : Bool} (hF : F_impl_ValidWork v0 = some r) : Con Tryz.prog 76 [eWork v0] (res_impl_ValidWork r) := by
 unfold F_impl_ValidWork at hF
 refine con_of c76_.1 fun N => ?_
 refine ws 0 128 (qf (.ptr 0 0 0) (K5x v0) (by simp) (qp (AB false) rfl (r_nil (ws 128 960 (qp (.ptr 0 0 0) rfl (qp (.agg [AS v0.1, AL 1 (v0.2.1.map vI), AL 1 (v0.2.2.1.map vI), AI v0.2.2.2.1, AI v0.2.2.2.2.1, AL 1 (v0.2.2.2.2.2.1.map (eL 1 vI))]) rfl (qp (.ptr 0 0 6) rfl (qp (AI v0.2.2.2.2.2.2.1) rfl (qp (.ptr 0 0 7) rfl (qp (AI v0.2.2.2.2.2.2.2.1) rfl (bk hF fun u0 e0 hF => qc (.tup [.agg (K61 u0), AI u0.2]) (K5y u0 v0) false (con_impl_GrammarOf e0) c80_.2 (by first | rfl | simp) (by simp [res_impl_GrammarOf]) (qp (.tup [.agg (K61 u0), AI u0.2]) rfl (qp (.agg (K61 u0)) rfl (qp (AI u0.2) rfl ?_))))))))))))))
 refine qf (.ptr 768 0 0) (K5z u0 v0) (by simp) (qf0 (.undef) (K60 u0 v0) (by simp) (qp (AI u0.2) rfl (r_nil (ws 960 2688 (qp (AI u0.2) rfl (qp (AB (decide (u0.2 = (0 : Int)))) rfl (qp (AB (decide (u0.2 = (0 : Int)))) rfl ?_)))))))
 refine q_case 17 hF rfl (fun hF => ?_) (fun hF => ?_)
 ·
  refine qg (.ptr 0 0 8) rfl rfl (qg (AL 2 (v0.2.2.2.2.2.2.2.2.1.map eNote)) rfl rfl (bk hF fun u1 e1 hF => qG (AB u1) (K60 u0 v0) (con_impl_ValidMelody e1) c107_ (qp (AB u1) rfl (qp (AB u1) rfl ?_))))
  refine q_case 22 hF rfl (fun hF => ?_) (fun hF => ?_)
  ·
   refine qg (.ptr 0 0 9) rfl rfl (qg (.agg [AS v0.2.2.2.2.2.2.2.2.2.1, AL 1 (v0.2.2.2.2.2.2.2.2.2.2.1.map vI), AL 1 (v0.2.2.2.2.2.2.2.2.2.2.2.1.map vI)]) rfl rfl (qg (.ptr 0 0 12) rfl rfl (qg (AI v0.2.2.2.2.2.2.2.2.2.2.2.2.1) rfl rfl (qg (.ptr 0 0 14) rfl rfl (qg (AI v0.2.2.2.2.2.2.2.2.2.2.2.2.2.2.1) rfl rfl (qg (.ptr 0 0 15) rfl rfl (qg (AI v0.2.2.2.2.2.2.2.2.2.2.2.2.2.2.2.1) rfl rfl (qg (.ptr 0 0 16) rfl rfl (qg (AI v0.2.2.2.2.2.2.2.2.2.2.2.2.2.2.2.2.1) rfl rfl (bk hF fun u2 e2 hF => qG (AI u2) (K60 u0 v0) (con_impl_cadenceCode e2) c129_ (qg (AB (decide (u2 = (0 : Int)))) rfl rfl (qp (AB (decide (u2 = (0 : Int)))) rfl (qp (AB (decide (u2 = (0 : Int)))) rfl ?_)))))))))))))
   refine q_case 36 hF rfl (fun hF => qg (.ptr 0 0 17) rfl rfl (qg (AL 3 (v0.2.2.2.2.2.2.2.2.2.2.2.2.2.2.2.2.2.map eTurn)) rfl rfl (bk hF fun u3 e3 hF => qG (AB u3) (K60 u0 v0) (con_impl_ValidTurns e3) c130_ (qp (AB u3) rfl (qp (AB u3) rfl (rR hF)))))) fun hF => ?_
   exact qn3 (qp (AB false) rfl (qp (AB false) rfl (rR hF)))
  exact qn8 (qn4 (qp (AB false) rfl (qp (AB false) rfl (qn2 (qn rfl (qp (AB false) rfl (qp (AB false) rfl (rR hF))))))))
 exact qn3 (qp (AB false) rfl (qp (AB false) rfl (qn3 (qn8 (qn rfl (qp (AB false) rfl (qp (AB false) rfl (qn rfl (qn rfl (qn rfl (qp (AB false) rfl (qp (AB false) rfl (rR hF)))))))))))))

def c77 : MC := (sr [rg 2 (.f (.nilrow 1))] (sr [rg 3 (.f (.nilrow 1))] (.seq (sr [mvt 6 0, zT 7 6, pT 8 (.mv (ci 0))] (.block 0 (.loop (sr [bT 9 .lss t8 t7] (.seq (cx t9 0) (.seq (.block 1 (sr [iT 10 6 8 2, pT 11 (.ld t10 2 true), rg 5 (.f (.alloc [((.int .i64 0), (0, false)), ((.int .i64 0), (0, false))])), ⟨none, none, (.f (.st t5 t11 2))⟩] (.reg [mvt 12 3, pT 13 (.fad t5 0), lT 14 13, rg 15 (.f (.bsl 1 [t14])), rg 16 (.f (.app t12 t15 1 8 true)), mvt 3 16]))) (.reg [bT 17 .add t8 (ci 1), mvt 8 17]))))))) (sr [mvt 18 3, mvt 2 18] .ret))))
theorem c77_ : IsF Tryz.prog 77 c77 [(.tmp 2)] := ⟨by kernel_rfl, by kernel_rfl⟩

def F_impl_pitchesOf_l0 (v0 : List TNote) (k0 : Int × (List Int) → Option (List Int)) : Int × (List Int) → Option (List Int)
 | (x2, x3) => (bif (decide (x2 < (v0.length : Int))) then ((ix v0 x2).bind fun u0 => (need (room (x3.length + [u0.1].length) 8) (k0 (w64 (x2 + 1), x3 ++ [u0.1]))))
 else some x3)
def F_impl_pitchesOf (v0 : List TNote) : Option (List Int) :=
 loop (F_impl_pitchesOf_l0 v0) (0, [])
@[simp] abbrev K62 : List (Nat × Root) := [(0, .row true 1 (([] : List Int).map vI))]
@[simp] abbrev K63 (x3 : List Int) : List (Nat × Root) := [(193, .box [AI 0, AI 0]), (0, .row true 1 (x3.map vI))]
@[simp] abbrev K64 (u0 : TNote) (x3 : List Int) : List (Nat × Root) := ((193, .box [AI u0.1, AI u0.2]) :: (K63 x3))
@[simp] abbrev K65 (u0 : TNote) (x3 : List Int) : List (Nat × Root) := ((513, .row true 1 ([u0.1].map vI)) :: (K64 u0 x3))
@[simp] def res_impl_pitchesOf (r : List Int) : RV := .one (.one (.row true 1 (r.map vI)))
theorem con_impl_pitchesOf {v0 : List TNote} {r : List Int} (hF : F_impl_pitchesOf v0 = some r) : Con Tryz.prog 77 [.sl 2 (v0.map eNote)] (res_impl_pitchesOf r) := by
 unfold F_impl_pitchesOf at hF
 refine con_of c77_.1 fun N => ?_
 refine ws 0 64 (qf (.sl 0 0 0) K62 (by simp) (r_nil (ws 64 128 (qf (.sl 64 0 0) ((64, .row true 1 (([] : List Int).map vI)) :: K62) (by simp) (r_nil (w_seq (ws 128 320 (qp (AL 2 (v0.map eNote)) rfl (qp (AI (v0.length : Int)) (ev_len_n rfl) (qp (AI 0) rfl (r_nil (w_block ?_))))))))))))
 refine w_ren (l' := [(3, .sl 0 0 0), (6, AL 2 (v0.map eNote)), (7, AI (v0.length : Int)), (8, AI 0)]) (L := K62) [3, 6, 7, 8] [(64, 0)] 1 (by first | rfl | simp) (by first | rfl | simp) (by decide) (by decide) (by decide) ?_
 refine w_loopF (F_impl_pitchesOf_l0 v0) (fun s : Int × (List Int) => mkS [(3, .sl 0 0 s.2.length), (6, AL 2 (v0.map eNote)), (7, AI (v0.length : Int)), (8, AI s.1)] (fo [(0, .row true 1 (s.2.map vI))]) 1) hF ?_
 rintro k0 ⟨x2, x3⟩ hF
 rw [F_impl_pitchesOf_l0] at hF
 try dsimp only
 refine ws 1 65 (qp (AB (decide (x2 < (v0.length : Int)))) rfl (r_nil (w_seq ?_)))
 refine cF hF (fun hF => ?_) fun hF => ?_
 ·
  refine w_skip (thenQ_n (w_seq (w_block (ws 65 321 (bk hF fun u0 e0 hF => qp (.val none (.ptr [.int .i64 u0.1, .int .i64 u0.2])) (ev_iad_n rfl rfl e0 rfl) (qp (.val none (eNote u0)) rfl (qf (.ptr 193 0 0) (K63 x3) (by simp) (qf0 (.undef) (K64 u0 x3) (by simp) (r_nil (w_reg 321 705 rfl rfl (qp (.sl 0 0 x3.length) rfl (qp (.ptr 193 0 0) rfl (qp (AI u0.1) rfl (qf (.sl 513 0 ([u0.1].length)) (K65 u0 x3) (by simp [List.take_of_length_le]) (nk hF fun g1 hF => ?_)))))))))))))))
  refine qf (.sl 577 0 ((x3 ++ [u0.1]).length)) ((577, .row true 1 ((x3 ++ [u0.1]).map vI)) :: (0, .dead) :: (513, .dead) :: (K65 u0 x3)) (effT_app_l rfl (by simp) rfl rfl (by simp) rfl (by decide) g1 rfl) (qp (.sl 577 0 ((x3 ++ [u0.1]).length)) rfl (r_nil (blockQ_n (thenQ_n (w_reg 705 833 rfl rfl (qp (AI (w64 (x2 + 1))) rfl (qp (AI (w64 (x2 + 1))) rfl (r_nil (thenQ_n ?_)))))))))
  refine ar (l' := [(3, .sl 0 0 (x3 ++ [u0.1]).length), (6, AL 2 (v0.map eNote)), (7, AI (v0.length : Int)), (8, AI (w64 (x2 + 1)))]) (L := [(0, .row true 1 ((x3 ++ [u0.1]).map vI))]) [3, 6, 7, 8] [(577, 0)] 1 ⟨_, by rfl, hF⟩
 exact w_exit (thenQ_e (thenQ_e (blockQ_e (thenQ_n (ws 65 193 (qp (.sl 0 0 x3.length) rfl (qp (.sl 0 0 x3.length) rfl (rR hF))))))))

def c78 : MC := (sr [rg 2 (.f (.box t0)), pT 4 (.mv (ci 0)), pT 5 (.mv (ci 0))] (.seq (sr [mvt 8 1, zT 9 8, pT 10 (.mv (ci 0))] (.block 0 (.loop (sr [bT 11 .lss t10 t9] (.seq (cx t11 0) (.seq (.block 1 (sr [mvt 12 10, iT 13 8 10 1, lT 14 13, mvt 6 12, mvt 7 14] (.block 2 (sr [mP 16 t6, bF 17 .eql t16 (ci 0), mP 18 t17, gT 19 18 (.ld t2 6 true), mT 20 18 t7, ⟨(some 21), (some (18, true)), (.call false 132 [t20])⟩, ⟨(some 22), (some (18, true)), (.call false 131 [t19, t21])⟩, gT 23 18 (.not t22), pF 24 (.pick t18 t23 cf), mP 15 t24] (.cond t15 (sr [pT 4 (.mv (ci 0)), pT 5 (.mv (ci 1))] .ret) (sr [mP 26 t6, bF 27 .gtr t26 (ci 0), mP 28 t27, gT 29 28 (.ld t2 6 true), mT 30 28 t1, mT 31 28 t6, bG 32 28 .sub t31 (ci 1), iG 33 28 30 32 1, lG 34 28 33, mT 35 28 t7, ⟨(some 36), (some (28, true)), (.call false 133 [t29, t34, t35])⟩, bG 37 28 .neq t36 (ci 0), pF 38 (.pick t28 t37 cf), mP 25 t38] (.cond t25 (sr [mP 39 t6, pF 40 (.ld t2 6 true), mP 41 t1, mP 42 t6, bF 43 .sub t42 (ci 1), iF 44 41 43 1, lF 45 44, mP 46 t7, dF 47 133 [t40, t45, t46], mP 4 t39, mP 5 t47] .ret) .skip))))))) (.reg [bT 48 .add t10 (ci 1), mvt 10 48]))))))) (sr [pT 4 (.mv (ci 0)), pT 5 (.mv (ci 0))] .ret)))
theorem c78_ : IsF Tryz.prog 78 c78 [(.tmp 4), (.tmp 5)] := ⟨by kernel_rfl, by kernel_rfl⟩

def F_impl_Raga_firstWrong_j2 (v0 : TRaga) (v1 : List Int) (u0 : Int) (x5 : Int) (k0 : Int → Option (TNote)) (x9 : Bool) : Option (TNote) :=
 (bif x9 then ((ix v1 (w64 (x5 - 1))).bind fun u7 => ((F_impl_Raga_reason v0 u7 u0).bind fun u8 => some (x5, u8)))
 else k0 (w64 (x5 + 1)))
def F_impl_Raga_firstWrong_j1 (v0 : TRaga) (v1 : List Int) (u0 : Int) (x5 : Int) (k0 : Int → Option (TNote)) (x8 : Bool) : Option (TNote) :=
 (bif x8 then some (0, 1)
 else (bif (decide ((0 : Int) < x5)) then ((ix v1 (w64 (x5 - 1))).bind fun u5 => ((F_impl_Raga_reason v0 u5 u0).bind fun u6 => F_impl_Raga_firstWrong_j2 v0 v1 u0 x5 k0 (decide (u6 ≠ (0 : Int)))))
 else F_impl_Raga_firstWrong_j2 v0 v1 u0 x5 k0 false))
def F_impl_Raga_firstWrong_l0 (v0 : TRaga) (v1 : List Int) (k0 : Int → Option (TNote)) : Int → Option (TNote)
 | x5 => (bif (decide (x5 < (v1.length : Int))) then ((ix v1 x5).bind fun u0 => (bif (decide (x5 = (0 : Int))) then ((F_impl_ToneOf u0).bind fun u3 => ((F_impl_Raga_hasTone v0 u3).bind fun u4 => F_impl_Raga_firstWrong_j1 v0 v1 u0 x5 k0 (!u4)))
 else F_impl_Raga_firstWrong_j1 v0 v1 u0 x5 k0 false))
 else some (0, 0))
def F_impl_Raga_firstWrong (v0 : TRaga) (v1 : List Int) : Option (TNote) :=
 loop (F_impl_Raga_firstWrong_l0 v0 v1) 0
@[simp] abbrev K67 (v0 : TRaga) : List AV := [AS v0.1, AL 1 (v0.2.1.map vI), AL 1 (v0.2.2.1.map vI), AI v0.2.2.2.1, AI v0.2.2.2.2.1, AL 1 (v0.2.2.2.2.2.map (eL 1 vI))]
@[simp] abbrev K66 (v0 : TRaga) : List (Nat × Root) := [(0, .box (K67 v0))]
@[simp] abbrev K68 (v1 : List Int) : V := .sl 1 (v1.map vI)
@[simp] abbrev K69 (v1 : List Int) : Nat × AV := (9, AI (v1.length : Int))
@[simp] abbrev K6a (v1 : List Int) : Nat × AV := (1, .val none (K68 v1))
@[simp] abbrev K6b (v1 : List Int) : Nat × AV := (8, .val none (K68 v1))
@[simp] def res_impl_Raga_firstWrong (r : TNote) : RV := .tup [.one (.val (.int .i64 r.1)), .one (.val (.int .i64 r.2))]
theorem con_impl_Raga_firstWrong {v0 : TRaga} {v1 : List Int} {r : TNote} (hF : F_impl_Raga_firstWrong v0 v1 = some r) : Con Tryz.prog 78 [eRaga v0, .sl 1 (v1.map vI)] (res_impl_Raga_firstWrong r) := by
 unfold F_impl_Raga_firstWrong at hF
 refine con_of c78_.1 fun N => ?_
 refine ws 0 192 (qf (.ptr 0 0 0) (K66 v0) (by simp) (qp (AI 0) rfl (qp (AI 0) rfl (r_nil (w_seq (ws 192 384 (qp (.val none (K68 v1)) rfl (qp (AI (v1.length : Int)) (ev_len_n rfl) (qp (AI 0) rfl (r_nil (w_block ?_)))))))))))
 refine w_ren (l' := [(K6a v1), (2, .ptr 0 0 0), (K6b v1), (K69 v1), (10, AI 0)]) (L := (K66 v0)) [1, 2, 8, 9, 10] [(0, 0)] 1 (by first | rfl | simp) (by first | rfl | simp) (by decide) (by decide) (by decide) ?_
 refine w_loopF (F_impl_Raga_firstWrong_l0 v0 v1) (fun s : Int => mkS [(K6a v1), (2, .ptr 0 0 0), (K6b v1), (K69 v1), (10, AI s)] (fo (K66 v0)) 1) hF ?_
 rintro k0 x5 hF
 rw [F_impl_Raga_firstWrong_l0] at hF
 try dsimp only
 refine ws 1 65 (qp (AB (decide (x5 < (v1.length : Int)))) rfl (r_nil (w_seq ?_)))
 refine cF hF (fun hF => ?_) fun hF => ?_
 ·
  refine w_skip (thenQ_n (w_seq (w_block (ws 65 385 (qp (AI x5) rfl (bk hF fun u0 e0 hF => qp (.val none (.ptr [.int .i64 u0])) (ev_iad_n rfl rfl e0 rfl) (qp (AI u0) rfl (qp (AI x5) rfl (qp (AI u0) rfl (r_nil (w_block ?_)))))))))))
  refine w_meet (fun s' => ∃ (x8 : Bool), s' = mkS [(K6a v1), (2, .ptr 0 0 0), (6, AI x5), (7, AI u0), (K6b v1), (K69 v1), (10, AI x5), (15, AB x8)] (fo (K66 v0)) 1 ∧ F_impl_Raga_firstWrong_j1 v0 v1 u0 x5 k0 x8 = some r) ?_ ?_
  ·
   refine w_reg 385 1025 rfl rfl (qp (AI x5) rfl (qp (AB (decide (x5 = (0 : Int)))) rfl (qp (AB (decide (x5 = (0 : Int)))) rfl ?_)))
   refine q_case 18 hF rfl (fun hF => ?_) (fun hF => ?_)
   ·
    refine qg (.agg (K67 v0)) rfl rfl (qg (AI u0) rfl rfl (bk hF fun u3 e3 hF => qG (AI u3) (K66 v0) (con_impl_ToneOf e3) c132_ (bk hF fun u4 e4 hF => qG (AB u4) (K66 v0) (con_impl_Raga_hasTone e4) c131_ (qg (AB (!u4)) rfl rfl (qp (AB (!u4)) rfl (qp (AB (!u4)) rfl (r_nil (thenQ_n ?_))))))))
    refine ar (l' := [(K6a v1), (2, .ptr 0 0 0), (6, AI x5), (7, AI u0), (K6b v1), (K69 v1), (10, AI x5), (15, AB (!u4))]) (L := (K66 v0)) [1, 2, 6, 7, 8, 9, 10, 15] [(0, 0)] 1 ⟨_, rfl, hF⟩
   refine qn5 (qp (AB false) rfl (qp (AB false) rfl (r_nil (thenQ_n ?_))))
   refine ar (l' := [(K6a v1), (2, .ptr 0 0 0), (6, AI x5), (7, AI u0), (K6b v1), (K69 v1), (10, AI x5), (15, AB false)]) (L := (K66 v0)) [1, 2, 6, 7, 8, 9, 10, 15] [(0, 0)] 1 ⟨_, rfl, hF⟩
  rintro s' ⟨x8, rfl, hF⟩
  unfold F_impl_Raga_firstWrong_j1 at hF
  refine cF hF (fun hF => ws 1 129 (qp (AI 0) rfl (qp (AI 1) rfl (r_nil (w_ret (blockQ_r (blockQ_r (thenQ_r (thenQ_r (blockQ_r (thenQ_r (eQ hF)))))))))))) fun hF => ?_
  refine w_meet (fun s' => ∃ (x9 : Bool), s' = mkS [(K6a v1), (2, .ptr 0 0 0), (6, AI x5), (7, AI u0), (K6b v1), (K69 v1), (10, AI x5), (25, AB x9)] (fo (K66 v0)) 1 ∧ F_impl_Raga_firstWrong_j2 v0 v1 u0 x5 k0 x9 = some r) ?_ ?_
  ·
   refine w_reg 1 897 rfl rfl (qp (AI x5) rfl (qp (AB (decide ((0 : Int) < x5))) rfl (qp (AB (decide ((0 : Int) < x5))) rfl ?_)))
   refine q_case 28 hF rfl (fun hF => ?_) (fun hF => ?_)
   ·
    refine qg (.agg (K67 v0)) rfl rfl (qg (.val none (K68 v1)) rfl rfl (qg (AI x5) rfl rfl (qg (AI (w64 (x5 - 1))) rfl rfl (bk hF fun u5 e5 hF => qg (.val none (.ptr [.int .i64 u5])) rfl (ev_iad_n rfl rfl e5 rfl) (qg (AI u5) rfl rfl (qg (AI u0) rfl rfl (bk hF fun u6 e6 hF => qG (AI u6) (K66 v0) (con_impl_Raga_reason e6) c133_ (qg (AB (decide (u6 ≠ (0 : Int)))) rfl rfl (qp (AB (decide (u6 ≠ (0 : Int)))) rfl (qp (AB (decide (u6 ≠ (0 : Int)))) rfl (r_nil (thenQ_n ?_))))))))))))
    refine ar (l' := [(K6a v1), (2, .ptr 0 0 0), (6, AI x5), (7, AI u0), (K6b v1), (K69 v1), (10, AI x5), (25, AB (decide (u6 ≠ (0 : Int))))]) (L := (K66 v0)) [1, 2, 6, 7, 8, 9, 10, 25] [(0, 0)] 1 ⟨_, rfl, hF⟩
   refine qn8 (qn rfl (qp (AB false) rfl (qp (AB false) rfl (r_nil (thenQ_n ?_)))))
   refine ar (l' := [(K6a v1), (2, .ptr 0 0 0), (6, AI x5), (7, AI u0), (K6b v1), (K69 v1), (10, AI x5), (25, AB false)]) (L := (K66 v0)) [1, 2, 6, 7, 8, 9, 10, 25] [(0, 0)] 1 ⟨_, rfl, hF⟩
  rintro s' ⟨x9, rfl, hF⟩
  unfold F_impl_Raga_firstWrong_j2 at hF
  refine cF hF (fun hF => ?_) fun hF => ?_
  ·
   refine ws 1 705 (qp (AI x5) rfl (qp (.agg (K67 v0)) rfl (qp (.val none (K68 v1)) rfl (qp (AI x5) rfl (qp (AI (w64 (x5 - 1))) rfl (bk hF fun u7 e7 hF => qp (.val none (.ptr [.int .i64 u7])) (ev_iad_n rfl rfl e7 rfl) (qp (AI u7) rfl (qp (AI u0) rfl (bk hF fun u8 e8 hF => qC (AI u8) (K66 v0) (con_impl_Raga_reason e8) c133_ (qp (AI x5) rfl (qp (AI u8) rfl (r_nil (w_ret (blockQ_r ?_))))))))))))))
   exact blockQ_r (thenQ_r (thenQ_r (blockQ_r (thenQ_r (eQ hF)))))
  refine w_skip (blockQ_n (blockQ_n (thenQ_n (w_reg 1 129 rfl rfl (qp (AI (w64 (x5 + 1))) rfl (qp (AI (w64 (x5 + 1))) rfl (r_nil (thenQ_n ?_))))))))
  refine ar (l' := [(K6a v1), (2, .ptr 0 0 0), (K6b v1), (K69 v1), (10, AI (w64 (x5 + 1)))]) (L := (K66 v0)) [1, 2, 8, 9, 10] [(0, 0)] 1 ⟨_, by rfl, hF⟩
 exact w_exit (thenQ_e (thenQ_e (blockQ_e (thenQ_n (ws 65 193 (qp (AI 0) rfl (qp (AI 0) rfl (rR hF))))))))

theorem c134_ok : okFn Tryz.prog 134 = true := by kernel_rfl




def c79 : MC := (sr [pT 2 (.mv (.c (.str [])))] (sr [mvt 3 0, dT 4 134 [t3, (ci 10)], mvt 2 4] .ret))
theorem c79_ : IsF Tryz.prog 79 c79 [(.tmp 2)] := ⟨by kernel_rfl, by kernel_rfl⟩

def F_impl_Decimal (v0 : Int) : Option (List UInt8) :=
 ((F_formatInt v0 10).bind fun u0 => some u0)
@[simp] def res_impl_Decimal (r : List UInt8) : RV := .one (.one (.val (.str r)))
theorem con_impl_Decimal {v0 : Int} {r : List UInt8} (hF : F_impl_Decimal v0 = some r) : Con Tryz.prog 79 [.int .i64 v0] (res_impl_Decimal r) := by
 unfold F_impl_Decimal at hF
 refine con_of c79_.1 fun N => ?_
 exact ws 0 64 (qp (AS []) rfl (r_nil (ws 64 256 (qp (AI v0) rfl (bk hF fun u0 e0 hF => qc (AS u0) [] false (con_formatInt e0) c134_ok (by first | rfl | simp) rfl (qp (AS u0) rfl (rR hF)))))))

def c190 : MC := (sr [rg 2 (.f (.box t0)), pT 4 (.mv cf)] (sr [mvt 5 1, pT 6 (.fad t2 0), lT 7 6, bT 8 .sub t7 (ci 1), dT 9 137 [t5, (ci 0), t8], mvt 4 9] .ret))
theorem c190_ : IsF Tryz.prog 190 c190 [(.tmp 4)] := ⟨by kernel_rfl, by kernel_rfl⟩

def F_impl_Grammar_hasState (v0 : TGrammar) (v1 : Int) : Option (Bool) :=
 ((F_impl_within v1 0 (w64 (v0.1 - 1))).bind fun u0 => some u0)
@[simp] abbrev K6c (v0 : TGrammar) : List (Nat × Root) := [(0, .box [AI v0.1, AI v0.2.1, AL 1 (v0.2.2.1.map vI), AL 3 (v0.2.2.2.map eArc)])]
@[simp] def res_impl_Grammar_hasState (r : Bool) : RV := .one (.one (.val (.bool r)))
theorem con_impl_Grammar_hasState {v0 : TGrammar} {v1 : Int} {r : Bool} (hF : F_impl_Grammar_hasState v0 v1 = some r) : Con Tryz.prog 190 [eGrammar v0, .int .i64 v1] (res_impl_Grammar_hasState r) := by
 unfold F_impl_Grammar_hasState at hF
 refine con_of c190_.1 fun N => ?_
 exact ws 0 128 (qf (.ptr 0 0 0) (K6c v0) (by simp) (qp (AB false) rfl (r_nil (ws 128 512 (qp (AI v1) rfl (qp (.ptr 0 0 0) rfl (qp (AI v0.1) rfl (qp (AI (w64 (v0.1 - 1))) rfl (bk hF fun u0 e0 hF => qC (AB u0) (K6c v0) (con_impl_within e0) c137_ (qp (AB u0) rfl (rR hF)))))))))))

def c193 : MC := (sr [rg 2 (.f (.box t0)), rg 3 (.f (.box t1)), pT 4 (.mv (ci 0))] (sr [pF 5 (.fad t2 0), lF 6 5, pF 7 (.fad t3 0), lF 8 7, dF 9 219 [t6, t8], pF 10 (.fad t2 1), lF 11 10, pF 12 (.fad t3 1), lF 13 12, dF 14 219 [t11, t13], rg 15 (.f (.bsl 1 [t9, t14])), dF 16 95 [t15], mP 4 t16] .ret))
theorem c193_ : IsF Tryz.prog 193 c193 [(.tmp 4)] := ⟨by kernel_rfl, by kernel_rfl⟩

def F_impl_compareArcs (v0 : TArc) (v1 : TArc) : Option (Int) :=
 ((F_cmp_Compare_int64 v0.1 v1.1).bind fun u0 => ((F_cmp_Compare_int64 v0.2.1 v1.2.1).bind fun u1 => ((F_cmp_Or_int [u0, u1]).bind fun u2 => some u2)))
@[simp] abbrev K6d (v1 : TArc) (v0 : TArc) : List (Nat × Root) := [(64, .box [AI v1.1, AI v1.2.1, AI v1.2.2]), (0, .box [AI v0.1, AI v0.2.1, AI v0.2.2])]
@[simp] def res_impl_compareArcs (r : Int) : RV := .one (.one (.val (.int .i64 r)))
theorem con_impl_compareArcs {v0 : TArc} {v1 : TArc} {r : Int} (hF : F_impl_compareArcs v0 v1 = some r) : Con Tryz.prog 193 [eArc v0, eArc v1] (res_impl_compareArcs r) := by
 unfold F_impl_compareArcs at hF
 refine con_of c193_.1 fun N => ?_
 refine ws 0 192 (qf (.ptr 0 0 0) [(0, .box [AI v0.1, AI v0.2.1, AI v0.2.2])] (by simp) (qf (.ptr 64 0 0) (K6d v1 v0) (by simp) (qp (AI 0) rfl (r_nil (ws 192 1024 (qp (.ptr 0 0 0) rfl (qp (AI v0.1) rfl (qp (.ptr 64 0 0) rfl (qp (AI v1.1) rfl (bk hF fun u0 e0 hF => qC (AI u0) (K6d v1 v0) (con_cmp_Compare_int64 e0) c219_ (qp (.ptr 0 0 1) rfl (qp (AI v0.2.1) rfl (qp (.ptr 64 0 1) rfl (qp (AI v1.2.1) rfl (bk hF fun u1 e1 hF => ?_)))))))))))))))
 exact qC (AI u1) (K6d v1 v0) (con_cmp_Compare_int64 e1) c219_ (qf (.sl 832 0 ([u0, u1].length)) ((832, .row true 1 ([u0, u1].map vI)) :: (K6d v1 v0)) (by simp [List.take_of_length_le]) (bk hF fun u2 e2 hF => qc (AI u2) ((832, .row true 1 ([u0, u1].map vI)) :: (K6d v1 v0)) true (con_cmp_Or_int e2) c95_.2 (by simp [List.take_of_length_le]) rfl (qp (AI u2) rfl (rR hF))))

def c138 : MC := (sr [rg 1 (.f (.box t0)), pT 2 (.mv cf)] (.seq (sr [pT 5 (.fad t1 0), lT 6 5, dT 7 137 [t6, (ci 1), (ci 32)], pT 8 (.not t7), mvt 9 8, kF 10 9 (.ld t1 4 true), kF 11 9 (.fad t1 1), kF 12 9 (.ld t11 1 false), ⟨(some 13), (some (9, false)), (.call true 190 [t10, t12])⟩, kF 14 9 (.not t13), pT 15 (.pick t9 ct t14), mvt 16 15, kF 17 16 (.fad t1 2), kF 18 16 (.ld t17 1 false), ⟨(some 19), (some (16, false)), (.call true 191 [t18])⟩, kF 20 16 (.not t19), pT 21 (.pick t16 ct t20), mvt 22 21, kF 23 22 (.fad t1 2), kF 24 22 (.ld t23 1 false), kF 25 22 (.fad t1 0), kF 26 22 (.ld t25 1 false), kF 27 22 (.bin .sub t26 (ci 1)), ⟨(some 28), (some (22, false)), (.call true 192 [t24, (ci 0), t27])⟩, kF 29 22 (.not t28), pT 30 (.pick t22 ct t29), mvt 31 30, kF 32 31 (.fad t1 3), kF 33 31 (.ld t32 1 false), kF 34 31 (.len t33), kF 35 31 (.bin .gtr t34 (ci 256)), pT 36 (.pick t31 ct t35)] (.cond t36 (sr [pT 2 (.mv cf)] .ret) .skip)) (.seq (sr [pT 37 (.fad t1 3), lT 38 37, zT 39 38, pT 40 (.mv (ci 0))] (.block 0 (.loop (sr [bT 41 .lss t40 t39] (.seq (cx t41 0) (.seq (.block 1 (sr [mvt 42 40, iT 43 38 40 3, pT 44 (.ld t43 3 true), rg 4 (.f (.alloc [((.int .i64 0), (0, false)), ((.int .i64 0), (0, false)), ((.int .i64 0), (0, false))])), mvt 3 42, ⟨none, none, (.f (.st t4 t44 3))⟩] (sr [pF 45 (.ld t1 4 true), pF 46 (.fad t4 0), lF 47 46, dF 48 190 [t45, t47], pF 49 (.not t48), mP 50 t49, gF 51 50 (.ld t1 4 true), gF 52 50 (.fad t4 2), lH 53 50 52, ⟨(some 54), (some (50, false)), (.call false 190 [t51, t53])⟩, gF 55 50 (.not t54), pF 56 (.pick t50 ct t55), mP 57 t56, gF 58 57 (.fad t4 1), lH 59 57 58, ⟨(some 60), (some (57, false)), (.call false 136 [t59])⟩, gF 61 57 (.not t60), pF 62 (.pick t57 ct t61), mP 63 t62, mF 64 63 t3, bH 65 63 .gtr t64 (ci 0), mF 66 63 t65, gT 67 66 (.fad t1 3), lG 68 66 67, mT 69 66 t3, bG 70 66 .sub t69 (ci 1), iG 71 66 68 70 3, gT 72 66 (.ld t71 3 true), gT 73 66 (.ld t4 3 true), ⟨(some 74), (some (66, true)), (.call false 193 [t72, t73])⟩, bG 75 66 .geq t74 (ci 0), gF 76 63 (.pick t66 t75 cf), pF 77 (.pick t63 ct t76)] (.cond t77 (sr [pT 2 (.mv cf)] .ret) .skip)))) (.reg [bT 78 .add t40 (ci 1), mvt 40 78]))))))) (sr [pT 2 (.mv ct)] .ret))))
theorem c138_ : IsF Tryz.prog 138 c138 [(.tmp 2)] := ⟨by kernel_rfl, by kernel_rfl⟩

def F_impl_ValidGrammar_l0 (v0 : TGrammar) (k1 : Int → Option (Bool)) : Int → Option (Bool)
 | x3 => (bif (decide (x3 < (v0.2.2.2.length : Int))) then ((ix v0.2.2.2 x3).bind fun u16 => ((F_impl_Grammar_hasState v0 u16.1).bind fun u17 => (bif (!u17) then some false
 else ((F_impl_Grammar_hasState v0 u16.2.2).bind fun u18 => (bif (!u18) then some false
 else ((F_impl_pitchOk u16.2.1).bind fun u19 => (bif (!u19) then some false
 else (bif (decide ((0 : Int) < x3)) then ((ix v0.2.2.2 (w64 (x3 - 1))).bind fun u20 => ((F_impl_compareArcs u20 u16).bind fun u21 => (bif (decide ((0 : Int) ≤ u21)) then some false
 else k1 (w64 (x3 + 1)))))
 else k1 (w64 (x3 + 1))))))))))
 else some true)
def F_impl_ValidGrammar (v0 : TGrammar) : Option (Bool) :=
 ((F_impl_within v0.1 1 32).bind fun u0 => (bif (!u0) then some false
 else ((F_impl_Grammar_hasState v0 v0.2.1).bind fun u1 => (bif (!u1) then some false
 else ((F_impl_increasing v0.2.2.1).bind fun u2 => (bif (!u2) then some false
 else ((F_impl_allWithin v0.2.2.1 0 (w64 (v0.1 - 1))).bind fun u3 => (bif (!u3) then some false
 else (bif (decide ((256 : Int) < (v0.2.2.2.length : Int))) then some false
 else loop (F_impl_ValidGrammar_l0 v0) 0)))))))))
@[simp] abbrev K6j (v0 : TGrammar) : V := .sl 3 (v0.2.2.2.map eArc)
@[simp] abbrev K6i (v0 : TGrammar) : List AV := [AI v0.1, AI v0.2.1, AL 1 (v0.2.2.1.map vI), .val none (K6j v0)]
@[simp] abbrev K6f (v0 : TGrammar) : List (Nat × Root) := [(0, .box (K6i v0))]
@[simp] abbrev K6g (v0 : TGrammar) : List (Nat × Root) := ((257, .box [AI 0, AI 0, AI 0]) :: (K6f v0))
@[simp] abbrev K6h (u16 : TArc) (v0 : TGrammar) : List (Nat × Root) := ((257, .box [AI u16.1, AI u16.2.1, AI u16.2.2]) :: (K6g v0))
@[simp] def res_impl_ValidGrammar (r : Bool) : RV := .one (.one (.val (.bool r)))
theorem con_impl_ValidGrammar {v0 : TGrammar} {r : Bool} (hF : F_impl_ValidGrammar v0 = some r) : Con Tryz.prog 138 [eGrammar v0] (res_impl_ValidGrammar r) := by
 unfold F_impl_ValidGrammar at hF
 refine con_of c138_.1 fun N => ?_
 refine ws 0 128 (qf (.ptr 0 0 0) (K6f v0) (by simp) (qp (AB false) rfl (r_nil (w_seq (ws 128 2176 (qp (.ptr 0 0 0) rfl (qp (AI v0.1) rfl (bk hF fun u0 e0 hF => qC (AB u0) (K6f v0) (con_impl_within e0) c137_ (qp (AB (!u0)) rfl (qp (AB (!u0)) rfl ?_))))))))))
 refine q_case 9 hF rfl (fun hF => ?_) (fun hF => ?_)
 ·
  refine qn5 (qp (AB true) rfl (qp (AB true) rfl (qn rfl (qn3 (qp (AB true) rfl (qp (AB true) rfl (qn3 (qn4 (qp (AB true) rfl (qp (AB true) rfl (qn2 (qn2 (qp (AB true) rfl ?_)))))))))))))
  exact r_nil (w_true rfl (ws 2176 2240 (qp (AB false) rfl (r_nil (w_ret (thenQ_r (eQ hF)))))))
 refine qg (.agg (K6i v0)) rfl rfl (qg (.ptr 0 0 1) rfl rfl (qg (AI v0.2.1) rfl rfl (bk hF fun u1 e1 hF => qG (AB u1) (K6f v0) (con_impl_Grammar_hasState e1) c190_ (qg (AB (!u1)) rfl rfl (qp (AB (!u1)) rfl (qp (AB (!u1)) rfl ?_))))))
 refine q_case 16 hF rfl (fun hF => ?_) (fun hF => ?_)
 ·
  refine qn4 (qp (AB true) rfl (qp (AB true) rfl (qn2 (qn5 (qp (AB true) rfl (qp (AB true) rfl (qn rfl (qn3 (qp (AB true) rfl (r_nil (w_true rfl (ws 2176 2240 (qp (AB false) rfl ?_)))))))))))))
  exact r_nil (w_ret (thenQ_r (eQ hF)))
 refine qg (.ptr 0 0 2) rfl rfl (qg (AL 1 (v0.2.2.1.map vI)) rfl rfl (bk hF fun u2 e2 hF => qG (AB u2) (K6f v0) (con_impl_increasing e2) c191_ (qg (AB (!u2)) rfl rfl (qp (AB (!u2)) rfl (qp (AB (!u2)) rfl ?_)))))
 refine q_case 22 hF rfl (fun hF => qn7 (qp (AB true) rfl (qp (AB true) rfl (qn4 (qp (AB true) rfl (r_nil (w_true rfl (ws 2176 2240 (qp (AB false) rfl (r_nil (w_ret (thenQ_r (eQ hF))))))))))))) fun hF => ?_
 refine qg (.ptr 0 0 2) rfl rfl (qg (AL 1 (v0.2.2.1.map vI)) rfl rfl (qg (.ptr 0 0 0) rfl rfl (qg (AI v0.1) rfl rfl (qg (AI (w64 (v0.1 - 1))) rfl rfl (bk hF fun u3 e3 hF => qG (AB u3) (K6f v0) (con_impl_allWithin e3) c192_ (qg (AB (!u3)) rfl rfl (qp (AB (!u3)) rfl (qp (AB (!u3)) rfl ?_))))))))
 refine q_case 31 hF rfl (fun hF => qn4 (qp (AB true) rfl (r_nil (w_true rfl (ws 2176 2240 (qp (AB false) rfl (r_nil (w_ret (thenQ_r (eQ hF)))))))))) fun hF => ?_
 refine qg (.ptr 0 0 3) rfl rfl (qg (.val none (K6j v0)) rfl rfl (qg (AI (v0.2.2.2.length : Int)) rfl (ev_len_n rfl) (qg (AB (decide ((256 : Int) < (v0.2.2.2.length : Int)))) rfl rfl (qp (AB (decide ((256 : Int) < (v0.2.2.2.length : Int)))) rfl (r_nil (cF hF (fun hF => ws 2176 2240 (qp (AB false) rfl (r_nil (w_ret (thenQ_r (eQ hF)))))) fun hF => ?_))))))
 refine w_skip (thenQ_n (w_seq (ws 2176 2432 (qp (.ptr 0 0 3) rfl (qp (.val none (K6j v0)) rfl (qp (AI (v0.2.2.2.length : Int)) (ev_len_n rfl) (qp (AI 0) rfl (r_nil (w_block ?_)))))))))
 refine w_ren (l' := [(1, .ptr 0 0 0), (38, .val none (K6j v0)), (39, AI (v0.2.2.2.length : Int)), (40, AI 0)]) (L := (K6f v0)) [1, 38, 39, 40] [(0, 0)] 1 (by first | rfl | simp) (by first | rfl | simp) (by decide) (by decide) (by decide) ?_
 refine w_loopF (F_impl_ValidGrammar_l0 v0) (fun s : Int => mkS [(1, .ptr 0 0 0), (38, .val none (K6j v0)), (39, AI (v0.2.2.2.length : Int)), (40, AI s)] (fo (K6f v0)) 1) hF ?_
 rintro k1 x3 hF
 rw [F_impl_ValidGrammar_l0] at hF
 try dsimp only
 refine ws 1 65 (qp (AB (decide (x3 < (v0.2.2.2.length : Int)))) rfl (r_nil (w_seq ?_)))
 refine cF hF (fun hF => ?_) fun hF => ?_
 ·
  refine w_skip (thenQ_n (w_seq (w_block (ws 65 449 (qp (AI x3) rfl (bk hF fun u16 e16 hF => qp (.val none (.ptr [.int .i64 u16.1, .int .i64 u16.2.1, .int .i64 u16.2.2])) (ev_iad_n rfl rfl e16 rfl) (qp (.val none (eArc u16)) rfl (qf (.ptr 257 0 0) (K6g v0) (by simp) (qp (AI x3) rfl (qf0 (.undef) (K6h u16 v0) (by simp) (r_nil (ws 449 2561 ?_))))))))))))
  refine qp (.agg (K6i v0)) rfl (qp (.ptr 257 0 0) rfl (qp (AI u16.1) rfl (bk hF fun u17 e17 hF => qC (AB u17) (K6h u16 v0) (con_impl_Grammar_hasState e17) c190_ (qp (AB (!u17)) rfl (qp (AB (!u17)) rfl ?_)))))
  refine q_case 50 hF rfl (fun hF => ?_) (fun hF => ?_)
  ·
   refine qn5 (qp (AB true) rfl (qp (AB true) rfl (qn rfl (qn3 (qp (AB true) rfl (qp (AB true) rfl (qn3 ?_)))))))
   refine qu rfl (qu rfl (qu rfl (qu rfl (qu rfl (qu rfl (qu rfl (qu rfl (qu rfl (qn rfl (qp (AB true) rfl (r_nil (w_true rfl (ws 2561 2625 ?_)))))))))))))
   exact qp (AB false) rfl (r_nil (w_ret (blockQ_r (thenQ_r (thenQ_r (blockQ_r (thenQ_r (eQ hF))))))))
  refine qg (.agg (K6i v0)) rfl rfl (qg (.ptr 257 0 2) rfl rfl (qg (AI u16.2.2) rfl rfl (bk hF fun u18 e18 hF => qG (AB u18) (K6h u16 v0) (con_impl_Grammar_hasState e18) c190_ (qg (AB (!u18)) rfl rfl (qp (AB (!u18)) rfl (qp (AB (!u18)) rfl ?_))))))
  refine q_case 57 hF rfl (fun hF => ?_) (fun hF => ?_)
  ·
   refine qn4 (qp (AB true) rfl (qp (AB true) rfl (qn2 (qn rfl (qu rfl (qu rfl (qu rfl (qu rfl (qu rfl (qu rfl (qu rfl ?_)))))))))))
   refine qu rfl (qu rfl (qn rfl (qp (AB true) rfl (r_nil (w_true rfl (ws 2561 2625 (qp (AB false) rfl (r_nil (w_ret (blockQ_r (thenQ_r (thenQ_r (blockQ_r ?_)))))))))))))
   exact thenQ_r (eQ hF)
  refine qg (.ptr 257 0 1) rfl rfl (qg (AI u16.2.1) rfl rfl (bk hF fun u19 e19 hF => qG (AB u19) (K6h u16 v0) (con_impl_pitchOk e19) c136_ (qg (AB (!u19)) rfl rfl (qp (AB (!u19)) rfl (qp (AB (!u19)) rfl ?_)))))
  refine q_case 63 hF rfl (fun hF => ?_) (fun hF => ?_)
  ·
   refine qn3 (qu rfl (qu rfl (qu rfl (qu rfl (qu rfl (qu rfl (qu rfl (qu rfl (qu rfl (qn rfl (qp (AB true) rfl (r_nil (w_true rfl ?_)))))))))))))
   exact ws 2561 2625 (qp (AB false) rfl (r_nil (w_ret (blockQ_r (thenQ_r (thenQ_r (blockQ_r (thenQ_r (eQ hF)))))))))
  refine qg (AI x3) rfl rfl (qg (AB (decide ((0 : Int) < x3))) rfl rfl (qg (AB (decide ((0 : Int) < x3))) rfl rfl ?_))
  refine q_case 66 hF rfl (fun hF => ?_) (fun hF => ?_)
  ·
   refine qg (.ptr 0 0 3) rfl rfl (qg (.val none (K6j v0)) rfl rfl (qg (AI x3) rfl rfl (qg (AI (w64 (x3 - 1))) rfl rfl (bk hF fun u20 e20 hF => qg (.val none (.ptr [.int .i64 u20.1, .int .i64 u20.2.1, .int .i64 u20.2.2])) rfl (ev_iad_n rfl rfl e20 rfl) (qg (.val none (eArc u20)) rfl rfl (qg (.agg [AI u16.1, AI u16.2.1, AI u16.2.2]) rfl rfl (bk hF fun u21 e21 hF => qG (AI u21) (K6h u16 v0) (con_impl_compareArcs e21) c193_ (qg (AB (decide ((0 : Int) ≤ u21))) rfl rfl (qg (AB (decide ((0 : Int) ≤ u21))) rfl rfl (qp (AB (decide ((0 : Int) ≤ u21))) rfl (r_nil ?_)))))))))))
   refine cF hF (fun hF => ws 2561 2625 (qp (AB false) rfl (r_nil (w_ret (blockQ_r (thenQ_r (thenQ_r (blockQ_r (thenQ_r (eQ hF)))))))))) fun hF => ?_
   refine w_skip (blockQ_n (thenQ_n (w_reg 2561 2689 rfl rfl (qp (AI (w64 (x3 + 1))) rfl (qp (AI (w64 (x3 + 1))) rfl (r_nil (thenQ_n ?_)))))))
   refine ar (l' := [(1, .ptr 0 0 0), (38, .val none (K6j v0)), (39, AI (v0.2.2.2.length : Int)), (40, AI (w64 (x3 + 1)))]) (L := (K6f v0)) [1, 38, 39, 40] [(0, 0)] 1 ⟨_, by rfl, hF⟩
  refine qn8 (qn rfl (qg (AB false) rfl rfl (qp (AB false) rfl (r_nil (w_false rfl (w_skip (blockQ_n (thenQ_n (w_reg 2561 2689 rfl rfl (qp (AI (w64 (x3 + 1))) rfl (qp (AI (w64 (x3 + 1))) rfl ?_)))))))))))
  refine r_nil (thenQ_n ?_)
  refine ar (l' := [(1, .ptr 0 0 0), (38, .val none (K6j v0)), (39, AI (v0.2.2.2.length : Int)), (40, AI (w64 (x3 + 1)))]) (L := (K6f v0)) [1, 38, 39, 40] [(0, 0)] 1 ⟨_, by rfl, hF⟩
 exact w_exit (thenQ_e (thenQ_e (blockQ_e (thenQ_n (ws 65 129 (qp (AB true) rfl (rR hF)))))))

def c141 : MC := (sr [rg 2 (.f (.box t0)), rg 4 (.f (.nilrow 3))] (sr [rg 5 (.f (.nilrow 3))] (.seq (sr [pT 8 (.fad t2 3), lT 9 8, zT 10 9, pT 11 (.mv (ci 0))] (.block 0 (.loop (sr [bT 12 .lss t11 t10] (.seq (cx t12 0) (.seq (.block 1 (sr [iT 13 9 11 3, pT 14 (.ld t13 3 true), rg 7 (.f (.alloc [((.int .i64 0), (0, false)), ((.int .i64 0), (0, false)), ((.int .i64 0), (0, false))])), ⟨none, none, (.f (.st t7 t14 3))⟩] (sr [pT 15 (.fad t7 0), lT 16 15, mvt 17 1, bT 18 .eql t16 t17] (.cond t18 (.reg [mvt 19 5, pT 20 (.ld t7 3 true), rg 21 (.f (.bsl 3 [t20])), rg 22 (.f (.app t19 t21 3 24 true)), mvt 5 22]) .skip)))) (.reg [bT 23 .add t11 (ci 1), mvt 11 23]))))))) (sr [mvt 24 5, mvt 4 24] .ret))))
theorem c141_ : IsF Tryz.prog 141 c141 [(.tmp 4)] := ⟨by kernel_rfl, by kernel_rfl⟩

def F_impl_Grammar_arcsOf_l0 (v0 : TGrammar) (v1 : Int) (k0 : Int × (List TArc) → Option (List TArc)) : Int × (List TArc) → Option (List TArc)
 | (x2, x3) => (bif (decide (x2 < (v0.2.2.2.length : Int))) then ((ix v0.2.2.2 x2).bind fun u0 => (bif (decide (u0.1 = v1)) then (need (room (x3.length + [u0].length) 24) (k0 (w64 (x2 + 1), x3 ++ [u0])))
 else k0 (w64 (x2 + 1), x3)))
 else some x3)
def F_impl_Grammar_arcsOf (v0 : TGrammar) (v1 : Int) : Option (List TArc) :=
 loop (F_impl_Grammar_arcsOf_l0 v0 v1) (0, [])
@[simp] abbrev K6k (v0 : TGrammar) : List (Nat × Root) := [(0, .box [AI v0.1, AI v0.2.1, AL 1 (v0.2.2.1.map vI), AL 3 (v0.2.2.2.map eArc)])]
@[simp] abbrev K6l (v0 : TGrammar) : List (Nat × Root) := ((64, .row true 3 (([] : List Int).map vI)) :: (K6k v0))
@[simp] abbrev K6m (x3 : List TArc) : List (Nat × Root) := [(193, .box [AI 0, AI 0, AI 0]), (0, .row true 3 (x3.map eArc))]
@[simp] abbrev K6n (u0 : TArc) (x3 : List TArc) : List (Nat × Root) := ((193, .box [AI u0.1, AI u0.2.1, AI u0.2.2]) :: (K6m x3))
@[simp] abbrev K6o (u0 : TArc) (x3 : List TArc) : List (Nat × Root) := ((705, .row true 3 ([u0].map eArc)) :: (K6n u0 x3))
@[simp] abbrev K6p (v0 : TGrammar) : Nat × AV := (9, AL 3 (v0.2.2.2.map eArc))
@[simp] def res_impl_Grammar_arcsOf (r : List TArc) : RV := .one (.one (.row true 3 (r.map eArc)))
theorem con_impl_Grammar_arcsOf {v0 : TGrammar} {v1 : Int} {r : List TArc} (hF : F_impl_Grammar_arcsOf v0 v1 = some r) : Con Tryz.prog 141 [eGrammar v0, .int .i64 v1] (res_impl_Grammar_arcsOf r) := by
 unfold F_impl_Grammar_arcsOf at hF
 refine con_of c141_.1 fun N => ?_
 refine ws 0 128 (qf (.ptr 0 0 0) (K6k v0) (by simp) (qf (.sl 64 0 0) (K6l v0) (by simp) (r_nil (ws 128 192 (qf (.sl 128 0 0) ((128, .row true 3 (([] : List TArc).map eArc)) :: (K6l v0)) (by simp) (r_nil (w_seq (ws 192 448 (qp (.ptr 0 0 3) rfl (qp (AL 3 (v0.2.2.2.map eArc)) rfl (qp (AI (v0.2.2.2.length : Int)) (ev_len_n rfl) (qp (AI 0) rfl (r_nil ?_)))))))))))))
 refine w_block ?_
 refine wr (l' := [(1, AI v1), (5, .sl 0 0 0), (K6p v0), (10, AI (v0.2.2.2.length : Int)), (11, AI 0)]) (L := [(0, .row true 3 (([] : List TArc).map eArc))]) [1, 5, 9, 10, 11] [(128, 0)] 1 ?_
 refine w_loopF (F_impl_Grammar_arcsOf_l0 v0 v1) (fun s : Int × (List TArc) => mkS [(1, AI v1), (5, .sl 0 0 s.2.length), (K6p v0), (10, AI (v0.2.2.2.length : Int)), (11, AI s.1)] (fo [(0, .row true 3 (s.2.map eArc))]) 1) hF ?_
 rintro k0 ⟨x2, x3⟩ hF
 rw [F_impl_Grammar_arcsOf_l0] at hF
 try dsimp only
 refine ws 1 65 (qp (AB (decide (x2 < (v0.2.2.2.length : Int)))) rfl (r_nil (w_seq ?_)))
 refine cF hF (fun hF => ?_) fun hF => ?_
 ·
  refine w_skip (thenQ_n (w_seq (w_block (ws 65 321 (bk hF fun u0 e0 hF => qp (.val none (.ptr [.int .i64 u0.1, .int .i64 u0.2.1, .int .i64 u0.2.2])) (ev_iad_n rfl rfl e0 rfl) (qp (.val none (eArc u0)) rfl (qf (.ptr 193 0 0) (K6m x3) (by simp) (qf0 (.undef) (K6n u0 x3) (by simp) (r_nil (ws 321 577 (qp (.ptr 193 0 0) rfl (qp (AI u0.1) rfl (qp (AI v1) rfl (qp (AB (decide (u0.1 = v1))) rfl ?_))))))))))))))
  refine r_nil ?_
  refine cF hF (fun hF => ?_) fun hF => ?_
  ·
   refine w_reg 577 897 rfl rfl (qp (.sl 0 0 x3.length) rfl (qp (.agg [AI u0.1, AI u0.2.1, AI u0.2.2]) rfl (qf (.sl 705 0 ([u0].length)) (K6o u0 x3) (by simp [List.take_of_length_le]) (nk hF fun g1 hF => qf (.sl 769 0 ((x3 ++ [u0]).length)) ((769, .row true 3 ((x3 ++ [u0]).map eArc)) :: (0, .dead) :: (705, .dead) :: (K6o u0 x3)) (effT_app_l rfl (by simp) rfl rfl (by simp) rfl (by decide) g1 rfl) (qp (.sl 769 0 ((x3 ++ [u0]).length)) rfl (r_nil (blockQ_n (thenQ_n (w_reg 897 1025 rfl rfl (qp (AI (w64 (x2 + 1))) rfl (qp (AI (w64 (x2 + 1))) rfl (r_nil ?_))))))))))))
   refine thenQ_n ?_
   refine ar (l' := [(1, AI v1), (5, .sl 0 0 (x3 ++ [u0]).length), (K6p v0), (10, AI (v0.2.2.2.length : Int)), (11, AI (w64 (x2 + 1)))]) (L := [(0, .row true 3 ((x3 ++ [u0]).map eArc))]) [1, 5, 9, 10, 11] [(769, 0)] 1 ⟨_, by rfl, hF⟩
  refine w_skip (blockQ_n (thenQ_n (w_reg 577 705 rfl rfl (qp (AI (w64 (x2 + 1))) rfl (qp (AI (w64 (x2 + 1))) rfl (r_nil (thenQ_n ?_)))))))
  refine ar (l' := [(1, AI v1), (5, .sl 0 0 x3.length), (K6p v0), (10, AI (v0.2.2.2.length : Int)), (11, AI (w64 (x2 + 1)))]) (L := [(0, .row true 3 (x3.map eArc))]) [1, 5, 9, 10, 11] [(0, 0)] 1 ⟨_, by rfl, hF⟩
 exact w_exit (thenQ_e (thenQ_e (blockQ_e (thenQ_n (ws 65 193 (qp (.sl 0 0 x3.length) rfl (qp (.sl 0 0 x3.length) rfl (rR hF))))))))

def c195 : MC := (sr [rg 2 (.f (.box t0)), pT 3 (.mv cf)] (sr [pT 4 (.fad t2 1), lT 5 4, lT 6 1, bT 7 .eql t5 t6, mvt 3 7] .ret))
theorem c195_ : IsF Tryz.prog 195 c195 [(.tmp 3)] := ⟨by kernel_rfl, by kernel_rfl⟩

def F_impl_Grammar_follow_1 (v0 : TArc) (v1 : Int) : Option (Bool) :=
 some (decide (v0.2.1 = v1))
@[simp] def res_impl_Grammar_follow_1 (r : Bool) : RV := .one (.one (.val (.bool r)))
theorem con_impl_Grammar_follow_1 {v0 : TArc} {v1 : Int} {r : Bool} (hF : F_impl_Grammar_follow_1 v0 v1 = some r) : Con Tryz.prog 195 [eArc v0, .ptr [.int .i64 v1]] (res_impl_Grammar_follow_1 r) := by
 unfold F_impl_Grammar_follow_1 at hF
 refine con_of c195_.1 fun N => ?_
 exact ws 0 128 (qf (.ptr 0 0 0) [(0, .box [AI v0.1, AI v0.2.1, AI v0.2.2])] (by simp) (qp (AB false) rfl (r_nil (ws 128 448 (qp (.ptr 0 0 1) rfl (qp (AI v0.2.1) rfl (qp (AI v1) rfl (qp (AB (decide (v0.2.1 = v1))) rfl (qp (AB (decide (v0.2.1 = v1))) rfl (rR hF))))))))))

def c194 : MC := (sr [pT 4 (.mv (ci 0))] (.seq (sr [mvt 6 0, zT 7 6, pT 8 (.mv (ci 0))] (.block 0 (.loop (sr [bT 9 .lss t8 t7] (.seq (cx t9 0) (.seq (.block 1 (sr [mvt 10 8, mvt 5 10] (sr [mvt 11 1, mvt 12 0, mvt 13 5, iT 14 12 13 3, pT 15 (.ld t14 3 true), rg 16 (.callv t11 [t15])] (.cond t16 (sr [mvt 17 5, mvt 4 17] .ret) .skip)))) (.reg [bT 18 .add t8 (ci 1), mvt 8 18]))))))) (sr [pT 4 (.mv (ci (-1)))] .ret)))
theorem c194_ : IsF Tryz.prog 194 c194 [(.tmp 4)] := ⟨by kernel_rfl, by kernel_rfl⟩

def F_slices_IndexFunc_SArc_Arc_l0 (v0 : List TArc) (v1 : Int) (k0 : Int → Option (Int)) : Int → Option (Int)
 | x1 => (bif (decide (x1 < (v0.length : Int))) then ((ix v0 x1).bind fun u0 => ((F_impl_Grammar_follow_1 u0 v1).bind fun u1 => (bif u1 then some x1
 else k0 (w64 (x1 + 1)))))
 else some (-1))
def F_slices_IndexFunc_SArc_Arc (v0 : List TArc) (v1 : Int) : Option (Int) :=
 loop (F_slices_IndexFunc_SArc_Arc_l0 v0 v1) 0
@[simp] def res_slices_IndexFunc_SArc_Arc (r : Int) : RV := .one (.one (.val (.int .i64 r)))
theorem con_slices_IndexFunc_SArc_Arc {v0 : List TArc} {v1 : Int} {r : Int} (hF : F_slices_IndexFunc_SArc_Arc v0 v1 = some r) : Con Tryz.prog 194 [.sl 3 (v0.map eArc), .fn 195 [.ptr [.int .i64 v1]]] (res_slices_IndexFunc_SArc_Arc r) := by
 unfold F_slices_IndexFunc_SArc_Arc at hF
 refine con_of c194_.1 fun N => ?_
 refine ws 0 64 (qp (AI 0) rfl (r_nil (w_seq (ws 64 256 (qp (AL 3 (v0.map eArc)) rfl (qp (AI (v0.length : Int)) (ev_len_n rfl) (qp (AI 0) rfl (r_nil (w_block ?_)))))))))
 refine wr (l' := [(0, AL 3 (v0.map eArc)), (1, .val none (.fn 195 [.ptr [.int .i64 v1]])), (7, AI (v0.length : Int)), (8, AI 0)]) (L := []) [0, 1, 7, 8] [] 1 ?_
 refine w_loopF (F_slices_IndexFunc_SArc_Arc_l0 v0 v1) (fun s : Int => mkS [(0, AL 3 (v0.map eArc)), (1, .val none (.fn 195 [.ptr [.int .i64 v1]])), (7, AI (v0.length : Int)), (8, AI s)] (fo []) 1) hF ?_
 rintro k0 x1 hF
 rw [F_slices_IndexFunc_SArc_Arc_l0] at hF
 try dsimp only
 refine ws 1 65 (qp (AB (decide (x1 < (v0.length : Int)))) rfl (r_nil (w_seq ?_)))
 refine cF hF (fun hF => ?_) fun hF => ?_
 ·
  refine w_skip (thenQ_n (w_seq (w_block (ws 65 193 (qp (AI x1) rfl (qp (AI x1) rfl (r_nil (ws 193 577 (qp (.val none (.fn 195 [.ptr [.int .i64 v1]])) rfl (qp (AL 3 (v0.map eArc)) rfl (qp (AI x1) rfl (bk hF fun u0 e0 hF => qp (.val none (.ptr [.int .i64 u0.1, .int .i64 u0.2.1, .int .i64 u0.2.2])) (ev_iad_n rfl rfl e0 rfl) (qp (.val none (eArc u0)) rfl (bk hF fun u1 e1 hF => qcv (AB u1) [] false rfl (con_impl_Grammar_follow_1 e1) c195_.2 (by first | rfl | simp) rfl (r_nil ?_)))))))))))))))
  refine cF hF (fun hF => ws 577 705 (qp (AI x1) rfl (qp (AI x1) rfl (r_nil (w_ret (blockQ_r (thenQ_r (thenQ_r (blockQ_r (thenQ_r (eQ hF))))))))))) fun hF => ?_
  refine w_skip (blockQ_n (thenQ_n (w_reg 577 705 rfl rfl (qp (AI (w64 (x1 + 1))) rfl (qp (AI (w64 (x1 + 1))) rfl (r_nil (thenQ_n ?_)))))))
  refine ar (l' := [(0, AL 3 (v0.map eArc)), (1, .val none (.fn 195 [.ptr [.int .i64 v1]])), (7, AI (v0.length : Int)), (8, AI (w64 (x1 + 1)))]) (L := []) [0, 1, 7, 8] [] 1 ⟨_, by rfl, hF⟩
 exact w_exit (thenQ_e (thenQ_e (blockQ_e (thenQ_n (ws 65 129 (qp (AI (-1)) rfl (rR hF)))))))

def c139 : MC := (sr [rg 2 (.f (.box t0)), pT 4 (.mv (ci 0)), pT 5 (.mv (ci 0))] (sr [pT 11 (.fad t2 1), lT 12 11, mvt 6 12] (.seq (sr [mvt 13 1, zT 14 13, pT 15 (.mv (ci 0))] (.block 0 (.loop (sr [bT 16 .lss t15 t14] (.seq (cx t16 0) (.seq (.block 1 (sr [mvt 17 15, iT 18 13 15 1, lT 19 18, rg 8 (.f (.alloc [((.int .i64 0), (0, false))])), mvt 7 17, ⟨none, none, (.f (.st t8 t19 1))⟩] (sr [pT 20 (.ld t2 4 true), mvt 21 6, dT 22 141 [t20, t21], mvt 9 22] (sr [mvt 23 9, pT 24 (.mkf 195 [t8]), dT 25 194 [t23, t24], mvt 10 25] (.seq (sr [mvt 26 10, bT 27 .lss t26 (ci 0)] (.cond t27 (sr [mvt 28 6, mvt 29 7, mvt 4 28, mvt 5 29] .ret) .skip)) (.reg [mvt 30 9, mvt 31 10, iT 32 30 31 3, pT 33 (.fad t32 2), lT 34 33, mvt 6 34])))))) (.reg [bT 35 .add t15 (ci 1), mvt 15 35]))))))) (sr [mvt 36 6, mvt 37 1, zT 38 37, mvt 4 36, mvt 5 38] .ret))))
theorem c139_ : IsF Tryz.prog 139 c139 [(.tmp 4), (.tmp 5)] := ⟨by kernel_rfl, by kernel_rfl⟩

def F_impl_Grammar_follow_l0 (v0 : TGrammar) (v1 : List Int) (k0 : Int × Int → Option (TNote)) : Int × Int → Option (TNote)
 | (x2, x3) => (bif (decide (x3 < (v1.length : Int))) then ((ix v1 x3).bind fun u0 => ((F_impl_Grammar_arcsOf v0 x2).bind fun u1 => ((F_slices_IndexFunc_SArc_Arc u1 u0).bind fun u2 => (bif (decide (u2 < (0 : Int))) then some (x2, x3)
 else ((ix u1 u2).bind fun u3 => k0 (u3.2.2, w64 (x3 + 1)))))))
 else some (x2, (v1.length : Int)))
def F_impl_Grammar_follow (v0 : TGrammar) (v1 : List Int) : Option (TNote) :=
 loop (F_impl_Grammar_follow_l0 v0 v1) (v0.2.1, 0)
@[simp] abbrev K6v (v0 : TGrammar) : List AV := [AI v0.1, AI v0.2.1, AL 1 (v0.2.2.1.map vI), AL 3 (v0.2.2.2.map eArc)]
@[simp] abbrev K6q (v0 : TGrammar) : List (Nat × Root) := [(0, .box (K6v v0))]
@[simp] abbrev K6s (u0 : Int) (v0 : TGrammar) : List (Nat × Root) := ((257, .box [AI u0]) :: (257, .box [AI 0]) :: (K6q v0))
@[simp] abbrev K6u (v1 : List Int) : V := .sl 1 (v1.map vI)
@[simp] def res_impl_Grammar_follow (r : TNote) : RV := .tup [.one (.val (.int .i64 r.1)), .one (.val (.int .i64 r.2))]
theorem con_impl_Grammar_follow {v0 : TGrammar} {v1 : List Int} {r : TNote} (hF : F_impl_Grammar_follow v0 v1 = some r) : Con Tryz.prog 139 [eGrammar v0, .sl 1 (v1.map vI)] (res_impl_Grammar_follow r) := by
 unfold F_impl_Grammar_follow at hF
 refine con_of c139_.1 fun N => ?_
 refine ws 0 192 (qf (.ptr 0 0 0) (K6q v0) (by simp) (qp (AI 0) rfl (qp (AI 0) rfl (r_nil (ws 192 384 (qp (.ptr 0 0 1) rfl (qp (AI v0.2.1) rfl (qp (AI v0.2.1) rfl (r_nil (w_seq (ws 384 576 ?_)))))))))))
 refine qp (.val none (K6u v1)) rfl (qp (AI (v1.length : Int)) (ev_len_n rfl) (qp (AI 0) rfl (r_nil (w_block ?_))))
 refine w_ren (l' := [(1, .val none (K6u v1)), (2, .ptr 0 0 0), (6, AI v0.2.1), (13, .val none (K6u v1)), (14, AI (v1.length : Int)), (15, AI 0)]) (L := (K6q v0)) [1, 2, 6, 13, 14, 15] [(0, 0)] 1 (by first | rfl | simp) (by first | rfl | simp) (by decide) (by decide) (by decide) ?_
 refine w_loopF (F_impl_Grammar_follow_l0 v0 v1) (fun s : Int × Int => mkS [(1, .val none (K6u v1)), (2, .ptr 0 0 0), (6, AI s.1), (13, .val none (K6u v1)), (14, AI (v1.length : Int)), (15, AI s.2)] (fo (K6q v0)) 1) hF ?_
 rintro k0 ⟨x2, x3⟩ hF
 rw [F_impl_Grammar_follow_l0] at hF
 try dsimp only
 refine ws 1 65 (qp (AB (decide (x3 < (v1.length : Int)))) rfl (r_nil (w_seq ?_)))
 refine cF hF (fun hF => ?_) fun hF => ?_
 ·
  refine w_skip (thenQ_n (w_seq (w_block (ws 65 449 (qp (AI x3) rfl (bk hF fun u0 e0 hF => qp (.val none (.ptr [.int .i64 u0])) (ev_iad_n rfl rfl e0 rfl) (qp (AI u0) rfl (qf (.ptr 257 0 0) ((257, .box [AI 0]) :: (K6q v0)) (by simp) (qp (AI x3) rfl (qf0 (.undef) (K6s u0 v0) (by simp) (r_nil (ws 449 705 (qp (.agg (K6v v0)) rfl (qp (AI x2) rfl (bk hF fun u1 e1 hF => ?_)))))))))))))))
  refine qc (.sl 577 0 u1.length) ((577, .row true 3 (u1.map eArc)) :: (K6s u0 v0)) false (con_impl_Grammar_arcsOf e1) c141_.2 (by first | rfl | simp) (by simp [res_impl_Grammar_arcsOf]) (qp (.sl 577 0 u1.length) rfl (r_nil (ws 705 961 (qp (.sl 577 0 u1.length) rfl (qp (.fn 195 [.ptr 257 0 0]) rfl (bk hF fun u2 e2 hF => qc (AI u2) ((577, .row true 3 (u1.map eArc)) :: (K6s u0 v0)) true (con_slices_IndexFunc_SArc_Arc e2) c194_.2 (by simp [List.take_of_length_le]) rfl (qp (AI u2) rfl (r_nil (w_seq (ws 961 1089 (qp (AI u2) rfl (qp (AB (decide (u2 < (0 : Int)))) rfl (r_nil ?_)))))))))))))
  refine cF hF (fun hF => ws 1089 1345 (qp (AI x2) rfl (qp (AI x3) rfl (qp (AI x2) rfl (qp (AI x3) rfl (r_nil (w_ret (thenQ_r (blockQ_r (thenQ_r (thenQ_r (blockQ_r (thenQ_r (eQ hF)))))))))))))) fun hF => ?_
  refine w_skip (thenQ_n (w_reg 1089 1473 rfl rfl (qp (.sl 577 0 u1.length) rfl (qp (AI u2) rfl (bk hF fun u3 e3 hF => qp (.ptr 577 u2.toNat 0) (ev_iad_r rfl (by simp) rfl rfl e3) (qp (.ptr 577 u2.toNat 2) rfl (qp (AI u3.2.2) (ev_ld_r rfl rfl (ix_some e3).2 rfl rfl) (qp (AI u3.2.2) rfl (r_nil (blockQ_n (thenQ_n (w_reg 1473 1601 rfl rfl ?_))))))))))))
  refine qp (AI (w64 (x3 + 1))) rfl (qp (AI (w64 (x3 + 1))) rfl (r_nil (thenQ_n ?_)))
  refine ar (l' := [(1, .val none (K6u v1)), (2, .ptr 0 0 0), (6, AI u3.2.2), (13, .val none (K6u v1)), (14, AI (v1.length : Int)), (15, AI (w64 (x3 + 1)))]) (L := (K6q v0)) [1, 2, 6, 13, 14, 15] [(0, 0)] 1 ⟨_, by rfl, hF⟩
 exact w_exit (thenQ_e (thenQ_e (blockQ_e (thenQ_n (ws 65 385 (qp (AI x2) rfl (qp (.val none (K6u v1)) rfl (qp (AI (v1.length : Int)) (ev_len_n rfl) (qp (AI x2) rfl (qp (AI (v1.length : Int)) rfl (rR hF)))))))))))

def c140 : MC := (sr [rg 2 (.f (.box t0)), pT 4 (.mv cf)] (sr [pT 5 (.fad t2 2), lT 6 5, mvt 7 1, dT 8 182 [t6, t7], mvt 4 8] .ret))
theorem c140_ : IsF Tryz.prog 140 c140 [(.tmp 4)] := ⟨by kernel_rfl, by kernel_rfl⟩

def F_impl_Grammar_isFinal (v0 : TGrammar) (v1 : Int) : Option (Bool) :=
 ((F_slices_Contains_Sint64_int64 v0.2.2.1 v1).bind fun u0 => some u0)
@[simp] abbrev K6w (v0 : TGrammar) : List (Nat × Root) := [(0, .box [AI v0.1, AI v0.2.1, AL 1 (v0.2.2.1.map vI), AL 3 (v0.2.2.2.map eArc)])]
@[simp] def res_impl_Grammar_isFinal (r : Bool) : RV := .one (.one (.val (.bool r)))
theorem con_impl_Grammar_isFinal {v0 : TGrammar} {v1 : Int} {r : Bool} (hF : F_impl_Grammar_isFinal v0 v1 = some r) : Con Tryz.prog 140 [eGrammar v0, .int .i64 v1] (res_impl_Grammar_isFinal r) := by
 unfold F_impl_Grammar_isFinal at hF
 refine con_of c140_.1 fun N => ?_
 exact ws 0 128 (qf (.ptr 0 0 0) (K6w v0) (by simp) (qp (AB false) rfl (r_nil (ws 128 448 (qp (.ptr 0 0 2) rfl (qp (AL 1 (v0.2.2.1.map vI)) rfl (qp (AI v1) rfl (bk hF fun u0 e0 hF => qC (AB u0) (K6w v0) (con_slices_Contains_Sint64_int64 e0) c182_ (qp (AB u0) rfl (rR hF))))))))))

def c81 : MC := (sr [rg 2 (.f (.box t0)), pT 4 (.mv (ci 0)), rg 5 (.f (.nilrow 1)), pT 6 (.mv (ci 0))] (.seq (sr [pT 12 (.ld t2 4 true), dT 13 138 [t12], pT 14 (.not t13)] (.cond t14 (sr [pT 4 (.mv (ci 0)), rg 5 (.f (.nilrow 1)), pT 6 (.mv (ci 1))] .ret) .skip)) (sr [pT 16 (.ld t2 4 true), mvt 17 1, dT 18 139 [t16, t17], mvt 15 18, pT 19 (.ext t15 0), pT 20 (.ext t15 1), mvt 7 19, mvt 8 20] (.seq (sr [mvt 21 8, mvt 22 1, zT 23 22, bT 24 .eql t21 t23, mvt 25 24, kT 26 25 (.ld t2 4 true), nT 27 25 t7, ⟨(some 28), (some (25, true)), (.call true 140 [t26, t27])⟩, pT 29 (.pick t25 t28 cf)] (.cond t29 (sr [pT 4 (.mv (ci 0)), rg 5 (.f (.nilrow 1)), pT 6 (.mv (ci 3))] .ret) .skip)) (sr [rg 9 (.f (.nilrow 1))] (.seq (sr [pT 30 (.ld t2 4 true), mvt 31 7, dT 32 141 [t30, t31], zT 33 32, pT 34 (.mv (ci 0))] (.block 0 (.loop (sr [bT 35 .lss t34 t33] (.seq (cx t35 0) (.seq (.block 1 (sr [iT 36 32 34 3, pT 37 (.ld t36 3 true), rg 11 (.f (.alloc [((.int .i64 0), (0, false)), ((.int .i64 0), (0, false)), ((.int .i64 0), (0, false))])), ⟨none, none, (.f (.st t11 t37 3))⟩] (.reg [mvt 38 9, pT 39 (.fad t11 1), lT 40 39, rg 41 (.f (.bsl 1 [t40])), rg 42 (.f (.app t38 t41 1 8 true)), mvt 9 42]))) (.reg [bT 43 .add t34 (ci 1), mvt 34 43]))))))) (sr [mvt 44 8, mvt 45 9, mvt 4 44, mvt 5 45, pT 6 (.mv (ci 0))] .ret)))))))
theorem c81_ : IsF Tryz.prog 81 c81 [(.tmp 4), (.tmp 5), (.tmp 6)] := ⟨by kernel_rfl, by kernel_rfl⟩

def F_impl_WrongTurn_l1 (u1 : TNote) (u4 : List TArc) (k3 : Int × (List Int) → Option (Int × (List Int) × Int)) : Int × (List Int) → Option (Int × (List Int) × Int)
 | (x14, x15) => (bif (decide (x14 < (u4.length : Int))) then ((ix u4 x14).bind fun u9 => (need (room (x15.length + [u9.2.1].length) 8) (k3 (w64 (x14 + 1), x15 ++ [u9.2.1]))))
 else some (u1.2, x15, 0))
def F_impl_WrongTurn_j0 (v0 : TGrammar) (u1 : TNote) : Option (Int × (List Int) × Int) :=
 ((F_impl_Grammar_arcsOf v0 u1.1).bind fun u4 => loop (F_impl_WrongTurn_l1 u1 u4) (0, []))
def F_impl_WrongTurn (v0 : TGrammar) (v1 : List Int) : Option (Int × (List Int) × Int) :=
 ((F_impl_ValidGrammar v0).bind fun u0 => (bif (!u0) then some (0, [], 1)
 else ((F_impl_Grammar_follow v0 v1).bind fun u1 => (bif (decide (u1.2 = (v1.length : Int))) then ((F_impl_Grammar_isFinal v0 u1.1).bind fun u3 => (bif u3 then some (0, [], 3)
 else F_impl_WrongTurn_j0 v0 u1))
 else F_impl_WrongTurn_j0 v0 u1))))
@[simp] abbrev K73 (v0 : TGrammar) : List AV := [AI v0.1, AI v0.2.1, AL 1 (v0.2.2.1.map vI), AL 3 (v0.2.2.2.map eArc)]
@[simp] abbrev K6x (v0 : TGrammar) : List (Nat × Root) := [(0, .box (K73 v0))]
@[simp] abbrev K6y (v0 : TGrammar) : List (Nat × Root) := ((128, .row true 1 (([] : List Int).map vI)) :: (K6x v0))
@[simp] abbrev K6z (v0 : TGrammar) : List (Nat × Root) := ((1, .row true 1 (([] : List Int).map vI)) :: (K6x v0))
@[simp] abbrev K70 (u4 : List TArc) (x15 : List Int) : List (Nat × Root) := [(194, .box [AI 0, AI 0, AI 0]), (1, .row true 3 (u4.map eArc)), (0, .row true 1 (x15.map vI))]
@[simp] abbrev K71 (u9 : TArc) (u4 : List TArc) (x15 : List Int) : List (Nat × Root) := ((194, .box [AI u9.1, AI u9.2.1, AI u9.2.2]) :: (K70 u4 x15))
@[simp] abbrev K72 (u9 : TArc) (u4 : List TArc) (x15 : List Int) : List (Nat × Root) := ((514, .row true 1 ([u9.2.1].map vI)) :: (K71 u9 u4 x15))
@[simp] def res_impl_WrongTurn (r : Int × (List Int) × Int) : RV := .tup [.one (.val (.int .i64 r.1)), .one (.row true 1 (r.2.1.map vI)), .one (.val (.int .i64 r.2.2))]
theorem con_impl_WrongTurn {v0 : TGrammar} {v1 : List Int} {r : Int × (List Int) × Int} (hF : F_impl_WrongTurn v0 v1 = some r) : Con Tryz.prog 81 [eGrammar v0, .sl 1 (v1.map vI)] (res_impl_WrongTurn r) := by
 unfold F_impl_WrongTurn at hF
 refine con_of c81_.1 fun N => ?_
 refine ws 0 256 (qf (.ptr 0 0 0) (K6x v0) (by simp) (qp (AI 0) rfl (qf (.sl 128 0 0) (K6y v0) (by simp) (qp (AI 0) rfl (r_nil (w_seq (ws 256 448 (qp (.agg (K73 v0)) rfl (bk hF fun u0 e0 hF => qC (AB u0) (K6y v0) (con_impl_ValidGrammar e0) c138_ (qp (AB (!u0)) rfl (r_nil ?_)))))))))))
 refine cF hF (fun hF => ?_) fun hF => ?_
 ·
  exact ws 448 640 (qp (AI 0) rfl (qf (.sl 512 0 0) ((512, .row true 1 (([] : List Int).map vI)) :: (K6y v0)) (by simp) (qp (AI 1) rfl (r_nil (w_ret (thenQ_r (eQ hF)))))))
 refine w_skip (thenQ_n (ws 448 960 (qp (.agg (K73 v0)) rfl (qp (AL 1 (v1.map vI)) rfl (bk hF fun u1 e1 hF => qC (.tup [AI u1.1, AI u1.2]) (K6y v0) (con_impl_Grammar_follow e1) c139_ (qp (.tup [AI u1.1, AI u1.2]) rfl (qp (AI u1.1) rfl (qp (AI u1.2) rfl (qp (AI u1.1) rfl (qp (AI u1.2) rfl (r_nil ?_)))))))))))
 refine w_meet (fun s' => s' = mkS [(2, .ptr 0 0 0), (7, AI u1.1), (8, AI u1.2)] (fo (K6x v0)) 1 ∧ F_impl_WrongTurn_j0 v0 u1 = some r) ?_ ?_
 ·
  refine ws 960 1536 (qp (AI u1.2) rfl (qp (AL 1 (v1.map vI)) rfl (qp (AI (v1.length : Int)) (ev_len_n rfl) (qp (AB (decide (u1.2 = (v1.length : Int)))) rfl (qp (AB (decide (u1.2 = (v1.length : Int)))) rfl ?_)))))
  refine q_case 25 hF rfl (fun hF => ?_) (fun hF => ?_)
  ·
   refine qg (.agg (K73 v0)) rfl rfl (qg (AI u1.1) rfl rfl (bk hF fun u3 e3 hF => qG (AB u3) (K6y v0) (con_impl_Grammar_isFinal e3) c140_ (qp (AB u3) rfl (r_nil ?_))))
   refine cF hF (fun hF => ?_) fun hF => ?_
   ·
    exact ws 1536 1728 (qp (AI 0) rfl (qf (.sl 1600 0 0) ((1600, .row true 1 (([] : List Int).map vI)) :: (K6y v0)) (by simp) (qp (AI 3) rfl (r_nil (w_ret (thenQ_r (eQ hF)))))))
   refine w_skip (thenQ_n ?_)
   refine ar (l' := [(2, .ptr 0 0 0), (7, AI u1.1), (8, AI u1.2)]) (L := (K6x v0)) [2, 7, 8] [(0, 0)] 1 ⟨rfl, hF⟩
  refine qn3 (qp (AB false) rfl (r_nil (w_false rfl (w_skip (thenQ_n ?_)))))
  refine ar (l' := [(2, .ptr 0 0 0), (7, AI u1.1), (8, AI u1.2)]) (L := (K6x v0)) [2, 7, 8] [(0, 0)] 1 ⟨rfl, hF⟩
 rintro s' ⟨rfl, hF⟩
 unfold F_impl_WrongTurn_j0 at hF
 refine ws 1 65 (qf (.sl 1 0 0) (K6z v0) (by simp) (r_nil (w_seq (ws 65 385 (qp (.agg (K73 v0)) rfl (qp (AI u1.1) rfl (bk hF fun u4 e4 hF => qc (.sl 193 0 u4.length) ((193, .row true 3 (u4.map eArc)) :: (K6z v0)) false (con_impl_Grammar_arcsOf e4) c141_.2 (by first | rfl | simp) (by simp [res_impl_Grammar_arcsOf]) (qp (AI (u4.length : Int)) rfl (qp (AI 0) rfl (r_nil (w_block ?_)))))))))))
 refine wr (l' := [(8, AI u1.2), (9, .sl 0 0 0), (32, .sl 1 0 u4.length), (33, AI (u4.length : Int)), (34, AI 0)]) (L := [(1, .row true 3 (u4.map eArc)), (0, .row true 1 (([] : List Int).map vI))]) [8, 9, 32, 33, 34] [(193, 1), (1, 0)] 2 ?_
 refine w_loopF (F_impl_WrongTurn_l1 u1 u4) (fun s : Int × (List Int) => mkS [(8, AI u1.2), (9, .sl 0 0 s.2.length), (32, .sl 1 0 u4.length), (33, AI (u4.length : Int)), (34, AI s.1)] (fo [(1, .row true 3 (u4.map eArc)), (0, .row true 1 (s.2.map vI))]) 2) hF ?_
 rintro k3 ⟨x14, x15⟩ hF
 rw [F_impl_WrongTurn_l1] at hF
 try dsimp only
 refine ws 2 66 (qp (AB (decide (x14 < (u4.length : Int)))) rfl (r_nil (w_seq ?_)))
 refine cF hF (fun hF => ?_) fun hF => ?_
 ·
  refine w_skip (thenQ_n (w_seq (w_block (ws 66 322 (bk hF fun u9 e9 hF => qp (.ptr 1 x14.toNat 0) (ev_iad_r rfl (by simp) rfl rfl e9) (qp (.val none (eArc u9)) (ev_ld_r rfl rfl (ix_some e9).2 rfl rfl) (qf (.ptr 194 0 0) (K70 u4 x15) (by simp) (qf0 (.undef) (K71 u9 u4 x15) (by simp) (r_nil (w_reg 322 706 rfl rfl (qp (.sl 0 0 x15.length) rfl (qp (.ptr 194 0 1) rfl (qp (AI u9.2.1) rfl (qf (.sl 514 0 ([u9.2.1].length)) (K72 u9 u4 x15) (by simp [List.take_of_length_le]) (nk hF fun g10 hF => ?_)))))))))))))))
  refine qf (.sl 578 0 ((x15 ++ [u9.2.1]).length)) ((578, .row true 1 ((x15 ++ [u9.2.1]).map vI)) :: (0, .dead) :: (514, .dead) :: (K72 u9 u4 x15)) (effT_app_l rfl (by simp) rfl rfl (by simp) rfl (by decide) g10 rfl) (qp (.sl 578 0 ((x15 ++ [u9.2.1]).length)) rfl (r_nil (blockQ_n (thenQ_n (w_reg 706 834 rfl rfl (qp (AI (w64 (x14 + 1))) rfl (qp (AI (w64 (x14 + 1))) rfl (r_nil (thenQ_n ?_)))))))))
  refine ar (l' := [(8, AI u1.2), (9, .sl 0 0 (x15 ++ [u9.2.1]).length), (32, .sl 1 0 u4.length), (33, AI (u4.length : Int)), (34, AI (w64 (x14 + 1)))]) (L := [(1, .row true 3 (u4.map eArc)), (0, .row true 1 ((x15 ++ [u9.2.1]).map vI))]) [8, 9, 32, 33, 34] [(1, 1), (578, 0)] 2 ⟨_, by rfl, hF⟩
 exact w_exit (thenQ_e (thenQ_e (blockQ_e (thenQ_n (ws 66 386 (qp (AI u1.2) rfl (qp (.sl 0 0 x15.length) rfl (qp (AI u1.2) rfl (qp (.sl 0 0 x15.length) rfl (qp (AI 0) rfl (rR hF)))))))))))

def c44 : MC := (sr [rg 1 (.f (.box t0)), rg 2 (.f (.nilrow 3))] (sr [pT 11 (.fad t1 8), lT 12 11, dT 13 77 [t12], mvt 3 13] (.seq (sr [pT 15 (.fad t1 0), pT 16 (.ld t15 6 true), mvt 17 3, dT 18 78 [t16, t17], mvt 14 18, pT 19 (.ext t14 0), pT 20 (.ext t14 1), mvt 4 19, mvt 5 20] (sr [mvt 21 5, bT 22 .neq t21 (ci 0)] (.cond t22 (sr [mvt 23 4, dT 24 79 [t23], mvt 25 5, dT 26 79 [t25], rg 27 (.f (.bld [((.int .i64 0), (0, true)), ((.str []), (0, true)), ((.str []), (0, true))] [(0, (1, (ci 1))), (1, (1, t24)), (2, (1, t26))])), rg 28 (.f (.bsl 3 [t27])), mvt 2 28] .ret) .skip))) (sr [pT 30 (.fad t1 0), pT 31 (.ld t30 6 true), pT 32 (.fad t1 6), lT 33 32, pT 34 (.fad t1 7), lT 35 34, dT 36 80 [t31, t33, t35], mvt 29 36, pT 37 (.ext t29 0), pT 38 (.ext t29 1), rg 6 (.f (.alloc [((.int .i64 0), (0, false)), ((.int .i64 0), (0, false)), ((.sl 0 []), (1, false)), ((.sl 0 []), (3, false))])), ⟨none, none, (.f (.st t6 t37 4))⟩, mvt 7 38] (.seq (sr [pT 40 (.ld t6 4 true), mvt 41 3, dT 42 81 [t40, t41], mvt 39 42, pT 43 (.ext t39 0), pT 44 (.ext t39 1), pT 45 (.ext t39 2), mvt 8 43, mvt 9 44, mvt 10 45] (sr [mvt 46 10, bT 47 .eql t46 (ci 0)] (.cond t47 (sr [mvt 48 8, dT 49 79 [t48], rg 50 (.f (.bld [((.int .i64 0), (0, true)), ((.str []), (0, true)), ((.str []), (0, true))] [(0, (1, (ci 2))), (1, (1, (.c (.str [109, 101, 108, 111, 100, 121])))), (2, (1, t49))])), rg 51 (.f (.bsl 3 [t50])), mvt 2 51] .ret) .skip))) (sr [rg 2 (.f (.nilrow 3))] .ret))))))
theorem c44_ : IsF Tryz.prog 44 c44 [(.tmp 2)] := ⟨by kernel_rfl, by kernel_rfl⟩

def F_impl_melodyProblems (v0 : TWork) : Option (List TProblem) :=
 ((F_impl_pitchesOf v0.2.2.2.2.2.2.2.2.1).bind fun u0 => ((F_impl_Raga_firstWrong (v0.1, v0.2.1, v0.2.2.1, v0.2.2.2.1, v0.2.2.2.2.1, v0.2.2.2.2.2.1) u0).bind fun u1 => (bif (decide (u1.2 ≠ (0 : Int))) then ((F_impl_Decimal u1.1).bind fun u2 => ((F_impl_Decimal u1.2).bind fun u3 => some ([(1, u2, u3)] : List TProblem)))
 else ((F_impl_GrammarOf (v0.1, v0.2.1, v0.2.2.1, v0.2.2.2.1, v0.2.2.2.2.1, v0.2.2.2.2.2.1) v0.2.2.2.2.2.2.1 v0.2.2.2.2.2.2.2.1).bind fun u4 => ((F_impl_WrongTurn u4.1 u0).bind fun u5 => (bif (decide (u5.2.2 = (0 : Int))) then ((F_impl_Decimal u5.1).bind fun u6 => some ([(2, [109, 101, 108, 111, 100, 121], u6)] : List TProblem))
 else some []))))))
@[simp] abbrev K74 (v0 : TWork) : List (Nat × Root) := [(0, .box [AS v0.1, AL 1 (v0.2.1.map vI), AL 1 (v0.2.2.1.map vI), AI v0.2.2.2.1, AI v0.2.2.2.2.1, AL 1 (v0.2.2.2.2.2.1.map (eL 1 vI)), AI v0.2.2.2.2.2.2.1, AI v0.2.2.2.2.2.2.2.1, AL 2 (v0.2.2.2.2.2.2.2.2.1.map eNote), AS v0.2.2.2.2.2.2.2.2.2.1, AL 1 (v0.2.2.2.2.2.2.2.2.2.2.1.map vI), AL 1 (v0.2.2.2.2.2.2.2.2.2.2.2.1.map vI), AI v0.2.2.2.2.2.2.2.2.2.2.2.2.1, AS v0.2.2.2.2.2.2.2.2.2.2.2.2.2.1, AI v0.2.2.2.2.2.2.2.2.2.2.2.2.2.2.1, AI v0.2.2.2.2.2.2.2.2.2.2.2.2.2.2.2.1, AI v0.2.2.2.2.2.2.2.2.2.2.2.2.2.2.2.2.1, AL 3 (v0.2.2.2.2.2.2.2.2.2.2.2.2.2.2.2.2.2.map eTurn)])]
@[simp] abbrev K75 (v0 : TWork) : List (Nat × Root) := ((64, .row true 3 (([] : List Int).map vI)) :: (K74 v0))
@[simp] abbrev K76 (u0 : List Int) (v0 : TWork) : List (Nat × Root) := ((256, .row true 1 (u0.map vI)) :: (K75 v0))
@[simp] abbrev K77 (u4 : TGrammar × Int) (u0 : List Int) (v0 : TWork) : List (Nat × Root) := ((1475, .row true 3 (u4.1.2.2.2.map eArc)) :: (1474, .row true 1 (u4.1.2.2.1.map vI)) :: (K76 u0 v0))
@[simp] abbrev K78 (u4 : TGrammar × Int) (u0 : List Int) (v0 : TWork) : List (Nat × Root) := ((1728, .box [AI 0, AI 0, .sl 1729 0 0, .sl 1730 0 0]) :: (1730, .row true 3 (([] : List Int).map vI)) :: (1729, .row true 1 (([] : List Int).map vI)) :: (K77 u4 u0 v0))
@[simp] abbrev K7b (u4 : TGrammar × Int) : List AV := [AI u4.1.1, AI u4.1.2.1, .sl 1474 0 u4.1.2.2.1.length, .sl 1475 0 u4.1.2.2.2.length]
@[simp] abbrev K79 (u4 : TGrammar × Int) (u0 : List Int) (v0 : TWork) : List (Nat × Root) := ((1728, .box (K7b u4)) :: (K78 u4 u0 v0))
@[simp] abbrev K7a (u5 : Int × (List Int) × Int) (u4 : TGrammar × Int) (u0 : List Int) (v0 : TWork) : List (Nat × Root) := ((2064, .row true 1 (u5.2.1.map vI)) :: (K79 u4 u0 v0))
@[simp] abbrev K7c (v0 : TWork) : AV := .agg [AS v0.1, AL 1 (v0.2.1.map vI), AL 1 (v0.2.2.1.map vI), AI v0.2.2.2.1, AI v0.2.2.2.2.1, AL 1 (v0.2.2.2.2.2.1.map (eL 1 vI))]
@[simp] def res_impl_melodyProblems (r : List TProblem) : RV := .one (.one (.row true 3 (r.map eProblem)))
theorem con_impl_melodyProblems {v0 : TWork} {r : List TProblem} (hF : F_impl_melodyProblems v0 = some r) : Con Tryz.prog 44 [eWork v0] (res_impl_melodyProblems r) := by
 unfold F_impl_melodyProblems at hF
 refine con_of c44_.1 fun N => ?_
 refine ws 0 128 (qf (.ptr 0 0 0) (K74 v0) (by simp) (qf (.sl 64 0 0) (K75 v0) (by simp) (r_nil (ws 128 384 (qp (.ptr 0 0 8) rfl (qp (AL 2 (v0.2.2.2.2.2.2.2.2.1.map eNote)) rfl (bk hF fun u0 e0 hF => qc (.sl 256 0 u0.length) (K76 u0 v0) false (con_impl_pitchesOf e0) c77_.2 (by first | rfl | simp) (by simp [res_impl_pitchesOf]) (qp (.sl 256 0 u0.length) rfl (r_nil (w_seq (ws 384 960 (qp (.ptr 0 0 0) rfl (qp (K7c v0) rfl (qp (.sl 256 0 u0.length) rfl (bk hF fun u1 e1 hF => ?_)))))))))))))))
 refine qc (.tup [AI u1.1, AI u1.2]) (K76 u0 v0) true (con_impl_Raga_firstWrong e1) c78_.2 (by simp [List.take_of_length_le]) rfl (qp (.tup [AI u1.1, AI u1.2]) rfl (qp (AI u1.1) rfl (qp (AI u1.2) rfl (qp (AI u1.1) rfl (qp (AI u1.2) rfl (r_nil (ws 960 1088 (qp (AI u1.2) rfl (qp (AB (decide (u1.2 ≠ (0 : Int)))) rfl (r_nil ?_))))))))))
 refine cF hF (fun hF => ?_) fun hF => ?_
 ·
  exact ws 1088 1536 (qp (AI u1.1) rfl (bk hF fun u2 e2 hF => qC (AS u2) (K76 u0 v0) (con_impl_Decimal e2) c79_ (qp (AI u1.2) rfl (bk hF fun u3 e3 hF => qC (AS u3) (K76 u0 v0) (con_impl_Decimal e3) c79_ (qf (.agg [AI 1, AS u2, AS u3]) (K76 u0 v0) (by simp) (qf (.sl 1408 0 (([(1, u2, u3)] : List TProblem).length)) ((1408, .row true 3 (([(1, u2, u3)] : List TProblem).map eProblem)) :: (K76 u0 v0)) (by simp [List.take_of_length_le]) (qp (.sl 1408 0 (([(1, u2, u3)] : List TProblem).length)) rfl (r_nil (w_ret (thenQ_r (eQ hF)))))))))))
 refine w_skip (thenQ_n (ws 1088 1920 (qp (.ptr 0 0 0) rfl (qp (K7c v0) rfl (qp (.ptr 0 0 6) rfl (qp (AI v0.2.2.2.2.2.2.1) rfl (qp (.ptr 0 0 7) rfl (qp (AI v0.2.2.2.2.2.2.2.1) rfl (bk hF fun u4 e4 hF => qc (.tup [.agg (K7b u4), AI u4.2]) (K77 u4 u0 v0) false (con_impl_GrammarOf e4) c80_.2 (by first | rfl | simp) (by simp [res_impl_GrammarOf]) (qp (.tup [.agg (K7b u4), AI u4.2]) rfl (qp (.agg (K7b u4)) rfl (qp (AI u4.2) rfl (qf (.ptr 1728 0 0) (K78 u4 u0 v0) (by simp) (qf0 (.undef) (K79 u4 u0 v0) (by simp) ?_))))))))))))))
 refine qp (AI u4.2) rfl (r_nil (w_seq (ws 1920 2560 (qp (.agg (K7b u4)) rfl (qp (.sl 256 0 u0.length) rfl (bk hF fun u5 e5 hF => qc (.tup [AI u5.1, .sl 2064 0 u5.2.1.length, AI u5.2.2]) (K7a u5 u4 u0 v0) true (con_impl_WrongTurn e5) c81_.2 (by simp [List.take_of_length_le]) (by simp [res_impl_WrongTurn]) (qp (.tup [AI u5.1, .sl 2064 0 u5.2.1.length, AI u5.2.2]) rfl (qp (AI u5.1) rfl (qp (.sl 2064 0 u5.2.1.length) rfl (qp (AI u5.2.2) rfl (qp (AI u5.1) rfl (qp (.sl 2064 0 u5.2.1.length) rfl (qp (AI u5.2.2) rfl (r_nil ?_))))))))))))))
 refine ws 2560 2688 (qp (AI u5.2.2) rfl (qp (AB (decide (u5.2.2 = (0 : Int)))) rfl (r_nil ?_)))
 refine cF hF (fun hF => ?_) fun hF => ?_
 ·
  exact ws 2688 3008 (qp (AI u5.1) rfl (bk hF fun u6 e6 hF => qC (AS u6) (K7a u5 u4 u0 v0) (con_impl_Decimal e6) c79_ (qf (.agg [AI 2, AS [109, 101, 108, 111, 100, 121], AS u6]) (K7a u5 u4 u0 v0) (by simp) (qf (.sl 2880 0 (([(2, [109, 101, 108, 111, 100, 121], u6)] : List TProblem).length)) ((2880, .row true 3 (([(2, [109, 101, 108, 111, 100, 121], u6)] : List TProblem).map eProblem)) :: (K7a u5 u4 u0 v0)) (by simp [List.take_of_length_le]) (qp (.sl 2880 0 (([(2, [109, 101, 108, 111, 100, 121], u6)] : List TProblem).length)) rfl (r_nil (w_ret (thenQ_r (eQ hF)))))))))
 exact w_skip (thenQ_n (ws 2688 2752 (qf (.sl 2688 0 0) ((2688, .row true 3 (([] : List TProblem).map eProblem)) :: (K7a u5 u4 u0 v0)) (by simp) (rR hF))))

def c43 : MC := (sr [rg 2 (.f (.box t0)), rg 4 (.f (.nilrow 3)), pT 5 (.mv (ci 0))] (.seq (sr [pT 9 (.ld t2 18 true), dT 10 76 [t9], pT 11 (.not t10)] (.cond t11 (sr [rg 4 (.f (.nilrow 3)), pT 5 (.mv (ci 1))] .ret) .skip)) (sr [rg 6 (.f (.nilrow 3))] (.seq (sr [mvt 12 1, zT 13 12, pT 14 (.mv (ci 0))] (.block 0 (.loop (sr [bT 15 .lss t14 t13] (.seq (cx t15 0) (.seq (.block 1 (sr [iT 16 12 14 1, lT 17 16, mvt 8 17] (.reg [mvt 18 6, mvt 19 8, pT 20 (.ld t2 18 true), rg 21 (.callv t19 [t20]), rg 22 (.f (.app t18 t21 3 40 false)), mvt 6 22]))) (.reg [bT 23 .add t14 (ci 1), mvt 14 23]))))))) (sr [mvt 24 6, mvt 4 24, pT 5 (.mv (ci 0))] .ret)))))
theorem c43_ : IsF Tryz.prog 43 c43 [(.tmp 4), (.tmp 5)] := ⟨by kernel_rfl, by kernel_rfl⟩

def F_impl_findProblems_l0 (v0 : TWork) (v1 : List Unit) (k1 : Int × (List TProblem) → Option ((List TProblem) × Int)) : Int × (List TProblem) → Option ((List TProblem) × Int)
 | (x6, x7) => (bif (decide (x6 < (v1.length : Int))) then ((ix v1 x6).bind fun u7 => ((F_impl_melodyProblems v0).bind fun u8 => (need (room (x7.length + u8.length) 40) (k1 (w64 (x6 + 1), x7 ++ u8)))))
 else some (x7, 0))
def F_impl_findProblems (v0 : TWork) (v1 : List Unit) : Option ((List TProblem) × Int) :=
 ((F_impl_ValidWork v0).bind fun u0 => (bif (!u0) then some ([], 1)
 else loop (F_impl_findProblems_l0 v0 v1) (0, [])))
@[simp] abbrev K7h (v0 : TWork) : List AV := [AS v0.1, AL 1 (v0.2.1.map vI), AL 1 (v0.2.2.1.map vI), AI v0.2.2.2.1, AI v0.2.2.2.2.1, AL 1 (v0.2.2.2.2.2.1.map (eL 1 vI)), AI v0.2.2.2.2.2.2.1, AI v0.2.2.2.2.2.2.2.1, AL 2 (v0.2.2.2.2.2.2.2.2.1.map eNote), AS v0.2.2.2.2.2.2.2.2.2.1, AL 1 (v0.2.2.2.2.2.2.2.2.2.2.1.map vI), AL 1 (v0.2.2.2.2.2.2.2.2.2.2.2.1.map vI), AI v0.2.2.2.2.2.2.2.2.2.2.2.2.1, AS v0.2.2.2.2.2.2.2.2.2.2.2.2.2.1, AI v0.2.2.2.2.2.2.2.2.2.2.2.2.2.2.1, AI v0.2.2.2.2.2.2.2.2.2.2.2.2.2.2.2.1, AI v0.2.2.2.2.2.2.2.2.2.2.2.2.2.2.2.2.1, AL 3 (v0.2.2.2.2.2.2.2.2.2.2.2.2.2.2.2.2.2.map eTurn)]
@[simp] abbrev K7d (v0 : TWork) : List (Nat × Root) := [(0, .box (K7h v0))]
@[simp] abbrev K7e (v0 : TWork) : List (Nat × Root) := ((64, .row true 3 (([] : List Int).map vI)) :: (K7d v0))
@[simp] abbrev K7f (v0 : TWork) : List (Nat × Root) := ((384, .row true 3 (([] : List TProblem).map eProblem)) :: (K7e v0))
@[simp] abbrev K7g (u8 : List TProblem) (x7 : List TProblem) (v0 : TWork) : List (Nat × Root) := ((450, .row true 3 (u8.map eProblem)) :: (1, .row true 3 (x7.map eProblem)) :: (K7d v0))
@[simp] def res_impl_findProblems (r : (List TProblem) × Int) : RV := .tup [.one (.row true 3 (r.1.map eProblem)), .one (.val (.int .i64 r.2))]
theorem con_impl_findProblems {v0 : TWork} {v1 : List Unit} {r : (List TProblem) × Int} (hF : F_impl_findProblems v0 v1 = some r) : Con Tryz.prog 43 [eWork v0, .sl 1 (v1.map (eFn 44))] (res_impl_findProblems r) := by
 unfold F_impl_findProblems at hF
 refine con_of c43_.1 fun N => ?_
 refine ws 0 192 (qf (.ptr 0 0 0) (K7d v0) (by simp) (qf (.sl 64 0 0) (K7e v0) (by simp) (qp (AI 0) rfl (r_nil (w_seq (ws 192 384 (qp (.agg (K7h v0)) rfl (bk hF fun u0 e0 hF => qC (AB u0) (K7e v0) (con_impl_ValidWork e0) c76_ (qp (AB (!u0)) rfl (r_nil ?_))))))))))
 refine cF hF (fun hF => ?_) fun hF => ?_
 ·
  exact ws 384 512 (qf (.sl 384 0 0) (K7f v0) (by simp) (qp (AI 1) rfl (r_nil (w_ret (thenQ_r (eQ hF))))))
 refine w_skip (thenQ_n (ws 384 448 (qf (.sl 384 0 0) (K7f v0) (by simp) (r_nil (w_seq (ws 448 640 (qp (AL 1 (v1.map (eFn 44))) rfl (qp (AI (v1.length : Int)) (ev_len_n rfl) (qp (AI 0) rfl (r_nil (w_block ?_)))))))))))
 refine w_ren (l' := [(2, .ptr 0 0 0), (6, .sl 1 0 0), (12, AL 1 (v1.map (eFn 44))), (13, AI (v1.length : Int)), (14, AI 0)]) (L := ((1, .row true 3 (([] : List TProblem).map eProblem)) :: (K7d v0))) [2, 6, 12, 13, 14] [(384, 1), (0, 0)] 2 (by first | rfl | simp) (by first | rfl | simp) (by decide) (by decide) (by decide) ?_
 refine w_loopF (F_impl_findProblems_l0 v0 v1) (fun s : Int × (List TProblem) => mkS [(2, .ptr 0 0 0), (6, .sl 1 0 s.2.length), (12, AL 1 (v1.map (eFn 44))), (13, AI (v1.length : Int)), (14, AI s.1)] (fo [(1, .row true 3 (s.2.map eProblem)), (0, .box (K7h v0))]) 2) hF ?_
 rintro k1 ⟨x6, x7⟩ hF
 rw [F_impl_findProblems_l0] at hF
 try dsimp only
 refine ws 2 66 (qp (AB (decide (x6 < (v1.length : Int)))) rfl (r_nil (w_seq ?_)))
 refine cF hF (fun hF => ?_) fun hF => ?_
 ·
  refine w_skip (thenQ_n (w_seq (w_block (ws 66 258 (bk hF fun u7 e7 hF => qp (.val none (.ptr [.fn 44 []])) (ev_iad_n rfl rfl e7 rfl) (qp (.val none (.fn 44 [])) rfl (qp (.val none (.fn 44 [])) rfl (r_nil (w_reg 258 642 rfl rfl (qp (.sl 1 0 x7.length) rfl (qp (.val none (.fn 44 [])) rfl (qp (.agg (K7h v0)) rfl (bk hF fun u8 e8 hF => qcv (.sl 450 0 u8.length) (K7g u8 x7 v0) false rfl (con_impl_melodyProblems e8) c44_.2 (by first | rfl | simp) (by simp [res_impl_melodyProblems]) (nk hF fun g9 hF => qf (.sl 514 0 ((x7 ++ u8).length)) ((514, .row true 3 ((x7 ++ u8).map eProblem)) :: (1, .dead) :: (K7g u8 x7 v0)) (effT_app_p rfl (by simp) rfl rfl (by simp) rfl (fun _ => rfl) (by decide) g9) (qp (.sl 514 0 ((x7 ++ u8).length)) rfl (r_nil ?_))))))))))))))))
  refine blockQ_n (thenQ_n (w_reg 642 770 rfl rfl (qp (AI (w64 (x6 + 1))) rfl (qp (AI (w64 (x6 + 1))) rfl (r_nil (thenQ_n ?_))))))
  refine ar (l' := [(2, .ptr 0 0 0), (6, .sl 1 0 (x7 ++ u8).length), (12, AL 1 (v1.map (eFn 44))), (13, AI (v1.length : Int)), (14, AI (w64 (x6 + 1)))]) (L := ((1, .row true 3 ((x7 ++ u8).map eProblem)) :: (K7d v0))) [2, 6, 12, 13, 14] [(514, 1), (0, 0)] 2 ⟨_, by rfl, hF⟩
 exact w_exit (thenQ_e (thenQ_e (blockQ_e (thenQ_n (ws 66 258 (qp (.sl 1 0 x7.length) rfl (qp (.sl 1 0 x7.length) rfl (qp (AI 0) rfl (rR hF)))))))))

def c17 : MC := (sr [rg 1 (.f (.box t0)), rg 2 (.f (.nilrow 3)), pT 3 (.mv (ci 0))] (sr [pT 4 (.ld t1 18 true), rg 5 (.f (.bsl 1 [(.f 44)])), dT 6 43 [t4, t5], pT 7 (.ext t6 0), pT 8 (.ext t6 1), mvt 2 7, mvt 3 8] .ret))
theorem c17_ : IsF Tryz.prog 17 c17 [(.tmp 2), (.tmp 3)] := ⟨by kernel_rfl, by kernel_rfl⟩

def F_impl_MelodyProblems (v0 : TWork) : Option ((List TProblem) × Int) :=
 ((F_impl_findProblems v0 [()]).bind fun u0 => some (u0.1, u0.2))
@[simp] abbrev K7l (v0 : TWork) : List AV := [AS v0.1, AL 1 (v0.2.1.map vI), AL 1 (v0.2.2.1.map vI), AI v0.2.2.2.1, AI v0.2.2.2.2.1, AL 1 (v0.2.2.2.2.2.1.map (eL 1 vI)), AI v0.2.2.2.2.2.2.1, AI v0.2.2.2.2.2.2.2.1, AL 2 (v0.2.2.2.2.2.2.2.2.1.map eNote), AS v0.2.2.2.2.2.2.2.2.2.1, AL 1 (v0.2.2.2.2.2.2.2.2.2.2.1.map vI), AL 1 (v0.2.2.2.2.2.2.2.2.2.2.2.1.map vI), AI v0.2.2.2.2.2.2.2.2.2.2.2.2.1, AS v0.2.2.2.2.2.2.2.2.2.2.2.2.2.1, AI v0.2.2.2.2.2.2.2.2.2.2.2.2.2.2.1, AI v0.2.2.2.2.2.2.2.2.2.2.2.2.2.2.2.1, AI v0.2.2.2.2.2.2.2.2.2.2.2.2.2.2.2.2.1, AL 3 (v0.2.2.2.2.2.2.2.2.2.2.2.2.2.2.2.2.2.map eTurn)]
@[simp] abbrev K7i (v0 : TWork) : List (Nat × Root) := [(0, .box (K7l v0))]
@[simp] abbrev K7j (v0 : TWork) : List (Nat × Root) := ((64, .row true 3 (([] : List Int).map vI)) :: (K7i v0))
@[simp] abbrev K7k (v0 : TWork) : List (Nat × Root) := ((256, .row false 1 ([()].map (eFn 44))) :: (K7j v0))
@[simp] def res_impl_MelodyProblems (r : (List TProblem) × Int) : RV := .tup [.one (.row true 3 (r.1.map eProblem)), .one (.val (.int .i64 r.2))]
theorem con_impl_MelodyProblems {v0 : TWork} {r : (List TProblem) × Int} (hF : F_impl_MelodyProblems v0 = some r) : Con Tryz.prog 17 [eWork v0] (res_impl_MelodyProblems r) := by
 unfold F_impl_MelodyProblems at hF
 refine con_of c17_.1 fun N => ?_
 exact ws 0 192 (qf (.ptr 0 0 0) (K7i v0) (by simp) (qf (.sl 64 0 0) (K7j v0) (by simp) (qp (AI 0) rfl (r_nil (ws 192 640 (qp (.agg (K7l v0)) rfl (qf (.sl 256 0 ([()].length)) (K7k v0) (by simp [List.take_of_length_le]) (bk hF fun u0 e0 hF => qc (.tup [.sl 320 0 u0.1.length, AI u0.2]) ((320, .row true 3 (u0.1.map eProblem)) :: (K7k v0)) true (con_impl_findProblems e0) c43_.2 (by simp [List.take_of_length_le]) (by simp [res_impl_findProblems]) (qp (.sl 320 0 u0.1.length) rfl (qp (AI u0.2) rfl (qp (.sl 320 0 u0.1.length) rfl (qp (AI u0.2) rfl (rR hF)))))))))))))

def c45 : MC := (sr [rg 2 (.f (.box t0)), rg 3 (.f (.box t1)), pT 4 (.mv cf)] (.seq (sr [pT 5 (.fad t2 0), lT 6 5, pT 7 (.fad t3 0), lT 8 7, bT 9 .neq t6 t8] (.cond t9 (sr [pT 4 (.mv cf)] .ret) .skip)) (.seq (sr [pT 10 (.fad t2 1), lT 11 10, pT 12 (.fad t3 1), lT 13 12, bT 14 .neq t11 t13] (.cond t14 (sr [pT 4 (.mv cf)] .ret) .skip)) (.seq (sr [pT 15 (.fad t2 2), lT 16 15, pT 17 (.fad t3 2), lT 18 17, bT 19 .neq t16 t18] (.cond t19 (sr [pT 4 (.mv cf)] .ret) .skip)) (sr [pT 4 (.mv ct)] .ret)))))
theorem c45_ : IsF Tryz.prog 45 c45 [(.tmp 4)] := ⟨by kernel_rfl, by kernel_rfl⟩

def F_laws_eqProblem (v0 : TProblem) (v1 : TProblem) : Option (Bool) :=
 (bif (decide (v0.1 ≠ v1.1)) then some false
 else (bif (decide (v0.2.1 ≠ v1.2.1)) then some false
 else (bif (decide (v0.2.2 ≠ v1.2.2)) then some false
 else some true)))
@[simp] def res_laws_eqProblem (r : Bool) : RV := .one (.one (.val (.bool r)))
theorem con_laws_eqProblem {v0 : TProblem} {v1 : TProblem} {r : Bool} (hF : F_laws_eqProblem v0 v1 = some r) : Con Tryz.prog 45 [eProblem v0, eProblem v1] (res_laws_eqProblem r) := by
 unfold F_laws_eqProblem at hF
 refine con_of c45_.1 fun N => ?_
 refine ws 0 192 (qf (.ptr 0 0 0) [(0, .box [AI v0.1, AS v0.2.1, AS v0.2.2])] (by simp) (qf (.ptr 64 0 0) [(64, .box [AI v1.1, AS v1.2.1, AS v1.2.2]), (0, .box [AI v0.1, AS v0.2.1, AS v0.2.2])] (by simp) (qp (AB false) rfl (r_nil (w_seq (ws 192 512 (qp (.ptr 0 0 0) rfl (qp (AI v0.1) rfl (qp (.ptr 64 0 0) rfl (qp (AI v1.1) rfl (qp (AB (decide (v0.1 ≠ v1.1))) rfl (r_nil ?_))))))))))))
 refine cF hF (fun hF => ws 512 576 (qp (AB false) rfl (r_nil (w_ret (thenQ_r (eQ hF)))))) fun hF => w_skip (thenQ_n (w_seq (ws 512 832 (qp (.ptr 0 0 1) rfl (qp (AS v0.2.1) rfl (qp (.ptr 64 0 1) rfl (qp (AS v1.2.1) rfl (qp (AB (decide (v0.2.1 ≠ v1.2.1))) rfl (r_nil ?_)))))))))
 refine cF hF (fun hF => ws 832 896 (qp (AB false) rfl (r_nil (w_ret (thenQ_r (eQ hF)))))) fun hF => w_skip (thenQ_n (w_seq (ws 832 1152 (qp (.ptr 0 0 2) rfl (qp (AS v0.2.2) rfl (qp (.ptr 64 0 2) rfl (qp (AS v1.2.2) rfl (qp (AB (decide (v0.2.2 ≠ v1.2.2))) rfl (r_nil ?_)))))))))
 refine cF hF (fun hF => ws 1152 1216 (qp (AB false) rfl (r_nil (w_ret (thenQ_r (eQ hF)))))) fun hF => ?_
 exact w_skip (thenQ_n (ws 1152 1216 (qp (AB true) rfl (rR hF))))

def c18 : MC := (sr [pT 4 (.mv cf)] (.seq (sr [mvt 6 0, zT 7 6, mvt 8 1, zT 9 8, bT 10 .neq t7 t9] (.cond t10 (sr [pT 4 (.mv cf)] .ret) .skip)) (.seq (sr [pT 5 (.mv (ci 0))] (.block 0 (.loop (.seq (sr [mvt 11 5, mvt 12 0, zT 13 12, bT 14 .lss t11 t13] (cx t14 0)) (.seq (.block 1 (sr [mP 17 t0, mP 18 t5, iF 19 17 18 3, pF 20 (.ld t19 3 true), mP 21 t1, mP 22 t5, iF 23 21 22 3, pF 24 (.ld t23 3 true), dF 25 45 [t20, t24], pF 26 (.not t25)] (.cond t26 (sr [pT 4 (.mv cf)] .ret) .skip))) (.reg [mvt 15 5, bT 16 .add t15 (ci 1), mvt 5 16])))))) (sr [pT 4 (.mv ct)] .ret))))
theorem c18_ : IsF Tryz.prog 18 c18 [(.tmp 4)] := ⟨by kernel_rfl, by kernel_rfl⟩

def F_laws_eqProblemS_l0 (v0 : List TProblem) (v1 : List TProblem) (k0 : Int → Option (Bool)) : Int → Option (Bool)
 | x1 => (bif (decide (x1 < (v0.length : Int))) then ((ix v0 x1).bind fun u0 => ((ix v1 x1).bind fun u1 => ((F_laws_eqProblem u0 u1).bind fun u2 => (bif (!u2) then some false
 else k0 (w64 (x1 + 1))))))
 else some true)
def F_laws_eqProblemS (v0 : List TProblem) (v1 : List TProblem) : Option (Bool) :=
 (bif (decide ((v0.length : Int) ≠ (v1.length : Int))) then some false
 else loop (F_laws_eqProblemS_l0 v0 v1) 0)
@[simp] def res_laws_eqProblemS (r : Bool) : RV := .one (.one (.val (.bool r)))
theorem con_laws_eqProblemS {v0 : List TProblem} {v1 : List TProblem} {r : Bool} (hF : F_laws_eqProblemS v0 v1 = some r) : Con Tryz.prog 18 [.sl 3 (v0.map eProblem), .sl 3 (v1.map eProblem)] (res_laws_eqProblemS r) := by
 unfold F_laws_eqProblemS at hF
 refine con_of c18_.1 fun N => ?_
 refine ws 0 64 (qp (AB false) rfl (r_nil (w_seq (ws 64 384 (qp (AL 3 (v0.map eProblem)) rfl (qp (AI (v0.length : Int)) (ev_len_n rfl) (qp (AL 3 (v1.map eProblem)) rfl (qp (AI (v1.length : Int)) (ev_len_n rfl) (qp (AB (decide ((v0.length : Int) ≠ (v1.length : Int)))) rfl (r_nil ?_))))))))))
 refine cF hF (fun hF => ws 384 448 (qp (AB false) rfl (r_nil (w_ret (thenQ_r (eQ hF)))))) fun hF => w_skip (thenQ_n (w_seq (ws 384 448 (qp (AI 0) rfl (r_nil (w_block ?_))))))
 refine wr (l' := [(0, AL 3 (v0.map eProblem)), (1, AL 3 (v1.map eProblem)), (5, AI 0)]) (L := []) [0, 1, 5] [] 1 ?_
 refine w_loopF (F_laws_eqProblemS_l0 v0 v1) (fun s : Int => mkS [(0, AL 3 (v0.map eProblem)), (1, AL 3 (v1.map eProblem)), (5, AI s)] (fo []) 1) hF ?_
 rintro k0 x1 hF
 rw [F_laws_eqProblemS_l0] at hF
 try dsimp only
 refine w_seq (ws 1 257 (qp (AI x1) rfl (qp (AL 3 (v0.map eProblem)) rfl (qp (AI (v0.length : Int)) (ev_len_n rfl) (qp (AB (decide (x1 < (v0.length : Int)))) rfl (r_nil ?_))))))
 refine cF hF (fun hF => ?_) fun hF => ?_
 ·
  refine w_skip (thenQ_n (w_seq (w_block (ws 257 897 (qp (AL 3 (v0.map eProblem)) rfl (qp (AI x1) rfl (bk hF fun u0 e0 hF => qp (.val none (.ptr [.int .i64 u0.1, .str u0.2.1, .str u0.2.2])) (ev_iad_n rfl rfl e0 rfl) (qp (.val none (eProblem u0)) rfl (qp (AL 3 (v1.map eProblem)) rfl (qp (AI x1) rfl (bk hF fun u1 e1 hF => qp (.val none (.ptr [.int .i64 u1.1, .str u1.2.1, .str u1.2.2])) (ev_iad_n rfl rfl e1 rfl) (qp (.val none (eProblem u1)) rfl (bk hF fun u2 e2 hF => qC (AB u2) [] (con_laws_eqProblem e2) c45_ (qp (AB (!u2)) rfl (r_nil ?_)))))))))))))))
  refine cF hF (fun hF => ws 897 961 (qp (AB false) rfl (r_nil (w_ret (blockQ_r (thenQ_r (thenQ_r (blockQ_r (thenQ_r (eQ hF)))))))))) fun hF => ?_
  refine w_skip (blockQ_n (thenQ_n (w_reg 897 1089 rfl rfl (qp (AI x1) rfl (qp (AI (w64 (x1 + 1))) rfl (qp (AI (w64 (x1 + 1))) rfl (r_nil (thenQ_n ?_))))))))
  refine ar (l' := [(0, AL 3 (v0.map eProblem)), (1, AL 3 (v1.map eProblem)), (5, AI (w64 (x1 + 1)))]) (L := []) [0, 1, 5] [] 1 ⟨_, by rfl, hF⟩
 exact w_exit (thenQ_e (thenQ_e (blockQ_e (thenQ_n (ws 257 321 (qp (AB true) rfl (rR hF)))))))

def c82 : MC := (sr [pT 4 (.mv cf)] (.seq (sr [mvt 6 0, zT 7 6, mvt 8 1, zT 9 8, bT 10 .neq t7 t9] (.cond t10 (sr [pT 4 (.mv cf)] .ret) .skip)) (.seq (sr [pT 5 (.mv (ci 0))] (.block 0 (.loop (.seq (sr [mvt 11 5, mvt 12 0, zT 13 12, bT 14 .lss t11 t13] (cx t14 0)) (.seq (.block 1 (sr [mP 17 t0, mP 18 t5, iF 19 17 18 1, lF 20 19, mP 21 t1, mP 22 t5, iF 23 21 22 1, lF 24 23, bF 25 .neq t20 t24] (.cond t25 (sr [pT 4 (.mv cf)] .ret) .skip))) (.reg [mvt 15 5, bT 16 .add t15 (ci 1), mvt 5 16])))))) (sr [pT 4 (.mv ct)] .ret))))
theorem c82_ : IsF Tryz.prog 82 c82 [(.tmp 4)] := ⟨by kernel_rfl, by kernel_rfl⟩

def F_laws_eqInt64S_l0 (v0 : List Int) (v1 : List Int) (k0 : Int → Option (Bool)) : Int → Option (Bool)
 | x1 => (bif (decide (x1 < (v0.length : Int))) then ((ix v0 x1).bind fun u0 => ((ix v1 x1).bind fun u1 => (bif (decide (u0 ≠ u1)) then some false
 else k0 (w64 (x1 + 1)))))
 else some true)
def F_laws_eqInt64S (v0 : List Int) (v1 : List Int) : Option (Bool) :=
 (bif (decide ((v0.length : Int) ≠ (v1.length : Int))) then some false
 else loop (F_laws_eqInt64S_l0 v0 v1) 0)
@[simp] abbrev K7m (v0 : List Int) : V := .sl 1 (v0.map vI)
@[simp] def res_laws_eqInt64S (r : Bool) : RV := .one (.one (.val (.bool r)))
theorem con_laws_eqInt64S {v0 : List Int} {v1 : List Int} {r : Bool} (hF : F_laws_eqInt64S v0 v1 = some r) : Con Tryz.prog 82 [.sl 1 (v0.map vI), .sl 1 (v1.map vI)] (res_laws_eqInt64S r) := by
 unfold F_laws_eqInt64S at hF
 refine con_of c82_.1 fun N => ?_
 refine ws 0 64 (qp (AB false) rfl (r_nil (w_seq (ws 64 384 (qp (.val none (K7m v0)) rfl (qp (AI (v0.length : Int)) (ev_len_n rfl) (qp (AL 1 (v1.map vI)) rfl (qp (AI (v1.length : Int)) (ev_len_n rfl) (qp (AB (decide ((v0.length : Int) ≠ (v1.length : Int)))) rfl (r_nil ?_))))))))))
 refine cF hF (fun hF => ws 384 448 (qp (AB false) rfl (r_nil (w_ret (thenQ_r (eQ hF)))))) fun hF => w_skip (thenQ_n (w_seq (ws 384 448 (qp (AI 0) rfl (r_nil (w_block ?_))))))
 refine wr (l' := [(0, .val none (K7m v0)), (1, AL 1 (v1.map vI)), (5, AI 0)]) (L := []) [0, 1, 5] [] 1 ?_
 refine w_loopF (F_laws_eqInt64S_l0 v0 v1) (fun s : Int => mkS [(0, .val none (K7m v0)), (1, AL 1 (v1.map vI)), (5, AI s)] (fo []) 1) hF ?_
 rintro k0 x1 hF
 rw [F_laws_eqInt64S_l0] at hF
 try dsimp only
 refine w_seq (ws 1 257 (qp (AI x1) rfl (qp (.val none (K7m v0)) rfl (qp (AI (v0.length : Int)) (ev_len_n rfl) (qp (AB (decide (x1 < (v0.length : Int)))) rfl (r_nil ?_))))))
 refine cF hF (fun hF => ?_) fun hF => ?_
 ·
  refine w_skip (thenQ_n (w_seq (w_block (ws 257 833 (qp (.val none (K7m v0)) rfl (qp (AI x1) rfl (bk hF fun u0 e0 hF => qp (.val none (.ptr [.int .i64 u0])) (ev_iad_n rfl rfl e0 rfl) (qp (AI u0) rfl (qp (AL 1 (v1.map vI)) rfl (qp (AI x1) rfl (bk hF fun u1 e1 hF => qp (.val none (.ptr [.int .i64 u1])) (ev_iad_n rfl rfl e1 rfl) (qp (AI u1) rfl (qp (AB (decide (u0 ≠ u1))) rfl (r_nil ?_))))))))))))))
  refine cF hF (fun hF => ws 833 897 (qp (AB false) rfl (r_nil (w_ret (blockQ_r (thenQ_r (thenQ_r (blockQ_r (thenQ_r (eQ hF)))))))))) fun hF => ?_
  refine w_skip (blockQ_n (thenQ_n (w_reg 833 1025 rfl rfl (qp (AI x1) rfl (qp (AI (w64 (x1 + 1))) rfl (qp (AI (w64 (x1 + 1))) rfl (r_nil (thenQ_n ?_))))))))
  refine ar (l' := [(0, .val none (K7m v0)), (1, AL 1 (v1.map vI)), (5, AI (w64 (x1 + 1)))]) (L := []) [0, 1, 5] [] 1 ⟨_, by rfl, hF⟩
 exact w_exit (thenQ_e (thenQ_e (blockQ_e (thenQ_n (ws 257 321 (qp (AB true) rfl (rR hF)))))))

def c83 : MC := (sr [pT 4 (.mv cf)] (.seq (sr [mvt 6 0, zT 7 6, mvt 8 1, zT 9 8, bT 10 .neq t7 t9] (.cond t10 (sr [pT 4 (.mv cf)] .ret) .skip)) (.seq (sr [pT 5 (.mv (ci 0))] (.block 0 (.loop (.seq (sr [mvt 11 5, mvt 12 0, zT 13 12, bT 14 .lss t11 t13] (cx t14 0)) (.seq (.block 1 (sr [mP 17 t0, mP 18 t5, iF 19 17 18 1, lF 20 19, mP 21 t1, mP 22 t5, iF 23 21 22 1, lF 24 23, dF 25 82 [t20, t24], pF 26 (.not t25)] (.cond t26 (sr [pT 4 (.mv cf)] .ret) .skip))) (.reg [mvt 15 5, bT 16 .add t15 (ci 1), mvt 5 16])))))) (sr [pT 4 (.mv ct)] .ret))))
theorem c83_ : IsF Tryz.prog 83 c83 [(.tmp 4)] := ⟨by kernel_rfl, by kernel_rfl⟩

def F_laws_eqInt64SS_l0 (v0 : List (List Int)) (v1 : List (List Int)) (k0 : Int → Option (Bool)) : Int → Option (Bool)
 | x1 => (bif (decide (x1 < (v0.length : Int))) then ((ix v0 x1).bind fun u0 => ((ix v1 x1).bind fun u1 => ((F_laws_eqInt64S u0 u1).bind fun u2 => (bif (!u2) then some false
 else k0 (w64 (x1 + 1))))))
 else some true)
def F_laws_eqInt64SS (v0 : List (List Int)) (v1 : List (List Int)) : Option (Bool) :=
 (bif (decide ((v0.length : Int) ≠ (v1.length : Int))) then some false
 else loop (F_laws_eqInt64SS_l0 v0 v1) 0)
@[simp] abbrev K7n (v0 : List (List Int)) : V := .sl 1 (v0.map (eL 1 vI))
@[simp] abbrev K7o (v1 : List (List Int)) : V := .sl 1 (v1.map (eL 1 vI))
@[simp] def res_laws_eqInt64SS (r : Bool) : RV := .one (.one (.val (.bool r)))
theorem con_laws_eqInt64SS {v0 : List (List Int)} {v1 : List (List Int)} {r : Bool} (hF : F_laws_eqInt64SS v0 v1 = some r) : Con Tryz.prog 83 [.sl 1 (v0.map (eL 1 vI)), .sl 1 (v1.map (eL 1 vI))] (res_laws_eqInt64SS r) := by
 unfold F_laws_eqInt64SS at hF
 refine con_of c83_.1 fun N => ?_
 refine ws 0 64 (qp (AB false) rfl (r_nil (w_seq (ws 64 384 (qp (.val none (K7n v0)) rfl (qp (AI (v0.length : Int)) (ev_len_n rfl) (qp (.val none (K7o v1)) rfl (qp (AI (v1.length : Int)) (ev_len_n rfl) (qp (AB (decide ((v0.length : Int) ≠ (v1.length : Int)))) rfl (r_nil ?_))))))))))
 refine cF hF (fun hF => ws 384 448 (qp (AB false) rfl (r_nil (w_ret (thenQ_r (eQ hF)))))) fun hF => w_skip (thenQ_n (w_seq (ws 384 448 (qp (AI 0) rfl (r_nil (w_block ?_))))))
 refine wr (l' := [(0, .val none (K7n v0)), (1, .val none (K7o v1)), (5, AI 0)]) (L := []) [0, 1, 5] [] 1 ?_
 refine w_loopF (F_laws_eqInt64SS_l0 v0 v1) (fun s : Int => mkS [(0, .val none (K7n v0)), (1, .val none (K7o v1)), (5, AI s)] (fo []) 1) hF ?_
 rintro k0 x1 hF
 rw [F_laws_eqInt64SS_l0] at hF
 try dsimp only
 refine w_seq (ws 1 257 (qp (AI x1) rfl (qp (.val none (K7n v0)) rfl (qp (AI (v0.length : Int)) (ev_len_n rfl) (qp (AB (decide (x1 < (v0.length : Int)))) rfl (r_nil ?_))))))
 refine cF hF (fun hF => ?_) fun hF => ?_
 ·
  refine w_skip (thenQ_n (w_seq (w_block (ws 257 897 (qp (.val none (K7n v0)) rfl (qp (AI x1) rfl (bk hF fun u0 e0 hF => qp (.val none (.ptr [.sl 1 (u0.map vI)])) (ev_iad_n rfl rfl e0 rfl) (qp (AL 1 (u0.map vI)) rfl (qp (.val none (K7o v1)) rfl (qp (AI x1) rfl (bk hF fun u1 e1 hF => qp (.val none (.ptr [.sl 1 (u1.map vI)])) (ev_iad_n rfl rfl e1 rfl) (qp (AL 1 (u1.map vI)) rfl (bk hF fun u2 e2 hF => qC (AB u2) [] (con_laws_eqInt64S e2) c82_ (qp (AB (!u2)) rfl (r_nil ?_)))))))))))))))
  refine cF hF (fun hF => ws 897 961 (qp (AB false) rfl (r_nil (w_ret (blockQ_r (thenQ_r (thenQ_r (blockQ_r (thenQ_r (eQ hF)))))))))) fun hF => ?_
  refine w_skip (blockQ_n (thenQ_n (w_reg 897 1089 rfl rfl (qp (AI x1) rfl (qp (AI (w64 (x1 + 1))) rfl (qp (AI (w64 (x1 + 1))) rfl (r_nil (thenQ_n ?_))))))))
  refine ar (l' := [(0, .val none (K7n v0)), (1, .val none (K7o v1)), (5, AI (w64 (x1 + 1)))]) (L := []) [0, 1, 5] [] 1 ⟨_, by rfl, hF⟩
 exact w_exit (thenQ_e (thenQ_e (blockQ_e (thenQ_n (ws 257 321 (qp (AB true) rfl (rR hF)))))))

def c46 : MC := (sr [rg 2 (.f (.box t0)), rg 3 (.f (.box t1)), pT 4 (.mv cf)] (.seq (sr [pT 5 (.fad t2 0), lT 6 5, pT 7 (.fad t3 0), lT 8 7, bT 9 .neq t6 t8] (.cond t9 (sr [pT 4 (.mv cf)] .ret) .skip)) (.seq (sr [pT 10 (.fad t2 1), lT 11 10, pT 12 (.fad t3 1), lT 13 12, dT 14 82 [t11, t13], pT 15 (.not t14)] (.cond t15 (sr [pT 4 (.mv cf)] .ret) .skip)) (.seq (sr [pT 16 (.fad t2 2), lT 17 16, pT 18 (.fad t3 2), lT 19 18, dT 20 82 [t17, t19], pT 21 (.not t20)] (.cond t21 (sr [pT 4 (.mv cf)] .ret) .skip)) (.seq (sr [pT 22 (.fad t2 3), lT 23 22, pT 24 (.fad t3 3), lT 25 24, bT 26 .neq t23 t25] (.cond t26 (sr [pT 4 (.mv cf)] .ret) .skip)) (.seq (sr [pT 27 (.fad t2 4), lT 28 27, pT 29 (.fad t3 4), lT 30 29, bT 31 .neq t28 t30] (.cond t31 (sr [pT 4 (.mv cf)] .ret) .skip)) (.seq (sr [pT 32 (.fad t2 5), lT 33 32, pT 34 (.fad t3 5), lT 35 34, dT 36 83 [t33, t35], pT 37 (.not t36)] (.cond t37 (sr [pT 4 (.mv cf)] .ret) .skip)) (sr [pT 4 (.mv ct)] .ret))))))))
theorem c46_ : IsF Tryz.prog 46 c46 [(.tmp 4)] := ⟨by kernel_rfl, by kernel_rfl⟩

def F_laws_eqRaga (v0 : TRaga) (v1 : TRaga) : Option (Bool) :=
 (bif (decide (v0.1 ≠ v1.1)) then some false
 else ((F_laws_eqInt64S v0.2.1 v1.2.1).bind fun u0 => (bif (!u0) then some false
 else ((F_laws_eqInt64S v0.2.2.1 v1.2.2.1).bind fun u1 => (bif (!u1) then some false
 else (bif (decide (v0.2.2.2.1 ≠ v1.2.2.2.1)) then some false
 else (bif (decide (v0.2.2.2.2.1 ≠ v1.2.2.2.2.1)) then some false
 else ((F_laws_eqInt64SS v0.2.2.2.2.2 v1.2.2.2.2.2).bind fun u2 => (bif (!u2) then some false
 else some true)))))))))
@[simp] abbrev K7p (v0 : TRaga) : List (Nat × Root) := [(0, .box [AS v0.1, AL 1 (v0.2.1.map vI), AL 1 (v0.2.2.1.map vI), AI v0.2.2.2.1, AI v0.2.2.2.2.1, AL 1 (v0.2.2.2.2.2.map (eL 1 vI))])]
@[simp] abbrev K7q (v1 : TRaga) (v0 : TRaga) : List (Nat × Root) := ((64, .box [AS v1.1, AL 1 (v1.2.1.map vI), AL 1 (v1.2.2.1.map vI), AI v1.2.2.2.1, AI v1.2.2.2.2.1, AL 1 (v1.2.2.2.2.2.map (eL 1 vI))]) :: (K7p v0))
@[simp] def res_laws_eqRaga (r : Bool) : RV := .one (.one (.val (.bool r)))
theorem con_laws_eqRaga {v0 : TRaga} {v1 : TRaga} {r : Bool} (hF : F_laws_eqRaga v0 v1 = some r) : Con Tryz.prog 46 [eRaga v0, eRaga v1] (res_laws_eqRaga r) := by
 unfold F_laws_eqRaga at hF
 refine con_of c46_.1 fun N => ?_
 refine ws 0 192 (qf (.ptr 0 0 0) (K7p v0) (by simp) (qf (.ptr 64 0 0) (K7q v1 v0) (by simp) (qp (AB false) rfl (r_nil (w_seq (ws 192 512 (qp (.ptr 0 0 0) rfl (qp (AS v0.1) rfl (qp (.ptr 64 0 0) rfl (qp (AS v1.1) rfl (qp (AB (decide (v0.1 ≠ v1.1))) rfl (r_nil ?_))))))))))))
 refine cF hF (fun hF => ws 512 576 (qp (AB false) rfl (r_nil (w_ret (thenQ_r (eQ hF)))))) fun hF => w_skip (thenQ_n (w_seq (ws 512 896 (qp (.ptr 0 0 1) rfl (qp (AL 1 (v0.2.1.map vI)) rfl (qp (.ptr 64 0 1) rfl (qp (AL 1 (v1.2.1.map vI)) rfl (bk hF fun u0 e0 hF => qC (AB u0) (K7q v1 v0) (con_laws_eqInt64S e0) c82_ (qp (AB (!u0)) rfl (r_nil ?_))))))))))
 refine cF hF (fun hF => ws 896 960 (qp (AB false) rfl (r_nil (w_ret (thenQ_r (eQ hF)))))) fun hF => w_skip (thenQ_n (w_seq (ws 896 1280 (qp (.ptr 0 0 2) rfl (qp (AL 1 (v0.2.2.1.map vI)) rfl (qp (.ptr 64 0 2) rfl (qp (AL 1 (v1.2.2.1.map vI)) rfl (bk hF fun u1 e1 hF => qC (AB u1) (K7q v1 v0) (con_laws_eqInt64S e1) c82_ (qp (AB (!u1)) rfl (r_nil ?_))))))))))
 refine cF hF (fun hF => ws 1280 1344 (qp (AB false) rfl (r_nil (w_ret (thenQ_r (eQ hF)))))) fun hF => w_skip (thenQ_n (w_seq (ws 1280 1600 (qp (.ptr 0 0 3) rfl (qp (AI v0.2.2.2.1) rfl (qp (.ptr 64 0 3) rfl (qp (AI v1.2.2.2.1) rfl (qp (AB (decide (v0.2.2.2.1 ≠ v1.2.2.2.1))) rfl (r_nil ?_)))))))))
 refine cF hF (fun hF => ws 1600 1664 (qp (AB false) rfl (r_nil (w_ret (thenQ_r (eQ hF)))))) fun hF => w_skip (thenQ_n (w_seq (ws 1600 1920 (qp (.ptr 0 0 4) rfl (qp (AI v0.2.2.2.2.1) rfl (qp (.ptr 64 0 4) rfl (qp (AI v1.2.2.2.2.1) rfl (qp (AB (decide (v0.2.2.2.2.1 ≠ v1.2.2.2.2.1))) rfl (r_nil ?_)))))))))
 refine cF hF (fun hF => ws 1920 1984 (qp (AB false) rfl (r_nil (w_ret (thenQ_r (eQ hF)))))) fun hF => w_skip (thenQ_n (w_seq (ws 1920 2304 (qp (.ptr 0 0 5) rfl (qp (AL 1 (v0.2.2.2.2.2.map (eL 1 vI))) rfl (qp (.ptr 64 0 5) rfl (qp (AL 1 (v1.2.2.2.2.2.map (eL 1 vI))) rfl (bk hF fun u2 e2 hF => qC (AB u2) (K7q v1 v0) (con_laws_eqInt64SS e2) c83_ (qp (AB (!u2)) rfl (r_nil ?_))))))))))
 refine cF hF (fun hF => ws 2304 2368 (qp (AB false) rfl (r_nil (w_ret (thenQ_r (eQ hF)))))) fun hF => ?_
 exact w_skip (thenQ_n (ws 2304 2368 (qp (AB true) rfl (rR hF))))

def c84 : MC := (sr [rg 2 (.f (.box t0)), rg 3 (.f (.box t1)), pT 4 (.mv cf)] (.seq (sr [pT 5 (.fad t2 0), lT 6 5, pT 7 (.fad t3 0), lT 8 7, bT 9 .neq t6 t8] (.cond t9 (sr [pT 4 (.mv cf)] .ret) .skip)) (.seq (sr [pT 10 (.fad t2 1), lT 11 10, pT 12 (.fad t3 1), lT 13 12, bT 14 .neq t11 t13] (.cond t14 (sr [pT 4 (.mv cf)] .ret) .skip)) (sr [pT 4 (.mv ct)] .ret))))
theorem c84_ : IsF Tryz.prog 84 c84 [(.tmp 4)] := ⟨by kernel_rfl, by kernel_rfl⟩

def F_laws_eqNote (v0 : TNote) (v1 : TNote) : Option (Bool) :=
 (bif (decide (v0.1 ≠ v1.1)) then some false
 else (bif (decide (v0.2 ≠ v1.2)) then some false
 else some true))
@[simp] def res_laws_eqNote (r : Bool) : RV := .one (.one (.val (.bool r)))
theorem con_laws_eqNote {v0 : TNote} {v1 : TNote} {r : Bool} (hF : F_laws_eqNote v0 v1 = some r) : Con Tryz.prog 84 [eNote v0, eNote v1] (res_laws_eqNote r) := by
 unfold F_laws_eqNote at hF
 refine con_of c84_.1 fun N => ?_
 refine ws 0 192 (qf (.ptr 0 0 0) [(0, .box [AI v0.1, AI v0.2])] (by simp) (qf (.ptr 64 0 0) [(64, .box [AI v1.1, AI v1.2]), (0, .box [AI v0.1, AI v0.2])] (by simp) (qp (AB false) rfl (r_nil (w_seq (ws 192 512 (qp (.ptr 0 0 0) rfl (qp (AI v0.1) rfl (qp (.ptr 64 0 0) rfl (qp (AI v1.1) rfl (qp (AB (decide (v0.1 ≠ v1.1))) rfl (r_nil ?_))))))))))))
 refine cF hF (fun hF => ws 512 576 (qp (AB false) rfl (r_nil (w_ret (thenQ_r (eQ hF)))))) fun hF => w_skip (thenQ_n (w_seq (ws 512 832 (qp (.ptr 0 0 1) rfl (qp (AI v0.2) rfl (qp (.ptr 64 0 1) rfl (qp (AI v1.2) rfl (qp (AB (decide (v0.2 ≠ v1.2))) rfl (r_nil ?_)))))))))
 refine cF hF (fun hF => ws 832 896 (qp (AB false) rfl (r_nil (w_ret (thenQ_r (eQ hF)))))) fun hF => ?_
 exact w_skip (thenQ_n (ws 832 896 (qp (AB true) rfl (rR hF))))

def c47 : MC := (sr [pT 4 (.mv cf)] (.seq (sr [mvt 6 0, zT 7 6, mvt 8 1, zT 9 8, bT 10 .neq t7 t9] (.cond t10 (sr [pT 4 (.mv cf)] .ret) .skip)) (.seq (sr [pT 5 (.mv (ci 0))] (.block 0 (.loop (.seq (sr [mvt 11 5, mvt 12 0, zT 13 12, bT 14 .lss t11 t13] (cx t14 0)) (.seq (.block 1 (sr [mP 17 t0, mP 18 t5, iF 19 17 18 2, pF 20 (.ld t19 2 true), mP 21 t1, mP 22 t5, iF 23 21 22 2, pF 24 (.ld t23 2 true), dF 25 84 [t20, t24], pF 26 (.not t25)] (.cond t26 (sr [pT 4 (.mv cf)] .ret) .skip))) (.reg [mvt 15 5, bT 16 .add t15 (ci 1), mvt 5 16])))))) (sr [pT 4 (.mv ct)] .ret))))
theorem c47_ : IsF Tryz.prog 47 c47 [(.tmp 4)] := ⟨by kernel_rfl, by kernel_rfl⟩

def F_laws_eqNoteS_l0 (v0 : List TNote) (v1 : List TNote) (k0 : Int → Option (Bool)) : Int → Option (Bool)
 | x1 => (bif (decide (x1 < (v0.length : Int))) then ((ix v0 x1).bind fun u0 => ((ix v1 x1).bind fun u1 => ((F_laws_eqNote u0 u1).bind fun u2 => (bif (!u2) then some false
 else k0 (w64 (x1 + 1))))))
 else some true)
def F_laws_eqNoteS (v0 : List TNote) (v1 : List TNote) : Option (Bool) :=
 (bif (decide ((v0.length : Int) ≠ (v1.length : Int))) then some false
 else loop (F_laws_eqNoteS_l0 v0 v1) 0)
@[simp] def res_laws_eqNoteS (r : Bool) : RV := .one (.one (.val (.bool r)))
theorem con_laws_eqNoteS {v0 : List TNote} {v1 : List TNote} {r : Bool} (hF : F_laws_eqNoteS v0 v1 = some r) : Con Tryz.prog 47 [.sl 2 (v0.map eNote), .sl 2 (v1.map eNote)] (res_laws_eqNoteS r) := by
 unfold F_laws_eqNoteS at hF
 refine con_of c47_.1 fun N => ?_
 refine ws 0 64 (qp (AB false) rfl (r_nil (w_seq (ws 64 384 (qp (AL 2 (v0.map eNote)) rfl (qp (AI (v0.length : Int)) (ev_len_n rfl) (qp (AL 2 (v1.map eNote)) rfl (qp (AI (v1.length : Int)) (ev_len_n rfl) (qp (AB (decide ((v0.length : Int) ≠ (v1.length : Int)))) rfl (r_nil ?_))))))))))
 refine cF hF (fun hF => ws 384 448 (qp (AB false) rfl (r_nil (w_ret (thenQ_r (eQ hF)))))) fun hF => w_skip (thenQ_n (w_seq (ws 384 448 (qp (AI 0) rfl (r_nil (w_block ?_))))))
 refine wr (l' := [(0, AL 2 (v0.map eNote)), (1, AL 2 (v1.map eNote)), (5, AI 0)]) (L := []) [0, 1, 5] [] 1 ?_
 refine w_loopF (F_laws_eqNoteS_l0 v0 v1) (fun s : Int => mkS [(0, AL 2 (v0.map eNote)), (1, AL 2 (v1.map eNote)), (5, AI s)] (fo []) 1) hF ?_
 rintro k0 x1 hF
 rw [F_laws_eqNoteS_l0] at hF
 try dsimp only
 refine w_seq (ws 1 257 (qp (AI x1) rfl (qp (AL 2 (v0.map eNote)) rfl (qp (AI (v0.length : Int)) (ev_len_n rfl) (qp (AB (decide (x1 < (v0.length : Int)))) rfl (r_nil ?_))))))
 refine cF hF (fun hF => ?_) fun hF => ?_
 ·
  refine w_skip (thenQ_n (w_seq (w_block (ws 257 897 (qp (AL 2 (v0.map eNote)) rfl (qp (AI x1) rfl (bk hF fun u0 e0 hF => qp (.val none (.ptr [.int .i64 u0.1, .int .i64 u0.2])) (ev_iad_n rfl rfl e0 rfl) (qp (.val none (eNote u0)) rfl (qp (AL 2 (v1.map eNote)) rfl (qp (AI x1) rfl (bk hF fun u1 e1 hF => qp (.val none (.ptr [.int .i64 u1.1, .int .i64 u1.2])) (ev_iad_n rfl rfl e1 rfl) (qp (.val none (eNote u1)) rfl (bk hF fun u2 e2 hF => qC (AB u2) [] (con_laws_eqNote e2) c84_ (qp (AB (!u2)) rfl (r_nil ?_)))))))))))))))
  refine cF hF (fun hF => ws 897 961 (qp (AB false) rfl (r_nil (w_ret (blockQ_r (thenQ_r (thenQ_r (blockQ_r (thenQ_r (eQ hF)))))))))) fun hF => ?_
  refine w_skip (blockQ_n (thenQ_n (w_reg 897 1089 rfl rfl (qp (AI x1) rfl (qp (AI (w64 (x1 + 1))) rfl (qp (AI (w64 (x1 + 1))) rfl (r_nil (thenQ_n ?_))))))))
  refine ar (l' := [(0, AL 2 (v0.map eNote)), (1, AL 2 (v1.map eNote)), (5, AI (w64 (x1 + 1)))]) (L := []) [0, 1, 5] [] 1 ⟨_, by rfl, hF⟩
 exact w_exit (thenQ_e (thenQ_e (blockQ_e (thenQ_n (ws 257 321 (qp (AB true) rfl (rR hF)))))))

def c48 : MC := (sr [rg 2 (.f (.box t0)), rg 3 (.f (.box t1)), pT 4 (.mv cf)] (.seq (sr [pT 5 (.fad t2 0), lT 6 5, pT 7 (.fad t3 0), lT 8 7, bT 9 .neq t6 t8] (.cond t9 (sr [pT 4 (.mv cf)] .ret) .skip)) (.seq (sr [pT 10 (.fad t2 1), lT 11 10, pT 12 (.fad t3 1), lT 13 12, dT 14 82 [t11, t13], pT 15 (.not t14)] (.cond t15 (sr [pT 4 (.mv cf)] .ret) .skip)) (.seq (sr [pT 16 (.fad t2 2), lT 17 16, pT 18 (.fad t3 2), lT 19 18, dT 20 82 [t17, t19], pT 21 (.not t20)] (.cond t21 (sr [pT 4 (.mv cf)] .ret) .skip)) (sr [pT 4 (.mv ct)] .ret)))))
theorem c48_ : IsF Tryz.prog 48 c48 [(.tmp 4)] := ⟨by kernel_rfl, by kernel_rfl⟩

def F_laws_eqTala (v0 : TTala) (v1 : TTala) : Option (Bool) :=
 (bif (decide (v0.1 ≠ v1.1)) then some false
 else ((F_laws_eqInt64S v0.2.1 v1.2.1).bind fun u0 => (bif (!u0) then some false
 else ((F_laws_eqInt64S v0.2.2 v1.2.2).bind fun u1 => (bif (!u1) then some false
 else some true)))))
@[simp] abbrev K7r (v0 : TTala) : List (Nat × Root) := [(0, .box [AS v0.1, AL 1 (v0.2.1.map vI), AL 1 (v0.2.2.map vI)])]
@[simp] abbrev K7s (v1 : TTala) (v0 : TTala) : List (Nat × Root) := ((64, .box [AS v1.1, AL 1 (v1.2.1.map vI), AL 1 (v1.2.2.map vI)]) :: (K7r v0))
@[simp] def res_laws_eqTala (r : Bool) : RV := .one (.one (.val (.bool r)))
theorem con_laws_eqTala {v0 : TTala} {v1 : TTala} {r : Bool} (hF : F_laws_eqTala v0 v1 = some r) : Con Tryz.prog 48 [eTala v0, eTala v1] (res_laws_eqTala r) := by
 unfold F_laws_eqTala at hF
 refine con_of c48_.1 fun N => ?_
 refine ws 0 192 (qf (.ptr 0 0 0) (K7r v0) (by simp) (qf (.ptr 64 0 0) (K7s v1 v0) (by simp) (qp (AB false) rfl (r_nil (w_seq (ws 192 512 (qp (.ptr 0 0 0) rfl (qp (AS v0.1) rfl (qp (.ptr 64 0 0) rfl (qp (AS v1.1) rfl (qp (AB (decide (v0.1 ≠ v1.1))) rfl (r_nil ?_))))))))))))
 refine cF hF (fun hF => ws 512 576 (qp (AB false) rfl (r_nil (w_ret (thenQ_r (eQ hF)))))) fun hF => w_skip (thenQ_n (w_seq (ws 512 896 (qp (.ptr 0 0 1) rfl (qp (AL 1 (v0.2.1.map vI)) rfl (qp (.ptr 64 0 1) rfl (qp (AL 1 (v1.2.1.map vI)) rfl (bk hF fun u0 e0 hF => qC (AB u0) (K7s v1 v0) (con_laws_eqInt64S e0) c82_ (qp (AB (!u0)) rfl (r_nil ?_))))))))))
 refine cF hF (fun hF => ws 896 960 (qp (AB false) rfl (r_nil (w_ret (thenQ_r (eQ hF)))))) fun hF => w_skip (thenQ_n (w_seq (ws 896 1280 (qp (.ptr 0 0 2) rfl (qp (AL 1 (v0.2.2.map vI)) rfl (qp (.ptr 64 0 2) rfl (qp (AL 1 (v1.2.2.map vI)) rfl (bk hF fun u1 e1 hF => qC (AB u1) (K7s v1 v0) (con_laws_eqInt64S e1) c82_ (qp (AB (!u1)) rfl (r_nil ?_))))))))))
 refine cF hF (fun hF => ws 1280 1344 (qp (AB false) rfl (r_nil (w_ret (thenQ_r (eQ hF)))))) fun hF => ?_
 exact w_skip (thenQ_n (ws 1280 1344 (qp (AB true) rfl (rR hF))))

def c85 : MC := (sr [rg 2 (.f (.box t0)), rg 3 (.f (.box t1)), pT 4 (.mv cf)] (.seq (sr [pT 5 (.fad t2 0), lT 6 5, pT 7 (.fad t3 0), lT 8 7, bT 9 .neq t6 t8] (.cond t9 (sr [pT 4 (.mv cf)] .ret) .skip)) (.seq (sr [pT 10 (.fad t2 1), lT 11 10, pT 12 (.fad t3 1), lT 13 12, bT 14 .neq t11 t13] (.cond t14 (sr [pT 4 (.mv cf)] .ret) .skip)) (.seq (sr [pT 15 (.fad t2 2), lT 16 15, pT 17 (.fad t3 2), lT 18 17, bT 19 .neq t16 t18] (.cond t19 (sr [pT 4 (.mv cf)] .ret) .skip)) (sr [pT 4 (.mv ct)] .ret)))))
theorem c85_ : IsF Tryz.prog 85 c85 [(.tmp 4)] := ⟨by kernel_rfl, by kernel_rfl⟩

def F_laws_eqTurn (v0 : TTurn) (v1 : TTurn) : Option (Bool) :=
 (bif (decide (v0.1 ≠ v1.1)) then some false
 else (bif (decide (v0.2.1 ≠ v1.2.1)) then some false
 else (bif (decide (v0.2.2 ≠ v1.2.2)) then some false
 else some true)))
@[simp] def res_laws_eqTurn (r : Bool) : RV := .one (.one (.val (.bool r)))
theorem con_laws_eqTurn {v0 : TTurn} {v1 : TTurn} {r : Bool} (hF : F_laws_eqTurn v0 v1 = some r) : Con Tryz.prog 85 [eTurn v0, eTurn v1] (res_laws_eqTurn r) := by
 unfold F_laws_eqTurn at hF
 refine con_of c85_.1 fun N => ?_
 refine ws 0 192 (qf (.ptr 0 0 0) [(0, .box [AS v0.1, AI v0.2.1, AI v0.2.2])] (by simp) (qf (.ptr 64 0 0) [(64, .box [AS v1.1, AI v1.2.1, AI v1.2.2]), (0, .box [AS v0.1, AI v0.2.1, AI v0.2.2])] (by simp) (qp (AB false) rfl (r_nil (w_seq (ws 192 512 (qp (.ptr 0 0 0) rfl (qp (AS v0.1) rfl (qp (.ptr 64 0 0) rfl (qp (AS v1.1) rfl (qp (AB (decide (v0.1 ≠ v1.1))) rfl (r_nil ?_))))))))))))
 refine cF hF (fun hF => ws 512 576 (qp (AB false) rfl (r_nil (w_ret (thenQ_r (eQ hF)))))) fun hF => w_skip (thenQ_n (w_seq (ws 512 832 (qp (.ptr 0 0 1) rfl (qp (AI v0.2.1) rfl (qp (.ptr 64 0 1) rfl (qp (AI v1.2.1) rfl (qp (AB (decide (v0.2.1 ≠ v1.2.1))) rfl (r_nil ?_)))))))))
 refine cF hF (fun hF => ws 832 896 (qp (AB false) rfl (r_nil (w_ret (thenQ_r (eQ hF)))))) fun hF => w_skip (thenQ_n (w_seq (ws 832 1152 (qp (.ptr 0 0 2) rfl (qp (AI v0.2.2) rfl (qp (.ptr 64 0 2) rfl (qp (AI v1.2.2) rfl (qp (AB (decide (v0.2.2 ≠ v1.2.2))) rfl (r_nil ?_)))))))))
 refine cF hF (fun hF => ws 1152 1216 (qp (AB false) rfl (r_nil (w_ret (thenQ_r (eQ hF)))))) fun hF => ?_
 exact w_skip (thenQ_n (ws 1152 1216 (qp (AB true) rfl (rR hF))))

def c49 : MC := (sr [pT 4 (.mv cf)] (.seq (sr [mvt 6 0, zT 7 6, mvt 8 1, zT 9 8, bT 10 .neq t7 t9] (.cond t10 (sr [pT 4 (.mv cf)] .ret) .skip)) (.seq (sr [pT 5 (.mv (ci 0))] (.block 0 (.loop (.seq (sr [mvt 11 5, mvt 12 0, zT 13 12, bT 14 .lss t11 t13] (cx t14 0)) (.seq (.block 1 (sr [mP 17 t0, mP 18 t5, iF 19 17 18 3, pF 20 (.ld t19 3 true), mP 21 t1, mP 22 t5, iF 23 21 22 3, pF 24 (.ld t23 3 true), dF 25 85 [t20, t24], pF 26 (.not t25)] (.cond t26 (sr [pT 4 (.mv cf)] .ret) .skip))) (.reg [mvt 15 5, bT 16 .add t15 (ci 1), mvt 5 16])))))) (sr [pT 4 (.mv ct)] .ret))))
theorem c49_ : IsF Tryz.prog 49 c49 [(.tmp 4)] := ⟨by kernel_rfl, by kernel_rfl⟩

def F_laws_eqTurnS_l0 (v0 : List TTurn) (v1 : List TTurn) (k0 : Int → Option (Bool)) : Int → Option (Bool)
 | x1 => (bif (decide (x1 < (v0.length : Int))) then ((ix v0 x1).bind fun u0 => ((ix v1 x1).bind fun u1 => ((F_laws_eqTurn u0 u1).bind fun u2 => (bif (!u2) then some false
 else k0 (w64 (x1 + 1))))))
 else some true)
def F_laws_eqTurnS (v0 : List TTurn) (v1 : List TTurn) : Option (Bool) :=
 (bif (decide ((v0.length : Int) ≠ (v1.length : Int))) then some false
 else loop (F_laws_eqTurnS_l0 v0 v1) 0)
@[simp] def res_laws_eqTurnS (r : Bool) : RV := .one (.one (.val (.bool r)))
theorem con_laws_eqTurnS {v0 : List TTurn} {v1 : List TTurn} {r : Bool} (hF : F_laws_eqTurnS v0 v1 = some r) : Con Tryz.prog 49 [.sl 3 (v0.map eTurn), .sl 3 (v1.map eTurn)] (res_laws_eqTurnS r) := by
 unfold F_laws_eqTurnS at hF
 refine con_of c49_.1 fun N => ?_
 refine ws 0 64 (qp (AB false) rfl (r_nil (w_seq (ws 64 384 (qp (AL 3 (v0.map eTurn)) rfl (qp (AI (v0.length : Int)) (ev_len_n rfl) (qp (AL 3 (v1.map eTurn)) rfl (qp (AI (v1.length : Int)) (ev_len_n rfl) (qp (AB (decide ((v0.length : Int) ≠ (v1.length : Int)))) rfl (r_nil ?_))))))))))
 refine cF hF (fun hF => ws 384 448 (qp (AB false) rfl (r_nil (w_ret (thenQ_r (eQ hF)))))) fun hF => w_skip (thenQ_n (w_seq (ws 384 448 (qp (AI 0) rfl (r_nil (w_block ?_))))))
 refine wr (l' := [(0, AL 3 (v0.map eTurn)), (1, AL 3 (v1.map eTurn)), (5, AI 0)]) (L := []) [0, 1, 5] [] 1 ?_
 refine w_loopF (F_laws_eqTurnS_l0 v0 v1) (fun s : Int => mkS [(0, AL 3 (v0.map eTurn)), (1, AL 3 (v1.map eTurn)), (5, AI s)] (fo []) 1) hF ?_
 rintro k0 x1 hF
 rw [F_laws_eqTurnS_l0] at hF
 try dsimp only
 refine w_seq (ws 1 257 (qp (AI x1) rfl (qp (AL 3 (v0.map eTurn)) rfl (qp (AI (v0.length : Int)) (ev_len_n rfl) (qp (AB (decide (x1 < (v0.length : Int)))) rfl (r_nil ?_))))))
 refine cF hF (fun hF => ?_) fun hF => ?_
 ·
  refine w_skip (thenQ_n (w_seq (w_block (ws 257 897 (qp (AL 3 (v0.map eTurn)) rfl (qp (AI x1) rfl (bk hF fun u0 e0 hF => qp (.val none (.ptr [.str u0.1, .int .i64 u0.2.1, .int .i64 u0.2.2])) (ev_iad_n rfl rfl e0 rfl) (qp (.val none (eTurn u0)) rfl (qp (AL 3 (v1.map eTurn)) rfl (qp (AI x1) rfl (bk hF fun u1 e1 hF => qp (.val none (.ptr [.str u1.1, .int .i64 u1.2.1, .int .i64 u1.2.2])) (ev_iad_n rfl rfl e1 rfl) (qp (.val none (eTurn u1)) rfl (bk hF fun u2 e2 hF => qC (AB u2) [] (con_laws_eqTurn e2) c85_ (qp (AB (!u2)) rfl (r_nil ?_)))))))))))))))
  refine cF hF (fun hF => ws 897 961 (qp (AB false) rfl (r_nil (w_ret (blockQ_r (thenQ_r (thenQ_r (blockQ_r (thenQ_r (eQ hF)))))))))) fun hF => ?_
  refine w_skip (blockQ_n (thenQ_n (w_reg 897 1089 rfl rfl (qp (AI x1) rfl (qp (AI (w64 (x1 + 1))) rfl (qp (AI (w64 (x1 + 1))) rfl (r_nil (thenQ_n ?_))))))))
  refine ar (l' := [(0, AL 3 (v0.map eTurn)), (1, AL 3 (v1.map eTurn)), (5, AI (w64 (x1 + 1)))]) (L := []) [0, 1, 5] [] 1 ⟨_, by rfl, hF⟩
 exact w_exit (thenQ_e (thenQ_e (blockQ_e (thenQ_n (ws 257 321 (qp (AB true) rfl (rR hF)))))))

end Go.Ab
