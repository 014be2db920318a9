/- Walks (printed by auto.py, a program of this session's own). -/
import Derived.Test.YtdedhldojkdceaaGreatU0
import Derived.Test.YtdedhldojkdceaaGreatProg
import Derived.KernelRfl
import Derived.Test.YtdedhldojkdceaaGreatSQ
set_option linter.unusedVariables false
set_option linter.unusedSimpArgs false
set_option maxRecDepth 8000
set_option maxHeartbeats 8000000
noncomputable section
namespace Go.Ab
open Go.RowKit Go.Proofs

def c6 : MC := (sr [rg 1 (.f (.box t0)), rg 2 (.f (.alloc [((.str []), (0, false)), ((.sl 0 []), (1, false)), ((.sl 0 []), (1, false)), ((.int .i64 0), (0, false)), ((.int .i64 0), (0, false)), ((.sl 0 []), (1, false)), ((.sl 0 []), (2, false)), ((.str []), (0, false)), ((.sl 0 []), (2, false)), ((.sl 0 []), (1, false)), ((.sl 0 []), (3, false)), ((.sl 0 []), (2, false)), ((.sl 0 []), (6, false)), ((.sl 0 []), (5, false)), ((.sl 0 []), (3, false))]))] (sr [rg 3 (.f (.alloc [((.str []), (0, false)), ((.sl 0 []), (1, false)), ((.sl 0 []), (1, false)), ((.int .i64 0), (0, false)), ((.int .i64 0), (0, false)), ((.sl 0 []), (1, false)), ((.sl 0 []), (2, false)), ((.str []), (0, false)), ((.sl 0 []), (2, false)), ((.sl 0 []), (1, false)), ((.sl 0 []), (3, false)), ((.sl 0 []), (2, false)), ((.sl 0 []), (6, false)), ((.sl 0 []), (5, false)), ((.sl 0 []), (3, false))]))] (sr [pT 4 (.fad t1 0), pT 5 (.ld t4 6 true), dT 6 19 [t5], pT 7 (.fad t3 0), ⟨none, none, (.f (.st t7 t6 6))⟩] (sr [pT 8 (.fad t1 6), lT 9 8, dT 10 20 [t9], pT 11 (.fad t3 6), ⟨none, none, (.f (.st t11 t10 1))⟩] (sr [pT 12 (.fad t1 7), pT 13 (.ld t12 2 true), dT 14 21 [t13], pT 15 (.fad t3 7), ⟨none, none, (.f (.st t15 t14 2))⟩] (sr [pT 16 (.fad t1 9), lT 17 16, dT 18 22 [t17], pT 19 (.fad t3 9), ⟨none, none, (.f (.st t19 t18 1))⟩] (sr [pT 20 (.fad t1 10), lT 21 20, dT 22 23 [t21], pT 23 (.fad t3 10), ⟨none, none, (.f (.st t23 t22 1))⟩] (sr [pT 24 (.fad t1 11), lT 25 24, dT 26 24 [t25], pT 27 (.fad t3 11), ⟨none, none, (.f (.st t27 t26 1))⟩] (sr [pT 28 (.fad t1 12), lT 29 28, dT 30 25 [t29], pT 31 (.fad t3 12), ⟨none, none, (.f (.st t31 t30 1))⟩] (sr [pT 32 (.fad t1 13), lT 33 32, dT 34 26 [t33], pT 35 (.fad t3 13), ⟨none, none, (.f (.st t35 t34 1))⟩] (sr [pT 36 (.fad t1 14), lT 37 36, dT 38 27 [t37], pT 39 (.fad t3 14), ⟨none, none, (.f (.st t39 t38 1))⟩] (sr [pT 40 (.ld t3 15 true), ⟨none, none, (.f (.st t2 t40 15))⟩] .ret))))))))))))
theorem c6_ : IsF Tryz.prog 6 c6 [(.cell (.ld (.t 2) 15 true))] := ⟨by kernel_rfl, by kernel_rfl⟩

def F_laws_toDesk (v0 : TDesk) : Option (TDesk) :=
 ((F_laws_toRaga (v0.1, v0.2.1, v0.2.2.1, v0.2.2.2.1, v0.2.2.2.2.1, v0.2.2.2.2.2.1)).bind fun u0 => ((F_laws_toNoteS v0.2.2.2.2.2.2.1).bind fun u1 => ((F_laws_toTuning (v0.2.2.2.2.2.2.2.1, v0.2.2.2.2.2.2.2.2.1)).bind fun u2 => ((F_laws_toInt64SS v0.2.2.2.2.2.2.2.2.2.1).bind fun u3 => ((F_laws_toSyllableS v0.2.2.2.2.2.2.2.2.2.2.1).bind fun u4 => ((F_laws_toTempoMarkS v0.2.2.2.2.2.2.2.2.2.2.2.1).bind fun u5 => ((F_laws_toItemS v0.2.2.2.2.2.2.2.2.2.2.2.2.1).bind fun u6 => ((F_laws_toLessonS v0.2.2.2.2.2.2.2.2.2.2.2.2.2.1).bind fun u7 => ((F_laws_toPersonS v0.2.2.2.2.2.2.2.2.2.2.2.2.2.2).bind fun u8 => some (u0.1, u0.2.1, u0.2.2.1, u0.2.2.2.1, u0.2.2.2.2.1, u0.2.2.2.2.2, u1, u2.1, u2.2, u3, u4, u5, u6, u7, u8))))))))))
@[simp] abbrev K2c (v0 : TDesk) : List (Nat × Root) := [(0, .box [AS v0.1, AL 1 (v0.2.1.map vI), AL 1 (v0.2.2.1.map vI), AI v0.2.2.2.1, AI v0.2.2.2.2.1, AL 1 (v0.2.2.2.2.2.1.map (eL 1 vI)), AL 2 (v0.2.2.2.2.2.2.1.map eNote), AS v0.2.2.2.2.2.2.2.1, AL 2 (v0.2.2.2.2.2.2.2.2.1.map eNote), AL 1 (v0.2.2.2.2.2.2.2.2.2.1.map (eL 1 vI)), AL 3 (v0.2.2.2.2.2.2.2.2.2.2.1.map eSyllable), AL 2 (v0.2.2.2.2.2.2.2.2.2.2.2.1.map eNote), AL 6 (v0.2.2.2.2.2.2.2.2.2.2.2.2.1.map eItem), AL 5 (v0.2.2.2.2.2.2.2.2.2.2.2.2.2.1.map eLesson), AL 3 (v0.2.2.2.2.2.2.2.2.2.2.2.2.2.2.map ePerson)])]
@[simp] abbrev K2d (v0 : TDesk) : List (Nat × Root) := ((64, .box [AS [], .sl 65 0 0, .sl 66 0 0, AI 0, AI 0, .sl 67 0 0, .sl 68 0 0, AS [], .sl 69 0 0, .sl 70 0 0, .sl 71 0 0, .sl 72 0 0, .sl 73 0 0, .sl 74 0 0, .sl 75 0 0]) :: (75, .row true 3 (([] : List Int).map vI)) :: (74, .row true 5 (([] : List Int).map vI)) :: (73, .row true 6 (([] : List Int).map vI)) :: (72, .row true 2 (([] : List Int).map vI)) :: (71, .row true 3 (([] : List Int).map vI)) :: (70, .row true 1 (([] : List Int).map vI)) :: (69, .row true 2 (([] : List Int).map vI)) :: (68, .row true 2 (([] : List Int).map vI)) :: (67, .row true 1 (([] : List Int).map vI)) :: (66, .row true 1 (([] : List Int).map vI)) :: (65, .row true 1 (([] : List Int).map vI)) :: (K2c v0))
@[simp] abbrev K2e (v0 : TDesk) : List (Nat × Root) := ((128, .box [AS [], .sl 129 0 0, .sl 130 0 0, AI 0, AI 0, .sl 131 0 0, .sl 132 0 0, AS [], .sl 133 0 0, .sl 134 0 0, .sl 135 0 0, .sl 136 0 0, .sl 137 0 0, .sl 138 0 0, .sl 139 0 0]) :: (139, .row true 3 (([] : List Int).map vI)) :: (138, .row true 5 (([] : List Int).map vI)) :: (137, .row true 6 (([] : List Int).map vI)) :: (136, .row true 2 (([] : List Int).map vI)) :: (135, .row true 3 (([] : List Int).map vI)) :: (134, .row true 1 (([] : List Int).map vI)) :: (133, .row true 2 (([] : List Int).map vI)) :: (132, .row true 2 (([] : List Int).map vI)) :: (131, .row true 1 (([] : List Int).map vI)) :: (130, .row true 1 (([] : List Int).map vI)) :: (129, .row true 1 (([] : List Int).map vI)) :: (K2d v0))
@[simp] abbrev K2f (u0 : TRaga) (v0 : TDesk) : List (Nat × Root) := ((325, .row true 1 (u0.2.2.2.2.2.map (eL 1 vI))) :: (322, .row true 1 (u0.2.2.1.map vI)) :: (321, .row true 1 (u0.2.1.map vI)) :: (K2e v0))
@[simp] abbrev K2g (u0 : TRaga) (v0 : TDesk) : List (Nat × Root) := ((128, .box [AS u0.1, .sl 321 0 u0.2.1.length, .sl 322 0 u0.2.2.1.length, AI u0.2.2.2.1, AI u0.2.2.2.2.1, .sl 325 0 u0.2.2.2.2.2.length, .sl 132 0 0, AS [], .sl 133 0 0, .sl 134 0 0, .sl 135 0 0, .sl 136 0 0, .sl 137 0 0, .sl 138 0 0, .sl 139 0 0]) :: (K2f u0 v0))
@[simp] abbrev K2i (u0 : TRaga) (u1 : List TNote) (v0 : TDesk) : List (Nat × Root) := ((128, .box [AS u0.1, .sl 321 0 u0.2.1.length, .sl 322 0 u0.2.2.1.length, AI u0.2.2.2.1, AI u0.2.2.2.2.1, .sl 325 0 u0.2.2.2.2.2.length, .sl 640 0 u1.length, AS [], .sl 133 0 0, .sl 134 0 0, .sl 135 0 0, .sl 136 0 0, .sl 137 0 0, .sl 138 0 0, .sl 139 0 0]) :: (640, .row true 2 (u1.map eNote)) :: (K2g u0 v0))
@[simp] abbrev K2k (u0 : TRaga) (u1 : List TNote) (u2 : TTuning) (v0 : TDesk) : List (Nat × Root) := ((128, .box [AS u0.1, .sl 321 0 u0.2.1.length, .sl 322 0 u0.2.2.1.length, AI u0.2.2.2.1, AI u0.2.2.2.2.1, .sl 325 0 u0.2.2.2.2.2.length, .sl 640 0 u1.length, AS u2.1, .sl 961 0 u2.2.length, .sl 134 0 0, .sl 135 0 0, .sl 136 0 0, .sl 137 0 0, .sl 138 0 0, .sl 139 0 0]) :: (961, .row true 2 (u2.2.map eNote)) :: (K2i u0 u1 v0))
@[simp] abbrev K2l (u3 : List (List Int)) (u0 : TRaga) (u1 : List TNote) (u2 : TTuning) (v0 : TDesk) : List (Nat × Root) := ((1280, .row true 1 (u3.map (eL 1 vI))) :: (K2k u0 u1 u2 v0))
@[simp] abbrev K2m (u0 : TRaga) (u1 : List TNote) (u2 : TTuning) (u3 : List (List Int)) (v0 : TDesk) : List (Nat × Root) := ((128, .box [AS u0.1, .sl 321 0 u0.2.1.length, .sl 322 0 u0.2.2.1.length, AI u0.2.2.2.1, AI u0.2.2.2.2.1, .sl 325 0 u0.2.2.2.2.2.length, .sl 640 0 u1.length, AS u2.1, .sl 961 0 u2.2.length, .sl 1280 0 u3.length, .sl 135 0 0, .sl 136 0 0, .sl 137 0 0, .sl 138 0 0, .sl 139 0 0]) :: (K2l u3 u0 u1 u2 v0))
@[simp] abbrev K2o (u0 : TRaga) (u1 : List TNote) (u2 : TTuning) (u3 : List (List Int)) (u4 : List TSyllable) (v0 : TDesk) : List (Nat × Root) := ((128, .box [AS u0.1, .sl 321 0 u0.2.1.length, .sl 322 0 u0.2.2.1.length, AI u0.2.2.2.1, AI u0.2.2.2.2.1, .sl 325 0 u0.2.2.2.2.2.length, .sl 640 0 u1.length, AS u2.1, .sl 961 0 u2.2.length, .sl 1280 0 u3.length, .sl 1600 0 u4.length, .sl 136 0 0, .sl 137 0 0, .sl 138 0 0, .sl 139 0 0]) :: (1600, .row true 3 (u4.map eSyllable)) :: (K2m u0 u1 u2 u3 v0))
@[simp] abbrev K2q (u0 : TRaga) (u1 : List TNote) (u2 : TTuning) (u3 : List (List Int)) (u4 : List TSyllable) (u5 : List TNote) (v0 : TDesk) : List (Nat × Root) := ((128, .box [AS u0.1, .sl 321 0 u0.2.1.length, .sl 322 0 u0.2.2.1.length, AI u0.2.2.2.1, AI u0.2.2.2.2.1, .sl 325 0 u0.2.2.2.2.2.length, .sl 640 0 u1.length, AS u2.1, .sl 961 0 u2.2.length, .sl 1280 0 u3.length, .sl 1600 0 u4.length, .sl 1920 0 u5.length, .sl 137 0 0, .sl 138 0 0, .sl 139 0 0]) :: (1920, .row true 2 (u5.map eNote)) :: (K2o u0 u1 u2 u3 u4 v0))
@[simp] abbrev K2s (u0 : TRaga) (u1 : List TNote) (u2 : TTuning) (u3 : List (List Int)) (u4 : List TSyllable) (u5 : List TNote) (u6 : List TItem) (v0 : TDesk) : List (Nat × Root) := ((128, .box [AS u0.1, .sl 321 0 u0.2.1.length, .sl 322 0 u0.2.2.1.length, AI u0.2.2.2.1, AI u0.2.2.2.2.1, .sl 325 0 u0.2.2.2.2.2.length, .sl 640 0 u1.length, AS u2.1, .sl 961 0 u2.2.length, .sl 1280 0 u3.length, .sl 1600 0 u4.length, .sl 1920 0 u5.length, .sl 2240 0 u6.length, .sl 138 0 0, .sl 139 0 0]) :: (2240, .row true 6 (u6.map eItem)) :: (K2q u0 u1 u2 u3 u4 u5 v0))
@[simp] abbrev K2u (u0 : TRaga) (u1 : List TNote) (u2 : TTuning) (u3 : List (List Int)) (u4 : List TSyllable) (u5 : List TNote) (u6 : List TItem) (u7 : List TLesson) (v0 : TDesk) : List (Nat × Root) := ((128, .box [AS u0.1, .sl 321 0 u0.2.1.length, .sl 322 0 u0.2.2.1.length, AI u0.2.2.2.1, AI u0.2.2.2.2.1, .sl 325 0 u0.2.2.2.2.2.length, .sl 640 0 u1.length, AS u2.1, .sl 961 0 u2.2.length, .sl 1280 0 u3.length, .sl 1600 0 u4.length, .sl 1920 0 u5.length, .sl 2240 0 u6.length, .sl 2560 0 u7.length, .sl 139 0 0]) :: (2560, .row true 5 (u7.map eLesson)) :: (K2s u0 u1 u2 u3 u4 u5 u6 v0))
@[simp] abbrev K2x (u0 : TRaga) (u1 : List TNote) (u2 : TTuning) (u3 : List (List Int)) (u4 : List TSyllable) (u5 : List TNote) (u6 : List TItem) (u7 : List TLesson) (u8 : List TPerson) : List AV := [AS u0.1, .sl 321 0 u0.2.1.length, .sl 322 0 u0.2.2.1.length, AI u0.2.2.2.1, AI u0.2.2.2.2.1, .sl 325 0 u0.2.2.2.2.2.length, .sl 640 0 u1.length, AS u2.1, .sl 961 0 u2.2.length, .sl 1280 0 u3.length, .sl 1600 0 u4.length, .sl 1920 0 u5.length, .sl 2240 0 u6.length, .sl 2560 0 u7.length, .sl 2880 0 u8.length]
@[simp] abbrev K2w (u0 : TRaga) (u1 : List TNote) (u2 : TTuning) (u3 : List (List Int)) (u4 : List TSyllable) (u5 : List TNote) (u6 : List TItem) (u7 : List TLesson) (u8 : List TPerson) (v0 : TDesk) : List (Nat × Root) := ((128, .box (K2x u0 u1 u2 u3 u4 u5 u6 u7 u8)) :: (2880, .row true 3 (u8.map ePerson)) :: (K2u u0 u1 u2 u3 u4 u5 u6 u7 v0))
@[simp] def res_laws_toDesk (r : TDesk) : RV := .one (.agg [.val (.str r.1), .row true 1 (r.2.1.map vI), .row true 1 (r.2.2.1.map vI), .val (.int .i64 r.2.2.2.1), .val (.int .i64 r.2.2.2.2.1), .row true 1 (r.2.2.2.2.2.1.map (eL 1 vI)), .row true 2 (r.2.2.2.2.2.2.1.map eNote), .val (.str r.2.2.2.2.2.2.2.1), .row true 2 (r.2.2.2.2.2.2.2.2.1.map eNote), .row true 1 (r.2.2.2.2.2.2.2.2.2.1.map (eL 1 vI)), .row true 3 (r.2.2.2.2.2.2.2.2.2.2.1.map eSyllable), .row true 2 (r.2.2.2.2.2.2.2.2.2.2.2.1.map eNote), .row true 6 (r.2.2.2.2.2.2.2.2.2.2.2.2.1.map eItem), .row true 5 (r.2.2.2.2.2.2.2.2.2.2.2.2.2.1.map eLesson), .row true 3 (r.2.2.2.2.2.2.2.2.2.2.2.2.2.2.map ePerson)])
theorem con_laws_toDesk {v0 : TDesk} {r : TDesk} (hF : F_laws_toDesk v0 = some r) : Con Tryz.prog 6 [eDesk v0] (res_laws_toDesk r) := by
 unfold F_laws_toDesk at hF
 refine con_of c6_.1 fun N => ?_
 refine ws 0 128 (qf (.ptr 0 0 0) (K2c v0) (by simp) (qf (.ptr 64 0 0) (K2d v0) (by simp) (r_nil (ws 128 192 (qf (.ptr 128 0 0) (K2e v0) (by simp) (r_nil (ws 192 512 (qp (.ptr 0 0 0) rfl (qp (.agg [AS v0.1, AL 1 (v0.2.1.map vI), AL 1 (v0.2.2.1.map vI), AI v0.2.2.2.1, AI v0.2.2.2.2.1, AL 1 (v0.2.2.2.2.2.1.map (eL 1 vI))]) rfl (bk hF fun u0 e0 hF => qc (.agg [AS u0.1, .sl 321 0 u0.2.1.length, .sl 322 0 u0.2.2.1.length, AI u0.2.2.2.1, AI u0.2.2.2.2.1, .sl 325 0 u0.2.2.2.2.2.length]) (K2f u0 v0) false (con_laws_toRaga e0) c19_.2 (by first | rfl | simp) (by simp [res_laws_toRaga]) (qp (.ptr 128 0 0) rfl (qf0 (.undef) (K2g u0 v0) (by simp) (r_nil (ws 512 832 ?_))))))))))))))
 refine qp (.ptr 0 0 6) rfl (qp (AL 2 (v0.2.2.2.2.2.2.1.map eNote)) rfl (bk hF fun u1 e1 hF => qc (.sl 640 0 u1.length) ((640, .row true 2 (u1.map eNote)) :: (K2g u0 v0)) false (con_laws_toNoteS e1) c20_.2 (by first | rfl | simp) (by simp [res_laws_toNoteS]) (qp (.ptr 128 0 6) rfl (qf0 (.undef) (K2i u0 u1 v0) (by simp) (r_nil (ws 832 1152 (qp (.ptr 0 0 7) rfl (qp (.agg [AS v0.2.2.2.2.2.2.2.1, AL 2 (v0.2.2.2.2.2.2.2.2.1.map eNote)]) rfl (bk hF fun u2 e2 hF => qc (.agg [AS u2.1, .sl 961 0 u2.2.length]) ((961, .row true 2 (u2.2.map eNote)) :: (K2i u0 u1 v0)) false (con_laws_toTuning e2) c21_.2 (by first | rfl | simp) (by simp [res_laws_toTuning]) (qp (.ptr 128 0 7) rfl (qf0 (.undef) (K2k u0 u1 u2 v0) (by simp) (r_nil (ws 1152 1472 (qp (.ptr 0 0 9) rfl (qp (AL 1 (v0.2.2.2.2.2.2.2.2.2.1.map (eL 1 vI))) rfl (bk hF fun u3 e3 hF => ?_))))))))))))))))
 refine qc (.sl 1280 0 u3.length) (K2l u3 u0 u1 u2 v0) false (con_laws_toInt64SS e3) c22_.2 (by first | rfl | simp) (by simp [res_laws_toInt64SS]) (qp (.ptr 128 0 9) rfl (qf0 (.undef) (K2m u0 u1 u2 u3 v0) (by simp) (r_nil (ws 1472 1792 (qp (.ptr 0 0 10) rfl (qp (AL 3 (v0.2.2.2.2.2.2.2.2.2.2.1.map eSyllable)) rfl (bk hF fun u4 e4 hF => qc (.sl 1600 0 u4.length) ((1600, .row true 3 (u4.map eSyllable)) :: (K2m u0 u1 u2 u3 v0)) false (con_laws_toSyllableS e4) c23_.2 (by first | rfl | simp) (by simp [res_laws_toSyllableS]) (qp (.ptr 128 0 10) rfl (qf0 (.undef) (K2o u0 u1 u2 u3 u4 v0) (by simp) (r_nil (ws 1792 2112 (qp (.ptr 0 0 11) rfl (qp (AL 2 (v0.2.2.2.2.2.2.2.2.2.2.2.1.map eNote)) rfl (bk hF fun u5 e5 hF => qc (.sl 1920 0 u5.length) ((1920, .row true 2 (u5.map eNote)) :: (K2o u0 u1 u2 u3 u4 v0)) false (con_laws_toTempoMarkS e5) c24_.2 (by first | rfl | simp) (by simp [res_laws_toTempoMarkS]) (qp (.ptr 128 0 11) rfl ?_)))))))))))))))
 refine qf0 (.undef) (K2q u0 u1 u2 u3 u4 u5 v0) (by simp) (r_nil (ws 2112 2432 (qp (.ptr 0 0 12) rfl (qp (AL 6 (v0.2.2.2.2.2.2.2.2.2.2.2.2.1.map eItem)) rfl (bk hF fun u6 e6 hF => qc (.sl 2240 0 u6.length) ((2240, .row true 6 (u6.map eItem)) :: (K2q u0 u1 u2 u3 u4 u5 v0)) false (con_laws_toItemS e6) c25_.2 (by first | rfl | simp) (by simp [res_laws_toItemS]) (qp (.ptr 128 0 12) rfl (qf0 (.undef) (K2s u0 u1 u2 u3 u4 u5 u6 v0) (by simp) (r_nil (ws 2432 2752 (qp (.ptr 0 0 13) rfl (qp (AL 5 (v0.2.2.2.2.2.2.2.2.2.2.2.2.2.1.map eLesson)) rfl (bk hF fun u7 e7 hF => qc (.sl 2560 0 u7.length) ((2560, .row true 5 (u7.map eLesson)) :: (K2s u0 u1 u2 u3 u4 u5 u6 v0)) false (con_laws_toLessonS e7) c26_.2 (by first | rfl | simp) (by simp [res_laws_toLessonS]) (qp (.ptr 128 0 13) rfl (qf0 (.undef) (K2u u0 u1 u2 u3 u4 u5 u6 u7 v0) (by simp) (r_nil ?_)))))))))))))))
 exact ws 2752 3072 (qp (.ptr 0 0 14) rfl (qp (AL 3 (v0.2.2.2.2.2.2.2.2.2.2.2.2.2.2.map ePerson)) rfl (bk hF fun u8 e8 hF => qc (.sl 2880 0 u8.length) ((2880, .row true 3 (u8.map ePerson)) :: (K2u u0 u1 u2 u3 u4 u5 u6 u7 v0)) false (con_laws_toPersonS e8) c27_.2 (by first | rfl | simp) (by simp [res_laws_toPersonS]) (qp (.ptr 128 0 14) rfl (qf0 (.undef) (K2w u0 u1 u2 u3 u4 u5 u6 u7 u8 v0) (by simp) (r_nil (ws 3072 3200 (qp (.agg (K2x u0 u1 u2 u3 u4 u5 u6 u7 u8)) rfl (qf0 (.undef) ((64, .box (K2x u0 u1 u2 u3 u4 u5 u6 u7 u8)) :: (K2w u0 u1 u2 u3 u4 u5 u6 u7 u8 v0)) (by simp) (rR hF))))))))))

def c132 : MC := (sr [pT 2 (.mv cf)] (sr [mvt 3 0, pT 4 (.bin .geq t3 (.c (.int .u8 97))), mvt 5 4, nT 6 5 t0, kT 7 5 (.bin .leq t6 (.c (.int .u8 122))), pT 8 (.pick t5 t7 cf), mvt 2 8] .ret))
theorem c132_ : IsF Tryz.prog 132 c132 [(.tmp 2)] := ⟨by kernel_rfl, by kernel_rfl⟩

def F_spec_l01Small (v0 : Int) : Option (Bool) :=
 (bif (decide ((97 : Int) ≤ v0)) then some (decide (v0 ≤ (122 : Int)))
 else some false)
@[simp] def res_spec_l01Small (r : Bool) : RV := .one (.one (.val (.bool r)))
theorem con_spec_l01Small {v0 : Int} {r : Bool} (hF : F_spec_l01Small v0 = some r) : Con Tryz.prog 132 [.int .u8 v0] (res_spec_l01Small r) := by
 unfold F_spec_l01Small at hF
 refine con_of c132_.1 fun N => ?_
 refine ws 0 64 (qp (AB false) rfl (r_nil (ws 64 512 (qp (.val none (.int .u8 v0)) rfl (qp (AB (decide ((97 : Int) ≤ v0))) rfl (qp (AB (decide ((97 : Int) ≤ v0))) rfl (q_case 5 hF rfl (fun hF => qg (.val none (.int .u8 v0)) rfl rfl (qg (AB (decide (v0 ≤ (122 : Int)))) rfl rfl (qp (AB (decide (v0 ≤ (122 : Int)))) rfl (qp (AB (decide (v0 ≤ (122 : Int)))) rfl (rR hF))))) fun hF => ?_)))))))
 exact qn2 (qp (AB false) rfl (qp (AB false) rfl (rR hF)))

def c133 : MC := (sr [pT 2 (.mv cf)] (sr [mvt 3 0, pT 4 (.bin .geq t3 (.c (.int .u8 48))), mvt 5 4, nT 6 5 t0, kT 7 5 (.bin .leq t6 (.c (.int .u8 57))), pT 8 (.pick t5 t7 cf), mvt 2 8] .ret))
theorem c133_ : IsF Tryz.prog 133 c133 [(.tmp 2)] := ⟨by kernel_rfl, by kernel_rfl⟩

def F_spec_l01Digit (v0 : Int) : Option (Bool) :=
 (bif (decide ((48 : Int) ≤ v0)) then some (decide (v0 ≤ (57 : Int)))
 else some false)
@[simp] def res_spec_l01Digit (r : Bool) : RV := .one (.one (.val (.bool r)))
theorem con_spec_l01Digit {v0 : Int} {r : Bool} (hF : F_spec_l01Digit v0 = some r) : Con Tryz.prog 133 [.int .u8 v0] (res_spec_l01Digit r) := by
 unfold F_spec_l01Digit at hF
 refine con_of c133_.1 fun N => ?_
 refine ws 0 64 (qp (AB false) rfl (r_nil (ws 64 512 (qp (.val none (.int .u8 v0)) rfl (qp (AB (decide ((48 : Int) ≤ v0))) rfl (qp (AB (decide ((48 : Int) ≤ v0))) rfl (q_case 5 hF rfl (fun hF => qg (.val none (.int .u8 v0)) rfl rfl (qg (AB (decide (v0 ≤ (57 : Int)))) rfl rfl (qp (AB (decide (v0 ≤ (57 : Int)))) rfl (qp (AB (decide (v0 ≤ (57 : Int)))) rfl (rR hF))))) fun hF => ?_)))))))
 exact qn2 (qp (AB false) rfl (qp (AB false) rfl (rR hF)))

def c96 : MC := (sr [pT 2 (.mv cf)] (.seq (sr [mvt 4 0, pT 5 (.bin .eql t4 (.c (.str []))), mvt 6 5, nF 7 6 t0, kF 8 6 (.lens t7), kF 9 6 (.bin .gtr t8 (ci 10)), pT 10 (.pick t6 ct t9), mvt 11 10, nF 12 11 t0, kF 13 11 (.ixs t12 (ci 0)), ⟨(some 14), (some (11, false)), (.call true 132 [t13])⟩, kF 15 11 (.not t14), pT 16 (.pick t11 ct t15)] (.cond t16 (sr [pT 2 (.mv cf)] .ret) .skip)) (.seq (sr [pT 3 (.mv (ci 0))] (.block 0 (.loop (.seq (sr [mvt 17 3, mvt 18 0, pT 19 (.lens t18), bT 20 .lss t17 t19] (cx t20 0)) (.seq (.block 1 (sr [mvt 23 0, mvt 24 3, pT 25 (.ixs t23 t24), dT 26 132 [t25], pT 27 (.not t26), mvt 28 27, nT 29 28 t0, nT 30 28 t3, kT 31 28 (.ixs t29 t30), ⟨(some 32), (some (28, true)), (.call true 133 [t31])⟩, kT 33 28 (.not t32), pT 34 (.pick t28 t33 cf)] (.cond t34 (sr [pT 2 (.mv cf)] .ret) .skip))) (.reg [mvt 21 3, bT 22 .add t21 (ci 1), mvt 3 22])))))) (sr [pT 2 (.mv ct)] .ret))))
theorem c96_ : IsF Tryz.prog 96 c96 [(.tmp 2)] := ⟨by kernel_rfl, by kernel_rfl⟩

def F_spec_l01Name_l0 (v0 : List UInt8) (k1 : Int → Option (Bool)) : Int → Option (Bool)
 | x3 => (bif (decide (x3 < (v0.length : Int))) then ((ix v0 x3).bind fun u10 => ((F_spec_l01Small (u10.toNat : Int)).bind fun u11 => (bif (!u11) then ((ix v0 x3).bind fun u12 => ((F_spec_l01Digit (u12.toNat : Int)).bind fun u13 => (bif (!u13) then some false
 else k1 (w64 (x3 + 1)))))
 else k1 (w64 (x3 + 1)))))
 else some true)
def F_spec_l01Name (v0 : List UInt8) : Option (Bool) :=
 (bif (decide (v0 = [])) then some false
 else (bif (decide ((10 : Int) < (v0.length : Int))) then some false
 else ((ix v0 0).bind fun u0 => ((F_spec_l01Small (u0.toNat : Int)).bind fun u1 => (bif (!u1) then some false
 else loop (F_spec_l01Name_l0 v0) 0)))))
@[simp] def res_spec_l01Name (r : Bool) : RV := .one (.one (.val (.bool r)))
theorem con_spec_l01Name {v0 : List UInt8} {r : Bool} (hF : F_spec_l01Name v0 = some r) : Con Tryz.prog 96 [.str v0] (res_spec_l01Name r) := by
 unfold F_spec_l01Name at hF
 refine con_of c96_.1 fun N => ?_
 refine ws 0 64 (qp (AB false) rfl (r_nil (w_seq (ws 64 896 (qp (AS v0) rfl (qp (AB (decide (v0 = []))) rfl (qp (AB (decide (v0 = []))) rfl ?_)))))))
 refine q_case 6 hF rfl (fun hF => qn3 (qp (AB true) rfl (qp (AB true) rfl (qn3 (qn rfl (qp (AB true) rfl (r_nil (w_true rfl (ws 896 960 (qp (AB false) rfl (r_nil (w_ret (thenQ_r (eQ hF)))))))))))))) fun hF => ?_
 refine qg (AS v0) rfl rfl (qg (AI (v0.length : Int)) rfl rfl (qg (AB (decide ((10 : Int) < (v0.length : Int)))) rfl rfl (qp (AB (decide ((10 : Int) < (v0.length : Int)))) rfl (qp (AB (decide ((10 : Int) < (v0.length : Int)))) rfl (q_case 11 hF rfl (fun hF => qn4 (qp (AB true) rfl (r_nil (w_true rfl (ws 896 960 (qp (AB false) rfl (r_nil (w_ret (thenQ_r (eQ hF)))))))))) fun hF => ?_)))))
 refine qg (AS v0) rfl rfl (bk hF fun u0 e0 hF => qg (.val none (.int .u8 (u0.toNat : Int))) rfl (ev_ixs rfl rfl e0) (bk hF fun u1 e1 hF => qG (AB u1) [] (con_spec_l01Small e1) c132_ (qg (AB (!u1)) rfl rfl (qp (AB (!u1)) rfl (r_nil (cF hF (fun hF => ws 896 960 (qp (AB false) rfl (r_nil (w_ret (thenQ_r (eQ hF)))))) fun hF => ?_))))))
 refine w_skip (thenQ_n (w_seq (ws 896 960 (qp (AI 0) rfl (r_nil (w_block ?_))))))
 refine wr (l' := [(0, AS v0), (3, AI 0)]) (L := []) [0, 3] [] 1 ?_
 refine w_loopF (F_spec_l01Name_l0 v0) (fun s : Int => mkS [(0, AS v0), (3, AI s)] (fo []) 1) hF ?_
 rintro k1 x3 hF
 rw [F_spec_l01Name_l0] at hF
 try dsimp only
 refine w_seq (ws 1 257 (qp (AI x3) rfl (qp (AS v0) rfl (qp (AI (v0.length : Int)) rfl (qp (AB (decide (x3 < (v0.length : Int)))) rfl (r_nil ?_))))))
 refine cF hF (fun hF => ?_) fun hF => ?_
 ·
  refine w_skip (thenQ_n (w_seq (w_block (ws 257 1025 (qp (AS v0) rfl (qp (AI x3) rfl (bk hF fun u10 e10 hF => qp (.val none (.int .u8 (u10.toNat : Int))) (ev_ixs rfl rfl e10) (bk hF fun u11 e11 hF => qC (AB u11) [] (con_spec_l01Small e11) c132_ (qp (AB (!u11)) rfl (qp (AB (!u11)) rfl ?_))))))))))
  refine q_case 28 hF rfl (fun hF => ?_) (fun hF => ?_)
  ·
   refine qg (AS v0) rfl rfl (qg (AI x3) rfl rfl (bk hF fun u12 e12 hF => qg (.val none (.int .u8 (u12.toNat : Int))) rfl (ev_ixs rfl rfl e12) (bk hF fun u13 e13 hF => qG (AB u13) [] (con_spec_l01Digit e13) c133_ (qg (AB (!u13)) rfl rfl (qp (AB (!u13)) rfl (r_nil (cF hF (fun hF => ws 1025 1089 (qp (AB false) rfl (r_nil (w_ret (blockQ_r (thenQ_r (thenQ_r (blockQ_r (thenQ_r (eQ hF)))))))))) fun hF => ?_)))))))
   refine w_skip (blockQ_n (thenQ_n (w_reg 1025 1217 rfl rfl (qp (AI x3) rfl (qp (AI (w64 (x3 + 1))) rfl (qp (AI (w64 (x3 + 1))) rfl (r_nil (thenQ_n ?_))))))))
   refine ar (l' := [(0, AS v0), (3, AI (w64 (x3 + 1)))]) (L := []) [0, 3] [] 1 ⟨_, by rfl, hF⟩
  refine qn5 (qp (AB false) rfl (r_nil (w_false rfl (w_skip (blockQ_n (thenQ_n (w_reg 1025 1217 rfl rfl (qp (AI x3) rfl (qp (AI (w64 (x3 + 1))) rfl (qp (AI (w64 (x3 + 1))) rfl (r_nil ?_)))))))))))
  refine thenQ_n ?_
  refine ar (l' := [(0, AS v0), (3, AI (w64 (x3 + 1)))]) (L := []) [0, 3] [] 1 ⟨_, by rfl, hF⟩
 exact w_exit (thenQ_e (thenQ_e (blockQ_e (thenQ_n (ws 257 321 (qp (AB true) rfl (rR hF)))))))

def c113 : MC := (sr [pT 6 (.mv cf)] (sr [mvt 7 0, mvt 8 1, bT 9 .geq t7 t8, mvt 10 9, nT 11 10 t0, nT 12 10 t2, kT 13 10 (.bin .leq t11 t12), pT 14 (.pick t10 t13 cf), mvt 6 14] .ret))
theorem c113_ : IsF Tryz.prog 113 c113 [(.tmp 6)] := ⟨by kernel_rfl, by kernel_rfl⟩

def F_spec_l00In (v0 : Int) (v1 : Int) (v2 : Int) : Option (Bool) :=
 (bif (decide (v1 ≤ v0)) then some (decide (v0 ≤ v2))
 else some false)
@[simp] def res_spec_l00In (r : Bool) : RV := .one (.one (.val (.bool r)))
theorem con_spec_l00In {v0 : Int} {v1 : Int} {v2 : Int} {r : Bool} (hF : F_spec_l00In v0 v1 v2 = some r) : Con Tryz.prog 113 [.int .i64 v0, .int .i64 v1, .int .i64 v2] (res_spec_l00In r) := by
 unfold F_spec_l00In at hF
 refine con_of c113_.1 fun N => ?_
 refine ws 0 64 (qp (AB false) rfl (r_nil (ws 64 640 (qp (AI v0) rfl (qp (AI v1) rfl (qp (AB (decide (v1 ≤ v0))) rfl (qp (AB (decide (v1 ≤ v0))) rfl (q_case 10 hF rfl (fun hF => qg (AI v0) rfl rfl (qg (AI v2) rfl rfl (qg (AB (decide (v0 ≤ v2))) rfl rfl (qp (AB (decide (v0 ≤ v2))) rfl (qp (AB (decide (v0 ≤ v2))) rfl (rR hF)))))) fun hF => ?_))))))))
 exact qn3 (qp (AB false) rfl (qp (AB false) rfl (rR hF)))

def c134 : MC := (sr [pT 6 (.mv cf)] (.seq (sr [pT 7 (.mv (ci 0))] (.block 0 (.loop (.seq (sr [mvt 8 7, mvt 9 0, zT 10 9, bT 11 .lss t8 t10] (cx t11 0)) (.seq (.block 1 (sr [mP 14 t0, mP 15 t7, iF 16 14 15 1, lF 17 16, mP 18 t1, mP 19 t2, dF 20 113 [t17, t18, t19], pF 21 (.not t20), mP 22 t21, mF 23 22 t7, bH 24 22 .gtr t23 (ci 0), mF 25 22 t24, mT 26 25 t0, mT 27 25 t7, bG 28 25 .sub t27 (ci 1), iG 29 25 26 28 1, lG 30 25 29, mT 31 25 t0, mT 32 25 t7, iG 33 25 31 32 1, lG 34 25 33, bG 35 25 .geq t30 t34, gF 36 22 (.pick t25 t35 cf), pF 37 (.pick t22 ct t36)] (.cond t37 (sr [pT 6 (.mv cf)] .ret) .skip))) (.reg [mvt 12 7, bT 13 .add t12 (ci 1), mvt 7 13])))))) (sr [pT 6 (.mv ct)] .ret)))
theorem c134_ : IsF Tryz.prog 134 c134 [(.tmp 6)] := ⟨by kernel_rfl, by kernel_rfl⟩

def F_spec_l00Rises_l0 (v0 : List Int) (v1 : Int) (v2 : Int) (k0 : Int → Option (Bool)) : Int → Option (Bool)
 | x1 => (bif (decide (x1 < (v0.length : Int))) then ((ix v0 x1).bind fun u0 => ((F_spec_l00In u0 v1 v2).bind fun u1 => (bif (!u1) then some false
 else (bif (decide ((0 : Int) < x1)) then ((ix v0 (w64 (x1 - 1))).bind fun u2 => ((ix v0 x1).bind fun u3 => (bif (decide (u3 ≤ u2)) then some false
 else k0 (w64 (x1 + 1)))))
 else k0 (w64 (x1 + 1))))))
 else some true)
def F_spec_l00Rises (v0 : List Int) (v1 : Int) (v2 : Int) : Option (Bool) :=
 loop (F_spec_l00Rises_l0 v0 v1 v2) 0
@[simp] abbrev K2y (v0 : List Int) : V := .sl 1 (v0.map vI)
@[simp] def res_spec_l00Rises (r : Bool) : RV := .one (.one (.val (.bool r)))
theorem con_spec_l00Rises {v0 : List Int} {v1 : Int} {v2 : Int} {r : Bool} (hF : F_spec_l00Rises v0 v1 v2 = some r) : Con Tryz.prog 134 [.sl 1 (v0.map vI), .int .i64 v1, .int .i64 v2] (res_spec_l00Rises r) := by
 unfold F_spec_l00Rises at hF
 refine con_of c134_.1 fun N => ?_
 refine ws 0 64 (qp (AB false) rfl (r_nil (w_seq (ws 64 128 (qp (AI 0) rfl (r_nil (w_block ?_)))))))
 refine wr (l' := [(0, .val none (K2y v0)), (1, AI v1), (2, AI v2), (7, AI 0)]) (L := []) [0, 1, 2, 7] [] 1 ?_
 refine w_loopF (F_spec_l00Rises_l0 v0 v1 v2) (fun s : Int => mkS [(0, .val none (K2y v0)), (1, AI v1), (2, AI v2), (7, AI s)] (fo []) 1) hF ?_
 rintro k0 x1 hF
 rw [F_spec_l00Rises_l0] at hF
 try dsimp only
 refine w_seq (ws 1 257 (qp (AI x1) rfl (qp (.val none (K2y v0)) rfl (qp (AI (v0.length : Int)) (ev_len_n rfl) (qp (AB (decide (x1 < (v0.length : Int)))) rfl (r_nil ?_))))))
 refine cF hF (fun hF => ?_) fun hF => ?_
 ·
  refine w_skip (thenQ_n (w_seq (w_block (ws 257 1793 (qp (.val none (K2y v0)) rfl (qp (AI x1) rfl (bk hF fun u0 e0 hF => qp (.val none (.ptr [.int .i64 u0])) (ev_iad_n rfl rfl e0 rfl) (qp (AI u0) rfl (qp (AI v1) rfl (qp (AI v2) rfl (bk hF fun u1 e1 hF => qC (AB u1) [] (con_spec_l00In e1) c113_ (qp (AB (!u1)) rfl (qp (AB (!u1)) rfl ?_)))))))))))))
  refine q_case 22 hF rfl (fun hF => ?_) (fun hF => ?_)
  ·
   refine qn3 (qu rfl (qu rfl (qu rfl (qu rfl (qu rfl (qu rfl (qu rfl (qu rfl (qu rfl (qu rfl (qn rfl (qp (AB true) rfl (r_nil ?_)))))))))))))
   exact w_true rfl (ws 1793 1857 (qp (AB false) rfl (r_nil (w_ret (blockQ_r (thenQ_r (thenQ_r (blockQ_r (thenQ_r (eQ hF))))))))))
  refine qg (AI x1) rfl rfl (qg (AB (decide ((0 : Int) < x1))) rfl rfl (qg (AB (decide ((0 : Int) < x1))) rfl rfl ?_))
  refine q_case 25 hF rfl (fun hF => ?_) (fun hF => ?_)
  ·
   refine qg (.val none (K2y v0)) rfl rfl (qg (AI x1) rfl rfl (qg (AI (w64 (x1 - 1))) rfl rfl (bk hF fun u2 e2 hF => qg (.val none (.ptr [.int .i64 u2])) rfl (ev_iad_n rfl rfl e2 rfl) (qg (AI u2) rfl rfl (qg (.val none (K2y v0)) rfl rfl (qg (AI x1) rfl rfl (bk hF fun u3 e3 hF => qg (.val none (.ptr [.int .i64 u3])) rfl (ev_iad_n rfl rfl e3 rfl) (qg (AI u3) rfl rfl (qg (AB (decide (u3 ≤ u2))) rfl rfl (qg (AB (decide (u3 ≤ u2))) rfl rfl (qp (AB (decide (u3 ≤ u2))) rfl (r_nil ?_))))))))))))
   refine cF hF (fun hF => ws 1793 1857 (qp (AB false) rfl (r_nil (w_ret (blockQ_r (thenQ_r (thenQ_r (blockQ_r (thenQ_r (eQ hF)))))))))) fun hF => ?_
   refine w_skip (blockQ_n (thenQ_n (w_reg 1793 1985 rfl rfl (qp (AI x1) rfl (qp (AI (w64 (x1 + 1))) rfl (qp (AI (w64 (x1 + 1))) rfl (r_nil (thenQ_n ?_))))))))
   refine ar (l' := [(0, .val none (K2y v0)), (1, AI v1), (2, AI v2), (7, AI (w64 (x1 + 1)))]) (L := []) [0, 1, 2, 7] [] 1 ⟨_, by rfl, hF⟩
  refine qn8 (qn2 (qg (AB false) rfl rfl (qp (AB false) rfl (r_nil (w_false rfl (w_skip (blockQ_n (thenQ_n (w_reg 1793 1985 rfl rfl ?_)))))))))
  refine qp (AI x1) rfl (qp (AI (w64 (x1 + 1))) rfl (qp (AI (w64 (x1 + 1))) rfl (r_nil (thenQ_n ?_))))
  refine ar (l' := [(0, .val none (K2y v0)), (1, AI v1), (2, AI v2), (7, AI (w64 (x1 + 1)))]) (L := []) [0, 1, 2, 7] [] 1 ⟨_, by rfl, hF⟩
 exact w_exit (thenQ_e (thenQ_e (blockQ_e (thenQ_n (ws 257 321 (qp (AB true) rfl (rR hF)))))))

def c97 : MC := (sr [pT 2 (.mv cf)] (sr [mvt 3 0, zT 4 3, bT 5 .geq t4 (ci 5), mvt 6 5, nT 7 6 t0, ⟨(some 8), (some (6, true)), (.call true 134 [t7, (ci 0), (ci 11)])⟩, pT 9 (.pick t6 t8 cf), mvt 10 9, nT 11 10 t0, kT 12 10 (.iad t11 (ci 0) 1), kT 13 10 (.ld t12 1 false), kT 14 10 (.bin .eql t13 (ci 0)), pT 15 (.pick t10 t14 cf), mvt 2 15] .ret))
theorem c97_ : IsF Tryz.prog 97 c97 [(.tmp 2)] := ⟨by kernel_rfl, by kernel_rfl⟩

def F_spec_l03Scale (v0 : List Int) : Option (Bool) :=
 (bif (decide ((5 : Int) ≤ (v0.length : Int))) then ((F_spec_l00Rises v0 0 11).bind fun u0 => (bif u0 then ((ix v0 0).bind fun u1 => some (decide (u1 = (0 : Int))))
 else some false))
 else some false)
@[simp] def res_spec_l03Scale (r : Bool) : RV := .one (.one (.val (.bool r)))
theorem con_spec_l03Scale {v0 : List Int} {r : Bool} (hF : F_spec_l03Scale v0 = some r) : Con Tryz.prog 97 [.sl 1 (v0.map vI)] (res_spec_l03Scale r) := by
 unfold F_spec_l03Scale at hF
 refine con_of c97_.1 fun N => ?_
 refine ws 0 64 (qp (AB false) rfl (r_nil (ws 64 960 (qp (AL 1 (v0.map vI)) rfl (qp (AI (v0.length : Int)) (ev_len_n rfl) (qp (AB (decide ((5 : Int) ≤ (v0.length : Int)))) rfl (qp (AB (decide ((5 : Int) ≤ (v0.length : Int)))) rfl ?_)))))))
 refine q_case 6 hF rfl (fun hF => ?_) (fun hF => ?_)
 ·
  refine qg (AL 1 (v0.map vI)) rfl rfl (bk hF fun u0 e0 hF => qG (AB u0) [] (con_spec_l00Rises e0) c134_ (qp (AB u0) rfl (qp (AB u0) rfl (q_case 10 hF rfl (fun hF => qg (AL 1 (v0.map vI)) rfl rfl (bk hF fun u1 e1 hF => qg (.val none (.ptr [.int .i64 u1])) rfl (ev_iad_n rfl rfl e1 rfl) (qg (AI u1) rfl rfl (qg (AB (decide (u1 = (0 : Int)))) rfl rfl (qp (AB (decide (u1 = (0 : Int)))) rfl (qp (AB (decide (u1 = (0 : Int)))) rfl (rR hF))))))) fun hF => ?_))))
  exact qn4 (qp (AB false) rfl (qp (AB false) rfl (rR hF)))
 exact qn2 (qp (AB false) rfl (qp (AB false) rfl (qn4 (qp (AB false) rfl (qp (AB false) rfl (rR hF))))))

def c135 : MC := (sr [pT 4 (.mv cf)] (.seq (sr [pT 5 (.mv (ci 0))] (.block 0 (.loop (.seq (sr [mvt 6 5, mvt 7 0, zT 8 7, bT 9 .lss t6 t8] (cx t9 0)) (.seq (.block 1 (sr [mvt 12 0, mvt 13 5, iT 14 12 13 1, lT 15 14, mvt 16 1, bT 17 .eql t15 t16] (.cond t17 (sr [pT 4 (.mv ct)] .ret) .skip))) (.reg [mvt 10 5, bT 11 .add t10 (ci 1), mvt 5 11])))))) (sr [pT 4 (.mv cf)] .ret)))
theorem c135_ : IsF Tryz.prog 135 c135 [(.tmp 4)] := ⟨by kernel_rfl, by kernel_rfl⟩

def F_spec_l00Has_l0 (v0 : List Int) (v1 : Int) (k0 : Int → Option (Bool)) : Int → Option (Bool)
 | x1 => (bif (decide (x1 < (v0.length : Int))) then ((ix v0 x1).bind fun u0 => (bif (decide (u0 = v1)) then some true
 else k0 (w64 (x1 + 1))))
 else some false)
def F_spec_l00Has (v0 : List Int) (v1 : Int) : Option (Bool) :=
 loop (F_spec_l00Has_l0 v0 v1) 0
@[simp] def res_spec_l00Has (r : Bool) : RV := .one (.one (.val (.bool r)))
theorem con_spec_l00Has {v0 : List Int} {v1 : Int} {r : Bool} (hF : F_spec_l00Has v0 v1 = some r) : Con Tryz.prog 135 [.sl 1 (v0.map vI), .int .i64 v1] (res_spec_l00Has r) := by
 unfold F_spec_l00Has at hF
 refine con_of c135_.1 fun N => ?_
 refine ws 0 64 (qp (AB false) rfl (r_nil (w_seq (ws 64 128 (qp (AI 0) rfl (r_nil (w_block ?_)))))))
 refine wr (l' := [(0, AL 1 (v0.map vI)), (1, AI v1), (5, AI 0)]) (L := []) [0, 1, 5] [] 1 ?_
 refine w_loopF (F_spec_l00Has_l0 v0 v1) (fun s : Int => mkS [(0, AL 1 (v0.map vI)), (1, AI v1), (5, AI s)] (fo []) 1) hF ?_
 rintro k0 x1 hF
 rw [F_spec_l00Has_l0] at hF
 try dsimp only
 refine w_seq (ws 1 257 (qp (AI x1) rfl (qp (AL 1 (v0.map vI)) rfl (qp (AI (v0.length : Int)) (ev_len_n rfl) (qp (AB (decide (x1 < (v0.length : Int)))) rfl (r_nil ?_))))))
 refine cF hF (fun hF => ?_) fun hF => ?_
 ·
  refine w_skip (thenQ_n (w_seq (w_block (ws 257 641 (qp (AL 1 (v0.map vI)) rfl (qp (AI x1) rfl (bk hF fun u0 e0 hF => qp (.val none (.ptr [.int .i64 u0])) (ev_iad_n rfl rfl e0 rfl) (qp (AI u0) rfl (qp (AI v1) rfl (qp (AB (decide (u0 = v1))) rfl (r_nil ?_)))))))))))
  refine cF hF (fun hF => ws 641 705 (qp (AB true) rfl (r_nil (w_ret (blockQ_r (thenQ_r (thenQ_r (blockQ_r (thenQ_r (eQ hF)))))))))) fun hF => ?_
  refine w_skip (blockQ_n (thenQ_n (w_reg 641 833 rfl rfl (qp (AI x1) rfl (qp (AI (w64 (x1 + 1))) rfl (qp (AI (w64 (x1 + 1))) rfl (r_nil (thenQ_n ?_))))))))
  refine ar (l' := [(0, AL 1 (v0.map vI)), (1, AI v1), (5, AI (w64 (x1 + 1)))]) (L := []) [0, 1, 5] [] 1 ⟨_, by rfl, hF⟩
 exact w_exit (thenQ_e (thenQ_e (blockQ_e (thenQ_n (ws 257 321 (qp (AB false) rfl (rR hF)))))))

def c98 : MC := (sr [pT 4 (.mv cf)] (sr [mvt 5 0, pT 6 (.nck t5), pT 7 (.fad t6 1), lT 8 7, mvt 9 1, dT 10 135 [t8, t9], mvt 11 10, nF 12 11 t0, kF 13 11 (.nck t12), kF 14 11 (.fad t13 2), kF 15 11 (.ld t14 1 false), nF 16 11 t1, ⟨(some 17), (some (11, false)), (.call true 135 [t15, t16])⟩, pT 18 (.pick t11 ct t17), mvt 4 18] .ret))
theorem c98_ : IsF Tryz.prog 98 c98 [(.tmp 4)] := ⟨by kernel_rfl, by kernel_rfl⟩

def F_spec_l05Tone (v0 : TRaga) (v1 : Int) : Option (Bool) :=
 ((F_spec_l00Has v0.2.1 v1).bind fun u0 => (bif u0 then some true
 else ((F_spec_l00Has v0.2.2.1 v1).bind fun u1 => some u1)))
@[simp] abbrev K2z (v0 : TRaga) : AV := .val none (.ptr [.str v0.1, .sl 1 (v0.2.1.map vI), .sl 1 (v0.2.2.1.map vI), .int .i64 v0.2.2.2.1, .int .i64 v0.2.2.2.2.1, .sl 1 (v0.2.2.2.2.2.map (eL 1 vI))])
@[simp] def res_spec_l05Tone (r : Bool) : RV := .one (.one (.val (.bool r)))
theorem con_spec_l05Tone {v0 : TRaga} {v1 : Int} {r : Bool} (hF : F_spec_l05Tone v0 v1 = some r) : Con Tryz.prog 98 [.ptr [.str v0.1, .sl 1 (v0.2.1.map vI), .sl 1 (v0.2.2.1.map vI), .int .i64 v0.2.2.2.1, .int .i64 v0.2.2.2.2.1, .sl 1 (v0.2.2.2.2.2.map (eL 1 vI))], .int .i64 v1] (res_spec_l05Tone r) := by
 unfold F_spec_l05Tone at hF
 refine con_of c98_.1 fun N => ?_
 refine ws 0 64 (qp (AB false) rfl (r_nil (ws 64 1024 (qp (K2z v0) rfl (qp (K2z v0) rfl (qp (.val none (.ptr [.sl 1 (v0.2.1.map vI), .sl 1 (v0.2.2.1.map vI), .int .i64 v0.2.2.2.1, .int .i64 v0.2.2.2.2.1, .sl 1 (v0.2.2.2.2.2.map (eL 1 vI))])) rfl (qp (AL 1 (v0.2.1.map vI)) rfl (qp (AI v1) rfl (bk hF fun u0 e0 hF => qC (AB u0) [] (con_spec_l00Has e0) c135_ (qp (AB u0) rfl (q_case 11 hF rfl (fun hF => qn6 (qp (AB true) rfl (qp (AB true) rfl (rR hF)))) fun hF => ?_)))))))))))
 exact qg (K2z v0) rfl rfl (qg (K2z v0) rfl rfl (qg (.val none (.ptr [.sl 1 (v0.2.2.1.map vI), .int .i64 v0.2.2.2.1, .int .i64 v0.2.2.2.2.1, .sl 1 (v0.2.2.2.2.2.map (eL 1 vI))])) rfl rfl (qg (AL 1 (v0.2.2.1.map vI)) rfl rfl (qg (AI v1) rfl rfl (bk hF fun u1 e1 hF => qG (AB u1) [] (con_spec_l00Has e1) c135_ (qp (AB u1) rfl (qp (AB u1) rfl (rR hF))))))))

def c136 : MC := (sr [pT 2 (.mv cf)] (sr [mP 3 t0, zF 4 3, bF 5 .eql t4 (ci 2), mP 6 t5, mT 7 6 t0, jG 8 6 7 0 1, lG 9 6 8, ⟨(some 10), (some (6, true)), (.call false 113 [t9, (ci 0), (ci 11)])⟩, pF 11 (.pick t6 t10 cf), mP 12 t11, mT 13 12 t0, jG 14 12 13 1 1, lG 15 12 14, ⟨(some 16), (some (12, true)), (.call false 113 [t15, (ci 0), (ci 11)])⟩, pF 17 (.pick t12 t16 cf), mP 18 t17, mT 19 18 t0, jG 20 18 19 0 1, lG 21 18 20, mT 22 18 t0, jG 23 18 22 1 1, lG 24 18 23, bG 25 18 .neq t21 t24, pF 26 (.pick t18 t25 cf), mP 2 t26] .ret))
theorem c136_ : IsF Tryz.prog 136 c136 [(.tmp 2)] := ⟨by kernel_rfl, by kernel_rfl⟩

def F_spec_l05Pair (v0 : List Int) : Option (Bool) :=
 (bif (decide ((v0.length : Int) = (2 : Int))) then ((ix v0 0).bind fun u0 => ((F_spec_l00In u0 0 11).bind fun u1 => (bif u1 then ((ix v0 1).bind fun u2 => ((F_spec_l00In u2 0 11).bind fun u3 => (bif u3 then ((ix v0 0).bind fun u4 => ((ix v0 1).bind fun u5 => some (decide (u4 ≠ u5))))
 else some false)))
 else some false)))
 else some false)
@[simp] abbrev K30 (v0 : List Int) : AV := AL 1 (v0.map vI)
@[simp] def res_spec_l05Pair (r : Bool) : RV := .one (.one (.val (.bool r)))
theorem con_spec_l05Pair {v0 : List Int} {r : Bool} (hF : F_spec_l05Pair v0 = some r) : Con Tryz.prog 136 [.sl 1 (v0.map vI)] (res_spec_l05Pair r) := by
 unfold F_spec_l05Pair at hF
 refine con_of c136_.1 fun N => ?_
 refine ws 0 64 (qp (AB false) rfl (r_nil (ws 64 1664 (qp (K30 v0) rfl (qp (AI (v0.length : Int)) (ev_len_n rfl) (qp (AB (decide ((v0.length : Int) = (2 : Int)))) rfl (qp (AB (decide ((v0.length : Int) = (2 : Int)))) rfl ?_)))))))
 refine q_case 6 hF rfl (fun hF => ?_) (fun hF => ?_)
 ·
  refine qg (K30 v0) rfl rfl (bk hF fun u0 e0 hF => qg (.val none (.ptr [.int .i64 u0])) rfl (ev_iad_n rfl rfl e0 rfl) (qg (AI u0) rfl rfl (bk hF fun u1 e1 hF => qG (AB u1) [] (con_spec_l00In e1) c113_ (qp (AB u1) rfl (qp (AB u1) rfl ?_)))))
  refine q_case 12 hF rfl (fun hF => ?_) (fun hF => ?_)
  ·
   refine qg (K30 v0) rfl rfl (bk hF fun u2 e2 hF => qg (.val none (.ptr [.int .i64 u2])) rfl (ev_iad_n rfl rfl e2 rfl) (qg (AI u2) rfl rfl (bk hF fun u3 e3 hF => qG (AB u3) [] (con_spec_l00In e3) c113_ (qp (AB u3) rfl (qp (AB u3) rfl (q_case 18 hF rfl (fun hF => qg (K30 v0) rfl rfl (bk hF fun u4 e4 hF => qg (.val none (.ptr [.int .i64 u4])) rfl (ev_iad_n rfl rfl e4 rfl) (qg (AI u4) rfl rfl (qg (K30 v0) rfl rfl (bk hF fun u5 e5 hF => qg (.val none (.ptr [.int .i64 u5])) rfl (ev_iad_n rfl rfl e5 rfl) (qg (AI u5) rfl rfl (qg (AB (decide (u4 ≠ u5))) rfl rfl (qp (AB (decide (u4 ≠ u5))) rfl (qp (AB (decide (u4 ≠ u5))) rfl (rR hF)))))))))) fun hF => ?_))))))
   exact qn7 (qp (AB false) rfl (qp (AB false) rfl (rR hF)))
  exact qn4 (qp (AB false) rfl (qp (AB false) rfl (qn2 (qn5 (qp (AB false) rfl (qp (AB false) rfl (rR hF)))))))
 exact qn4 (qp (AB false) rfl (qp (AB false) rfl (qn2 (qn2 (qp (AB false) rfl (qp (AB false) rfl (qn4 (qn3 (qp (AB false) rfl (qp (AB false) rfl (rR hF)))))))))))

def c99 : MC := (sr [pT 2 (.mv cf)] (.seq (sr [pT 3 (.mv (ci 0))] (.block 0 (.loop (.seq (sr [mvt 4 3, mvt 5 0, zT 6 5, bT 7 .lss t4 t6] (cx t7 0)) (.seq (.block 1 (.seq (sr [mvt 10 0, mvt 11 3, iT 12 10 11 1, lT 13 12, dT 14 136 [t13], pT 15 (.not t14)] (.cond t15 (sr [pT 2 (.mv cf)] .ret) .skip)) (sr [mP 16 t3, bF 17 .gtr t16 (ci 0), mP 18 t17, mT 19 18 t0, mT 20 18 t3, bG 21 18 .sub t20 (ci 1), iG 22 18 19 21 1, lG 23 18 22, jG 24 18 23 0 1, lG 25 18 24, mT 26 18 t0, mT 27 18 t3, iG 28 18 26 27 1, lG 29 18 28, jG 30 18 29 0 1, lG 31 18 30, bG 32 18 .gtr t25 t31, mT 33 18 t32, mF 34 33 t0, mF 35 33 t3, bH 36 33 .sub t35 (ci 1), iH 37 33 34 36 1, lH 38 33 37, jH 39 33 38 0 1, lH 40 33 39, mF 41 33 t0, mF 42 33 t3, iH 43 33 41 42 1, lH 44 33 43, jH 45 33 44 0 1, lH 46 33 45, bH 47 33 .eql t40 t46, mF 48 33 t47, mT 49 48 t0, mT 50 48 t3, bG 51 48 .sub t50 (ci 1), iG 52 48 49 51 1, lG 53 48 52, jG 54 48 53 1 1, lG 55 48 54, mT 56 48 t0, mT 57 48 t3, iG 58 48 56 57 1, lG 59 48 58, jG 60 48 59 1 1, lG 61 48 60, bG 62 48 .geq t55 t61, gF 63 33 (.pick t48 t62 cf), gT 64 18 (.pick t33 ct t63), pF 65 (.pick t18 t64 cf)] (.cond t65 (sr [pT 2 (.mv cf)] .ret) .skip)))) (.reg [mvt 8 3, bT 9 .add t8 (ci 1), mvt 3 9])))))) (sr [mvt 66 0, zT 67 66, bT 68 .leq t67 (ci 8), mvt 2 68] .ret)))
theorem c99_ : IsF Tryz.prog 99 c99 [(.tmp 2)] := ⟨by kernel_rfl, by kernel_rfl⟩

def F_spec_l05Pairs_l0 (v0 : List (List Int)) (k0 : Int → Option (Bool)) : Int → Option (Bool)
 | x1 => (bif (decide (x1 < (v0.length : Int))) then ((ix v0 x1).bind fun u0 => ((F_spec_l05Pair u0).bind fun u1 => (bif (!u1) then some false
 else (bif (decide ((0 : Int) < x1)) then ((ix v0 (w64 (x1 - 1))).bind fun u2 => ((ix u2 0).bind fun u3 => ((ix v0 x1).bind fun u4 => ((ix u4 0).bind fun u5 => (bif (decide (u5 < u3)) then some false
 else ((ix v0 (w64 (x1 - 1))).bind fun u6 => ((ix u6 0).bind fun u7 => ((ix v0 x1).bind fun u8 => ((ix u8 0).bind fun u9 => (bif (decide (u7 = u9)) then ((ix v0 (w64 (x1 - 1))).bind fun u10 => ((ix u10 1).bind fun u11 => ((ix v0 x1).bind fun u12 => ((ix u12 1).bind fun u13 => (bif (decide (u13 ≤ u11)) then some false
 else k0 (w64 (x1 + 1)))))))
 else k0 (w64 (x1 + 1))))))))))))
 else k0 (w64 (x1 + 1))))))
 else some (decide ((v0.length : Int) ≤ (8 : Int))))
def F_spec_l05Pairs (v0 : List (List Int)) : Option (Bool) :=
 loop (F_spec_l05Pairs_l0 v0) 0
@[simp] abbrev K31 (v0 : List (List Int)) : V := .sl 1 (v0.map (eL 1 vI))
@[simp] def res_spec_l05Pairs (r : Bool) : RV := .one (.one (.val (.bool r)))
theorem con_spec_l05Pairs {v0 : List (List Int)} {r : Bool} (hF : F_spec_l05Pairs v0 = some r) : Con Tryz.prog 99 [.sl 1 (v0.map (eL 1 vI))] (res_spec_l05Pairs r) := by
 unfold F_spec_l05Pairs at hF
 refine con_of c99_.1 fun N => ?_
 refine ws 0 64 (qp (AB false) rfl (r_nil (w_seq (ws 64 128 (qp (AI 0) rfl (r_nil (w_block ?_)))))))
 refine wr (l' := [(0, .val none (K31 v0)), (3, AI 0)]) (L := []) [0, 3] [] 1 ?_
 refine w_loopF (F_spec_l05Pairs_l0 v0) (fun s : Int => mkS [(0, .val none (K31 v0)), (3, AI s)] (fo []) 1) hF ?_
 rintro k0 x1 hF
 rw [F_spec_l05Pairs_l0] at hF
 try dsimp only
 refine w_seq (ws 1 257 (qp (AI x1) rfl (qp (.val none (K31 v0)) rfl (qp (AI (v0.length : Int)) (ev_len_n rfl) (qp (AB (decide (x1 < (v0.length : Int)))) rfl (r_nil ?_))))))
 refine cF hF (fun hF => ?_) fun hF => ?_
 ·
  refine w_skip (thenQ_n (w_seq (w_block (w_seq (ws 257 641 (qp (.val none (K31 v0)) rfl (qp (AI x1) rfl (bk hF fun u0 e0 hF => qp (.val none (.ptr [.sl 1 (u0.map vI)])) (ev_iad_n rfl rfl e0 rfl) (qp (AL 1 (u0.map vI)) rfl (bk hF fun u1 e1 hF => qC (AB u1) [] (con_spec_l05Pair e1) c136_ (qp (AB (!u1)) rfl (r_nil ?_))))))))))))
  refine cF hF (fun hF => ws 641 705 (qp (AB false) rfl (r_nil (w_ret (thenQ_r (blockQ_r (thenQ_r (thenQ_r (blockQ_r (thenQ_r (eQ hF))))))))))) fun hF => ?_
  refine w_skip (thenQ_n (ws 641 3841 (qp (AI x1) rfl (qp (AB (decide ((0 : Int) < x1))) rfl (qp (AB (decide ((0 : Int) < x1))) rfl ?_)))))
  refine q_case 18 hF rfl (fun hF => ?_) (fun hF => ?_)
  ·
   refine qg (.val none (K31 v0)) rfl rfl (qg (AI x1) rfl rfl (qg (AI (w64 (x1 - 1))) rfl rfl (bk hF fun u2 e2 hF => qg (.val none (.ptr [.sl 1 (u2.map vI)])) rfl (ev_iad_n rfl rfl e2 rfl) (qg (AL 1 (u2.map vI)) rfl rfl (bk hF fun u3 e3 hF => qg (.val none (.ptr [.int .i64 u3])) rfl (ev_iad_n rfl rfl e3 rfl) (qg (AI u3) rfl rfl (qg (.val none (K31 v0)) rfl rfl (qg (AI x1) rfl rfl (bk hF fun u4 e4 hF => qg (.val none (.ptr [.sl 1 (u4.map vI)])) rfl (ev_iad_n rfl rfl e4 rfl) (qg (AL 1 (u4.map vI)) rfl rfl (bk hF fun u5 e5 hF => qg (.val none (.ptr [.int .i64 u5])) rfl (ev_iad_n rfl rfl e5 rfl) (qg (AI u5) rfl rfl (qg (AB (decide (u5 < u3))) rfl rfl (qg (AB (decide (u5 < u3))) rfl rfl ?_))))))))))))))
   refine q_case 33 hF rfl (fun hF => ?_) (fun hF => ?_)
   ·
    refine qn8 (qn7 (qu rfl (qu rfl (qu rfl (qu rfl (qu rfl (qu rfl (qu rfl (qu rfl (qu rfl ?_))))))))))
    refine qu rfl (qu rfl (qu rfl (qu rfl (qu rfl (qn rfl (qg (AB true) rfl rfl (qp (AB true) rfl (r_nil (w_true rfl (ws 3841 3905 (qp (AB false) rfl (r_nil (w_ret ?_)))))))))))))
    exact blockQ_r (thenQ_r (thenQ_r (blockQ_r (thenQ_r (eQ hF)))))
   refine qg (.val none (K31 v0)) rfl rfl (qg (AI x1) rfl rfl (qg (AI (w64 (x1 - 1))) rfl rfl (bk hF fun u6 e6 hF => qg (.val none (.ptr [.sl 1 (u6.map vI)])) rfl (ev_iad_n rfl rfl e6 rfl) (qg (AL 1 (u6.map vI)) rfl rfl (bk hF fun u7 e7 hF => qg (.val none (.ptr [.int .i64 u7])) rfl (ev_iad_n rfl rfl e7 rfl) (qg (AI u7) rfl rfl (qg (.val none (K31 v0)) rfl rfl (qg (AI x1) rfl rfl (bk hF fun u8 e8 hF => qg (.val none (.ptr [.sl 1 (u8.map vI)])) rfl (ev_iad_n rfl rfl e8 rfl) (qg (AL 1 (u8.map vI)) rfl rfl (bk hF fun u9 e9 hF => qg (.val none (.ptr [.int .i64 u9])) rfl (ev_iad_n rfl rfl e9 rfl) (qg (AI u9) rfl rfl (qg (AB (decide (u7 = u9))) rfl rfl (qg (AB (decide (u7 = u9))) rfl rfl ?_))))))))))))))
   refine q_case 48 hF rfl (fun hF => ?_) (fun hF => ?_)
   ·
    refine qg (.val none (K31 v0)) rfl rfl (qg (AI x1) rfl rfl (qg (AI (w64 (x1 - 1))) rfl rfl (bk hF fun u10 e10 hF => qg (.val none (.ptr [.sl 1 (u10.map vI)])) rfl (ev_iad_n rfl rfl e10 rfl) (qg (AL 1 (u10.map vI)) rfl rfl (bk hF fun u11 e11 hF => qg (.val none (.ptr [.int .i64 u11])) rfl (ev_iad_n rfl rfl e11 rfl) (qg (AI u11) rfl rfl (qg (.val none (K31 v0)) rfl rfl (qg (AI x1) rfl rfl (bk hF fun u12 e12 hF => qg (.val none (.ptr [.sl 1 (u12.map vI)])) rfl (ev_iad_n rfl rfl e12 rfl) (qg (AL 1 (u12.map vI)) rfl rfl (bk hF fun u13 e13 hF => ?_)))))))))))
    refine qg (.val none (.ptr [.int .i64 u13])) rfl (ev_iad_n rfl rfl e13 rfl) (qg (AI u13) rfl rfl (qg (AB (decide (u13 ≤ u11))) rfl rfl (qg (AB (decide (u13 ≤ u11))) rfl rfl (qg (AB (decide (u13 ≤ u11))) rfl rfl (qp (AB (decide (u13 ≤ u11))) rfl (r_nil ?_))))))
    refine cF hF (fun hF => ws 3841 3905 (qp (AB false) rfl (r_nil (w_ret (blockQ_r (thenQ_r (thenQ_r (blockQ_r (thenQ_r (eQ hF)))))))))) fun hF => ?_
    refine w_skip (blockQ_n (thenQ_n (w_reg 3841 4033 rfl rfl (qp (AI x1) rfl (qp (AI (w64 (x1 + 1))) rfl (qp (AI (w64 (x1 + 1))) rfl (r_nil (thenQ_n ?_))))))))
    refine ar (l' := [(0, .val none (K31 v0)), (3, AI (w64 (x1 + 1)))]) (L := []) [0, 3] [] 1 ⟨_, by rfl, hF⟩
   refine qn8 (qn6 (qg (AB false) rfl rfl (qg (AB false) rfl rfl (qp (AB false) rfl (r_nil (w_false rfl (w_skip (blockQ_n (thenQ_n (w_reg 3841 4033 rfl rfl ?_))))))))))
   refine qp (AI x1) rfl (qp (AI (w64 (x1 + 1))) rfl (qp (AI (w64 (x1 + 1))) rfl (r_nil (thenQ_n ?_))))
   refine ar (l' := [(0, .val none (K31 v0)), (3, AI (w64 (x1 + 1)))]) (L := []) [0, 3] [] 1 ⟨_, by rfl, hF⟩
  refine qn8 (qn7 (qu rfl (qu rfl (qu rfl (qu rfl (qu rfl (qu rfl (qu rfl (qu rfl (qu rfl ?_))))))))))
  refine qu rfl (qu rfl (qu rfl (qu rfl (qu rfl (qu rfl (qu rfl (qu rfl ?_)))))))
  refine qu rfl (qu rfl (qu rfl (qu rfl (qu rfl (qu rfl (qu rfl (qu rfl ?_)))))))
  refine qu rfl (qu rfl (qu rfl (qu rfl (qu rfl (qn rfl (qp (AB false) rfl (r_nil (w_false rfl (w_skip (blockQ_n (thenQ_n (w_reg 3841 4033 rfl rfl ?_))))))))))))
  refine qp (AI x1) rfl (qp (AI (w64 (x1 + 1))) rfl (qp (AI (w64 (x1 + 1))) rfl (r_nil (thenQ_n ?_))))
  refine ar (l' := [(0, .val none (K31 v0)), (3, AI (w64 (x1 + 1)))]) (L := []) [0, 3] [] 1 ⟨_, by rfl, hF⟩
 exact w_exit (thenQ_e (thenQ_e (blockQ_e (thenQ_n (ws 257 513 (qp (.val none (K31 v0)) rfl (qp (AI (v0.length : Int)) (ev_len_n rfl) (qp (AB (decide ((v0.length : Int) ≤ (8 : Int)))) rfl (qp (AB (decide ((v0.length : Int) ≤ (8 : Int)))) rfl (rR hF))))))))))

def c52 : MC := (sr [pT 2 (.mv cf)] (sr [mP 3 t0, pF 4 (.nck t3), pF 5 (.fad t4 0), lF 6 5, dF 7 96 [t6], mP 8 t7, mT 9 8 t0, gT 10 8 (.nck t9), gT 11 8 (.fad t10 1), lG 12 8 11, ⟨(some 13), (some (8, true)), (.call false 97 [t12])⟩, pF 14 (.pick t8 t13 cf), mP 15 t14, mT 16 15 t0, gT 17 15 (.nck t16), gT 18 15 (.fad t17 2), lG 19 15 18, ⟨(some 20), (some (15, true)), (.call false 97 [t19])⟩, pF 21 (.pick t15 t20 cf), mP 22 t21, mT 23 22 t0, mT 24 22 t0, gT 25 22 (.nck t24), gT 26 22 (.fad t25 3), lG 27 22 26, ⟨(some 28), (some (22, true)), (.call false 98 [t23, t27])⟩, pF 29 (.pick t22 t28 cf), mP 30 t29, mT 31 30 t0, mT 32 30 t0, gT 33 30 (.nck t32), gT 34 30 (.fad t33 4), lG 35 30 34, ⟨(some 36), (some (30, true)), (.call false 98 [t31, t35])⟩, pF 37 (.pick t30 t36 cf), mP 38 t37, mT 39 38 t0, gT 40 38 (.nck t39), gT 41 38 (.fad t40 3), lG 42 38 41, mT 43 38 t0, gT 44 38 (.nck t43), gT 45 38 (.fad t44 4), lG 46 38 45, bG 47 38 .neq t42 t46, pF 48 (.pick t38 t47 cf), mP 49 t48, mT 50 49 t0, gT 51 49 (.nck t50), gT 52 49 (.fad t51 5), lG 53 49 52, ⟨(some 54), (some (49, true)), (.call false 99 [t53])⟩, pF 55 (.pick t49 t54 cf), mP 2 t55] .ret))
theorem c52_ : IsF Tryz.prog 52 c52 [(.tmp 2)] := ⟨by kernel_rfl, by kernel_rfl⟩

def F_spec_l05Ok (v0 : TRaga) : Option (Bool) :=
 ((F_spec_l01Name v0.1).bind fun u0 => (bif u0 then ((F_spec_l03Scale v0.2.1).bind fun u1 => (bif u1 then ((F_spec_l03Scale v0.2.2.1).bind fun u2 => (bif u2 then ((F_spec_l05Tone v0 v0.2.2.2.1).bind fun u3 => (bif u3 then ((F_spec_l05Tone v0 v0.2.2.2.2.1).bind fun u4 => (bif u4 then (bif (decide (v0.2.2.2.1 ≠ v0.2.2.2.2.1)) then ((F_spec_l05Pairs v0.2.2.2.2.2).bind fun u5 => some u5)
 else some false)
 else some false))
 else some false))
 else some false))
 else some false))
 else some false))
@[simp] abbrev K32 (v0 : TRaga) : AV := .val none (.ptr [.str v0.1, .sl 1 (v0.2.1.map vI), .sl 1 (v0.2.2.1.map vI), .int .i64 v0.2.2.2.1, .int .i64 v0.2.2.2.2.1, .sl 1 (v0.2.2.2.2.2.map (eL 1 vI))])
@[simp] abbrev K33 (v0 : TRaga) : AV := .val none (.ptr [.int .i64 v0.2.2.2.1, .int .i64 v0.2.2.2.2.1, .sl 1 (v0.2.2.2.2.2.map (eL 1 vI))])
@[simp] def res_spec_l05Ok (r : Bool) : RV := .one (.one (.val (.bool r)))
theorem con_spec_l05Ok {v0 : TRaga} {r : Bool} (hF : F_spec_l05Ok v0 = some r) : Con Tryz.prog 52 [.ptr [.str v0.1, .sl 1 (v0.2.1.map vI), .sl 1 (v0.2.2.1.map vI), .int .i64 v0.2.2.2.1, .int .i64 v0.2.2.2.2.1, .sl 1 (v0.2.2.2.2.2.map (eL 1 vI))]] (res_spec_l05Ok r) := by
 unfold F_spec_l05Ok at hF
 refine con_of c52_.1 fun N => ?_
 refine ws 0 64 (qp (AB false) rfl (r_nil (ws 64 3520 (qp (K32 v0) rfl (qp (K32 v0) rfl (qp (K32 v0) rfl (qp (AS v0.1) rfl (bk hF fun u0 e0 hF => qC (AB u0) [] (con_spec_l01Name e0) c96_ (qp (AB u0) rfl ?_)))))))))
 refine q_case 8 hF rfl (fun hF => ?_) (fun hF => ?_)
 ·
  refine qg (K32 v0) rfl rfl (qg (K32 v0) rfl rfl (qg (.val none (.ptr [.sl 1 (v0.2.1.map vI), .sl 1 (v0.2.2.1.map vI), .int .i64 v0.2.2.2.1, .int .i64 v0.2.2.2.2.1, .sl 1 (v0.2.2.2.2.2.map (eL 1 vI))])) rfl rfl (qg (AL 1 (v0.2.1.map vI)) rfl rfl (bk hF fun u1 e1 hF => qG (AB u1) [] (con_spec_l03Scale e1) c97_ (qp (AB u1) rfl (qp (AB u1) rfl ?_))))))
  refine q_case 15 hF rfl (fun hF => ?_) (fun hF => ?_)
  ·
   refine qg (K32 v0) rfl rfl (qg (K32 v0) rfl rfl (qg (.val none (.ptr [.sl 1 (v0.2.2.1.map vI), .int .i64 v0.2.2.2.1, .int .i64 v0.2.2.2.2.1, .sl 1 (v0.2.2.2.2.2.map (eL 1 vI))])) rfl rfl (qg (AL 1 (v0.2.2.1.map vI)) rfl rfl (bk hF fun u2 e2 hF => qG (AB u2) [] (con_spec_l03Scale e2) c97_ (qp (AB u2) rfl (qp (AB u2) rfl ?_))))))
   refine q_case 22 hF rfl (fun hF => ?_) (fun hF => ?_)
   ·
    refine qg (K32 v0) rfl rfl (qg (K32 v0) rfl rfl (qg (K32 v0) rfl rfl (qg (K33 v0) rfl rfl (qg (AI v0.2.2.2.1) rfl rfl (bk hF fun u3 e3 hF => qG (AB u3) [] (con_spec_l05Tone e3) c98_ (qp (AB u3) rfl (qp (AB u3) rfl ?_)))))))
    refine q_case 30 hF rfl (fun hF => ?_) (fun hF => ?_)
    ·
     refine qg (K32 v0) rfl rfl (qg (K32 v0) rfl rfl (qg (K32 v0) rfl rfl (qg (.val none (.ptr [.int .i64 v0.2.2.2.2.1, .sl 1 (v0.2.2.2.2.2.map (eL 1 vI))])) rfl rfl (qg (AI v0.2.2.2.2.1) rfl rfl (bk hF fun u4 e4 hF => qG (AB u4) [] (con_spec_l05Tone e4) c98_ (qp (AB u4) rfl (qp (AB u4) rfl ?_)))))))
     refine q_case 38 hF rfl (fun hF => ?_) (fun hF => ?_)
     ·
      refine qg (K32 v0) rfl rfl (qg (K32 v0) rfl rfl (qg (K33 v0) rfl rfl (qg (AI v0.2.2.2.1) rfl rfl (qg (K32 v0) rfl rfl (qg (K32 v0) rfl rfl (qg (.val none (.ptr [.int .i64 v0.2.2.2.2.1, .sl 1 (v0.2.2.2.2.2.map (eL 1 vI))])) rfl rfl (qg (AI v0.2.2.2.2.1) rfl rfl (qg (AB (decide (v0.2.2.2.1 ≠ v0.2.2.2.2.1))) rfl rfl (qp (AB (decide (v0.2.2.2.1 ≠ v0.2.2.2.2.1))) rfl (qp (AB (decide (v0.2.2.2.1 ≠ v0.2.2.2.2.1))) rfl ?_))))))))))
      refine q_case 49 hF rfl (fun hF => qg (K32 v0) rfl rfl (qg (K32 v0) rfl rfl (qg (.val none (.ptr [.sl 1 (v0.2.2.2.2.2.map (eL 1 vI))])) rfl rfl (qg (AL 1 (v0.2.2.2.2.2.map (eL 1 vI))) rfl rfl (bk hF fun u5 e5 hF => qG (AB u5) [] (con_spec_l05Pairs e5) c99_ (qp (AB u5) rfl (qp (AB u5) rfl (rR hF)))))))) fun hF => ?_
      exact qn5 (qp (AB false) rfl (qp (AB false) rfl (rR hF)))
     exact qn8 (qn rfl (qp (AB false) rfl (qp (AB false) rfl (qn rfl (qn rfl (qn rfl (qn rfl (qn rfl (qp (AB false) rfl (qp (AB false) rfl (rR hF)))))))))))
    exact qn6 (qp (AB false) rfl (qp (AB false) rfl (qn8 (qn rfl (qp (AB false) rfl (qp (AB false) rfl (qn rfl (qn rfl (qn rfl (qn rfl (qn rfl (qp (AB false) rfl (qp (AB false) rfl (rR hF))))))))))))))
   refine qn6 (qp (AB false) rfl (qp (AB false) rfl (qn6 (qp (AB false) rfl (qp (AB false) rfl (qn8 ?_))))))
   exact qn rfl (qp (AB false) rfl (qp (AB false) rfl (qn rfl (qn rfl (qn rfl (qn rfl (qn rfl (qp (AB false) rfl (qp (AB false) rfl (rR hF))))))))))
  refine qn5 (qp (AB false) rfl (qp (AB false) rfl (qn rfl (qn5 (qp (AB false) rfl (qp (AB false) rfl (qn rfl (qn5 (qp (AB false) rfl (qp (AB false) rfl (qn rfl (qn8 ?_))))))))))))
  exact qp (AB false) rfl (qp (AB false) rfl (qn5 (qp (AB false) rfl (qp (AB false) rfl (rR hF)))))
 refine qn5 (qp (AB false) rfl (qp (AB false) rfl (qn rfl (qn4 (qp (AB false) rfl (qp (AB false) rfl (qn2 (qn4 (qp (AB false) rfl (qp (AB false) rfl (qn2 ?_)))))))))))
 exact qn4 (qp (AB false) rfl (qp (AB false) rfl (qn2 (qn7 (qp (AB false) rfl (qp (AB false) rfl (qn5 (qp (AB false) rfl (qp (AB false) rfl (rR hF))))))))))

def c100 : MC := (sr [pT 2 (.mv cf)] (sr [mvt 3 0, dT 4 113 [t3, (ci (-12)), (ci 23)], mvt 2 4] .ret))
theorem c100_ : IsF Tryz.prog 100 c100 [(.tmp 2)] := ⟨by kernel_rfl, by kernel_rfl⟩

def F_spec_l03Pitch (v0 : Int) : Option (Bool) :=
 ((F_spec_l00In v0 (-12) 23).bind fun u0 => some u0)
@[simp] def res_spec_l03Pitch (r : Bool) : RV := .one (.one (.val (.bool r)))
theorem con_spec_l03Pitch {v0 : Int} {r : Bool} (hF : F_spec_l03Pitch v0 = some r) : Con Tryz.prog 100 [.int .i64 v0] (res_spec_l03Pitch r) := by
 unfold F_spec_l03Pitch at hF
 refine con_of c100_.1 fun N => ?_
 exact ws 0 64 (qp (AB false) rfl (r_nil (ws 64 256 (qp (AI v0) rfl (bk hF fun u0 e0 hF => qC (AB u0) [] (con_spec_l00In e0) c113_ (qp (AB u0) rfl (rR hF)))))))

def c101 : MC := (sr [pT 2 (.mv cf)] (sr [mvt 3 0, dT 4 113 [t3, (ci 1), (ci 64)], mvt 2 4] .ret))
theorem c101_ : IsF Tryz.prog 101 c101 [(.tmp 2)] := ⟨by kernel_rfl, by kernel_rfl⟩

def F_spec_l09Length (v0 : Int) : Option (Bool) :=
 ((F_spec_l00In v0 1 64).bind fun u0 => some u0)
@[simp] def res_spec_l09Length (r : Bool) : RV := .one (.one (.val (.bool r)))
theorem con_spec_l09Length {v0 : Int} {r : Bool} (hF : F_spec_l09Length v0 = some r) : Con Tryz.prog 101 [.int .i64 v0] (res_spec_l09Length r) := by
 unfold F_spec_l09Length at hF
 refine con_of c101_.1 fun N => ?_
 exact ws 0 64 (qp (AB false) rfl (r_nil (ws 64 256 (qp (AI v0) rfl (bk hF fun u0 e0 hF => qC (AB u0) [] (con_spec_l00In e0) c113_ (qp (AB u0) rfl (rR hF)))))))

def c53 : MC := (sr [pT 2 (.mv cf)] (.seq (sr [pT 3 (.mv (ci 0))] (.block 0 (.loop (.seq (sr [mvt 4 3, mvt 5 0, zT 6 5, bT 7 .lss t4 t6] (cx t7 0)) (.seq (.block 1 (sr [mvt 10 0, mvt 11 3, iT 12 10 11 2, pT 13 (.fad t12 0), lT 14 13, dT 15 100 [t14], pT 16 (.not t15), mvt 17 16, nF 18 17 t0, nF 19 17 t3, kF 20 17 (.iad t18 t19 2), kF 21 17 (.fad t20 1), kF 22 17 (.ld t21 1 false), ⟨(some 23), (some (17, false)), (.call true 101 [t22])⟩, kF 24 17 (.not t23), pT 25 (.pick t17 ct t24)] (.cond t25 (sr [pT 2 (.mv cf)] .ret) .skip))) (.reg [mvt 8 3, bT 9 .add t8 (ci 1), mvt 3 9])))))) (sr [mvt 26 0, zT 27 26, bT 28 .leq t27 (ci 48), mvt 2 28] .ret)))
theorem c53_ : IsF Tryz.prog 53 c53 [(.tmp 2)] := ⟨by kernel_rfl, by kernel_rfl⟩

def F_spec_l09Ok_l0 (v0 : List TNote) (k0 : Int → Option (Bool)) : Int → Option (Bool)
 | x1 => (bif (decide (x1 < (v0.length : Int))) then ((ix v0 x1).bind fun u0 => ((F_spec_l03Pitch u0.1).bind fun u1 => (bif (!u1) then some false
 else ((ix v0 x1).bind fun u2 => ((F_spec_l09Length u2.2).bind fun u3 => (bif (!u3) then some false
 else k0 (w64 (x1 + 1))))))))
 else some (decide ((v0.length : Int) ≤ (48 : Int))))
def F_spec_l09Ok (v0 : List TNote) : Option (Bool) :=
 loop (F_spec_l09Ok_l0 v0) 0
@[simp] def res_spec_l09Ok (r : Bool) : RV := .one (.one (.val (.bool r)))
theorem con_spec_l09Ok {v0 : List TNote} {r : Bool} (hF : F_spec_l09Ok v0 = some r) : Con Tryz.prog 53 [.sl 2 (v0.map eNote)] (res_spec_l09Ok r) := by
 unfold F_spec_l09Ok at hF
 refine con_of c53_.1 fun N => ?_
 refine ws 0 64 (qp (AB false) rfl (r_nil (w_seq (ws 64 128 (qp (AI 0) rfl (r_nil (w_block ?_)))))))
 refine wr (l' := [(0, AL 2 (v0.map eNote)), (3, AI 0)]) (L := []) [0, 3] [] 1 ?_
 refine w_loopF (F_spec_l09Ok_l0 v0) (fun s : Int => mkS [(0, AL 2 (v0.map eNote)), (3, AI s)] (fo []) 1) hF ?_
 rintro k0 x1 hF
 rw [F_spec_l09Ok_l0] at hF
 try dsimp only
 refine w_seq (ws 1 257 (qp (AI x1) rfl (qp (AL 2 (v0.map eNote)) rfl (qp (AI (v0.length : Int)) (ev_len_n rfl) (qp (AB (decide (x1 < (v0.length : Int)))) rfl (r_nil ?_))))))
 refine cF hF (fun hF => ?_) fun hF => ?_
 ·
  refine w_skip (thenQ_n (w_seq (w_block (ws 257 1281 (qp (AL 2 (v0.map eNote)) rfl (qp (AI x1) rfl (bk hF fun u0 e0 hF => qp (.val none (.ptr [.int .i64 u0.1, .int .i64 u0.2])) (ev_iad_n rfl rfl e0 rfl) (qp (.val none (.ptr [.int .i64 u0.1, .int .i64 u0.2])) rfl (qp (AI u0.1) rfl (bk hF fun u1 e1 hF => qC (AB u1) [] (con_spec_l03Pitch e1) c100_ (qp (AB (!u1)) rfl (qp (AB (!u1)) rfl ?_))))))))))))
  refine q_case 17 hF rfl (fun hF => qn7 (qp (AB true) rfl (r_nil (w_true rfl (ws 1281 1345 (qp (AB false) rfl (r_nil (w_ret (blockQ_r (thenQ_r (thenQ_r (blockQ_r (thenQ_r (eQ hF)))))))))))))) fun hF => ?_
  refine qg (AL 2 (v0.map eNote)) rfl rfl (qg (AI x1) rfl rfl (bk hF fun u2 e2 hF => qg (.val none (.ptr [.int .i64 u2.1, .int .i64 u2.2])) rfl (ev_iad_n rfl rfl e2 rfl) (qg (.val none (.ptr [.int .i64 u2.2])) rfl rfl (qg (AI u2.2) rfl rfl (bk hF fun u3 e3 hF => qG (AB u3) [] (con_spec_l09Length e3) c101_ (qg (AB (!u3)) rfl rfl (qp (AB (!u3)) rfl (r_nil ?_))))))))
  refine cF hF (fun hF => ws 1281 1345 (qp (AB false) rfl (r_nil (w_ret (blockQ_r (thenQ_r (thenQ_r (blockQ_r (thenQ_r (eQ hF)))))))))) fun hF => ?_
  refine w_skip (blockQ_n (thenQ_n (w_reg 1281 1473 rfl rfl (qp (AI x1) rfl (qp (AI (w64 (x1 + 1))) rfl (qp (AI (w64 (x1 + 1))) rfl (r_nil (thenQ_n ?_))))))))
  refine ar (l' := [(0, AL 2 (v0.map eNote)), (3, AI (w64 (x1 + 1)))]) (L := []) [0, 3] [] 1 ⟨_, by rfl, hF⟩
 exact w_exit (thenQ_e (thenQ_e (blockQ_e (thenQ_n (ws 257 513 (qp (AL 2 (v0.map eNote)) rfl (qp (AI (v0.length : Int)) (ev_len_n rfl) (qp (AB (decide ((v0.length : Int) ≤ (48 : Int)))) rfl (qp (AB (decide ((v0.length : Int) ≤ (48 : Int)))) rfl (rR hF))))))))))

def c137 : MC := (sr [pT 2 (.mv cf)] (sr [mvt 3 0, dT 4 113 [t3, (ci 1), (ci 1000000)], mvt 2 4] .ret))
theorem c137_ : IsF Tryz.prog 137 c137 [(.tmp 2)] := ⟨by kernel_rfl, by kernel_rfl⟩

def F_spec_l02Part (v0 : Int) : Option (Bool) :=
 ((F_spec_l00In v0 1 1000000).bind fun u0 => some u0)
@[simp] def res_spec_l02Part (r : Bool) : RV := .one (.one (.val (.bool r)))
theorem con_spec_l02Part {v0 : Int} {r : Bool} (hF : F_spec_l02Part v0 = some r) : Con Tryz.prog 137 [.int .i64 v0] (res_spec_l02Part r) := by
 unfold F_spec_l02Part at hF
 refine con_of c137_.1 fun N => ?_
 exact ws 0 64 (qp (AB false) rfl (r_nil (ws 64 256 (qp (AI v0) rfl (bk hF fun u0 e0 hF => qC (AB u0) [] (con_spec_l00In e0) c113_ (qp (AB u0) rfl (rR hF)))))))

def c138 : MC := (sr [pT 4 (.mv (ci 0))] (.seq (.block 0 (.loop (.seq (sr [mvt 6 1, bT 7 .neq t6 (ci 0)] (cx t7 0)) (.block 1 (sr [mvt 8 0, mvt 9 1, bT 10 .rem t8 t9, mvt 5 10] (sr [mvt 11 1, mvt 0 11] (.reg [mvt 12 5, mvt 1 12]))))))) (sr [mvt 13 0, mvt 4 13] .ret)))
theorem c138_ : IsF Tryz.prog 138 c138 [(.tmp 4)] := ⟨by kernel_rfl, by kernel_rfl⟩

def F_spec_l02Gcd_l0 (k0 : Int × Int → Option (Int)) : Int × Int → Option (Int)
 | (x2, x3) => (bif (decide (x3 ≠ (0 : Int))) then (need (x3 ≠ 0) (k0 (x3, Int.tmod x2 x3)))
 else some x2)
def F_spec_l02Gcd (v0 : Int) (v1 : Int) : Option (Int) :=
 loop (F_spec_l02Gcd_l0) (v0, v1)
@[simp] def res_spec_l02Gcd (r : Int) : RV := .one (.one (.val (.int .i64 r)))
theorem con_spec_l02Gcd {v0 : Int} {v1 : Int} {r : Int} (hF : F_spec_l02Gcd v0 v1 = some r) : Con Tryz.prog 138 [.int .i64 v0, .int .i64 v1] (res_spec_l02Gcd r) := by
 unfold F_spec_l02Gcd at hF
 refine con_of c138_.1 fun N => ?_
 refine ws 0 64 (qp (AI 0) rfl (r_nil (w_seq (w_block ?_))))
 refine wr (l' := [(0, AI v0), (1, AI v1)]) (L := []) [0, 1] [] 1 ?_
 refine w_loopF (F_spec_l02Gcd_l0) (fun s : Int × Int => mkS [(0, AI s.1), (1, AI s.2)] (fo []) 1) hF ?_
 rintro k0 ⟨x2, x3⟩ hF
 rw [F_spec_l02Gcd_l0] at hF
 try dsimp only
 refine w_seq (ws 1 129 (qp (AI x3) rfl (qp (AB (decide (x3 ≠ (0 : Int)))) rfl (r_nil ?_))))
 refine cF hF (fun hF => ?_) fun hF => ?_
 ·
  refine w_skip (thenQ_n (w_block (ws 129 385 (qp (AI x2) rfl (qp (AI x3) rfl (nk hF fun g0 hF => qp (AI (Int.tmod x2 x3)) (ev_rem rfl rfl g0) (qp (AI (Int.tmod x2 x3)) rfl (r_nil (ws 385 513 (qp (AI x3) rfl (qp (AI x3) rfl (r_nil (w_reg 513 641 rfl rfl ?_)))))))))))))
  refine qp (AI (Int.tmod x2 x3)) rfl (qp (AI (Int.tmod x2 x3)) rfl (r_nil (blockQ_n (thenQ_n ?_))))
  refine ar (l' := [(0, AI x3), (1, AI (Int.tmod x2 x3))]) (L := []) [0, 1] [] 1 ⟨_, by rfl, hF⟩
 exact w_exit (thenQ_e (thenQ_e (blockQ_e (thenQ_n (ws 129 257 (qp (AI x2) rfl (qp (AI x2) rfl (rR hF))))))))

def c102 : MC := (sr [pT 2 (.mv cf)] (sr [mP 3 t0, pF 4 (.nck t3), pF 5 (.fad t4 0), lF 6 5, dF 7 137 [t6], mP 8 t7, mT 9 8 t0, gT 10 8 (.nck t9), gT 11 8 (.fad t10 1), lG 12 8 11, ⟨(some 13), (some (8, true)), (.call false 137 [t12])⟩, pF 14 (.pick t8 t13 cf), mP 15 t14, mT 16 15 t0, gT 17 15 (.nck t16), gT 18 15 (.fad t17 0), lG 19 15 18, mT 20 15 t0, gT 21 15 (.nck t20), gT 22 15 (.fad t21 1), lG 23 15 22, ⟨(some 24), (some (15, true)), (.call false 138 [t19, t23])⟩, bG 25 15 .eql t24 (ci 1), pF 26 (.pick t15 t25 cf), mP 2 t26] .ret))
theorem c102_ : IsF Tryz.prog 102 c102 [(.tmp 2)] := ⟨by kernel_rfl, by kernel_rfl⟩

def F_spec_l02Ok (v0 : TNote) : Option (Bool) :=
 ((F_spec_l02Part v0.1).bind fun u0 => (bif u0 then ((F_spec_l02Part v0.2).bind fun u1 => (bif u1 then ((F_spec_l02Gcd v0.1 v0.2).bind fun u2 => some (decide (u2 = (1 : Int))))
 else some false))
 else some false))
@[simp] abbrev K34 (v0 : TNote) : AV := .val none (.ptr [.int .i64 v0.1, .int .i64 v0.2])
@[simp] def res_spec_l02Ok (r : Bool) : RV := .one (.one (.val (.bool r)))
theorem con_spec_l02Ok {v0 : TNote} {r : Bool} (hF : F_spec_l02Ok v0 = some r) : Con Tryz.prog 102 [.ptr [.int .i64 v0.1, .int .i64 v0.2]] (res_spec_l02Ok r) := by
 unfold F_spec_l02Ok at hF
 refine con_of c102_.1 fun N => ?_
 refine ws 0 64 (qp (AB false) rfl (r_nil (ws 64 1664 (qp (K34 v0) rfl (qp (K34 v0) rfl (qp (K34 v0) rfl (qp (AI v0.1) rfl (bk hF fun u0 e0 hF => qC (AB u0) [] (con_spec_l02Part e0) c137_ (qp (AB u0) rfl ?_)))))))))
 refine q_case 8 hF rfl (fun hF => ?_) (fun hF => ?_)
 ·
  refine qg (K34 v0) rfl rfl (qg (K34 v0) rfl rfl (qg (.val none (.ptr [.int .i64 v0.2])) rfl rfl (qg (AI v0.2) rfl rfl (bk hF fun u1 e1 hF => qG (AB u1) [] (con_spec_l02Part e1) c137_ (qp (AB u1) rfl (qp (AB u1) rfl ?_))))))
  refine q_case 15 hF rfl (fun hF => qg (K34 v0) rfl rfl (qg (K34 v0) rfl rfl (qg (K34 v0) rfl rfl (qg (AI v0.1) rfl rfl (qg (K34 v0) rfl rfl (qg (K34 v0) rfl rfl (qg (.val none (.ptr [.int .i64 v0.2])) rfl rfl (qg (AI v0.2) rfl rfl (bk hF fun u2 e2 hF => qG (AI u2) [] (con_spec_l02Gcd e2) c138_ (qg (AB (decide (u2 = (1 : Int)))) rfl rfl (qp (AB (decide (u2 = (1 : Int)))) rfl (qp (AB (decide (u2 = (1 : Int)))) rfl (rR hF))))))))))))) fun hF => ?_
  exact qn8 (qn2 (qp (AB false) rfl (qp (AB false) rfl (rR hF))))
 exact qn5 (qp (AB false) rfl (qp (AB false) rfl (qn rfl (qn8 (qn rfl (qp (AB false) rfl (qp (AB false) rfl (rR hF))))))))

def c103 : MC := (sr [pT 4 (.mv (ci 0))] (sr [mP 7 t0, pF 8 (.nck t7), pF 9 (.fad t8 0), lF 10 9, mP 11 t1, pF 12 (.nck t11), pF 13 (.fad t12 1), lF 14 13, bF 15 .mul t10 t14, mP 5 t15] (sr [mP 16 t1, pF 17 (.nck t16), pF 18 (.fad t17 0), lF 19 18, mP 20 t0, pF 21 (.nck t20), pF 22 (.fad t21 1), lF 23 22, bF 24 .mul t19 t23, mP 6 t24] (.seq (sr [mvt 25 5, mvt 26 6, bT 27 .lss t25 t26] (.cond t27 (sr [pT 4 (.mv (ci (-1)))] .ret) .skip)) (.seq (sr [mvt 28 5, mvt 29 6, bT 30 .gtr t28 t29] (.cond t30 (sr [pT 4 (.mv (ci 1))] .ret) .skip)) (sr [pT 4 (.mv (ci 0))] .ret))))))
theorem c103_ : IsF Tryz.prog 103 c103 [(.tmp 4)] := ⟨by kernel_rfl, by kernel_rfl⟩

def F_spec_l02Compare (v0 : TNote) (v1 : TNote) : Option (Int) :=
 (bif (decide (w64 (v0.1 * v1.2) < w64 (v1.1 * v0.2))) then some (-1)
 else (bif (decide (w64 (v1.1 * v0.2) < w64 (v0.1 * v1.2))) then some 1
 else some 0))
@[simp] abbrev K35 (v0 : TNote) : AV := .val none (.ptr [.int .i64 v0.1, .int .i64 v0.2])
@[simp] abbrev K36 (v1 : TNote) : AV := .val none (.ptr [.int .i64 v1.1, .int .i64 v1.2])
@[simp] def res_spec_l02Compare (r : Int) : RV := .one (.one (.val (.int .i64 r)))
theorem con_spec_l02Compare {v0 : TNote} {v1 : TNote} {r : Int} (hF : F_spec_l02Compare v0 v1 = some r) : Con Tryz.prog 103 [.ptr [.int .i64 v0.1, .int .i64 v0.2], .ptr [.int .i64 v1.1, .int .i64 v1.2]] (res_spec_l02Compare r) := by
 unfold F_spec_l02Compare at hF
 refine con_of c103_.1 fun N => ?_
 refine ws 0 64 (qp (AI 0) rfl (r_nil (ws 64 704 (qp (K35 v0) rfl (qp (K35 v0) rfl (qp (K35 v0) rfl (qp (AI v0.1) rfl (qp (K36 v1) rfl (qp (K36 v1) rfl (qp (.val none (.ptr [.int .i64 v1.2])) rfl (qp (AI v1.2) rfl ?_)))))))))))
 refine qp (AI (w64 (v0.1 * v1.2))) rfl (qp (AI (w64 (v0.1 * v1.2))) rfl (r_nil (ws 704 1344 (qp (K36 v1) rfl (qp (K36 v1) rfl (qp (K36 v1) rfl (qp (AI v1.1) rfl (qp (K35 v0) rfl (qp (K35 v0) rfl (qp (.val none (.ptr [.int .i64 v0.2])) rfl (qp (AI v0.2) rfl ?_)))))))))))
 refine qp (AI (w64 (v1.1 * v0.2))) rfl (qp (AI (w64 (v1.1 * v0.2))) rfl (r_nil (w_seq (ws 1344 1536 (qp (AI (w64 (v0.1 * v1.2))) rfl (qp (AI (w64 (v1.1 * v0.2))) rfl (qp (AB (decide (w64 (v0.1 * v1.2) < w64 (v1.1 * v0.2)))) rfl (r_nil ?_))))))))
 refine cF hF (fun hF => ws 1536 1600 (qp (AI (-1)) rfl (r_nil (w_ret (thenQ_r (eQ hF)))))) fun hF => ?_
 refine w_skip (thenQ_n (w_seq (ws 1536 1728 (qp (AI (w64 (v0.1 * v1.2))) rfl (qp (AI (w64 (v1.1 * v0.2))) rfl (qp (AB (decide (w64 (v1.1 * v0.2) < w64 (v0.1 * v1.2)))) rfl (r_nil ?_)))))))
 refine cF hF (fun hF => ws 1728 1792 (qp (AI 1) rfl (r_nil (w_ret (thenQ_r (eQ hF)))))) fun hF => ?_
 exact w_skip (thenQ_n (ws 1728 1792 (qp (AI 0) rfl (rR hF))))

def c54 : MC := (sr [pT 2 (.mv cf)] (.seq (sr [mvt 5 0, pT 6 (.nck t5), pT 7 (.fad t6 0), lT 8 7, dT 9 96 [t8], pT 10 (.not t9), mvt 11 10, nF 12 11 t0, kF 13 11 (.nck t12), kF 14 11 (.fad t13 1), kF 15 11 (.ld t14 1 false), kF 16 11 (.len t15), kF 17 11 (.bin .neq t16 (ci 12)), pT 18 (.pick t11 ct t17)] (.cond t18 (sr [pT 2 (.mv cf)] .ret) .skip)) (.seq (sr [pT 3 (.mv (ci 0))] (.block 0 (.loop (.seq (sr [mvt 19 3, mvt 20 0, pT 21 (.nck t20), pT 22 (.fad t21 1), lT 23 22, zT 24 23, bT 25 .lss t19 t24] (cx t25 0)) (.seq (.block 1 (sr [mvt 28 0, pT 29 (.nck t28), pT 30 (.fad t29 1), lT 31 30, mvt 32 3, iT 33 31 32 2, mvt 4 33] (sr [mP 34 t4, dF 35 102 [t34], pF 36 (.not t35), mP 37 t36, mF 38 37 t4, gF 39 37 (.nck t38), gF 40 37 (.fad t39 0), lH 41 37 40, mF 42 37 t4, gF 43 37 (.nck t42), gF 44 37 (.fad t43 1), lH 45 37 44, bH 46 37 .mul (ci 2) t45, bH 47 37 .geq t41 t46, pF 48 (.pick t37 ct t47), mP 49 t48, mF 50 49 t3, bH 51 49 .gtr t50 (ci 0), mF 52 49 t51, mT 53 52 t0, gT 54 52 (.nck t53), gT 55 52 (.fad t54 1), lG 56 52 55, mT 57 52 t3, bG 58 52 .sub t57 (ci 1), iG 59 52 56 58 2, mT 60 52 t4, ⟨(some 61), (some (52, true)), (.call false 103 [t59, t60])⟩, bG 62 52 .geq t61 (ci 0), gF 63 49 (.pick t52 t62 cf), pF 64 (.pick t49 ct t63)] (.cond t64 (sr [pT 2 (.mv cf)] .ret) .skip)))) (.reg [mvt 26 3, bT 27 .add t26 (ci 1), mvt 3 27])))))) (sr [mvt 65 0, pT 66 (.nck t65), pT 67 (.fad t66 1), lT 68 67, jT 69 68 0 2, pT 70 (.fad t69 0), lT 71 70, bT 72 .eql t71 (ci 1), mvt 73 72, nT 74 73 t0, kT 75 73 (.nck t74), kT 76 73 (.fad t75 1), kT 77 73 (.ld t76 1 false), kT 78 73 (.iad t77 (ci 0) 2), kT 79 73 (.fad t78 1), kT 80 73 (.ld t79 1 false), kT 81 73 (.bin .eql t80 (ci 1)), pT 82 (.pick t73 t81 cf), mvt 2 82] .ret))))
theorem c54_ : IsF Tryz.prog 54 c54 [(.tmp 2)] := ⟨by kernel_rfl, by kernel_rfl⟩

def F_spec_l04Ok_l0 (v0 : TTuning) (k1 : Int → Option (Bool)) : Int → Option (Bool)
 | x3 => (bif (decide (x3 < (v0.2.length : Int))) then ((ix v0.2 x3).bind fun u9 => ((F_spec_l02Ok u9).bind fun u10 => (bif (!u10) then some false
 else (bif (decide (w64 (2 * u9.2) ≤ u9.1)) then some false
 else (bif (decide ((0 : Int) < x3)) then ((ix v0.2 (w64 (x3 - 1))).bind fun u11 => ((F_spec_l02Compare u11 u9).bind fun u12 => (bif (decide ((0 : Int) ≤ u12)) then some false
 else k1 (w64 (x3 + 1)))))
 else k1 (w64 (x3 + 1)))))))
 else ((ix v0.2 0).bind fun u13 => (bif (decide (u13.1 = (1 : Int))) then ((ix v0.2 0).bind fun u14 => some (decide (u14.2 = (1 : Int))))
 else some false)))
def F_spec_l04Ok (v0 : TTuning) : Option (Bool) :=
 ((F_spec_l01Name v0.1).bind fun u0 => (bif (!u0) then some false
 else (bif (decide ((v0.2.length : Int) ≠ (12 : Int))) then some false
 else loop (F_spec_l04Ok_l0 v0) 0)))
@[simp] abbrev K37 (v0 : TTuning) : AV := .val none (.ptr [.str v0.1, .sl 2 (v0.2.map eNote)])
@[simp] abbrev K38 (u9 : TNote) : AV := .val none (.ptr [.int .i64 u9.1, .int .i64 u9.2])
@[simp] abbrev K39 (v0 : TTuning) : AV := .val none (.ptr [.sl 2 (v0.2.map eNote)])
@[simp] abbrev K3a (v0 : TTuning) : Nat × AV := (0, .val none (.ptr [.str v0.1, .sl 2 (v0.2.map eNote)]))
@[simp] abbrev K3b (v0 : TTuning) : AV := AL 2 (v0.2.map eNote)
@[simp] def res_spec_l04Ok (r : Bool) : RV := .one (.one (.val (.bool r)))
theorem con_spec_l04Ok {v0 : TTuning} {r : Bool} (hF : F_spec_l04Ok v0 = some r) : Con Tryz.prog 54 [.ptr [.str v0.1, .sl 2 (v0.2.map eNote)]] (res_spec_l04Ok r) := by
 unfold F_spec_l04Ok at hF
 refine con_of c54_.1 fun N => ?_
 refine ws 0 64 (qp (AB false) rfl (r_nil (w_seq (ws 64 960 (qp (K37 v0) rfl (qp (K37 v0) rfl (qp (K37 v0) rfl (qp (AS v0.1) rfl (bk hF fun u0 e0 hF => qC (AB u0) [] (con_spec_l01Name e0) c96_ (qp (AB (!u0)) rfl (qp (AB (!u0)) rfl ?_)))))))))))
 refine q_case 11 hF rfl (fun hF => qn6 (qp (AB true) rfl (r_nil (w_true rfl (ws 960 1024 (qp (AB false) rfl (r_nil (w_ret (thenQ_r (eQ hF)))))))))) fun hF => ?_
 refine qg (K37 v0) rfl rfl (qg (K37 v0) rfl rfl (qg (K39 v0) rfl rfl (qg (K3b v0) rfl rfl (qg (AI (v0.2.length : Int)) rfl (ev_len_n rfl) (qg (AB (decide ((v0.2.length : Int) ≠ (12 : Int)))) rfl rfl (qp (AB (decide ((v0.2.length : Int) ≠ (12 : Int)))) rfl (r_nil (cF hF (fun hF => ws 960 1024 (qp (AB false) rfl (r_nil (w_ret (thenQ_r (eQ hF)))))) fun hF => ?_))))))))
 refine w_skip (thenQ_n (w_seq (ws 960 1024 (qp (AI 0) rfl (r_nil (w_block ?_))))))
 refine wr (l' := [(K3a v0), (3, AI 0)]) (L := []) [0, 3] [] 1 ?_
 refine w_loopF (F_spec_l04Ok_l0 v0) (fun s : Int => mkS [(K3a v0), (3, AI s)] (fo []) 1) hF ?_
 rintro k1 x3 hF
 rw [F_spec_l04Ok_l0] at hF
 try dsimp only
 refine w_seq (ws 1 449 (qp (AI x3) rfl (qp (K37 v0) rfl (qp (K37 v0) rfl (qp (K39 v0) rfl (qp (K3b v0) rfl (qp (AI (v0.2.length : Int)) (ev_len_n rfl) (qp (AB (decide (x3 < (v0.2.length : Int)))) rfl (r_nil ?_)))))))))
 refine cF hF (fun hF => ?_) fun hF => ?_
 ·
  refine w_skip (thenQ_n (w_seq (w_block (ws 449 897 (qp (K37 v0) rfl (qp (K37 v0) rfl (qp (K39 v0) rfl (qp (K3b v0) rfl (qp (AI x3) rfl (bk hF fun u9 e9 hF => qp (K38 u9) (ev_iad_n rfl rfl e9 rfl) (qp (K38 u9) rfl (r_nil (ws 897 2881 (qp (K38 u9) rfl (bk hF fun u10 e10 hF => ?_)))))))))))))))
  refine qC (AB u10) [] (con_spec_l02Ok e10) c102_ (qp (AB (!u10)) rfl (qp (AB (!u10)) rfl ?_))
  refine q_case 37 hF rfl (fun hF => ?_) (fun hF => ?_)
  ·
   refine qn8 (qn2 (qp (AB true) rfl (qp (AB true) rfl (qn3 (qu rfl (qu rfl (qu rfl (qu rfl (qu rfl (qu rfl (qu rfl (qu rfl (qu rfl ?_)))))))))))))
   exact qu rfl (qn rfl (qp (AB true) rfl (r_nil (w_true rfl (ws 2881 2945 (qp (AB false) rfl (r_nil (w_ret (blockQ_r (thenQ_r (thenQ_r (blockQ_r (thenQ_r (eQ hF))))))))))))))
  refine qg (K38 u9) rfl rfl (qg (K38 u9) rfl rfl (qg (K38 u9) rfl rfl (qg (AI u9.1) rfl rfl (qg (K38 u9) rfl rfl (qg (K38 u9) rfl rfl (qg (.val none (.ptr [.int .i64 u9.2])) rfl rfl (qg (AI u9.2) rfl rfl ?_)))))))
  refine qg (AI (w64 (2 * u9.2))) rfl rfl (qg (AB (decide (w64 (2 * u9.2) ≤ u9.1))) rfl rfl (qp (AB (decide (w64 (2 * u9.2) ≤ u9.1))) rfl (qp (AB (decide (w64 (2 * u9.2) ≤ u9.1))) rfl ?_)))
  refine q_case 49 hF rfl (fun hF => ?_) (fun hF => ?_)
  ·
   refine qn3 (qu rfl (qu rfl (qu rfl (qu rfl (qu rfl (qu rfl (qu rfl (qu rfl (qu rfl (qu rfl (qn rfl (qp (AB true) rfl (r_nil ?_)))))))))))))
   exact w_true rfl (ws 2881 2945 (qp (AB false) rfl (r_nil (w_ret (blockQ_r (thenQ_r (thenQ_r (blockQ_r (thenQ_r (eQ hF))))))))))
  refine qg (AI x3) rfl rfl (qg (AB (decide ((0 : Int) < x3))) rfl rfl (qg (AB (decide ((0 : Int) < x3))) rfl rfl ?_))
  refine q_case 52 hF rfl (fun hF => ?_) (fun hF => ?_)
  ·
   refine qg (K37 v0) rfl rfl (qg (K37 v0) rfl rfl (qg (K39 v0) rfl rfl (qg (K3b v0) rfl rfl (qg (AI x3) rfl rfl (qg (AI (w64 (x3 - 1))) rfl rfl (bk hF fun u11 e11 hF => qg (.val none (.ptr [.int .i64 u11.1, .int .i64 u11.2])) rfl (ev_iad_n rfl rfl e11 rfl) (qg (K38 u9) rfl rfl (bk hF fun u12 e12 hF => qG (AI u12) [] (con_spec_l02Compare e12) c103_ (qg (AB (decide ((0 : Int) ≤ u12))) rfl rfl (qg (AB (decide ((0 : Int) ≤ u12))) rfl rfl (qp (AB (decide ((0 : Int) ≤ u12))) rfl (r_nil ?_))))))))))))
   refine cF hF (fun hF => ws 2881 2945 (qp (AB false) rfl (r_nil (w_ret (blockQ_r (thenQ_r (thenQ_r (blockQ_r (thenQ_r (eQ hF)))))))))) fun hF => ?_
   refine w_skip (blockQ_n (thenQ_n (w_reg 2881 3073 rfl rfl (qp (AI x3) rfl (qp (AI (w64 (x3 + 1))) rfl (qp (AI (w64 (x3 + 1))) rfl (r_nil (thenQ_n ?_))))))))
   refine ar (l' := [(K3a v0), (3, AI (w64 (x3 + 1)))]) (L := []) [0, 3] [] 1 ⟨_, by rfl, hF⟩
  refine qn8 (qn2 (qg (AB false) rfl rfl (qp (AB false) rfl (r_nil (w_false rfl (w_skip (blockQ_n (thenQ_n (w_reg 2881 3073 rfl rfl ?_)))))))))
  refine qp (AI x3) rfl (qp (AI (w64 (x3 + 1))) rfl (qp (AI (w64 (x3 + 1))) rfl (r_nil (thenQ_n ?_))))
  refine ar (l' := [(K3a v0), (3, AI (w64 (x3 + 1)))]) (L := []) [0, 3] [] 1 ⟨_, by rfl, hF⟩
 refine w_exit (thenQ_e (thenQ_e (blockQ_e (thenQ_n (ws 449 1665 (qp (K37 v0) rfl (qp (K37 v0) rfl (qp (K39 v0) rfl (qp (K3b v0) rfl (bk hF fun u13 e13 hF => ?_))))))))))
 refine qp (.val none (.ptr [.int .i64 u13.1, .int .i64 u13.2])) (ev_iad_n rfl rfl e13 rfl) (qp (.val none (.ptr [.int .i64 u13.1, .int .i64 u13.2])) rfl (qp (AI u13.1) rfl (qp (AB (decide (u13.1 = (1 : Int)))) rfl (qp (AB (decide (u13.1 = (1 : Int)))) rfl (q_case 73 hF rfl (fun hF => qg (K37 v0) rfl rfl (qg (K37 v0) rfl rfl (qg (K39 v0) rfl rfl (qg (K3b v0) rfl rfl (bk hF fun u14 e14 hF => qg (.val none (.ptr [.int .i64 u14.1, .int .i64 u14.2])) rfl (ev_iad_n rfl rfl e14 rfl) (qg (.val none (.ptr [.int .i64 u14.2])) rfl rfl (qg (AI u14.2) rfl rfl (qg (AB (decide (u14.2 = (1 : Int)))) rfl rfl (qp (AB (decide (u14.2 = (1 : Int)))) rfl (qp (AB (decide (u14.2 = (1 : Int)))) rfl (rR hF))))))))))) fun hF => ?_)))))
 exact qn8 (qp (AB false) rfl (qp (AB false) rfl (rR hF)))

def c139 : MC := (sr [pT 2 (.mv cf)] (.seq (sr [pT 3 (.mv (ci 0))] (.block 0 (.loop (.seq (sr [mvt 4 3, mvt 5 0, zT 6 5, bT 7 .lss t4 t6] (cx t7 0)) (.seq (.block 1 (sr [mvt 10 0, mvt 11 3, iT 12 10 11 1, lT 13 12, dT 14 100 [t13], pT 15 (.not t14)] (.cond t15 (sr [pT 2 (.mv cf)] .ret) .skip))) (.reg [mvt 8 3, bT 9 .add t8 (ci 1), mvt 3 9])))))) (sr [mvt 16 0, zT 17 16, bT 18 .leq t17 (ci 64), mvt 2 18] .ret)))
theorem c139_ : IsF Tryz.prog 139 c139 [(.tmp 2)] := ⟨by kernel_rfl, by kernel_rfl⟩

def F_spec_l05Pitches_l0 (v0 : List Int) (k0 : Int → Option (Bool)) : Int → Option (Bool)
 | x1 => (bif (decide (x1 < (v0.length : Int))) then ((ix v0 x1).bind fun u0 => ((F_spec_l03Pitch u0).bind fun u1 => (bif (!u1) then some false
 else k0 (w64 (x1 + 1)))))
 else some (decide ((v0.length : Int) ≤ (64 : Int))))
def F_spec_l05Pitches (v0 : List Int) : Option (Bool) :=
 loop (F_spec_l05Pitches_l0 v0) 0
@[simp] abbrev K3c (v0 : List Int) : V := .sl 1 (v0.map vI)
@[simp] def res_spec_l05Pitches (r : Bool) : RV := .one (.one (.val (.bool r)))
theorem con_spec_l05Pitches {v0 : List Int} {r : Bool} (hF : F_spec_l05Pitches v0 = some r) : Con Tryz.prog 139 [.sl 1 (v0.map vI)] (res_spec_l05Pitches r) := by
 unfold F_spec_l05Pitches at hF
 refine con_of c139_.1 fun N => ?_
 refine ws 0 64 (qp (AB false) rfl (r_nil (w_seq (ws 64 128 (qp (AI 0) rfl (r_nil (w_block ?_)))))))
 refine wr (l' := [(0, .val none (K3c v0)), (3, AI 0)]) (L := []) [0, 3] [] 1 ?_
 refine w_loopF (F_spec_l05Pitches_l0 v0) (fun s : Int => mkS [(0, .val none (K3c v0)), (3, AI s)] (fo []) 1) hF ?_
 rintro k0 x1 hF
 rw [F_spec_l05Pitches_l0] at hF
 try dsimp only
 refine w_seq (ws 1 257 (qp (AI x1) rfl (qp (.val none (K3c v0)) rfl (qp (AI (v0.length : Int)) (ev_len_n rfl) (qp (AB (decide (x1 < (v0.length : Int)))) rfl (r_nil ?_))))))
 refine cF hF (fun hF => ?_) fun hF => ?_
 ·
  refine w_skip (thenQ_n (w_seq (w_block (ws 257 641 (qp (.val none (K3c v0)) rfl (qp (AI x1) rfl (bk hF fun u0 e0 hF => qp (.val none (.ptr [.int .i64 u0])) (ev_iad_n rfl rfl e0 rfl) (qp (AI u0) rfl (bk hF fun u1 e1 hF => qC (AB u1) [] (con_spec_l03Pitch e1) c100_ (qp (AB (!u1)) rfl (r_nil ?_)))))))))))
  refine cF hF (fun hF => ws 641 705 (qp (AB false) rfl (r_nil (w_ret (blockQ_r (thenQ_r (thenQ_r (blockQ_r (thenQ_r (eQ hF)))))))))) fun hF => ?_
  refine w_skip (blockQ_n (thenQ_n (w_reg 641 833 rfl rfl (qp (AI x1) rfl (qp (AI (w64 (x1 + 1))) rfl (qp (AI (w64 (x1 + 1))) rfl (r_nil (thenQ_n ?_))))))))
  refine ar (l' := [(0, .val none (K3c v0)), (3, AI (w64 (x1 + 1)))]) (L := []) [0, 3] [] 1 ⟨_, by rfl, hF⟩
 exact w_exit (thenQ_e (thenQ_e (blockQ_e (thenQ_n (ws 257 513 (qp (.val none (K3c v0)) rfl (qp (AI (v0.length : Int)) (ev_len_n rfl) (qp (AB (decide ((v0.length : Int) ≤ (64 : Int)))) rfl (qp (AB (decide ((v0.length : Int) ≤ (64 : Int)))) rfl (rR hF))))))))))

def c104 : MC := (sr [pT 2 (.mv cf)] (sr [mvt 3 0, dT 4 139 [t3], mvt 5 4, nT 6 5 t0, kT 7 5 (.len t6), kT 8 5 (.bin .geq t7 (ci 2)), pT 9 (.pick t5 t8 cf), mvt 10 9, nT 11 10 t0, kT 12 10 (.len t11), kT 13 10 (.bin .leq t12 (ci 8)), pT 14 (.pick t10 t13 cf), mvt 2 14] .ret))
theorem c104_ : IsF Tryz.prog 104 c104 [(.tmp 2)] := ⟨by kernel_rfl, by kernel_rfl⟩

def F_spec_l06Phrase (v0 : List Int) : Option (Bool) :=
 ((F_spec_l05Pitches v0).bind fun u0 => (bif u0 then (bif (decide ((2 : Int) ≤ (v0.length : Int))) then some (decide ((v0.length : Int) ≤ (8 : Int)))
 else some false)
 else some false))
@[simp] def res_spec_l06Phrase (r : Bool) : RV := .one (.one (.val (.bool r)))
theorem con_spec_l06Phrase {v0 : List Int} {r : Bool} (hF : F_spec_l06Phrase v0 = some r) : Con Tryz.prog 104 [.sl 1 (v0.map vI)] (res_spec_l06Phrase r) := by
 unfold F_spec_l06Phrase at hF
 refine con_of c104_.1 fun N => ?_
 refine ws 0 64 (qp (AB false) rfl (r_nil (ws 64 896 (qp (AL 1 (v0.map vI)) rfl (bk hF fun u0 e0 hF => qC (AB u0) [] (con_spec_l05Pitches e0) c139_ (qp (AB u0) rfl ?_))))))
 refine q_case 5 hF rfl (fun hF => ?_) (fun hF => ?_)
 ·
  refine qg (AL 1 (v0.map vI)) rfl rfl (qg (AI (v0.length : Int)) rfl (ev_len_n rfl) (qg (AB (decide ((2 : Int) ≤ (v0.length : Int)))) rfl rfl (qp (AB (decide ((2 : Int) ≤ (v0.length : Int)))) rfl (qp (AB (decide ((2 : Int) ≤ (v0.length : Int)))) rfl (q_case 10 hF rfl (fun hF => qg (AL 1 (v0.map vI)) rfl rfl (qg (AI (v0.length : Int)) rfl (ev_len_n rfl) (qg (AB (decide ((v0.length : Int) ≤ (8 : Int)))) rfl rfl (qp (AB (decide ((v0.length : Int) ≤ (8 : Int)))) rfl (qp (AB (decide ((v0.length : Int) ≤ (8 : Int)))) rfl (rR hF)))))) fun hF => ?_)))))
  exact qn3 (qp (AB false) rfl (qp (AB false) rfl (rR hF)))
 exact qn3 (qp (AB false) rfl (qp (AB false) rfl (qn3 (qp (AB false) rfl (qp (AB false) rfl (rR hF))))))

end Go.Ab
