/- Walks (printed by auto.py, a program of this session's own). -/
import Derived.Test.YtnideigmfhhedaaGreatDoorU1
import Derived.Test.YtnideigmfhhedaaGreatDoorProg
import Derived.KernelRfl
import Derived.Test.YtnideigmfhhedaaGreatDoorSQ
set_option linter.unusedVariables false
set_option linter.unusedSimpArgs false
set_option maxRecDepth 8000
set_option maxHeartbeats 8000000
noncomputable section
namespace Go.Ab
open Go.RowKit Go.Proofs

def c5 : MC := (sr [rg 0 (.f (.alloc [((.str []), (0, false)), ((.sl 0 []), (1, false)), ((.sl 0 []), (1, false)), ((.int .i64 0), (0, false)), ((.int .i64 0), (0, false)), ((.sl 0 []), (1, false)), ((.sl 0 []), (2, false)), ((.str []), (0, false)), ((.sl 0 []), (2, false)), ((.sl 0 []), (1, false)), ((.sl 0 []), (3, false)), ((.sl 0 []), (2, false)), ((.sl 0 []), (6, false)), ((.sl 0 []), (5, false)), ((.sl 0 []), (3, false))]))] (sr [rg 4 (.call true 10 [(.c (.str [98, 104, 117, 112, 97, 108, 105, 32, 83, 82, 71, 80, 68, 32, 83, 82, 71, 80, 68, 32, 71, 68]))]), mvt 3 4, pT 5 (.ext t3 0), pT 6 (.ext t3 1), rg 1 (.f (.alloc [((.str []), (0, false)), ((.sl 0 []), (1, false)), ((.sl 0 []), (1, false)), ((.int .i64 0), (0, false)), ((.int .i64 0), (0, false)), ((.sl 0 []), (1, false))])), ⟨none, none, (.f (.st t1 t5 6))⟩, mvt 2 6] (sr [pF 7 (.ld t1 6 true), dF 8 11 [], rg 9 (.f (.bld [((.int .i64 0), (0, true)), ((.int .i64 0), (0, true))] [(0, (1, (ci 0))), (1, (1, (ci 60)))])), rg 10 (.f (.bslp 2 [t9])), rg 11 (.f (.bld [((.str []), (0, true)), ((.sl 0 []), (1, true)), ((.sl 0 []), (1, true)), ((.int .i64 0), (0, true)), ((.int .i64 0), (0, true)), ((.sl 0 []), (1, true)), ((.sl 0 []), (2, false)), ((.str []), (0, true)), ((.sl 0 []), (2, true)), ((.sl 0 []), (1, false)), ((.sl 0 []), (3, false)), ((.sl 0 []), (2, true)), ((.sl 0 []), (6, false)), ((.sl 0 []), (5, false)), ((.sl 0 []), (3, false))] [(0, (6, t7)), (7, (2, t8)), (11, (1, t10))])), ⟨none, none, (.f (.st t0 t11 15))⟩] .ret)))
theorem c5_ : IsF Tryz.prog 5 c5 [(.cell (.ld (.t 0) 15 true))] := ⟨by kernel_rfl, by kernel_rfl⟩

def F_impl_NewDesk : Option (TDesk) :=
 ((F_impl_ReadRaga [98, 104, 117, 112, 97, 108, 105, 32, 83, 82, 71, 80, 68, 32, 83, 82, 71, 80, 68, 32, 71, 68]).bind fun u0 => ((F_impl_JustTuning).bind fun u1 => some (u0.1.1, u0.1.2.1, u0.1.2.2.1, u0.1.2.2.2.1, u0.1.2.2.2.2.1, u0.1.2.2.2.2.2, [], u1.1, u1.2, [], [], ([(0, 60)] : List TNote), [], [], [])))
@[simp] abbrev K3e : List (Nat × Root) := [(0, .box [AS [], .sl 1 0 0, .sl 2 0 0, AI 0, AI 0, .sl 3 0 0, .sl 4 0 0, AS [], .sl 5 0 0, .sl 6 0 0, .sl 7 0 0, .sl 8 0 0, .sl 9 0 0, .sl 10 0 0, .sl 11 0 0]), (11, .row true 3 (([] : List Int).map vI)), (10, .row true 5 (([] : List Int).map vI)), (9, .row true 6 (([] : List Int).map vI)), (8, .row true 2 (([] : List Int).map vI)), (7, .row true 3 (([] : List Int).map vI)), (6, .row true 1 (([] : List Int).map vI)), (5, .row true 2 (([] : List Int).map vI)), (4, .row true 2 (([] : List Int).map vI)), (3, .row true 1 (([] : List Int).map vI)), (2, .row true 1 (([] : List Int).map vI)), (1, .row true 1 (([] : List Int).map vI))]
@[simp] abbrev K3f (u0 : TRaga × Bool) : List (Nat × Root) := ((69, .row true 1 (u0.1.2.2.2.2.2.map (eL 1 vI))) :: (66, .row true 1 (u0.1.2.2.1.map vI)) :: (65, .row true 1 (u0.1.2.1.map vI)) :: K3e)
@[simp] abbrev K3g (u0 : TRaga × Bool) : List (Nat × Root) := ((320, .box [AS [], .sl 321 0 0, .sl 322 0 0, AI 0, AI 0, .sl 323 0 0]) :: (323, .row true 1 (([] : List Int).map vI)) :: (322, .row true 1 (([] : List Int).map vI)) :: (321, .row true 1 (([] : List Int).map vI)) :: (K3f u0))
@[simp] abbrev K3l (u0 : TRaga × Bool) : List AV := [AS u0.1.1, .sl 65 0 u0.1.2.1.length, .sl 66 0 u0.1.2.2.1.length, AI u0.1.2.2.2.1, AI u0.1.2.2.2.2.1, .sl 69 0 u0.1.2.2.2.2.2.length]
@[simp] abbrev K3h (u0 : TRaga × Bool) : List (Nat × Root) := ((320, .box (K3l u0)) :: (K3g u0))
@[simp] abbrev K3i (u1 : TTuning) (u0 : TRaga × Bool) : List (Nat × Root) := ((577, .row true 2 (u1.2.map eNote)) :: (K3h u0))
@[simp] abbrev K3j (u1 : TTuning) (u0 : TRaga × Bool) : List (Nat × Root) := ((704, .row true 2 (([(0, 60)] : List TNote).map eNote)) :: (K3i u1 u0))
@[simp] abbrev K3k (u1 : TTuning) (u0 : TRaga × Bool) : List (Nat × Root) := ((773, .row true 3 (([] : List TPerson).map ePerson)) :: (772, .row true 5 (([] : List TLesson).map eLesson)) :: (771, .row true 6 (([] : List TItem).map eItem)) :: (770, .row true 3 (([] : List TSyllable).map eSyllable)) :: (769, .row true 1 (([] : List (List Int)).map (eL 1 vI))) :: (768, .row true 2 (([] : List TNote).map eNote)) :: (K3j u1 u0))
@[simp] abbrev K3m (u0 : TRaga × Bool) (u1 : TTuning) : List AV := [AS u0.1.1, .sl 65 0 u0.1.2.1.length, .sl 66 0 u0.1.2.2.1.length, AI u0.1.2.2.2.1, AI u0.1.2.2.2.2.1, .sl 69 0 u0.1.2.2.2.2.2.length, .sl 768 0 0, AS u1.1, .sl 577 0 u1.2.length, .sl 769 0 0, .sl 770 0 0, .sl 704 0 (([(0, 60)] : List TNote).length), .sl 771 0 0, .sl 772 0 0, .sl 773 0 0]
@[simp] def res_impl_NewDesk (r : TDesk) : RV := .one (.agg [.val (.str r.1), .row true 1 (r.2.1.map vI), .row true 1 (r.2.2.1.map vI), .val (.int .i64 r.2.2.2.1), .val (.int .i64 r.2.2.2.2.1), .row true 1 (r.2.2.2.2.2.1.map (eL 1 vI)), .row true 2 (r.2.2.2.2.2.2.1.map eNote), .val (.str r.2.2.2.2.2.2.2.1), .row true 2 (r.2.2.2.2.2.2.2.2.1.map eNote), .row true 1 (r.2.2.2.2.2.2.2.2.2.1.map (eL 1 vI)), .row true 3 (r.2.2.2.2.2.2.2.2.2.2.1.map eSyllable), .row true 2 (r.2.2.2.2.2.2.2.2.2.2.2.1.map eNote), .row true 6 (r.2.2.2.2.2.2.2.2.2.2.2.2.1.map eItem), .row true 5 (r.2.2.2.2.2.2.2.2.2.2.2.2.2.1.map eLesson), .row true 3 (r.2.2.2.2.2.2.2.2.2.2.2.2.2.2.map ePerson)])
theorem con_impl_NewDesk {r : TDesk} (hF : F_impl_NewDesk = some r) : Con Tryz.prog 5 [] (res_impl_NewDesk r) := by
 unfold F_impl_NewDesk at hF
 refine con_of c5_.1 fun N => ?_
 refine ws 0 64 (qf (.ptr 0 0 0) K3e (by simp) (r_nil (ws 64 512 (bk hF fun u0 e0 hF => qc (.tup [.agg (K3l u0), AB u0.2]) (K3f u0) false (con_impl_ReadRaga e0) c10_.2 (by first | rfl | simp) (by simp [res_impl_ReadRaga]) (qr (.tup [.agg (K3l u0), AB u0.2]) (qr (.agg (K3l u0)) (qr (AB u0.2) (qf (.ptr 320 0 0) (K3g u0) (by simp) (qf0 (.undef) (K3h u0) (by simp) (qr (AB u0.2) (r_nil (ws 512 896 (qr (.agg (K3l u0)) (bk hF fun u1 e1 hF => qc (.agg [AS u1.1, .sl 577 0 u1.2.length]) (K3i u1 u0) false (con_impl_JustTuning e1) c11_.2 (by first | rfl | simp) (by simp [res_impl_JustTuning]) (qf (.agg [AI 0, AI 60]) (K3i u1 u0) (by simp) ?_)))))))))))))))
 exact qf (.sl 704 0 (([(0, 60)] : List TNote).length)) (K3j u1 u0) (by simp [List.take_of_length_le]) (qf (.agg (K3m u0 u1)) (K3k u1 u0) (by simp) (qf0 (.undef) ((0, .box (K3m u0 u1)) :: (K3k u1 u0)) (by simp) (rR hF)))

def c46 : MC := (sr [pT 4 (.mv cf)] (.seq (sr [mvt 6 0, zT 7 6, mvt 8 1, zT 9 8, bT 10 .neq t7 t9] (.cond t10 (sr [pT 4 (.mv cf)] .ret) .skip)) (.seq (sr [pT 5 (.mv (ci 0))] (.block 0 (.loop (.seq (sr [mvt 11 5, mvt 12 0, zT 13 12, bT 14 .lss t11 t13] (cx t14 0)) (.seq (.block 1 (sr [mP 17 t0, mP 18 t5, iF 19 17 18 1, lF 20 19, mP 21 t1, mP 22 t5, iF 23 21 22 1, lF 24 23, bF 25 .neq t20 t24] (.cond t25 (sr [pT 4 (.mv cf)] .ret) .skip))) (.reg [mvt 15 5, bT 16 .add t15 (ci 1), mvt 5 16])))))) (sr [pT 4 (.mv ct)] .ret))))
theorem c46_ : IsF Tryz.prog 46 c46 [(.tmp 4)] := ⟨by kernel_rfl, by kernel_rfl⟩

def F_laws_eqInt64S_l0 (v0 : List Int) (v1 : List Int) (k0 : Int → Option (Bool)) : Int → Option (Bool)
 | x1 => (bif (decide (x1 < (v0.length : Int))) then ((ix v0 x1).bind fun u0 => ((ix v1 x1).bind fun u1 => (bif (decide (u0 ≠ u1)) then some false
 else k0 (w64 (x1 + 1)))))
 else some true)
def F_laws_eqInt64S (v0 : List Int) (v1 : List Int) : Option (Bool) :=
 (bif (decide ((v0.length : Int) ≠ (v1.length : Int))) then some false
 else loop (F_laws_eqInt64S_l0 v0 v1) 0)
@[simp] abbrev K3n (v0 : List Int) : V := .sl 1 (v0.map vI)
@[simp] def res_laws_eqInt64S (r : Bool) : RV := .one (.one (.val (.bool r)))
theorem con_laws_eqInt64S {v0 : List Int} {v1 : List Int} {r : Bool} (hF : F_laws_eqInt64S v0 v1 = some r) : Con Tryz.prog 46 [.sl 1 (v0.map vI), .sl 1 (v1.map vI)] (res_laws_eqInt64S r) := by
 unfold F_laws_eqInt64S at hF
 refine con_of c46_.1 fun N => ?_
 refine ws 0 64 (qb (r_nil (w_seq (ws 64 384 (qr (.val none (K3n v0)) (qp (AI (v0.length : Int)) (ev_len_n rfl) (qr (AL 1 (v1.map vI)) (qp (AI (v1.length : Int)) (ev_len_n rfl) (qr (AB (decide ((v0.length : Int) ≠ (v1.length : Int)))) (r_nil ?_))))))))))
 refine cF hF (fun hF => ws 384 448 (qb (r_nil (w_ret (thenQ_r (eQ hF)))))) fun hF => w_skip (thenQ_n (w_seq (ws 384 448 (qr (AI 0) (r_nil (w_block ?_))))))
 refine wr (l' := [(0, .val none (K3n v0)), (1, AL 1 (v1.map vI)), (5, AI 0)]) (L := []) [0, 1, 5] [] 1 ?_
 refine w_loopF (F_laws_eqInt64S_l0 v0 v1) (fun s : Int => mkS [(0, .val none (K3n v0)), (1, AL 1 (v1.map vI)), (5, AI s)] (fo []) 1) hF ?_
 rintro k0 x1 hF
 rw [F_laws_eqInt64S_l0] at hF
 try dsimp only
 refine w_seq (ws 1 257 (qr (AI x1) (qr (.val none (K3n v0)) (qp (AI (v0.length : Int)) (ev_len_n rfl) (qr (AB (decide (x1 < (v0.length : Int)))) (r_nil ?_))))))
 refine cF hF (fun hF => ?_) fun hF => ?_
 ·
  refine w_skip (thenQ_n (w_seq (w_block (ws 257 833 (qr (.val none (K3n v0)) (qr (AI x1) (bk hF fun u0 e0 hF => qp (.val none (.ptr [.int .i64 u0])) (ev_iad_n rfl rfl e0 rfl) (qr (AI u0) (qr (AL 1 (v1.map vI)) (qr (AI x1) (bk hF fun u1 e1 hF => qp (.val none (.ptr [.int .i64 u1])) (ev_iad_n rfl rfl e1 rfl) (qr (AI u1) (qr (AB (decide (u0 ≠ u1))) (r_nil ?_))))))))))))))
  refine cF hF (fun hF => ws 833 897 (qb (r_nil (w_ret (blockQ_r (thenQ_r (thenQ_r (blockQ_r (thenQ_r (eQ hF)))))))))) fun hF => ?_
  refine w_skip (blockQ_n (thenQ_n (w_reg 833 1025 rfl rfl (qr (AI x1) (qr (AI (w64 (x1 + 1))) (qr (AI (w64 (x1 + 1))) (r_nil (thenQ_n ?_))))))))
  refine ar (l' := [(0, .val none (K3n v0)), (1, AL 1 (v1.map vI)), (5, AI (w64 (x1 + 1)))]) (L := []) [0, 1, 5] [] 1 ⟨_, by rfl, hF⟩
 exact w_exit (thenQ_e (thenQ_e (blockQ_e (thenQ_n (ws 257 321 (qt (rR hF)))))))

def c15 : MC := (sr [pT 4 (.mv cf)] (.seq (sr [mvt 6 0, zT 7 6, mvt 8 1, zT 9 8, bT 10 .neq t7 t9] (.cond t10 (sr [pT 4 (.mv cf)] .ret) .skip)) (.seq (sr [pT 5 (.mv (ci 0))] (.block 0 (.loop (.seq (sr [mvt 11 5, mvt 12 0, zT 13 12, bT 14 .lss t11 t13] (cx t14 0)) (.seq (.block 1 (sr [mP 17 t0, mP 18 t5, iF 19 17 18 1, lF 20 19, mP 21 t1, mP 22 t5, iF 23 21 22 1, lF 24 23, dF 25 46 [t20, t24], pF 26 (.not t25)] (.cond t26 (sr [pT 4 (.mv cf)] .ret) .skip))) (.reg [mvt 15 5, bT 16 .add t15 (ci 1), mvt 5 16])))))) (sr [pT 4 (.mv ct)] .ret))))
theorem c15_ : IsF Tryz.prog 15 c15 [(.tmp 4)] := ⟨by kernel_rfl, by kernel_rfl⟩

def F_laws_eqInt64SS_l0 (v0 : List (List Int)) (v1 : List (List Int)) (k0 : Int → Option (Bool)) : Int → Option (Bool)
 | x1 => (bif (decide (x1 < (v0.length : Int))) then ((ix v0 x1).bind fun u0 => ((ix v1 x1).bind fun u1 => ((F_laws_eqInt64S u0 u1).bind fun u2 => (bif (!u2) then some false
 else k0 (w64 (x1 + 1))))))
 else some true)
def F_laws_eqInt64SS (v0 : List (List Int)) (v1 : List (List Int)) : Option (Bool) :=
 (bif (decide ((v0.length : Int) ≠ (v1.length : Int))) then some false
 else loop (F_laws_eqInt64SS_l0 v0 v1) 0)
@[simp] abbrev K3o (v0 : List (List Int)) : V := .sl 1 (v0.map (eL 1 vI))
@[simp] abbrev K3p (v1 : List (List Int)) : V := .sl 1 (v1.map (eL 1 vI))
@[simp] def res_laws_eqInt64SS (r : Bool) : RV := .one (.one (.val (.bool r)))
theorem con_laws_eqInt64SS {v0 : List (List Int)} {v1 : List (List Int)} {r : Bool} (hF : F_laws_eqInt64SS v0 v1 = some r) : Con Tryz.prog 15 [.sl 1 (v0.map (eL 1 vI)), .sl 1 (v1.map (eL 1 vI))] (res_laws_eqInt64SS r) := by
 unfold F_laws_eqInt64SS at hF
 refine con_of c15_.1 fun N => ?_
 refine ws 0 64 (qb (r_nil (w_seq (ws 64 384 (qr (.val none (K3o v0)) (qp (AI (v0.length : Int)) (ev_len_n rfl) (qr (.val none (K3p v1)) (qp (AI (v1.length : Int)) (ev_len_n rfl) (qr (AB (decide ((v0.length : Int) ≠ (v1.length : Int)))) (r_nil ?_))))))))))
 refine cF hF (fun hF => ws 384 448 (qb (r_nil (w_ret (thenQ_r (eQ hF)))))) fun hF => w_skip (thenQ_n (w_seq (ws 384 448 (qr (AI 0) (r_nil (w_block ?_))))))
 refine wr (l' := [(0, .val none (K3o v0)), (1, .val none (K3p v1)), (5, AI 0)]) (L := []) [0, 1, 5] [] 1 ?_
 refine w_loopF (F_laws_eqInt64SS_l0 v0 v1) (fun s : Int => mkS [(0, .val none (K3o v0)), (1, .val none (K3p v1)), (5, AI s)] (fo []) 1) hF ?_
 rintro k0 x1 hF
 rw [F_laws_eqInt64SS_l0] at hF
 try dsimp only
 refine w_seq (ws 1 257 (qr (AI x1) (qr (.val none (K3o v0)) (qp (AI (v0.length : Int)) (ev_len_n rfl) (qr (AB (decide (x1 < (v0.length : Int)))) (r_nil ?_))))))
 refine cF hF (fun hF => ?_) fun hF => ?_
 ·
  refine w_skip (thenQ_n (w_seq (w_block (ws 257 897 (qr (.val none (K3o v0)) (qr (AI x1) (bk hF fun u0 e0 hF => qp (.val none (.ptr [.sl 1 (u0.map vI)])) (ev_iad_n rfl rfl e0 rfl) (qr (AL 1 (u0.map vI)) (qr (.val none (K3p v1)) (qr (AI x1) (bk hF fun u1 e1 hF => qp (.val none (.ptr [.sl 1 (u1.map vI)])) (ev_iad_n rfl rfl e1 rfl) (qr (AL 1 (u1.map vI)) (bk hF fun u2 e2 hF => qC (AB u2) [] (con_laws_eqInt64S e2) c46_ (qr (AB (!u2)) (r_nil ?_)))))))))))))))
  refine cF hF (fun hF => ws 897 961 (qb (r_nil (w_ret (blockQ_r (thenQ_r (thenQ_r (blockQ_r (thenQ_r (eQ hF)))))))))) fun hF => ?_
  refine w_skip (blockQ_n (thenQ_n (w_reg 897 1089 rfl rfl (qr (AI x1) (qr (AI (w64 (x1 + 1))) (qr (AI (w64 (x1 + 1))) (r_nil (thenQ_n ?_))))))))
  refine ar (l' := [(0, .val none (K3o v0)), (1, .val none (K3p v1)), (5, AI (w64 (x1 + 1)))]) (L := []) [0, 1, 5] [] 1 ⟨_, by rfl, hF⟩
 exact w_exit (thenQ_e (thenQ_e (blockQ_e (thenQ_n (ws 257 321 (qt (rR hF)))))))

def c12 : MC := (sr [rg 2 (.f (.box t0)), rg 3 (.f (.box t1)), pT 4 (.mv cf)] (.seq (sr [pT 5 (.fad t2 0), lT 6 5, pT 7 (.fad t3 0), lT 8 7, bT 9 .neq t6 t8] (.cond t9 (sr [pT 4 (.mv cf)] .ret) .skip)) (.seq (sr [pT 10 (.fad t2 1), lT 11 10, pT 12 (.fad t3 1), lT 13 12, dT 14 46 [t11, t13], pT 15 (.not t14)] (.cond t15 (sr [pT 4 (.mv cf)] .ret) .skip)) (.seq (sr [pT 16 (.fad t2 2), lT 17 16, pT 18 (.fad t3 2), lT 19 18, dT 20 46 [t17, t19], pT 21 (.not t20)] (.cond t21 (sr [pT 4 (.mv cf)] .ret) .skip)) (.seq (sr [pT 22 (.fad t2 3), lT 23 22, pT 24 (.fad t3 3), lT 25 24, bT 26 .neq t23 t25] (.cond t26 (sr [pT 4 (.mv cf)] .ret) .skip)) (.seq (sr [pT 27 (.fad t2 4), lT 28 27, pT 29 (.fad t3 4), lT 30 29, bT 31 .neq t28 t30] (.cond t31 (sr [pT 4 (.mv cf)] .ret) .skip)) (.seq (sr [pT 32 (.fad t2 5), lT 33 32, pT 34 (.fad t3 5), lT 35 34, dT 36 15 [t33, t35], pT 37 (.not t36)] (.cond t37 (sr [pT 4 (.mv cf)] .ret) .skip)) (sr [pT 4 (.mv ct)] .ret))))))))
theorem c12_ : IsF Tryz.prog 12 c12 [(.tmp 4)] := ⟨by kernel_rfl, by kernel_rfl⟩

def F_laws_eqRaga (v0 : TRaga) (v1 : TRaga) : Option (Bool) :=
 (bif (decide (v0.1 ≠ v1.1)) then some false
 else ((F_laws_eqInt64S v0.2.1 v1.2.1).bind fun u0 => (bif (!u0) then some false
 else ((F_laws_eqInt64S v0.2.2.1 v1.2.2.1).bind fun u1 => (bif (!u1) then some false
 else (bif (decide (v0.2.2.2.1 ≠ v1.2.2.2.1)) then some false
 else (bif (decide (v0.2.2.2.2.1 ≠ v1.2.2.2.2.1)) then some false
 else ((F_laws_eqInt64SS v0.2.2.2.2.2 v1.2.2.2.2.2).bind fun u2 => (bif (!u2) then some false
 else some true)))))))))
@[simp] abbrev K3q (v0 : TRaga) : List (Nat × Root) := [(0, .box [AS v0.1, AL 1 (v0.2.1.map vI), AL 1 (v0.2.2.1.map vI), AI v0.2.2.2.1, AI v0.2.2.2.2.1, AL 1 (v0.2.2.2.2.2.map (eL 1 vI))])]
@[simp] abbrev K3r (v1 : TRaga) (v0 : TRaga) : List (Nat × Root) := ((64, .box [AS v1.1, AL 1 (v1.2.1.map vI), AL 1 (v1.2.2.1.map vI), AI v1.2.2.2.1, AI v1.2.2.2.2.1, AL 1 (v1.2.2.2.2.2.map (eL 1 vI))]) :: (K3q v0))
@[simp] def res_laws_eqRaga (r : Bool) : RV := .one (.one (.val (.bool r)))
theorem con_laws_eqRaga {v0 : TRaga} {v1 : TRaga} {r : Bool} (hF : F_laws_eqRaga v0 v1 = some r) : Con Tryz.prog 12 [eRaga v0, eRaga v1] (res_laws_eqRaga r) := by
 unfold F_laws_eqRaga at hF
 refine con_of c12_.1 fun N => ?_
 refine ws 0 192 (qf (.ptr 0 0 0) (K3q v0) (by simp) (qf (.ptr 64 0 0) (K3r v1 v0) (by simp) (qb (r_nil (w_seq (ws 192 512 (qr (.ptr 0 0 0) (qr (AS v0.1) (qr (.ptr 64 0 0) (qr (AS v1.1) (qr (AB (decide (v0.1 ≠ v1.1))) (r_nil ?_))))))))))))
 refine cF hF (fun hF => ws 512 576 (qb (r_nil (w_ret (thenQ_r (eQ hF)))))) fun hF => w_skip (thenQ_n (w_seq (ws 512 896 (qr (.ptr 0 0 1) (qr (AL 1 (v0.2.1.map vI)) (qr (.ptr 64 0 1) (qr (AL 1 (v1.2.1.map vI)) (bk hF fun u0 e0 hF => qC (AB u0) (K3r v1 v0) (con_laws_eqInt64S e0) c46_ (qr (AB (!u0)) (r_nil ?_))))))))))
 refine cF hF (fun hF => ws 896 960 (qb (r_nil (w_ret (thenQ_r (eQ hF)))))) fun hF => w_skip (thenQ_n (w_seq (ws 896 1280 (qr (.ptr 0 0 2) (qr (AL 1 (v0.2.2.1.map vI)) (qr (.ptr 64 0 2) (qr (AL 1 (v1.2.2.1.map vI)) (bk hF fun u1 e1 hF => qC (AB u1) (K3r v1 v0) (con_laws_eqInt64S e1) c46_ (qr (AB (!u1)) (r_nil ?_))))))))))
 refine cF hF (fun hF => ws 1280 1344 (qb (r_nil (w_ret (thenQ_r (eQ hF)))))) fun hF => w_skip (thenQ_n (w_seq (ws 1280 1600 (qr (.ptr 0 0 3) (qr (AI v0.2.2.2.1) (qr (.ptr 64 0 3) (qr (AI v1.2.2.2.1) (qr (AB (decide (v0.2.2.2.1 ≠ v1.2.2.2.1))) (r_nil ?_)))))))))
 refine cF hF (fun hF => ws 1600 1664 (qb (r_nil (w_ret (thenQ_r (eQ hF)))))) fun hF => w_skip (thenQ_n (w_seq (ws 1600 1920 (qr (.ptr 0 0 4) (qr (AI v0.2.2.2.2.1) (qr (.ptr 64 0 4) (qr (AI v1.2.2.2.2.1) (qr (AB (decide (v0.2.2.2.2.1 ≠ v1.2.2.2.2.1))) (r_nil ?_)))))))))
 refine cF hF (fun hF => ws 1920 1984 (qb (r_nil (w_ret (thenQ_r (eQ hF)))))) fun hF => w_skip (thenQ_n (w_seq (ws 1920 2304 (qr (.ptr 0 0 5) (qr (AL 1 (v0.2.2.2.2.2.map (eL 1 vI))) (qr (.ptr 64 0 5) (qr (AL 1 (v1.2.2.2.2.2.map (eL 1 vI))) (bk hF fun u2 e2 hF => qC (AB u2) (K3r v1 v0) (con_laws_eqInt64SS e2) c15_ (qr (AB (!u2)) (r_nil ?_))))))))))
 refine cF hF (fun hF => ws 2304 2368 (qb (r_nil (w_ret (thenQ_r (eQ hF)))))) fun hF => ?_
 exact w_skip (thenQ_n (ws 2304 2368 (qt (rR hF))))

def c47 : MC := (sr [rg 2 (.f (.box t0)), rg 3 (.f (.box t1)), pT 4 (.mv cf)] (.seq (sr [pT 5 (.fad t2 0), lT 6 5, pT 7 (.fad t3 0), lT 8 7, bT 9 .neq t6 t8] (.cond t9 (sr [pT 4 (.mv cf)] .ret) .skip)) (.seq (sr [pT 10 (.fad t2 1), lT 11 10, pT 12 (.fad t3 1), lT 13 12, bT 14 .neq t11 t13] (.cond t14 (sr [pT 4 (.mv cf)] .ret) .skip)) (sr [pT 4 (.mv ct)] .ret))))
theorem c47_ : IsF Tryz.prog 47 c47 [(.tmp 4)] := ⟨by kernel_rfl, by kernel_rfl⟩

def F_laws_eqNote (v0 : TNote) (v1 : TNote) : Option (Bool) :=
 (bif (decide (v0.1 ≠ v1.1)) then some false
 else (bif (decide (v0.2 ≠ v1.2)) then some false
 else some true))
@[simp] def res_laws_eqNote (r : Bool) : RV := .one (.one (.val (.bool r)))
theorem con_laws_eqNote {v0 : TNote} {v1 : TNote} {r : Bool} (hF : F_laws_eqNote v0 v1 = some r) : Con Tryz.prog 47 [eNote v0, eNote v1] (res_laws_eqNote r) := by
 unfold F_laws_eqNote at hF
 refine con_of c47_.1 fun N => ?_
 refine ws 0 192 (qf (.ptr 0 0 0) [(0, .box [AI v0.1, AI v0.2])] (by simp) (qf (.ptr 64 0 0) [(64, .box [AI v1.1, AI v1.2]), (0, .box [AI v0.1, AI v0.2])] (by simp) (qb (r_nil (w_seq (ws 192 512 (qr (.ptr 0 0 0) (qr (AI v0.1) (qr (.ptr 64 0 0) (qr (AI v1.1) (qr (AB (decide (v0.1 ≠ v1.1))) (r_nil ?_))))))))))))
 refine cF hF (fun hF => ws 512 576 (qb (r_nil (w_ret (thenQ_r (eQ hF)))))) fun hF => w_skip (thenQ_n (w_seq (ws 512 832 (qr (.ptr 0 0 1) (qr (AI v0.2) (qr (.ptr 64 0 1) (qr (AI v1.2) (qr (AB (decide (v0.2 ≠ v1.2))) (r_nil ?_)))))))))
 refine cF hF (fun hF => ws 832 896 (qb (r_nil (w_ret (thenQ_r (eQ hF)))))) fun hF => ?_
 exact w_skip (thenQ_n (ws 832 896 (qt (rR hF))))

def c13 : MC := (sr [pT 4 (.mv cf)] (.seq (sr [mvt 6 0, zT 7 6, mvt 8 1, zT 9 8, bT 10 .neq t7 t9] (.cond t10 (sr [pT 4 (.mv cf)] .ret) .skip)) (.seq (sr [pT 5 (.mv (ci 0))] (.block 0 (.loop (.seq (sr [mvt 11 5, mvt 12 0, zT 13 12, bT 14 .lss t11 t13] (cx t14 0)) (.seq (.block 1 (sr [mP 17 t0, mP 18 t5, iF 19 17 18 2, pF 20 (.ld t19 2 true), mP 21 t1, mP 22 t5, iF 23 21 22 2, pF 24 (.ld t23 2 true), dF 25 47 [t20, t24], pF 26 (.not t25)] (.cond t26 (sr [pT 4 (.mv cf)] .ret) .skip))) (.reg [mvt 15 5, bT 16 .add t15 (ci 1), mvt 5 16])))))) (sr [pT 4 (.mv ct)] .ret))))
theorem c13_ : IsF Tryz.prog 13 c13 [(.tmp 4)] := ⟨by kernel_rfl, by kernel_rfl⟩

def F_laws_eqNoteS_l0 (v0 : List TNote) (v1 : List TNote) (k0 : Int → Option (Bool)) : Int → Option (Bool)
 | x1 => (bif (decide (x1 < (v0.length : Int))) then ((ix v0 x1).bind fun u0 => ((ix v1 x1).bind fun u1 => ((F_laws_eqNote u0 u1).bind fun u2 => (bif (!u2) then some false
 else k0 (w64 (x1 + 1))))))
 else some true)
def F_laws_eqNoteS (v0 : List TNote) (v1 : List TNote) : Option (Bool) :=
 (bif (decide ((v0.length : Int) ≠ (v1.length : Int))) then some false
 else loop (F_laws_eqNoteS_l0 v0 v1) 0)
@[simp] def res_laws_eqNoteS (r : Bool) : RV := .one (.one (.val (.bool r)))
theorem con_laws_eqNoteS {v0 : List TNote} {v1 : List TNote} {r : Bool} (hF : F_laws_eqNoteS v0 v1 = some r) : Con Tryz.prog 13 [.sl 2 (v0.map eNote), .sl 2 (v1.map eNote)] (res_laws_eqNoteS r) := by
 unfold F_laws_eqNoteS at hF
 refine con_of c13_.1 fun N => ?_
 refine ws 0 64 (qb (r_nil (w_seq (ws 64 384 (qr (AL 2 (v0.map eNote)) (qp (AI (v0.length : Int)) (ev_len_n rfl) (qr (AL 2 (v1.map eNote)) (qp (AI (v1.length : Int)) (ev_len_n rfl) (qr (AB (decide ((v0.length : Int) ≠ (v1.length : Int)))) (r_nil ?_))))))))))
 refine cF hF (fun hF => ws 384 448 (qb (r_nil (w_ret (thenQ_r (eQ hF)))))) fun hF => w_skip (thenQ_n (w_seq (ws 384 448 (qr (AI 0) (r_nil (w_block ?_))))))
 refine wr (l' := [(0, AL 2 (v0.map eNote)), (1, AL 2 (v1.map eNote)), (5, AI 0)]) (L := []) [0, 1, 5] [] 1 ?_
 refine w_loopF (F_laws_eqNoteS_l0 v0 v1) (fun s : Int => mkS [(0, AL 2 (v0.map eNote)), (1, AL 2 (v1.map eNote)), (5, AI s)] (fo []) 1) hF ?_
 rintro k0 x1 hF
 rw [F_laws_eqNoteS_l0] at hF
 try dsimp only
 refine w_seq (ws 1 257 (qr (AI x1) (qr (AL 2 (v0.map eNote)) (qp (AI (v0.length : Int)) (ev_len_n rfl) (qr (AB (decide (x1 < (v0.length : Int)))) (r_nil ?_))))))
 refine cF hF (fun hF => ?_) fun hF => ?_
 ·
  refine w_skip (thenQ_n (w_seq (w_block (ws 257 897 (qr (AL 2 (v0.map eNote)) (qr (AI x1) (bk hF fun u0 e0 hF => qp (.val none (.ptr [.int .i64 u0.1, .int .i64 u0.2])) (ev_iad_n rfl rfl e0 rfl) (qr (.val none (eNote u0)) (qr (AL 2 (v1.map eNote)) (qr (AI x1) (bk hF fun u1 e1 hF => qp (.val none (.ptr [.int .i64 u1.1, .int .i64 u1.2])) (ev_iad_n rfl rfl e1 rfl) (qr (.val none (eNote u1)) (bk hF fun u2 e2 hF => qC (AB u2) [] (con_laws_eqNote e2) c47_ (qr (AB (!u2)) (r_nil ?_)))))))))))))))
  refine cF hF (fun hF => ws 897 961 (qb (r_nil (w_ret (blockQ_r (thenQ_r (thenQ_r (blockQ_r (thenQ_r (eQ hF)))))))))) fun hF => ?_
  refine w_skip (blockQ_n (thenQ_n (w_reg 897 1089 rfl rfl (qr (AI x1) (qr (AI (w64 (x1 + 1))) (qr (AI (w64 (x1 + 1))) (r_nil (thenQ_n ?_))))))))
  refine ar (l' := [(0, AL 2 (v0.map eNote)), (1, AL 2 (v1.map eNote)), (5, AI (w64 (x1 + 1)))]) (L := []) [0, 1, 5] [] 1 ⟨_, by rfl, hF⟩
 exact w_exit (thenQ_e (thenQ_e (blockQ_e (thenQ_n (ws 257 321 (qt (rR hF)))))))

def c71 : MC := (sr [rg 2 (.f (.box t0)), rg 3 (.f (.box t1)), pT 4 (.mv cf)] (.seq (sr [pT 5 (.fad t2 0), lT 6 5, pT 7 (.fad t3 0), lT 8 7, bT 9 .neq t6 t8] (.cond t9 (sr [pT 4 (.mv cf)] .ret) .skip)) (.seq (sr [pT 10 (.fad t2 1), lT 11 10, pT 12 (.fad t3 1), lT 13 12, bT 14 .neq t11 t13] (.cond t14 (sr [pT 4 (.mv cf)] .ret) .skip)) (sr [pT 4 (.mv ct)] .ret))))
theorem c71_ : IsF Tryz.prog 71 c71 [(.tmp 4)] := ⟨by kernel_rfl, by kernel_rfl⟩

def F_laws_eqRatio (v0 : TNote) (v1 : TNote) : Option (Bool) :=
 (bif (decide (v0.1 ≠ v1.1)) then some false
 else (bif (decide (v0.2 ≠ v1.2)) then some false
 else some true))
@[simp] def res_laws_eqRatio (r : Bool) : RV := .one (.one (.val (.bool r)))
theorem con_laws_eqRatio {v0 : TNote} {v1 : TNote} {r : Bool} (hF : F_laws_eqRatio v0 v1 = some r) : Con Tryz.prog 71 [eNote v0, eNote v1] (res_laws_eqRatio r) := by
 unfold F_laws_eqRatio at hF
 refine con_of c71_.1 fun N => ?_
 refine ws 0 192 (qf (.ptr 0 0 0) [(0, .box [AI v0.1, AI v0.2])] (by simp) (qf (.ptr 64 0 0) [(64, .box [AI v1.1, AI v1.2]), (0, .box [AI v0.1, AI v0.2])] (by simp) (qb (r_nil (w_seq (ws 192 512 (qr (.ptr 0 0 0) (qr (AI v0.1) (qr (.ptr 64 0 0) (qr (AI v1.1) (qr (AB (decide (v0.1 ≠ v1.1))) (r_nil ?_))))))))))))
 refine cF hF (fun hF => ws 512 576 (qb (r_nil (w_ret (thenQ_r (eQ hF)))))) fun hF => w_skip (thenQ_n (w_seq (ws 512 832 (qr (.ptr 0 0 1) (qr (AI v0.2) (qr (.ptr 64 0 1) (qr (AI v1.2) (qr (AB (decide (v0.2 ≠ v1.2))) (r_nil ?_)))))))))
 refine cF hF (fun hF => ws 832 896 (qb (r_nil (w_ret (thenQ_r (eQ hF)))))) fun hF => ?_
 exact w_skip (thenQ_n (ws 832 896 (qt (rR hF))))

def c48 : MC := (sr [pT 4 (.mv cf)] (.seq (sr [mvt 6 0, zT 7 6, mvt 8 1, zT 9 8, bT 10 .neq t7 t9] (.cond t10 (sr [pT 4 (.mv cf)] .ret) .skip)) (.seq (sr [pT 5 (.mv (ci 0))] (.block 0 (.loop (.seq (sr [mvt 11 5, mvt 12 0, zT 13 12, bT 14 .lss t11 t13] (cx t14 0)) (.seq (.block 1 (sr [mP 17 t0, mP 18 t5, iF 19 17 18 2, pF 20 (.ld t19 2 true), mP 21 t1, mP 22 t5, iF 23 21 22 2, pF 24 (.ld t23 2 true), dF 25 71 [t20, t24], pF 26 (.not t25)] (.cond t26 (sr [pT 4 (.mv cf)] .ret) .skip))) (.reg [mvt 15 5, bT 16 .add t15 (ci 1), mvt 5 16])))))) (sr [pT 4 (.mv ct)] .ret))))
theorem c48_ : IsF Tryz.prog 48 c48 [(.tmp 4)] := ⟨by kernel_rfl, by kernel_rfl⟩

def F_laws_eqRatioS_l0 (v0 : List TNote) (v1 : List TNote) (k0 : Int → Option (Bool)) : Int → Option (Bool)
 | x1 => (bif (decide (x1 < (v0.length : Int))) then ((ix v0 x1).bind fun u0 => ((ix v1 x1).bind fun u1 => ((F_laws_eqRatio u0 u1).bind fun u2 => (bif (!u2) then some false
 else k0 (w64 (x1 + 1))))))
 else some true)
def F_laws_eqRatioS (v0 : List TNote) (v1 : List TNote) : Option (Bool) :=
 (bif (decide ((v0.length : Int) ≠ (v1.length : Int))) then some false
 else loop (F_laws_eqRatioS_l0 v0 v1) 0)
@[simp] def res_laws_eqRatioS (r : Bool) : RV := .one (.one (.val (.bool r)))
theorem con_laws_eqRatioS {v0 : List TNote} {v1 : List TNote} {r : Bool} (hF : F_laws_eqRatioS v0 v1 = some r) : Con Tryz.prog 48 [.sl 2 (v0.map eNote), .sl 2 (v1.map eNote)] (res_laws_eqRatioS r) := by
 unfold F_laws_eqRatioS at hF
 refine con_of c48_.1 fun N => ?_
 refine ws 0 64 (qb (r_nil (w_seq (ws 64 384 (qr (AL 2 (v0.map eNote)) (qp (AI (v0.length : Int)) (ev_len_n rfl) (qr (AL 2 (v1.map eNote)) (qp (AI (v1.length : Int)) (ev_len_n rfl) (qr (AB (decide ((v0.length : Int) ≠ (v1.length : Int)))) (r_nil ?_))))))))))
 refine cF hF (fun hF => ws 384 448 (qb (r_nil (w_ret (thenQ_r (eQ hF)))))) fun hF => w_skip (thenQ_n (w_seq (ws 384 448 (qr (AI 0) (r_nil (w_block ?_))))))
 refine wr (l' := [(0, AL 2 (v0.map eNote)), (1, AL 2 (v1.map eNote)), (5, AI 0)]) (L := []) [0, 1, 5] [] 1 ?_
 refine w_loopF (F_laws_eqRatioS_l0 v0 v1) (fun s : Int => mkS [(0, AL 2 (v0.map eNote)), (1, AL 2 (v1.map eNote)), (5, AI s)] (fo []) 1) hF ?_
 rintro k0 x1 hF
 rw [F_laws_eqRatioS_l0] at hF
 try dsimp only
 refine w_seq (ws 1 257 (qr (AI x1) (qr (AL 2 (v0.map eNote)) (qp (AI (v0.length : Int)) (ev_len_n rfl) (qr (AB (decide (x1 < (v0.length : Int)))) (r_nil ?_))))))
 refine cF hF (fun hF => ?_) fun hF => ?_
 ·
  refine w_skip (thenQ_n (w_seq (w_block (ws 257 897 (qr (AL 2 (v0.map eNote)) (qr (AI x1) (bk hF fun u0 e0 hF => qp (.val none (.ptr [.int .i64 u0.1, .int .i64 u0.2])) (ev_iad_n rfl rfl e0 rfl) (qr (.val none (eNote u0)) (qr (AL 2 (v1.map eNote)) (qr (AI x1) (bk hF fun u1 e1 hF => qp (.val none (.ptr [.int .i64 u1.1, .int .i64 u1.2])) (ev_iad_n rfl rfl e1 rfl) (qr (.val none (eNote u1)) (bk hF fun u2 e2 hF => qC (AB u2) [] (con_laws_eqRatio e2) c71_ (qr (AB (!u2)) (r_nil ?_)))))))))))))))
  refine cF hF (fun hF => ws 897 961 (qb (r_nil (w_ret (blockQ_r (thenQ_r (thenQ_r (blockQ_r (thenQ_r (eQ hF)))))))))) fun hF => ?_
  refine w_skip (blockQ_n (thenQ_n (w_reg 897 1089 rfl rfl (qr (AI x1) (qr (AI (w64 (x1 + 1))) (qr (AI (w64 (x1 + 1))) (r_nil (thenQ_n ?_))))))))
  refine ar (l' := [(0, AL 2 (v0.map eNote)), (1, AL 2 (v1.map eNote)), (5, AI (w64 (x1 + 1)))]) (L := []) [0, 1, 5] [] 1 ⟨_, by rfl, hF⟩
 exact w_exit (thenQ_e (thenQ_e (blockQ_e (thenQ_n (ws 257 321 (qt (rR hF)))))))

def c14 : MC := (sr [rg 2 (.f (.box t0)), rg 3 (.f (.box t1)), pT 4 (.mv cf)] (.seq (sr [pT 5 (.fad t2 0), lT 6 5, pT 7 (.fad t3 0), lT 8 7, bT 9 .neq t6 t8] (.cond t9 (sr [pT 4 (.mv cf)] .ret) .skip)) (.seq (sr [pT 10 (.fad t2 1), lT 11 10, pT 12 (.fad t3 1), lT 13 12, dT 14 48 [t11, t13], pT 15 (.not t14)] (.cond t15 (sr [pT 4 (.mv cf)] .ret) .skip)) (sr [pT 4 (.mv ct)] .ret))))
theorem c14_ : IsF Tryz.prog 14 c14 [(.tmp 4)] := ⟨by kernel_rfl, by kernel_rfl⟩

def F_laws_eqTuning (v0 : TTuning) (v1 : TTuning) : Option (Bool) :=
 (bif (decide (v0.1 ≠ v1.1)) then some false
 else ((F_laws_eqRatioS v0.2 v1.2).bind fun u0 => (bif (!u0) then some false
 else some true)))
@[simp] abbrev K3s (v0 : TTuning) : List (Nat × Root) := [(0, .box [AS v0.1, AL 2 (v0.2.map eNote)])]
@[simp] abbrev K3t (v1 : TTuning) (v0 : TTuning) : List (Nat × Root) := ((64, .box [AS v1.1, AL 2 (v1.2.map eNote)]) :: (K3s v0))
@[simp] def res_laws_eqTuning (r : Bool) : RV := .one (.one (.val (.bool r)))
theorem con_laws_eqTuning {v0 : TTuning} {v1 : TTuning} {r : Bool} (hF : F_laws_eqTuning v0 v1 = some r) : Con Tryz.prog 14 [eTuning v0, eTuning v1] (res_laws_eqTuning r) := by
 unfold F_laws_eqTuning at hF
 refine con_of c14_.1 fun N => ?_
 refine ws 0 192 (qf (.ptr 0 0 0) (K3s v0) (by simp) (qf (.ptr 64 0 0) (K3t v1 v0) (by simp) (qb (r_nil (w_seq (ws 192 512 (qr (.ptr 0 0 0) (qr (AS v0.1) (qr (.ptr 64 0 0) (qr (AS v1.1) (qr (AB (decide (v0.1 ≠ v1.1))) (r_nil ?_))))))))))))
 refine cF hF (fun hF => ws 512 576 (qb (r_nil (w_ret (thenQ_r (eQ hF)))))) fun hF => w_skip (thenQ_n (w_seq (ws 512 896 (qr (.ptr 0 0 1) (qr (AL 2 (v0.2.map eNote)) (qr (.ptr 64 0 1) (qr (AL 2 (v1.2.map eNote)) (bk hF fun u0 e0 hF => qC (AB u0) (K3t v1 v0) (con_laws_eqRatioS e0) c48_ (qr (AB (!u0)) (r_nil ?_))))))))))
 refine cF hF (fun hF => ws 896 960 (qb (r_nil (w_ret (thenQ_r (eQ hF)))))) fun hF => ?_
 exact w_skip (thenQ_n (ws 896 960 (qt (rR hF))))

def c49 : MC := (sr [rg 2 (.f (.box t0)), rg 3 (.f (.box t1)), pT 4 (.mv cf)] (.seq (sr [pT 5 (.fad t2 0), lT 6 5, pT 7 (.fad t3 0), lT 8 7, bT 9 .neq t6 t8] (.cond t9 (sr [pT 4 (.mv cf)] .ret) .skip)) (.seq (sr [pT 10 (.fad t2 1), lT 11 10, pT 12 (.fad t3 1), lT 13 12, bT 14 .neq t11 t13] (.cond t14 (sr [pT 4 (.mv cf)] .ret) .skip)) (.seq (sr [pT 15 (.fad t2 2), lT 16 15, pT 17 (.fad t3 2), lT 18 17, bT 19 .neq t16 t18] (.cond t19 (sr [pT 4 (.mv cf)] .ret) .skip)) (sr [pT 4 (.mv ct)] .ret)))))
theorem c49_ : IsF Tryz.prog 49 c49 [(.tmp 4)] := ⟨by kernel_rfl, by kernel_rfl⟩

def F_laws_eqSyllable (v0 : TSyllable) (v1 : TSyllable) : Option (Bool) :=
 (bif (decide (v0.1 ≠ v1.1)) then some false
 else (bif (decide (v0.2.1 ≠ v1.2.1)) then some false
 else (bif (decide (v0.2.2 ≠ v1.2.2)) then some false
 else some true)))
@[simp] def res_laws_eqSyllable (r : Bool) : RV := .one (.one (.val (.bool r)))
theorem con_laws_eqSyllable {v0 : TSyllable} {v1 : TSyllable} {r : Bool} (hF : F_laws_eqSyllable v0 v1 = some r) : Con Tryz.prog 49 [eSyllable v0, eSyllable v1] (res_laws_eqSyllable r) := by
 unfold F_laws_eqSyllable at hF
 refine con_of c49_.1 fun N => ?_
 refine ws 0 192 (qf (.ptr 0 0 0) [(0, .box [AS v0.1, AI v0.2.1, AI v0.2.2])] (by simp) (qf (.ptr 64 0 0) [(64, .box [AS v1.1, AI v1.2.1, AI v1.2.2]), (0, .box [AS v0.1, AI v0.2.1, AI v0.2.2])] (by simp) (qb (r_nil (w_seq (ws 192 512 (qr (.ptr 0 0 0) (qr (AS v0.1) (qr (.ptr 64 0 0) (qr (AS v1.1) (qr (AB (decide (v0.1 ≠ v1.1))) (r_nil ?_))))))))))))
 refine cF hF (fun hF => ws 512 576 (qb (r_nil (w_ret (thenQ_r (eQ hF)))))) fun hF => w_skip (thenQ_n (w_seq (ws 512 832 (qr (.ptr 0 0 1) (qr (AI v0.2.1) (qr (.ptr 64 0 1) (qr (AI v1.2.1) (qr (AB (decide (v0.2.1 ≠ v1.2.1))) (r_nil ?_)))))))))
 refine cF hF (fun hF => ws 832 896 (qb (r_nil (w_ret (thenQ_r (eQ hF)))))) fun hF => w_skip (thenQ_n (w_seq (ws 832 1152 (qr (.ptr 0 0 2) (qr (AI v0.2.2) (qr (.ptr 64 0 2) (qr (AI v1.2.2) (qr (AB (decide (v0.2.2 ≠ v1.2.2))) (r_nil ?_)))))))))
 refine cF hF (fun hF => ws 1152 1216 (qb (r_nil (w_ret (thenQ_r (eQ hF)))))) fun hF => ?_
 exact w_skip (thenQ_n (ws 1152 1216 (qt (rR hF))))

def c16 : MC := (sr [pT 4 (.mv cf)] (.seq (sr [mvt 6 0, zT 7 6, mvt 8 1, zT 9 8, bT 10 .neq t7 t9] (.cond t10 (sr [pT 4 (.mv cf)] .ret) .skip)) (.seq (sr [pT 5 (.mv (ci 0))] (.block 0 (.loop (.seq (sr [mvt 11 5, mvt 12 0, zT 13 12, bT 14 .lss t11 t13] (cx t14 0)) (.seq (.block 1 (sr [mP 17 t0, mP 18 t5, iF 19 17 18 3, pF 20 (.ld t19 3 true), mP 21 t1, mP 22 t5, iF 23 21 22 3, pF 24 (.ld t23 3 true), dF 25 49 [t20, t24], pF 26 (.not t25)] (.cond t26 (sr [pT 4 (.mv cf)] .ret) .skip))) (.reg [mvt 15 5, bT 16 .add t15 (ci 1), mvt 5 16])))))) (sr [pT 4 (.mv ct)] .ret))))
theorem c16_ : IsF Tryz.prog 16 c16 [(.tmp 4)] := ⟨by kernel_rfl, by kernel_rfl⟩

def F_laws_eqSyllableS_l0 (v0 : List TSyllable) (v1 : List TSyllable) (k0 : Int → Option (Bool)) : Int → Option (Bool)
 | x1 => (bif (decide (x1 < (v0.length : Int))) then ((ix v0 x1).bind fun u0 => ((ix v1 x1).bind fun u1 => ((F_laws_eqSyllable u0 u1).bind fun u2 => (bif (!u2) then some false
 else k0 (w64 (x1 + 1))))))
 else some true)
def F_laws_eqSyllableS (v0 : List TSyllable) (v1 : List TSyllable) : Option (Bool) :=
 (bif (decide ((v0.length : Int) ≠ (v1.length : Int))) then some false
 else loop (F_laws_eqSyllableS_l0 v0 v1) 0)
@[simp] def res_laws_eqSyllableS (r : Bool) : RV := .one (.one (.val (.bool r)))
theorem con_laws_eqSyllableS {v0 : List TSyllable} {v1 : List TSyllable} {r : Bool} (hF : F_laws_eqSyllableS v0 v1 = some r) : Con Tryz.prog 16 [.sl 3 (v0.map eSyllable), .sl 3 (v1.map eSyllable)] (res_laws_eqSyllableS r) := by
 unfold F_laws_eqSyllableS at hF
 refine con_of c16_.1 fun N => ?_
 refine ws 0 64 (qb (r_nil (w_seq (ws 64 384 (qr (AL 3 (v0.map eSyllable)) (qp (AI (v0.length : Int)) (ev_len_n rfl) (qr (AL 3 (v1.map eSyllable)) (qp (AI (v1.length : Int)) (ev_len_n rfl) (qr (AB (decide ((v0.length : Int) ≠ (v1.length : Int)))) (r_nil ?_))))))))))
 refine cF hF (fun hF => ws 384 448 (qb (r_nil (w_ret (thenQ_r (eQ hF)))))) fun hF => w_skip (thenQ_n (w_seq (ws 384 448 (qr (AI 0) (r_nil (w_block ?_))))))
 refine wr (l' := [(0, AL 3 (v0.map eSyllable)), (1, AL 3 (v1.map eSyllable)), (5, AI 0)]) (L := []) [0, 1, 5] [] 1 ?_
 refine w_loopF (F_laws_eqSyllableS_l0 v0 v1) (fun s : Int => mkS [(0, AL 3 (v0.map eSyllable)), (1, AL 3 (v1.map eSyllable)), (5, AI s)] (fo []) 1) hF ?_
 rintro k0 x1 hF
 rw [F_laws_eqSyllableS_l0] at hF
 try dsimp only
 refine w_seq (ws 1 257 (qr (AI x1) (qr (AL 3 (v0.map eSyllable)) (qp (AI (v0.length : Int)) (ev_len_n rfl) (qr (AB (decide (x1 < (v0.length : Int)))) (r_nil ?_))))))
 refine cF hF (fun hF => ?_) fun hF => ?_
 ·
  refine w_skip (thenQ_n (w_seq (w_block (ws 257 897 (qr (AL 3 (v0.map eSyllable)) (qr (AI x1) (bk hF fun u0 e0 hF => qp (.val none (.ptr [.str u0.1, .int .i64 u0.2.1, .int .i64 u0.2.2])) (ev_iad_n rfl rfl e0 rfl) (qr (.val none (eSyllable u0)) (qr (AL 3 (v1.map eSyllable)) (qr (AI x1) (bk hF fun u1 e1 hF => qp (.val none (.ptr [.str u1.1, .int .i64 u1.2.1, .int .i64 u1.2.2])) (ev_iad_n rfl rfl e1 rfl) (qr (.val none (eSyllable u1)) (bk hF fun u2 e2 hF => qC (AB u2) [] (con_laws_eqSyllable e2) c49_ (qr (AB (!u2)) (r_nil ?_)))))))))))))))
  refine cF hF (fun hF => ws 897 961 (qb (r_nil (w_ret (blockQ_r (thenQ_r (thenQ_r (blockQ_r (thenQ_r (eQ hF)))))))))) fun hF => ?_
  refine w_skip (blockQ_n (thenQ_n (w_reg 897 1089 rfl rfl (qr (AI x1) (qr (AI (w64 (x1 + 1))) (qr (AI (w64 (x1 + 1))) (r_nil (thenQ_n ?_))))))))
  refine ar (l' := [(0, AL 3 (v0.map eSyllable)), (1, AL 3 (v1.map eSyllable)), (5, AI (w64 (x1 + 1)))]) (L := []) [0, 1, 5] [] 1 ⟨_, by rfl, hF⟩
 exact w_exit (thenQ_e (thenQ_e (blockQ_e (thenQ_n (ws 257 321 (qt (rR hF)))))))

def c50 : MC := (sr [rg 2 (.f (.box t0)), rg 3 (.f (.box t1)), pT 4 (.mv cf)] (.seq (sr [pT 5 (.fad t2 0), lT 6 5, pT 7 (.fad t3 0), lT 8 7, bT 9 .neq t6 t8] (.cond t9 (sr [pT 4 (.mv cf)] .ret) .skip)) (.seq (sr [pT 10 (.fad t2 1), lT 11 10, pT 12 (.fad t3 1), lT 13 12, bT 14 .neq t11 t13] (.cond t14 (sr [pT 4 (.mv cf)] .ret) .skip)) (sr [pT 4 (.mv ct)] .ret))))
theorem c50_ : IsF Tryz.prog 50 c50 [(.tmp 4)] := ⟨by kernel_rfl, by kernel_rfl⟩

def F_laws_eqTempoMark (v0 : TNote) (v1 : TNote) : Option (Bool) :=
 (bif (decide (v0.1 ≠ v1.1)) then some false
 else (bif (decide (v0.2 ≠ v1.2)) then some false
 else some true))
@[simp] def res_laws_eqTempoMark (r : Bool) : RV := .one (.one (.val (.bool r)))
theorem con_laws_eqTempoMark {v0 : TNote} {v1 : TNote} {r : Bool} (hF : F_laws_eqTempoMark v0 v1 = some r) : Con Tryz.prog 50 [eNote v0, eNote v1] (res_laws_eqTempoMark r) := by
 unfold F_laws_eqTempoMark at hF
 refine con_of c50_.1 fun N => ?_
 refine ws 0 192 (qf (.ptr 0 0 0) [(0, .box [AI v0.1, AI v0.2])] (by simp) (qf (.ptr 64 0 0) [(64, .box [AI v1.1, AI v1.2]), (0, .box [AI v0.1, AI v0.2])] (by simp) (qb (r_nil (w_seq (ws 192 512 (qr (.ptr 0 0 0) (qr (AI v0.1) (qr (.ptr 64 0 0) (qr (AI v1.1) (qr (AB (decide (v0.1 ≠ v1.1))) (r_nil ?_))))))))))))
 refine cF hF (fun hF => ws 512 576 (qb (r_nil (w_ret (thenQ_r (eQ hF)))))) fun hF => w_skip (thenQ_n (w_seq (ws 512 832 (qr (.ptr 0 0 1) (qr (AI v0.2) (qr (.ptr 64 0 1) (qr (AI v1.2) (qr (AB (decide (v0.2 ≠ v1.2))) (r_nil ?_)))))))))
 refine cF hF (fun hF => ws 832 896 (qb (r_nil (w_ret (thenQ_r (eQ hF)))))) fun hF => ?_
 exact w_skip (thenQ_n (ws 832 896 (qt (rR hF))))

def c17 : MC := (sr [pT 4 (.mv cf)] (.seq (sr [mvt 6 0, zT 7 6, mvt 8 1, zT 9 8, bT 10 .neq t7 t9] (.cond t10 (sr [pT 4 (.mv cf)] .ret) .skip)) (.seq (sr [pT 5 (.mv (ci 0))] (.block 0 (.loop (.seq (sr [mvt 11 5, mvt 12 0, zT 13 12, bT 14 .lss t11 t13] (cx t14 0)) (.seq (.block 1 (sr [mP 17 t0, mP 18 t5, iF 19 17 18 2, pF 20 (.ld t19 2 true), mP 21 t1, mP 22 t5, iF 23 21 22 2, pF 24 (.ld t23 2 true), dF 25 50 [t20, t24], pF 26 (.not t25)] (.cond t26 (sr [pT 4 (.mv cf)] .ret) .skip))) (.reg [mvt 15 5, bT 16 .add t15 (ci 1), mvt 5 16])))))) (sr [pT 4 (.mv ct)] .ret))))
theorem c17_ : IsF Tryz.prog 17 c17 [(.tmp 4)] := ⟨by kernel_rfl, by kernel_rfl⟩

def F_laws_eqTempoMarkS_l0 (v0 : List TNote) (v1 : List TNote) (k0 : Int → Option (Bool)) : Int → Option (Bool)
 | x1 => (bif (decide (x1 < (v0.length : Int))) then ((ix v0 x1).bind fun u0 => ((ix v1 x1).bind fun u1 => ((F_laws_eqTempoMark u0 u1).bind fun u2 => (bif (!u2) then some false
 else k0 (w64 (x1 + 1))))))
 else some true)
def F_laws_eqTempoMarkS (v0 : List TNote) (v1 : List TNote) : Option (Bool) :=
 (bif (decide ((v0.length : Int) ≠ (v1.length : Int))) then some false
 else loop (F_laws_eqTempoMarkS_l0 v0 v1) 0)
@[simp] def res_laws_eqTempoMarkS (r : Bool) : RV := .one (.one (.val (.bool r)))
theorem con_laws_eqTempoMarkS {v0 : List TNote} {v1 : List TNote} {r : Bool} (hF : F_laws_eqTempoMarkS v0 v1 = some r) : Con Tryz.prog 17 [.sl 2 (v0.map eNote), .sl 2 (v1.map eNote)] (res_laws_eqTempoMarkS r) := by
 unfold F_laws_eqTempoMarkS at hF
 refine con_of c17_.1 fun N => ?_
 refine ws 0 64 (qb (r_nil (w_seq (ws 64 384 (qr (AL 2 (v0.map eNote)) (qp (AI (v0.length : Int)) (ev_len_n rfl) (qr (AL 2 (v1.map eNote)) (qp (AI (v1.length : Int)) (ev_len_n rfl) (qr (AB (decide ((v0.length : Int) ≠ (v1.length : Int)))) (r_nil ?_))))))))))
 refine cF hF (fun hF => ws 384 448 (qb (r_nil (w_ret (thenQ_r (eQ hF)))))) fun hF => w_skip (thenQ_n (w_seq (ws 384 448 (qr (AI 0) (r_nil (w_block ?_))))))
 refine wr (l' := [(0, AL 2 (v0.map eNote)), (1, AL 2 (v1.map eNote)), (5, AI 0)]) (L := []) [0, 1, 5] [] 1 ?_
 refine w_loopF (F_laws_eqTempoMarkS_l0 v0 v1) (fun s : Int => mkS [(0, AL 2 (v0.map eNote)), (1, AL 2 (v1.map eNote)), (5, AI s)] (fo []) 1) hF ?_
 rintro k0 x1 hF
 rw [F_laws_eqTempoMarkS_l0] at hF
 try dsimp only
 refine w_seq (ws 1 257 (qr (AI x1) (qr (AL 2 (v0.map eNote)) (qp (AI (v0.length : Int)) (ev_len_n rfl) (qr (AB (decide (x1 < (v0.length : Int)))) (r_nil ?_))))))
 refine cF hF (fun hF => ?_) fun hF => ?_
 ·
  refine w_skip (thenQ_n (w_seq (w_block (ws 257 897 (qr (AL 2 (v0.map eNote)) (qr (AI x1) (bk hF fun u0 e0 hF => qp (.val none (.ptr [.int .i64 u0.1, .int .i64 u0.2])) (ev_iad_n rfl rfl e0 rfl) (qr (.val none (eNote u0)) (qr (AL 2 (v1.map eNote)) (qr (AI x1) (bk hF fun u1 e1 hF => qp (.val none (.ptr [.int .i64 u1.1, .int .i64 u1.2])) (ev_iad_n rfl rfl e1 rfl) (qr (.val none (eNote u1)) (bk hF fun u2 e2 hF => qC (AB u2) [] (con_laws_eqTempoMark e2) c50_ (qr (AB (!u2)) (r_nil ?_)))))))))))))))
  refine cF hF (fun hF => ws 897 961 (qb (r_nil (w_ret (blockQ_r (thenQ_r (thenQ_r (blockQ_r (thenQ_r (eQ hF)))))))))) fun hF => ?_
  refine w_skip (blockQ_n (thenQ_n (w_reg 897 1089 rfl rfl (qr (AI x1) (qr (AI (w64 (x1 + 1))) (qr (AI (w64 (x1 + 1))) (r_nil (thenQ_n ?_))))))))
  refine ar (l' := [(0, AL 2 (v0.map eNote)), (1, AL 2 (v1.map eNote)), (5, AI (w64 (x1 + 1)))]) (L := []) [0, 1, 5] [] 1 ⟨_, by rfl, hF⟩
 exact w_exit (thenQ_e (thenQ_e (blockQ_e (thenQ_n (ws 257 321 (qt (rR hF)))))))

def c51 : MC := (sr [rg 2 (.f (.box t0)), rg 3 (.f (.box t1)), pT 4 (.mv cf)] (.seq (sr [pT 5 (.fad t2 0), lT 6 5, pT 7 (.fad t3 0), lT 8 7, bT 9 .neq t6 t8] (.cond t9 (sr [pT 4 (.mv cf)] .ret) .skip)) (.seq (sr [pT 10 (.fad t2 1), lT 11 10, pT 12 (.fad t3 1), lT 13 12, bT 14 .neq t11 t13] (.cond t14 (sr [pT 4 (.mv cf)] .ret) .skip)) (.seq (sr [pT 15 (.fad t2 2), lT 16 15, pT 17 (.fad t3 2), lT 18 17, bT 19 .neq t16 t18] (.cond t19 (sr [pT 4 (.mv cf)] .ret) .skip)) (.seq (sr [pT 20 (.fad t2 3), lT 21 20, pT 22 (.fad t3 3), lT 23 22, bT 24 .neq t21 t23] (.cond t24 (sr [pT 4 (.mv cf)] .ret) .skip)) (.seq (sr [pT 25 (.fad t2 4), lT 26 25, pT 27 (.fad t3 4), lT 28 27, bT 29 .neq t26 t28] (.cond t29 (sr [pT 4 (.mv cf)] .ret) .skip)) (.seq (sr [pT 30 (.fad t2 5), lT 31 30, pT 32 (.fad t3 5), lT 33 32, bT 34 .neq t31 t33] (.cond t34 (sr [pT 4 (.mv cf)] .ret) .skip)) (sr [pT 4 (.mv ct)] .ret))))))))
theorem c51_ : IsF Tryz.prog 51 c51 [(.tmp 4)] := ⟨by kernel_rfl, by kernel_rfl⟩

def F_laws_eqItem (v0 : TItem) (v1 : TItem) : Option (Bool) :=
 (bif (decide (v0.1 ≠ v1.1)) then some false
 else (bif (decide (v0.2.1 ≠ v1.2.1)) then some false
 else (bif (decide (v0.2.2.1 ≠ v1.2.2.1)) then some false
 else (bif (decide (v0.2.2.2.1 ≠ v1.2.2.2.1)) then some false
 else (bif (decide (v0.2.2.2.2.1 ≠ v1.2.2.2.2.1)) then some false
 else (bif (decide (v0.2.2.2.2.2 ≠ v1.2.2.2.2.2)) then some false
 else some true))))))
@[simp] abbrev K3u (v0 : TItem) : List (Nat × Root) := [(0, .box [AS v0.1, AI v0.2.1, AI v0.2.2.1, AI v0.2.2.2.1, AI v0.2.2.2.2.1, AI v0.2.2.2.2.2])]
@[simp] def res_laws_eqItem (r : Bool) : RV := .one (.one (.val (.bool r)))
theorem con_laws_eqItem {v0 : TItem} {v1 : TItem} {r : Bool} (hF : F_laws_eqItem v0 v1 = some r) : Con Tryz.prog 51 [eItem v0, eItem v1] (res_laws_eqItem r) := by
 unfold F_laws_eqItem at hF
 refine con_of c51_.1 fun N => ?_
 refine ws 0 192 (qf (.ptr 0 0 0) (K3u v0) (by simp) (qf (.ptr 64 0 0) ((64, .box [AS v1.1, AI v1.2.1, AI v1.2.2.1, AI v1.2.2.2.1, AI v1.2.2.2.2.1, AI v1.2.2.2.2.2]) :: (K3u v0)) (by simp) (qb (r_nil (w_seq (ws 192 512 (qr (.ptr 0 0 0) (qr (AS v0.1) (qr (.ptr 64 0 0) (qr (AS v1.1) (qr (AB (decide (v0.1 ≠ v1.1))) (r_nil ?_))))))))))))
 refine cF hF (fun hF => ws 512 576 (qb (r_nil (w_ret (thenQ_r (eQ hF)))))) fun hF => w_skip (thenQ_n (w_seq (ws 512 832 (qr (.ptr 0 0 1) (qr (AI v0.2.1) (qr (.ptr 64 0 1) (qr (AI v1.2.1) (qr (AB (decide (v0.2.1 ≠ v1.2.1))) (r_nil ?_)))))))))
 refine cF hF (fun hF => ws 832 896 (qb (r_nil (w_ret (thenQ_r (eQ hF)))))) fun hF => w_skip (thenQ_n (w_seq (ws 832 1152 (qr (.ptr 0 0 2) (qr (AI v0.2.2.1) (qr (.ptr 64 0 2) (qr (AI v1.2.2.1) (qr (AB (decide (v0.2.2.1 ≠ v1.2.2.1))) (r_nil ?_)))))))))
 refine cF hF (fun hF => ws 1152 1216 (qb (r_nil (w_ret (thenQ_r (eQ hF)))))) fun hF => w_skip (thenQ_n (w_seq (ws 1152 1472 (qr (.ptr 0 0 3) (qr (AI v0.2.2.2.1) (qr (.ptr 64 0 3) (qr (AI v1.2.2.2.1) (qr (AB (decide (v0.2.2.2.1 ≠ v1.2.2.2.1))) (r_nil ?_)))))))))
 refine cF hF (fun hF => ws 1472 1536 (qb (r_nil (w_ret (thenQ_r (eQ hF)))))) fun hF => w_skip (thenQ_n (w_seq (ws 1472 1792 (qr (.ptr 0 0 4) (qr (AI v0.2.2.2.2.1) (qr (.ptr 64 0 4) (qr (AI v1.2.2.2.2.1) (qr (AB (decide (v0.2.2.2.2.1 ≠ v1.2.2.2.2.1))) (r_nil ?_)))))))))
 refine cF hF (fun hF => ws 1792 1856 (qb (r_nil (w_ret (thenQ_r (eQ hF)))))) fun hF => w_skip (thenQ_n (w_seq (ws 1792 2112 (qr (.ptr 0 0 5) (qr (AI v0.2.2.2.2.2) (qr (.ptr 64 0 5) (qr (AI v1.2.2.2.2.2) (qr (AB (decide (v0.2.2.2.2.2 ≠ v1.2.2.2.2.2))) (r_nil ?_)))))))))
 refine cF hF (fun hF => ws 2112 2176 (qb (r_nil (w_ret (thenQ_r (eQ hF)))))) fun hF => ?_
 exact w_skip (thenQ_n (ws 2112 2176 (qt (rR hF))))

def c18 : MC := (sr [pT 4 (.mv cf)] (.seq (sr [mvt 6 0, zT 7 6, mvt 8 1, zT 9 8, bT 10 .neq t7 t9] (.cond t10 (sr [pT 4 (.mv cf)] .ret) .skip)) (.seq (sr [pT 5 (.mv (ci 0))] (.block 0 (.loop (.seq (sr [mvt 11 5, mvt 12 0, zT 13 12, bT 14 .lss t11 t13] (cx t14 0)) (.seq (.block 1 (sr [mP 17 t0, mP 18 t5, iF 19 17 18 6, pF 20 (.ld t19 6 true), mP 21 t1, mP 22 t5, iF 23 21 22 6, pF 24 (.ld t23 6 true), dF 25 51 [t20, t24], pF 26 (.not t25)] (.cond t26 (sr [pT 4 (.mv cf)] .ret) .skip))) (.reg [mvt 15 5, bT 16 .add t15 (ci 1), mvt 5 16])))))) (sr [pT 4 (.mv ct)] .ret))))
theorem c18_ : IsF Tryz.prog 18 c18 [(.tmp 4)] := ⟨by kernel_rfl, by kernel_rfl⟩

def F_laws_eqItemS_l0 (v0 : List TItem) (v1 : List TItem) (k0 : Int → Option (Bool)) : Int → Option (Bool)
 | x1 => (bif (decide (x1 < (v0.length : Int))) then ((ix v0 x1).bind fun u0 => ((ix v1 x1).bind fun u1 => ((F_laws_eqItem u0 u1).bind fun u2 => (bif (!u2) then some false
 else k0 (w64 (x1 + 1))))))
 else some true)
def F_laws_eqItemS (v0 : List TItem) (v1 : List TItem) : Option (Bool) :=
 (bif (decide ((v0.length : Int) ≠ (v1.length : Int))) then some false
 else loop (F_laws_eqItemS_l0 v0 v1) 0)
@[simp] def res_laws_eqItemS (r : Bool) : RV := .one (.one (.val (.bool r)))
theorem con_laws_eqItemS {v0 : List TItem} {v1 : List TItem} {r : Bool} (hF : F_laws_eqItemS v0 v1 = some r) : Con Tryz.prog 18 [.sl 6 (v0.map eItem), .sl 6 (v1.map eItem)] (res_laws_eqItemS r) := by
 unfold F_laws_eqItemS at hF
 refine con_of c18_.1 fun N => ?_
 refine ws 0 64 (qb (r_nil (w_seq (ws 64 384 (qr (AL 6 (v0.map eItem)) (qp (AI (v0.length : Int)) (ev_len_n rfl) (qr (AL 6 (v1.map eItem)) (qp (AI (v1.length : Int)) (ev_len_n rfl) (qr (AB (decide ((v0.length : Int) ≠ (v1.length : Int)))) (r_nil ?_))))))))))
 refine cF hF (fun hF => ws 384 448 (qb (r_nil (w_ret (thenQ_r (eQ hF)))))) fun hF => w_skip (thenQ_n (w_seq (ws 384 448 (qr (AI 0) (r_nil (w_block ?_))))))
 refine wr (l' := [(0, AL 6 (v0.map eItem)), (1, AL 6 (v1.map eItem)), (5, AI 0)]) (L := []) [0, 1, 5] [] 1 ?_
 refine w_loopF (F_laws_eqItemS_l0 v0 v1) (fun s : Int => mkS [(0, AL 6 (v0.map eItem)), (1, AL 6 (v1.map eItem)), (5, AI s)] (fo []) 1) hF ?_
 rintro k0 x1 hF
 rw [F_laws_eqItemS_l0] at hF
 try dsimp only
 refine w_seq (ws 1 257 (qr (AI x1) (qr (AL 6 (v0.map eItem)) (qp (AI (v0.length : Int)) (ev_len_n rfl) (qr (AB (decide (x1 < (v0.length : Int)))) (r_nil ?_))))))
 refine cF hF (fun hF => ?_) fun hF => ?_
 ·
  refine w_skip (thenQ_n (w_seq (w_block (ws 257 897 (qr (AL 6 (v0.map eItem)) (qr (AI x1) (bk hF fun u0 e0 hF => qp (.val none (.ptr [.str u0.1, .int .i64 u0.2.1, .int .i64 u0.2.2.1, .int .i64 u0.2.2.2.1, .int .i64 u0.2.2.2.2.1, .int .i64 u0.2.2.2.2.2])) (ev_iad_n rfl rfl e0 rfl) (qr (.val none (eItem u0)) (qr (AL 6 (v1.map eItem)) (qr (AI x1) (bk hF fun u1 e1 hF => qp (.val none (.ptr [.str u1.1, .int .i64 u1.2.1, .int .i64 u1.2.2.1, .int .i64 u1.2.2.2.1, .int .i64 u1.2.2.2.2.1, .int .i64 u1.2.2.2.2.2])) (ev_iad_n rfl rfl e1 rfl) (qr (.val none (eItem u1)) (bk hF fun u2 e2 hF => qC (AB u2) [] (con_laws_eqItem e2) c51_ (qr (AB (!u2)) (r_nil ?_)))))))))))))))
  refine cF hF (fun hF => ws 897 961 (qb (r_nil (w_ret (blockQ_r (thenQ_r (thenQ_r (blockQ_r (thenQ_r (eQ hF)))))))))) fun hF => ?_
  refine w_skip (blockQ_n (thenQ_n (w_reg 897 1089 rfl rfl (qr (AI x1) (qr (AI (w64 (x1 + 1))) (qr (AI (w64 (x1 + 1))) (r_nil (thenQ_n ?_))))))))
  refine ar (l' := [(0, AL 6 (v0.map eItem)), (1, AL 6 (v1.map eItem)), (5, AI (w64 (x1 + 1)))]) (L := []) [0, 1, 5] [] 1 ⟨_, by rfl, hF⟩
 exact w_exit (thenQ_e (thenQ_e (blockQ_e (thenQ_n (ws 257 321 (qt (rR hF)))))))

def c52 : MC := (sr [rg 2 (.f (.box t0)), rg 3 (.f (.box t1)), pT 4 (.mv cf)] (.seq (sr [pT 5 (.fad t2 0), lT 6 5, pT 7 (.fad t3 0), lT 8 7, bT 9 .neq t6 t8] (.cond t9 (sr [pT 4 (.mv cf)] .ret) .skip)) (.seq (sr [pT 10 (.fad t2 1), lT 11 10, pT 12 (.fad t3 1), lT 13 12, bT 14 .neq t11 t13] (.cond t14 (sr [pT 4 (.mv cf)] .ret) .skip)) (.seq (sr [pT 15 (.fad t2 2), lT 16 15, pT 17 (.fad t3 2), lT 18 17, bT 19 .neq t16 t18] (.cond t19 (sr [pT 4 (.mv cf)] .ret) .skip)) (.seq (sr [pT 20 (.fad t2 3), lT 21 20, pT 22 (.fad t3 3), lT 23 22, bT 24 .neq t21 t23] (.cond t24 (sr [pT 4 (.mv cf)] .ret) .skip)) (.seq (sr [pT 25 (.fad t2 4), lT 26 25, pT 27 (.fad t3 4), lT 28 27, bT 29 .neq t26 t28] (.cond t29 (sr [pT 4 (.mv cf)] .ret) .skip)) (sr [pT 4 (.mv ct)] .ret)))))))
theorem c52_ : IsF Tryz.prog 52 c52 [(.tmp 4)] := ⟨by kernel_rfl, by kernel_rfl⟩

def F_laws_eqLesson (v0 : TLesson) (v1 : TLesson) : Option (Bool) :=
 (bif (decide (v0.1 ≠ v1.1)) then some false
 else (bif (decide (v0.2.1 ≠ v1.2.1)) then some false
 else (bif (decide (v0.2.2.1 ≠ v1.2.2.1)) then some false
 else (bif (decide (v0.2.2.2.1 ≠ v1.2.2.2.1)) then some false
 else (bif (decide (v0.2.2.2.2 ≠ v1.2.2.2.2)) then some false
 else some true)))))
@[simp] abbrev K3v (v0 : TLesson) : List (Nat × Root) := [(0, .box [AI v0.1, AS v0.2.1, AS v0.2.2.1, AI v0.2.2.2.1, AI v0.2.2.2.2])]
@[simp] def res_laws_eqLesson (r : Bool) : RV := .one (.one (.val (.bool r)))
theorem con_laws_eqLesson {v0 : TLesson} {v1 : TLesson} {r : Bool} (hF : F_laws_eqLesson v0 v1 = some r) : Con Tryz.prog 52 [eLesson v0, eLesson v1] (res_laws_eqLesson r) := by
 unfold F_laws_eqLesson at hF
 refine con_of c52_.1 fun N => ?_
 refine ws 0 192 (qf (.ptr 0 0 0) (K3v v0) (by simp) (qf (.ptr 64 0 0) ((64, .box [AI v1.1, AS v1.2.1, AS v1.2.2.1, AI v1.2.2.2.1, AI v1.2.2.2.2]) :: (K3v v0)) (by simp) (qb (r_nil (w_seq (ws 192 512 (qr (.ptr 0 0 0) (qr (AI v0.1) (qr (.ptr 64 0 0) (qr (AI v1.1) (qr (AB (decide (v0.1 ≠ v1.1))) (r_nil ?_))))))))))))
 refine cF hF (fun hF => ws 512 576 (qb (r_nil (w_ret (thenQ_r (eQ hF)))))) fun hF => w_skip (thenQ_n (w_seq (ws 512 832 (qr (.ptr 0 0 1) (qr (AS v0.2.1) (qr (.ptr 64 0 1) (qr (AS v1.2.1) (qr (AB (decide (v0.2.1 ≠ v1.2.1))) (r_nil ?_)))))))))
 refine cF hF (fun hF => ws 832 896 (qb (r_nil (w_ret (thenQ_r (eQ hF)))))) fun hF => w_skip (thenQ_n (w_seq (ws 832 1152 (qr (.ptr 0 0 2) (qr (AS v0.2.2.1) (qr (.ptr 64 0 2) (qr (AS v1.2.2.1) (qr (AB (decide (v0.2.2.1 ≠ v1.2.2.1))) (r_nil ?_)))))))))
 refine cF hF (fun hF => ws 1152 1216 (qb (r_nil (w_ret (thenQ_r (eQ hF)))))) fun hF => w_skip (thenQ_n (w_seq (ws 1152 1472 (qr (.ptr 0 0 3) (qr (AI v0.2.2.2.1) (qr (.ptr 64 0 3) (qr (AI v1.2.2.2.1) (qr (AB (decide (v0.2.2.2.1 ≠ v1.2.2.2.1))) (r_nil ?_)))))))))
 refine cF hF (fun hF => ws 1472 1536 (qb (r_nil (w_ret (thenQ_r (eQ hF)))))) fun hF => w_skip (thenQ_n (w_seq (ws 1472 1792 (qr (.ptr 0 0 4) (qr (AI v0.2.2.2.2) (qr (.ptr 64 0 4) (qr (AI v1.2.2.2.2) (qr (AB (decide (v0.2.2.2.2 ≠ v1.2.2.2.2))) (r_nil ?_)))))))))
 refine cF hF (fun hF => ws 1792 1856 (qb (r_nil (w_ret (thenQ_r (eQ hF)))))) fun hF => ?_
 exact w_skip (thenQ_n (ws 1792 1856 (qt (rR hF))))

def c19 : MC := (sr [pT 4 (.mv cf)] (.seq (sr [mvt 6 0, zT 7 6, mvt 8 1, zT 9 8, bT 10 .neq t7 t9] (.cond t10 (sr [pT 4 (.mv cf)] .ret) .skip)) (.seq (sr [pT 5 (.mv (ci 0))] (.block 0 (.loop (.seq (sr [mvt 11 5, mvt 12 0, zT 13 12, bT 14 .lss t11 t13] (cx t14 0)) (.seq (.block 1 (sr [mP 17 t0, mP 18 t5, iF 19 17 18 5, pF 20 (.ld t19 5 true), mP 21 t1, mP 22 t5, iF 23 21 22 5, pF 24 (.ld t23 5 true), dF 25 52 [t20, t24], pF 26 (.not t25)] (.cond t26 (sr [pT 4 (.mv cf)] .ret) .skip))) (.reg [mvt 15 5, bT 16 .add t15 (ci 1), mvt 5 16])))))) (sr [pT 4 (.mv ct)] .ret))))
theorem c19_ : IsF Tryz.prog 19 c19 [(.tmp 4)] := ⟨by kernel_rfl, by kernel_rfl⟩

def F_laws_eqLessonS_l0 (v0 : List TLesson) (v1 : List TLesson) (k0 : Int → Option (Bool)) : Int → Option (Bool)
 | x1 => (bif (decide (x1 < (v0.length : Int))) then ((ix v0 x1).bind fun u0 => ((ix v1 x1).bind fun u1 => ((F_laws_eqLesson u0 u1).bind fun u2 => (bif (!u2) then some false
 else k0 (w64 (x1 + 1))))))
 else some true)
def F_laws_eqLessonS (v0 : List TLesson) (v1 : List TLesson) : Option (Bool) :=
 (bif (decide ((v0.length : Int) ≠ (v1.length : Int))) then some false
 else loop (F_laws_eqLessonS_l0 v0 v1) 0)
@[simp] def res_laws_eqLessonS (r : Bool) : RV := .one (.one (.val (.bool r)))
theorem con_laws_eqLessonS {v0 : List TLesson} {v1 : List TLesson} {r : Bool} (hF : F_laws_eqLessonS v0 v1 = some r) : Con Tryz.prog 19 [.sl 5 (v0.map eLesson), .sl 5 (v1.map eLesson)] (res_laws_eqLessonS r) := by
 unfold F_laws_eqLessonS at hF
 refine con_of c19_.1 fun N => ?_
 refine ws 0 64 (qb (r_nil (w_seq (ws 64 384 (qr (AL 5 (v0.map eLesson)) (qp (AI (v0.length : Int)) (ev_len_n rfl) (qr (AL 5 (v1.map eLesson)) (qp (AI (v1.length : Int)) (ev_len_n rfl) (qr (AB (decide ((v0.length : Int) ≠ (v1.length : Int)))) (r_nil ?_))))))))))
 refine cF hF (fun hF => ws 384 448 (qb (r_nil (w_ret (thenQ_r (eQ hF)))))) fun hF => w_skip (thenQ_n (w_seq (ws 384 448 (qr (AI 0) (r_nil (w_block ?_))))))
 refine wr (l' := [(0, AL 5 (v0.map eLesson)), (1, AL 5 (v1.map eLesson)), (5, AI 0)]) (L := []) [0, 1, 5] [] 1 ?_
 refine w_loopF (F_laws_eqLessonS_l0 v0 v1) (fun s : Int => mkS [(0, AL 5 (v0.map eLesson)), (1, AL 5 (v1.map eLesson)), (5, AI s)] (fo []) 1) hF ?_
 rintro k0 x1 hF
 rw [F_laws_eqLessonS_l0] at hF
 try dsimp only
 refine w_seq (ws 1 257 (qr (AI x1) (qr (AL 5 (v0.map eLesson)) (qp (AI (v0.length : Int)) (ev_len_n rfl) (qr (AB (decide (x1 < (v0.length : Int)))) (r_nil ?_))))))
 refine cF hF (fun hF => ?_) fun hF => ?_
 ·
  refine w_skip (thenQ_n (w_seq (w_block (ws 257 897 (qr (AL 5 (v0.map eLesson)) (qr (AI x1) (bk hF fun u0 e0 hF => qp (.val none (.ptr [.int .i64 u0.1, .str u0.2.1, .str u0.2.2.1, .int .i64 u0.2.2.2.1, .int .i64 u0.2.2.2.2])) (ev_iad_n rfl rfl e0 rfl) (qr (.val none (eLesson u0)) (qr (AL 5 (v1.map eLesson)) (qr (AI x1) (bk hF fun u1 e1 hF => qp (.val none (.ptr [.int .i64 u1.1, .str u1.2.1, .str u1.2.2.1, .int .i64 u1.2.2.2.1, .int .i64 u1.2.2.2.2])) (ev_iad_n rfl rfl e1 rfl) (qr (.val none (eLesson u1)) (bk hF fun u2 e2 hF => qC (AB u2) [] (con_laws_eqLesson e2) c52_ (qr (AB (!u2)) (r_nil ?_)))))))))))))))
  refine cF hF (fun hF => ws 897 961 (qb (r_nil (w_ret (blockQ_r (thenQ_r (thenQ_r (blockQ_r (thenQ_r (eQ hF)))))))))) fun hF => ?_
  refine w_skip (blockQ_n (thenQ_n (w_reg 897 1089 rfl rfl (qr (AI x1) (qr (AI (w64 (x1 + 1))) (qr (AI (w64 (x1 + 1))) (r_nil (thenQ_n ?_))))))))
  refine ar (l' := [(0, AL 5 (v0.map eLesson)), (1, AL 5 (v1.map eLesson)), (5, AI (w64 (x1 + 1)))]) (L := []) [0, 1, 5] [] 1 ⟨_, by rfl, hF⟩
 exact w_exit (thenQ_e (thenQ_e (blockQ_e (thenQ_n (ws 257 321 (qt (rR hF)))))))

def c72 : MC := (sr [pT 4 (.mv cf)] (.seq (sr [mvt 6 0, zT 7 6, mvt 8 1, zT 9 8, bT 10 .neq t7 t9] (.cond t10 (sr [pT 4 (.mv cf)] .ret) .skip)) (.seq (sr [pT 5 (.mv (ci 0))] (.block 0 (.loop (.seq (sr [mvt 11 5, mvt 12 0, zT 13 12, bT 14 .lss t11 t13] (cx t14 0)) (.seq (.block 1 (sr [mP 17 t0, mP 18 t5, iF 19 17 18 1, lF 20 19, mP 21 t1, mP 22 t5, iF 23 21 22 1, lF 24 23, bF 25 .neq t20 t24] (.cond t25 (sr [pT 4 (.mv cf)] .ret) .skip))) (.reg [mvt 15 5, bT 16 .add t15 (ci 1), mvt 5 16])))))) (sr [pT 4 (.mv ct)] .ret))))
theorem c72_ : IsF Tryz.prog 72 c72 [(.tmp 4)] := ⟨by kernel_rfl, by kernel_rfl⟩

def F_laws_eqStringS_l0 (v0 : List (List UInt8)) (v1 : List (List UInt8)) (k0 : Int → Option (Bool)) : Int → Option (Bool)
 | x1 => (bif (decide (x1 < (v0.length : Int))) then ((ix v0 x1).bind fun u0 => ((ix v1 x1).bind fun u1 => (bif (decide (u0 ≠ u1)) then some false
 else k0 (w64 (x1 + 1)))))
 else some true)
def F_laws_eqStringS (v0 : List (List UInt8)) (v1 : List (List UInt8)) : Option (Bool) :=
 (bif (decide ((v0.length : Int) ≠ (v1.length : Int))) then some false
 else loop (F_laws_eqStringS_l0 v0 v1) 0)
@[simp] def res_laws_eqStringS (r : Bool) : RV := .one (.one (.val (.bool r)))
theorem con_laws_eqStringS {v0 : List (List UInt8)} {v1 : List (List UInt8)} {r : Bool} (hF : F_laws_eqStringS v0 v1 = some r) : Con Tryz.prog 72 [.sl 1 (v0.map V.str), .sl 1 (v1.map V.str)] (res_laws_eqStringS r) := by
 unfold F_laws_eqStringS at hF
 refine con_of c72_.1 fun N => ?_
 refine ws 0 64 (qb (r_nil (w_seq (ws 64 384 (qr (AL 1 (v0.map V.str)) (qp (AI (v0.length : Int)) (ev_len_n rfl) (qr (AL 1 (v1.map V.str)) (qp (AI (v1.length : Int)) (ev_len_n rfl) (qr (AB (decide ((v0.length : Int) ≠ (v1.length : Int)))) (r_nil ?_))))))))))
 refine cF hF (fun hF => ws 384 448 (qb (r_nil (w_ret (thenQ_r (eQ hF)))))) fun hF => w_skip (thenQ_n (w_seq (ws 384 448 (qr (AI 0) (r_nil (w_block ?_))))))
 refine wr (l' := [(0, AL 1 (v0.map V.str)), (1, AL 1 (v1.map V.str)), (5, AI 0)]) (L := []) [0, 1, 5] [] 1 ?_
 refine w_loopF (F_laws_eqStringS_l0 v0 v1) (fun s : Int => mkS [(0, AL 1 (v0.map V.str)), (1, AL 1 (v1.map V.str)), (5, AI s)] (fo []) 1) hF ?_
 rintro k0 x1 hF
 rw [F_laws_eqStringS_l0] at hF
 try dsimp only
 refine w_seq (ws 1 257 (qr (AI x1) (qr (AL 1 (v0.map V.str)) (qp (AI (v0.length : Int)) (ev_len_n rfl) (qr (AB (decide (x1 < (v0.length : Int)))) (r_nil ?_))))))
 refine cF hF (fun hF => ?_) fun hF => ?_
 ·
  refine w_skip (thenQ_n (w_seq (w_block (ws 257 833 (qr (AL 1 (v0.map V.str)) (qr (AI x1) (bk hF fun u0 e0 hF => qp (.val none (.ptr [.str u0])) (ev_iad_n rfl rfl e0 rfl) (qr (AS u0) (qr (AL 1 (v1.map V.str)) (qr (AI x1) (bk hF fun u1 e1 hF => qp (.val none (.ptr [.str u1])) (ev_iad_n rfl rfl e1 rfl) (qr (AS u1) (qr (AB (decide (u0 ≠ u1))) (r_nil ?_))))))))))))))
  refine cF hF (fun hF => ws 833 897 (qb (r_nil (w_ret (blockQ_r (thenQ_r (thenQ_r (blockQ_r (thenQ_r (eQ hF)))))))))) fun hF => ?_
  refine w_skip (blockQ_n (thenQ_n (w_reg 833 1025 rfl rfl (qr (AI x1) (qr (AI (w64 (x1 + 1))) (qr (AI (w64 (x1 + 1))) (r_nil (thenQ_n ?_))))))))
  refine ar (l' := [(0, AL 1 (v0.map V.str)), (1, AL 1 (v1.map V.str)), (5, AI (w64 (x1 + 1)))]) (L := []) [0, 1, 5] [] 1 ⟨_, by rfl, hF⟩
 exact w_exit (thenQ_e (thenQ_e (blockQ_e (thenQ_n (ws 257 321 (qt (rR hF)))))))

def c53 : MC := (sr [rg 2 (.f (.box t0)), rg 3 (.f (.box t1)), pT 4 (.mv cf)] (.seq (sr [pT 5 (.fad t2 0), lT 6 5, pT 7 (.fad t3 0), lT 8 7, bT 9 .neq t6 t8] (.cond t9 (sr [pT 4 (.mv cf)] .ret) .skip)) (.seq (sr [pT 10 (.fad t2 1), lT 11 10, pT 12 (.fad t3 1), lT 13 12, bT 14 .neq t11 t13] (.cond t14 (sr [pT 4 (.mv cf)] .ret) .skip)) (.seq (sr [pT 15 (.fad t2 2), lT 16 15, pT 17 (.fad t3 2), lT 18 17, dT 19 72 [t16, t18], pT 20 (.not t19)] (.cond t20 (sr [pT 4 (.mv cf)] .ret) .skip)) (sr [pT 4 (.mv ct)] .ret)))))
theorem c53_ : IsF Tryz.prog 53 c53 [(.tmp 4)] := ⟨by kernel_rfl, by kernel_rfl⟩

def F_laws_eqPerson (v0 : TPerson) (v1 : TPerson) : Option (Bool) :=
 (bif (decide (v0.1 ≠ v1.1)) then some false
 else (bif (decide (v0.2.1 ≠ v1.2.1)) then some false
 else ((F_laws_eqStringS v0.2.2 v1.2.2).bind fun u0 => (bif (!u0) then some false
 else some true))))
@[simp] abbrev K3w (v0 : TPerson) : List (Nat × Root) := [(0, .box [AS v0.1, AI v0.2.1, AL 1 (v0.2.2.map V.str)])]
@[simp] abbrev K3x (v1 : TPerson) (v0 : TPerson) : List (Nat × Root) := ((64, .box [AS v1.1, AI v1.2.1, AL 1 (v1.2.2.map V.str)]) :: (K3w v0))
@[simp] def res_laws_eqPerson (r : Bool) : RV := .one (.one (.val (.bool r)))
theorem con_laws_eqPerson {v0 : TPerson} {v1 : TPerson} {r : Bool} (hF : F_laws_eqPerson v0 v1 = some r) : Con Tryz.prog 53 [ePerson v0, ePerson v1] (res_laws_eqPerson r) := by
 unfold F_laws_eqPerson at hF
 refine con_of c53_.1 fun N => ?_
 refine ws 0 192 (qf (.ptr 0 0 0) (K3w v0) (by simp) (qf (.ptr 64 0 0) (K3x v1 v0) (by simp) (qb (r_nil (w_seq (ws 192 512 (qr (.ptr 0 0 0) (qr (AS v0.1) (qr (.ptr 64 0 0) (qr (AS v1.1) (qr (AB (decide (v0.1 ≠ v1.1))) (r_nil ?_))))))))))))
 refine cF hF (fun hF => ws 512 576 (qb (r_nil (w_ret (thenQ_r (eQ hF)))))) fun hF => w_skip (thenQ_n (w_seq (ws 512 832 (qr (.ptr 0 0 1) (qr (AI v0.2.1) (qr (.ptr 64 0 1) (qr (AI v1.2.1) (qr (AB (decide (v0.2.1 ≠ v1.2.1))) (r_nil ?_)))))))))
 refine cF hF (fun hF => ws 832 896 (qb (r_nil (w_ret (thenQ_r (eQ hF)))))) fun hF => w_skip (thenQ_n (w_seq (ws 832 1216 (qr (.ptr 0 0 2) (qr (AL 1 (v0.2.2.map V.str)) (qr (.ptr 64 0 2) (qr (AL 1 (v1.2.2.map V.str)) (bk hF fun u0 e0 hF => qC (AB u0) (K3x v1 v0) (con_laws_eqStringS e0) c72_ (qr (AB (!u0)) (r_nil ?_))))))))))
 refine cF hF (fun hF => ws 1216 1280 (qb (r_nil (w_ret (thenQ_r (eQ hF)))))) fun hF => ?_
 exact w_skip (thenQ_n (ws 1216 1280 (qt (rR hF))))

def c20 : MC := (sr [pT 4 (.mv cf)] (.seq (sr [mvt 6 0, zT 7 6, mvt 8 1, zT 9 8, bT 10 .neq t7 t9] (.cond t10 (sr [pT 4 (.mv cf)] .ret) .skip)) (.seq (sr [pT 5 (.mv (ci 0))] (.block 0 (.loop (.seq (sr [mvt 11 5, mvt 12 0, zT 13 12, bT 14 .lss t11 t13] (cx t14 0)) (.seq (.block 1 (sr [mP 17 t0, mP 18 t5, iF 19 17 18 3, pF 20 (.ld t19 3 true), mP 21 t1, mP 22 t5, iF 23 21 22 3, pF 24 (.ld t23 3 true), dF 25 53 [t20, t24], pF 26 (.not t25)] (.cond t26 (sr [pT 4 (.mv cf)] .ret) .skip))) (.reg [mvt 15 5, bT 16 .add t15 (ci 1), mvt 5 16])))))) (sr [pT 4 (.mv ct)] .ret))))
theorem c20_ : IsF Tryz.prog 20 c20 [(.tmp 4)] := ⟨by kernel_rfl, by kernel_rfl⟩

def F_laws_eqPersonS_l0 (v0 : List TPerson) (v1 : List TPerson) (k0 : Int → Option (Bool)) : Int → Option (Bool)
 | x1 => (bif (decide (x1 < (v0.length : Int))) then ((ix v0 x1).bind fun u0 => ((ix v1 x1).bind fun u1 => ((F_laws_eqPerson u0 u1).bind fun u2 => (bif (!u2) then some false
 else k0 (w64 (x1 + 1))))))
 else some true)
def F_laws_eqPersonS (v0 : List TPerson) (v1 : List TPerson) : Option (Bool) :=
 (bif (decide ((v0.length : Int) ≠ (v1.length : Int))) then some false
 else loop (F_laws_eqPersonS_l0 v0 v1) 0)
@[simp] def res_laws_eqPersonS (r : Bool) : RV := .one (.one (.val (.bool r)))
theorem con_laws_eqPersonS {v0 : List TPerson} {v1 : List TPerson} {r : Bool} (hF : F_laws_eqPersonS v0 v1 = some r) : Con Tryz.prog 20 [.sl 3 (v0.map ePerson), .sl 3 (v1.map ePerson)] (res_laws_eqPersonS r) := by
 unfold F_laws_eqPersonS at hF
 refine con_of c20_.1 fun N => ?_
 refine ws 0 64 (qb (r_nil (w_seq (ws 64 384 (qr (AL 3 (v0.map ePerson)) (qp (AI (v0.length : Int)) (ev_len_n rfl) (qr (AL 3 (v1.map ePerson)) (qp (AI (v1.length : Int)) (ev_len_n rfl) (qr (AB (decide ((v0.length : Int) ≠ (v1.length : Int)))) (r_nil ?_))))))))))
 refine cF hF (fun hF => ws 384 448 (qb (r_nil (w_ret (thenQ_r (eQ hF)))))) fun hF => w_skip (thenQ_n (w_seq (ws 384 448 (qr (AI 0) (r_nil (w_block ?_))))))
 refine wr (l' := [(0, AL 3 (v0.map ePerson)), (1, AL 3 (v1.map ePerson)), (5, AI 0)]) (L := []) [0, 1, 5] [] 1 ?_
 refine w_loopF (F_laws_eqPersonS_l0 v0 v1) (fun s : Int => mkS [(0, AL 3 (v0.map ePerson)), (1, AL 3 (v1.map ePerson)), (5, AI s)] (fo []) 1) hF ?_
 rintro k0 x1 hF
 rw [F_laws_eqPersonS_l0] at hF
 try dsimp only
 refine w_seq (ws 1 257 (qr (AI x1) (qr (AL 3 (v0.map ePerson)) (qp (AI (v0.length : Int)) (ev_len_n rfl) (qr (AB (decide (x1 < (v0.length : Int)))) (r_nil ?_))))))
 refine cF hF (fun hF => ?_) fun hF => ?_
 ·
  refine w_skip (thenQ_n (w_seq (w_block (ws 257 897 (qr (AL 3 (v0.map ePerson)) (qr (AI x1) (bk hF fun u0 e0 hF => qp (.val none (.ptr [.str u0.1, .int .i64 u0.2.1, .sl 1 (u0.2.2.map V.str)])) (ev_iad_n rfl rfl e0 rfl) (qr (.val none (ePerson u0)) (qr (AL 3 (v1.map ePerson)) (qr (AI x1) (bk hF fun u1 e1 hF => qp (.val none (.ptr [.str u1.1, .int .i64 u1.2.1, .sl 1 (u1.2.2.map V.str)])) (ev_iad_n rfl rfl e1 rfl) (qr (.val none (ePerson u1)) (bk hF fun u2 e2 hF => qC (AB u2) [] (con_laws_eqPerson e2) c53_ (qr (AB (!u2)) (r_nil ?_)))))))))))))))
  refine cF hF (fun hF => ws 897 961 (qb (r_nil (w_ret (blockQ_r (thenQ_r (thenQ_r (blockQ_r (thenQ_r (eQ hF)))))))))) fun hF => ?_
  refine w_skip (blockQ_n (thenQ_n (w_reg 897 1089 rfl rfl (qr (AI x1) (qr (AI (w64 (x1 + 1))) (qr (AI (w64 (x1 + 1))) (r_nil (thenQ_n ?_))))))))
  refine ar (l' := [(0, AL 3 (v0.map ePerson)), (1, AL 3 (v1.map ePerson)), (5, AI (w64 (x1 + 1)))]) (L := []) [0, 1, 5] [] 1 ⟨_, by rfl, hF⟩
 exact w_exit (thenQ_e (thenQ_e (blockQ_e (thenQ_n (ws 257 321 (qt (rR hF)))))))

def c6 : MC := (sr [rg 2 (.f (.box t0)), rg 3 (.f (.box t1)), pT 4 (.mv cf)] (.seq (sr [pT 5 (.fad t2 0), pT 6 (.ld t5 6 true), pT 7 (.fad t3 0), pT 8 (.ld t7 6 true), dT 9 12 [t6, t8], pT 10 (.not t9)] (.cond t10 (sr [pT 4 (.mv cf)] .ret) .skip)) (.seq (sr [pT 11 (.fad t2 6), lT 12 11, pT 13 (.fad t3 6), lT 14 13, dT 15 13 [t12, t14], pT 16 (.not t15)] (.cond t16 (sr [pT 4 (.mv cf)] .ret) .skip)) (.seq (sr [pT 17 (.fad t2 7), pT 18 (.ld t17 2 true), pT 19 (.fad t3 7), pT 20 (.ld t19 2 true), dT 21 14 [t18, t20], pT 22 (.not t21)] (.cond t22 (sr [pT 4 (.mv cf)] .ret) .skip)) (.seq (sr [pT 23 (.fad t2 9), lT 24 23, pT 25 (.fad t3 9), lT 26 25, dT 27 15 [t24, t26], pT 28 (.not t27)] (.cond t28 (sr [pT 4 (.mv cf)] .ret) .skip)) (.seq (sr [pT 29 (.fad t2 10), lT 30 29, pT 31 (.fad t3 10), lT 32 31, dT 33 16 [t30, t32], pT 34 (.not t33)] (.cond t34 (sr [pT 4 (.mv cf)] .ret) .skip)) (.seq (sr [pT 35 (.fad t2 11), lT 36 35, pT 37 (.fad t3 11), lT 38 37, dT 39 17 [t36, t38], pT 40 (.not t39)] (.cond t40 (sr [pT 4 (.mv cf)] .ret) .skip)) (.seq (sr [pT 41 (.fad t2 12), lT 42 41, pT 43 (.fad t3 12), lT 44 43, dT 45 18 [t42, t44], pT 46 (.not t45)] (.cond t46 (sr [pT 4 (.mv cf)] .ret) .skip)) (.seq (sr [pT 47 (.fad t2 13), lT 48 47, pT 49 (.fad t3 13), lT 50 49, dT 51 19 [t48, t50], pT 52 (.not t51)] (.cond t52 (sr [pT 4 (.mv cf)] .ret) .skip)) (.seq (sr [pT 53 (.fad t2 14), lT 54 53, pT 55 (.fad t3 14), lT 56 55, dT 57 20 [t54, t56], pT 58 (.not t57)] (.cond t58 (sr [pT 4 (.mv cf)] .ret) .skip)) (sr [pT 4 (.mv ct)] .ret)))))))))))
theorem c6_ : IsF Tryz.prog 6 c6 [(.tmp 4)] := ⟨by kernel_rfl, by kernel_rfl⟩

def F_laws_eqDesk (v0 : TDesk) (v1 : TDesk) : Option (Bool) :=
 ((F_laws_eqRaga (v0.1, v0.2.1, v0.2.2.1, v0.2.2.2.1, v0.2.2.2.2.1, v0.2.2.2.2.2.1) (v1.1, v1.2.1, v1.2.2.1, v1.2.2.2.1, v1.2.2.2.2.1, v1.2.2.2.2.2.1)).bind fun u0 => (bif (!u0) then some false
 else ((F_laws_eqNoteS v0.2.2.2.2.2.2.1 v1.2.2.2.2.2.2.1).bind fun u1 => (bif (!u1) then some false
 else ((F_laws_eqTuning (v0.2.2.2.2.2.2.2.1, v0.2.2.2.2.2.2.2.2.1) (v1.2.2.2.2.2.2.2.1, v1.2.2.2.2.2.2.2.2.1)).bind fun u2 => (bif (!u2) then some false
 else ((F_laws_eqInt64SS v0.2.2.2.2.2.2.2.2.2.1 v1.2.2.2.2.2.2.2.2.2.1).bind fun u3 => (bif (!u3) then some false
 else ((F_laws_eqSyllableS v0.2.2.2.2.2.2.2.2.2.2.1 v1.2.2.2.2.2.2.2.2.2.2.1).bind fun u4 => (bif (!u4) then some false
 else ((F_laws_eqTempoMarkS v0.2.2.2.2.2.2.2.2.2.2.2.1 v1.2.2.2.2.2.2.2.2.2.2.2.1).bind fun u5 => (bif (!u5) then some false
 else ((F_laws_eqItemS v0.2.2.2.2.2.2.2.2.2.2.2.2.1 v1.2.2.2.2.2.2.2.2.2.2.2.2.1).bind fun u6 => (bif (!u6) then some false
 else ((F_laws_eqLessonS v0.2.2.2.2.2.2.2.2.2.2.2.2.2.1 v1.2.2.2.2.2.2.2.2.2.2.2.2.2.1).bind fun u7 => (bif (!u7) then some false
 else ((F_laws_eqPersonS v0.2.2.2.2.2.2.2.2.2.2.2.2.2.2 v1.2.2.2.2.2.2.2.2.2.2.2.2.2.2).bind fun u8 => (bif (!u8) then some false
 else some true))))))))))))))))))
@[simp] abbrev K3y (v0 : TDesk) : List (Nat × Root) := [(0, .box [AS v0.1, AL 1 (v0.2.1.map vI), AL 1 (v0.2.2.1.map vI), AI v0.2.2.2.1, AI v0.2.2.2.2.1, AL 1 (v0.2.2.2.2.2.1.map (eL 1 vI)), AL 2 (v0.2.2.2.2.2.2.1.map eNote), AS v0.2.2.2.2.2.2.2.1, AL 2 (v0.2.2.2.2.2.2.2.2.1.map eNote), AL 1 (v0.2.2.2.2.2.2.2.2.2.1.map (eL 1 vI)), AL 3 (v0.2.2.2.2.2.2.2.2.2.2.1.map eSyllable), AL 2 (v0.2.2.2.2.2.2.2.2.2.2.2.1.map eNote), AL 6 (v0.2.2.2.2.2.2.2.2.2.2.2.2.1.map eItem), AL 5 (v0.2.2.2.2.2.2.2.2.2.2.2.2.2.1.map eLesson), AL 3 (v0.2.2.2.2.2.2.2.2.2.2.2.2.2.2.map ePerson)])]
@[simp] abbrev K3z (v1 : TDesk) (v0 : TDesk) : List (Nat × Root) := ((64, .box [AS v1.1, AL 1 (v1.2.1.map vI), AL 1 (v1.2.2.1.map vI), AI v1.2.2.2.1, AI v1.2.2.2.2.1, AL 1 (v1.2.2.2.2.2.1.map (eL 1 vI)), AL 2 (v1.2.2.2.2.2.2.1.map eNote), AS v1.2.2.2.2.2.2.2.1, AL 2 (v1.2.2.2.2.2.2.2.2.1.map eNote), AL 1 (v1.2.2.2.2.2.2.2.2.2.1.map (eL 1 vI)), AL 3 (v1.2.2.2.2.2.2.2.2.2.2.1.map eSyllable), AL 2 (v1.2.2.2.2.2.2.2.2.2.2.2.1.map eNote), AL 6 (v1.2.2.2.2.2.2.2.2.2.2.2.2.1.map eItem), AL 5 (v1.2.2.2.2.2.2.2.2.2.2.2.2.2.1.map eLesson), AL 3 (v1.2.2.2.2.2.2.2.2.2.2.2.2.2.2.map ePerson)]) :: (K3y v0))
@[simp] def res_laws_eqDesk (r : Bool) : RV := .one (.one (.val (.bool r)))
theorem con_laws_eqDesk {v0 : TDesk} {v1 : TDesk} {r : Bool} (hF : F_laws_eqDesk v0 v1 = some r) : Con Tryz.prog 6 [eDesk v0, eDesk v1] (res_laws_eqDesk r) := by
 unfold F_laws_eqDesk at hF
 refine con_of c6_.1 fun N => ?_
 refine ws 0 192 (qf (.ptr 0 0 0) (K3y v0) (by simp) (qf (.ptr 64 0 0) (K3z v1 v0) (by simp) (qb (r_nil (w_seq (ws 192 576 (qr (.ptr 0 0 0) (qr (.agg [AS v0.1, AL 1 (v0.2.1.map vI), AL 1 (v0.2.2.1.map vI), AI v0.2.2.2.1, AI v0.2.2.2.2.1, AL 1 (v0.2.2.2.2.2.1.map (eL 1 vI))]) (qr (.ptr 64 0 0) (qr (.agg [AS v1.1, AL 1 (v1.2.1.map vI), AL 1 (v1.2.2.1.map vI), AI v1.2.2.2.1, AI v1.2.2.2.2.1, AL 1 (v1.2.2.2.2.2.1.map (eL 1 vI))]) (bk hF fun u0 e0 hF => qC (AB u0) (K3z v1 v0) (con_laws_eqRaga e0) c12_ (qr (AB (!u0)) (r_nil ?_)))))))))))))
 refine cF hF (fun hF => ws 576 640 (qb (r_nil (w_ret (thenQ_r (eQ hF)))))) fun hF => w_skip (thenQ_n (w_seq (ws 576 960 (qr (.ptr 0 0 6) (qr (AL 2 (v0.2.2.2.2.2.2.1.map eNote)) (qr (.ptr 64 0 6) (qr (AL 2 (v1.2.2.2.2.2.2.1.map eNote)) (bk hF fun u1 e1 hF => qC (AB u1) (K3z v1 v0) (con_laws_eqNoteS e1) c13_ (qr (AB (!u1)) (r_nil ?_))))))))))
 refine cF hF (fun hF => ws 960 1024 (qb (r_nil (w_ret (thenQ_r (eQ hF)))))) fun hF => w_skip (thenQ_n (w_seq (ws 960 1344 (qr (.ptr 0 0 7) (qr (.agg [AS v0.2.2.2.2.2.2.2.1, AL 2 (v0.2.2.2.2.2.2.2.2.1.map eNote)]) (qr (.ptr 64 0 7) (qr (.agg [AS v1.2.2.2.2.2.2.2.1, AL 2 (v1.2.2.2.2.2.2.2.2.1.map eNote)]) (bk hF fun u2 e2 hF => qC (AB u2) (K3z v1 v0) (con_laws_eqTuning e2) c14_ (qr (AB (!u2)) (r_nil ?_))))))))))
 refine cF hF (fun hF => ws 1344 1408 (qb (r_nil (w_ret (thenQ_r (eQ hF)))))) fun hF => w_skip (thenQ_n (w_seq (ws 1344 1728 (qr (.ptr 0 0 9) (qr (AL 1 (v0.2.2.2.2.2.2.2.2.2.1.map (eL 1 vI))) (qr (.ptr 64 0 9) (qr (AL 1 (v1.2.2.2.2.2.2.2.2.2.1.map (eL 1 vI))) (bk hF fun u3 e3 hF => qC (AB u3) (K3z v1 v0) (con_laws_eqInt64SS e3) c15_ (qr (AB (!u3)) (r_nil ?_))))))))))
 refine cF hF (fun hF => ws 1728 1792 (qb (r_nil (w_ret (thenQ_r (eQ hF)))))) fun hF => w_skip (thenQ_n (w_seq (ws 1728 2112 (qr (.ptr 0 0 10) (qr (AL 3 (v0.2.2.2.2.2.2.2.2.2.2.1.map eSyllable)) (qr (.ptr 64 0 10) (qr (AL 3 (v1.2.2.2.2.2.2.2.2.2.2.1.map eSyllable)) (bk hF fun u4 e4 hF => qC (AB u4) (K3z v1 v0) (con_laws_eqSyllableS e4) c16_ (qr (AB (!u4)) (r_nil ?_))))))))))
 refine cF hF (fun hF => ws 2112 2176 (qb (r_nil (w_ret (thenQ_r (eQ hF)))))) fun hF => w_skip (thenQ_n (w_seq (ws 2112 2496 (qr (.ptr 0 0 11) (qr (AL 2 (v0.2.2.2.2.2.2.2.2.2.2.2.1.map eNote)) (qr (.ptr 64 0 11) (qr (AL 2 (v1.2.2.2.2.2.2.2.2.2.2.2.1.map eNote)) (bk hF fun u5 e5 hF => qC (AB u5) (K3z v1 v0) (con_laws_eqTempoMarkS e5) c17_ (qr (AB (!u5)) (r_nil ?_))))))))))
 refine cF hF (fun hF => ws 2496 2560 (qb (r_nil (w_ret (thenQ_r (eQ hF)))))) fun hF => w_skip (thenQ_n (w_seq (ws 2496 2880 (qr (.ptr 0 0 12) (qr (AL 6 (v0.2.2.2.2.2.2.2.2.2.2.2.2.1.map eItem)) (qr (.ptr 64 0 12) (qr (AL 6 (v1.2.2.2.2.2.2.2.2.2.2.2.2.1.map eItem)) (bk hF fun u6 e6 hF => qC (AB u6) (K3z v1 v0) (con_laws_eqItemS e6) c18_ (qr (AB (!u6)) (r_nil ?_))))))))))
 refine cF hF (fun hF => ws 2880 2944 (qb (r_nil (w_ret (thenQ_r (eQ hF)))))) fun hF => w_skip (thenQ_n (w_seq (ws 2880 3264 (qr (.ptr 0 0 13) (qr (AL 5 (v0.2.2.2.2.2.2.2.2.2.2.2.2.2.1.map eLesson)) (qr (.ptr 64 0 13) (qr (AL 5 (v1.2.2.2.2.2.2.2.2.2.2.2.2.2.1.map eLesson)) (bk hF fun u7 e7 hF => qC (AB u7) (K3z v1 v0) (con_laws_eqLessonS e7) c19_ (qr (AB (!u7)) (r_nil ?_))))))))))
 refine cF hF (fun hF => ws 3264 3328 (qb (r_nil (w_ret (thenQ_r (eQ hF)))))) fun hF => w_skip (thenQ_n (w_seq (ws 3264 3648 (qr (.ptr 0 0 14) (qr (AL 3 (v0.2.2.2.2.2.2.2.2.2.2.2.2.2.2.map ePerson)) (qr (.ptr 64 0 14) (qr (AL 3 (v1.2.2.2.2.2.2.2.2.2.2.2.2.2.2.map ePerson)) (bk hF fun u8 e8 hF => qC (AB u8) (K3z v1 v0) (con_laws_eqPersonS e8) c20_ (qr (AB (!u8)) (r_nil ?_))))))))))
 refine cF hF (fun hF => ws 3648 3712 (qb (r_nil (w_ret (thenQ_r (eQ hF)))))) fun hF => ?_
 exact w_skip (thenQ_n (ws 3648 3712 (qt (rR hF))))

def c54 : MC := (sr [pT 4 (.mv (ci 0))] (.seq (sr [pT 5 (.mv (ci 0))] (.block 0 (.loop (.seq (sr [mvt 6 5, mvt 7 0, zT 8 7, bT 9 .lss t6 t8] (cx t9 0)) (.seq (.block 1 (sr [mvt 12 0, mvt 13 5, mvt 14 1, iT 15 12 13 1, ⟨none, none, (.f (.st t15 t14 1))⟩] (.reg [mvt 16 1, bT 17 .add t16 (ci 1), mvt 1 17]))) (.reg [mvt 10 5, bT 11 .add t10 (ci 1), mvt 5 11])))))) (sr [mvt 18 1, mvt 4 18] .ret)))
theorem c54_is : compFnM Tryz.prog 54 = some (c54, [(.tmp 4)]) := by kernel_rfl
theorem c54_ok : okFn Tryz.prog 54 = true := by kernel_rfl

def F_laws_markInt64S_l0 (k0 : Int × Int × (List Int) → Option ((List Int) × Int)) : Int × Int × (List Int) → Option ((List Int) × Int)
 | (x3, x4, x5) => (bif (decide (x4 < (x5.length : Int))) then ((ix x5 x4).bind fun u0 => k0 (w64 (x3 + 1), w64 (x4 + 1), List.set x5 x4.toNat x3))
 else some (x5, x3))
def F_laws_markInt64S (v0 : List Int) (v1 : Int) : Option ((List Int) × Int) :=
 loop (F_laws_markInt64S_l0) (v1, 0, v0)
theorem con_laws_markInt64S {v0 : List Int} {v1 : Int} {r : (List Int) × Int} (hF : F_laws_markInt64S v0 v1 = some r) : ConM Tryz.prog 54 (.one (.row true 1 (v0.map vI))) (.one (.row true 1 (r.1.map vI))) [.int .i64 v1] (.int .i64 r.2) := by
 unfold F_laws_markInt64S at hF
 refine conM_of (av := .sl 0 0 v0.length) (L := [(0, .row true 1 (v0.map vI))]) c54_is rfl rfl rfl (by simp) fun N => ?_
 refine ws 64 128 (qr (AI 0) (r_nil (w_seq (ws 128 192 (qr (AI 0) (r_nil (w_block ?_)))))))
 refine wr (l' := [(0, .sl 0 0 v0.length), (1, AI v1), (5, AI 0)]) (L := [(0, .row true 1 (v0.map vI))]) [0, 1, 5] [(0, 0)] 1 ?_
 refine w_loopF (F_laws_markInt64S_l0) (fun s : Int × Int × (List Int) => mkS [(0, .sl 0 0 s.2.2.length), (1, AI s.1), (5, AI s.2.1)] (fo [(0, .row true 1 (s.2.2.map vI))]) 1) hF ?_
 rintro k0 ⟨x3, x4, x5⟩ hF
 rw [F_laws_markInt64S_l0] at hF
 try dsimp only
 refine w_seq (ws 1 257 (qr (AI x4) (qr (.sl 0 0 x5.length) (qr (AI (x5.length : Int)) (qr (AB (decide (x4 < (x5.length : Int)))) (r_nil ?_))))))
 refine cF hF (fun hF => ?_) fun hF => ?_
 ·
  refine w_skip (thenQ_n (w_seq (w_block (ws 257 577 (qr (.sl 0 0 x5.length) (qr (AI x4) (qr (AI x3) (bk hF fun u0 e0 hF => qp (.ptr 0 x4.toNat 0) (ev_iad_r rfl (by simp) rfl rfl e0) (qf0 (.undef) [(0, .row true 1 ((List.set x5 x4.toNat x3).map vI)), (0, .row true 1 (x5.map vI))] (effT_st rfl rfl (ix_some e0).2 rfl rfl (by rfl) (by first | rfl | simp [patch, reb, List.take_of_length_le]) (by rfl) rfl) (r_nil (w_reg 577 769 rfl rfl ?_)))))))))))
  refine qr (AI x3) (qr (AI (w64 (x3 + 1))) (qr (AI (w64 (x3 + 1))) (r_nil (blockQ_n (thenQ_n (w_reg 769 961 rfl rfl (qr (AI x4) (qr (AI (w64 (x4 + 1))) (qr (AI (w64 (x4 + 1))) ?_)))))))))
  refine r_nil (thenQ_n ?_)
  refine ar (l' := [(0, .sl 0 0 (List.set x5 x4.toNat x3).length), (1, AI (w64 (x3 + 1))), (5, AI (w64 (x4 + 1)))]) (L := [(0, .row true 1 ((List.set x5 x4.toNat x3).map vI))]) [0, 1, 5] [(0, 0)] 1 ⟨_, by rfl, hF⟩
 refine w_exit (thenQ_e (thenQ_e (blockQ_e (thenQ_n (ws 257 385 (qr (AI x3) (qr (AI x3) (r_nil (w_ret ?_)))))))))
 cases hF
 exact endM_r rfl rfl (by first | rfl | (simp [List.take_of_length_le]; first | exact ⟨rfl, rfl⟩ | rfl)) (by simp)

def c24 : MC := (sr [pT 4 (.mv (ci 0))] (.seq (sr [pT 5 (.mv (ci 0))] (.block 0 (.loop (.seq (sr [mvt 6 5, mvt 7 0, zT 8 7, bT 9 .lss t6 t8] (cx t9 0)) (.seq (.block 1 (.reg [mvt 12 0, mvt 13 5, iT 14 12 13 1, lT 15 14, mvt 16 1, dT 17 54 [t15, t16], mvt 1 17])) (.reg [mvt 10 5, bT 11 .add t10 (ci 1), mvt 5 11])))))) (sr [mvt 18 1, mvt 4 18] .ret)))
theorem c24_is : compFnM Tryz.prog 24 = some (c24, [(.tmp 4)]) := by kernel_rfl
theorem c24_ok : okFn Tryz.prog 24 = true := by kernel_rfl

def F_laws_markInt64SS_l0 (k0 : Int × Int × (List (List Int)) → Option ((List (List Int)) × Int)) : Int × Int × (List (List Int)) → Option ((List (List Int)) × Int)
 | (x3, x4, x5) => (bif (decide (x4 < (x5.length : Int))) then ((ix x5 x4).bind fun u0 => ((F_laws_markInt64S u0 x3).bind fun u1 => need (u1.1.length = u0.length) (k0 (u1.2, w64 (x4 + 1), List.set x5 x4.toNat u1.1))))
 else some (x5, x3))
def F_laws_markInt64SS (v0 : List (List Int)) (v1 : Int) : Option ((List (List Int)) × Int) :=
 loop (F_laws_markInt64SS_l0) (v1, 0, v0)
theorem con_laws_markInt64SS {v0 : List (List Int)} {v1 : Int} {r : (List (List Int)) × Int} (hF : F_laws_markInt64SS v0 v1 = some r) : ConM Tryz.prog 24 (.one (.row true 1 (v0.map (eL 1 vI)))) (.one (.row true 1 (r.1.map (eL 1 vI)))) [.int .i64 v1] (.int .i64 r.2) := by
 unfold F_laws_markInt64SS at hF
 refine conM_of (av := .sl 0 0 v0.length) (L := [(0, .row true 1 (v0.map (eL 1 vI)))]) c24_is rfl rfl rfl (by simp) fun N => ?_
 refine ws 64 128 (qr (AI 0) (r_nil (w_seq (ws 128 192 (qr (AI 0) (r_nil (w_block ?_)))))))
 refine wr (l' := [(0, .sl 0 0 v0.length), (1, AI v1), (5, AI 0)]) (L := [(0, .row true 1 (v0.map (eL 1 vI)))]) [0, 1, 5] [(0, 0)] 1 ?_
 refine w_loopF (F_laws_markInt64SS_l0) (fun s : Int × Int × (List (List Int)) => mkS [(0, .sl 0 0 s.2.2.length), (1, AI s.1), (5, AI s.2.1)] (fo [(0, .row true 1 (s.2.2.map (eL 1 vI)))]) 1) hF ?_
 rintro k0 ⟨x3, x4, x5⟩ hF
 rw [F_laws_markInt64SS_l0] at hF
 try dsimp only
 refine w_seq (ws 1 257 (qr (AI x4) (qr (.sl 0 0 x5.length) (qr (AI (x5.length : Int)) (qr (AB (decide (x4 < (x5.length : Int)))) (r_nil ?_))))))
 refine cF hF (fun hF => ?_) fun hF => ?_
 ·
  refine w_skip (thenQ_n (w_seq (w_block (w_reg 257 705 rfl rfl (qr (.sl 0 0 x5.length) (qr (AI x4) (bk hF fun u0 e0 hF => qp (.ptr 0 x4.toNat 0) (ev_iad_r rfl (by simp) rfl rfl e0) (bk hF fun u1 e1 hF => nk hF fun g2 hF => qm_l [(0, .row true 1 ((List.set x5 x4.toNat u1.1).map (eL 1 vI))), (0, .row true 1 (x5.map (eL 1 vI)))] rfl rfl (map_get (ix_some e0).2) rfl rfl rfl (con_laws_markInt64S e1) c54_ok (by simp [g2]) rfl rfl rfl (by simp [scrO_fo, scrR, scrA, scrAs, patch, reb, List.map_set]) (qr (AI u1.2) (r_nil (blockQ_n (thenQ_n (w_reg 705 897 rfl rfl ?_)))))))))))))
  refine qr (AI x4) (qr (AI (w64 (x4 + 1))) (qr (AI (w64 (x4 + 1))) (r_nil (thenQ_n ?_))))
  refine ar (l' := [(0, .sl 0 0 (List.set x5 x4.toNat u1.1).length), (1, AI u1.2), (5, AI (w64 (x4 + 1)))]) (L := [(0, .row true 1 ((List.set x5 x4.toNat u1.1).map (eL 1 vI)))]) [0, 1, 5] [(0, 0)] 1 ⟨_, by rfl, hF⟩
 refine w_exit (thenQ_e (thenQ_e (blockQ_e (thenQ_n (ws 257 385 (qr (AI x3) (qr (AI x3) (r_nil (w_ret ?_)))))))))
 cases hF
 exact endM_r rfl rfl (by first | rfl | (simp [List.take_of_length_le]; first | exact ⟨rfl, rfl⟩ | rfl)) (by simp)

def c21 : MC := (sr [rg 2 (.f (.box t0)), pT 4 (.mv (ci 0))] (sr [pT 5 (.fad t2 1), lT 6 5, mvt 7 1, dT 8 54 [t6, t7], mvt 1 8] (sr [pT 9 (.fad t2 2), lT 10 9, mvt 11 1, dT 12 54 [t10, t11], mvt 1 12] (sr [pT 13 (.fad t2 5), lT 14 13, mvt 15 1, dT 16 24 [t14, t15], mvt 1 16] (sr [mvt 17 1, mvt 4 17] .ret)))))
theorem c21_is : compFnM Tryz.prog 21 = some (c21, [(.tmp 4)]) := by kernel_rfl
theorem c21_ok : okFn Tryz.prog 21 = true := by kernel_rfl

def F_laws_markRaga (v0 : TRaga) (v1 : Int) : Option (TRaga × Int) :=
 ((F_laws_markInt64S v0.2.1 v1).bind fun u0 => need (u0.1.length = v0.2.1.length) (((F_laws_markInt64S v0.2.2.1 u0.2).bind fun u2 => need (u2.1.length = v0.2.2.1.length) (((F_laws_markInt64SS v0.2.2.2.2.2 u2.2).bind fun u4 => need (u4.1.length = v0.2.2.2.2.2.length) (some ((v0.1, u0.1, u2.1, v0.2.2.2.1, v0.2.2.2.2.1, u4.1), u4.2)))))))
@[simp] abbrev K40 (v0 : TRaga) : List (Nat × Root) := [(5, .row true 1 (v0.2.2.2.2.2.map (eL 1 vI))), (2, .row true 1 (v0.2.2.1.map vI)), (1, .row true 1 (v0.2.1.map vI))]
@[simp] abbrev K44 (v0 : TRaga) : List AV := [AS v0.1, .sl 1 0 v0.2.1.length, .sl 2 0 v0.2.2.1.length, AI v0.2.2.2.1, AI v0.2.2.2.2.1, .sl 5 0 v0.2.2.2.2.2.length]
@[simp] abbrev K41 (v0 : TRaga) : List (Nat × Root) := ((64, .box (K44 v0)) :: (K40 v0))
@[simp] abbrev K42 (u0 : (List Int) × Int) (v0 : TRaga) : List (Nat × Root) := ((1, .row true 1 (u0.1.map vI)) :: (K41 v0))
@[simp] abbrev K43 (u2 : (List Int) × Int) (u0 : (List Int) × Int) (v0 : TRaga) : List (Nat × Root) := ((2, .row true 1 (u2.1.map vI)) :: (K42 u0 v0))
theorem con_laws_markRaga {v0 : TRaga} {v1 : Int} {r : TRaga × Int} (hF : F_laws_markRaga v0 v1 = some r) : ConM Tryz.prog 21 (.agg [.val (.str v0.1), .row true 1 (v0.2.1.map vI), .row true 1 (v0.2.2.1.map vI), .val (.int .i64 v0.2.2.2.1), .val (.int .i64 v0.2.2.2.2.1), .row true 1 (v0.2.2.2.2.2.map (eL 1 vI))]) (.agg [.val (.str r.1.1), .row true 1 (r.1.2.1.map vI), .row true 1 (r.1.2.2.1.map vI), .val (.int .i64 r.1.2.2.2.1), .val (.int .i64 r.1.2.2.2.2.1), .row true 1 (r.1.2.2.2.2.2.map (eL 1 vI))]) [.int .i64 v1] (.int .i64 r.2) := by
 unfold F_laws_markRaga at hF
 refine conM_of (av := .agg (K44 v0)) (L := (K40 v0)) c21_is rfl rfl rfl (by simp) fun N => ?_
 refine ws 64 192 (qf (.ptr 64 0 0) (K41 v0) (by simp) (qr (AI 0) (r_nil (ws 192 512 (qr (.ptr 64 0 1) (qr (.sl 1 0 v0.2.1.length) (qr (AI v1) (bk hF fun u0 e0 hF => nk hF fun g1 hF => qm (ls := [1]) (K42 u0 v0) (con_laws_markInt64S e0) c54_ok (by first | rfl | simp [takeM, takeML, takeM1, g1]) (by decide) (by simp [like2, likeL, like1, g1]) rfl rfl rfl (by simp [scrO_fo, newO2, newO, scrR, scrA, scrAs]) (qr (AI u0.2) (r_nil (ws 512 832 (qr (.ptr 64 0 2) (qr (.sl 2 0 v0.2.2.1.length) (qr (AI u0.2) (bk hF fun u2 e2 hF => nk hF fun g3 hF => ?_)))))))))))))))
 refine qm (ls := [2]) (K43 u2 u0 v0) (con_laws_markInt64S e2) c54_ok (by first | rfl | simp [takeM, takeML, takeM1, g1, g3]) (by decide) (by simp [like2, likeL, like1, g3]) rfl rfl rfl (by simp [scrO_fo, newO2, newO, scrR, scrA, scrAs]) (qr (AI u2.2) (r_nil (ws 832 1152 (qr (.ptr 64 0 5) (qr (.sl 5 0 v0.2.2.2.2.2.length) (qr (AI u2.2) (bk hF fun u4 e4 hF => nk hF fun g5 hF => qm (ls := [5]) ((5, .row true 1 (u4.1.map (eL 1 vI))) :: (K43 u2 u0 v0)) (con_laws_markInt64SS e4) c24_ok (by first | rfl | simp [takeM, takeML, takeM1, g1, g3, g5]) (by decide) (by simp [like2, likeL, like1, g5]) rfl rfl rfl (by simp [scrO_fo, newO2, newO, scrR, scrA, scrAs]) (qr (AI u4.2) (r_nil (ws 1152 1280 (qr (AI u4.2) (qr (AI u4.2) (r_nil (w_ret ?_))))))))))))))
 cases hF
 exact endM_r rfl rfl (by first | rfl | (simp [List.take_of_length_le, g1, g3, g5]; first | exact ⟨rfl, rfl⟩ | rfl)) (by simp)

def c22 : MC := (sr [pT 4 (.mv (ci 0))] (.seq (sr [pT 5 (.mv (ci 0))] (.block 0 (.loop (.seq (sr [mvt 6 5, mvt 7 0, zT 8 7, bT 9 .lss t6 t8] (cx t9 0)) (.seq (.block 1 (sr [mvt 12 0, mvt 13 5, mvt 14 1, iT 15 12 13 2, pT 16 (.fad t15 0), ⟨none, none, (.f (.st t16 t14 1))⟩] (sr [mvt 17 1, bT 18 .add t17 (ci 1), mvt 1 18] (sr [mvt 19 0, mvt 20 5, mvt 21 1, iT 22 19 20 2, pT 23 (.fad t22 1), ⟨none, none, (.f (.st t23 t21 1))⟩] (.reg [mvt 24 1, bT 25 .add t24 (ci 1), mvt 1 25]))))) (.reg [mvt 10 5, bT 11 .add t10 (ci 1), mvt 5 11])))))) (sr [mvt 26 1, mvt 4 26] .ret)))
theorem c22_is : compFnM Tryz.prog 22 = some (c22, [(.tmp 4)]) := by kernel_rfl
theorem c22_ok : okFn Tryz.prog 22 = true := by kernel_rfl

def F_laws_markNoteS_l0 (k0 : Int × Int × (List TNote) → Option ((List TNote) × Int)) : Int × Int × (List TNote) → Option ((List TNote) × Int)
 | (x3, x4, x5) => (bif (decide (x4 < (x5.length : Int))) then ((ix x5 x4).bind fun u0 => ((ix (List.set x5 x4.toNat (x3, u0.2)) x4).bind fun u1 => k0 (w64 ((w64 (x3 + 1)) + 1), w64 (x4 + 1), List.set (List.set x5 x4.toNat (x3, u0.2)) x4.toNat (u1.1, w64 (x3 + 1)))))
 else some (x5, x3))
def F_laws_markNoteS (v0 : List TNote) (v1 : Int) : Option ((List TNote) × Int) :=
 loop (F_laws_markNoteS_l0) (v1, 0, v0)
@[simp] abbrev K45 (x5 : List TNote) (x4 : Int) (x3 : Int) (u0 : TNote) : List (Nat × Root) := [(0, .row true 2 ((List.set x5 x4.toNat (x3, u0.2)).map eNote)), (0, .row true 2 (x5.map eNote))]
theorem con_laws_markNoteS {v0 : List TNote} {v1 : Int} {r : (List TNote) × Int} (hF : F_laws_markNoteS v0 v1 = some r) : ConM Tryz.prog 22 (.one (.row true 2 (v0.map eNote))) (.one (.row true 2 (r.1.map eNote))) [.int .i64 v1] (.int .i64 r.2) := by
 unfold F_laws_markNoteS at hF
 refine conM_of (av := .sl 0 0 v0.length) (L := [(0, .row true 2 (v0.map eNote))]) c22_is rfl rfl rfl (by simp) fun N => ?_
 refine ws 64 128 (qr (AI 0) (r_nil (w_seq (ws 128 192 (qr (AI 0) (r_nil (w_block ?_)))))))
 refine wr (l' := [(0, .sl 0 0 v0.length), (1, AI v1), (5, AI 0)]) (L := [(0, .row true 2 (v0.map eNote))]) [0, 1, 5] [(0, 0)] 1 ?_
 refine w_loopF (F_laws_markNoteS_l0) (fun s : Int × Int × (List TNote) => mkS [(0, .sl 0 0 s.2.2.length), (1, AI s.1), (5, AI s.2.1)] (fo [(0, .row true 2 (s.2.2.map eNote))]) 1) hF ?_
 rintro k0 ⟨x3, x4, x5⟩ hF
 rw [F_laws_markNoteS_l0] at hF
 try dsimp only
 refine w_seq (ws 1 257 (qr (AI x4) (qr (.sl 0 0 x5.length) (qr (AI (x5.length : Int)) (qr (AB (decide (x4 < (x5.length : Int)))) (r_nil ?_))))))
 refine cF hF (fun hF => ?_) fun hF => ?_
 ·
  refine w_skip (thenQ_n (w_seq (w_block (ws 257 641 (qr (.sl 0 0 x5.length) (qr (AI x4) (qr (AI x3) (bk hF fun u0 e0 hF => qp (.ptr 0 x4.toNat 0) (ev_iad_r rfl (by simp) rfl rfl e0) (qr (.ptr 0 x4.toNat 0) (qf0 (.undef) (K45 x5 x4 x3 u0) (effT_st rfl rfl (ix_some e0).2 rfl rfl (by rfl) (by first | rfl | simp [patch, reb, List.take_of_length_le]) (by rfl) rfl) (r_nil (ws 641 833 ?_))))))))))))
  refine qr (AI x3) (qr (AI (w64 (x3 + 1))) (qr (AI (w64 (x3 + 1))) (r_nil (ws 833 1217 (qr (.sl 0 0 x5.length) (qr (AI x4) (qr (AI (w64 (x3 + 1))) (bk hF fun u1 e1 hF => qp (.ptr 0 x4.toNat 0) (ev_iad_r rfl (by simp) rfl rfl e1) (qr (.ptr 0 x4.toNat 1) (qf0 (.undef) ((0, .row true 2 ((List.set (List.set x5 x4.toNat (x3, u0.2)) x4.toNat (u1.1, w64 (x3 + 1))).map eNote)) :: (K45 x5 x4 x3 u0)) (effT_st rfl rfl (ix_some e1).2 rfl rfl (by rfl) (by first | rfl | simp [patch, reb, List.take_of_length_le]) (by rfl) rfl) (r_nil ?_)))))))))))
  refine w_reg 1217 1409 rfl rfl (qr (AI (w64 (x3 + 1))) (qr (AI (w64 ((w64 (x3 + 1)) + 1))) (qr (AI (w64 ((w64 (x3 + 1)) + 1))) (r_nil (blockQ_n (thenQ_n (w_reg 1409 1601 rfl rfl ?_)))))))
  refine qr (AI x4) (qr (AI (w64 (x4 + 1))) (qr (AI (w64 (x4 + 1))) (r_nil (thenQ_n ?_))))
  refine ar (l' := [(0, .sl 0 0 (List.set (List.set x5 x4.toNat (x3, u0.2)) x4.toNat (u1.1, w64 (x3 + 1))).length), (1, AI (w64 ((w64 (x3 + 1)) + 1))), (5, AI (w64 (x4 + 1)))]) (L := [(0, .row true 2 ((List.set (List.set x5 x4.toNat (x3, u0.2)) x4.toNat (u1.1, w64 (x3 + 1))).map eNote))]) [0, 1, 5] [(0, 0)] 1 ⟨_, by rfl, hF⟩
 refine w_exit (thenQ_e (thenQ_e (blockQ_e (thenQ_n (ws 257 385 (qr (AI x3) (qr (AI x3) (r_nil (w_ret ?_)))))))))
 cases hF
 exact endM_r rfl rfl (by first | rfl | (simp [List.take_of_length_le]; first | exact ⟨rfl, rfl⟩ | rfl)) (by simp)

def c55 : MC := (sr [pT 4 (.mv (ci 0))] (.seq (sr [pT 5 (.mv (ci 0))] (.block 0 (.loop (.seq (sr [mvt 6 5, mvt 7 0, zT 8 7, bT 9 .lss t6 t8] (cx t9 0)) (.seq (.block 1 (sr [mvt 12 0, mvt 13 5, mvt 14 1, iT 15 12 13 2, pT 16 (.fad t15 0), ⟨none, none, (.f (.st t16 t14 1))⟩] (sr [mvt 17 1, bT 18 .add t17 (ci 1), mvt 1 18] (sr [mvt 19 0, mvt 20 5, mvt 21 1, iT 22 19 20 2, pT 23 (.fad t22 1), ⟨none, none, (.f (.st t23 t21 1))⟩] (.reg [mvt 24 1, bT 25 .add t24 (ci 1), mvt 1 25]))))) (.reg [mvt 10 5, bT 11 .add t10 (ci 1), mvt 5 11])))))) (sr [mvt 26 1, mvt 4 26] .ret)))
theorem c55_is : compFnM Tryz.prog 55 = some (c55, [(.tmp 4)]) := by kernel_rfl
theorem c55_ok : okFn Tryz.prog 55 = true := by kernel_rfl

def F_laws_markRatioS_l0 (k0 : Int × Int × (List TNote) → Option ((List TNote) × Int)) : Int × Int × (List TNote) → Option ((List TNote) × Int)
 | (x3, x4, x5) => (bif (decide (x4 < (x5.length : Int))) then ((ix x5 x4).bind fun u0 => ((ix (List.set x5 x4.toNat (x3, u0.2)) x4).bind fun u1 => k0 (w64 ((w64 (x3 + 1)) + 1), w64 (x4 + 1), List.set (List.set x5 x4.toNat (x3, u0.2)) x4.toNat (u1.1, w64 (x3 + 1)))))
 else some (x5, x3))
def F_laws_markRatioS (v0 : List TNote) (v1 : Int) : Option ((List TNote) × Int) :=
 loop (F_laws_markRatioS_l0) (v1, 0, v0)
@[simp] abbrev K46 (x5 : List TNote) (x4 : Int) (x3 : Int) (u0 : TNote) : List (Nat × Root) := [(0, .row true 2 ((List.set x5 x4.toNat (x3, u0.2)).map eNote)), (0, .row true 2 (x5.map eNote))]
theorem con_laws_markRatioS {v0 : List TNote} {v1 : Int} {r : (List TNote) × Int} (hF : F_laws_markRatioS v0 v1 = some r) : ConM Tryz.prog 55 (.one (.row true 2 (v0.map eNote))) (.one (.row true 2 (r.1.map eNote))) [.int .i64 v1] (.int .i64 r.2) := by
 unfold F_laws_markRatioS at hF
 refine conM_of (av := .sl 0 0 v0.length) (L := [(0, .row true 2 (v0.map eNote))]) c55_is rfl rfl rfl (by simp) fun N => ?_
 refine ws 64 128 (qr (AI 0) (r_nil (w_seq (ws 128 192 (qr (AI 0) (r_nil (w_block ?_)))))))
 refine wr (l' := [(0, .sl 0 0 v0.length), (1, AI v1), (5, AI 0)]) (L := [(0, .row true 2 (v0.map eNote))]) [0, 1, 5] [(0, 0)] 1 ?_
 refine w_loopF (F_laws_markRatioS_l0) (fun s : Int × Int × (List TNote) => mkS [(0, .sl 0 0 s.2.2.length), (1, AI s.1), (5, AI s.2.1)] (fo [(0, .row true 2 (s.2.2.map eNote))]) 1) hF ?_
 rintro k0 ⟨x3, x4, x5⟩ hF
 rw [F_laws_markRatioS_l0] at hF
 try dsimp only
 refine w_seq (ws 1 257 (qr (AI x4) (qr (.sl 0 0 x5.length) (qr (AI (x5.length : Int)) (qr (AB (decide (x4 < (x5.length : Int)))) (r_nil ?_))))))
 refine cF hF (fun hF => ?_) fun hF => ?_
 ·
  refine w_skip (thenQ_n (w_seq (w_block (ws 257 641 (qr (.sl 0 0 x5.length) (qr (AI x4) (qr (AI x3) (bk hF fun u0 e0 hF => qp (.ptr 0 x4.toNat 0) (ev_iad_r rfl (by simp) rfl rfl e0) (qr (.ptr 0 x4.toNat 0) (qf0 (.undef) (K46 x5 x4 x3 u0) (effT_st rfl rfl (ix_some e0).2 rfl rfl (by rfl) (by first | rfl | simp [patch, reb, List.take_of_length_le]) (by rfl) rfl) (r_nil (ws 641 833 ?_))))))))))))
  refine qr (AI x3) (qr (AI (w64 (x3 + 1))) (qr (AI (w64 (x3 + 1))) (r_nil (ws 833 1217 (qr (.sl 0 0 x5.length) (qr (AI x4) (qr (AI (w64 (x3 + 1))) (bk hF fun u1 e1 hF => qp (.ptr 0 x4.toNat 0) (ev_iad_r rfl (by simp) rfl rfl e1) (qr (.ptr 0 x4.toNat 1) (qf0 (.undef) ((0, .row true 2 ((List.set (List.set x5 x4.toNat (x3, u0.2)) x4.toNat (u1.1, w64 (x3 + 1))).map eNote)) :: (K46 x5 x4 x3 u0)) (effT_st rfl rfl (ix_some e1).2 rfl rfl (by rfl) (by first | rfl | simp [patch, reb, List.take_of_length_le]) (by rfl) rfl) (r_nil ?_)))))))))))
  refine w_reg 1217 1409 rfl rfl (qr (AI (w64 (x3 + 1))) (qr (AI (w64 ((w64 (x3 + 1)) + 1))) (qr (AI (w64 ((w64 (x3 + 1)) + 1))) (r_nil (blockQ_n (thenQ_n (w_reg 1409 1601 rfl rfl ?_)))))))
  refine qr (AI x4) (qr (AI (w64 (x4 + 1))) (qr (AI (w64 (x4 + 1))) (r_nil (thenQ_n ?_))))
  refine ar (l' := [(0, .sl 0 0 (List.set (List.set x5 x4.toNat (x3, u0.2)) x4.toNat (u1.1, w64 (x3 + 1))).length), (1, AI (w64 ((w64 (x3 + 1)) + 1))), (5, AI (w64 (x4 + 1)))]) (L := [(0, .row true 2 ((List.set (List.set x5 x4.toNat (x3, u0.2)) x4.toNat (u1.1, w64 (x3 + 1))).map eNote))]) [0, 1, 5] [(0, 0)] 1 ⟨_, by rfl, hF⟩
 refine w_exit (thenQ_e (thenQ_e (blockQ_e (thenQ_n (ws 257 385 (qr (AI x3) (qr (AI x3) (r_nil (w_ret ?_)))))))))
 cases hF
 exact endM_r rfl rfl (by first | rfl | (simp [List.take_of_length_le]; first | exact ⟨rfl, rfl⟩ | rfl)) (by simp)

def c23 : MC := (sr [rg 2 (.f (.box t0)), pT 4 (.mv (ci 0))] (sr [pT 5 (.fad t2 1), lT 6 5, mvt 7 1, dT 8 55 [t6, t7], mvt 1 8] (sr [mvt 9 1, mvt 4 9] .ret)))
theorem c23_is : compFnM Tryz.prog 23 = some (c23, [(.tmp 4)]) := by kernel_rfl
theorem c23_ok : okFn Tryz.prog 23 = true := by kernel_rfl

def F_laws_markTuning (v0 : TTuning) (v1 : Int) : Option (TTuning × Int) :=
 ((F_laws_markRatioS v0.2 v1).bind fun u0 => need (u0.1.length = v0.2.length) (some ((v0.1, u0.1), u0.2)))
@[simp] abbrev K47 (v0 : TTuning) : List (Nat × Root) := [(64, .box [AS v0.1, .sl 1 0 v0.2.length]), (1, .row true 2 (v0.2.map eNote))]
theorem con_laws_markTuning {v0 : TTuning} {v1 : Int} {r : TTuning × Int} (hF : F_laws_markTuning v0 v1 = some r) : ConM Tryz.prog 23 (.agg [.val (.str v0.1), .row true 2 (v0.2.map eNote)]) (.agg [.val (.str r.1.1), .row true 2 (r.1.2.map eNote)]) [.int .i64 v1] (.int .i64 r.2) := by
 unfold F_laws_markTuning at hF
 refine conM_of (av := .agg [AS v0.1, .sl 1 0 v0.2.length]) (L := [(1, .row true 2 (v0.2.map eNote))]) c23_is rfl rfl rfl (by simp) fun N => ?_
 refine ws 64 192 (qf (.ptr 64 0 0) (K47 v0) (by simp) (qr (AI 0) (r_nil (ws 192 512 (qr (.ptr 64 0 1) (qr (.sl 1 0 v0.2.length) (qr (AI v1) (bk hF fun u0 e0 hF => nk hF fun g1 hF => qm (ls := [1]) ((1, .row true 2 (u0.1.map eNote)) :: (K47 v0)) (con_laws_markRatioS e0) c55_ok (by first | rfl | simp [takeM, takeML, takeM1, g1]) (by decide) (by simp [like2, likeL, like1, g1]) rfl rfl rfl (by simp [scrO_fo, newO2, newO, scrR, scrA, scrAs]) (qr (AI u0.2) (r_nil (ws 512 640 (qr (AI u0.2) (qr (AI u0.2) (r_nil ?_))))))))))))))
 refine w_ret ?_
 cases hF
 exact endM_r rfl rfl (by first | rfl | (simp [List.take_of_length_le, g1]; first | exact ⟨rfl, rfl⟩ | rfl)) (by simp)

def c56 : MC := (sr [pT 2 (.mv (.c (.str [])))] (.seq (sr [mvt 4 0, bT 5 .leq t4 (ci 0)] (.cond t5 (sr [pT 2 (.mv (.c (.str [109, 48])))] .ret) .skip)) (sr [pT 3 (.mv (.c (.str [])))] (.seq (.block 0 (.loop (.seq (sr [mvt 6 0, bT 7 .gtr t6 (ci 0)] (cx t7 0)) (.block 1 (sr [mvt 8 0, bT 9 .rem t8 (ci 10), bT 10 .add (ci 48) t9, pT 11 (.conv .u8 t10), rg 12 (.f (.bsl 1 [t11])), pT 13 (.bts t12), mvt 14 3, bT 15 .add t13 t14, mvt 3 15] (.reg [mvt 16 0, bT 17 .quo t16 (ci 10), mvt 0 17])))))) (sr [mvt 18 3, pT 19 (.bin .add (.c (.str [109])) t18), mvt 2 19] .ret)))))
theorem c56_ : IsF Tryz.prog 56 c56 [(.tmp 2)] := ⟨by kernel_rfl, by kernel_rfl⟩

def F_laws_markText_l0 (k0 : Int × (List UInt8) → Option (List UInt8)) : Int × (List UInt8) → Option (List UInt8)
 | (x2, x3) => (bif (decide ((0 : Int) < x2)) then (need ((bytesI ([IntKind.wrap .u8 (w64 (48 + (Int.tmod x2 10)))] : List Int)).length + x3.length < 9223372036854775808) (k0 (w64 (Int.tdiv x2 10), (bytesI ([IntKind.wrap .u8 (w64 (48 + (Int.tmod x2 10)))] : List Int)) ++ x3)))
 else (need (([109] : List UInt8).length + x3.length < 9223372036854775808) (some (([109] : List UInt8) ++ x3))))
def F_laws_markText (v0 : Int) : Option (List UInt8) :=
 (bif (decide (v0 ≤ (0 : Int))) then some [109, 48]
 else loop (F_laws_markText_l0) (v0, []))
@[simp] def res_laws_markText (r : List UInt8) : RV := .one (.one (.val (.str r)))
theorem con_laws_markText {v0 : Int} {r : List UInt8} (hF : F_laws_markText v0 = some r) : Con Tryz.prog 56 [.int .i64 v0] (res_laws_markText r) := by
 unfold F_laws_markText at hF
 refine con_of c56_.1 fun N => ?_
 refine ws 0 64 (qr (AS []) (r_nil (w_seq (ws 64 192 (qr (AI v0) (qr (AB (decide (v0 ≤ (0 : Int)))) (r_nil (cF hF (fun hF => ws 192 256 (qr (AS [109, 48]) (r_nil (w_ret (thenQ_r (eQ hF)))))) fun hF => ?_))))))))
 refine w_skip (thenQ_n (ws 192 256 (qr (AS []) (r_nil (w_seq (w_block ?_))))))
 refine wr (l' := [(0, AI v0), (3, AS ([] : List UInt8))]) (L := []) [0, 3] [] 1 ?_
 refine w_loopF (F_laws_markText_l0) (fun s : Int × (List UInt8) => mkS [(0, AI s.1), (3, AS s.2)] (fo []) 1) hF ?_
 rintro k0 ⟨x2, x3⟩ hF
 rw [F_laws_markText_l0] at hF
 try dsimp only
 refine w_seq (ws 1 129 (qr (AI x2) (qr (AB (decide ((0 : Int) < x2))) (r_nil ?_))))
 refine cF hF (fun hF => ?_) fun hF => ?_
 ·
  refine w_skip (thenQ_n (w_block (ws 129 705 (qr (AI x2) (qp (AI (Int.tmod x2 10)) (ev_rem rfl rfl (by decide)) (qr (AI (w64 (48 + (Int.tmod x2 10)))) (qr (.val none (.int .u8 (IntKind.wrap .u8 (w64 (48 + (Int.tmod x2 10)))))) (qf (.sl 385 0 (([IntKind.wrap .u8 (w64 (48 + (Int.tmod x2 10)))] : List Int).length)) [(385, .row true 1 (([IntKind.wrap .u8 (w64 (48 + (Int.tmod x2 10)))] : List Int).map (V.int .u8)))] (by simp [List.take_of_length_le]) ?_))))))))
  refine qp (AS (bytesI ([IntKind.wrap .u8 (w64 (48 + (Int.tmod x2 10)))] : List Int))) (ev_bts_r rfl (by simp) rfl) (qr (AS x3) (nk hF fun g0 hF => qp (AS ((bytesI ([IntKind.wrap .u8 (w64 (48 + (Int.tmod x2 10)))] : List Int)) ++ x3)) (ev_add_s rfl rfl g0) (qr (AS ((bytesI ([IntKind.wrap .u8 (w64 (48 + (Int.tmod x2 10)))] : List Int)) ++ x3)) (r_nil (w_reg 705 897 rfl rfl (qr (AI x2) (qp (AI (w64 (Int.tdiv x2 10))) (ev_quo rfl rfl (by decide)) (qr (AI (w64 (Int.tdiv x2 10))) (r_nil ?_)))))))))
  refine blockQ_n (thenQ_n ?_)
  refine ar (l' := [(0, AI (w64 (Int.tdiv x2 10))), (3, AS ((bytesI ([IntKind.wrap .u8 (w64 (48 + (Int.tmod x2 10)))] : List Int)) ++ x3))]) (L := []) [0, 3] [] 1 ⟨_, by rfl, hF⟩
 exact w_exit (thenQ_e (thenQ_e (blockQ_e (thenQ_n (ws 129 321 (qr (AS x3) (nk hF fun g1 hF => qp (AS (([109] : List UInt8) ++ x3)) (ev_add_s rfl rfl g1) (qr (AS (([109] : List UInt8) ++ x3)) (rR hF)))))))))

def c25 : MC := (sr [pT 4 (.mv (ci 0))] (.seq (sr [pT 5 (.mv (ci 0))] (.block 0 (.loop (.seq (sr [mvt 6 5, mvt 7 0, zT 8 7, bT 9 .lss t6 t8] (cx t9 0)) (.seq (.block 1 (sr [mvt 12 0, mvt 13 5, mvt 14 1, dT 15 56 [t14], iT 16 12 13 3, pT 17 (.fad t16 0), ⟨none, none, (.f (.st t17 t15 1))⟩] (sr [mvt 18 1, bT 19 .add t18 (ci 1), mvt 1 19] (sr [mvt 20 0, mvt 21 5, mvt 22 1, iT 23 20 21 3, pT 24 (.fad t23 1), ⟨none, none, (.f (.st t24 t22 1))⟩] (sr [mvt 25 1, bT 26 .add t25 (ci 1), mvt 1 26] (sr [mvt 27 0, mvt 28 5, mvt 29 1, iT 30 27 28 3, pT 31 (.fad t30 2), ⟨none, none, (.f (.st t31 t29 1))⟩] (.reg [mvt 32 1, bT 33 .add t32 (ci 1), mvt 1 33]))))))) (.reg [mvt 10 5, bT 11 .add t10 (ci 1), mvt 5 11])))))) (sr [mvt 34 1, mvt 4 34] .ret)))
theorem c25_is : compFnM Tryz.prog 25 = some (c25, [(.tmp 4)]) := by kernel_rfl
theorem c25_ok : okFn Tryz.prog 25 = true := by kernel_rfl

def F_laws_markSyllableS_l0 (k0 : Int × Int × (List TSyllable) → Option ((List TSyllable) × Int)) : Int × Int × (List TSyllable) → Option ((List TSyllable) × Int)
 | (x3, x4, x5) => (bif (decide (x4 < (x5.length : Int))) then ((F_laws_markText x3).bind fun u0 => ((ix x5 x4).bind fun u1 => ((ix (List.set x5 x4.toNat (u0, u1.2.1, u1.2.2)) x4).bind fun u2 => ((ix (List.set (List.set x5 x4.toNat (u0, u1.2.1, u1.2.2)) x4.toNat (u2.1, w64 (x3 + 1), u2.2.2)) x4).bind fun u3 => k0 (w64 ((w64 ((w64 (x3 + 1)) + 1)) + 1), w64 (x4 + 1), List.set (List.set (List.set x5 x4.toNat (u0, u1.2.1, u1.2.2)) x4.toNat (u2.1, w64 (x3 + 1), u2.2.2)) x4.toNat (u3.1, u3.2.1, w64 ((w64 (x3 + 1)) + 1)))))))
 else some (x5, x3))
def F_laws_markSyllableS (v0 : List TSyllable) (v1 : Int) : Option ((List TSyllable) × Int) :=
 loop (F_laws_markSyllableS_l0) (v1, 0, v0)
@[simp] abbrev K48 (x5 : List TSyllable) (x4 : Int) (u0 : List UInt8) (u1 : TSyllable) : List (Nat × Root) := [(0, .row true 3 ((List.set x5 x4.toNat (u0, u1.2.1, u1.2.2)).map eSyllable)), (0, .row true 3 (x5.map eSyllable))]
@[simp] abbrev K49 (x5 : List TSyllable) (x4 : Int) (u0 : List UInt8) (u1 : TSyllable) (u2 : TSyllable) (x3 : Int) : List (Nat × Root) := ((0, .row true 3 ((List.set (List.set x5 x4.toNat (u0, u1.2.1, u1.2.2)) x4.toNat (u2.1, w64 (x3 + 1), u2.2.2)).map eSyllable)) :: (K48 x5 x4 u0 u1))
theorem con_laws_markSyllableS {v0 : List TSyllable} {v1 : Int} {r : (List TSyllable) × Int} (hF : F_laws_markSyllableS v0 v1 = some r) : ConM Tryz.prog 25 (.one (.row true 3 (v0.map eSyllable))) (.one (.row true 3 (r.1.map eSyllable))) [.int .i64 v1] (.int .i64 r.2) := by
 unfold F_laws_markSyllableS at hF
 refine conM_of (av := .sl 0 0 v0.length) (L := [(0, .row true 3 (v0.map eSyllable))]) c25_is rfl rfl rfl (by simp) fun N => ?_
 refine ws 64 128 (qr (AI 0) (r_nil (w_seq (ws 128 192 (qr (AI 0) (r_nil (w_block ?_)))))))
 refine wr (l' := [(0, .sl 0 0 v0.length), (1, AI v1), (5, AI 0)]) (L := [(0, .row true 3 (v0.map eSyllable))]) [0, 1, 5] [(0, 0)] 1 ?_
 refine w_loopF (F_laws_markSyllableS_l0) (fun s : Int × Int × (List TSyllable) => mkS [(0, .sl 0 0 s.2.2.length), (1, AI s.1), (5, AI s.2.1)] (fo [(0, .row true 3 (s.2.2.map eSyllable))]) 1) hF ?_
 rintro k0 ⟨x3, x4, x5⟩ hF
 rw [F_laws_markSyllableS_l0] at hF
 try dsimp only
 refine w_seq (ws 1 257 (qr (AI x4) (qr (.sl 0 0 x5.length) (qr (AI (x5.length : Int)) (qr (AB (decide (x4 < (x5.length : Int)))) (r_nil ?_))))))
 refine cF hF (fun hF => ?_) fun hF => ?_
 ·
  refine w_skip (thenQ_n (w_seq (w_block (ws 257 705 (qr (.sl 0 0 x5.length) (qr (AI x4) (qr (AI x3) (bk hF fun u0 e0 hF => qC (AS u0) [(0, .row true 3 (x5.map eSyllable))] (con_laws_markText e0) c56_ (bk hF fun u1 e1 hF => qp (.ptr 0 x4.toNat 0) (ev_iad_r rfl (by simp) rfl rfl e1) (qr (.ptr 0 x4.toNat 0) (qf0 (.undef) (K48 x5 x4 u0 u1) (effT_st rfl rfl (ix_some e1).2 rfl rfl (by rfl) (by first | rfl | simp [patch, reb, List.take_of_length_le]) (by rfl) rfl) (r_nil (ws 705 897 ?_)))))))))))))
  refine qr (AI x3) (qr (AI (w64 (x3 + 1))) (qr (AI (w64 (x3 + 1))) (r_nil (ws 897 1281 (qr (.sl 0 0 x5.length) (qr (AI x4) (qr (AI (w64 (x3 + 1))) (bk hF fun u2 e2 hF => qp (.ptr 0 x4.toNat 0) (ev_iad_r rfl (by simp) rfl rfl e2) (qr (.ptr 0 x4.toNat 1) (qf0 (.undef) (K49 x5 x4 u0 u1 u2 x3) (effT_st rfl rfl (ix_some e2).2 rfl rfl (by rfl) (by first | rfl | simp [patch, reb, List.take_of_length_le]) (by rfl) rfl) (r_nil ?_)))))))))))
  refine ws 1281 1473 (qr (AI (w64 (x3 + 1))) (qr (AI (w64 ((w64 (x3 + 1)) + 1))) (qr (AI (w64 ((w64 (x3 + 1)) + 1))) (r_nil (ws 1473 1857 ?_)))))
  refine qr (.sl 0 0 x5.length) (qr (AI x4) (qr (AI (w64 ((w64 (x3 + 1)) + 1))) (bk hF fun u3 e3 hF => qp (.ptr 0 x4.toNat 0) (ev_iad_r rfl (by simp) rfl rfl e3) (qr (.ptr 0 x4.toNat 2) (qf0 (.undef) ((0, .row true 3 ((List.set (List.set (List.set x5 x4.toNat (u0, u1.2.1, u1.2.2)) x4.toNat (u2.1, w64 (x3 + 1), u2.2.2)) x4.toNat (u3.1, u3.2.1, w64 ((w64 (x3 + 1)) + 1))).map eSyllable)) :: (K49 x5 x4 u0 u1 u2 x3)) (effT_st rfl rfl (ix_some e3).2 rfl rfl (by rfl) (by first | rfl | simp [patch, reb, List.take_of_length_le]) (by rfl) rfl) (r_nil (w_reg 1857 2049 rfl rfl ?_)))))))
  refine qr (AI (w64 ((w64 (x3 + 1)) + 1))) (qr (AI (w64 ((w64 ((w64 (x3 + 1)) + 1)) + 1))) (qr (AI (w64 ((w64 ((w64 (x3 + 1)) + 1)) + 1))) (r_nil (blockQ_n (thenQ_n ?_)))))
  refine w_reg 2049 2241 rfl rfl (qr (AI x4) (qr (AI (w64 (x4 + 1))) (qr (AI (w64 (x4 + 1))) (r_nil (thenQ_n ?_)))))
  refine ar (l' := [(0, .sl 0 0 (List.set (List.set (List.set x5 x4.toNat (u0, u1.2.1, u1.2.2)) x4.toNat (u2.1, w64 (x3 + 1), u2.2.2)) x4.toNat (u3.1, u3.2.1, w64 ((w64 (x3 + 1)) + 1))).length), (1, AI (w64 ((w64 ((w64 (x3 + 1)) + 1)) + 1))), (5, AI (w64 (x4 + 1)))]) (L := [(0, .row true 3 ((List.set (List.set (List.set x5 x4.toNat (u0, u1.2.1, u1.2.2)) x4.toNat (u2.1, w64 (x3 + 1), u2.2.2)) x4.toNat (u3.1, u3.2.1, w64 ((w64 (x3 + 1)) + 1))).map eSyllable))]) [0, 1, 5] [(0, 0)] 1 ⟨_, by rfl, hF⟩
 refine w_exit (thenQ_e (thenQ_e (blockQ_e (thenQ_n (ws 257 385 (qr (AI x3) (qr (AI x3) (r_nil (w_ret ?_)))))))))
 cases hF
 exact endM_r rfl rfl (by first | rfl | (simp [List.take_of_length_le]; first | exact ⟨rfl, rfl⟩ | rfl)) (by simp)

def c26 : MC := (sr [pT 4 (.mv (ci 0))] (.seq (sr [pT 5 (.mv (ci 0))] (.block 0 (.loop (.seq (sr [mvt 6 5, mvt 7 0, zT 8 7, bT 9 .lss t6 t8] (cx t9 0)) (.seq (.block 1 (sr [mvt 12 0, mvt 13 5, mvt 14 1, iT 15 12 13 2, pT 16 (.fad t15 0), ⟨none, none, (.f (.st t16 t14 1))⟩] (sr [mvt 17 1, bT 18 .add t17 (ci 1), mvt 1 18] (sr [mvt 19 0, mvt 20 5, mvt 21 1, iT 22 19 20 2, pT 23 (.fad t22 1), ⟨none, none, (.f (.st t23 t21 1))⟩] (.reg [mvt 24 1, bT 25 .add t24 (ci 1), mvt 1 25]))))) (.reg [mvt 10 5, bT 11 .add t10 (ci 1), mvt 5 11])))))) (sr [mvt 26 1, mvt 4 26] .ret)))
theorem c26_is : compFnM Tryz.prog 26 = some (c26, [(.tmp 4)]) := by kernel_rfl
theorem c26_ok : okFn Tryz.prog 26 = true := by kernel_rfl

def F_laws_markTempoMarkS_l0 (k0 : Int × Int × (List TNote) → Option ((List TNote) × Int)) : Int × Int × (List TNote) → Option ((List TNote) × Int)
 | (x3, x4, x5) => (bif (decide (x4 < (x5.length : Int))) then ((ix x5 x4).bind fun u0 => ((ix (List.set x5 x4.toNat (x3, u0.2)) x4).bind fun u1 => k0 (w64 ((w64 (x3 + 1)) + 1), w64 (x4 + 1), List.set (List.set x5 x4.toNat (x3, u0.2)) x4.toNat (u1.1, w64 (x3 + 1)))))
 else some (x5, x3))
def F_laws_markTempoMarkS (v0 : List TNote) (v1 : Int) : Option ((List TNote) × Int) :=
 loop (F_laws_markTempoMarkS_l0) (v1, 0, v0)
@[simp] abbrev K4a (x5 : List TNote) (x4 : Int) (x3 : Int) (u0 : TNote) : List (Nat × Root) := [(0, .row true 2 ((List.set x5 x4.toNat (x3, u0.2)).map eNote)), (0, .row true 2 (x5.map eNote))]
theorem con_laws_markTempoMarkS {v0 : List TNote} {v1 : Int} {r : (List TNote) × Int} (hF : F_laws_markTempoMarkS v0 v1 = some r) : ConM Tryz.prog 26 (.one (.row true 2 (v0.map eNote))) (.one (.row true 2 (r.1.map eNote))) [.int .i64 v1] (.int .i64 r.2) := by
 unfold F_laws_markTempoMarkS at hF
 refine conM_of (av := .sl 0 0 v0.length) (L := [(0, .row true 2 (v0.map eNote))]) c26_is rfl rfl rfl (by simp) fun N => ?_
 refine ws 64 128 (qr (AI 0) (r_nil (w_seq (ws 128 192 (qr (AI 0) (r_nil (w_block ?_)))))))
 refine wr (l' := [(0, .sl 0 0 v0.length), (1, AI v1), (5, AI 0)]) (L := [(0, .row true 2 (v0.map eNote))]) [0, 1, 5] [(0, 0)] 1 ?_
 refine w_loopF (F_laws_markTempoMarkS_l0) (fun s : Int × Int × (List TNote) => mkS [(0, .sl 0 0 s.2.2.length), (1, AI s.1), (5, AI s.2.1)] (fo [(0, .row true 2 (s.2.2.map eNote))]) 1) hF ?_
 rintro k0 ⟨x3, x4, x5⟩ hF
 rw [F_laws_markTempoMarkS_l0] at hF
 try dsimp only
 refine w_seq (ws 1 257 (qr (AI x4) (qr (.sl 0 0 x5.length) (qr (AI (x5.length : Int)) (qr (AB (decide (x4 < (x5.length : Int)))) (r_nil ?_))))))
 refine cF hF (fun hF => ?_) fun hF => ?_
 ·
  refine w_skip (thenQ_n (w_seq (w_block (ws 257 641 (qr (.sl 0 0 x5.length) (qr (AI x4) (qr (AI x3) (bk hF fun u0 e0 hF => qp (.ptr 0 x4.toNat 0) (ev_iad_r rfl (by simp) rfl rfl e0) (qr (.ptr 0 x4.toNat 0) (qf0 (.undef) (K4a x5 x4 x3 u0) (effT_st rfl rfl (ix_some e0).2 rfl rfl (by rfl) (by first | rfl | simp [patch, reb, List.take_of_length_le]) (by rfl) rfl) (r_nil (ws 641 833 ?_))))))))))))
  refine qr (AI x3) (qr (AI (w64 (x3 + 1))) (qr (AI (w64 (x3 + 1))) (r_nil (ws 833 1217 (qr (.sl 0 0 x5.length) (qr (AI x4) (qr (AI (w64 (x3 + 1))) (bk hF fun u1 e1 hF => qp (.ptr 0 x4.toNat 0) (ev_iad_r rfl (by simp) rfl rfl e1) (qr (.ptr 0 x4.toNat 1) (qf0 (.undef) ((0, .row true 2 ((List.set (List.set x5 x4.toNat (x3, u0.2)) x4.toNat (u1.1, w64 (x3 + 1))).map eNote)) :: (K4a x5 x4 x3 u0)) (effT_st rfl rfl (ix_some e1).2 rfl rfl (by rfl) (by first | rfl | simp [patch, reb, List.take_of_length_le]) (by rfl) rfl) (r_nil ?_)))))))))))
  refine w_reg 1217 1409 rfl rfl (qr (AI (w64 (x3 + 1))) (qr (AI (w64 ((w64 (x3 + 1)) + 1))) (qr (AI (w64 ((w64 (x3 + 1)) + 1))) (r_nil (blockQ_n (thenQ_n (w_reg 1409 1601 rfl rfl ?_)))))))
  refine qr (AI x4) (qr (AI (w64 (x4 + 1))) (qr (AI (w64 (x4 + 1))) (r_nil (thenQ_n ?_))))
  refine ar (l' := [(0, .sl 0 0 (List.set (List.set x5 x4.toNat (x3, u0.2)) x4.toNat (u1.1, w64 (x3 + 1))).length), (1, AI (w64 ((w64 (x3 + 1)) + 1))), (5, AI (w64 (x4 + 1)))]) (L := [(0, .row true 2 ((List.set (List.set x5 x4.toNat (x3, u0.2)) x4.toNat (u1.1, w64 (x3 + 1))).map eNote))]) [0, 1, 5] [(0, 0)] 1 ⟨_, by rfl, hF⟩
 refine w_exit (thenQ_e (thenQ_e (blockQ_e (thenQ_n (ws 257 385 (qr (AI x3) (qr (AI x3) (r_nil (w_ret ?_)))))))))
 cases hF
 exact endM_r rfl rfl (by first | rfl | (simp [List.take_of_length_le]; first | exact ⟨rfl, rfl⟩ | rfl)) (by simp)

end Go.Ab
