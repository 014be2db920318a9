import Derived.Test.YtnideigmfhhedaaGreatDoorMP
set_option linter.unusedVariables false
namespace Go.Ab
open Go.RowKit
abbrev rg (d : Nat) (k : AO) : MI := ⟨some d, none, k⟩
abbrev mvt (d x : Nat) : MI := ⟨some d, none, .p true (.mv (.t x))⟩
abbrev t0 : X := .t 0
abbrev t1 : X := .t 1
abbrev t2 : X := .t 2
abbrev t3 : X := .t 3
abbrev t4 : X := .t 4
abbrev t5 : X := .t 5
abbrev t6 : X := .t 6
abbrev t7 : X := .t 7
abbrev t8 : X := .t 8
abbrev t9 : X := .t 9
abbrev t10 : X := .t 10
abbrev t11 : X := .t 11
abbrev t12 : X := .t 12
abbrev t13 : X := .t 13
abbrev t14 : X := .t 14
abbrev t15 : X := .t 15
abbrev t16 : X := .t 16
abbrev t17 : X := .t 17
abbrev t18 : X := .t 18
abbrev t19 : X := .t 19
abbrev t20 : X := .t 20
abbrev t21 : X := .t 21
abbrev t22 : X := .t 22
abbrev t23 : X := .t 23
abbrev t24 : X := .t 24
abbrev t25 : X := .t 25
abbrev t26 : X := .t 26
abbrev t27 : X := .t 27
abbrev t28 : X := .t 28
abbrev t29 : X := .t 29
abbrev t30 : X := .t 30
abbrev t31 : X := .t 31
abbrev t32 : X := .t 32
abbrev t33 : X := .t 33
abbrev t34 : X := .t 34
abbrev t35 : X := .t 35
abbrev t36 : X := .t 36
abbrev t37 : X := .t 37
abbrev t38 : X := .t 38
abbrev t39 : X := .t 39
abbrev t40 : X := .t 40
abbrev t41 : X := .t 41
abbrev t42 : X := .t 42
abbrev t43 : X := .t 43
abbrev t44 : X := .t 44
abbrev t45 : X := .t 45
abbrev t46 : X := .t 46
abbrev t47 : X := .t 47
abbrev t48 : X := .t 48
abbrev t49 : X := .t 49
abbrev t50 : X := .t 50
abbrev t51 : X := .t 51
abbrev t52 : X := .t 52
abbrev t53 : X := .t 53
abbrev t54 : X := .t 54
abbrev t55 : X := .t 55
abbrev t56 : X := .t 56
abbrev t57 : X := .t 57
abbrev t58 : X := .t 58
abbrev t59 : X := .t 59
abbrev t60 : X := .t 60
abbrev t61 : X := .t 61
abbrev t62 : X := .t 62
abbrev t63 : X := .t 63
abbrev t64 : X := .t 64
abbrev t65 : X := .t 65
abbrev t66 : X := .t 66
abbrev t67 : X := .t 67
abbrev t68 : X := .t 68
abbrev t69 : X := .t 69
abbrev t70 : X := .t 70
abbrev t71 : X := .t 71
abbrev t72 : X := .t 72
abbrev t73 : X := .t 73
abbrev t74 : X := .t 74
abbrev t75 : X := .t 75
abbrev t76 : X := .t 76
abbrev t78 : X := .t 78
abbrev t79 : X := .t 79
abbrev t80 : X := .t 80
abbrev t81 : X := .t 81
abbrev t82 : X := .t 82
abbrev t83 : X := .t 83
abbrev t84 : X := .t 84
abbrev t85 : X := .t 85
abbrev t86 : X := .t 86
abbrev t87 : X := .t 87
abbrev t88 : X := .t 88
abbrev t89 : X := .t 89
abbrev t90 : X := .t 90
abbrev t91 : X := .t 91
abbrev t92 : X := .t 92
abbrev t93 : X := .t 93
abbrev t94 : X := .t 94
abbrev t95 : X := .t 95
abbrev t96 : X := .t 96
abbrev t97 : X := .t 97
abbrev t105 : X := .t 105
abbrev t107 : X := .t 107
abbrev t108 : X := .t 108
abbrev t109 : X := .t 109
abbrev t110 : X := .t 110
abbrev t111 : X := .t 111
abbrev t113 : X := .t 113
abbrev t114 : X := .t 114
abbrev t115 : X := .t 115
abbrev t116 : X := .t 116
abbrev t119 : X := .t 119
abbrev t132 : X := .t 132
abbrev t133 : X := .t 133
abbrev t134 : X := .t 134
abbrev t135 : X := .t 135
abbrev t136 : X := .t 136
abbrev t138 : X := .t 138
abbrev t139 : X := .t 139
abbrev t140 : X := .t 140
abbrev t141 : X := .t 141
abbrev t146 : X := .t 146
abbrev ci (n : Int) : X := .c (.int .i64 n)
abbrev cf : X := .c (.bool false)
abbrev ct : X := .c (.bool true)
abbrev pT (d : Nat) (m : MO) : MI := ⟨some d, none, .p true m⟩
abbrev pF (d : Nat) (m : MO) : MI := ⟨some d, none, .p false m⟩
abbrev gT (d g : Nat) (m : MO) : MI := ⟨some d, some (g, true), .p false m⟩
abbrev gF (d g : Nat) (m : MO) : MI := ⟨some d, some (g, false), .p false m⟩
abbrev kT (d g : Nat) (m : MO) : MI := ⟨some d, some (g, true), .p true m⟩
abbrev kF (d g : Nat) (m : MO) : MI := ⟨some d, some (g, false), .p true m⟩
abbrev mP (d : Nat) (x : X) : MI := ⟨some d, none, .p false (.mv x)⟩
abbrev mT (d g : Nat) (x : X) : MI := ⟨some d, some (g, true), .p false (.mv x)⟩
abbrev mF (d g : Nat) (x : X) : MI := ⟨some d, some (g, false), .p false (.mv x)⟩
abbrev nT (d g : Nat) (x : X) : MI := ⟨some d, some (g, true), .p true (.mv x)⟩
abbrev nF (d g : Nat) (x : X) : MI := ⟨some d, some (g, false), .p true (.mv x)⟩
@[simp] abbrev eFn (f : Nat) (_ : Unit) : V := .fn f []
@[simp] theorem roMode_fn (f : Nat) : roMode (.fn f []) = some (.fn f []) := rfl
abbrev iT (d a b z : Nat) : MI := pT d (.iad (.t a) (.t b) z)
abbrev iF (d a b z : Nat) : MI := pF d (.iad (.t a) (.t b) z)
abbrev iG (d g a b z : Nat) : MI := gT d g (.iad (.t a) (.t b) z)
abbrev iH (d g a b z : Nat) : MI := gF d g (.iad (.t a) (.t b) z)
abbrev jT (d a : Nat) (n : Int) (z : Nat) : MI := pT d (.iad (.t a) (ci n) z)
abbrev jF (d a : Nat) (n : Int) (z : Nat) : MI := pF d (.iad (.t a) (ci n) z)
abbrev jG (d g a : Nat) (n : Int) (z : Nat) : MI := gT d g (.iad (.t a) (ci n) z)
abbrev jH (d g a : Nat) (n : Int) (z : Nat) : MI := gF d g (.iad (.t a) (ci n) z)
abbrev lT (d a : Nat) : MI := pT d (.ld (.t a) 1 false)
abbrev lF (d a : Nat) : MI := pF d (.ld (.t a) 1 false)
abbrev lG (d g a : Nat) : MI := gT d g (.ld (.t a) 1 false)
abbrev lH (d g a : Nat) : MI := gF d g (.ld (.t a) 1 false)
abbrev zT (d a : Nat) : MI := pT d (.len (.t a))
abbrev zF (d a : Nat) : MI := pF d (.len (.t a))
abbrev bT (d : Nat) (o : BinOp) (x y : X) : MI := pT d (.bin o x y)
abbrev bF (d : Nat) (o : BinOp) (x y : X) : MI := pF d (.bin o x y)
abbrev bG (d g : Nat) (o : BinOp) (x y : X) : MI := gT d g (.bin o x y)
abbrev bH (d g : Nat) (o : BinOp) (x y : X) : MI := gF d g (.bin o x y)
abbrev dT (d f : Nat) (xs : List X) : MI := ⟨some d, none, .call true f xs⟩
abbrev dF (d f : Nat) (xs : List X) : MI := ⟨some d, none, .call false f xs⟩
abbrev cx (x : X) (i : Nat) : MC := .cond x .skip (.exit i)
abbrev sr (ms : List MI) (y : MC) : MC := .seq (.reg ms) y
def IsF (P : Program) (f : Nat) (c : MC) (l : List RS) : Prop := compFn P f = some (c, l) ∧ okFn P f = true
theorem bk {α β : Type} {x : Option α} {f : α → Option β} {r : β} {G : Prop} (h : x.bind f = some r) (K : ∀ a, x = some a → f a = some r → G) : G := by
 obtain ⟨a, h1, h2⟩ := bind_get h; exact K a h1 h2
theorem nk {R : Type} {p : Prop} [Decidable p] {x : Option R} {r : R} {G : Prop} (h : need p x = some r) (K : p → x = some r → G) : G := K (need_some h).1 (need_some h).2
theorem ns {R : Type} {p : Prop} [Decidable p] {x : Option R} {r : R} (h : need p x = some r) : p ∧ x = some r := need_some h
abbrev vI : Int → V := V.int .i64
abbrev AL (sz : Nat) (L : List V) : AV := .val none (.sl sz L)
section
variable {P : Program} {N : Fr} {s : St} {Q : Post0} {K : St → Prop}
theorem ws {ms : List MI} {y : MC} (b n : Nat) (h : R P b (enum 0 ms) n s (fun s => W P N y s Q)) (hb : s.next = b := by rfl) (hn : b + 64 * ms.length = n := by rfl) : W P N (.seq (.reg ms) y) s Q := w_reg_seq b n hb hn h
theorem cF {ρ : Type} {r : ρ} {x : X} {y z : MC} {b : Bool} {A B : Option ρ} (hF : (bif b then A else B) = some r) (h1 : A = some r → W P N y s Q) (h2 : B = some r → W P N z s Q) (hb : s.get x = .val none (.bool b) := by rfl) : W P N (.cond x y z) s Q := w_condF hF hb h1 h2
theorem eR {rs : List RS} {res : RV} {cs : List AV} {q : List R2} {l : List Nat} (h1 : resAV s rs = some cs := by rfl) (h2 : take2L s cs = some (q, l) := by first | rfl | (simp [List.take_of_length_le]; first | exact ⟨rfl, rfl⟩ | rfl)) (h3 : l.Nodup := by simp) (h4 : res = mkRV q := by first | rfl | simp [List.take_of_length_le]) : EndQ rs res .ret s := endQ_r h1 (.inl ⟨q, l, h2, h3, h4⟩)
theorem wr {m : MC} {l l' : List (Nat × AV)} {o : Objs} {n : Nat} {L : List (Nat × Root)} (ks : List Nat) (ps : List (Nat × Nat)) (n' : Nat) (h : W P N m (mkS l' (fo L) n') Q) (hl : keepA ps l ks = some l' := by first | rfl | simp) (ho : keepO ps o ps = some L := by first | rfl | simp) (h1 : (ps.map (·.1)).Nodup := by decide) (h2 : (ps.map (·.2)).Nodup := by decide) (h3 : ∀ p ∈ ps, p.2 < n' := by decide) : W P N m (mkS l o n) Q := w_ren ks ps n' hl ho h1 h2 h3 h
theorem ar {l l' : List (Nat × AV)} {o : Objs} {n : Nat} {L : List (Nat × Root)} (ks : List Nat) (ps : List (Nat × Nat)) (n' : Nat) (h : K (mkS l' (fo L) n')) (hl : keepA ps l ks = some l' := by first | rfl | simp) (ho : keepO ps o ps = some L := by first | rfl | simp) (h1 : (ps.map (·.1)).Nodup := by decide) (h2 : (ps.map (·.2)).Nodup := by decide) (h3 : ∀ p ∈ ps, p.2 < n' := by decide) : Aw N (mkS l o n) K := aw_ren ks ps n' hl ho h1 h2 h3 h
end
section
variable {P : Program} {N : Fr} {K : St → Prop} {b n nn : Nat} {l : List (Nat × AV)} {o : Objs} {ll : List (Nat × MI)}
theorem qr {k : Bool} {d i : Nat} {m : MO} (av : AV) (h : R P b ll nn (mkS ((d, av) :: l) o n) K) (he : ev (mkS l o n) m = some av := by rfl) : R P b ((i, ⟨some d, none, .p k m⟩) :: ll) nn (mkS l o n) K := qp av he h
theorem qb {k : Bool} {d i : Nat} {m : MO} (h : R P b ll nn (mkS ((d, AB false) :: l) o n) K) (he : ev (mkS l o n) m = some (AB false) := by rfl) : R P b ((i, ⟨some d, none, .p k m⟩) :: ll) nn (mkS l o n) K := qp _ he h
theorem qt {k : Bool} {d i : Nat} {m : MO} (h : R P b ll nn (mkS ((d, AB true) :: l) o n) K) (he : ev (mkS l o n) m = some (AB true) := by rfl) : R P b ((i, ⟨some d, none, .p k m⟩) :: ll) nn (mkS l o n) K := qp _ he h
theorem qn2 {d0 d1 u0 u1 i0 i1 : Nat} {c0 c1 : Bool} {m0 m1 : AO} (h : R P b ll nn (mkS ((d1, .undef) :: (d0, .undef) :: l) o n) K) (h0 : fr (l) u0 = .val none (.bool (!c0)) := by rfl) (h1 : fr ((d0, .undef) :: l) u1 = .val none (.bool (!c1)) := by rfl) : R P b ((i0, ⟨some d0, some (u0, c0), m0⟩) :: (i1, ⟨some d1, some (u1, c1), m1⟩) :: ll) nn (mkS l o n) K := qn h0 (qn h1 h)
theorem qn3 {d0 d1 d2 u0 u1 u2 i0 i1 i2 : Nat} {c0 c1 c2 : Bool} {m0 m1 m2 : AO} (h : R P b ll nn (mkS ((d2, .undef) :: (d1, .undef) :: (d0, .undef) :: l) o n) K) (h0 : fr (l) u0 = .val none (.bool (!c0)) := by rfl) (h1 : fr ((d0, .undef) :: l) u1 = .val none (.bool (!c1)) := by rfl) (h2 : fr ((d1, .undef) :: (d0, .undef) :: l) u2 = .val none (.bool (!c2)) := by rfl) : R P b ((i0, ⟨some d0, some (u0, c0), m0⟩) :: (i1, ⟨some d1, some (u1, c1), m1⟩) :: (i2, ⟨some d2, some (u2, c2), m2⟩) :: ll) nn (mkS l o n) K := qn h0 (qn h1 (qn h2 h))
theorem qn4 {d0 d1 d2 d3 u0 u1 u2 u3 i0 i1 i2 i3 : Nat} {c0 c1 c2 c3 : Bool} {m0 m1 m2 m3 : AO} (h : R P b ll nn (mkS ((d3, .undef) :: (d2, .undef) :: (d1, .undef) :: (d0, .undef) :: l) o n) K) (h0 : fr (l) u0 = .val none (.bool (!c0)) := by rfl) (h1 : fr ((d0, .undef) :: l) u1 = .val none (.bool (!c1)) := by rfl) (h2 : fr ((d1, .undef) :: (d0, .undef) :: l) u2 = .val none (.bool (!c2)) := by rfl) (h3 : fr ((d2, .undef) :: (d1, .undef) :: (d0, .undef) :: l) u3 = .val none (.bool (!c3)) := by rfl) : R P b ((i0, ⟨some d0, some (u0, c0), m0⟩) :: (i1, ⟨some d1, some (u1, c1), m1⟩) :: (i2, ⟨some d2, some (u2, c2), m2⟩) :: (i3, ⟨some d3, some (u3, c3), m3⟩) :: ll) nn (mkS l o n) K := qn h0 (qn h1 (qn h2 (qn h3 h)))
theorem qn5 {d0 d1 d2 d3 d4 u0 u1 u2 u3 u4 i0 i1 i2 i3 i4 : Nat} {c0 c1 c2 c3 c4 : Bool} {m0 m1 m2 m3 m4 : AO} (h : R P b ll nn (mkS ((d4, .undef) :: (d3, .undef) :: (d2, .undef) :: (d1, .undef) :: (d0, .undef) :: l) o n) K) (h0 : fr (l) u0 = .val none (.bool (!c0)) := by rfl) (h1 : fr ((d0, .undef) :: l) u1 = .val none (.bool (!c1)) := by rfl) (h2 : fr ((d1, .undef) :: (d0, .undef) :: l) u2 = .val none (.bool (!c2)) := by rfl) (h3 : fr ((d2, .undef) :: (d1, .undef) :: (d0, .undef) :: l) u3 = .val none (.bool (!c3)) := by rfl) (h4 : fr ((d3, .undef) :: (d2, .undef) :: (d1, .undef) :: (d0, .undef) :: l) u4 = .val none (.bool (!c4)) := by rfl) : R P b ((i0, ⟨some d0, some (u0, c0), m0⟩) :: (i1, ⟨some d1, some (u1, c1), m1⟩) :: (i2, ⟨some d2, some (u2, c2), m2⟩) :: (i3, ⟨some d3, some (u3, c3), m3⟩) :: (i4, ⟨some d4, some (u4, c4), m4⟩) :: ll) nn (mkS l o n) K := qn h0 (qn h1 (qn h2 (qn h3 (qn h4 h))))
theorem qn6 {d0 d1 d2 d3 d4 d5 u0 u1 u2 u3 u4 u5 i0 i1 i2 i3 i4 i5 : Nat} {c0 c1 c2 c3 c4 c5 : Bool} {m0 m1 m2 m3 m4 m5 : AO} (h : R P b ll nn (mkS ((d5, .undef) :: (d4, .undef) :: (d3, .undef) :: (d2, .undef) :: (d1, .undef) :: (d0, .undef) :: l) o n) K) (h0 : fr (l) u0 = .val none (.bool (!c0)) := by rfl) (h1 : fr ((d0, .undef) :: l) u1 = .val none (.bool (!c1)) := by rfl) (h2 : fr ((d1, .undef) :: (d0, .undef) :: l) u2 = .val none (.bool (!c2)) := by rfl) (h3 : fr ((d2, .undef) :: (d1, .undef) :: (d0, .undef) :: l) u3 = .val none (.bool (!c3)) := by rfl) (h4 : fr ((d3, .undef) :: (d2, .undef) :: (d1, .undef) :: (d0, .undef) :: l) u4 = .val none (.bool (!c4)) := by rfl) (h5 : fr ((d4, .undef) :: (d3, .undef) :: (d2, .undef) :: (d1, .undef) :: (d0, .undef) :: l) u5 = .val none (.bool (!c5)) := by rfl) : R P b ((i0, ⟨some d0, some (u0, c0), m0⟩) :: (i1, ⟨some d1, some (u1, c1), m1⟩) :: (i2, ⟨some d2, some (u2, c2), m2⟩) :: (i3, ⟨some d3, some (u3, c3), m3⟩) :: (i4, ⟨some d4, some (u4, c4), m4⟩) :: (i5, ⟨some d5, some (u5, c5), m5⟩) :: ll) nn (mkS l o n) K := qn h0 (qn h1 (qn h2 (qn h3 (qn h4 (qn h5 h)))))
theorem qn7 {d0 d1 d2 d3 d4 d5 d6 u0 u1 u2 u3 u4 u5 u6 i0 i1 i2 i3 i4 i5 i6 : Nat} {c0 c1 c2 c3 c4 c5 c6 : Bool} {m0 m1 m2 m3 m4 m5 m6 : AO} (h : R P b ll nn (mkS ((d6, .undef) :: (d5, .undef) :: (d4, .undef) :: (d3, .undef) :: (d2, .undef) :: (d1, .undef) :: (d0, .undef) :: l) o n) K) (h0 : fr (l) u0 = .val none (.bool (!c0)) := by rfl) (h1 : fr ((d0, .undef) :: l) u1 = .val none (.bool (!c1)) := by rfl) (h2 : fr ((d1, .undef) :: (d0, .undef) :: l) u2 = .val none (.bool (!c2)) := by rfl) (h3 : fr ((d2, .undef) :: (d1, .undef) :: (d0, .undef) :: l) u3 = .val none (.bool (!c3)) := by rfl) (h4 : fr ((d3, .undef) :: (d2, .undef) :: (d1, .undef) :: (d0, .undef) :: l) u4 = .val none (.bool (!c4)) := by rfl) (h5 : fr ((d4, .undef) :: (d3, .undef) :: (d2, .undef) :: (d1, .undef) :: (d0, .undef) :: l) u5 = .val none (.bool (!c5)) := by rfl) (h6 : fr ((d5, .undef) :: (d4, .undef) :: (d3, .undef) :: (d2, .undef) :: (d1, .undef) :: (d0, .undef) :: l) u6 = .val none (.bool (!c6)) := by rfl) : R P b ((i0, ⟨some d0, some (u0, c0), m0⟩) :: (i1, ⟨some d1, some (u1, c1), m1⟩) :: (i2, ⟨some d2, some (u2, c2), m2⟩) :: (i3, ⟨some d3, some (u3, c3), m3⟩) :: (i4, ⟨some d4, some (u4, c4), m4⟩) :: (i5, ⟨some d5, some (u5, c5), m5⟩) :: (i6, ⟨some d6, some (u6, c6), m6⟩) :: ll) nn (mkS l o n) K := qn h0 (qn h1 (qn h2 (qn h3 (qn h4 (qn h5 (qn h6 h))))))
theorem qn8 {d0 d1 d2 d3 d4 d5 d6 d7 u0 u1 u2 u3 u4 u5 u6 u7 i0 i1 i2 i3 i4 i5 i6 i7 : Nat} {c0 c1 c2 c3 c4 c5 c6 c7 : Bool} {m0 m1 m2 m3 m4 m5 m6 m7 : AO} (h : R P b ll nn (mkS ((d7, .undef) :: (d6, .undef) :: (d5, .undef) :: (d4, .undef) :: (d3, .undef) :: (d2, .undef) :: (d1, .undef) :: (d0, .undef) :: l) o n) K) (h0 : fr (l) u0 = .val none (.bool (!c0)) := by rfl) (h1 : fr ((d0, .undef) :: l) u1 = .val none (.bool (!c1)) := by rfl) (h2 : fr ((d1, .undef) :: (d0, .undef) :: l) u2 = .val none (.bool (!c2)) := by rfl) (h3 : fr ((d2, .undef) :: (d1, .undef) :: (d0, .undef) :: l) u3 = .val none (.bool (!c3)) := by rfl) (h4 : fr ((d3, .undef) :: (d2, .undef) :: (d1, .undef) :: (d0, .undef) :: l) u4 = .val none (.bool (!c4)) := by rfl) (h5 : fr ((d4, .undef) :: (d3, .undef) :: (d2, .undef) :: (d1, .undef) :: (d0, .undef) :: l) u5 = .val none (.bool (!c5)) := by rfl) (h6 : fr ((d5, .undef) :: (d4, .undef) :: (d3, .undef) :: (d2, .undef) :: (d1, .undef) :: (d0, .undef) :: l) u6 = .val none (.bool (!c6)) := by rfl) (h7 : fr ((d6, .undef) :: (d5, .undef) :: (d4, .undef) :: (d3, .undef) :: (d2, .undef) :: (d1, .undef) :: (d0, .undef) :: l) u7 = .val none (.bool (!c7)) := by rfl) : R P b ((i0, ⟨some d0, some (u0, c0), m0⟩) :: (i1, ⟨some d1, some (u1, c1), m1⟩) :: (i2, ⟨some d2, some (u2, c2), m2⟩) :: (i3, ⟨some d3, some (u3, c3), m3⟩) :: (i4, ⟨some d4, some (u4, c4), m4⟩) :: (i5, ⟨some d5, some (u5, c5), m5⟩) :: (i6, ⟨some d6, some (u6, c6), m6⟩) :: (i7, ⟨some d7, some (u7, c7), m7⟩) :: ll) nn (mkS l o n) K := qn h0 (qn h1 (qn h2 (qn h3 (qn h4 (qn h5 (qn h6 (qn h7 h)))))))
theorem eQ {ρ : Type} {r a : ρ} {f : ρ → RV} {s : St} {rs : List RS} {cs : List AV} {q : List R2} {ls : List Nat} (hF : some a = some r) (h1 : resAV s rs = some cs := by rfl) (h2 : take2L s cs = some (q, ls) := by first | rfl | (simp [List.take_of_length_le]; first | exact ⟨rfl, rfl⟩ | rfl)) (h3 : ls.Nodup := by simp) (h4 : f a = mkRV q := by first | rfl | simp [List.take_of_length_le]) : EndQ rs (f r) .ret s := by
 cases hF; exact eR h1 h2 h3 h4
variable {L : List (Nat × Root)} {i : Nat} in
theorem qC {k : Bool} {d f : Nat} {xs : List X} {Vs : List V} {res : RV} {c : MC} {rl : List RS} (av : AV) (L' : List (Nat × Root)) (hc : Con P f Vs res) (hok : IsF P f c rl) (h : R P b ll nn (mkS ((d, av) :: l) (fo L') n) K) (ht : trav (snap false (mkS l (fo L) n) 8) (xs.map (mkS l (fo L) n).get) = some Vs := by first | rfl | simp) (hp : plV (b + 64 * i) (fo L) res = (av, fo L') := by rfl) (hfit : res.fits = true := by rfl) :
  R P b ((i, ⟨some d, none, .call k f xs⟩) :: ll) nn (mkS l (fo L) n) K := qc av L' false hc hok.2 ht hp h hfit (fun h => by cases h)
variable {L : List (Nat × Root)} {i : Nat} in
theorem qG {k : Bool} {d f t : Nat} {gb : Bool} {xs : List X} {Vs : List V} {res : RV} {c : MC} {rl : List RS} (av : AV) (L' : List (Nat × Root)) (hc : Con P f Vs res) (hok : IsF P f c rl) (h : R P b ll nn (mkS ((d, av) :: l) (fo L') n) K) (hg : fr l t = .val none (.bool gb) := by rfl) (ht : trav (snap false (mkS l (fo L) n) 8) (xs.map (mkS l (fo L) n).get) = some Vs := by first | rfl | simp) (hp : plV (b + 64 * i) (fo L) res = (av, fo L') := by rfl) (hfit : res.fits = true := by rfl) :
  R P b ((i, ⟨some d, some (t, gb), .call k f xs⟩) :: ll) nn (mkS l (fo L) n) K := qcg av L' false hg hc hok.2 ht hp h hfit (fun h => by cases h)
theorem rR {ρ : Type} {r a : ρ} {f : ρ → RV} {rs : List RS} {cs : List AV} {q : List R2} {ls : List Nat} (hF : some a = some r) (h1 : resAV (mkS l o nn) rs = some cs := by rfl) (h2 : take2L (mkS l o nn) cs = some (q, ls) := by first | rfl | (simp [List.take_of_length_le]; first | exact ⟨rfl, rfl⟩ | rfl)) (h3 : ls.Nodup := by simp) (h4 : f a = mkRV q := by first | rfl | simp [List.take_of_length_le]) : R P b [] nn (mkS l o n) (fun s => W P N .ret s (EndQ rs (f r))) := by
 cases hF; exact r_nil (w_ret (endQ_r h1 (.inl ⟨q, ls, h2, h3, h4⟩)))
end
theorem Rep.pre {w : World} {D : BSet} {cs rest : List V} {x : Value} {S : BSet} (h : Rep w D false (.ptr (cs ++ rest)) x S) : Rep w D false (.ptr cs) x S := by
 cases h with
 | ptr hD hb h1 h =>
  obtain ⟨x1, x2, S1, S2, rfl, hx, _⟩ := h.split
  obtain ⟨cur, e, fz, hc, hv⟩ := hb
  refine .ptr hD ⟨cur, e, fz, hc, fun j u hj => hv j u ?_⟩ (fun c hc => h1 c (List.mem_append_left _ hc)) hx.ro
  rw [List.getElem?_append_left (by
   rcases Nat.lt_or_ge j x1.length with h | h
   ·exact h
   ·rw [List.getElem?_eq_none h] at hj; cases hj)]
  exact hj
section
variable {P : Program} {f : FuncId} {cs a : List V} {res : RV} {x y : V}
end
end Go.Ab
