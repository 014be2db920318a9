import Derived.Test.YtpnmhfbiaajaeaaGreatDoorA1
set_option linter.unusedVariables false
set_option linter.unusedSimpArgs false
namespace Go.Ab
open Go.RowKit
inductive X where
 | t (n : Nat)
 | c (v : V)
 | f (n : Nat)
 deriving Inhabited
def St.get (s : St) : X → AV
 | .t n => s.tmps n
 | .c v => .val none v
 | .f n => .fn n []
def V.scalar : V → Bool
 | .int _ _ | .bool _ | .str _ => true
 | _ => false
def V.plain : V → Bool
 | .int _ _ | .bool _ | .str _ => true
 | .agg cs => cs.all V.scalar
 | _ => false
def St.view (s : St) : AV → Option (Option Nat × V)
 | .val none v => some (none, v)
 | .val (some r) v => if live (s.objs r) = true then some (some r, v) else none
 | _ => none
def mk (src : Option Nat) (v : V) : AV := if v.plain = true then .val none v else .val src v
def binI (op : BinOp) (k : IntKind) (a b : Int) : Option V :=
 match op with
 | .add => some (.int k (k.wrap (a + b)))
 | .sub => some (.int k (k.wrap (a - b)))
 | .mul => some (.int k (k.wrap (a * b)))
 | .quo => if b = 0 then none else some (.int k (k.wrap (a.tdiv b)))
 | .rem => if b = 0 then none else some (.int k (a.tmod b))
 | .and => some (.int k (k.wrap ((BitVec.ofInt k.bits a &&& BitVec.ofInt k.bits b).toNat)))
 | .or => some (.int k (k.wrap ((BitVec.ofInt k.bits a ||| BitVec.ofInt k.bits b).toNat)))
 | .xor => some (.int k (k.wrap ((BitVec.ofInt k.bits a ^^^ BitVec.ofInt k.bits b).toNat)))
 | .eql => some (.bool (decide (a = b)))
 | .neq => some (.bool (decide (a ≠ b)))
 | .lss => some (.bool (decide (a < b)))
 | .leq => some (.bool (decide (a ≤ b)))
 | .gtr => some (.bool (decide (b < a)))
 | .geq => some (.bool (decide (b ≤ a)))
 | _ => none
def binS (op : BinOp) (a b : List UInt8) : Option V :=
 match op with
 | .add => if a.length + b.length < 9223372036854775808 then some (.str (a ++ b)) else none
 | .eql => some (.bool (decide (a = b)))
 | .neq => some (.bool (decide (a ≠ b)))
 | .lss => some (.bool (Op.bytesLess a b))
 | .leq => some (.bool (Op.bytesLess a b || decide (a = b)))
 | .gtr => some (.bool (!(Op.bytesLess a b || decide (a = b))))
 | .geq => some (.bool (!Op.bytesLess a b))
 | _ => none
def binV (op : BinOp) : V → V → Option V
 | .int k a, .int k' b =>
  match op with
  | .shl => if b < 0 then none else some (.int k (k.wrap (a * 2 ^ (min b.toNat k.bits))))
  | .shr => if b < 0 then none else some (.int k (a.fdiv (2 ^ (min b.toNat k.bits))))
  | op => if k = k' then binI op k a b else none
 | .str a, .str b => binS op a b
 | _, _ => none
def ldV (cs : List V) (f n : Nat) (ag : Bool) : Option V :=
 if ag = true then (if f + n ≤ cs.length then some (.agg ((cs.drop f).take n)) else none) else cs[f]?
inductive MO where
 | mv (x : X)
 | pick (c a b : X)
 | nck (x : X)
 | bin (op : BinOp) (x y : X)
 | bnb (neg : Bool) (x y : X)
 | eqs (neg : Bool) (ks : List Nat) (x y : X)
 | not (x : X)
 | neg (x : X)
 | conv (k : IntKind) (x : X)
 | cvs (x : X)
 | bts (x : X)
 | fad (x : X) (f : Nat)
 | fld (x : X) (f n : Nat) (ag : Bool)
 | iad (x i : X) (sz : Nat)
 | ixs (x i : X)
 | ixa (x i : X) (len sz : Nat) (ag : Bool)
 | ld (x : X) (n : Nat) (ag : Bool)
 | slc (x : X) (lo hi : Option X) (sz : Nat)
 | slc3 (x : X) (lo hi mx : Option X) (sz : Nat)
 | slcs (x : X) (lo hi : Option X)
 | ext (x : X) (j : Nat)
 | len (x : X)
 | lens (x : X)
 | isn (neg : Bool) (x : X)
 | mnx (mx : Bool) (x y : X)
 | mkf (f : Nat) (caps : List X)
 | mlk (kd : Nat) (x k : X) (z : Sc) (ok : Bool)
 deriving Inhabited
def sameSc : Nat → Sc → Sc → Option Bool
 | 0, .int k a, .int k' b => if k = k' then some (a == b) else none
 | 1, .bool a, .bool b => some (a == b)
 | 2, .str a, .str b => some (decide (a = b))
 | _, _, _ => none
def mfind (kd : Nat) (k : Sc) : List (Sc × Sc) → Nat → Option (Option (Nat × Sc))
 | [], _ => some none
 | (k', v) :: es, i => match sameSc kd k k' with
  | some true => some (some (i, v))
  | some false => mfind kd k es (i + 1)
  | none => none
def asI : Option (Option Nat × V) → Option Int
 | some (_, .int _ n) => some n
 | _ => none
def bnd (s : St) (d : Nat) : Option X → Option Nat
 | none => some d
 | some x => match asI (s.view (s.get x)) with
  | some i => if 0 ≤ i then some i.toNat else none
  | none => none
def eqVs : List Nat → List V → List V → Option Bool
 | [], [], [] => some true
 | 0 :: ks, .int k a :: l, .int k' b :: l' => match eqVs ks l l' with
  | some r => if k = k' then some (decide (a = b) && r) else none
  | none => none
 | 1 :: ks, .bool a :: l, .bool b :: l' => match eqVs ks l l' with
  | some r => some ((a == b) && r)
  | none => none
 | 2 :: ks, .str a :: l, .str b :: l' => match eqVs ks l l' with
  | some r => some (decide (a = b) && r)
  | none => none
 | _, _, _ => none
def plainL : List AV → Option (List V)
 | [] => some []
 | .val none v :: l => match plainL l with
  | some vs => some (v :: vs)
  | none => none
 | _ :: _ => none
def aggOf (s : St) : AV → Option (List V)
 | .agg cs => plainL cs
 | c => match s.view c with
  | some (_, .agg cs) => some cs
  | _ => none
def bytesOf : List V → Option (List UInt8)
 | [] => some []
 | .int .u8 n :: l => match bytesOf l with
  | some b => some (UInt8.ofNat n.toNat :: b)
  | none => none
 | _ => none
def mapOf (s : St) : AV → Option (List (Sc × Sc))
 | .mp r => match s.objs r with
  | some (.map es) => some es
  | _ => none
 | y => match s.view y with
  | some (_, .mp es) => some es
  | _ => none
def scOf (s : St) (c : AV) : Option Sc := match s.view c with
 | some (_, v) => v.sc
 | none => none
def ev (s : St) : MO → Option AV
 | .mv x => some (s.get x)
 | .pick c a b => match s.view (s.get c) with
  | some (_, .bool t) => some (if t = true then s.get a else s.get b)
  | _ => none
 | .nck x => match s.get x with
  | .ptr r i f => if cel (s.objs r) = true then some (.ptr r i f) else none
  | .fn f cs => some (.fn f cs)
  | y => match s.view y with
   | some (src, .ptr cs) => some (.val src (.ptr cs))
   | some (src, .fn f cs) => some (.val src (.fn f cs))
   | _ => none
 | .bin op x y => match s.view (s.get x), s.view (s.get y) with
  | some (_, u), some (_, v) => (binV op u v).map (AV.val none)
  | _, _ => none
 | .bnb neg x y => match s.view (s.get x), s.view (s.get y) with
  | some (_, .bool u), some (_, .bool v) => some (.val none (.bool (if neg = true then u != v else u == v)))
  | _, _ => none
 | .eqs neg ks x y => match aggOf s (s.get x), aggOf s (s.get y) with
  | some u, some v => match eqVs ks u v with
   | some r => some (.val none (.bool (if neg = true then !r else r)))
   | none => none
  | _, _ => none
 | .not x => match s.view (s.get x) with
  | some (_, .bool u) => some (.val none (.bool (!u)))
  | _ => none
 | .neg x => match s.view (s.get x) with
  | some (_, .int k n) => some (.val none (.int k (k.wrap (0 - n))))
  | _ => none
 | .conv k x => match s.view (s.get x) with
  | some (_, .int _ n) => some (.val none (.int k (k.wrap n)))
  | _ => none
 | .cvs x => match s.view (s.get x) with
  | some (_, .str b) => some (.val none (.str b))
  | _ => none
 | .bts x => match s.get x with
  | .sl r off len => match s.objs r with
   | some (.row _ sz L) => if sz = 1 then (match bytesOf ((L.drop off).take len) with
    | some b => some (.val none (.str b))
    | none => none) else none
   | _ => none
  | y => match s.view y with
   | some (_, .sl sz L) => if sz = 1 then (match bytesOf L with
    | some b => some (.val none (.str b))
    | none => none) else none
   | _ => none
 | .fad x f => match s.get x with
  | .ptr r i g => if cel (s.objs r) = true then some (.ptr r i (g + f)) else none
  | y => match s.view y with
   | some (src, .ptr cs) => some (.val src (.ptr (cs.drop f)))
   | _ => none
 | .fld x f n ag => match s.get x with
  | .agg cs => if ag = true then (if f + n ≤ cs.length then some (.agg ((cs.drop f).take n)) else none) else cs[f]?
  | y => match s.view y with
   | some (src, .agg cs) => (ldV cs f n ag).map (mk src)
   | _ => none
 | .iad x i sz => match asI (s.view (s.get i)) with
  | none => none
  | some n => if 0 ≤ n then
   (match s.get x with
    | .sl r off len => match s.objs r with
     | some (.row _ sz' _) => if sz' = sz ∧ n.toNat < len then some (.ptr r (off + n.toNat) 0) else none
     | _ => none
    | y => match s.view y with
     | some (src, .sl sz' L) => match L[n.toNat]? with
      | some e => if sz' = sz then some (.val src (.ptr e.cells)) else none
      | none => none
     | _ => none)
   else none
 | .ixs x i => match asI (s.view (s.get i)), s.view (s.get x) with
  | some n, some (_, .str b) => if 0 ≤ n then (match b[n.toNat]? with
    | some c => some (.val none (.int .u8 c.toNat))
    | none => none) else none
  | _, _ => none
 | .ixa x i len sz ag => match asI (s.view (s.get i)) with
  | none => none
  | some n => if 0 ≤ n ∧ n.toNat < len then
   (match s.get x with
    | .agg cs => if ag = true then (if n.toNat * sz + sz ≤ cs.length then some (.agg ((cs.drop (n.toNat * sz)).take sz)) else none) else cs[n.toNat * sz]?
    | y => match s.view y with
     | some (src, .agg cs) => (ldV cs (n.toNat * sz) sz ag).map (mk src)
     | _ => none) else none
 | .ld x n ag => match s.get x with
  | .ptr r i f => match s.objs r with
   | some (.row _ _ L) => match L[i]? with
    | some e => (ldV e.cells f n ag).map (mk (some r))
    | none => none
   | some (.box cs) => if ag = true then (if f + n ≤ cs.length then some (.agg ((cs.drop f).take n)) else none) else cs[f]?
   | _ => none
  | y => match s.view y with
   | some (src, .ptr cs) => (ldV cs 0 n ag).map (mk src)
   | _ => none
 | .slc3 x lo hi mx sz => match s.get x with
  | .sl r off len => match s.objs r with
   | some (.row _ sz' L) => match bnd s 0 lo, bnd s len hi, bnd s 0 mx with
    | some l, some h, some m => if hi.isSome = true ∧ mx.isSome = true ∧ sz' = sz ∧ l ≤ h ∧ h ≤ m ∧ off + m ≤ L.length then some .bad else none
    | _, _, _ => none
   | _ => none
  | _ => none
 | .slc x lo hi sz => match s.get x with
  | .sl r off len => match s.objs r with
   | some (.row _ sz' L) => match bnd s 0 lo, bnd s len hi with
    | some l, some h => if sz' = sz ∧ l ≤ h ∧ off + h ≤ L.length then some (.sl r (off + l) (h - l)) else none
    | _, _ => none
   | _ => none
  | y => match s.view y with
   | some (src, .sl sz' L) => match bnd s 0 lo, bnd s L.length hi with
    | some l, some h => if sz' = sz ∧ l ≤ h ∧ h ≤ L.length then some (.val src (.sl sz ((L.take h).drop l))) else none
    | _, _ => none
   | _ => none
 | .slcs x lo hi => match s.view (s.get x) with
  | some (_, .str b) => match bnd s 0 lo, bnd s b.length hi with
   | some l, some h => if l ≤ h ∧ h ≤ b.length then some (.val none (.str ((b.take h).drop l))) else none
   | _, _ => none
  | _ => none
 | .ext x j => match s.get x with
  | .tup cs => cs[j]?
  | _ => none
 | .len x => match s.get x with
  | .sl r _ n => match s.objs r with
   | some (.row _ _ _) => some (.val none (.int .i64 n))
   | _ => none
  | y => match s.view y with
   | some (_, .sl _ L) => some (.val none (.int .i64 L.length))
   | _ => none
 | .isn neg x => match s.get x with
  | .sl r off len => match s.objs r with
   | some (.row _ _ _) => some (if len = 0 then .ub else .val none (.bool neg))
   | _ => none
  | y => match s.view y with
   | some (_, .sl _ L) => some (if L.length = 0 then .ub else .val none (.bool neg))
   | _ => none
 | .lens x => match s.view (s.get x) with
  | some (_, .str b) => some (.val none (.int .i64 b.length))
  | _ => none
 | .mnx mx x y => match s.view (s.get x), s.view (s.get y) with
  | some (_, .int k a), some (_, .int _ b) => some (.val none (.int k (if mx = true then (if b > a then b else a) else (if b < a then b else a))))
  | _, _ => none
 | .mkf f caps => some (.fn f (caps.map s.get))
 | .mlk kd x k z ok => match mapOf s (s.get x), scOf s (s.get k) with
  | some es, some kv => match mfind kd kv es 0 with
   | some (some (_, v)) => some (if ok = true then .tup [.val none v.v, .val none (.bool true)] else .val none v.v)
   | some none => some (if ok = true then .tup [.val none z.v, .val none (.bool false)] else .val none z.v)
   | none => none
  | _, _ => none
end Go.Ab
