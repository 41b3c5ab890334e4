/- EvA: a part of the proof that each law of this seat answers true at every input. No condition. -/
import Derived.Calls
import Derived.OrdersHeld
import Derived.Laws.Sem
import Derived.Laws.World
import Derived.Laws.Cells
import Derived.ChangeKeysEq
import Derived.Laws.BytesString
set_option linter.unusedVariables false
set_option linter.unusedSimpArgs false
section
namespace Go.Ev
inductive V where
 | junk
 | bool (b : Bool)
 | int (k : IntKind) (n : Int)
 | str (s : List UInt8)
 | nilptr
 | ptr (i ver off : Nat)
 | fptr (cs : List V)
 | nils
 | emp
 | vs (xs : List V)
 | rs (i ver sz off len : Nat)
 | fn (f : FuncId) (cap : List V)
 | nilfn
 | niface
 | iface (t : TypeId) (v : V)
 | agg (cs : List V)
 | tup (vs : List V)
 | nilmap
 | mapr (i : Nat)
 deriving Inhabited
inductive Blk where
 | dead
 | var (cs : List V)
 | row (ver sz : Nat) (ag : Bool) (cs : List V)
 | map (es : List (V × V))
 deriving Inhabited
abbrev Qa := List Blk
def Q0 : Qa → Nat → Option Blk
 | [],_ => none
 | b :: H,i => if i = H.length then some b else Q0 H i
def ZV : Qa → Nat → Blk → Qa
 | [],_,_ => []
 | b :: H,i,x => if i = H.length then x :: H else b :: ZV H i x
def Jm (H : Qa) (base : Nat) : Qa := H.drop (H.length - base)
mutual
def V.clean : V → Bool
 | .ptr _ _ _ | .rs _ _ _ _ _ | .mapr _ | .junk => false
 | .fptr cs | .vs cs | .fn _ cs | .agg cs | .tup cs => Zd cs
 | .iface _ v => v.clean
 | _ => true
def Zd : List V → Bool
 | [] => true
 | v :: vs => v.clean && Zd vs
end
mutual
def V.maxRef : V → Nat
 | .ptr i _ _ | .rs i _ _ _ _ | .mapr i => i + 1
 | .fn _ cs | .agg cs | .tup cs => Yd cs
 | .iface _ v => v.maxRef
 | _ => 0
def Yd : List V → Nat
 | [] => 0
 | v :: vs => max v.maxRef (Yd vs)
end
def V.scal : V → Bool
 | .junk | .agg _ | .tup _ => false
 | _ => true
def V.cells : V → List V
 | .agg cs => cs
 | v => [v]
mutual
def V.beq : V → V → Bool
 | .junk,.junk | .nilptr,.nilptr | .nils,.nils | .emp,.emp | .nilfn,.nilfn | .niface,.niface | .nilmap,.nilmap => true
 | .bool a,.bool b => a == b
 | .int k a,.int l b => k == l && a == b
 | .str a,.str b => a == b
 | .ptr a b c,.ptr x y z => a == x && b == y && c == z
 | .rs a b c d e,.rs x y z u v => a == x && b == y && c == z && d == u && e == v
 | .mapr a,.mapr b => a == b
 | .fptr a,.fptr b | .vs a,.vs b | .agg a,.agg b | .tup a,.tup b => JY a b
 | .fn f a,.fn g b => f == g && JY a b
 | .iface t a,.iface u b => t == u && V.beq a b
 | _,_ => false
def JY : List V → List V → Bool
 | [],[] => true
 | x :: xs,y :: ys => V.beq x y && JY xs ys
 | _,_ => false
end
def U0 (f : Value → V) : List Value → List V
 | [] => []
 | v :: vs => f v :: U0 f vs
def GB : Value → V
 | .bool b => .bool b
 | .int k n => .int k n
 | .string s => .str s.data.toList
 | .pointer none => .nilptr
 | .slice none 0 0 => .nils
 | .map none => .nilmap
 | .nilFunc => .nilfn
 | .nilIface => .niface
 | .tuple vs => if vs.size = 0 then .tup [] else .junk
 | _ => .junk
def ofValue : Value → V
 | .agg cs => .agg (U0 GB cs.toList)
 | v => GB v
structure St where
 t : List V
 H : Qa
 d : List (FuncId × List V)
 deriving Inhabited
inductive Ex where
 | normal
 | exit (id : Nat)
 | ret
 | pan (v : V)
 deriving Inhabited
inductive Out where
 | ret (v : V)
 | pan (v : V)
 deriving Inhabited
def env (t : List V) : Operand → V
 | .tmp i => t.getD i .junk
 | .const v => ofValue v
 | .global _ => .junk
 | .func f => .fn f []
def Q5 (P : Program) (t : TypeId) : Option Nat := (P.info? t).map (·.size)
def K8 (P : Program) (t : TypeId) : Option Nat := (P.info? t).map (·.bytes)
def ZO (P : Program) (t : TypeId) : Option V := ((P.info? t).bind (·.zero)).map ofValue
def Z9 (P : Program) (t : TypeId) : Option Bool :=
 match P.underlying t with
 | some (.struct _) | some (.array _ _) => some true
 | some _ => some false
 | none => none
def Yz (P : Program) (t : TypeId) : Option TypeId :=
 match P.underlying t with
 | some (.slice e) => some e
 | _ => none
def U8 (P : Program) (t : TypeId) (f : Nat) : Option (Nat × TypeId) :=
 match P.underlying t with
 | some (.struct fs) => match fs[f]? with
  | some x => some (x.offset,x.type)
  | none => none
 | _ => none
def Kf (ag : Bool) (n : Nat) (cs : List V) : Option V :=
 if n ≤ cs.length then (if ag then some (.agg (cs.take n)) else if n = 1 then cs.head? else none) else none
def VM (H : Qa) (p : V) : Option (List V) :=
 match p with
 | .ptr i ver off => match Q0 H i with
  | some (.var cs) => if ver = 0 then some (cs.drop off) else none
  | some (.row v _ _ cs) => if ver = v then some (cs.drop off) else none
  | _ => none
 | .fptr cs => some cs
 | _ => none
def Kj (ag : Bool) (n : Nat) (H : Qa) (p : V) : Option V := (VM H p).bind (Kf ag n)
def splice (cs : List V) (off : Nat) (xs : List V) : List V := cs.take off ++ xs ++ cs.drop (off + xs.length)
def ZI : List V → Bool
 | [] => true
 | v :: vs => v.scal && ZI vs
def fits (base i m : Nat) : Bool := decide (base ≤ i) || decide (m ≤ i + 1)
def Rx (base n : Nat) (H : Qa) (p x : V) : Option Qa :=
 if x.cells.length = n ∧ ZI x.cells = true then
  match p with
  | .ptr i ver off => if fits base i x.maxRef = true then
    match Q0 H i with
    | some (.var cs) => if ver = 0 ∧ off + n ≤ cs.length then some (ZV H i (.var (splice cs off x.cells))) else none
    | some (.row v sz ag cs) => if ver = v ∧ off + n ≤ cs.length then some (ZV H i (.row v sz ag (splice cs off x.cells))) else none
    | _ => none
   else none
  | _ => none
 else none
def newVar (H : Qa) (x : V) : Option (V × Qa) :=
 if ZI x.cells = true then some (.ptr H.length 0 0,.var x.cells :: H) else none
def J0 (sz : Nat) (ag : Bool) : Nat → List V → List V
 | 0,_ => []
 | n + 1,cs => (if ag then .agg (cs.take sz) else cs.headD .junk) :: J0 sz ag n (cs.drop sz)
def flat : List V → List V
 | [] => []
 | x :: xs => x.cells ++ flat xs
def Yr : V → Option Nat
 | .nils => some 0
 | .vs xs => some xs.length
 | .rs _ _ _ _ n => some n
 | _ => none
def K4 (sz : Nat) : List V → Bool
 | [] => true
 | x :: xs => (x.cells.length == sz) && K4 sz xs
def YR (sz : Nat) (H : Qa) : V → Option (List V)
 | .nils => some []
 | .vs xs => if K4 sz xs = true then some (flat xs) else none
 | .rs i ver sz' off n => match Q0 H i with
  | some (.row v s _ cs) => if ver = v ∧ s = sz ∧ sz' = sz ∧ (off + n) * sz ≤ cs.length then some ((cs.drop (off * sz)).take (n * sz)) else none
  | _ => none
 | _ => none
def J2 : List UInt8 → List V
 | [] => []
 | b :: s => .int .u8 b.toNat :: J2 s
def Vd (n bytes : Nat) : Bool := decide (n * bytes ≤ 70368744177664) && decide (n ≤ 70368744177664)
def Ub (base : Nat) (H : Qa) (sz bytes : Nat) (ag : Bool) (s : V) (new : List V) (n : Nat) : Option (V × Qa) :=
 if ZI new = true ∧ new.length = n * sz ∧ 0 < sz then
  match s with
  | .nils => if n = 0 then some (.nils,H) else if Vd n bytes = true then some (.rs H.length 0 sz 0 n,.row 0 sz ag new :: H) else none
  | .rs i ver sz' off len => match Q0 H i with
   | some (.row v s' ag' cs) =>
    if ver = v ∧ s' = sz ∧ sz' = sz ∧ ag' = ag ∧ fits base i (Yd new) = true ∧ Vd (off + len + n) bytes = true ∧ (off + len) * sz ≤ cs.length then
     if (off + len + n) * sz ≤ cs.length then
      some (.rs i ver sz off (len + n),ZV H i (.row v sz ag (splice cs ((off + len) * sz) new)))
     else if off = 0 then
      some (.rs i (v + 1) sz 0 (len + n),ZV H i (.row (v + 1) sz ag (cs.take (len * sz) ++ new)))
     else none
    else none
   | _ => none
  | _ => none
 else none
def WU (op : BinOp) (k : IntKind) (x y : Int) : Option V :=
 match op with
 | .add => some (.int k (k.wrap (x + y)))
 | .sub => some (.int k (k.wrap (x - y)))
 | .mul => some (.int k (k.wrap (x * y)))
 | .quo => if y = 0 then none else some (.int k (k.wrap (x.tdiv y)))
 | .rem => if y = 0 then none else some (.int k (x.tmod y))
 | .and => some (.int k (k.wrap ((BitVec.ofInt k.bits x &&& BitVec.ofInt k.bits y).toNat)))
 | .or => some (.int k (k.wrap ((BitVec.ofInt k.bits x ||| BitVec.ofInt k.bits y).toNat)))
 | .xor => some (.int k (k.wrap ((BitVec.ofInt k.bits x ^^^ BitVec.ofInt k.bits y).toNat)))
 | .andNot => some (.int k (k.wrap ((BitVec.ofInt k.bits x &&& ~~~(BitVec.ofInt k.bits y)).toNat)))
 | .eql => some (.bool (x == y))
 | .neq => some (.bool (x != y))
 | .lss => some (.bool (decide (x < y)))
 | .leq => some (.bool (decide (x ≤ y)))
 | .gtr => some (.bool (decide (x > y)))
 | .geq => some (.bool (decide (x ≥ y)))
 | _ => none
def CM (op : BinOp) (k : IntKind) (x y : Int) : Option V :=
 if y < 0 then none else
 match op with
 | .shl => some (.int k (k.wrap (x * 2 ^ (min y.toNat k.bits))))
 | .shr => some (.int k (x.fdiv (2 ^ (min y.toNat k.bits))))
 | _ => none
def Xq (op : BinOp) (x y : List UInt8) : Option V :=
 match op with
 | .add => if x.length + y.length ≤ 9223372036854775807 then some (.str (x ++ y)) else none
 | .eql => some (.bool (x == y))
 | .neq => some (.bool !(x == y))
 | .lss => some (.bool (Op.bytesLess x y))
 | .leq => some (.bool (Op.bytesLess x y || x == y))
 | .gtr => some (.bool !(Op.bytesLess x y || x == y))
 | .geq => some (.bool !(Op.bytesLess x y))
 | _ => none
def KV (k : IntKind) : List V → Bool
 | [] => true
 | .int l _ :: r => (l == k) && KV k r
 | _ => false
def vEq (P : Program) (t : TypeId) (x y : V) : Option Bool :=
 match P.underlying t with
 | some .bool => match x,y with
  | .bool a,.bool b => some (a == b)
  | _,_ => none
 | some (.slice _) => match x,y with
  | .nils,.nils => some true
  | .nils,.rs _ _ _ _ _ | .rs _ _ _ _ _,.nils => some false
  | .nils,.vs (_ :: _) | .vs (_ :: _),.nils => some false
  | _,_ => none
 | some (.pointer _) => match x,y with
  | .nilptr,.nilptr => some true
  | .nilptr,.ptr _ _ _ | .ptr _ _ _,.nilptr | .nilptr,.fptr _ | .fptr _,.nilptr => some false
  | _,_ => none
 | some (.interface _) => match x,y with
  | .niface,.iface _ _ | .iface _ _,.niface => some false
  | _,_ => none
 | some (.map _ _) => match x,y with
  | .nilmap,.nilmap => some true
  | .nilmap,.mapr _ | .mapr _,.nilmap => some false
  | _,_ => none
 | some (.func _ _ _) => match x,y with
  | .nilfn,.nilfn => some true
  | .nilfn,.fn _ _ | .fn _ _,.nilfn => some false
  | _,_ => none
 | some (.array n e) => match P.underlying e with
  | some (.int k) => match x,y with
   | .agg xs,.agg ys => if xs.length = n ∧ ys.length = n ∧ KV k xs = true ∧ KV k ys = true ∧ Q5 P e = some 1 ∧ Z9 P e = some false then some (JY xs ys) else none
   | _,_ => none
  | _ => none
 | _ => none
def B9 (P : Program) (op : BinOp) (t : TypeId) (x y : V) : Option V :=
 match op with
 | .shl | .shr => match x,y with
  | .int k a,.int _ b => CM op k a b
  | _,_ => none
 | _ => match x,y with
  | .int k a,.int l b => if k = l then WU op k a b else none
  | .str a,.str b => Xq op a b
  | _,_ => match op with
   | .eql => (vEq P t x y).map .bool
   | .neq => (vEq P t x y).map fun b => .bool !b
   | _ => none
def vUn (op : UnOp) (x : V) : Option V :=
 match op,x with
 | .neg,.int k n => some (.int k (k.wrap (0 - n)))
 | .xor,.int k n => some (.int k (k.wrap ((BitVec.ofInt k.bits (if k.signed then -1 else k.max) ^^^ BitVec.ofInt k.bits n).toNat)))
 | .not,.bool b => some (.bool !b)
 | _,_ => none
def PP (P : Program) (dst : TypeId) (n : Int) : Option V :=
 match P.underlying dst with
 | some (.int k) => some (.int k (k.wrap n))
 | some .string => some (.str (Utf8.encode n).data.toList)
 | _ => none
def ZF (lo hi : Nat) (v : Option V) (d : Nat) : Option Nat :=
 match v with
 | none => some d
 | some (.int _ i) => if (lo : Int) ≤ i ∧ i ≤ (hi : Int) then some i.toNat else none
 | _ => none
def TV (sz : Nat) : List V → Bool
 | [] => true
 | x :: _ => x.cells.length == sz
def K2 (sz : Nat) (x : V) (lo hi mx : Option V) : Option V :=
 match x with
 | .nils => (ZF 0 0 mx 0).bind fun _ => if hi.isNone && mx.isSome then none else (ZF 0 0 hi 0).bind fun h => (ZF 0 h lo 0).bind fun _ => some .nils
 | .vs xs => if TV sz xs = true then
   (if mx.isSome then (if hi.isNone then none else (ZF 0 xs.length mx 0).bind fun m => (ZF 0 m hi 0).bind fun h => (ZF 0 h lo 0).bind fun l => some (.vs ((xs.take h).drop l)))
   else (ZF 0 xs.length hi xs.length).bind fun h => (ZF 0 h lo 0).bind fun l => some (.vs ((xs.take h).drop l)))
  else none
 | .rs i v s o n => if mx.isSome || s != sz then none else
  (ZF 0 n hi n).bind fun h => (ZF 0 h lo 0).bind fun l => some (.rs i v s (o + l) (h - l))
 | _ => none
def WY (x : V) (lo hi mx : Option V) : Option V :=
 match x with
 | .str s => if mx.isSome then none else
  (ZF 0 s.length hi s.length).bind fun h => (ZF 0 h lo 0).bind fun l => some (.str ((s.take h).drop l))
 | _ => none
def Y0 (v : V) : Option Nat :=
 match v with
 | .int _ i => if 0 ≤ i then some i.toNat else none
 | _ => none
def W4 (P : Program) (t : TypeId) (cs : List V) (off : Nat) : Option V :=
 (Z9 P t).bind fun ag => (Q5 P t).bind fun n => if off + n ≤ cs.length then Kf ag n (cs.drop off) else none
def K1 (p : V) (off : Nat) : Option V :=
 match p with
 | .ptr i ver o => some (.ptr i ver (o + off))
 | .fptr cs => if off ≤ cs.length then some (.fptr (cs.drop off)) else none
 | _ => none
def Vm (sz : Nat) (x : V) (i : Nat) : Option V :=
 match x with
 | .vs xs => match xs[i]? with
  | some y => if y.cells.length = sz then some (.fptr y.cells) else none
  | none => none
 | .rs b ver s off n => if i < n ∧ s = sz then some (.ptr b ver ((off + i) * sz)) else none
 | _ => none
def Js (place : Nat → Option (Nat × Nat)) (cs : List V) : List (Nat × V) → Option (List V)
 | [] => some cs
 | (i,v) :: rest => match place i with
  | none => none
  | some (off,size) => if v.cells.length = size ∧ ZI v.cells = true ∧ off + size ≤ cs.length then Js place (splice cs off v.cells) rest else none
def Y5 (t : List V) : List (Nat × Operand) → List (Nat × V)
 | [] => []
 | (i,x) :: r => (i,env t x) :: Y5 t r
def YT (t : List V) : List Operand → List V
 | [] => []
 | x :: r => env t x :: YT t r
def Ve (P : Program) : List Field → Option (List (Nat × Nat))
 | [] => some []
 | f :: fs => (Q5 P f.type).bind fun n => (Ve P fs).map fun r => (f.offset,n) :: r
def NG : V → V → Option V
 | .int k x,.int _ y => some (.int k (if y < x then y else x))
 | _,_ => none
def Rm : V → V → Option V
 | .int k x,.int _ y => some (.int k (if x < y then y else x))
 | _,_ => none
def Pb (f : V → V → Option V) : V → List V → Option V
 | x,[] => some x
 | x,y :: ys => (f x y).bind fun z => Pb f z ys
def Kt (f : V → V → Option V) : List V → Option V
 | [] => none
 | x :: xs => Pb f x xs
def Xi (P : Program) (op : BinOp) (t : TypeId) (x y : Operand) (a b : V) : Option V :=
 match P.underlying t,a,b with
 | some (.interface _),.niface,.niface =>
  if (Region.isConst x || Region.isConst y) = true then match op with
   | .eql => some (.bool true)
   | .neq => some (.bool false)
   | _ => none
  else none
 | _,_,_ => none
def ZR (P : Program) (t : List V) : Op → Option V
 | .move x | .assign x => some (env t x)
 | .pick c a b => match env t c with
  | .bool true => some (env t a)
  | .bool false => some (env t b)
  | _ => none
 | .build ty parts => (ZO P ty).bind fun z => match P.underlying ty with
  | some (.struct fs) => (Ve P fs.toList).bind fun pl => if ZI z.cells = true then (Js (fun i => pl[i]?) z.cells (Y5 t parts.toList)).map .agg else none
  | some (.array _ e) => (Q5 P e).bind fun n => if ZI z.cells = true then (Js (fun i => some (i * n,n)) z.cells (Y5 t parts.toList)).map .agg else none
  | _ => none
 | .nilCheck x => match env t x with
  | .ptr i v o => some (.ptr i v o)
  | .fptr cs => some (.fptr cs)
  | _ => none
 | .binOp op ty x y _ => match B9 P op ty (env t x) (env t y) with
  | some v => some v
  | none => Xi P op ty x y (env t x) (env t y)
 | .unOp op _ x => vUn op (env t x)
 | .convert src dst x => if (P.underlying src).isSome then match env t x with
   | .int _ n => PP P dst n
   | .str s => match P.underlying dst with
    | some .string => some (.str s)
    | _ => none
   | _ => none
  else none
 | .makeInterface ty x => match P.underlying ty with
  | some (.interface _) => none
  | some _ => some (.iface ty (env t x))
  | none => none
 | .makeFunc fn first cap => match fn with
  | .func f => if first.size = 0 then some (.fn f (YT t cap.toList)) else none
  | _ => none
 | .slice ty x lo hi mx => match P.underlying ty with
  | some .string => WY (env t x) (lo.map (env t)) (hi.map (env t)) (mx.map (env t))
  | some (.slice e) => (Q5 P e).bind fun n => K2 n (env t x) (lo.map (env t)) (hi.map (env t)) (mx.map (env t))
  | _ => none
 | .fieldAddr ty x f => (U8 P ty f).bind fun r => (Q5 P r.2).bind fun n => if 0 < n then K1 (env t x) r.1 else none
 | .field ty x f => (U8 P ty f).bind fun r => match env t x with
  | .agg cs => W4 P r.2 cs r.1
  | _ => none
 | .indexAddr ty x i => match P.underlying ty with
  | some (.slice e) => (Q5 P e).bind fun n => (Y0 (env t i)).bind fun k => Vm n (env t x) k
  | some (.array len e) => (Q5 P e).bind fun n => (Y0 (env t i)).bind fun k => if k < len ∧ 0 < n then K1 (env t x) (k * n) else none
  | _ => none
 | .index ty x i => match P.underlying ty with
  | some .string => match env t x with
   | .str s => (Y0 (env t i)).bind fun k => (s[k]?).map fun b => .int .u8 b.toNat
   | _ => none
  | some (.array len e) => (Q5 P e).bind fun n => (Y0 (env t i)).bind fun k => match env t x with
   | .agg cs => if k < len then W4 P e cs (k * n) else none
   | _ => none
  | _ => none
 | .extract x i => match env t x with
  | .tup vs => vs[i]?
  | _ => none
 | .typeAssert x _ ty ok => match P.underlying ty with
  | some (.interface _) => none
  | some _ => match env t x with
   | .iface u v => if u = ty then some (if ok then .tup [v,.bool true] else v) else if ok then (ZO P ty).map fun z => .tup [z,.bool false] else none
   | .niface => if ok then (ZO P ty).map fun z => .tup [z,.bool false] else none
   | _ => none
  | none => none
 | .call c => match c.callee with
  | .builtin .len => match c.argTypes[0]?,c.args[0]? with
   | some ty,some x => match P.underlying ty with
    | some .string => match env t x with
     | .str s => some (.int .i64 s.length)
     | _ => none
    | some (.slice _) => (Yr (env t x)).map fun n => .int .i64 n
    | some (.array n _) => some (.int .i64 n)
    | _ => none
   | _,_ => none
  | .builtin .min => Kt NG (YT t c.args.toList)
  | .builtin .max => Kt Rm (YT t c.args.toList)
  | _ => none
 | _ => none
def bytesOf : List V → Option (List UInt8)
 | [] => some []
 | .int .u8 n :: r => (bytesOf r).map fun s => UInt8.ofNat n.toNat :: s
 | _ => none
def sameKey : V → V → Option Bool
 | .int k a,.int l b => if k = l then some (a == b) else none
 | .str a,.str b => some (a == b)
 | .bool a,.bool b => some (a == b)
 | _,_ => none
def K5 (k : V) : List (V × V) → Nat → Option (Option (Nat × V))
 | [],_ => some none
 | (a,v) :: es,i => match sameKey k a with
  | some true => some (some (i,v))
  | some false => K5 k es (i + 1)
  | none => none
def Uv (P : Program) (t : TypeId) (v : V) : Bool :=
 match P.underlying t,v with
 | some (.int _),.int _ _ | some .string,.str _ | some .bool,.bool _ => true
 | _,_ => false
def mapOf (H : Qa) : V → Option (List (V × V))
 | .nilmap => some []
 | .mapr i => match Q0 H i with
  | some (.map es) => some es
  | _ => none
 | _ => none
def C8 (P : Program) (ty : TypeId) (H : Qa) (m k : V) (ok : Bool) : Option V :=
 match P.underlying ty with
 | some (.map kt et) => if Uv P kt k = true then
   (mapOf H m).bind fun es => (K5 k es 0).bind fun r => match r with
    | some (_,v) => some (if ok then .tup [v,.bool true] else v)
    | none => (ZO P et).map fun z => if ok then .tup [z,.bool false] else z
  else none
 | _ => none
def NK (P : Program) (base : Nat) (ty : TypeId) (H : Qa) (m k x : V) : Option Qa :=
 match P.underlying ty with
 | some (.map kt _) => if Uv P kt k = true then
   match m with
   | .mapr i => match Q0 H i with
    | some (.map es) => if fits base i x.maxRef = true then
      (K5 k es 0).map fun r => match r with
       | some (j,_) => ZV H i (.map (es.set j (k,x)))
       | none => ZV H i (.map (es ++ [(k,x)]))
     else none
    | _ => none
   | _ => none
  else none
 | _ => none
def ZZ (P : Program) (t : List V) (H : Qa) : Op → Option V
 | .load ty p => (Z9 P ty).bind fun ag => (Q5 P ty).bind fun n => Kj ag n H (env t p)
 | .convert src dst x => match P.underlying src,P.underlying dst with
  | some (.slice e),some .string => match P.underlying e with
   | some (.int .u8) => (YR 1 H (env t x)).bind fun cs => (bytesOf cs).map .str
   | _ => none
  | _,_ => none
 | .lookup ty m k ok => C8 P ty H (env t m) (env t k) ok
 | _ => none
def rowOf (H : Qa) (sz : Nat) (ag : Bool) (cs : List V) (n : Nat) : Option (V × Qa) :=
 if 0 < sz ∧ cs.length = n * sz ∧ ZI cs = true then some (.rs H.length 0 sz 0 n,.row 0 sz ag cs :: H) else none
def Jd (n : Nat) (z : List V) : List V :=
 match n with
 | 0 => []
 | n + 1 => z ++ Jd n z
def Bc (base : Nat) (H : Qa) (i ver off : Nat) (xs : List V) : Option Qa :=
 if ZI xs = true ∧ fits base i (Yd xs) = true then
  match Q0 H i with
  | some (.var cs) => if ver = 0 ∧ off + xs.length ≤ cs.length then some (ZV H i (.var (splice cs off xs))) else none
  | some (.row v sz ag cs) => if ver = v ∧ off + xs.length ≤ cs.length then some (ZV H i (.row v sz ag (splice cs off xs))) else none
  | _ => none
 else none
def GV (base : Nat) (H : Qa) (sz : Nat) (z : List V) : V → Option (V × Qa)
 | .nils => some (.tup [],H)
 | .vs [] => some (.tup [],H)
 | .rs i ver sz' off n => if sz' = sz ∧ z.length = sz then (if n = 0 then some (.tup [],H) else (Bc base H i ver (off * sz) (Jd n z)).map fun H' => (.tup [],H')) else none
 | _ => none
def copyV (base : Nat) (H : Qa) (sz : Nat) (new : List V) (k : Nat) : V → Option (V × Qa)
 | .nils => some (.int .i64 0,H)
 | .vs [] => some (.int .i64 0,H)
 | .rs i ver sz' off n => if sz' = sz then (if min k n = 0 then some (.int .i64 0,H) else (Bc base H i ver (off * sz) (new.take (min k n * sz))).map fun H' => (.int .i64 (min k n : Nat),H')) else none
 | _ => none
def DW (H : Qa) (sz len : Nat) (ag : Bool) (x : V) (lo hi mx : Option V) : Option (V × Qa) :=
 match x with
 | .ptr i ver off => match Q0 H i with
  | some (.var cs) => if ver = 0 ∧ off = 0 ∧ cs.length = len * sz ∧ 0 < sz ∧ mx.isNone = true then
    (ZF 0 len hi len).bind fun h => (ZF 0 h lo 0).bind fun l => some (.rs i 0 sz l (h - l),ZV H i (.row 0 sz ag cs))
   else none
  | _ => none
 | _ => none
def Z6 (P : Program) (base : Nat) (t : List V) (H : Qa) : Op → Option (V × Qa)
 | .alloc ty => (ZO P ty).bind fun z => newVar H z
 | .box _ x => newVar H (env t x)
 | .buildSlice ty len parts => (Yz P ty).bind fun e => (Q5 P e).bind fun n => (Z9 P e).bind fun ag => (ZO P e).bind fun z =>
  if len * n ≤ 16777216 ∧ z.cells.length = n ∧ ZI z.cells = true then
   (Js (fun i => some (i * n,n)) (Jd len z.cells) (Y5 t parts.toList)).bind fun cs => rowOf H n ag cs len
  else none
 | .makeSlice ty l c => (Yz P ty).bind fun e => (Q5 P e).bind fun n => (Z9 P e).bind fun ag => (K8 P e).bind fun by_ => (ZO P e).bind fun z =>
  (Y0 (env t l)).bind fun len => (Y0 (env t c)).bind fun cap =>
   if len = cap ∧ Vd cap by_ = true ∧ len ≤ 9223372036854775807 ∧ z.cells.length = n ∧ ZI z.cells = true then rowOf H n ag (Jd len z.cells) len else none
 | .makeMap ty r => match P.underlying ty with
  | some (.map _ _) => match r with
   | none => some (.mapr H.length,.map [] :: H)
   | some x => match env t x with
    | .int _ _ => some (.mapr H.length,.map [] :: H)
    | _ => none
  | _ => none
 | .mapUpdate ty m k x | .insert ty m k x => (NK P base ty H (env t m) (env t k) (env t x)).map fun H' => (.tup [],H')
 | .store ty p x => (Q5 P ty).bind fun n => (Rx base n H (env t p) (env t x)).map fun H' => (.tup [],H')
 | .convert src dst x => if (P.underlying src).isSome then match env t x,P.underlying dst with
   | .str s,some (.slice e) => match P.underlying e with
    | some (.int .u8) => rowOf H 1 false (J2 s) s.length
    | _ => none
   | _,_ => none
  else none
 | .slice ty x lo hi mx => match P.underlying ty with
  | some (.array len e) => (Q5 P e).bind fun n => (Z9 P e).bind fun ag => DW H n len ag (env t x) (lo.map (env t)) (hi.map (env t)) (mx.map (env t))
  | _ => none
 | .call c => match c.callee with
  | .builtin .clear => match c.argTypes[0]?,c.args[0]? with
   | some ty,some x => (Yz P ty).bind fun e => (Q5 P e).bind fun n => (ZO P e).bind fun z => GV base H n z.cells (env t x)
   | _,_ => none
  | .builtin .copy => match c.argTypes[0]?,c.args[0]?,c.args[1]? with
   | some ty,some d,some x => (Yz P ty).bind fun e => (Q5 P e).bind fun n => (Yr (env t x)).bind fun k => (YR n H (env t x)).bind fun new => copyV base H n new k (env t d)
   | _,_,_ => none
  | .builtin .append => match c.argTypes[0]?,c.argTypes[1]?,c.args[0]?,c.args[1]? with
   | some ty,some ty2,some s,some x => (Yz P ty).bind fun e => (Q5 P e).bind fun n => (Z9 P e).bind fun ag => (K8 P e).bind fun by_ => (ZO P e).bind fun z => if z.cells.length ≠ n ∨ ZI z.cells = false then none else
    match P.underlying ty2 with
    | some (.slice _) => (Yr (env t x)).bind fun k => (YR n H (env t x)).bind fun new => Ub base H n by_ ag (env t s) new k
    | some .string => match env t x with
     | .str b => Ub base H n by_ ag (env t s) (J2 b) b.length
     | _ => none
    | _ => none
   | _,_,_,_ => none
  | _ => none
 | _ => none
def WQ (t : List V) : Op → Option (FuncId × List V)
 | .call c => match c.callee with
  | .value f => match env t f with
   | .fn g cap => some (g,YT t c.args.toList ++ cap)
   | _ => none
  | _ => none
 | _ => none
def Wi (t : List V) : Op → Option V
 | .panic x => match env t x with
  | .iface ty v => some (.iface ty v)
  | _ => none
 | .call c => match c.callee with
  | .builtin .panic => match c.args[0]? with
   | some x => match env t x with
    | .iface ty v => some (.iface ty v)
    | _ => none
   | none => none
  | _ => none
 | _ => none
inductive Kind where
 | pure | lit | load | fresh | eff | call | panic | defer | none
 deriving DecidableEq
def kindOf (P : Program) (own : Bool) (ops : List Oper) (dst : Option Tmp) : Op → Kind
 | .move _ | .assign _ | .pick _ _ _ | .build _ _ | .nilCheck _ | .binOp _ _ _ _ _ | .unOp _ _ _ | .makeInterface _ _ | .makeFunc _ _ _
 | .fieldAddr _ _ _ | .field _ _ _ | .indexAddr _ _ _ | .index _ _ _ | .extract _ _ | .typeAssert _ _ _ _ => .pure
 | .load _ _ | .lookup _ _ _ _ => .load
 | .slice ty _ _ _ _ => match P.underlying ty with
  | some (.array _ _) => .eff
  | _ => .pure
 | .defer _ => .defer
 | .convert src dst _ => match P.underlying src,P.underlying dst with
  | some (.slice _),some .string => .load
  | some .string,some (.slice _) => .eff
  | _,_ => .pure
 | .buildSlice _ len _ => if own && (Nat.beq len 1 && Nat.ble ops.length 25) then .eff else .lit
 | .alloc _ => .fresh
 | .box _ _ | .makeSlice _ _ _ | .store _ _ _ | .makeMap _ _ | .mapUpdate _ _ _ _ | .insert _ _ _ _ => .eff
 | .panic _ => .panic
 | .call c => match c.callee with
  | .builtin .len | .builtin .min | .builtin .max => .pure
  | .builtin .append | .builtin .copy | .builtin .clear => .eff
  | .builtin .panic => .panic
  | .value _ => .call
  | _ => .none
 | _ => .none
def Yq (ops : List Oper) (t : List V) (o : Oper) : Option Bool :=
 match o.guard with
 | none => some true
 | some (j,want) => match (ops[j]?).bind (·.dst) with
  | none => some false
  | some d => match t.getD d .junk with
   | .bool b => some (b == want)
   | .tup _ => some false
   | _ => none
def Z8 (t : List V) (dst : Option Tmp) (v : V) : List V :=
 match dst with
 | some d => t.set d v
 | none => t
mutual
def V.nrm : V → V
 | .nils => .vs []
 | .agg cs => .agg (Wc cs)
 | .tup cs => .tup (Wc cs)
 | .iface t v => .iface t v.nrm
 | v => v
def Wc : List V → List V
 | [] => []
 | v :: vs => v.nrm :: Wc vs
end
def U4 (sz len : Nat) : List (Nat × V) → Bool
 | [] => true
 | (i,x) :: r => decide (i < len) && (x.cells.length == sz) && ZI x.cells && x.nrm.clean && U4 sz len r
def VR (xs : List V) : List (Nat × V) → List V
 | [] => xs
 | (i,x) :: r => VR (xs.set i x.nrm) r
def KN (P : Program) (t : List V) : Op → Option V
 | .buildSlice ty len parts => (Yz P ty).bind fun e => (Q5 P e).bind fun n => (ZO P e).bind fun z =>
  if len * n ≤ 16777216 ∧ 0 < n ∧ z.cells.length = n ∧ ZI z.cells = true ∧ z.nrm.clean = true ∧ U4 n len (Y5 t parts.toList) = true then
   some (.vs (VR (List.replicate len z.nrm) (Y5 t parts.toList)))
  else none
 | _ => none
abbrev Qh := FuncId → List V → Qa → Option (Out × Qa)
def Zn (P : Program) (base : Nat) (own : Bool) (call : Qh) (ops : List Oper) (o : Oper) (t : List V) (H : Qa) : Option (Out × Qa) :=
 (Yq ops t o).bind fun b => if b then
  match kindOf P own ops o.dst o.op with
  | .pure => (ZR P t o.op).map fun v => (.ret v,H)
  | .lit => (KN P t o.op).map fun v => (.ret v,H)
  | .load => (ZZ P t H o.op).map fun v => (.ret v,H)
  | .eff | .fresh => (Z6 P base t H o.op).map fun r => (.ret r.1,r.2)
  | .call => (WQ t o.op).bind fun r => call r.1 r.2 H
  | .panic => (Wi t o.op).map fun v => (.pan v,H)
  | .defer | .none => none
 else some (.ret (.tup []),H)
def Nq (t : List V) : Op → Option (FuncId × List V)
 | .defer c => match c.callee with
  | .value f => match env t f with
   | .fn g cap => some (g,YT t c.args.toList ++ cap)
   | _ => none
  | _ => none
 | _ => none
def JS (P : Program) (base : Nat) (own : Bool) (call : Qh) (ops : List Oper) : List Oper → St → Option (Ex × St)
 | [],st => some (.normal,st)
 | o :: rest,st =>
  if kindOf P own ops o.dst o.op = .defer then (if o.guard.isNone then (Nq st.t o.op).bind fun r => JS P base own call ops rest { t := Z8 st.t o.dst (.tup []),H := st.H,d := r :: st.d } else none)
  else (Zn P base own call ops o st.t st.H).bind fun r => match r.1 with
  | .ret v => JS P base own call ops rest { t := Z8 st.t o.dst v,H := r.2,d := st.d }
  | .pan v => some (.pan v,{ t := st.t,H := r.2,d := st.d })
def Yv : List Oper → List Nat → List Nat
 | [],acc => acc
 | o :: rest,acc => Yv rest (acc ++ [o.after.foldl (fun s e => if Region.binds .any e then s ||| 2 ^ e.on ||| acc.getD e.on 0 else s) 0])
def ahead (ms : List Nat) (i j : Nat) : Bool := (ms.getD i 0).testBit j
def Je (k : Kind) : Bool := k == .eff || k == .call || k == .panic || k == .fresh
def Bp (P : Program) (own : Bool) (ops : List Oper) (ms : List Nat) (i : Nat) (oi : Oper) (j : Nat) (oj : Oper) : Bool :=
 ahead ms j i ||
  ((match oi.dst with
   | some d => !(Oper.looksAt ops.toArray oj).contains d && oj.dst != some d
   | none => true) &&
   (match oj.dst with
   | some d => !(Oper.looksAt ops.toArray oi).contains d
   | none => true) &&
   !(Je (kindOf P own ops oi.dst oi.op) && Je (kindOf P own ops oj.dst oj.op) && (kindOf P own ops oj.dst oj.op != .fresh || oj.guard.isSome)))
def Vs (f : Nat → Oper → Bool) : Nat → List Oper → Bool
 | _,[] => true
 | k,o :: r => f k o && Vs f (k + 1) r
def G4 (P : Program) (own : Bool) (ops : List Oper) (ms : List Nat) : Nat → List Oper → Bool
 | _,[] => true
 | i,o :: r => Vs (fun j oj => Bp P own ops ms i o j oj) (i + 1) r && G4 P own ops ms (i + 1) r
def NH : Nat → List Oper → Bool
 | _,[] => true
 | i,o :: r => (o.after.all fun e => !Region.binds .any e || decide (e.on < i)) && NH (i + 1) r
def Qsz (P : Program) (own : Bool) (ops : List Oper) (ms : List Nat) (a : Nat) : Bool :=
 Vs (fun f of => decide (a ≤ f) || !Je (kindOf P own ops of.dst of.op) || Vs (fun u _ => !ahead ms u a || ahead ms u f) 0 ops) 0 ops
def Wz (P : Program) (own : Bool) (ops : List Oper) : Bool :=
 NH 0 ops && Region.noSelect ops.toArray && G4 P own ops (Yv ops []) 0 ops &&
  Vs (fun a o => kindOf P own ops o.dst o.op != .fresh || Qsz P own ops (Yv ops []) a) 0 ops
structure Ld where
 i : Nat
 op : Op
 t : List V
 v : V
def same (a : Option V) (v : V) : Bool :=
 match a with
 | some u => V.beq u v
 | none => false
def Kp (P : Program) (ms : List Nat) (j : Nat) (H : Qa) : List Ld → Bool
 | [] => true
 | l :: r => (ahead ms j l.i || same (ZZ P l.t H l.op) l.v) && Kp P ms j H r
def Jo (P : Program) (ms : List Nat) (i : Nat) (op : Op) (t : List V) (v : V) : List (Nat × Qa) → Bool
 | [] => true
 | (e,H) :: r => (ahead ms i e || same (ZZ P t H op) v) && Jo P ms i op t v r
def JW (P : Program) (own : Bool) (ops : List Oper) (ms : List Nat) (p : Nat) (es : List (Nat × Qa)) : Nat → List Oper → List V → Qa → Bool
 | _,[],_,_ => true
 | i,o :: rest,t,H =>
  if ahead ms i p then JW P own ops ms p es (i + 1) rest t H else
  match Yq ops t o with
  | some false => JW P own ops ms p es (i + 1) rest (Z8 t o.dst (.tup [])) H
  | some true => match kindOf P own ops o.dst o.op with
   | .pure => match ZR P t o.op with
    | some v => JW P own ops ms p es (i + 1) rest (Z8 t o.dst v) H
    | none => false
   | .lit => match KN P t o.op with
    | some v => JW P own ops ms p es (i + 1) rest (Z8 t o.dst v) H
    | none => false
   | .load => match ZZ P t H o.op with
    | some v => Jo P ms i o.op t v es && JW P own ops ms p es (i + 1) rest (Z8 t o.dst v) H
    | none => false
   | _ => false
  | none => false
def forget : List Oper → List V → List V
 | [],t => t
 | o :: r,t => forget r (Z8 t o.dst .junk)
def Ko (P : Program) (base : Nat) (own : Bool) (t0 : List V) (call : Qh) (ops : List Oper) (ms : List Nat) : Nat → List Oper → List Ld → List (Nat × Qa) → St → Option (Ex × St)
 | _,[],_,_,st => some (.normal,st)
 | i,o :: rest,ls,es,st => (Yq ops st.t o).bind fun b => (Zn P base own call ops o st.t st.H).bind fun r => match r.1 with
  | .ret v => match (if b then kindOf P own ops o.dst o.op else .pure) with
   | .load => if Jo P ms i o.op st.t v es = true then Ko P base own t0 call ops ms (i + 1) rest ({ i,op := o.op,t := st.t,v } :: ls) es { t := Z8 st.t o.dst v,H := r.2,d := st.d } else none
   | .eff | .call | .fresh => if Kp P ms i r.2 ls = true then Ko P base own t0 call ops ms (i + 1) rest ls ((i,st.H) :: es) { t := Z8 st.t o.dst v,H := r.2,d := st.d } else none
   | _ => Ko P base own t0 call ops ms (i + 1) rest ls es { t := Z8 st.t o.dst v,H := r.2,d := st.d }
  | .pan v => if JW P own ops ms i es (i + 1) rest st.t st.H = true then some (.pan v,{ t := forget ops t0,H := r.2,d := st.d }) else none
abbrev Ks := List (Nat × List Nat)
abbrev JL := Nat → Bool → Ks → Code → St → Option (Ex × St)
def Lx : Code → Option Nat
 | .region id _ _ => some id
 | .seq a _ => Lx a
 | .block _ b | .scope b => Lx b
 | _ => none
def trim (ks : List Nat) : Nat → List V → List V
 | _,[] => []
 | i,v :: t => (if ks.contains i then v else .junk) :: trim ks (i + 1) t
def Pk (i : Nat) : Ks → Option (List Nat)
 | [] => none
 | (j,l) :: r => if i = j then some l else Pk i r
def BS (ks : Ks) (c : Code) (t : List V) : List V :=
 match Lx c with
 | none => t
 | some i => match Pk i ks with
  | none => t
  | some l => trim l 0 t
def Q2 (ops : List Oper) (i : Nat) : List Oper := ops.modify (ops.length - 1) fun o => { o with after := o.after.push { on := i,ground := .phase } }
def GY (ops : List Oper) (i : Nat) : List Oper := ops.eraseIdx i ++ (ops[i]?).toList
def VE : Op → Bool
 | .store _ _ _ => true
 | _ => false
def quiet (k : Kind) : Bool := k == .pure || k == .lit
def Pf (P : Program) (own : Bool) (ops A : List Oper) (i : Nat) (oi oj : Oper) (k : Nat) (o : Oper) : Bool :=
 o.guard.isNone && (k == i || k == ops.length - 1 || quiet (kindOf P own A o.dst o.op) || ahead (Yv ops []) (ops.length - 1) k) &&
 (decide (k ≤ i) || k == ops.length - 1 || quiet (kindOf P own A o.dst o.op)) &&
 (decide (k ≤ i) || (match o.dst with
  | some d => !(Oper.looksAt A.toArray oi).contains d
  | none => true)) &&
 (match o.dst with
  | some d => !(Oper.looksAt A.toArray oj).contains d || ahead (Yv ops []) (ops.length - 1) k
  | none => true)
def Du (P : Program) (own : Bool) (ops : List Oper) (i : Nat) : Bool :=
 decide (i < ops.length - 1) && Wz P own (Q2 ops i) &&
 (match (Q2 ops i)[i]?,(Q2 ops i)[ops.length - 1]? with
  | some oi,some oj => oi.dst.isNone && oj.dst.isNone && VE oi.op && VE oj.op && Vs (Pf P own ops (Q2 ops i) i oi oj) 0 (Q2 ops i)
  | _,_ => false)
def Gk (P : Program) (own : Bool) (ops : List Oper) : Option Nat :=
 ((List.range (ops.length - 1)).reverse.find? fun i => match ops[i]? with
  | some o => VE o.op
  | none => false).bind fun i => if Du P own ops i = true then some i else none
open Classical in
noncomputable def Pw (P : Program) (base : Nat) (own : Bool) (call : Qh) (ops : List Oper) (st : St) : Option (Ex × St) :=
 match Gk P own ops with
 | none => none
 | some i => (Ko P base own st.t call (Q2 ops i) (Yv (Q2 ops i) []) 0 (Q2 ops i) [] [] st).bind fun a => match a.1 with
  | .normal => (JS P base own call (Q2 ops i) (GY (Q2 ops i) i) st).bind fun b => match b.1 with
   | .normal => if a.2.H = b.2.H then some a else none
   | _ => none
  | _ => none
noncomputable def evC (P : Program) (base : Nat) (own : Bool) (ks : Ks) (call : Qh) (loop : JL) : Code → St → Option (Ex × St)
 | .skip,st | .label _,st => some (.normal,st)
 | .region _ ops draw,st =>
  if draw then (if Wz P own ops.toList = true then Ko P base own st.t call ops.toList (Yv ops.toList []) 0 ops.toList [] [] st else Pw P base own call ops.toList st)
  else JS P base own call ops.toList ops.toList st
 | .seq a b,st => (evC P base own ks call loop a st).bind fun r => match r.1 with
  | .normal => evC P base own ks call loop b { t := BS ks b r.2.t,H := r.2.H,d := r.2.d }
  | _ => some r
 | .cond c a b,st => match env st.t c with
  | .bool true => evC P base own ks call loop a st
  | .bool false => evC P base own ks call loop b st
  | _ => none
 | .block id b,st => (evC P base own ks call loop b st).bind fun r => match r.1 with
  | .exit j => if j = id then some (.normal,r.2) else some r
  | _ => some r
 | .loop b,st => loop base own ks b st
 | .scope b,st => evC P base own ks call loop b st
 | .exit id,st => some (.exit id,st)
 | .ret,st => some (.ret,st)
 | _,_ => none
noncomputable def Ww (P : Program) (call : Qh) (loop : JL) (base : Nat) (own : Bool) (ks : Ks) (b : Code) (st : St) : Option (Ex × St) :=
 (evC P base own ks call loop b { t := BS ks b st.t,H := st.H,d := st.d }).bind fun r => match r.1 with
 | .normal => loop base own ks b r.2
 | e => some (e,r.2)
def Y6 (f : V → Option V) : List V → Option (List V)
 | [] => some []
 | x :: xs => (f x).bind fun y => (Y6 f xs).map fun ys => y :: ys
def frz (H : Qa) (base : Nat) : Nat → V → Option V
 | 0,_ => none
 | n + 1,v => match v with
  | .nils => some (.vs [])
  | .rs i ver sz' off len => if i < base then some v else match Q0 H i with
   | some (.row v' sz ag cs) => if ver = v' ∧ sz' = sz ∧ (off + len) * sz ≤ cs.length ∧ 0 < sz then
     (Y6 (frz H base n) ((cs.drop (off * sz)).take (len * sz))).bind fun cs' => if Zd cs' = true ∧ ZI cs' = true ∧ (ag = true ∨ sz = 1) then some (.vs (J0 sz ag len cs')) else none
    else none
   | _ => none
  | .agg cs => (Y6 (frz H base n) cs).map .agg
  | .tup cs => (Y6 (frz H base n) cs).map .tup
  | .iface t x => (frz H base n x).map (.iface t)
  | v => some v
def depth : Nat := 12
def YX : Blk → Nat
 | .dead => 0
 | .var cs | .row _ _ _ cs => Yd cs
 | .map es => max (Yd (es.map (·.1))) (Yd (es.map (·.2)))
def Ut (b : Nat) : Qa → Bool
 | [] => true
 | x :: H => decide (YX x ≤ b) && Ut b H
def KJ (b : Nat) (H : Qa) : Bool := Ut b (Jm H b)
def J6 (base : Nat) (v : V) (H : Qa) : Option (V × Qa) :=
 match v with
 | .rs i ver sz off len => match Q0 H i with
  | some (.row v' sz' ag cs) => if base ≤ i ∧ ver = v' ∧ Zd cs = true ∧ KJ base H = true then some (.rs base ver sz off len,.row v' sz' ag cs :: Jm H base) else none
  | _ => none
 | _ => none
def Wx (base : Nat) (v : V) (H : Qa) : V × Qa :=
 match v with
 | .tup [x,y] => match J6 base x H with
  | some (x',H') => if y.clean = true then (.tup [x',y],H') else (v,H)
  | none => (v,H)
 | v => match J6 base v H with
  | some r => r
  | none => (v,H)
def Kd (keep : Bool) (base : Nat) (v : V) (H : Qa) : V × Qa :=
 match (if keep then none else frz H base depth v) with
 | some v' => if v'.maxRef ≤ base ∧ KJ base H = true then (v',Jm H base) else (v,H)
 | none => if v.maxRef ≤ base ∧ KJ base H = true then (v,Jm H base) else if keep = true then Wx base v H else (v,H)
def V0 (P : Program) (st : St) : ResultVar → Option V
 | .tmp t => some (st.t.getD t .junk)
 | .cell a t => (Z9 P t).bind fun ag => (Q5 P t).bind fun n => Kj ag n st.H (st.t.getD a .junk)
def KL (P : Program) (st : St) : List ResultVar → Option (List V)
 | [] => some []
 | r :: rs => (V0 P st r).bind fun v => (KL P st rs).map fun vs => v :: vs
def JC (P : Program) (st : St) (rs : List ResultVar) : Option V :=
 (KL P st rs).map fun vs => match vs with
  | [v] => v
  | _ => .tup vs
abbrev XT := FuncId × List V × Qa × (Out × Qa)
def Has (call : Qh) (L : List XT) : Prop := ∀ y ∈ L,call y.1 y.2.1 y.2.2.1 = some y.2.2.2
def Qw {α : Type} (f : Qh → Option α) (call : Qh) : Prop := ∀ x,f call = some x → ∃ L,Has call L ∧ ∀ call',Has call' L → f call' = some x
structure Hint where
 keep : FuncId → Bool
 ks : FuncId → Ks
 own : FuncId → Bool
 intr : FuncId → Option (List V → Qa → Option (Out × Qa))
 orc : FuncId → Option (Qh → List V → Qa → Option (Out × Qa)) := fun _ => none
 fine : ∀ f g,orc f = some g → ∀ args H call,Qw (fun c => g c args H) call := by intro f g h; cases h
 nrm : FuncId → Bool := fun _ => false
 lend : FuncId → Bool := fun _ => false
 iso : FuncId → Bool := fun _ => false
abbrev Z3 := FuncId → List V → Option V → Qa → Option (Bool × Qa)
def KY (dfr : Z3) (res : Qa → Option V) : List (FuncId × List V) → Option V → Qa → Option (Out × Qa)
 | [],none,H => (res H).map fun v => (.ret v,H)
 | [],some v,H => some (.pan v,H)
 | d :: ds,m,H => (dfr d.1 d.2 m H).bind fun r => KY dfr res ds (if r.1 then none else m) r.2
noncomputable def Nu (P : Program) (h : Hint) (call : Qh) (loop : JL) (dfr : Z3) (f : FuncId) (args : List V) (H : Qa) : Option (Out × Qa) :=
 match h.intr f with
 | some g => g args H
 | none => match P.funcs[f]? with
  | none => none
  | some fn => match fn.body with
   | none => none
   | some c => if args.length ≤ fn.ntmps then
     (evC P 0 (h.own f) (h.ks f) call loop c { t := args ++ List.replicate (fn.ntmps - args.length) .junk,H,d := [] }).bind fun r =>
     (match r.1 with
      | .normal | .ret => KY dfr (fun H' => JC P { t := r.2.t,H := H',d := [] } fn.results.toList) r.2.d none r.2.H
      | .pan v => KY dfr (fun H' => JC P { t := r.2.t,H := H',d := [] } fn.results.toList) r.2.d (some v) r.2.H
      | .exit _ => none).bind fun o => match o.1 with
     | .ret v => let p := Kd (h.keep f) H.length v o.2; some (.ret p.1,p.2)
     | .pan v => let p := Kd (h.keep f) H.length v o.2; some (.pan p.1,p.2)
    else none
def isRecover : Op → Bool
 | .call c => match c.callee with
  | .builtin .recover => true
  | _ => false
 | _ => false
noncomputable def WP (P : Program) (base : Nat) (own : Bool) (call : Qh) (ops : List Oper) : List Oper → Option V → Bool → St → Option (Ex × St × Option V × Bool)
 | [],m,b,st => some (.normal,st,m,b)
 | o :: rest,m,b,st =>
  if isRecover o.op then (if o.guard.isNone then match m with
    | some v => WP P base own call ops rest none true { t := Z8 st.t o.dst v,H := st.H,d := st.d }
    | none => WP P base own call ops rest none b { t := Z8 st.t o.dst .niface,H := st.H,d := st.d }
   else none)
  else (Zn P base own call ops o st.t st.H).bind fun r => match r.1 with
  | .ret v => WP P base own call ops rest m b { t := Z8 st.t o.dst v,H := r.2,d := st.d }
  | .pan _ => none
noncomputable def evS (P : Program) (base : Nat) (own : Bool) (ks : Ks) (call : Qh) (loop : JL) : Code → Option V → Bool → St → Option (Ex × St × Option V × Bool)
 | .seq a b,m,r,st => (evS P base own ks call loop a m r st).bind fun q => match q.1 with
  | .normal => evS P base own ks call loop b q.2.2.1 q.2.2.2 q.2.1
  | _ => some q
 | .region id ops draw,m,r,st => if draw then (evC P base own ks call loop (.region id ops draw) st).bind fun q => some (q.1,q.2,m,r)
  else WP P base own call ops.toList ops.toList m r st
 | .cond c a b,m,r,st => match env st.t c with
  | .bool true => evS P base own ks call loop a m r st
  | .bool false => evS P base own ks call loop b m r st
  | _ => none
 | c,m,r,st => (evC P base own ks call loop c st).bind fun q => some (q.1,q.2,m,r)
noncomputable def Nl (P : Program) (h : Hint) (call : Qh) (loop : JL) (f : FuncId) (args : List V) (m : Option V) (H : Qa) : Option (Bool × Qa) :=
 match h.intr f with
 | some _ => none
 | none => match P.funcs[f]? with
  | none => none
  | some fn => match fn.body with
   | none => none
   | some c => if args.length ≤ fn.ntmps then
     (evS P 0 (h.own f) (h.ks f) call loop c m false { t := args ++ List.replicate (fn.ntmps - args.length) .junk,H,d := [] }).bind fun q => match q.1 with
     | .normal | .ret => if q.2.1.d.isEmpty then (JC P q.2.1 fn.results.toList).bind fun _ => if KJ H.length q.2.1.H = true then some (q.2.2.2,Jm q.2.1.H H.length) else none else none
     | _ => none
    else none
structure Oracles where
 call : Qh
 loop : JL
 dfr : Z3
end Go.Ev
end
section
namespace Go.Ev
@[simp] theorem QtL (i : Nat) : Q0 [] i = none := rfl
theorem Vh (b : Blk) (H : Qa) (i : Nat) : Q0 (b :: H) i = if i = H.length then some b else Q0 H i := rfl
theorem VU {H : Qa} {i : Nat} {b : Blk} (h : Q0 H i = some b) : i < H.length := by
 induction H with
 | nil => simp [Q0] at h
 | cons x H ih =>
  rw [Vh] at h
  split at h
  ·simp_all
  ·have := ih h; simp; omega
theorem QrE {H : Qa} {i : Nat} (h : H.length ≤ i) : Q0 H i = none := by
 cases e : Q0 H i with
 | none => rfl
 | some b => have := VU e; omega
theorem Ng {H : Qa} {i : Nat} (b : Blk) (h : i < H.length) : Q0 (b :: H) i = Q0 H i := by
 rw [Vh,if_neg (by omega)]
@[simp] theorem QwN (b : Blk) (H : Qa) : Q0 (b :: H) H.length = some b := by rw [Vh,if_pos rfl]
@[simp] theorem Qh4 (H : Qa) (i : Nat) (x : Blk) : (ZV H i x).length = H.length := by
 induction H with
 | nil => rfl
 | cons b H ih => simp only [ZV]; split <;> simp [ih]
theorem Mx (H : Qa) (i j : Nat) (x : Blk) : Q0 (ZV H i x) j = if j = i ∧ i < H.length then some x else Q0 H j := by
 induction H with
 | nil => simp [ZV,Q0]
 | cons b H ih =>
  simp only [ZV]
  split
  ·rename_i h
   rw [Vh,Vh]
   by_cases hj : j = H.length
   ·simp [hj,h]
   ·simp only [hj,if_false]; rw [if_neg]; omega
  ·rename_i h
   rw [Vh,Qh4,ih,Vh]
   by_cases hj : j = H.length
   ·simp only [hj,if_true]; rw [if_neg]; simp; omega
   ·simp only [hj,if_false,List.length_cons]
    by_cases hji : j = i
    ·subst hji
     by_cases hl : j < H.length
     ·rw [if_pos ⟨rfl,hl⟩,if_pos ⟨rfl,by omega⟩]
     ·rw [if_neg (by omega),if_neg (by omega)]
    ·rw [if_neg (by omega),if_neg (by omega)]
theorem WK {H : Qa} {i j : Nat} (x : Blk) (h : j ≠ i) : Q0 (ZV H i x) j = Q0 H j := by rw [Mx,if_neg (by omega)]
theorem Kw {H : Qa} {i : Nat} (x : Blk) (h : i < H.length) : Q0 (ZV H i x) i = some x := by rw [Mx,if_pos ⟨rfl,h⟩]
theorem UI {H : Qa} {b : Nat} (h : b ≤ H.length) : (Jm H b).length = b := by simp [Jm]; omega
theorem Qiu (H : Qa) (k i : Nat) : Q0 (H.drop k) i = if i < H.length - k then Q0 H i else none := by
 induction H generalizing k with
 | nil => simp [Q0]
 | cons x H ih =>
  cases k with
  | zero =>
   simp only [List.drop_zero,Nat.sub_zero]
   by_cases h : i < (x :: H).length
   ·rw [if_pos h]
   ·rw [if_neg h,QrE (by omega)]
  | succ k =>
   rw [List.drop_succ_cons,ih]
   simp only [List.length_cons,Nat.add_sub_add_right]
   split
   ·rw [Vh,if_neg (by omega)]
   ·rfl
theorem Dq {H : Qa} {b i : Nat} (hb : b ≤ H.length) : Q0 (Jm H b) i = if i < b then Q0 H i else none := by
 rw [Jm,Qiu]
 have : H.length - (H.length - b) = b := by omega
 rw [this]
def ZQ : Blk → Option Nat
 | .dead => none
 | .var _ => some 0
 | .row v _ _ _ => some v
 | .map _ => some 0
def Zj (H : Qa) (i : Nat) : Option Nat := (Q0 H i).bind ZQ
structure Ctx where
 H : Qa
 ρ : Nat → Nat
 Z : Nat → Prop
 w : World
def Ctx.live (S : Ctx) (i : Nat) : Prop := (Zj S.H i).isSome = true
def Ctx.owned (S : Ctx) (c : Nat) : Prop := ∃ i,S.live i ∧ S.ρ i = c
def Ctx.free (S : Ctx) (c : Nat) : Prop := ¬ S.owned c ∧ ¬ S.Z c
inductive Rel (S : Ctx) : V → Value → Prop
 | junk (u) : Rel S .junk u
 | bool (b) : Rel S (.bool b) (.bool b)
 | int (k n) : Rel S (.int k n) (.int k n)
 | str (bs : ByteArray) : Rel S (.str bs.data.toList) (.string bs)
 | nilptr : Rel S .nilptr (.pointer none)
 | ptr (i ver off a) (hi : i < S.H.length) (h : ∀ v : Nat,Zj S.H i = some v → ver ≤ v ∧ (ver = v → a = ⟨S.ρ i,off,none⟩)) : Rel S (.ptr i ver off) (.pointer (some a))
 | fptr (cs : List V) (c off : Nat) (us : Nat → Value) (hf : S.free c) (hc : c < S.w.heap.size) (hcl : Zd cs = true)
   (h1 : ∀ (j : Nat) (x : V),cs[j]? = some x → S.w.cell? ⟨c,off + j,none⟩ = some (us j)) (h2 : ∀ (j : Nat) (x : V),cs[j]? = some x → Rel S x (us j)) : Rel S (.fptr cs) (.pointer (some ⟨c,off,none⟩))
 | nils : Rel S .nils (.slice none 0 0)
 | emp (a) : Rel S .emp (.slice a 0 0)
 | vs (xs : List V) (a : Option Addr) (n cap c off sz : Nat) (us : Nat → Value) (hn : n = xs.length) (hcap : n ≤ cap) (hcl : Zd xs = true) (ha : xs ≠ [] → a = some ⟨c,off,none⟩ ∧ S.free c ∧ c < S.w.heap.size)
   (hsz : ∀ (i : Nat) (x : V),xs[i]? = some x → x.cells.length = sz)
   (h1 : ∀ (i : Nat) (x : V) (j : Nat) (y : V),xs[i]? = some x → x.cells[j]? = some y → S.w.cell? ⟨c,off + (i * sz + j),none⟩ = some (us (i * sz + j)))
   (h2 : ∀ (i : Nat) (x : V) (j : Nat) (y : V),xs[i]? = some x → x.cells[j]? = some y → Rel S y (us (i * sz + j))) : Rel S (.vs xs) (.slice a n cap)
 | rs (i ver sz off n a cap) (hi : i < S.H.length) (hcap : n ≤ cap)
   (h : ∀ v,Zj S.H i = some v → ver ≤ v ∧ (ver = v → ∃ ag cs cells e fr,Q0 S.H i = some (.row v sz ag cs) ∧ S.w.heap[S.ρ i]? = some (.cells cells e fr) ∧
    cells.size = (off + cap) * sz ∧ (0 < cap → a = ⟨S.ρ i,off * sz,none⟩))) : Rel S (.rs i ver sz off n) (.slice (some a) n cap)
 | fn (f : FuncId) (cap : List V) (us : Array Value) (hl : us.size = cap.length) (h2 : ∀ (j : Nat) (x : V) (u : Value),cap[j]? = some x → us[j]? = some u → Rel S x u) : Rel S (.fn f cap) (.func (.func f) #[] us)
 | nilfn : Rel S .nilfn .nilFunc
 | niface : Rel S .niface .nilIface
 | iface (t v u) (h : Rel S v u) : Rel S (.iface t v) (.iface t u)
 | agg (cs : List V) (us : Array Value) (hl : us.size = cs.length) (h2 : ∀ (j : Nat) (x : V) (u : Value),cs[j]? = some x → us[j]? = some u → Rel S x u) : Rel S (.agg cs) (.agg us)
 | tup (cs : List V) (us : Array Value) (hl : us.size = cs.length) (h2 : ∀ (j : Nat) (x : V) (u : Value),cs[j]? = some x → us[j]? = some u → Rel S x u) : Rel S (.tup cs) (.tuple us)
 | nilmap : Rel S .nilmap (.map none)
 | mapr (i c) (hi : i < S.H.length) (h : Zj S.H i = some 0 → c = S.ρ i) : Rel S (.mapr i) (.map (some c))
def Yx (S : Ctx) (cs : List V) (cells : Array Value) : Prop := ∀ (j : Nat) (x : V),cs[j]? = some x → ∃ u,cells[j]? = some u ∧ Rel S x u
def Fj (n : Nat) (fr : Nat × Nat) : Prop := ∀ j,j < n → ¬ (fr.1 ≤ j ∧ j < fr.2)
def Un (ag : Bool) (n : Nat) (fr : Nat × Nat) : Prop := Fj n fr ∧ (ag = true → fr = (0,0))
def J4 (S : Ctx) (c : Nat) : Blk → Prop
 | .dead => True
 | .var cs => ∃ cells e fr,S.w.heap[c]? = some (.cells cells e fr) ∧ cells.size = cs.length ∧ Un true cells.size fr ∧ Yx S cs cells
 | .row _ sz ag cs => ∃ cells e fr,S.w.heap[c]? = some (.cells cells e fr) ∧ cs.length ≤ cells.size ∧ 0 < sz ∧ Un ag cells.size fr ∧ Yx S cs cells
 | .map es => ∃ ms clock,S.w.heap[c]? = some (.map ms clock) ∧ ms.size = es.length ∧ ∀ (j : Nat) (k x : V),es[j]? = some (k,x) → ∃ m : MapEntry,ms[j]? = some m ∧ Rel S k m.key ∧ Rel S x m.val
abbrev ZT := Nat → Array Value → Prop
def Fa (T : ZT) (S : Ctx) : Prop := ∀ c us,T c us → S.free c ∧ c < S.w.heap.size ∧ ∃ e fr,S.w.heap[c]? = some (.cells us e fr)
structure Sim (T : ZT) (S : Ctx) : Prop where
 blk : ∀ i b,Q0 S.H i = some b → J4 S (S.ρ i) b
 inj : ∀ i j,S.live i → S.live j → S.ρ i = S.ρ j → i = j
 zfree : ∀ i,S.live i → ¬ S.Z (S.ρ i)
 zlt : ∀ c,S.Z c → c < S.w.heap.size
 tab : Fa T S
variable {T : ZT}
structure Ext (S S' : Ctx) : Prop where
 size : S.w.heap.size ≤ S'.w.heap.size
 keep : ∀ c,c < S.w.heap.size → S.free c → S'.w.heap[c]? = S.w.heap[c]? ∧ S'.free c
 zed : ∀ c,S.Z c → S'.Z c ∧ S'.w.heap[c]? = S.w.heap[c]?
 znew : ∀ c,S'.Z c → S.Z c ∨ S.w.heap.size ≤ c
 len : S.H.length ≤ S'.H.length
 ver : ∀ i v',i < S.H.length → Zj S'.H i = some v' → ∃ v,Zj S.H i = some v ∧ v ≤ v' ∧ (v = v' → S'.ρ i = S.ρ i ∧
  ∀ sz ag cs cells e fr,Q0 S.H i = some (.row v sz ag cs) → S.w.heap[S.ρ i]? = some (.cells cells e fr) →
   ∃ cs' cells' e' fr',Q0 S'.H i = some (.row v sz ag cs') ∧ S'.w.heap[S.ρ i]? = some (.cells cells' e' fr') ∧ cells'.size = cells.size)
 os : S'.w.os = S.w.os
 tape : S'.w.tape = S.w.tape
 output : S'.w.output = S.w.output
theorem cell?_congr {w w' : World} {c : Nat} (h : w'.heap[c]? = w.heap[c]?) (o : Nat) : w'.cell? ⟨c,o,none⟩ = w.cell? ⟨c,o,none⟩ := by
 simp only [World.cell?,h]
structure Ext0 (S S' : Ctx) : Prop where
 size : S.w.heap.size ≤ S'.w.heap.size
 keep : ∀ c,c < S.w.heap.size → S.free c → S'.w.heap[c]? = S.w.heap[c]? ∧ S'.free c
 len : S.H.length ≤ S'.H.length
 ver : ∀ i v',i < S.H.length → Zj S'.H i = some v' → ∃ v,Zj S.H i = some v ∧ v ≤ v' ∧ (v = v' → S'.ρ i = S.ρ i ∧
  ∀ sz ag cs cells e fr,Q0 S.H i = some (.row v sz ag cs) → S.w.heap[S.ρ i]? = some (.cells cells e fr) →
   ∃ cs' cells' e' fr',Q0 S'.H i = some (.row v sz ag cs') ∧ S'.w.heap[S.ρ i]? = some (.cells cells' e' fr') ∧ cells'.size = cells.size)
theorem Ext.weak {S S' : Ctx} (h : Ext S S') : Ext0 S S' := ⟨h.size,h.keep,h.len,h.ver⟩
theorem Fa.mono {S S' : Ctx} (hx : Ext0 S S') (h : Fa T S) : Fa T S' := fun c us hc => by
 obtain ⟨h1,h2,e,fr,h3⟩ := h c us hc
 obtain ⟨k1,k2⟩ := hx.keep c h2 h1
 exact ⟨k2,Nat.lt_of_lt_of_le h2 hx.size,e,fr,by rw [k1]; exact h3⟩
theorem Rel.mono0 {S S' : Ctx} (hx : Ext0 S S') {v : V} {u : Value} (h : Rel S v u) : Rel S' v u := by
 induction h with
 | junk u => exact .junk u
 | bool b => exact .bool b
 | int k n => exact .int k n
 | str bs => exact .str bs
 | nilptr => exact .nilptr
 | ptr i ver off a hi h =>
  refine .ptr i ver off a (Nat.lt_of_lt_of_le hi hx.len) fun v' hv' => ?_
  obtain ⟨v,hv,hle,heq⟩ := hx.ver i v' hi hv'
  obtain ⟨h1,h2⟩ := h v hv
  refine ⟨by omega,fun e => ?_⟩
  have e1 : v = v' := by omega
  rw [(heq e1).1]
  exact h2 (by omega)
 | fptr cs c off us hf hc hcl h1 h2 ih =>
  obtain ⟨k1,k2⟩ := hx.keep c hc hf
  exact .fptr cs c off us k2 (Nat.lt_of_lt_of_le hc hx.size) hcl (fun j x hj => by rw [cell?_congr k1]; exact h1 j x hj) ih
 | nils => exact .nils
 | emp a => exact .emp a
 | vs xs a n cap c off sz us hn hcap hcl ha hsz h1 h2 ih =>
  refine .vs xs a n cap c off sz us hn hcap hcl (fun hne => ?_) hsz (fun i x j y hi hj => ?_) ih
  ·obtain ⟨a1,a2,a3⟩ := ha hne
   exact ⟨a1,(hx.keep c a3 a2).2,Nat.lt_of_lt_of_le a3 hx.size⟩
  ·have hne : xs ≠ [] := by rintro rfl; simp at hi
   obtain ⟨a1,a2,a3⟩ := ha hne
   rw [cell?_congr (hx.keep c a3 a2).1]; exact h1 i x j y hi hj
 | rs i ver sz off n a cap hi hcap h =>
  refine .rs i ver sz off n a cap (Nat.lt_of_lt_of_le hi hx.len) hcap fun v' hv' => ?_
  obtain ⟨v,hv,hle,heq⟩ := hx.ver i v' hi hv'
  obtain ⟨h1,h2⟩ := h v hv
  refine ⟨by omega,fun e => ?_⟩
  have e1 : v = v' := by omega
  obtain ⟨ag,cs,cells,el,fr,g1,g2,g3,g5⟩ := h2 (by omega)
  obtain ⟨r1,r2⟩ := heq e1
  obtain ⟨cs',cells',e',fr',q1,q2,q3⟩ := r2 sz ag cs cells el fr g1 g2
  subst e1
  exact ⟨ag,cs',cells',e',fr',q1,by rw [r1]; exact q2,by rw [q3]; exact g3,by rw [r1]; exact g5⟩
 | fn f cap us hl h2 ih => exact .fn f cap us hl ih
 | nilfn => exact .nilfn
 | niface => exact .niface
 | iface t v u h ih => exact .iface t v u ih
 | agg cs us hl h2 ih => exact .agg cs us hl ih
 | tup cs us hl h2 ih => exact .tup cs us hl ih
 | nilmap => exact .nilmap
 | mapr i c hi h =>
  refine .mapr i c (Nat.lt_of_lt_of_le hi hx.len) fun hv' => ?_
  obtain ⟨v,hv,hle,heq⟩ := hx.ver i 0 hi hv'
  obtain rfl : v = 0 := by omega
  rw [h hv,(heq rfl).1]
theorem Rel.mono {S S' : Ctx} (hx : Ext S S') {v : V} {u : Value} (h : Rel S v u) : Rel S' v u := h.mono0 hx.weak
theorem Ext.refl (S : Ctx) : Ext S S where
 size := Nat.le_refl _
 keep := fun c _ h => ⟨rfl,h⟩
 zed := fun c h => ⟨h,rfl⟩
 znew := fun c h => .inl h
 len := Nat.le_refl _
 ver := fun i v' _ h => ⟨v',h,Nat.le_refl _,fun _ => ⟨rfl,fun sz ag cs cells e fr h1 h2 => ⟨cs,cells,e,fr,h1,h2,rfl⟩⟩⟩
 os := rfl
 tape := rfl
 output := rfl
theorem Ext.trans {S S' S'' : Ctx} (h : Ext S S') (k : Ext S' S'') : Ext S S'' where
 size := Nat.le_trans h.size k.size
 keep := fun c hc hf => by
  obtain ⟨a1,a2⟩ := h.keep c hc hf
  obtain ⟨b1,b2⟩ := k.keep c (Nat.lt_of_lt_of_le hc h.size) a2
  exact ⟨b1.trans a1,b2⟩
 zed := fun c hz => by
  obtain ⟨a1,a2⟩ := h.zed c hz
  obtain ⟨b1,b2⟩ := k.zed c a1
  exact ⟨b1,b2.trans a2⟩
 znew := fun c hz => by
  rcases k.znew c hz with h1 | h1
  ·exact h.znew c h1
  ·exact .inr (Nat.le_trans h.size h1)
 len := Nat.le_trans h.len k.len
 ver := fun i v'' hi hv => by
  obtain ⟨v',b1,b2,b3⟩ := k.ver i v'' (Nat.lt_of_lt_of_le hi h.len) hv
  obtain ⟨v,a1,a2,a3⟩ := h.ver i v' hi b1
  refine ⟨v,a1,Nat.le_trans a2 b2,fun e => ?_⟩
  have e1 : v = v' := by omega
  have e2 : v' = v'' := by omega
  obtain ⟨p1,p2⟩ := a3 e1
  obtain ⟨q1,q2⟩ := b3 e2
  refine ⟨q1.trans p1,fun sz ag cs cells el fr g1 g2 => ?_⟩
  obtain ⟨cs',cells',e',fr',r1,r2,r3⟩ := p2 sz ag cs cells el fr g1 g2
  subst e1
  rw [p1] at q2
  obtain ⟨cs2,cells2,el2,fr2,t1,t2,t3⟩ := q2 sz ag cs' cells' e' fr' r1 r2
  exact ⟨cs2,cells2,el2,fr2,t1,t2,t3.trans r3⟩
 os := k.os.trans h.os
 tape := k.tape.trans h.tape
 output := k.output.trans h.output
theorem Yx.mono0 {S S' : Ctx} (hx : Ext0 S S') {cs : List V} {cells : Array Value} (h : Yx S cs cells) : Yx S' cs cells :=
 fun j x hj => let ⟨u,a,b⟩ := h j x hj; ⟨u,a,b.mono0 hx⟩
theorem Yx.mono {S S' : Ctx} (hx : Ext S S') {cs : List V} {cells : Array Value} (h : Yx S cs cells) : Yx S' cs cells :=
 fun j x hj => let ⟨u,a,b⟩ := h j x hj; ⟨u,a,b.mono hx⟩
theorem J4.mono0 {S S' : Ctx} (hx : Ext0 S S') {c : Nat} (hc : S'.w.heap[c]? = S.w.heap[c]?) {b : Blk} (h : J4 S c b) : J4 S' c b := by
 cases b with
 | dead => trivial
 | var cs => obtain ⟨cells,e,fr,h1,h2,h3,h4⟩ := h; exact ⟨cells,e,fr,by rw [hc]; exact h1,h2,h3,h4.mono0 hx⟩
 | row v sz ag cs => obtain ⟨cells,e,fr,h1,h2,h3,h4,h5⟩ := h; exact ⟨cells,e,fr,by rw [hc]; exact h1,h2,h3,h4,h5.mono0 hx⟩
 | map es =>
  obtain ⟨ms,clock,h1,h2,h3⟩ := h
  refine ⟨ms,clock,by rw [hc]; exact h1,h2,fun j k x hj => ?_⟩
  obtain ⟨m,a,b,c⟩ := h3 j k x hj
  exact ⟨m,a,b.mono0 hx,c.mono0 hx⟩
theorem J4.mono {S S' : Ctx} (hx : Ext S S') {c : Nat} (hc : S'.w.heap[c]? = S.w.heap[c]?) {b : Blk} (h : J4 S c b) : J4 S' c b := h.mono0 hx.weak hc
theorem Pd {S : Ctx} {i v : Nat} (h : Zj S.H i = some v) : S.live i := by simp [Ctx.live,h]
theorem KB {S : Ctx} {i : Nat} {b : Blk} (h : Q0 S.H i = some b) (hb : (ZQ b).isSome = true) : S.live i := by simpa [Ctx.live,Zj,h] using hb
theorem KO {S : Ctx} {i : Nat} (h : S.live i) : i < S.H.length := by
 obtain ⟨v,hv⟩ := Option.isSome_iff_exists.1 h
 unfold Zj at hv
 cases e : Q0 S.H i with
 | none => simp [e] at hv
 | some b => exact VU e
theorem Sim.lt {S : Ctx} (hS : Sim T S) {i : Nat} (h : S.live i) : S.ρ i < S.w.heap.size := by
 obtain ⟨v,hv⟩ := Option.isSome_iff_exists.1 h
 unfold Zj at hv
 cases e : Q0 S.H i with
 | none => simp [e] at hv
 | some b =>
  have hb := hS.blk i b e
  have key : ∀ {o : Obj},S.w.heap[S.ρ i]? = some o → S.ρ i < S.w.heap.size := fun h => (Array.getElem?_eq_some_iff.1 h).1
  cases b with
  | dead => simp [e,ZQ] at hv
  | var cs => obtain ⟨cells,el,fr,h1,_⟩ := hb; exact key h1
  | row v sz ag cs => obtain ⟨cells,el,fr,h1,_⟩ := hb; exact key h1
  | map es => obtain ⟨ms,cl,h1,_⟩ := hb; exact key h1
def upd (f : Nat → Nat) (i c : Nat) : Nat → Nat := fun j => if j = i then c else f j
@[simp] theorem upd_same (f : Nat → Nat) (i c : Nat) : upd f i c i = c := by simp [upd]
theorem upd_ne (f : Nat → Nat) {i j : Nat} (c : Nat) (h : j ≠ i) : upd f i c j = f j := by simp [upd,h]
def Ctx.push (S : Ctx) (b : Blk) (w' : World) : Ctx := { H := b :: S.H,ρ := upd S.ρ S.H.length S.w.heap.size,Z := S.Z,w := w' }
theorem UG {H : Qa} {b : Blk} {i : Nat} (h : i < H.length) : Zj (b :: H) i = Zj H i := by simp [Zj,Ng b h]
structure Pushed (w w' : World) (o : Obj) : Prop where
 heap : w'.heap = w.heap.push o
 os : w'.os = w.os
 tape : w'.tape = w.tape
 output : w'.output = w.output
theorem Pushed.old {w w' : World} {o : Obj} (h : Pushed w w' o) {c : Nat} (hc : c < w.heap.size) : w'.heap[c]? = w.heap[c]? := by
 rw [h.heap,Array.getElem?_push,if_neg (by omega)]
theorem Pushed.new {w w' : World} {o : Obj} (h : Pushed w w' o) : w'.heap[w.heap.size]? = some o := by rw [h.heap]; simp
theorem Pushed.size {w w' : World} {o : Obj} (h : Pushed w w' o) : w'.heap.size = w.heap.size + 1 := by rw [h.heap]; simp
theorem Qq8 {S : Ctx} {b : Blk} {w' : World} {c : Nat} (hc : c < S.w.heap.size) : (S.push b w').owned c → S.owned c := by
 rintro ⟨i,hi,he⟩
 by_cases e : i = S.H.length
 ·subst e; simp [Ctx.push] at he; omega
 ·have hl : i < S.H.length := by have := KO hi; simp [Ctx.push] at this; omega
  refine ⟨i,?_,?_⟩
  ·simpa [Ctx.live,Ctx.push,UG hl] using hi
  ·simpa [Ctx.push,upd_ne _ _ e] using he
theorem Mq {S : Ctx} (hS : Sim T S) {b : Blk} {w' : World} {o : Obj} (hp : Pushed S.w w' o) : Ext S (S.push b w') where
 size := by simp [Ctx.push,hp.size]
 keep := fun c hc hf => ⟨hp.old hc,fun h => hf.1 (Qq8 hc h),hf.2⟩
 zed := fun c hz => ⟨hz,hp.old (hS.zlt c hz)⟩
 znew := fun c hz => .inl hz
 len := by simp [Ctx.push]
 ver := fun i v' hi hv => by
  have hv0 : Zj S.H i = some v' := by simpa [Ctx.push,UG hi] using hv
  refine ⟨v',hv0,Nat.le_refl _,fun _ => ⟨by simp [Ctx.push,upd_ne _ _ (Nat.ne_of_lt hi)],fun sz ag cs cells e fr h1 h2 => ?_⟩⟩
  exact ⟨cs,cells,e,fr,by simpa [Ctx.push,Ng b hi] using h1,by rw [show (S.push b w').w = w' from rfl,hp.old (Array.getElem?_eq_some_iff.1 h2).1]; exact h2,rfl⟩
 os := hp.os
 tape := hp.tape
 output := hp.output
theorem Ew {S : Ctx} (hS : Sim T S) {b : Blk} {w' : World} {o : Obj} (hp : Pushed S.w w' o) (hb : J4 (S.push b w') S.w.heap.size b) : Sim T (S.push b w') where
 blk := fun i x hx => by
  by_cases e : i = S.H.length
  ·subst e
   simp [Ctx.push] at hx
   subst hx
   simpa [Ctx.push] using hb
  ·have hl : i < S.H.length := by have := VU hx; simp [Ctx.push] at this; omega
   have hx0 : Q0 S.H i = some x := by simpa [Ctx.push,Ng b hl] using hx
   have h0 := hS.blk i x hx0
   rw [show (S.push b w').ρ i = S.ρ i by simp [Ctx.push,upd_ne _ _ e]]
   cases x with
   | dead => trivial
   | _ =>
    exact h0.mono (Mq hS hp) (hp.old (hS.lt (KB hx0 rfl)))
 inj := fun i j hi hj he => by
  have li := KO hi
  have lj := KO hj
  simp [Ctx.push] at li lj
  have old : ∀ k,(S.push b w').live k → k ≠ S.H.length → S.live k ∧ S.ρ k < S.w.heap.size ∧ (S.push b w').ρ k = S.ρ k := fun k hk hne => by
   have lk := KO hk
   simp [Ctx.push] at lk
   have : S.live k := by simpa [Ctx.live,Ctx.push,UG (show k < S.H.length by omega)] using hk
   exact ⟨this,hS.lt this,by simp [Ctx.push,upd_ne _ _ hne]⟩
  by_cases ei : i = S.H.length <;> by_cases ej : j = S.H.length
  ·omega
  ·obtain ⟨a1,a2,a3⟩ := old j hj ej
   rw [a3,ei] at he; simp [Ctx.push] at he; omega
  ·obtain ⟨a1,a2,a3⟩ := old i hi ei
   rw [a3,ej] at he; simp [Ctx.push] at he; omega
  ·obtain ⟨a1,a2,a3⟩ := old i hi ei
   obtain ⟨b1,b2,b3⟩ := old j hj ej
   exact hS.inj i j a1 b1 (by rw [← a3,← b3]; exact he)
 zfree := fun i hi hz => by
  by_cases e : i = S.H.length
  ·subst e
   simp [Ctx.push] at hz
   have := hS.zlt _ hz; omega
  ·have lk := KO hi
   simp [Ctx.push] at lk
   exact hS.zfree i (by simpa [Ctx.live,Ctx.push,UG (show i < S.H.length by omega)] using hi) (by simpa [Ctx.push,upd_ne _ _ e] using hz)
 zlt := fun c hz => by have := hS.zlt c hz; simp only [Ctx.push,hp.size]; omega
 tab := hS.tab.mono (Mq hS hp).weak
def Ctx.put (S : Ctx) (i : Nat) (b : Blk) (w' : World) : Ctx := { H := ZV S.H i b,ρ := S.ρ,Z := S.Z,w := w' }
structure Written (w w' : World) (c : Nat) : Prop where
 size : w'.heap.size = w.heap.size
 old : ∀ d,d ≠ c → w'.heap[d]? = w.heap[d]?
 os : w'.os = w.os
 tape : w'.tape = w.tape
 output : w'.output = w.output
theorem Nr {H : Qa} {i : Nat} {b b' : Blk} (hb : Q0 H i = some b) (hv : ZQ b' = ZQ b) (j : Nat) : Zj (ZV H i b') j = Zj H j := by
 unfold Zj
 rw [Mx]
 by_cases h : j = i ∧ i < H.length
 ·rw [if_pos h,h.1,hb]; simp [hv]
 ·rw [if_neg h]
def sameShape (w w' : World) (c : Nat) (b b' : Blk) : Prop :=
 ∀ v sz ag cs,b = .row v sz ag cs → (∃ cs',b' = .row v sz ag cs') ∧ ∀ cells e fr,w.heap[c]? = some (.cells cells e fr) → ∃ cells' e' fr',w'.heap[c]? = some (.cells cells' e' fr') ∧ cells'.size = cells.size
theorem BD {S : Ctx} (hS : Sim T S) {i : Nat} {b b' : Blk} {w' : World} (hb : Q0 S.H i = some b) (hv : ZQ b' = ZQ b) (hl : (ZQ b).isSome = true)
  (hw : Written S.w w' (S.ρ i)) (hs : sameShape S.w w' (S.ρ i) b b') : Ext S (S.put i b' w') where
 size := by simp [Ctx.put,hw.size]
 keep := fun c hc hf => by
  have li : S.live i := by simpa [Ctx.live,Zj,hb] using hl
  refine ⟨hw.old c fun e => hf.1 ⟨i,li,e.symm⟩,fun h => hf.1 ?_,hf.2⟩
  obtain ⟨j,hj,he⟩ := h
  exact ⟨j,by simpa [Ctx.live,Ctx.put,Nr hb hv] using hj,he⟩
 zed := fun c hz => by
  have li : S.live i := by simpa [Ctx.live,Zj,hb] using hl
  exact ⟨hz,hw.old c fun e => hS.zfree i li (e ▸ hz)⟩
 znew := fun c hz => .inl hz
 len := by simp [Ctx.put]
 ver := fun j v' hj hv' => by
  have h0 : Zj S.H j = some v' := by simpa [Ctx.put,Nr hb hv] using hv'
  refine ⟨v',h0,Nat.le_refl _,fun _ => ⟨rfl,fun sz ag cs cells el fr h1 h2 => ?_⟩⟩
  by_cases e : j = i
  ·subst e
   have e2 : b = .row v' sz ag cs := by rw [hb] at h1; exact Option.some.inj h1
   obtain ⟨⟨cs',hb'⟩,hc⟩ := hs _ _ _ _ e2
   obtain ⟨cells',e',fr',g1,g2⟩ := hc cells el fr h2
   exact ⟨cs',cells',e',fr',by simp only [Ctx.put]; rw [Kw _ hj,hb'],g1,g2⟩
  ·refine ⟨cs,cells,el,fr,by simp only [Ctx.put]; rw [WK _ e]; exact h1,?_,rfl⟩
   rw [show (S.put i b' w').w = w' from rfl,hw.old _ fun he => e (hS.inj j i (Pd h0) (by simpa [Ctx.live,Zj,hb] using hl) he)]
   exact h2
 os := hw.os
 tape := hw.tape
 output := hw.output
theorem LY {S : Ctx} (hS : Sim T S) {i : Nat} {b b' : Blk} {w' : World} (hb : Q0 S.H i = some b) (hv : ZQ b' = ZQ b) (hl : (ZQ b).isSome = true)
  (hw : Written S.w w' (S.ρ i)) (hs : sameShape S.w w' (S.ρ i) b b') (hr : J4 (S.put i b' w') (S.ρ i) b') : Sim T (S.put i b' w') where
 blk := fun j x hx => by
  have li : S.live i := by simpa [Ctx.live,Zj,hb] using hl
  by_cases e : j = i
  ·subst e
   simp only [Ctx.put] at hx
   rw [Kw _ (VU hb)] at hx
   injection hx with hx
   subst hx
   exact hr
  ·simp only [Ctx.put] at hx
   rw [WK _ e] at hx
   have h0 := hS.blk j x hx
   cases x with
   | dead => trivial
   | _ =>
    exact h0.mono (BD hS hb hv hl hw hs) (hw.old _ fun he => e (hS.inj j i (KB hx rfl) li he))
 inj := fun j k hj hk he => hS.inj j k (by simpa [Ctx.live,Ctx.put,Nr hb hv] using hj) (by simpa [Ctx.live,Ctx.put,Nr hb hv] using hk) he
 zfree := fun j hj => hS.zfree j (by simpa [Ctx.live,Ctx.put,Nr hb hv] using hj)
 zlt := fun c hz => by have := hS.zlt c hz; simp only [Ctx.put,hw.size]; exact this
 tab := hS.tab.mono (BD hS hb hv hl hw hs).weak
theorem PD {S : Ctx} {i j : Nat} {b b' : Blk} {w' : World} (hb : Q0 S.H i = some b) (hl : (ZQ b).isSome = true) (h : (S.put i b' w').live j) : S.live j := by
 by_cases e : j = i
 ·subst e; simpa [Ctx.live,Zj,hb] using hl
 ·simpa [Ctx.live,Ctx.put,Zj,WK b' e] using h
theorem Al {S : Ctx} (hS : Sim T S) {i v v' : Nat} {b b' : Blk} {w' : World} (hb : Q0 S.H i = some b) (hv : ZQ b = some v) (hv' : ZQ b' = some v') (hlt : v < v')
  (hw : Written S.w w' (S.ρ i)) : Ext S (S.put i b' w') where
 size := by simp [Ctx.put,hw.size]
 keep := fun c hc hf => by
  have li : S.live i := KB hb (by simp [hv])
  refine ⟨hw.old c fun e => hf.1 ⟨i,li,e.symm⟩,fun h => hf.1 ?_,hf.2⟩
  obtain ⟨j,hj,he⟩ := h
  exact ⟨j,PD hb (by simp [hv]) hj,he⟩
 zed := fun c hz => ⟨hz,hw.old c fun e => hS.zfree i (KB hb (by simp [hv])) (e ▸ hz)⟩
 znew := fun c hz => .inl hz
 len := by simp [Ctx.put]
 ver := fun j u hj hu => by
  by_cases e : j = i
  ·subst e
   simp only [Ctx.put,Zj] at hu
   rw [Kw _ hj] at hu
   simp [hv'] at hu
   exact ⟨v,by simp [Zj,hb,hv],by omega,fun he => by omega⟩
  ·have h0 : Zj S.H j = some u := by simpa [Ctx.put,Zj,WK b' e] using hu
   refine ⟨u,h0,Nat.le_refl _,fun _ => ⟨rfl,fun sz ag cs cells el fr h1 h2 => ?_⟩⟩
   refine ⟨cs,cells,el,fr,by simp only [Ctx.put]; rw [WK _ e]; exact h1,?_,rfl⟩
   rw [show (S.put i b' w').w = w' from rfl,hw.old _ fun he => e (hS.inj j i (Pd h0) (KB hb (by simp [hv])) he)]
   exact h2
 os := hw.os
 tape := hw.tape
 output := hw.output
theorem Qos {S : Ctx} (hS : Sim T S) {i v v' : Nat} {b b' : Blk} {w' : World} (hb : Q0 S.H i = some b) (hv : ZQ b = some v) (hv' : ZQ b' = some v') (hlt : v < v')
  (hw : Written S.w w' (S.ρ i)) (hr : J4 (S.put i b' w') (S.ρ i) b') : Sim T (S.put i b' w') where
 blk := fun j x hx => by
  have li : S.live i := KB hb (by simp [hv])
  by_cases e : j = i
  ·subst e
   simp only [Ctx.put] at hx
   rw [Kw _ (VU hb)] at hx
   injection hx with hx
   subst hx
   exact hr
  ·simp only [Ctx.put] at hx
   rw [WK _ e] at hx
   have h0 := hS.blk j x hx
   cases x with
   | dead => trivial
   | _ => exact h0.mono (Al hS hb hv hv' hlt hw) (hw.old _ fun he => e (hS.inj j i (KB hx rfl) li he))
 inj := fun j k hj hk he => hS.inj j k (PD hb (by simp [hv]) hj) (PD hb (by simp [hv]) hk) he
 zfree := fun j hj => hS.zfree j (PD hb (by simp [hv]) hj)
 zlt := fun c hz => by have := hS.zlt c hz; simp only [Ctx.put,hw.size]; exact this
 tab := hS.tab.mono (Al hS hb hv hv' hlt hw).weak
def Ctx.move (S : Ctx) (i : Nat) (b : Blk) (w' : World) : Ctx := { H := ZV S.H i b,ρ := upd S.ρ i S.w.heap.size,Z := S.Z,w := w' }
theorem F7 {S : Ctx} {i j : Nat} {b b' : Blk} {w' : World} (hb : Q0 S.H i = some b) (hl : (ZQ b).isSome = true) (h : (S.move i b' w').live j) : S.live j := by
 by_cases e : j = i
 ·subst e; simpa [Ctx.live,Zj,hb] using hl
 ·simpa [Ctx.live,Ctx.move,Zj,WK b' e] using h
theorem Dx {S : Ctx} (hS : Sim T S) {i v v' : Nat} {b b' : Blk} {w' : World} {o : Obj} (hb : Q0 S.H i = some b) (hv : ZQ b = some v) (hv' : ZQ b' = some v') (hlt : v < v')
  (hp : Pushed S.w w' o) : Ext S (S.move i b' w') where
 size := by simp [Ctx.move,hp.size]
 keep := fun c hc hf => by
  refine ⟨hp.old hc,fun h => hf.1 ?_,hf.2⟩
  obtain ⟨j,hj,he⟩ := h
  have lj := F7 hb (by simp [hv]) hj
  by_cases e : j = i
  ·subst e; simp [Ctx.move] at he; omega
  ·exact ⟨j,lj,by simpa [Ctx.move,upd_ne _ _ e] using he⟩
 zed := fun c hz => ⟨hz,hp.old (hS.zlt c hz)⟩
 znew := fun c hz => .inl hz
 len := by simp [Ctx.move]
 ver := fun j u hj hu => by
  by_cases e : j = i
  ·subst e
   simp only [Ctx.move,Zj] at hu
   rw [Kw _ hj] at hu
   simp [hv'] at hu
   refine ⟨v,by simp [Zj,hb,hv],by omega,fun he => by omega⟩
  ·have h0 : Zj S.H j = some u := by simpa [Ctx.move,Zj,WK b' e] using hu
   refine ⟨u,h0,Nat.le_refl _,fun _ => ⟨by simp [Ctx.move,upd_ne _ _ e],fun sz ag cs cells el fr h1 h2 => ?_⟩⟩
   exact ⟨cs,cells,el,fr,by simp only [Ctx.move]; rw [WK _ e]; exact h1,by rw [show (S.move i b' w').w = w' from rfl,hp.old (Array.getElem?_eq_some_iff.1 h2).1]; exact h2,rfl⟩
 os := hp.os
 tape := hp.tape
 output := hp.output
theorem Qsa {S : Ctx} (hS : Sim T S) {i v v' : Nat} {b b' : Blk} {w' : World} {o : Obj} (hb : Q0 S.H i = some b) (hv : ZQ b = some v) (hv' : ZQ b' = some v') (hlt : v < v')
  (hp : Pushed S.w w' o) (hr : J4 (S.move i b' w') S.w.heap.size b') : Sim T (S.move i b' w') where
 blk := fun j x hx => by
  by_cases e : j = i
  ·subst e
   simp only [Ctx.move] at hx
   rw [Kw _ (VU hb)] at hx
   injection hx with hx
   subst hx
   simpa [Ctx.move] using hr
  ·simp only [Ctx.move] at hx
   rw [WK _ e] at hx
   have h0 := hS.blk j x hx
   rw [show (S.move i b' w').ρ j = S.ρ j by simp [Ctx.move,upd_ne _ _ e]]
   cases x with
   | dead => trivial
   | _ =>
    exact h0.mono (Dx hS hb hv hv' hlt hp) (hp.old (hS.lt (KB hx rfl)))
 inj := fun j k hj hk he => by
  have lj := F7 hb (by simp [hv]) hj
  have lk := F7 hb (by simp [hv]) hk
  have bj := hS.lt lj
  have bk := hS.lt lk
  by_cases ej : j = i <;> by_cases ek : k = i
  ·omega
  ·subst ej; simp [Ctx.move,upd_ne _ _ ek] at he; omega
  ·subst ek; simp [Ctx.move,upd_ne _ _ ej] at he; omega
  ·exact hS.inj j k lj lk (by simpa [Ctx.move,upd_ne _ _ ej,upd_ne _ _ ek] using he)
 zfree := fun j hj hz => by
  have lj := F7 hb (by simp [hv]) hj
  by_cases e : j = i
  ·subst e; simp [Ctx.move] at hz; have := hS.zlt _ hz; omega
  ·exact hS.zfree j lj (by simpa [Ctx.move,upd_ne _ _ e] using hz)
 zlt := fun c hz => by have := hS.zlt c hz; simp only [Ctx.move,hp.size]; omega
 tab := hS.tab.mono (Dx hS hb hv hv' hlt hp).weak
def Ctx.at (S : Ctx) (w' : World) : Ctx := { S with w := w' }
structure Grew (w w' : World) : Prop where
 size : w.heap.size ≤ w'.heap.size
 old : ∀ c,c < w.heap.size → w'.heap[c]? = w.heap[c]?
 os : w'.os = w.os
 tape : w'.tape = w.tape
 output : w'.output = w.output
theorem Pushed.grew {w w' : World} {o : Obj} (h : Pushed w w' o) : Grew w w' := ⟨by rw [h.size]; omega,fun c hc => h.old hc,h.os,h.tape,h.output⟩
theorem Grew.refl (w : World) : Grew w w := ⟨Nat.le_refl _,fun _ _ => rfl,rfl,rfl,rfl⟩
theorem Grew.trans {a b c : World} (h : Grew a b) (k : Grew b c) : Grew a c :=
 ⟨Nat.le_trans h.size k.size,fun d hd => (k.old d (Nat.lt_of_lt_of_le hd h.size)).trans (h.old d hd),k.os.trans h.os,k.tape.trans h.tape,k.output.trans h.output⟩
theorem W9 {S : Ctx} (hS : Sim T S) {w' : World} (hg : Grew S.w w') : Ext S (S.at w') where
 size := hg.size
 keep := fun c hc hf => ⟨hg.old c hc,hf⟩
 zed := fun c hz => ⟨hz,hg.old c (hS.zlt c hz)⟩
 znew := fun c hz => .inl hz
 len := Nat.le_refl _
 ver := fun i v' hi hv => ⟨v',hv,Nat.le_refl _,fun _ => ⟨rfl,fun sz ag cs cells e fr h1 h2 => ⟨cs,cells,e,fr,h1,by rw [show (S.at w').w = w' from rfl,hg.old _ (Array.getElem?_eq_some_iff.1 h2).1]; exact h2,rfl⟩⟩⟩
 os := hg.os
 tape := hg.tape
 output := hg.output
theorem Nb {S : Ctx} (hS : Sim T S) {w' : World} (hg : Grew S.w w') : Sim T (S.at w') where
 blk := fun i b hb => by
  have h0 := hS.blk i b hb
  cases b with
  | dead => trivial
  | _ => exact h0.mono (W9 hS hg) (hg.old _ (hS.lt (KB (show Q0 S.H i = _ from hb) rfl)))
 inj := hS.inj
 zfree := hS.zfree
 zlt := fun c hz => Nat.lt_of_lt_of_le (hS.zlt c hz) hg.size
 tab := hS.tab.mono (W9 hS hg).weak
end Go.Ev
end
section
namespace Go.Ev
def Zv (S : Ctx) (t : List V) (tmps : Array Value) : Prop := t.length ≤ tmps.size ∧ ∀ i,Rel S (t.getD i .junk) (tmps.getD i undef)
theorem Zv.mono {S S' : Ctx} (hx : Ext S S') {t : List V} {tmps : Array Value} (h : Zv S t tmps) : Zv S' t tmps := ⟨h.1,fun i => (h.2 i).mono hx⟩
theorem Qce (S : Ctx) (v : Value) : Rel S (GB v) v := by
  unfold GB
  split <;> first
    | constructor
    | (split
       · rename_i vs h
         refine .tup [] _ (by simpa using h) (fun j x u hj => by simp at hj)
       · constructor)
theorem T7 (f : Value → V) : ∀ (l : List Value) (j : Nat),(U0 f l)[j]? = (l[j]?).map f
  | [],j => by simp [U0]
  | v :: l,0 => by simp [U0]
  | v :: l,j + 1 => by simp [U0,T7 f l j]
theorem Tj (f : Value → V) : ∀ (l : List Value),(U0 f l).length = l.length
  | [] => rfl
  | v :: l => by simp [U0,Tj f l]
theorem Qgm (S : Ctx) (v : Value) : Rel S (ofValue v) v := by
  unfold ofValue
  split
  · rename_i cs
    refine .agg _ _ (by simp [Tj]) fun j x u hj hu => ?_
    rw [T7] at hj
    have : cs.toList[j]? = some u := by simpa using hu
    rw [this] at hj
    simp at hj
    subst hj
    exact Qce S u
  · exact Qce S _
theorem ZL {S : Ctx} {t : List V} {a : Act} (h : Zv S t a.tmps) (x : Operand) : Rel S (env t x) (a.eval x) := by
  cases x with
  | tmp i => exact h.2 i
  | const v => exact Qgm S v
  | global g => exact .junk _
  | func f => exact .fn f [] #[] rfl (fun j x u hj => by simp at hj)
theorem Qca (t : List V) : ∀ (l : List Operand) (j : Nat),(YT t l)[j]? = (l[j]?).map (env t)
  | [],j => by simp [YT]
  | v :: l,0 => by simp [YT]
  | v :: l,j + 1 => by simp [YT,Qca t l j]
theorem QgR (t : List V) : ∀ (l : List Operand),(YT t l).length = l.length
  | [] => rfl
  | v :: l => by simp [YT,QgR t l]
structure RelA (S : Ctx) (cs : List V) (us : Array Value) : Prop where
  size : us.size = cs.length
  get : ∀ (j : Nat) (x : V) (u : Value),cs[j]? = some x → us[j]? = some u → Rel S x u
theorem RelA.mono {S S' : Ctx} (hx : Ext S S') {cs : List V} {us : Array Value} (h : RelA S cs us) : RelA S' cs us := ⟨h.size,fun j x u a b => (h.get j x u a b).mono hx⟩
theorem Gy {S : Ctx} {t : List V} {a : Act} (h : Zv S t a.tmps) (l : Array Operand) : RelA S (YT t l.toList) (l.map a.eval) := by
  refine ⟨by simp [QgR],fun j x u hj hu => ?_⟩
  rw [Qca] at hj
  simp only [Array.getElem?_map] at hu
  have e : l.toList[j]? = l[j]? := by simp
  rw [e] at hj
  cases hl : l[j]? with
  | none => rw [hl] at hj; simp at hj
  | some y =>
    rw [hl] at hj hu
    simp at hj hu
    subst hj hu
    exact ZL h y
theorem RelA.append {S : Ctx} {xs ys : List V} {us vs : Array Value} (h : RelA S xs us) (k : RelA S ys vs) : RelA S (xs ++ ys) (us ++ vs) := by
  refine ⟨by simp [h.size,k.size],fun j x u hj hu => ?_⟩
  rw [List.getElem?_append] at hj
  rw [Array.getElem?_append] at hu
  by_cases c : j < xs.length
  · rw [if_pos c] at hj; rw [if_pos (by rw [h.size]; exact c)] at hu; exact h.get j x u hj hu
  · rw [if_neg c] at hj; rw [if_neg (by rw [h.size]; exact c),h.size] at hu; exact k.get _ x u hj hu
theorem Rel.cells {S : Ctx} {v : V} {u : Value} (h : Rel S v u) (hs : ZI v.cells = true) : RelA S v.cells u.cells := by
  have h0 := h
  cases h with
  | agg cs us hl h2 => exact ⟨hl,h2⟩
  | junk u => simp [V.cells,ZI,V.scal] at hs
  | tup cs us hl h2 => simp [V.cells,ZI,V.scal] at hs
  | _ =>
    refine ⟨rfl,fun j x u hj hu => ?_⟩
    cases j with
    | zero => simp [V.cells,Value.cells] at hj hu; subst hj hu; exact h0
    | succ j => simp [V.cells] at hj
theorem FG {P : Program} {t : TypeId} {n : Nat} (h : Q5 P t = some n) : ∃ i,P.info? t = some i ∧ i.size = n := by
  unfold Q5 at h; cases e : P.info? t with
  | none => simp [e] at h
  | some i => simp [e] at h; exact ⟨i,rfl,h⟩
theorem Qb5 {P : Program} {t : TypeId} {n : Nat} (h : K8 P t = some n) : ∃ i,P.info? t = some i ∧ i.bytes = n := by
  unfold K8 at h; cases e : P.info? t with
  | none => simp [e] at h
  | some i => simp [e] at h; exact ⟨i,rfl,h⟩
theorem QjC {P : Program} {t : TypeId} {z : V} (h : ZO P t = some z) : ∃ i v,P.info? t = some i ∧ i.zero = some v ∧ z = ofValue v := by
  unfold ZO at h; cases e : P.info? t with
  | none => simp [e] at h
  | some i =>
    cases e2 : i.zero with
    | none => simp [e,e2] at h
    | some v => simp [e,e2] at h; exact ⟨i,v,rfl,e2,h.symm⟩
theorem YC {P : Program} {t : TypeId} {n : Nat} (h : Q5 P t = some n) (w : World) : (sizeOf t).run P w = .ok n w := by
  obtain ⟨i,h1,h2⟩ := FG h; simp [sizeOf,typeInfo,h1,h2]
theorem Zo {P : Program} {t : TypeId} {d : TypeDesc} (h : P.underlying t = some d) (w : World) : (underlying t).run P w = .ok d w := by simp [underlying,h]
theorem PQ {P : Program} {t : TypeId} {b : Bool} (h : Z9 P t = some b) (w : World) : (isAgg t).run P w = .ok b w := by
  unfold Z9 at h
  cases e : P.underlying t with
  | none => simp [e] at h
  | some d => rw [e] at h; simp only [isAgg,Sem.run_bind,Zo e,Result.andThen_ok]; cases d <;> simp_all
theorem Wr {P : Program} {t : TypeId} {z : V} (h : ZO P t = some z) (S : Ctx) : ∃ u,Rel S z u ∧ (∀ w,(zeroValue t).run P w = .ok u w) := by
  obtain ⟨i,v,h1,h2,h3⟩ := QjC h
  exact ⟨v,h3 ▸ Qgm S v,fun w => by simp [zeroValue,typeInfo,h1,h2]⟩
theorem RelA.drop {S : Ctx} {cs : List V} {us : Array Value} (h : RelA S cs us) (off n : Nat) (hn : off + n ≤ cs.length) :
    RelA S ((cs.drop off).take n) (us.extract off (off + n)) := by
  refine ⟨by simp [h.size]; omega,fun j x u hj hu => ?_⟩
  rw [List.getElem?_take] at hj
  split at hj
  · rename_i hlt
    rw [List.getElem?_drop] at hj
    rw [Array.getElem?_extract] at hu
    split at hu
    · exact h.get _ x u hj hu
    · simp at hu
  · simp at hj
theorem Pv {P : Program} {S : Ctx} {t : TypeId} {cs : List V} {us : Array Value} {off : Nat} {v : V} (h : RelA S cs us) (hv : W4 P t cs off = some v) :
    ∃ u,Rel S v u ∧ ∀ w,(part t us off).run P w = .ok u w := by
  unfold W4 at hv
  cases ha : Z9 P t with
  | none => simp [ha] at hv
  | some ag =>
    cases hs : Q5 P t with
    | none => simp [ha,hs] at hv
    | some n =>
      simp only [ha,hs,Option.bind_some] at hv
      split at hv
      · rename_i hle
        unfold Kf at hv
        split at hv
        · cases ag with
          | true =>
            simp at hv
            subst hv
            refine ⟨.agg (us.extract off (off + n)),.agg _ _ (h.drop off n hle).size (h.drop off n hle).get,fun w => ?_⟩
            simp [part,PQ ha,YC hs]
          | false =>
            simp at hv
            obtain ⟨h1,h2⟩ := hv
            have hlt : off < us.size := by rw [h.size]; omega
            refine ⟨us[off],h.get off v us[off] h2 (by simp [hlt]),fun w => ?_⟩
            simp [part,PQ ha,hlt]
        · simp at hv
      · simp at hv
theorem EN (off : Nat) : ∀ (l : List Value) (k : Nat) (cs : Array Value) (i : Nat),
    ((l.zipIdx k).foldl (fun cs (x : Value × Nat) => cs.setIfInBounds (off + x.2) x.1) cs)[i]? =
      if off + k ≤ i ∧ i < off + k + l.length ∧ i < cs.size then l[i - (off + k)]? else cs[i]?
  | [],k,cs,i => by simp; omega
  | x :: l,k,cs,i => by
    rw [List.zipIdx_cons,List.foldl_cons,EN off l (k + 1)]
    simp only [Array.size_setIfInBounds,List.length_cons]
    by_cases h : i = off + k
    · subst h
      rw [if_neg (by omega)]
      rw [Array.getElem?_setIfInBounds]
      simp only [if_true]
      by_cases hs : off + k < cs.size
      · rw [if_pos hs,if_pos ⟨by omega,by omega,hs⟩]; simp
      · rw [if_neg hs,if_neg (by omega)]; simp [Nat.le_of_not_lt hs]
    · by_cases h2 : off + (k + 1) ≤ i ∧ i < off + (k + 1) + l.length ∧ i < cs.size
      · rw [if_pos h2,if_pos (by omega)]
        have : i - (off + k) = (i - (off + (k + 1))) + 1 := by omega
        rw [this]; simp
      · rw [if_neg h2,if_neg (by omega),Array.getElem?_setIfInBounds,if_neg (by omega)]
theorem EW (off : Nat) : ∀ (l : List Value) (k : Nat) (cs : Array Value),
    ((l.zipIdx k).foldl (fun cs (x : Value × Nat) => cs.setIfInBounds (off + x.2) x.1) cs).size = cs.size
  | [],k,cs => by simp
  | x :: l,k,cs => by rw [List.zipIdx_cons,List.foldl_cons,EW off l (k + 1)]; simp
theorem Np {cs xs : List V} {off : Nat} (h : off + xs.length ≤ cs.length) : (splice cs off xs).length = cs.length := by simp [splice]; omega
theorem Qdl {cs xs : List V} {off : Nat} (h : off + xs.length ≤ cs.length) (i : Nat) :
    (splice cs off xs)[i]? = if off ≤ i ∧ i < off + xs.length then xs[i - off]? else cs[i]? := by
  unfold splice
  rw [List.append_assoc,List.getElem?_append]
  have l1 : (cs.take off).length = off := by simp; omega
  rw [l1]
  by_cases h1 : i < off
  · rw [if_pos h1,if_neg (by omega),List.getElem?_take,if_pos h1]
  · rw [if_neg h1,List.getElem?_append]
    by_cases h2 : i - off < xs.length
    · rw [if_pos h2,if_pos (by omega)]
    · rw [if_neg h2,if_neg (by omega),List.getElem?_drop]
      congr 1; omega
theorem RelA.splice {S : Ctx} {cs xs : List V} {us vs : Array Value} (h : RelA S cs us) (k : RelA S xs vs) {off : Nat} (ho : off + xs.length ≤ cs.length) :
    RelA S (splice cs off xs) (vs.zipIdx.foldl (fun cs (c,j) => cs.setIfInBounds (off + j) c) us) := by
  have e : vs.zipIdx.foldl (fun cs (c,j) => cs.setIfInBounds (off + j) c) us = (vs.toList.zipIdx 0).foldl (fun cs (x : Value × Nat) => cs.setIfInBounds (off + x.2) x.1) us := by
    rw [← Array.foldl_toList,Array.toList_zipIdx]
  rw [e]
  refine ⟨by rw [EW,h.size,Np ho],fun j x u hj hu => ?_⟩
  rw [EN] at hu
  rw [Qdl ho] at hj
  have hk : vs.toList.length = xs.length := by simp [k.size]
  by_cases c : off ≤ j ∧ j < off + xs.length
  · rw [if_pos c] at hj
    rw [if_pos ⟨by omega,by rw [hk]; omega,by rw [h.size]; omega⟩] at hu
    exact k.get (j - off) x u hj (by simpa using hu)
  · rw [if_neg c] at hj
    rw [if_neg (by rw [hk]; omega)] at hu
    exact h.get j x u hj hu
inductive RelP (S : Ctx) : List (Nat × V) → List (Nat × Value) → Prop
  | nil : RelP S [] []
  | cons (i v u ps qs) (h : Rel S v u) (r : RelP S ps qs) : RelP S ((i,v) :: ps) ((i,u) :: qs)
theorem GK {S : Ctx} {t : List V} {a : Act} (h : Zv S t a.tmps) : ∀ l : List (Nat × Operand),RelP S (Y5 t l) (l.map fun (i,x) => (i,a.eval x))
  | [] => .nil
  | (i,x) :: l => .cons i _ _ _ _ (ZL h x) (GK h l)
theorem Xn {S : Ctx} {place place' : Nat → Option (Nat × Nat)} (hp : ∀ i,place' i = place i) {ps : List (Nat × V)} {qs : List (Nat × Value)} (hr : RelP S ps qs) :
    ∀ {cs cs' : List V} {us : Array Value},RelA S cs us → Js place cs ps = some cs' → ∃ us',Instr.fill place' us qs = some us' ∧ RelA S cs' us' := by
  induction hr with
  | nil => intro cs cs' us h hf; simp [Js] at hf; subst hf; exact ⟨us,rfl,h⟩
  | cons i v u ps qs hv r ih =>
    intro cs cs' us h hf
    simp only [Js] at hf
    cases hpl : place i with
    | none => simp [hpl] at hf
    | some os =>
      obtain ⟨off,size⟩ := os
      simp only [hpl] at hf
      split at hf
      · rename_i hc
        obtain ⟨c1,c2,c3⟩ := hc
        have hcell := hv.cells c2
        obtain ⟨us',f1,f2⟩ := ih (h.splice hcell (off := off) (by omega)) hf
        refine ⟨us',?_,f2⟩
        simp only [Instr.fill,hp,hpl]
        rw [if_neg (by have := hcell.size; have := h.size; simp; omega)]
        exact f1
      · simp at hf
theorem run_places {P : Program} : ∀ {fs : List Field} {pl : List (Nat × Nat)},Ve P fs = some pl → ∀ w : World,
    (fs.mapM fun f => do pure (f.offset,← sizeOf f.type) : Sem (List (Nat × Nat))).run P w = .ok pl w
  | [],pl,h,w => by simp [Ve] at h; subst h; simp
  | f :: fs,pl,h,w => by
    simp only [Ve] at h
    cases hs : Q5 P f.type with
    | none => simp [hs] at h
    | some n =>
      cases hr : Ve P fs with
      | none => simp [hs,hr] at h
      | some r =>
        simp [hs,hr] at h
        subst h
        have := run_places hr w
        simp only [List.mapM_cons,Sem.run_bind,YC hs,Result.andThen_ok,Sem.run_pure]
        rw [this]
        simp
theorem Qkr {P : Program} {S : Ctx} {t : List V} {a : Act} (ht : Zv S t a.tmps) {o : Oper} {ty : TypeId} {parts : Array (Nat × Operand)} {v : V}
    (ho : o.op = .build ty parts) (h : ZR P t (.build ty parts) = some v) : ∃ u,Rel S v u ∧ ∀ w,(execOp a.eval o).run P w = .ok (.value u) w := by
  simp only [ZR] at h
  cases hz : ZO P ty with
  | none => simp [hz] at h
  | some z =>
    obtain ⟨zu,hzr,hzw⟩ := Wr hz S
    simp only [hz,Option.bind_some] at h
    have hps := GK ht parts.toList
    have hq : (parts.map fun (i,x) => (i,a.eval x)).toList = parts.toList.map fun (i,x) => (i,a.eval x) := by simp
    split at h
    · rename_i fs hu
      cases hpl : Ve P fs.toList with
      | none => simp [hpl] at h
      | some pl =>
        simp only [hpl,Option.bind_some] at h
        split at h
        · rename_i hsc
          cases hf : Js (fun i => pl[i]?) z.cells (Y5 t parts.toList) with
          | none => simp [hf] at h
          | some cs =>
            simp [hf] at h
            subst h
            obtain ⟨us,f1,f2⟩ := Xn (place' := fun i => pl.toArray[i]?) (fun i => by simp) hps (hzr.cells hsc) hf
            refine ⟨.agg us,.agg _ _ f2.size f2.get,fun w => ?_⟩
            have hm : (fs.mapM fun f => do pure (f.offset,← sizeOf f.type) : Sem (Array (Nat × Nat))).run P w = .ok pl.toArray w := by
              rw [Array.mapM_eq_mapM_toList]
              simp only [Sem.run_map,run_places hpl w,Result.andThen_ok]
            simp only [execOp,ho,Sem.run_bind,Instr.build,hzw,Result.andThen_ok,Zo hu,hm,hq,f1,Sem.run_pure]
        · simp at h
    · rename_i n e hu
      cases hsz : Q5 P e with
      | none => simp [hsz] at h
      | some sz =>
        simp only [hsz,Option.bind_some] at h
        split at h
        · rename_i hsc
          cases hf : Js (fun i => some (i * sz,sz)) z.cells (Y5 t parts.toList) with
          | none => simp [hf] at h
          | some cs =>
            simp [hf] at h
            subst h
            obtain ⟨us,f1,f2⟩ := Xn (place' := fun i => some (i * sz,sz)) (fun i => rfl) hps (hzr.cells hsc) hf
            refine ⟨.agg us,.agg _ _ f2.size f2.get,fun w => ?_⟩
            simp only [execOp,ho,Sem.run_bind,Instr.build,hzw,Result.andThen_ok,Zo hu,YC hsz,hq,f1,Sem.run_pure]
        · simp at h
    · simp at h
def Comes (P : Program) (S : Ctx) (a : Act) (o : Oper) (v : V) : Prop := ∃ u,Rel S v u ∧ ∀ w,(execOp a.eval o).run P w = .ok (.value u) w
theorem Ri {S : Ctx} {b : Bool} {u : Value} (h : Rel S (.bool b) u) : u = .bool b := by cases h; rfl
theorem Fo {S : Ctx} {k : IntKind} {n : Int} {u : Value} (h : Rel S (.int k n) u) : u = .int k n := by cases h; rfl
theorem V9 {S : Ctx} {s : List UInt8} {u : Value} (h : Rel S (.str s) u) : ∃ bs : ByteArray,u = .string bs ∧ bs.data.toList = s := by cases h; exact ⟨_,rfl,rfl⟩
theorem Rel.str' {S : Ctx} {bs : ByteArray} {s : List UInt8} (h : bs.data.toList = s) : Rel S (.str s) (.string bs) := h ▸ .str bs
theorem Jh : ∀ {l : List V},Zd l = true ↔ ∀ x ∈ l,x.clean = true
  | [] => by simp [Zd]
  | v :: l => by simp [Zd,Jh (l := l)]
theorem EL {l : List V} (n : Nat) (h : Zd l = true) : Zd (l.drop n) = true := Jh.2 fun x hx => Jh.1 h x (List.mem_of_mem_drop hx)
theorem QfE {l : List V} (n : Nat) (h : Zd l = true) : Zd (l.take n) = true := Jh.2 fun x hx => Jh.1 h x (List.mem_of_mem_take hx)
theorem F4 {x : V} (h : x.clean = true) : Zd x.cells = true := by
  cases x <;> simp_all [V.cells,V.clean,Zd]
theorem addr_add (c off n : Nat) : (⟨c,off,none⟩ : Addr).add n = ⟨c,off + n,none⟩ := by
  unfold Addr.add; split
  · rename_i h0; simp [h0]
  · rfl
theorem QbL {S : Ctx} {p v : V} {u : Value} {n : Nat} (h : Rel S p u) (hv : K1 p n = some v) : ∃ a,u = .pointer (some a) ∧ Rel S v (.pointer (some (a.add n))) := by
  cases h with
  | ptr i ver off a hi hh =>
    simp [K1] at hv
    subst hv
    refine ⟨a,rfl,.ptr i ver (off + n) _ hi fun v hv => ?_⟩
    obtain ⟨h1,h2⟩ := hh v hv
    exact ⟨h1,fun e => by rw [h2 e,addr_add]⟩
  | fptr cs c off us hf hc hcl h1 h2 =>
    simp only [K1] at hv
    split at hv
    · simp at hv
      subst hv
      refine ⟨_,rfl,?_⟩
      rw [addr_add]
      refine .fptr (cs.drop n) c (off + n) (fun j => us (n + j)) hf hc (EL n hcl) (fun j x hj => ?_) (fun j x hj => ?_)
      · rw [List.getElem?_drop] at hj
        rw [Nat.add_assoc]; exact h1 _ x hj
      · rw [List.getElem?_drop] at hj; exact h2 _ x hj
    · simp at hv
  | _ => simp [K1] at hv
theorem Ru {S : Ctx} {v : V} {u : Value} {k : Nat} (h : Rel S v u) (hk : Y0 v = some k) : ∃ kd i,u = .int kd i ∧ 0 ≤ i ∧ i.toNat = k := by
  cases h <;> simp [Y0] at hk
  exact ⟨_,_,rfl,hk.1,hk.2⟩
theorem Qlx {S : Ctx} {x v : V} {u : Value} {sz k : Nat} (h : Rel S x u) (hv : Vm sz x k = some v) :
    ∃ a n cap,u = .slice (some a) n cap ∧ k < n ∧ Rel S v (.pointer (some (a.add (k * sz)))) := by
  cases h with
  | vs xs a n cap c off sz' us hn hcap hcl ha hsz h1 h2 =>
    simp only [Vm] at hv
    cases hx : xs[k]? with
    | none => simp [hx] at hv
    | some y =>
      simp only [hx] at hv
      split at hv
      · rename_i hy
        simp at hv
        subst hv
        have hk : k < xs.length := (List.getElem?_eq_some_iff.1 hx).1
        have hne : xs ≠ [] := by rintro rfl; simp at hk
        obtain ⟨rfl,f1,f2⟩ := ha hne
        have e := hsz k y hx
        rw [hy] at e
        subst e
        refine ⟨_,n,cap,rfl,by omega,?_⟩
        rw [addr_add]
        refine .fptr y.cells c _ (fun j => us (k * sz + j)) f1 f2 (F4 (Jh.1 hcl y (List.mem_of_getElem? hx))) (fun j z hj => ?_) (fun j z hj => h2 k y j z hx hj)
        rw [Nat.add_assoc]; exact h1 k y j z hx hj
      · simp at hv
  | rs i ver s off n a cap hi hcap hh =>
    simp only [Vm] at hv
    split at hv
    · rename_i hlt
      obtain ⟨hlt,rfl⟩ := hlt
      simp at hv
      subst hv
      refine ⟨a,n,cap,rfl,hlt,.ptr i ver _ _ hi fun v hv => ?_⟩
      obtain ⟨h1,h2⟩ := hh v hv
      refine ⟨h1,fun e => ?_⟩
      obtain ⟨ag,cs,cells,el,fr,g1,g2,g3,g5⟩ := h2 e
      rw [g5 (by omega),addr_add,Nat.add_mul]
    · simp at hv
  | _ => simp [Vm] at hv
theorem QqT {S : Ctx} {cs : List V} {ag : Bool} {n : Nat} {v : V} (hv : Kf ag n cs = some v) : n ≤ cs.length ∧ ((ag = true ∧ v = .agg (cs.take n)) ∨ (ag = false ∧ n = 1 ∧ cs[0]? = some v)) := by
  unfold Kf at hv
  split at hv
  · rename_i h
    refine ⟨h,?_⟩
    cases ag with
    | true => simp at hv; exact .inl ⟨rfl,hv.symm⟩
    | false => simp at hv; exact .inr ⟨rfl,hv.1,by rw [← List.head?_eq_getElem?]; exact hv.2⟩
  · simp at hv
variable {P : Program} {S : Ctx} {t : List V} {a : Act} {o : Oper} {v : V}
theorem QgW (ht : Zv S t a.tmps) {x : Operand} (ho : o.op = .move x ∨ o.op = .assign x) (h : env t x = v) : Comes P S a o v := by
  refine ⟨a.eval x,h ▸ ZL ht x,fun w => ?_⟩
  rcases ho with ho | ho <;> simp [execOp,ho]
theorem Qpa (ht : Zv S t a.tmps) {c x y : Operand} (ho : o.op = .pick c x y) (h : ZR P t (.pick c x y) = some v) : Comes P S a o v := by
  have hc := ZL ht c
  simp only [ZR] at h
  cases e : env t c <;> simp only [e] at h <;> try (simp at h)
  rename_i b
  rw [e] at hc
  have hb := Ri hc
  cases b
  · simp at h; exact ⟨a.eval y,h ▸ ZL ht y,fun w => by simp [execOp,ho,hb,asBool]⟩
  · simp at h; exact ⟨a.eval x,h ▸ ZL ht x,fun w => by simp [execOp,ho,hb,asBool]⟩
theorem QmG (ht : Zv S t a.tmps) {x : Operand} (ho : o.op = .nilCheck x) (h : ZR P t (.nilCheck x) = some v) : Comes P S a o v := by
  have hc := ZL ht x
  simp only [ZR] at h
  cases e : env t x <;> simp only [e] at h <;> try (simp at h)
  all_goals
    subst h
    rw [e] at hc
    generalize hu : a.eval x = u at hc
    refine ⟨u,hc,fun w => ?_⟩
    cases hc <;> simp [execOp,ho,hu]
theorem Qrc (ht : Zv S t a.tmps) {op : UnOp} {ty : TypeId} {x : Operand} (ho : o.op = .unOp op ty x) (h : ZR P t (.unOp op ty x) = some v) : Comes P S a o v := by
  have hc := ZL ht x
  simp only [ZR] at h
  generalize hu : a.eval x = u at hc
  cases op <;> cases e : env t x <;> simp only [e,vUn] at h <;> try (simp at h)
  all_goals
    subst h
    rw [e] at hc
    cases hc
    refine ⟨_,by constructor,fun w => ?_⟩
    simp [execOp,ho,hu,Op.unary,Op.intArith,Op.intBits]
theorem Qkx (ht : Zv S t a.tmps) {ty : TypeId} {x : Operand} {f : Nat} (ho : o.op = .fieldAddr ty x f) (h : ZR P t (.fieldAddr ty x f) = some v) : Comes P S a o v := by
  simp only [ZR,U8] at h
  cases hu : P.underlying ty with
  | none => simp [hu] at h
  | some d =>
    cases d with
    | struct fs =>
      simp only [hu] at h
      cases hf : fs[f]? with
      | none => simp [hf] at h
      | some fd =>
        simp only [hf,Option.bind_some] at h
        cases hs : Q5 P fd.type with
        | none => simp [hs] at h
        | some n =>
          simp only [hs,Option.bind_some] at h
          split at h
          · rename_i hpos
            obtain ⟨ad,hx,hr⟩ := QbL (ZL ht x) h
            refine ⟨_,hr,fun w => ?_⟩
            simp [execOp,ho,Instr.fieldAt,Zo hu,hf,hx,Instr.sureAddr,fieldPlace,YC hs,Nat.ne_of_gt hpos]
          · simp at h
    | _ => simp [hu] at h
theorem Qqf (ht : Zv S t a.tmps) {ty : TypeId} {x : Operand} {f : Nat} (ho : o.op = .field ty x f) (h : ZR P t (.field ty x f) = some v) : Comes P S a o v := by
  have hc := ZL ht x
  simp only [ZR,U8] at h
  cases hu : P.underlying ty with
  | none => simp [hu] at h
  | some d =>
    cases d with
    | struct fs =>
      simp only [hu] at h
      cases hf : fs[f]? with
      | none => simp [hf] at h
      | some fd =>
        simp only [hf,Option.bind_some] at h
        cases e : env t x <;> simp only [e] at h <;> try (simp at h)
        rw [e] at hc
        generalize hx : a.eval x = u at hc
        cases hc with
        | agg cs us hl h2 =>
          obtain ⟨u,hr,hw⟩ := Pv ⟨hl,h2⟩ h
          exact ⟨u,hr,fun w => by simp [execOp,ho,Instr.field,Zo hu,hf,hx,asAgg,hw]⟩
    | _ => simp [hu] at h
theorem Qir (ht : Zv S t a.tmps) {x : Operand} {i : Nat} (ho : o.op = .extract x i) (h : ZR P t (.extract x i) = some v) : Comes P S a o v := by
  have hc := ZL ht x
  simp only [ZR] at h
  cases e : env t x <;> simp only [e] at h <;> try (simp at h)
  rw [e] at hc
  generalize hx : a.eval x = u at hc
  cases hc with
  | tup cs us hl h2 =>
    have hlt : i < us.size := by rw [hl]; exact (List.getElem?_eq_some_iff.1 h).1
    exact ⟨us[i],h2 i v _ h (by simp [hlt]),fun w => by simp [execOp,ho,Instr.extract,hx,hlt]⟩
theorem QlO (ht : Zv S t a.tmps) {ty : TypeId} {x : Operand} (ho : o.op = .makeInterface ty x) (h : ZR P t (.makeInterface ty x) = some v) : Comes P S a o v := by
  simp only [ZR] at h
  cases hu : P.underlying ty with
  | none => simp [hu] at h
  | some d =>
    refine ⟨.iface ty (a.eval x),?_,fun w => ?_⟩
    · cases d <;> simp [hu] at h <;> (subst h; exact .iface _ _ _ (ZL ht x))
    · cases d <;> simp [hu] at h <;> simp [execOp,ho,Instr.makeInterface,Zo hu]
theorem QoW (ht : Zv S t a.tmps) {fn : Fn} {first cap : Array Operand} (ho : o.op = .makeFunc fn first cap) (h : ZR P t (.makeFunc fn first cap) = some v) : Comes P S a o v := by
  simp only [ZR] at h
  cases fn <;> simp only at h <;> try (simp at h)
  rename_i f
  obtain ⟨h1,h2⟩ := h
  subst h2
  have hr := Gy ht cap
  refine ⟨.func (.func f) #[] (cap.map a.eval),.fn f _ _ hr.size hr.get,fun w => ?_⟩
  simp [execOp,ho,Instr.makeFunc,h1]
end Go.Ev
end
section
namespace Go.Ev
variable {P : Program} {S : Ctx} {t : List V} {a : Act} {o : Oper} {v : V}
def RX (S : Ctx) : Option V → Option Value → Prop
 | none,none => True
 | some v,some u => Rel S v u
 | _,_ => False
theorem RY (ht : Zv S t a.tmps) (x : Option Operand) : RX S (x.map (env t)) (x.map a.eval) := by
 cases x with
 | none => trivial
 | some x => exact ZL ht x
theorem GI {hi y : Nat} {x : V} {u : Value} {d k : Nat} (hr : Rel S x u) (h : ZF 0 hi (some x) d = some k) (hy : hi ≤ y) :
  k ≤ hi ∧ ∀ (code : BoundsCode) (w : World),(Instr.sliceBound u y code).run P w = .ok k w := by
 cases hr <;> simp [ZF] at h
 rename_i kd i
 obtain ⟨⟨h1,h2⟩,h3⟩ := h
 subst h3
 refine ⟨by omega,fun code w => ?_⟩
 have h3 : i ≤ (y : Int) := by omega
 simp [Instr.sliceBound,asIntOf,h1,h3]
theorem RelVs.sub {xs : List V} {a : Option Addr} {n c off sz : Nat} {us : Nat → Value} (hn : n = xs.length) (hcl : Zd xs = true) (ha : xs ≠ [] → a = some ⟨c,off,none⟩ ∧ S.free c ∧ c < S.w.heap.size)
   (hsz : ∀ (i : Nat) (x : V),xs[i]? = some x → x.cells.length = sz)
   (h1 : ∀ (i : Nat) (x : V) (j : Nat) (y : V),xs[i]? = some x → x.cells[j]? = some y → S.w.cell? ⟨c,off + (i * sz + j),none⟩ = some (us (i * sz + j)))
   (h2 : ∀ (i : Nat) (x : V) (j : Nat) (y : V),xs[i]? = some x → x.cells[j]? = some y → Rel S y (us (i * sz + j)))
   {l h : Nat} (hl : l ≤ h) (hh : h ≤ xs.length) {a' : Option Addr} (ha' : l < h → a = some ⟨c,off,none⟩ → a' = some ⟨c,off + l * sz,none⟩) {cap' : Nat} (hc' : h - l ≤ cap') :
  Rel S (.vs ((xs.take h).drop l)) (.slice a' (h - l) cap') := by
 have get : ∀ (i : Nat) (x : V),((xs.take h).drop l)[i]? = some x → xs[l + i]? = some x ∧ l + i < h := fun i x hx => by
  rw [List.getElem?_drop,List.getElem?_take] at hx
  split at hx
  ·exact ⟨hx,by assumption⟩
  ·simp at hx
 refine .vs _ a' _ cap' c (off + l * sz) sz (fun k => us (l * sz + k)) (by simp; omega) hc' (EL _ (QfE _ hcl)) (fun hne => ?_) (fun i x hx => hsz _ x (get i x hx).1) (fun i x j y hx hy => ?_) (fun i x j y hx hy => ?_)
 ·have hlh : l < h := by
   rcases Nat.lt_or_ge l h with g | g
   ·exact g
   ·exact absurd (List.drop_eq_nil_of_le (by simp; omega)) hne
  have hne' : xs ≠ [] := by rintro rfl; simp at hh; omega
  obtain ⟨b1,b2,b3⟩ := ha hne'
  exact ⟨ha' hlh b1,b2,b3⟩
 ·obtain ⟨g1,g2⟩ := get i x hx
  have := h1 _ x j y g1 hy
  have e : off + l * sz + (i * sz + j) = off + ((l + i) * sz + j) := by rw [Nat.add_mul]; omega
  have e2 : l * sz + (i * sz + j) = (l + i) * sz + j := by rw [Nat.add_mul]; omega
  rw [e,e2]; exact this
 ·obtain ⟨g1,g2⟩ := get i x hx
  have e2 : l * sz + (i * sz + j) = (l + i) * sz + j := by rw [Nat.add_mul]; omega
  show Rel S y (us (l * sz + (i * sz + j)))
  rw [e2]; exact h2 _ x j y g1 hy
theorem Qok (bs : ByteArray) (l h : Nat) : ((bs.data.toList.take h).drop l) = (bs.extract l h).data.toList := by
 rw [ByteArray.data_extract,Array.toList_extract]
 simp [List.extract_eq_take_drop,List.drop_take]
theorem RI {isS : Bool} {len cap : Nat} {lo hi mx : Option V} {lo' hi' mx' : Option Value} (r1 : RX S lo lo') (r2 : RX S hi hi') (r3 : RX S mx mx')
  {lim m h l : Nat} (hm : (mx = none ∧ m = cap ∧ lim ≤ cap) ∨ (mx.isSome = true ∧ hi.isSome = true ∧ ZF 0 lim mx 0 = some m ∧ lim ≤ cap))
  (hh : ZF 0 (if mx.isSome then m else lim) hi len = some h) (hlen : hi = none → h = len) (hl : ZF 0 h lo 0 = some l) :
  l ≤ h ∧ (hi.isSome = true → h ≤ if mx.isSome then m else lim) ∧ (mx.isSome = true → m ≤ lim) ∧ ∀ w : World,(Instr.sliceBounds isS len cap lo' hi' mx').run P w = .ok (l,h,m) w := by
 have hl' : l ≤ h ∧ (lo' = none → l = 0) ∧ ∀ u,lo' = some u → ∀ (code : BoundsCode) (w : World),(Instr.sliceBound u h code).run P w = .ok l w := by
  cases lo with
  | none => cases lo' with
   | none => simp [ZF] at hl; subst hl; simp
   | some u => exact r1.elim
  | some x => cases lo' with
   | none => exact r1.elim
   | some u =>
    obtain ⟨g1,g2⟩ := GI (P := P) (y := h) r1 hl (Nat.le_refl _)
    exact ⟨g1,by simp,fun u' e => by cases e; exact g2⟩
 obtain ⟨hl1,hl2,hl3⟩ := hl'
 rcases hm with ⟨rfl,rfl,hle⟩ | ⟨hms,hhs,hb,hle⟩
 ·cases mx' with
  | some u => exact r3.elim
  | none =>
   cases hi with
   | none => cases hi' with
    | some u => exact r2.elim
    | none =>
     have := hlen rfl
     subst this
     refine ⟨hl1,by simp,by simp,fun w => ?_⟩
     cases lo' with
     | none => rw [hl2 rfl]; simp [Instr.sliceBounds]
     | some u => simp [Instr.sliceBounds,hl3 u rfl]
   | some x => cases hi' with
    | none => exact r2.elim
    | some u =>
     simp at hh
     obtain ⟨g1,g2⟩ := GI (P := P) (y := m) r2 hh hle
     refine ⟨hl1,fun _ => by simpa using g1,by simp,fun w => ?_⟩
     cases lo' with
     | none => rw [hl2 rfl]; simp [Instr.sliceBounds,g2]
     | some u' => simp [Instr.sliceBounds,g2,hl3 u' rfl]
 ·cases mx with
  | none => simp at hms
  | some y => cases mx' with
   | none => exact r3.elim
   | some um =>
    obtain ⟨m1,m2⟩ := GI (P := P) (y := cap) r3 hb hle
    cases hi with
    | none => simp at hhs
    | some x => cases hi' with
     | none => exact r2.elim
     | some u =>
      simp at hh
      obtain ⟨g1,g2⟩ := GI (P := P) (y := m) r2 hh (Nat.le_refl _)
      refine ⟨hl1,fun _ => by simpa using g1,fun _ => m1,fun w => ?_⟩
      cases lo' with
      | none => rw [hl2 rfl]; simp [Instr.sliceBounds,g2,m2]
      | some u' => simp [Instr.sliceBounds,g2,m2,hl3 u' rfl]
theorem QpA (l h : Nat) (y : V) (d d' : Nat) : ZF l h (some y) d = ZF l h (some y) d' := by cases y <;> rfl
theorem QjL {x : Option V} {u : Option Value} (h : RX S x u) (hx : x.isSome = false) : u = none := by
 cases x <;> cases u <;> simp_all [RX]
theorem Qq9 (ht : Zv S t a.tmps) {ty : TypeId} {x : Operand} {lo hi mx : Option Operand} (ho : o.op = .slice ty x lo hi mx) (h : ZR P t (.slice ty x lo hi mx) = some v) : Comes P S a o v := by
 have hc := ZL ht x
 have r1 := RY ht lo
 have r2 := RY ht hi
 have r3 := RY ht mx
 simp only [ZR] at h
 generalize hx : a.eval x = u at hc
 generalize env t x = xv at hc h
 generalize lo.map (env t) = lv at r1 h
 generalize hi.map (env t) = hv at r2 h
 generalize mx.map (env t) = mv at r3 h
 have key : ∀ {d : TypeDesc} {u' : Value},P.underlying ty = some d → (∀ n e,d ≠ .array n e) → (∀ w,(Instr.slice ty u (lo.map a.eval) (hi.map a.eval) (mx.map a.eval)).run P w = .ok u' w) →
   ∀ w,(execOp a.eval o).run P w = .ok (.value u') w := by
  intro d u' hu hd hr w
  simp only [execOp,ho,Sem.run_bind,Instr.sliceAt,Zo hu,Result.andThen_ok,hx]
  cases d <;> first
   | (exact absurd rfl (hd _ _))
   | simp [hr]
 split at h
 ·rename_i hu
  unfold WY at h
  split at h
  ·rename_i s
   split at h
   ·simp at h
   ·rename_i hmx
    simp at hmx
    subst hmx
    obtain ⟨bs,rfl,rfl⟩ := V9 hc
    cases hb1 : ZF 0 bs.data.toList.length hv bs.data.toList.length with
    | none => rw [hb1] at h; simp at h
    | some hh =>
     cases hb2 : ZF 0 hh lv 0 with
     | none => rw [hb1,Option.bind_some,hb2] at h; simp at h
     | some ll =>
      simp only [hb1,hb2,Option.bind_some,Option.some.injEq] at h
      subst h
      have hsz : bs.data.toList.length = bs.size := by simp
      obtain ⟨b1,b2,b3,b4⟩ := RI (P := P) (isS := false) (len := bs.size) (cap := bs.size) r1 r2 (mx := none) (mx' := none) trivial (lim := bs.size) (m := bs.size) (h := hh) (l := ll) (.inl ⟨rfl,rfl,Nat.le_refl _⟩)
       (by rw [hsz] at hb1; simpa using hb1) (fun e => by subst e; simp [ZF] at hb1; omega) hb2
      have hmn := QjL r3 rfl
      refine ⟨.string (bs.extract ll hh),?_,key hu (by simp) fun w => ?_⟩
      ·rw [Qok]; exact .str _
      ·rw [hmn]
       simp [Instr.slice,Zo hu,b4]
  ·simp at h
 ·rename_i e hu
  cases hsz : Q5 P e with
  | none => simp [hsz] at h
  | some n =>
   simp only [hsz,Option.bind_some] at h
   unfold K2 at h
   split at h
   ·-- nil
    cases hc
    cases hb0 : ZF 0 0 mv 0 with
    | none => simp [hb0] at h
    | some m0 =>
     simp only [hb0,Option.bind_some] at h
     split at h
     ·simp at h
     ·rename_i hcond
      cases hb1 : ZF 0 0 hv 0 with
      | none => simp [hb1] at h
      | some hh =>
       cases hb2 : ZF 0 hh lv 0 with
       | none => simp [hb1,hb2] at h
       | some ll =>
        simp only [hb1,hb2,Option.bind_some,Option.some.injEq] at h
        subst h
        have m00 : m0 = 0 := by
         cases mv with
         | none => simp [ZF] at hb0; exact hb0.symm
         | some y => cases y <;> simp [ZF] at hb0; omega
        subst m00
        obtain ⟨b1,b2,b3,b4⟩ := RI (P := P) (isS := true) (len := 0) (cap := 0) r1 r2 r3 (lim := 0) (m := 0) (h := hh) (l := ll)
         (by
          cases mv with
          | none => exact .inl ⟨rfl,rfl,Nat.le_refl _⟩
          | some y => exact .inr ⟨rfl,by cases hv <;> simp_all,hb0,Nat.le_refl _⟩)
         (by simpa using hb1) (fun e => by subst e; simp [ZF] at hb1; omega) hb2
        have h0 : hh = 0 := by
         cases hv with
         | none => simp [ZF] at hb1; omega
         | some y => have := b2 rfl; split at this <;> omega
        subst h0
        have l0 : ll = 0 := by omega
        subst l0
        refine ⟨_,.nils,key hu (by simp) fun w => ?_⟩
        simp [Instr.slice,Zo hu,b4,YC hsz]
   ·-- frozen
    rename_i xs
    cases hc with
    | vs _ ad n' cap c off sz us hn hcap hcl ha hsz' h1 h2 =>
    subst hn
    split at h
    ·rename_i hhead
     have hsize : xs ≠ [] → sz = n := fun hne => by
      cases xs with
      | nil => exact absurd rfl hne
      | cons y ys =>
       have := hsz' 0 y (by simp)
       simp [TV] at hhead
       omega
     have fin : ∀ {hh ll m : Nat},ll ≤ hh → hh ≤ xs.length → hh ≤ m → (∀ w,(Instr.sliceBounds true xs.length cap (lo.map a.eval) (hi.map a.eval) (mx.map a.eval)).run P w = .ok (ll,hh,m) w) →
       v = .vs ((xs.take hh).drop ll) → Comes P S a o v := by
      intro hh ll m g1 g2 g3 g4 g5
      subst g5
      refine ⟨.slice (if m = ll then ad else ad.map (·.add (ll * n))) (hh - ll) (m - ll),RelVs.sub rfl hcl ha hsz' h1 h2 g1 g2 (fun hlt e => ?_) (by omega),key hu (by simp) fun w => ?_⟩
      ·rw [if_neg (by omega),e]
       have hne : xs ≠ [] := by rintro rfl; simp at g2; omega
       simp [addr_add,hsize hne]
      ·simp [Instr.slice,Zo hu,g4,YC hsz]
     split at h
     ·rename_i hms
      split at h
      ·simp at h
      ·rename_i hhs
       cases hb0 : ZF 0 xs.length mv 0 with
       | none => simp [hb0] at h
       | some m0 =>
        cases hb1 : ZF 0 m0 hv 0 with
        | none => simp [hb0,hb1] at h
        | some hh =>
         cases hb2 : ZF 0 hh lv 0 with
         | none => simp [hb0,hb1,hb2] at h
         | some ll =>
          simp only [hb0,hb1,hb2,Option.bind_some,Option.some.injEq] at h
          have hhs' : hv.isSome = true := by cases hv <;> simp_all
          have hb1' : ZF 0 m0 hv xs.length = some hh := by
           cases hv with
           | none => simp at hhs'
           | some y => rw [QpA _ _ y _ 0]; exact hb1
          obtain ⟨b1,b2,b3,b4⟩ := RI (P := P) (isS := true) (len := xs.length) (cap := cap) r1 r2 r3 (lim := xs.length) (m := m0) (h := hh) (l := ll)
           (.inr ⟨hms,hhs',hb0,hcap⟩) (by rw [if_pos hms]; exact hb1') (fun e => by subst e; simp at hhs') hb2
          have b2' := b2 hhs'
          rw [if_pos hms] at b2'
          exact fin b1 (Nat.le_trans b2' (b3 hms)) b2' b4 h.symm
     ·rename_i hms
      simp at hms
      subst hms
      cases hb1 : ZF 0 xs.length hv xs.length with
      | none => simp [hb1] at h
      | some hh =>
       cases hb2 : ZF 0 hh lv 0 with
       | none => simp [hb1,hb2] at h
       | some ll =>
        simp only [hb1,hb2,Option.bind_some,Option.some.injEq] at h
        obtain ⟨b1,b2,b3,b4⟩ := RI (P := P) (isS := true) (len := xs.length) (cap := cap) r1 r2 r3 (lim := xs.length) (m := cap) (h := hh) (l := ll)
         (.inl ⟨rfl,rfl,hcap⟩) (by simpa using hb1) (fun e => by subst e; simp [ZF] at hb1; omega) hb2
        have hle : hh ≤ xs.length := by
         cases hv with
         | none => simp [ZF] at hb1; omega
         | some y => simpa using b2 rfl
        exact fin b1 hle (by omega) b4 h.symm
    ·simp at h
   ·-- owned
    rename_i i ver s off n'
    cases hc with
    | rs _ _ _ _ _ ad cap hi' hcap hh' =>
    split at h
    ·simp at h
    ·rename_i hcond
     simp at hcond
     obtain ⟨hm0,rfl⟩ := hcond
     subst hm0
     cases hb1 : ZF 0 n' hv n' with
     | none => simp [hb1] at h
     | some hh =>
      cases hb2 : ZF 0 hh lv 0 with
      | none => simp [hb1,hb2] at h
      | some ll =>
       simp only [hb1,hb2,Option.bind_some,Option.some.injEq] at h
       subst h
       obtain ⟨b1,b2,b3,b4⟩ := RI (P := P) (isS := true) (len := n') (cap := cap) r1 r2 r3 (lim := n') (m := cap) (h := hh) (l := ll)
         (.inl ⟨rfl,rfl,hcap⟩) (by simpa using hb1) (fun e => by subst e; simp [ZF] at hb1; omega) hb2
       have hle : hh ≤ n' := by
        cases hv with
        | none => simp [ZF] at hb1; omega
        | some y => simpa using b2 rfl
       refine ⟨.slice (some (if cap = ll then ad else ad.add (ll * s))) (hh - ll) (cap - ll),.rs i ver s (off + ll) _ _ _ hi' (by omega) fun vv hvv => ?_,key hu (by simp) fun w => ?_⟩
       ·obtain ⟨e1,e2⟩ := hh' vv hvv
        refine ⟨e1,fun e => ?_⟩
        obtain ⟨ag,cs,cells,el,fr,g1,g2,g3,g5⟩ := e2 e
        refine ⟨ag,cs,cells,el,fr,g1,g2,by rw [g3]; congr 1; omega,fun hpos => ?_⟩
        rw [if_neg (by omega),g5 (by omega),addr_add,Nat.add_mul]
       ·simp only [Instr.slice,Sem.run_bind,Zo hu,Result.andThen_ok,b4,YC hsz,Sem.run_pure]
        split <;> simp
   ·simp at h
 ·simp at h
end Go.Ev
end
section
namespace Go.Ev
variable {P : Program} {S : Ctx} {t : List V} {a : Act} {o : Oper} {v : V}
theorem Qog (ht : Zv S t a.tmps) {ty : TypeId} {x i : Operand} (ho : o.op = .indexAddr ty x i) (h : ZR P t (.indexAddr ty x i) = some v) : Comes P S a o v := by
  have hx := ZL ht x
  have hi := ZL ht i
  simp only [ZR] at h
  split at h
  · rename_i e hu
    cases hs : Q5 P e with
    | none => simp [hs] at h
    | some n =>
      cases hk : Y0 (env t i) with
      | none => simp [hs,hk] at h
      | some k =>
        simp only [hs,hk,Option.bind_some] at h
        obtain ⟨kd,iv,e1,e2,e3⟩ := Ru hi hk
        obtain ⟨ad,m,cap,f1,f2,f3⟩ := Qlx hx h
        refine ⟨_,f3,fun w => ?_⟩
        have hlt : iv < (m : Int) := by omega
        simp [execOp,ho,Instr.indexAt,e1,f1,asIntOf,Zo hu,e2,hlt,YC hs,e3]
  · rename_i len e hu
    cases hs : Q5 P e with
    | none => simp [hs] at h
    | some n =>
      cases hk : Y0 (env t i) with
      | none => simp [hs,hk] at h
      | some k =>
        simp only [hs,hk,Option.bind_some] at h
        split at h
        · rename_i hc
          obtain ⟨kd,iv,e1,e2,e3⟩ := Ru hi hk
          obtain ⟨ad,f1,f2⟩ := QbL hx h
          refine ⟨_,f2,fun w => ?_⟩
          have hlt : iv < (len : Int) := by omega
          simp [execOp,ho,Instr.indexAt,e1,f1,asIntOf,Zo hu,e2,hlt,YC hs,e3,Instr.sureAddr]
        · simp at h
  · simp at h
theorem QrC {bs : ByteArray} {k : Nat} {b : UInt8} (h : bs.data[k]? = some b) : bs[k]? = some b := by
  obtain ⟨h1,h2⟩ := Array.getElem?_eq_some_iff.1 h
  rw [getElem?_pos bs k h1]
  exact congrArg some h2
theorem Qkp (ht : Zv S t a.tmps) {ty : TypeId} {x i : Operand} (ho : o.op = .index ty x i) (h : ZR P t (.index ty x i) = some v) : Comes P S a o v := by
  have hx := ZL ht x
  have hi := ZL ht i
  simp only [ZR] at h
  generalize hxu : a.eval x = u at hx
  split at h
  · rename_i hu
    cases e : env t x <;> simp only [e] at h <;> try (simp at h; done)
    rename_i s
    rw [e] at hx
    obtain ⟨bs,rfl,rfl⟩ := V9 hx
    cases hk : Y0 (env t i) with
    | none => simp [hk] at h
    | some k =>
      simp only [hk,Option.bind_some] at h
      obtain ⟨kd,iv,e1,e2,e3⟩ := Ru hi hk
      cases hb : bs.data.toList[k]? with
      | none => rw [hb] at h; simp at h
      | some b =>
        rw [hb] at h
        simp at h
        subst h
        refine ⟨_,.int _ _,fun w => ?_⟩
        have hb' : bs[iv.toNat]? = some b := by
          rw [e3]
          have : bs.data[k]? = some b := by simpa using hb
          exact QrC this
        simp [execOp,ho,Instr.index,e1,hxu,asIntOf,Zo hu,e2,hb']
  · rename_i len el hu
    cases hs : Q5 P el with
    | none => simp [hs] at h
    | some n =>
      cases hk : Y0 (env t i) with
      | none => simp [hs,hk] at h
      | some k =>
        simp only [hs,hk,Option.bind_some] at h
        cases e : env t x <;> simp only [e] at h <;> try (simp at h; done)
        rw [e] at hx
        split at h
        · rename_i hc
          obtain ⟨kd,iv,e1,e2,e3⟩ := Ru hi hk
          cases hx with
          | agg cs us hl h2 =>
            obtain ⟨u,hr,hw⟩ := Pv ⟨hl,h2⟩ h
            refine ⟨u,hr,fun w => ?_⟩
            have hlt : iv < (len : Int) := by omega
            simp [execOp,ho,Instr.index,e1,hxu,asIntOf,Zo hu,e2,hlt,YC hs,e3,hw]
        · simp at h
  · simp at h
theorem QqO (ht : Zv S t a.tmps) {ty xt : TypeId} {x : Operand} {ok : Bool} (ho : o.op = .typeAssert x xt ty ok) (h : ZR P t (.typeAssert x xt ty ok) = some v) : Comes P S a o v := by
  have hx := ZL ht x
  generalize hxu : a.eval x = u at hx
  simp only [ZR] at h
  have two : ∀ {z : V} {zu : Value} (b : Bool),Rel S z zu → Rel S (.tup [z,.bool b]) (.tuple #[zu,.bool b]) := fun b hz => by
    refine .tup _ _ rfl fun j y u' hj hu => ?_
    match j with
    | 0 => simp at hj hu; subst hj hu; exact hz
    | 1 => simp at hj hu; subst hj hu; exact .bool b
    | j + 2 => simp at hj
  cases hu : P.underlying ty with
  | none => simp [hu] at h
  | some d =>
    rw [hu] at h
    have hd : ∀ ms,d ≠ .interface ms := by rintro ms rfl; simp at h
    have h' : (match env t x with
      | .iface u v => if u = ty then some (if ok then .tup [v,.bool true] else v) else if ok then (ZO P ty).map fun z => .tup [z,.bool false] else none
      | .niface => if ok then (ZO P ty).map fun z => .tup [z,.bool false] else none
      | _ => none : Option V) = some v := by
      cases d <;> first
        | exact absurd rfl (hd _)
        | exact h
    clear h
    cases e : env t x <;> simp only [e] at h' <;> try (simp at h'; done)
    · rw [e] at hx
      cases hx
      cases ok with
      | false => simp at h'
      | true =>
        cases hz : ZO P ty with
        | none => simp [hz] at h'
        | some z =>
          simp [hz] at h'
          subst h'
          obtain ⟨zu,z1,z2⟩ := Wr hz S
          refine ⟨_,two false z1,fun w => ?_⟩
          simp only [execOp,ho,Instr.typeAssert,hxu,Sem.run_bind,Zo hu,Result.andThen_ok]
          cases d <;> first
            | exact absurd rfl (hd _)
            | simp [z2]
    · rw [e] at hx
      cases hx with
      | iface tt vv uu hh =>
      split at h'
      · rename_i ht'
        subst ht'
        simp at h'
        cases ok with
        | false =>
          simp at h'
          subst h'
          refine ⟨uu,hh,fun w => ?_⟩
          simp only [execOp,ho,Instr.typeAssert,hxu,Sem.run_bind,Zo hu,Result.andThen_ok]
          cases d <;> first
            | exact absurd rfl (hd _)
            | simp
        | true =>
          simp at h'
          subst h'
          refine ⟨_,two true hh,fun w => ?_⟩
          simp only [execOp,ho,Instr.typeAssert,hxu,Sem.run_bind,Zo hu,Result.andThen_ok]
          cases d <;> first
            | exact absurd rfl (hd _)
            | simp
      · rename_i hne
        cases ok with
        | false => simp at h'
        | true =>
          cases hz : ZO P ty with
          | none => simp [hz] at h'
          | some z =>
            simp [hz] at h'
            subst h'
            obtain ⟨zu,z1,z2⟩ := Wr hz S
            refine ⟨_,two false z1,fun w => ?_⟩
            simp only [execOp,ho,Instr.typeAssert,hxu,Sem.run_bind,Zo hu,Result.andThen_ok]
            cases d <;> first
              | exact absurd rfl (hd _)
              | simp [z2,hne]
theorem Qkb (ht : Zv S t a.tmps) {src dst : TypeId} {x : Operand} (ho : o.op = .convert src dst x) (h : ZR P t (.convert src dst x) = some v) : Comes P S a o v := by
  have hx := ZL ht x
  generalize hxu : a.eval x = u at hx
  simp only [ZR] at h
  split at h
  case isFalse => simp at h
  rename_i hsrc
  obtain ⟨d0,hd0⟩ := Option.isSome_iff_exists.1 hsrc
  cases e : env t x <;> simp only [e] at h <;> try (simp at h; done)
  · rw [e] at hx
    cases hx
    unfold PP at h
    split at h
    · rename_i k hu
      simp at h
      subst h
      refine ⟨_,.int _ _,fun w => ?_⟩
      cases d0 <;> simp [execOp,ho,convert,hxu,Zo hu,Zo hd0,Conv.intToInt]
    · rename_i hu
      simp at h
      subst h
      refine ⟨_,.str _,fun w => ?_⟩
      cases d0 <;> simp [execOp,ho,convert,hxu,Zo hu,Zo hd0,Conv.intToString]
    · simp at h
  · rw [e] at hx
    split at h
    · rename_i hu
      simp at h
      subst h
      obtain ⟨bs,rfl,rfl⟩ := V9 hx
      refine ⟨_,.str bs,fun w => ?_⟩
      cases d0 <;> simp [execOp,ho,convert,hxu,Zo hu,Zo hd0]
    · simp at h
theorem toList_eq (bs : ByteArray) : bs.toList = bs.data.toList := by
  have key : ∀ (n i : Nat) (r : List UInt8),bs.size - i = n → ByteArray.toList.loop bs i r = r.reverse ++ bs.data.toList.drop i := by
    intro n
    induction n with
    | zero =>
      intro i r h
      unfold ByteArray.toList.loop
      rw [if_neg (by omega)]
      have : bs.data.toList.drop i = [] := List.drop_eq_nil_of_le (by simp; have : bs.size = bs.data.size := rfl; omega)
      simp [this]
    | succ n ih =>
      intro i r h
      unfold ByteArray.toList.loop
      have hi : i < bs.size := by omega
      rw [if_pos hi,ih (i + 1) _ (by omega)]
      have h2 : i < bs.data.toList.length := by simpa using hi
      rw [List.drop_eq_getElem_cons h2]
      simp
      have : bs.get! i = bs.data[i] := by
        unfold ByteArray.get!
        exact getElem!_pos bs.data i hi
      exact this
  have := key bs.size 0 [] rfl
  simpa [ByteArray.toList] using this
theorem Mv {op : BinOp} {ty : TypeId} {x y : Operand} {u u' : Value} (h : ∀ cs cs',u = .agg cs → u' = .agg cs' → False) (hn : u = .nilIface → u' = .nilIface → False) (w : World) :
    (eqGuard op ty x y u u').run P w = .ok () w := by
  unfold eqGuard
  cases op <;> simp <;> (cases u <;> cases u' <;> first | rfl | exact absurd rfl (fun e => hn rfl rfl) | exact (h _ _ rfl rfl).elim)
theorem Qh1 {b1 b2 : ByteArray} : (b1 ++ b2).data.toList = b1.data.toList ++ b2.data.toList := by simp
theorem Wo (ty : TypeId) (u u' : Value) (w : World) : (Op.equal ty u u').run P w = (Op.equalIn (9999 + 1) ty u u').run P w := rfl
theorem QjT {ty : TypeId} (hu : P.underlying ty = some .bool) (b c : Bool) (w : World) : (Op.equal ty (.bool b) (.bool c)).run P w = .ok (b == c) w := by
  rw [Wo,Op.equalIn]; simp [Zo hu]
theorem DC {ty e : TypeId} (hu : P.underlying ty = some (.slice e)) (p q : Option Addr) (l m c d : Nat) (h : p = none ∨ q = none) (w : World) :
    (Op.equal ty (.slice p l c) (.slice q m d)).run P w = .ok (p.isNone && q.isNone) w := by
  rw [Wo,Op.equalIn]
  simp only [Sem.run_bind,Zo hu,Result.andThen_ok]
  rcases h with rfl | rfl
  · simp
  · cases p <;> simp
theorem Qou {ty e : TypeId} (hu : P.underlying ty = some (.pointer e)) (p q : Option Addr) (h : p = none ∨ q = none) (w : World) :
    (Op.equal ty (.pointer p) (.pointer q)).run P w = .ok (p.isNone && q.isNone) w := by
  rw [Wo,Op.equalIn]
  simp only [Sem.run_bind,Zo hu,Result.andThen_ok]
  rcases h with rfl | rfl
  · simp
  · cases p <;> simp
theorem QkM {ty k e : TypeId} (hu : P.underlying ty = some (.map k e)) (p q : Option Nat) (h : p = none ∨ q = none) (w : World) :
    (Op.equal ty (.map p) (.map q)).run P w = .ok (p.isNone && q.isNone) w := by
  rw [Wo,Op.equalIn]
  simp only [Sem.run_bind,Zo hu,Result.andThen_ok]
  rcases h with rfl | rfl
  · simp
  · cases p <;> simp
theorem QjB {ty : TypeId} {ms : Array (String × TypeId)} (hu : P.underlying ty = some (.interface ms)) (k : TypeId) (u : Value) (w : World) :
    (Op.equal ty .nilIface (.iface k u)).run P w = .ok false w := by
  rw [Wo,Op.equalIn]; simp [Zo hu]
theorem QoV {ty : TypeId} {ms : Array (String × TypeId)} (hu : P.underlying ty = some (.interface ms)) (k : TypeId) (u : Value) (w : World) :
    (Op.equal ty (.iface k u) .nilIface).run P w = .ok false w := by
  rw [Wo,Op.equalIn]; simp [Zo hu]
theorem Qa5 {ty : TypeId} {ms : Array (String × TypeId)} (hu : P.underlying ty = some (.interface ms)) (w : World) :
    (Op.equal ty .nilIface .nilIface).run P w = .ok true w := by
  rw [Wo,Op.equalIn]; simp [Zo hu]
theorem QjM {ty : TypeId} {ps rs : Array TypeId} {b : Bool} (hu : P.underlying ty = some (.func ps rs b)) (f : Fn) (p q : Array Value) (w : World) :
    (Op.equal ty .nilFunc (.func f p q)).run P w = .ok false w := by
  rw [Wo,Op.equalIn]; simp [Zo hu]
theorem Qkn {ty : TypeId} {ps rs : Array TypeId} {b : Bool} (hu : P.underlying ty = some (.func ps rs b)) (f : Fn) (p q : Array Value) (w : World) :
    (Op.equal ty (.func f p q) .nilFunc).run P w = .ok false w := by
  rw [Wo,Op.equalIn]; simp [Zo hu]
theorem QsB {ty : TypeId} {ps rs : Array TypeId} {b : Bool} (hu : P.underlying ty = some (.func ps rs b)) (w : World) :
    (Op.equal ty .nilFunc .nilFunc).run P w = .ok true w := by
  rw [Wo,Op.equalIn]; simp [Zo hu]
theorem Xs {k : IntKind} : ∀ {xs : List V},KV k xs = true → ∀ (j : Nat) (x : V),xs[j]? = some x → ∃ m,x = .int k m
  | [],_,j,x,h => by simp at h
  | v :: xs,hk,j,x,h => by
    cases v with
    | int l m =>
      simp only [KV,Bool.and_eq_true,beq_iff_eq] at hk
      cases j with
      | zero => simp at h; subst h; exact ⟨m,by rw [hk.1]⟩
      | succ j => exact Xs hk.2 j x (by simpa using h)
    | _ => simp [KV] at hk
theorem QlY {e : TypeId} (hs : Q5 P e = some 1) : P.cellsOf e = 1 := by
  obtain ⟨i,h1,h2⟩ := FG hs
  simp [Program.cellsOf,h1,h2]
theorem QdO {e : TypeId} {k : IntKind} (he : P.underlying e = some (.int k)) (hs : Q5 P e = some 1) (ha : Z9 P e = some false) {xs ys : List V} {us vs : Array Value}
    (hx : RelA S xs us) (hy : RelA S ys vs) (k1 : KV k xs = true) (k2 : KV k ys = true) (hl : ys.length = xs.length) (d : Nat) : ∀ (m i : Nat),i + m = xs.length → ∀ w : World,
      (Op.eqItems (d + 1) e 1 us vs (List.range' i m)).run P w = .ok (JY (xs.drop i) (ys.drop i)) w
  | 0,i,h,w => by
    rw [List.drop_of_length_le (by omega),List.drop_of_length_le (by omega)]
    simp [Op.eqItems,JY]
  | m + 1,i,h,w => by
    have hi : i < xs.length := by omega
    have hi' : i < ys.length := by omega
    obtain ⟨a,ea⟩ := Xs k1 i xs[i] (by simp [hi])
    obtain ⟨b,eb⟩ := Xs k2 i ys[i] (by simp [hi'])
    have pa : W4 P e xs (i * 1) = some (.int k a) := by
      unfold W4
      rw [ha,hs]
      simp only [Option.bind_some,Nat.mul_one]
      rw [if_pos (by omega),List.drop_eq_getElem_cons hi,ea]
      simp [Kf]
    have pb : W4 P e ys (i * 1) = some (.int k b) := by
      unfold W4
      rw [ha,hs]
      simp only [Option.bind_some,Nat.mul_one]
      rw [if_pos (by omega),List.drop_eq_getElem_cons hi',eb]
      simp [Kf]
    obtain ⟨u1,r1,w1⟩ := Pv hx pa
    obtain ⟨u2,r2,w2⟩ := Pv hy pb
    cases r1; cases r2
    have ih := QdO he hs ha hx hy k1 k2 hl d m (i + 1) (by omega) w
    rw [List.drop_eq_getElem_cons hi,List.drop_eq_getElem_cons hi',ea,eb,List.range'_succ]
    simp only [Op.eqItems,Sem.run_bind,w1,w2,Result.andThen_ok,run_equalIn_int _ _ _ _ _ _ _ he,JY,V.beq,beq_self_eq_true,Bool.true_and]
    cases hab : (a == b)
    · simp
    · simpa using ih
theorem Ql1 {ty e : TypeId} {n : Nat} {k : IntKind} (hu : P.underlying ty = some (.array n e)) (he : P.underlying e = some (.int k)) (hs : Q5 P e = some 1) (ha : Z9 P e = some false) {xs ys : List V} {us vs : Array Value}
    (hx : RelA S xs us) (hy : RelA S ys vs) (h1 : xs.length = n) (h2 : ys.length = n) (k1 : KV k xs = true) (k2 : KV k ys = true) (w : World) : (Op.equal ty (.agg us) (.agg vs)).run P w = .ok (JY xs ys) w := by
  obtain ⟨i,hi,_⟩ := FG hs
  rw [Wo,run_equalIn_array w 9999 us vs hu hi,QlY hs,List.range_eq_range']
  have := QdO he hs ha hx hy k1 k2 (by omega) 9998 n 0 (by omega) w
  simpa using this
theorem QmM {op : BinOp} {ty e : TypeId} {n : Nat} {k : IntKind} (hu : P.underlying ty = some (.array n e)) (he : P.underlying e = some (.int k)) (x y : Operand) (us vs : Array Value) (w : World) :
    (eqGuard op ty x y (.agg us) (.agg vs)).run P w = .ok () w := by
  refine run_eqGuard_agg w op ty x y us vs ?_
  have hd : P.depth = 2 * (P.types.size + Made.depth) + 1 + 1 := rfl
  rw [hd]
  simp only [Program.eqGuardType,hu,he]
theorem Qhi {y : V} {ys : List V} {u : Value} (h : Rel S (.vs (y :: ys)) u) : ∃ ad n cap,u = .slice (some ad) n cap := by
  cases h with
  | vs _ ad n cap c off sz us hn hcap hcl ha hsz h1 h2 =>
    obtain ⟨rfl,_⟩ := ha (by simp)
    exact ⟨_,_,_,rfl⟩
theorem Qn1 {ty : TypeId} {xv yv : V} {u u' : Value} (hx : Rel S xv u) (hy : Rel S yv u') {b : Bool} (hb : vEq P ty xv yv = some b) (op : BinOp) (x y : Operand) :
    (∀ w,(eqGuard op ty x y u u').run P w = .ok () w) ∧ ∀ w,(Op.equal ty u u').run P w = .ok b w := by
  unfold vEq at hb
  split at hb <;> try (simp at hb; done)
  case h_7 n e hu =>
    split at hb <;> try (simp at hb; done)
    rename_i k he
    split at hb <;> try (simp at hb; done)
    split at hb <;> try (simp at hb; done)
    rename_i hc
    obtain ⟨c1,c2,c3,c4,c5,c6⟩ := hc
    injection hb with hb
    subst hb
    cases hx with
    | agg _ us hl h2 =>
    cases hy with
    | agg _ vs hl' h2' =>
    exact ⟨fun w => QmM hu he x y us vs w,fun w => Ql1 hu he c5 c6 ⟨hl,h2⟩ ⟨hl',h2'⟩ c1 c2 c3 c4 w⟩
  all_goals
    rename_i hu
    split at hb <;> try (simp at hb; done)
    all_goals
      simp at hb
      subst hb
      first
        | (obtain ⟨ad,l,c,rfl⟩ := Qhi hx; cases hy; exact ⟨fun w => Mv (by simp) (by simp) w,fun w => DC hu _ _ _ _ _ _ (by simp) w⟩)
        | (obtain ⟨ad,l,c,rfl⟩ := Qhi hy; cases hx; exact ⟨fun w => Mv (by simp) (by simp) w,fun w => DC hu _ _ _ _ _ _ (by simp) w⟩)
        | skip
      all_goals
       cases hx
       cases hy
       refine ⟨fun w => Mv (by simp) (by simp) w,fun w => ?_⟩
       first
        | exact QjT hu _ _ w
        | exact DC hu _ _ _ _ _ _ (by simp) w
        | exact Qou hu _ _ (by simp) w
        | exact QkM hu _ _ (by simp) w
        | exact QjB hu _ _ w
        | exact QoV hu _ _ w
        | exact QjM hu _ _ _ w
        | exact Qkn hu _ _ _ w
        | exact QsB hu w
theorem Qpu (ht : Zv S t a.tmps) {op : BinOp} {ty ty2 : TypeId} {x y : Operand} (ho : o.op = .binOp op ty x y ty2) (h : ZR P t (.binOp op ty x y ty2) = some v) : Comes P S a o v := by
  have hx := ZL ht x
  have hy := ZL ht y
  generalize hxu : a.eval x = u at hx
  generalize hyu : a.eval y = u' at hy
  have fin : ∀ {r : Value},Rel S v r → (∀ w,(eqGuard op ty x y u u').run P w = .ok () w) → (∀ w,(binOp op ty u u').run P w = .ok r w) → Comes P S a o v := fun hr hg hb =>
    ⟨_,hr,fun w => by simp [execOp,ho,hxu,hyu,hg,hb]⟩
  simp only [ZR] at h
  generalize env t x = xv at hx h
  generalize env t y = yv at hy h
  split at h
  · rename_i v' hv
    simp at h
    subst h
    have ints : ∀ {k l : IntKind} {m n : Int},xv = .int k m → yv = .int l n → Comes P S a o v' := by
      intro k l m n e1 e2
      subst e1 e2
      have e3 := Fo hx
      have e4 := Fo hy
      subst e3 e4
      have g : ∀ w,(eqGuard op ty x y (.int k m) (.int l n)).run P w = .ok () w := fun w => Mv (by simp) (by simp) w
      have go : ∀ {r : V},v' = r → (∃ r',Rel S r r' ∧ ∀ w,(binOp op ty (.int k m) (.int l n)).run P w = .ok r' w) → Comes P S a o v' := fun e ⟨r',h1,h2⟩ => fin (e ▸ h1) g h2
      cases op <;> simp only [B9] at hv
      case shl | shr =>
        unfold CM at hv
        split at hv
        · simp at hv
        · rename_i hn
          simp at hv
          exact go hv.symm ⟨_,.int _ _,fun w => by simp [binOp,Op.shift,hn]⟩
      all_goals
        split at hv
        case isFalse => simp at hv
        rename_i hk
        subst hk
        simp only [WU] at hv
      case quo | rem =>
        split at hv
        · simp at hv
        · rename_i hn
          simp at hv
          exact go hv.symm ⟨_,.int _ _,fun w => by simp [binOp,Op.intDiv,hn]⟩
      all_goals
        simp at hv
        first
          | exact go hv.symm ⟨_,.int _ _,fun w => by simp [binOp,Op.intArith,Op.intBits]⟩
          | exact go hv.symm ⟨_,.bool _,fun w => by simp [binOp,Op.intCmp]⟩
    have strs : ∀ {p q : List UInt8},xv = .str p → yv = .str q → Comes P S a o v' := by
      intro p q e1 e2
      subst e1 e2
      obtain ⟨b1,rfl,rfl⟩ := V9 hx
      obtain ⟨b2,rfl,rfl⟩ := V9 hy
      have g : ∀ w,(eqGuard op ty x y (.string b1) (.string b2)).run P w = .ok () w := fun w => Mv (by simp) (by simp) w
      have go : ∀ {r : V},v' = r → (∃ r',Rel S r r' ∧ ∀ w,(binOp op ty (.string b1) (.string b2)).run P w = .ok r' w) → Comes P S a o v' := fun e ⟨r',h1,h2⟩ => fin (e ▸ h1) g h2
      cases op <;> simp only [B9,Xq] at hv
      case add =>
        split at hv
        · rename_i hle
          simp only [Option.some.injEq] at hv
          refine go hv.symm ⟨.string (b1 ++ b2),by rw [← Qh1]; exact .str _,fun w => ?_⟩
          have e : ¬ (((b1.size + b2.size : Nat) : Int) > IntKind.i64.max) := by
            have h1 : b1.data.toList.length = b1.size := by simp
            have h2 : b2.data.toList.length = b2.size := by simp
            have h3 : IntKind.i64.max = 9223372036854775807 := by decide
            rw [h3]; omega
          simp only [binOp,Op.stringOp]
          rw [if_neg e]
          simp
        · simp at hv
      all_goals
        first
          | (simp at hv; done)
          | (simp only [Option.some.injEq] at hv
             exact go hv.symm ⟨_,.bool _,fun w => by simp [binOp,Op.stringOp,toList_eq]⟩)
    have other : (∃ b,vEq P ty xv yv = some b ∧ ((op = .eql ∧ v' = .bool b) ∨ (op = .neq ∧ v' = .bool !b))) → Comes P S a o v' := by
      rintro ⟨b,hb,hor⟩
      obtain ⟨g1,g2⟩ := Qn1 hx hy hb op x y
      rcases hor with ⟨rfl,rfl⟩ | ⟨rfl,rfl⟩
      · refine fin (.bool b) g1 fun w => ?_
        have : binOp .eql ty u u' = (do pure (.bool (← Op.equal ty u u')) : Sem Value) := by
          unfold vEq at hb
          split at hb <;> try (simp at hb; done)
          all_goals (split at hb <;> try (simp at hb; done))
          all_goals (try (split at hb <;> try (simp at hb; done)))
          all_goals (cases hx <;> cases hy <;> rfl)
        rw [this]; simp [g2]
      · refine fin (.bool _) g1 fun w => ?_
        have : binOp .neq ty u u' = (do pure (.bool (!(← Op.equal ty u u'))) : Sem Value) := by
          unfold vEq at hb
          split at hb <;> try (simp at hb; done)
          all_goals (split at hb <;> try (simp at hb; done))
          all_goals (try (split at hb <;> try (simp at hb; done)))
          all_goals (cases hx <;> cases hy <;> rfl)
        rw [this]; simp [g2]
    by_cases hi : (∃ k m,xv = .int k m) ∧ (∃ l n,yv = .int l n)
    · obtain ⟨⟨k,m,e1⟩,⟨l,n,e2⟩⟩ := hi; exact ints e1 e2
    by_cases hs : (∃ p,xv = .str p) ∧ (∃ q,yv = .str q)
    · obtain ⟨⟨p,e1⟩,⟨q,e2⟩⟩ := hs; exact strs e1 e2
    refine other ?_
    unfold B9 at hv
    split at hv
    · split at hv
      · exact absurd ⟨⟨_,_,rfl⟩,⟨_,_,rfl⟩⟩ hi
      · simp at hv
    · split at hv
      · exact absurd ⟨⟨_,_,rfl⟩,⟨_,_,rfl⟩⟩ hi
      · simp at hv
    · split at hv
      · exact absurd ⟨⟨_,_,rfl⟩,⟨_,_,rfl⟩⟩ hi
      · exact absurd ⟨⟨_,rfl⟩,⟨_,rfl⟩⟩ hs
      · split at hv
        · cases hb : vEq P ty xv yv with
          | none => simp [hb] at hv
          | some b => simp [hb] at hv; exact ⟨b,rfl,.inl ⟨rfl,hv.symm⟩⟩
        · cases hb : vEq P ty xv yv with
          | none => simp [hb] at hv
          | some b => simp [hb] at hv; exact ⟨b,rfl,.inr ⟨rfl,hv.symm⟩⟩
        · simp at hv
  ·
    rename_i hv0
    unfold Xi at h
    split at h
    · rename_i hu
      cases hx
      cases hy
      split at h
      · rename_i hc
        have g : ∀ w,(eqGuard op ty x y .nilIface .nilIface).run P w = .ok () w := fun w => by
          unfold eqGuard
          cases op <;> simp
          all_goals
            cases x <;> cases y <;> simp_all [Region.isConst]
        split at h
        · simp at h
          subst h
          exact fin (.bool true) g fun w => by
            show (do pure (.bool (← Op.equal ty .nilIface .nilIface)) : Sem Value).run P w = _
            simp [Qa5 hu]
        · simp at h
          subst h
          exact fin (.bool false) g fun w => by
            show (do pure (.bool (!(← Op.equal ty .nilIface .nilIface))) : Sem Value).run P w = _
            simp [Qa5 hu]
        · simp at h
      · simp at h
    · simp at h
theorem QmL {x : V} {u : Value} {n : Nat} (h : Rel S x u) (hn : Yr x = some n) : ∃ p c,u = .slice p n c := by
  cases h with
  | nils => simp [Yr] at hn; subst hn; exact ⟨_,_,rfl⟩
  | vs xs ad m cap c off sz us hm _ _ _ _ _ _ => simp [Yr] at hn; subst hn; subst hm; exact ⟨_,_,rfl⟩
  | rs => simp [Yr] at hn; subst hn; exact ⟨_,_,rfl⟩
  | _ => simp [Yr] at hn
theorem Uz {c : Call} {b : Builtin} (ho : o.op = .call c) (hb : c.callee = .builtin b) (w : World) :
    ∃ cs,(execOp a.eval o).run P w = (builtin b c.argTypes o.type cs (c.args.map a.eval)).run P w := by
  simp only [execOp,ho,resolve,hb,Sem.run_bind,Sem.run_pure,Result.andThen_ok,invoke]
  exact ⟨_,rfl⟩
theorem X7 {f : V → V → Option V} {g : Value → Value → Sem Value} (hf : ∀ {x y z : V} {u u' : Value},Rel S x u → Rel S y u' → f x y = some z → ∃ r,Rel S z r ∧ ∀ w,(g u u').run P w = .ok r w) :
    ∀ {ys : List V} {us : List Value} {x z : V} {u : Value},ys.length = us.length → (∀ (j : Nat) y u',ys[j]? = some y → us[j]? = some u' → Rel S y u') → Rel S x u → Pb f x ys = some z →
      ∃ r,Rel S z r ∧ ∀ w,(us.foldlM g u).run P w = .ok r w
  | [],[],x,z,u,_,_,hx,h => by simp [Pb] at h; subst h; exact ⟨u,hx,fun w => by simp⟩
  | y :: ys,u' :: us,x,z,u,hl,hy,hx,h => by
    simp only [Pb] at h
    cases e : f x y with
    | none => simp [e] at h
    | some q =>
      simp only [e,Option.bind_some] at h
      obtain ⟨r,r1,r2⟩ := hf hx (hy 0 y u' rfl rfl) e
      obtain ⟨r',s1,s2⟩ := X7 hf (ys := ys) (us := us) (by simpa using hl) (fun j y u' a b => hy (j + 1) y u' (by simpa using a) (by simpa using b)) r1 h
      exact ⟨r',s1,fun w => by simp [List.foldlM_cons,r2,s2]⟩
  | [],_ :: _,_,_,_,hl,_,_,_ => by simp at hl
  | _ :: _,[],_,_,_,hl,_,_,_ => by simp at hl
theorem QhJ (ht : Zv S t a.tmps) {c : Call} (ho : o.op = .call c) (h : ZR P t (.call c) = some v) : Comes P S a o v := by
  simp only [ZR] at h
  cases hc : c.callee with
  | value f => simp [hc] at h
  | invoke r m => simp [hc] at h
  | builtin b =>
    simp only [hc] at h
    have fold : ∀ {f : V → V → Option V} {g : Value → Value → Sem Value},(∀ {x y z : V} {u u' : Value},Rel S x u → Rel S y u' → f x y = some z → ∃ r,Rel S z r ∧ ∀ w,(g u u').run P w = .ok r w) →
        Kt f (YT t c.args.toList) = some v → ∃ r,Rel S v r ∧ ∀ w,(match (c.args.map a.eval).toList with | [] => stuck "" | x :: rest => rest.foldlM g x : Sem Value).run P w = .ok r w := by
      intro f g hf hv
      have hr := Gy ht c.args
      cases hl : YT t c.args.toList with
      | nil => rw [hl] at hv; simp [Kt] at hv
      | cons x xs =>
        rw [hl] at hv hr
        cases hl2 : (c.args.map a.eval).toList with
        | nil => have := hr.size; simp only [← Array.length_toList,hl2] at this; simp at this
        | cons u us =>
          have g1 : ∀ (j : Nat),(c.args.map a.eval)[j]? = (u :: us)[j]? := fun j => by rw [← hl2]; simp
          have hsz : xs.length = us.length := by have := hr.size; rw [← Array.length_toList,hl2] at this; simp at this; omega
          simp only [Kt] at hv
          exact X7 hf hsz (fun j y u' p q => hr.get (j + 1) y u' (by simpa using p) (by rw [g1]; simpa using q)) (hr.get 0 x u rfl (by rw [g1]; rfl)) hv
    cases b <;> simp only at h <;> try (simp at h; done)
    case len =>
      cases ha : c.argTypes[0]? with
      | none => simp [ha] at h
      | some ty =>
        cases hg : c.args[0]? with
        | none => simp [ha,hg] at h
        | some x =>
          simp only [ha,hg] at h
          have hx := ZL ht x
          generalize hxu : a.eval x = u at hx
          have hargs : (c.args.map a.eval)[0]? = some u := by simp [hg,hxu]
          have go : ∀ {n : Int},v = .int .i64 n → (∀ w,(Builtin.len_ c.argTypes o.type (c.args.map a.eval)).run P w = .ok (.int .i64 n) w) → Comes P S a o v := fun e hw =>
            ⟨.int .i64 _,e ▸ Rel.int _ _,fun w => by obtain ⟨cs,e'⟩ := Uz (P := P) (a := a) ho hc w; rw [e']; simp [builtin,hw]⟩
          split at h
          · rename_i hu
            cases e : env t x <;> simp only [e] at h <;> try (simp at h; done)
            rw [e] at hx
            obtain ⟨bs,rfl,rfl⟩ := V9 hx
            simp only [Option.some.injEq] at h
            refine go h.symm fun w => ?_
            simp [Builtin.len_,ha,hargs,Zo hu,goInt]
          · rename_i el hu
            cases hl : Yr (env t x) with
            | none => simp [hl] at h
            | some n =>
              simp [hl] at h
              obtain ⟨p,q,rfl⟩ := QmL hx hl
              refine go h.symm fun w => ?_
              simp [Builtin.len_,ha,hargs,Zo hu,goInt]
          · rename_i n el hu
            simp at h
            refine go h.symm fun w => ?_
            simp [Builtin.len_,ha,hargs,Zo hu,goInt]
          · simp at h
    case min =>
      obtain ⟨r,r1,r2⟩ := fold (g := Builtin.min2) (fun {x y z u u'} hx hy e => by
        unfold NG at e
        split at e
        · simp at e; subst e; cases hx; cases hy; exact ⟨_,.int _ _,fun w => by simp [Builtin.min2]⟩
        · simp at e) h
      refine ⟨r,r1,fun w => ?_⟩
      obtain ⟨bs,e'⟩ := Uz (P := P) (a := a) ho hc w
      rw [e']
      have : (Builtin.min_ c.argTypes o.type (c.args.map a.eval)).run P w = .ok r w := by
        rw [← r2 w]; unfold Builtin.min_
        cases e : (c.args.map a.eval).toList with
        | nil => have := r2 w; rw [e] at this; simp at this
        | cons x xs => rfl
      simp [builtin,this]
    case max =>
      obtain ⟨r,r1,r2⟩ := fold (g := Builtin.max2) (fun {x y z u u'} hx hy e => by
        unfold Rm at e
        split at e
        · simp at e; subst e; cases hx; cases hy; exact ⟨_,.int _ _,fun w => by simp [Builtin.max2]⟩
        · simp at e) h
      refine ⟨r,r1,fun w => ?_⟩
      obtain ⟨bs,e'⟩ := Uz (P := P) (a := a) ho hc w
      rw [e']
      have : (Builtin.max_ c.argTypes o.type (c.args.map a.eval)).run P w = .ok r w := by
        rw [← r2 w]; unfold Builtin.max_
        cases e : (c.args.map a.eval).toList with
        | nil => have := r2 w; rw [e] at this; simp at this
        | cons x xs => rfl
      simp [builtin,this]
theorem Qnc (ht : Zv S t a.tmps) (h : ZR P t o.op = some v) : Comes P S a o v := by
  cases ho : o.op <;> rw [ho] at h <;> first
    | exact QgW ht (.inl ho) (by simpa [ZR] using h)
    | exact QgW ht (.inr ho) (by simpa [ZR] using h)
    | exact Qpa ht ho h
    | exact Qkr ht ho h
    | exact QmG ht ho h
    | exact Qpu ht ho h
    | exact Qrc ht ho h
    | exact Qkb ht ho h
    | exact QlO ht ho h
    | exact QoW ht ho h
    | exact Qq9 ht ho h
    | exact Qkx ht ho h
    | exact Qqf ht ho h
    | exact Qog ht ho h
    | exact Qkp ht ho h
    | exact Qir ht ho h
    | exact QqO ht ho h
    | exact QhJ ht ho h
    | (simp [ZR] at h)
end Go.Ev
end
section
namespace Go.Ev
variable {T : ZT}
variable {P : Program} {S : Ctx} {t : List V} {a : Act} {o : Oper} {v : V}
theorem RP {ty e : TypeId} (h : Yz P ty = some e) : P.underlying ty = some (.slice e) := by
 unfold Yz at h
 split at h
 ·rename_i e' hu; simp at h; subst h; exact hu
 ·simp at h
theorem LI {w : World} {c j : Nat} {cells : Array Value} {e : TypeId} {fr : Nat × Nat} (h : w.heap[c]? = some (.cells cells e fr)) : w.cell? ⟨c,j,none⟩ = cells[j]? := by
 simp [World.cell?,h]
theorem QcU (hS : Sim T S) {p : V} {u : Value} (hp : Rel S p u) {cs : List V} (h : VM S.H p = some cs) :
  ∃ c off,u = .pointer (some ⟨c,off,none⟩) ∧ ∀ (j : Nat) (x : V),cs[j]? = some x → ∃ u',S.w.cell? ⟨c,off + j,none⟩ = some u' ∧ Rel S x u' := by
 cases hp with
 | fptr cs' c off us hf hc hcl h1 h2 =>
  simp [VM] at h
  subst h
  exact ⟨c,off,rfl,fun j x hj => ⟨us j,h1 j x hj,h2 j x hj⟩⟩
 | ptr i ver off ad hi hh =>
  simp only [VM] at h
  cases hg : Q0 S.H i with
  | none => simp [hg] at h
  | some b =>
   have hb := hS.blk i b hg
   cases b with
   | dead => simp [hg] at h
   | map es => simp [hg] at h
   | var cs' =>
    simp only [hg] at h
    split at h
    ·rename_i hv
     subst hv
     simp at h
     subst h
     obtain ⟨_,e⟩ := hh 0 (by simp [Zj,hg,ZQ])
     rw [e rfl]
     obtain ⟨cells,el,fr,g1,g2,g3,g4⟩ := hb
     refine ⟨_,_,rfl,fun j x hj => ?_⟩
     rw [List.getElem?_drop] at hj
     obtain ⟨u',k1,k2⟩ := g4 _ x hj
     exact ⟨u',by rw [LI g1]; exact k1,k2⟩
    ·simp at h
   | row vv sz ag cs' =>
    simp only [hg] at h
    split at h
    ·rename_i hv
     subst hv
     simp at h
     subst h
     obtain ⟨_,e⟩ := hh ver (by simp [Zj,hg,ZQ])
     rw [e rfl]
     obtain ⟨cells,el,fr,g1,g2,g3,g4,g5⟩ := hb
     refine ⟨_,_,rfl,fun j x hj => ?_⟩
     rw [List.getElem?_drop] at hj
     obtain ⟨u',k1,k2⟩ := g5 _ x hj
     exact ⟨u',by rw [LI g1]; exact k1,k2⟩
    ·simp at h
 | _ => simp [VM] at h
theorem Qbp {ty : TypeId} {ag : Bool} {n : Nat} (ha : Z9 P ty = some ag) (hn : Q5 P ty = some n) {w : World} {c off : Nat} {cs : List V}
  (h : ∀ (j : Nat) (x : V),cs[j]? = some x → ∃ u',w.cell? ⟨c,off + j,none⟩ = some u' ∧ Rel S x u') (hv : Kf ag n cs = some v) :
  ∃ u,Rel S v u ∧ (loadVar ty ⟨c,off,none⟩).run P w = .ok u w := by
 obtain ⟨hle,hor⟩ := QqT (S := S) hv
 rcases hor with ⟨rfl,rfl⟩ | ⟨rfl,rfl,h0⟩
 ·have : ∃ us : Nat → Value,∀ (j : Nat) (x : V),cs[j]? = some x → w.cell? ⟨c,off + j,none⟩ = some (us j) ∧ Rel S x (us j) := by
   refine ⟨fun j => (w.cell? ⟨c,off + j,none⟩).getD undef,fun j x hj => ?_⟩
   obtain ⟨u',k1,k2⟩ := h j x hj
   simp [k1,k2]
  obtain ⟨us,hus⟩ := this
  refine ⟨.agg ((List.range n).map us).toArray,.agg _ _ (by simp; omega) (fun j x u hj hu => ?_),?_⟩
  ·rw [List.getElem?_take] at hj
   split at hj
   ·rename_i hlt
    simp [hlt] at hu
    subst hu
    exact (hus j x hj).2
   ·simp at hj
  ·have hl := run_loadCells (P := P) w ⟨c,off,none⟩ n us (fun j hj => by
    rw [addr_add]
    exact (hus j cs[j] (by simp [List.getElem?_eq_getElem (show j < cs.length by omega)])).1)
   simp [loadVar,PQ ha,YC hn,hl]
 ·obtain ⟨u',k1,k2⟩ := h 0 v h0
  refine ⟨u',k2,?_⟩
  simp only [Nat.add_zero] at k1
  simp [loadVar,PQ ha,k1]
theorem QpD (hS : Sim T S) (ht : Zv S t a.tmps) {ty : TypeId} {p : Operand} (ho : o.op = .load ty p) (h : ZZ P t S.H (.load ty p) = some v) :
  ∃ u,Rel S v u ∧ (execOp a.eval o).run P S.w = .ok (.value u) S.w := by
 simp only [ZZ] at h
 cases ha : Z9 P ty with
 | none => simp [ha] at h
 | some ag =>
  cases hn : Q5 P ty with
  | none => simp [ha,hn] at h
  | some n =>
   simp only [ha,hn,Option.bind_some,Kj] at h
   cases hc : VM S.H (env t p) with
   | none => simp [hc] at h
   | some cs =>
    simp only [hc,Option.bind_some] at h
    obtain ⟨c,off,e,hcells⟩ := QcU hS (ZL ht p) hc
    obtain ⟨u,hu,hr⟩ := Qbp ha hn hcells h
    exact ⟨u,hu,by simp [execOp,ho,Instr.loadAt,e,Instr.sureAddr,hr]⟩
theorem flat_get {sz : Nat} : ∀ {xs : List V},K4 sz xs = true → ∀ (k : Nat) (y : V),(flat xs)[k]? = some y → 0 < sz ∧ ∃ x,xs[k / sz]? = some x ∧ x.cells[k % sz]? = some y
 | [],_,k,y,h => by simp [flat] at h
 | x :: xs,hl,k,y,h => by
  simp only [K4,Bool.and_eq_true,beq_iff_eq] at hl
  simp only [flat] at h
  rw [List.getElem?_append,hl.1] at h
  by_cases c : k < sz
  ·rw [if_pos c] at h
   refine ⟨by omega,x,?_,?_⟩
   ·rw [Nat.div_eq_of_lt c]; rfl
   ·rw [Nat.mod_eq_of_lt c]; exact h
  ·rw [if_neg c] at h
   obtain ⟨h0,x',h1,h2⟩ := flat_get hl.2 _ y h
   refine ⟨h0,x',?_,?_⟩
   ·have : k / sz = (k - sz) / sz + 1 := by rw [Nat.div_eq k,if_pos ⟨h0,by omega⟩]
    rw [this]; simpa using h1
   ·rw [Nat.mod_eq,if_pos ⟨h0,by omega⟩]; exact h2
theorem Qfq {sz : Nat} : ∀ {xs : List V},K4 sz xs = true → (flat xs).length = xs.length * sz
 | [],_ => by simp [flat]
 | x :: xs,hl => by
  simp only [K4,Bool.and_eq_true,beq_iff_eq] at hl
  simp [flat,Qfq hl.2,hl.1,Nat.add_mul]; omega
theorem Ml (hS : Sim T S) {x : V} {u : Value} (hx : Rel S x u) {sz n : Nat} {cs : List V} (hn : Yr x = some n) (h : YR sz S.H x = some cs) :
  cs.length = n * sz ∧ ∃ p cap,u = .slice p n cap ∧ (p = none → cs = []) ∧ ∀ ad,p = some ad → ∀ (j : Nat) (y : V),cs[j]? = some y → ∃ u',S.w.cell? (ad.add j) = some u' ∧ Rel S y u' := by
 cases hx with
 | nils =>
  simp [YR] at h
  simp [Yr] at hn
  subst h hn
  exact ⟨by simp,none,0,rfl,fun _ => rfl,fun ad e => by simp at e⟩
 | vs xs ad m cap c off sz' us hm hcap hcl ha hsz h1 h2 =>
  simp [Yr] at hn
  subst hn
  simp only [YR] at h
  split at h
  ·rename_i hal
   simp at h
   subst h
   subst hm
   refine ⟨Qfq hal,ad,cap,rfl,fun e => ?_,fun ad' e j y hj => ?_⟩
   ·cases xs with
    | nil => rfl
    | cons y ys => have := (ha (by simp)).1; rw [e] at this; simp at this
   ·obtain ⟨h0,z,hz1,hz2⟩ := flat_get hal j y hj
    have hne : xs ≠ [] := by rintro rfl; simp at hz1
    have e2 := (ha hne).1
    rw [e] at e2
    simp at e2
    subst e2
    have es : sz' = sz := by
     have := hsz _ z hz1
     have : ∀ {l : List V},K4 sz l = true → ∀ (k : Nat) w,l[k]? = some w → w.cells.length = sz := by
      intro l
      induction l with
      | nil => intro _ k w hw; simp at hw
      | cons q l ih =>
       intro hl k w hw
       simp only [K4,Bool.and_eq_true,beq_iff_eq] at hl
       cases k with
       | zero => simp at hw; subst hw; exact hl.1
       | succ k => exact ih hl.2 k w (by simpa using hw)
     have := this hal _ z hz1
     omega
    subst es
    rw [addr_add]
    have ej : j / sz' * sz' + j % sz' = j := Nat.div_add_mod' j sz'
    have k1 := h1 _ z _ y hz1 hz2
    have k2 := h2 _ z _ y hz1 hz2
    rw [ej] at k1 k2
    exact ⟨_,k1,k2⟩
  ·simp at h
 | rs i ver s off m ad cap hi hcap hh =>
  simp [Yr] at hn
  subst hn
  simp only [YR] at h
  cases hg : Q0 S.H i with
  | none => simp [hg] at h
  | some b =>
   cases b with
   | row vv s' ag cs' =>
    simp only [hg] at h
    split at h
    ·rename_i hc
     obtain ⟨c1,c2,c3,c4⟩ := hc
     subst c1 c2 c3
     simp only [Option.some.injEq] at h
     obtain ⟨_,e⟩ := hh ver (by simp [Zj,hg,ZQ])
     obtain ⟨ag',cs2,cells,el,fr,q1,q2,q3,q4⟩ := e rfl
     rw [hg] at q1
     injection q1 with q1
     injection q1 with _ _ _ q1
     subst q1
     have hb := hS.blk i _ hg
     obtain ⟨cells2,el2,fr2,g1,g2,g3,g4,g5⟩ := hb
     have hl : cs.length = m * s := by
      rw [← h]; simp
      have : (off + m) * s = off * s + m * s := Nat.add_mul _ _ _
      omega
     refine ⟨hl,some ad,cap,rfl,fun e => by simp at e,fun ad' e' j y hj => ?_⟩
     simp at e'
     subst e'
     have hjl : j < m * s := by rw [← hl]; exact (List.getElem?_eq_some_iff.1 hj).1
     have hm0 : 0 < m := by
      rcases Nat.eq_zero_or_pos m with z | z
      ·subst z; simp at hjl
      ·exact z
     rw [q4 (by omega),addr_add]
     rw [← h,List.getElem?_take,if_pos hjl,List.getElem?_drop] at hj
     obtain ⟨u',k1,k2⟩ := g5 _ y hj
     exact ⟨u',by rw [LI g1]; exact k1,k2⟩
    ·simp at h
   | _ => simp [hg] at h
 | _ => simp [YR] at h
theorem T4 : ∀ {cs : List V} {bs : List UInt8},bytesOf cs = some bs → ∃ ns : List Int,cs = ns.map (V.int .u8) ∧ bs = ns.map fun n => UInt8.ofNat n.toNat
 | [],bs,h => by simp [bytesOf] at h; subst h; exact ⟨[],rfl,rfl⟩
 | x :: cs,bs,h => by
  unfold bytesOf at h
  split at h
  ·rename_i heq; simp at heq
  ·rename_i n r heq
   simp at heq
   obtain ⟨rfl,rfl⟩ := heq
   cases e : bytesOf cs with
   | none => simp [e] at h
   | some s =>
    simp [e] at h
    subst h
    obtain ⟨ns,rfl,rfl⟩ := T4 e
    exact ⟨n :: ns,rfl,rfl⟩
  ·simp at h
theorem Qjs (ns : List Int) : ∀ (s : ByteArray),(ns.foldl (fun r n => r.push (UInt8.ofNat n.toNat)) s).data.toList = s.data.toList ++ ns.map fun n => UInt8.ofNat n.toNat := by
 induction ns with
 | nil => intro s; simp
 | cons n ns ih => intro s; rw [List.foldl_cons,ih]; simp
theorem Qr2 (hS : Sim T S) (ht : Zv S t a.tmps) {src dst : TypeId} {x : Operand} (ho : o.op = .convert src dst x) (h : ZZ P t S.H (.convert src dst x) = some v) :
  ∃ u,Rel S v u ∧ (execOp a.eval o).run P S.w = .ok (.value u) S.w := by
 simp only [ZZ] at h
 split at h
 ·rename_i e hs hd
  split at h
  ·rename_i he
   cases hc : YR 1 S.H (env t x) with
   | none => simp [hc] at h
   | some cs =>
    cases hb : bytesOf cs with
    | none => simp [hc,hb] at h
    | some bs =>
     simp [hc,hb] at h
     subst h
     have hx := ZL ht x
     cases hn : Yr (env t x) with
     | none =>
      exfalso
      cases e2 : env t x <;> simp [e2,Yr] at hn <;> simp [e2,YR] at hc
     | some n =>
      obtain ⟨hl,p,cap,hu,hz,hcell⟩ := Ml hS hx hn hc
      obtain ⟨ns,rfl,rfl⟩ := T4 hb
      have key : ∃ r : ByteArray,r.data.toList = ns.map (fun n => UInt8.ofNat n.toNat) ∧ (Conv.bytesToString (.slice p n cap)).run P S.w = .ok (.string r) S.w := by
       cases p with
       | none =>
        have := hz rfl
        have : ns = [] := by simpa using this
        subst this
        exact ⟨ByteArray.empty,rfl,by simp [Conv.bytesToString]⟩
       | some ad =>
        have hlen : n = (ns.map (Value.int .u8)).length := by simp at hl; simp; omega
        have hld := run_loadCells_list (P := P) S.w ad (ns.map (Value.int .u8)) (fun j u hj => by
         rw [List.getElem?_map] at hj
         cases hk : ns[j]? with
         | none => simp [hk] at hj
         | some m =>
          simp [hk] at hj
          subst hj
          obtain ⟨u',k1,k2⟩ := hcell ad rfl j (.int .u8 m) (by simp [List.getElem?_map,hk])
          rw [Fo k2] at k1
          exact k1)
        rw [← hlen] at hld
        exact ⟨_,by rw [Qjs]; rfl,run_bytesToString S.w ad n cap ns hld⟩
      obtain ⟨r,r1,r2⟩ := key
      refine ⟨.string r,Rel.str' r1,?_⟩
      simp only [execOp,ho,hu,Sem.run_bind,run_convert_bytes_string S.w src dst e _ _ _ hs he hd,r2,Result.andThen_ok,Sem.run_pure]
  ·simp at h
 ·simp at h
theorem Qb6 {kt : TypeId} {k : V} {ku : Value} (hk : Rel S k ku) (h : Uv P kt k = true) :
  ∃ d,P.underlying kt = some d ∧ ((∃ kd n,d = .int kd ∧ ∃ kd',k = .int kd' n ∧ ku = .int kd' n) ∨ (∃ b : ByteArray,d = .string ∧ k = .str b.data.toList ∧ ku = .string b) ∨ (∃ b,d = .bool ∧ k = .bool b ∧ ku = .bool b)) := by
 unfold Uv at h
 split at h
 ·rename_i kd k' n hu; cases hk; exact ⟨_,hu,.inl ⟨_,_,rfl,_,rfl,rfl⟩⟩
 ·rename_i s hu; cases hk; exact ⟨_,hu,.inr (.inl ⟨_,rfl,rfl,rfl⟩)⟩
 ·rename_i b hu; cases hk; exact ⟨_,hu,.inr (.inr ⟨_,rfl,rfl,rfl⟩)⟩
 ·simp at h
theorem bytes_beq (a b : ByteArray) : (a == b) = (a.data.toList == b.data.toList) := by
 have e : (a == b) = (a.data == b.data) := by cases a; cases b; rfl
 rw [e]; simp
theorem Qku {d : TypeDesc} {k kk : V} {ku mu : Value} (hd : (∃ kd n,d = .int kd ∧ ∃ kd',k = .int kd' n ∧ ku = .int kd' n) ∨ (∃ b : ByteArray,d = .string ∧ k = .str b.data.toList ∧ ku = .string b) ∨ (∃ b,d = .bool ∧ k = .bool b ∧ ku = .bool b))
  (hm : Rel S kk mu) {b : Bool} (h : sameKey k kk = some b) : Instr.sameNow d ku mu = some b := by
 rcases hd with ⟨kd,n,rfl,kd',rfl,rfl⟩ | ⟨bs,rfl,rfl,rfl⟩ | ⟨c,rfl,rfl,rfl⟩
 ·cases hm <;> simp [sameKey] at h
  simp [Instr.sameNow,h]
 ·cases hm <;> simp [sameKey] at h
  subst h
  simp [Instr.sameNow,bytes_beq]
 ·cases hm <;> simp [sameKey] at h
  simp [Instr.sameNow,h]
theorem Dp {d : TypeDesc} {k : V} {ku : Value} (hd : (∃ kd n,d = .int kd ∧ ∃ kd',k = .int kd' n ∧ ku = .int kd' n) ∨ (∃ b : ByteArray,d = .string ∧ k = .str b.data.toList ∧ ku = .string b) ∨ (∃ b,d = .bool ∧ k = .bool b ∧ ku = .bool b)) :
  ∀ {es : List (V × V)} {ms : List MapEntry} {i : Nat} {r : Option (Nat × V)},es.length = ms.length → (∀ (j : Nat) (kk x : V) (m : MapEntry),es[j]? = some (kk,x) → ms[j]? = some m → Rel S kk m.key ∧ Rel S x m.val) →
   K5 k es i = some r → (r = none ∧ Instr.findNow d ku ms i = some none) ∨
    ∃ j x u kk,r = some (i + j,x) ∧ Rel S x u ∧ Instr.findNow d ku ms i = some (some (i + j,u)) ∧ es[j]? = some (kk,x) ∧ sameKey k kk = some true
 | [],[],i,r,_,_,h => by simp [K5] at h; subst h; exact .inl ⟨rfl,by simp [Instr.findNow]⟩
 | (kk,x) :: es,m :: ms,i,r,hl,hr,h => by
  obtain ⟨g1,g2⟩ := hr 0 kk x m rfl rfl
  simp only [K5] at h
  cases hs : sameKey k kk with
  | none => simp [hs] at h
  | some b =>
   have e := Qku hd g1 hs
   cases b with
   | true =>
    simp [hs] at h
    subst h
    exact .inr ⟨0,x,m.val,kk,by simp,g2,by simp [Instr.findNow,e],rfl,hs⟩
   | false =>
    simp only [hs] at h
    rcases Dp hd (es := es) (ms := ms) (i := i + 1) (by simpa using hl) (fun j kk x m a b => hr (j + 1) kk x m (by simpa using a) (by simpa using b)) h with ⟨a1,a2⟩ | ⟨j,y,u,kk',b1,b2,b3,b4,b5⟩
    ·exact .inl ⟨a1,by simp [Instr.findNow,e,a2]⟩
    ·refine .inr ⟨j + 1,y,u,kk',by rw [b1]; congr 2; omega,b2,?_,by simpa using b4,b5⟩
     simp only [Instr.findNow,e,b3]; congr 3; omega
 | [],_ :: _,_,_,hl,_,_ => by simp at hl
 | _ :: _,[],_,_,hl,_,_ => by simp at hl
theorem run_checkKey {kt : TypeId} {d : TypeDesc} (hu : P.underlying kt = some d) (hd : (∃ k,d = .int k) ∨ d = .string ∨ d = .bool) (b : Bool) (ku : Value) (w : World) :
  (Instr.checkKey b 10000 kt ku).run P w = .ok () w := by
 show (Instr.checkKey b (9999 + 1) kt ku).run P w = .ok () w
 rw [Instr.checkKey]
 simp only [Sem.run_bind,Zo hu,Result.andThen_ok]
 rcases hd with ⟨k,rfl⟩ | rfl | rfl <;> rfl
theorem Qsn (hS : Sim T S) (ht : Zv S t a.tmps) {ty : TypeId} {m k : Operand} {ok : Bool} (ho : o.op = .lookup ty m k ok) (h : ZZ P t S.H (.lookup ty m k ok) = some v) :
  ∃ u,Rel S v u ∧ (execOp a.eval o).run P S.w = .ok (.value u) S.w := by
 simp only [ZZ,C8] at h
 have hm := ZL ht m
 have hk := ZL ht k
 generalize hmu : a.eval m = mu at hm
 generalize hku : a.eval k = ku at hk
 split at h
 ·rename_i kt et hu
  split at h
  ·rename_i hok
   obtain ⟨d,hd,hkind⟩ := Qb6 hk hok
   have hd' : (∃ k,d = .int k) ∨ d = .string ∨ d = .bool := by
    rcases hkind with ⟨kd,n,e,_⟩ | ⟨b,e,_⟩ | ⟨b,e,_⟩
    ·exact .inl ⟨_,e⟩
    ·exact .inr (.inl e)
    ·exact .inr (.inr e)
   cases hes : mapOf S.H (env t m) with
   | none => simp [hes] at h
   | some es =>
    have hmap : ∃ ms : Array MapEntry,es.length = ms.toList.length ∧ (∀ (j : Nat) (kk x : V) (m : MapEntry),es[j]? = some (kk,x) → ms.toList[j]? = some m → Rel S kk m.key ∧ Rel S x m.val) ∧
      ((mu = .map none ∧ ms = #[]) ∨ ∃ r clock,mu = .map (some r) ∧ (getObj r).run P S.w = .ok (.map ms clock) S.w) := by
     generalize env t m = mv at hm hes
     cases hm with
     | nilmap =>
      simp [mapOf] at hes
      subst hes
      exact ⟨#[],rfl,fun j kk x m a => by simp at a,.inl ⟨rfl,rfl⟩⟩
     | mapr i c hi hh =>
      simp only [mapOf] at hes
      split at hes
      ·rename_i es' hg
       simp at hes
       subst hes
       obtain ⟨ms,clock,g1,g2,g3⟩ := hS.blk i _ hg
       have hc := hh (by simp [Zj,hg,ZQ])
       subst hc
       refine ⟨ms,by simp [g2],fun j kk x m p q => ?_,.inr ⟨_,clock,rfl,?_⟩⟩
       ·obtain ⟨m',q1,q2,q3⟩ := g3 j kk x p
        have : ms[j]? = some m := by simpa using q
        rw [this] at q1
        injection q1 with q1
        subst q1
        exact ⟨q2,q3⟩
       ·simp [getObj,Sem.run,g1]
      ·simp at hes
     | _ => simp [mapOf] at hes
    obtain ⟨ms,hlen,hent,hrun⟩ := hmap
    simp only [hes,Option.bind_some] at h
    cases hf : K5 (env t k) es 0 with
    | none => simp [hf] at h
    | some r =>
     simp only [hf,Option.bind_some] at h
     have fin : ∀ {x : V} {u : Value} {b : Bool},Rel S x u → v = (if ok then .tup [x,.bool b] else x) → ∃ u',Rel S v u' ∧ u' = (if ok then .tuple #[u,.bool b] else u) := by
      intro x u b hx e
      subst e
      cases ok with
      | false => exact ⟨u,hx,rfl⟩
      | true =>
       refine ⟨_,.tup _ _ rfl fun j y u' hj hu => ?_,rfl⟩
       match j with
       | 0 => simp at hj hu; subst hj hu; exact hx
       | 1 => simp at hj hu; subst hj hu; exact .bool b
       | j + 2 => simp at hj
     rcases Dp hkind hlen hent hf with ⟨rfl,hn⟩ | ⟨j,x,u,kk,rfl,hxu,hn,_⟩
     ·simp only at h
      cases hz : ZO P et with
      | none => simp [hz] at h
      | some z =>
       simp [hz] at h
       obtain ⟨zu,z1,z2⟩ := Wr hz S
       obtain ⟨u',f1,rfl⟩ := fin (b := false) z1 h.symm
       refine ⟨_,f1,?_⟩
       rcases hrun with ⟨rfl,rfl⟩ | ⟨r,clock,rfl,hg⟩
       ·simp at hn
        simp [execOp,ho,Instr.lookup,hmu,hku,Zo hu,run_checkKey hd hd',Instr.findKey,Zo hd,hn,z2]
       ·simp [execOp,ho,Instr.lookup,hmu,hku,Zo hu,hg,run_checkKey hd hd',Instr.findKey,Zo hd,hn,z2]
     ·simp at h
      obtain ⟨u',f1,rfl⟩ := fin (b := true) hxu h.symm
      refine ⟨_,f1,?_⟩
      rcases hrun with ⟨rfl,rfl⟩ | ⟨r,clock,rfl,hg⟩
      ·simp [Instr.findNow] at hn
      ·simp [execOp,ho,Instr.lookup,hmu,hku,Zo hu,hg,run_checkKey hd hd',Instr.findKey,Zo hd,hn]
  ·simp at h
 ·simp at h
theorem Qsj (hS : Sim T S) (ht : Zv S t a.tmps) (h : ZZ P t S.H o.op = some v) : ∃ u,Rel S v u ∧ (execOp a.eval o).run P S.w = .ok (.value u) S.w := by
 cases ho : o.op <;> rw [ho] at h <;> first
  | exact QpD hS ht ho h
  | exact Qr2 hS ht ho h
  | exact Qsn hS ht ho h
  | (simp [ZZ] at h)
end Go.Ev
end
