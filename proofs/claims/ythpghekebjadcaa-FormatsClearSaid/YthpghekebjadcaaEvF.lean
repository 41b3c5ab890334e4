/- EvF: a part of the proof that each law of this seat answers true at every input. No condition. -/
import Derived.Test.YthpghekebjadcaaEvE
import Derived.Lib.ItoaNum
import Derived.Lib.Case
import Derived.Lib.Join
set_option linter.unusedVariables false
set_option linter.unusedSimpArgs false
section
namespace Go.Ev
universe u
noncomputable def shut {α : Sort u} (a : α) : α := Classical.choose (⟨a,rfl⟩ : ∃ x,x = a)
theorem Zy {α : Sort u} (a : α) : shut a = a := Classical.choose_spec (⟨a,rfl⟩ : ∃ x,x = a)
noncomputable def Cq : V → V → V → Option V := shut (FZ)
theorem LU : Cq = FZ := Zy _
noncomputable def Z4 : List V → List (Nat × Nat) → List (Nat × V) → Option V := shut (MU)
theorem LV : Z4 = MU := Zy _
noncomputable def EH : List V → Nat → List (Nat × V) → Option V := shut (Fw)
theorem LG : EH = Fw := Zy _
noncomputable def EP : V → Option V := shut (F9)
theorem Mg : EP = F9 := Zy _
noncomputable def Kn : BinOp → Nat → V → V → Option V := shut (Ym)
theorem Kg : Kn = Ym := Zy _
noncomputable def CN : BinOp → Bool → V → V → Option V := shut (Lr)
theorem Lg : CN = Lr := Zy _
noncomputable def oUn : UnOp → V → Option V := shut (vUn)
theorem R5 : oUn = vUn := Zy _
noncomputable def NN : IntKind → V → Option V := shut (WW)
theorem Rl : NN = WW := Zy _
noncomputable def CH : V → Option V := shut (MG)
theorem Lk : CH = MG := Zy _
noncomputable def E9 : TypeId → V → Option V := shut (Ge)
theorem Me : E9 = Ge := Zy _
noncomputable def Dz : FuncId → List V → Option V := shut (Fh)
theorem M8 : Dz = Fh := Zy _
noncomputable def D6 : V → Option V → Option V → Option V → Option V := shut (WY)
theorem MI : D6 = WY := Zy _
noncomputable def CQ : Nat → V → Option V → Option V → Option V → Option V := shut (K2)
theorem Mj : CQ = K2 := Zy _
noncomputable def AV : V → Nat → Option V := shut (K1)
theorem Pg : AV = K1 := Zy _
noncomputable def DG : Nat → Bool → Nat → V → Option V := shut (ME)
theorem L5 : DG = ME := Zy _
noncomputable def Gl : Nat → V → V → Option V := shut (RJ)
theorem Ln : Gl = RJ := Zy _
noncomputable def AB : Nat → Nat → V → V → Option V := shut (Md)
theorem M1 : AB = Md := Zy _
noncomputable def Aj : V → V → Option V := shut (B8)
theorem NX : Aj = B8 := Zy _
noncomputable def AP : Nat → Bool → Nat → V → V → Option V := shut (ML)
theorem MD : AP = ML := Zy _
noncomputable def Wj : V → Nat → Option V := shut (NM)
theorem L1 : Wj = NM := Zy _
noncomputable def Xc : TypeId → V → Option V := shut (Mc)
theorem LR : Xc = Mc := Zy _
noncomputable def Af : TypeId → V → V → Option V := shut (Le)
theorem LD : Af = Le := Zy _
noncomputable def Xl : V → Option V := shut (FI)
theorem N6 : Xl = FI := Zy _
noncomputable def Cz : V → Option V := shut (LN)
theorem NY : Cz = LN := Zy _
noncomputable def D3 : Nat → Option V := shut (Pz)
theorem Ly : D3 = Pz := Zy _
noncomputable def Ct : Nat → Nat → Bool → V → Option V → Option V → Option V → Qa → Option (V × Qa) := shut (Gr)
theorem NT : Ct = Gr := Zy _
noncomputable def Ai : Nat → Nat → List V → V → Qa → Option (V × Qa) := shut (Fp)
theorem N7 : Ai = Fp := Zy _
noncomputable def XU : Nat → Nat → V → V → Qa → Option (V × Qa) := shut (Po)
theorem My : XU = Po := Zy _
noncomputable def E0 : List V → Option V := shut (Kt NG)
theorem MH : E0 = Kt NG := Zy _
noncomputable def Ez : List V → Option V := shut (Kt Rm)
theorem MN : Ez = Kt Rm := Zy _
noncomputable def Jw : V → Option V := shut (G6)
theorem MV : Jw = G6 := Zy _
noncomputable def QF : Bool → Nat → Qa → V → Option V := shut (Kj)
theorem Bz : QF = Kj := Zy _
noncomputable def DY : Qa → V → Option V := shut (GJ)
theorem MW : DY = GJ := Zy _
noncomputable def Ab : Nat → V → Qa → V → V → Option V := shut (Mt)
theorem M4 : Ab = Mt := Zy _
noncomputable def Eu : Nat → V → Qa → V → V → Option V := shut (Lz)
theorem MQ : Eu = Lz := Zy _
noncomputable def Y1 : Nat → Nat → V → List (Nat × V) → Option V := shut (VF)
theorem La : Y1 = VF := Zy _
noncomputable def NS : Qa → V → Option (V × Qa) := shut (BG)
theorem MZ : NS = BG := Zy _
noncomputable def CB : Nat → Nat → Bool → List V → Qa → List (Nat × V) → Option (V × Qa) := shut (FN)
theorem Mr : CB = FN := Zy _
noncomputable def Dw : Nat → Bool → Nat → List V → V → V → Qa → Option (V × Qa) := shut (N2)
theorem Mz : Dw = N2 := Zy _
noncomputable def CV : Qa → Option (V × Qa) := shut (Gp)
theorem L9 : CV = Gp := Zy _
noncomputable def CU : Nat → Nat → Qa → V → V → V → Option (V × Qa) := shut (Rw)
theorem MM : CU = Rw := Zy _
noncomputable def F6 : Nat → Nat → Qa → V → V → Option (V × Qa) := shut (Vb)
theorem Mf : F6 = Vb := Zy _
noncomputable def EZ : V → Qa → Option (V × Qa) := shut (LM)
theorem N3 : EZ = LM := Zy _
noncomputable def Cl : Nat → Nat → Nat → Bool → V → V → Qa → Option (V × Qa) := shut (Lj)
theorem Lb : Cl = Lj := Zy _
noncomputable def Da : Nat → Nat → Nat → Bool → V → V → Qa → Option (V × Qa) := shut (Lm)
theorem L4 : Da = Lm := Zy _
def BF (g : Operand → V) : List (Nat × Operand) → List (Nat × V)
 | [] => []
 | (i,x) :: r => (i,g x) :: BF g r
def Vi (g : Operand → V) : List Operand → List V
 | [] => []
 | x :: r => g x :: Vi g r
theorem Lu (t : List V) : ∀ l,BF (env t) l = Y5 t l
 | [] => rfl
 | (i,x) :: r => by rw [BF,Y5,Lu t r]
theorem UP (t : List V) : ∀ l,Vi (env t) l = YT t l
 | [] => rfl
 | x :: r => by rw [Vi,YT,UP t r]
noncomputable def Bg (P : Program) (g : Operand → V) : Op → Option V
 | .move x | .assign x => Jw (g x)
 | .pick c a b => Cq (g c) (g a) (g b)
 | .build ty parts => match P.underlying ty with
  | some (.struct fs) => match ZO P ty with
   | some z => match Ve P fs.toList with
    | some pl => match ZI z.cells with
     | true => Z4 z.cells pl (BF g parts.toList)
     | false => none
    | none => none
   | none => none
  | some (.array _ e) => match ZO P ty with
   | some z => match Q5 P e with
    | some n => match ZI z.cells with
     | true => EH z.cells n (BF g parts.toList)
     | false => none
    | none => none
   | none => none
  | _ => none
 | .nilCheck x => EP (g x)
 | .binOp op ty x y _ => match RN P ty with
  | 3 => CN op (Region.isConst x || Region.isConst y) (g x) (g y)
  | k => Kn op k (g x) (g y)
 | .unOp op _ x => oUn op (g x)
 | .convert src dst x => match (P.underlying src).isSome with
  | true => match P.underlying dst with
   | some (.int k) => NN k (g x)
   | some .string => CH (g x)
   | _ => none
  | false => none
 | .makeInterface ty x => match P.underlying ty with
  | some (.interface _) => none
  | some _ => E9 ty (g x)
  | none => none
 | .makeFunc fn first cap => match fn with
  | .func f => match first.size with
   | 0 => Dz f (Vi g cap.toList)
   | _ => none
  | _ => none
 | .slice ty x lo hi mx => match P.underlying ty with
  | some .string => D6 (g x) (lo.map g) (hi.map g) (mx.map g)
  | some (.slice e) => match Q5 P e with
   | some n => CQ n (g x) (lo.map g) (hi.map g) (mx.map g)
   | none => none
  | _ => none
 | .fieldAddr ty x f => match U8 P ty f with
  | some r => match Q5 P r.2 with
   | some (_ + 1) => AV (g x) r.1
   | _ => none
  | none => none
 | .field ty x f => match U8 P ty f with
  | some r => match Z9 P r.2 with
   | some ag => match Q5 P r.2 with
    | some n => DG r.1 ag n (g x)
    | none => none
   | none => none
  | none => none
 | .indexAddr ty x i => match P.underlying ty with
  | some (.slice e) => match Q5 P e with
   | some n => Gl n (g x) (g i)
   | none => none
  | some (.array len e) => match Q5 P e with
   | some (n + 1) => AB len (n + 1) (g x) (g i)
   | _ => none
  | _ => none
 | .index ty x i => match P.underlying ty with
  | some .string => Aj (g x) (g i)
  | some (.array len e) => match Z9 P e with
   | some ag => match Q5 P e with
    | some n => AP len ag n (g x) (g i)
    | none => none
   | none => none
  | _ => none
 | .extract x i => Wj (g x) i
 | .typeAssert x _ ty ok => match P.underlying ty with
  | some (.interface _) => none
  | some _ => match ok with
   | true => match ZO P ty with
    | some z => Af ty z (g x)
    | none => none
   | false => Xc ty (g x)
  | none => none
 | .call c => match c.callee with
  | .builtin .len => match c.argTypes[0]?,c.args[0]? with
   | some ty,some x => match P.underlying ty with
    | some .string => Xl (g x)
    | some (.slice _) => Cz (g x)
    | some (.array n _) => D3 n
    | _ => none
   | _,_ => none
  | .builtin .min => E0 (Vi g c.args.toList)
  | .builtin .max => Ez (Vi g c.args.toList)
  | _ => none
 | _ => none
noncomputable def Wh (P : Program) (g : Operand → V) (H : Qa) : Op → Option V
 | .load ty p => match Z9 P ty with
  | some ag => match Q5 P ty with
   | some n => QF ag n H (g p)
   | none => none
  | none => none
 | .convert src dst x => match P.underlying src with
  | some (.slice e) => match P.underlying dst with
   | some .string => match P.underlying e with
    | some (.int .u8) => DY H (g x)
    | _ => none
   | _ => none
  | _ => none
 | .lookup ty m k ok => match P.underlying ty with
  | some (.map kt et) => match ZO P et with
   | some z => match ok with
    | true => Eu (Vn P kt) z H (g m) (g k)
    | false => Ab (Vn P kt) z H (g m) (g k)
   | none => none
  | _ => none
 | _ => none
noncomputable def Bh (P : Program) (g : Operand → V) : Op → Option V
 | .buildSlice ty len parts => match Yz P ty with
  | some e => match Q5 P e with
   | some n => match ZO P e with
    | some z => match decide (len * n ≤ 16777216) && decide (0 < n) && (z.cells.length == n) && ZI z.cells && z.nrm.clean with
     | true => Y1 n len z.nrm (BF g parts.toList)
     | false => none
    | none => none
   | none => none
  | none => none
 | _ => none
noncomputable def Ro (P : Program) (base : Nat) (g : Operand → V) (H : Qa) : Op → Option (V × Qa)
 | .alloc ty => match ZO P ty with
  | some z => NS H z
  | none => none
 | .box _ x => NS H (g x)
 | .buildSlice ty len parts => match Yz P ty with
  | some e => match Q5 P e with
   | some n => match Z9 P e with
    | some ag => match ZO P e with
     | some z => match decide (len * n ≤ 16777216) && (z.cells.length == n) && ZI z.cells with
      | true => CB len n ag (Jd len z.cells) H (BF g parts.toList)
      | false => none
     | none => none
    | none => none
   | none => none
  | none => none
 | .makeSlice ty l c => match Yz P ty with
  | some e => match Q5 P e with
   | some n => match Z9 P e with
    | some ag => match K8 P e with
     | some by_ => match ZO P e with
      | some z => match (z.cells.length == n) && ZI z.cells with
       | true => Dw n ag by_ z.cells (g l) (g c) H
       | false => none
      | none => none
     | none => none
    | none => none
   | none => none
  | none => none
 | .makeMap ty r => match P.underlying ty with
  | some (.map _ _) => match r with
   | none => CV H
   | some x => none
  | _ => none
 | .mapUpdate ty m k x | .insert ty m k x => match P.underlying ty with
  | some (.map kt _) => CU base (Vn P kt) H (g m) (g k) (g x)
  | _ => none
 | .store ty p x => match Q5 P ty with
  | some n => F6 base n H (g p) (g x)
  | none => none
 | .convert src dst x => match (P.underlying src).isSome with
  | true => match P.underlying dst with
   | some (.slice e) => match P.underlying e with
    | some (.int .u8) => EZ (g x) H
    | _ => none
   | _ => none
  | false => none
 | .slice ty x lo hi mx => match P.underlying ty with
  | some (.array len e) => match Q5 P e with
   | some n => match Z9 P e with
    | some ag => Ct n len ag (g x) (lo.map g) (hi.map g) (mx.map g) H
    | none => none
   | none => none
  | _ => none
 | .call c => match c.callee with
  | .builtin .clear => match c.argTypes[0]?,c.args[0]? with
   | some ty,some x => match Yz P ty with
    | some e => match Q5 P e with
     | some n => match ZO P e with
      | some z => Ai base n z.cells (g x) H
      | none => none
     | none => none
    | none => none
   | _,_ => none
  | .builtin .copy => match c.argTypes[0]?,c.args[0]?,c.args[1]? with
   | some ty,some d,some x => match Yz P ty with
    | some e => match Q5 P e with
     | some n => XU base n (g d) (g x) H
     | none => none
    | none => none
   | _,_,_ => none
  | .builtin .append => match c.argTypes[0]?,c.argTypes[1]?,c.args[0]?,c.args[1]? with
   | some ty,some ty2,some s,some x => match Yz P ty with
    | some e => match Q5 P e with
     | some n => match Z9 P e with
      | some ag => match K8 P e with
       | some by_ => match ZO P e with
        | some z => match (z.cells.length == n) && ZI z.cells with
         | true => match P.underlying ty2 with
          | some (.slice _) => Cl base n by_ ag (g s) (g x) H
          | some .string => Da base n by_ ag (g s) (g x) H
          | _ => none
         | false => none
        | none => none
       | none => none
      | none => none
     | none => none
    | none => none
   | _,_,_,_ => none
  | _ => none
 | _ => none
theorem Qr5 (P : Program) (t : List V) (op : Op) : Bg P (env t) op = Wp P t op := by
 cases op <;> simp only [Bg,Wp,Lu,UP,LU,LV,LG,Mg,Kg,Lg,R5,Rl,Lk,Me,M8,MI,Mj,Pg,L5,Ln,M1,NX,MD,L1,LR,LD,N6,NY,Ly,MH,MN,MV,Bz,MW,M4,MQ,La,MZ,Mr,Mz,L9,MM,Mf,N3,Lb,L4,NT,N7,My] <;> rfl
theorem QkZ (P : Program) (t : List V) (H : Qa) (op : Op) : Wh P (env t) H op = Wa P t H op := by
 cases op <;> simp only [Wh,Wa,Lu,UP,LU,LV,LG,Mg,Kg,Lg,R5,Rl,Lk,Me,M8,MI,Mj,Pg,L5,Ln,M1,NX,MD,L1,LR,LD,N6,NY,Ly,MH,MN,MV,Bz,MW,M4,MQ,La,MZ,Mr,Mz,L9,MM,Mf,N3,Lb,L4,NT,N7,My] <;> rfl
theorem Ql0 (P : Program) (t : List V) (op : Op) : Bh P (env t) op = Vj P t op := by
 cases op <;> simp only [Bh,Vj,Lu,UP,LU,LV,LG,Mg,Kg,Lg,R5,Rl,Lk,Me,M8,MI,Mj,Pg,L5,Ln,M1,NX,MD,L1,LR,LD,N6,NY,Ly,MH,MN,MV,Bz,MW,M4,MQ,La,MZ,Mr,Mz,L9,MM,Mf,N3,Lb,L4,NT,N7,My] <;> rfl
theorem Qso (P : Program) (base : Nat) (t : List V) (H : Qa) (op : Op) : Ro P base (env t) H op = U5 P base t H op := by
 cases op <;> simp only [Ro,U5,Lu,UP,LU,LV,LG,Mg,Kg,Lg,R5,Rl,Lk,Me,M8,MI,Mj,Pg,L5,Ln,M1,NX,MD,L1,LR,LD,N6,NY,Ly,MH,MN,MV,Bz,MW,M4,MQ,La,MZ,Mr,Mz,L9,MM,Mf,N3,Lb,L4,NT,N7,My] <;> rfl
variable {α : Type} {β : Type}
noncomputable def bnd {α : Type} : Option V → (V → Option α) → Option α := shut Option.bind
theorem YL (x : Option V) (f : V → Option α) : bnd x f = x.bind f := by unfold bnd; rw [Zy]
def Qk9 (x : Option (V × Qa)) (f : V → Qa → Option α) : Option α := x.bind fun r => f r.1 r.2
noncomputable def beff {α : Type} : Option (V × Qa) → (V → Qa → Option α) → Option α := shut Qk9
theorem Wg (x : Option (V × Qa)) (f : V → Qa → Option α) : beff x f = x.bind fun r => f r.1 r.2 := by unfold beff; rw [Zy]; rfl
def QnD (x : Option (Out × Qa)) (f g : V → Qa → Option α) : Option α := x.bind fun r => Ki r.1 (fun v => f v r.2) (fun v => g v r.2)
noncomputable def bcall {α : Type} : Option (Out × Qa) → (V → Qa → Option α) → (V → Qa → Option α) → Option α := shut QnD
theorem UT (x : Option (Out × Qa)) (f g : V → Qa → Option α) : bcall x f g = x.bind fun r => Ki r.1 (fun v => f v r.2) (fun v => g v r.2) := by unfold bcall; rw [Zy]; rfl
noncomputable def bdef {α : Type} : Option (FuncId × List V) → (FuncId × List V → Option α) → Option α := shut Option.bind
theorem GX (x : Option (FuncId × List V)) (f : FuncId × List V → Option α) : bdef x f = x.bind f := by unfold bdef; rw [Zy]
noncomputable def gua {β : Type} : V → Bool → Option β → Option β → Option β := shut WS
theorem Br (v : V) (w : Bool) (a b : Option β) : gua v w a b = WS v w a b := by unfold gua; rw [Zy]
noncomputable def cnd {α : Type} : V → Option α → Option α → Option α := shut VT
theorem Uf (v : V) (a b : Option α) : cnd v a b = VT v a b := by unfold cnd; rw [Zy]
noncomputable def sch {α : Type} : Bool → Option α → Option α := shut chk
theorem WF (b : Bool) (a : Option α) : sch b a = chk b a := by unfold sch; rw [Zy]
noncomputable def sam : Option V → V → Bool := shut same
theorem PS : sam = same := Zy _
noncomputable def tlb : Option V → (V → Bool) → Bool := shut BB
theorem Df : tlb = BB := Zy _
noncomputable def oFn : V → List V → Option (FuncId × List V) := shut rFn
theorem Qn6 : oFn = rFn := Zy _
noncomputable def EI : V → Option V := shut Ep
theorem QiP : EI = Ep := Zy _
def NR (call : Qh) (f : V) (args : List V) (H : Qa) : Option (Out × Qa) := (rFn f args).bind fun q => call q.1 q.2 H
noncomputable def D8 : Qh → V → List V → Qa → Option (Out × Qa) := shut NR
theorem DJ : D8 = NR := Zy _
def Zt (n : Nat) (t : Ts) : Operand → V
 | .tmp i => match Nat.blt i n with
  | true => J8 i t
  | false => .junk
 | .const v => ofValue v
 | .global _ => .junk
 | .func f => .fn f []
theorem J5 (n : Nat) (t : Ts) : env (tl n t) = Zt n t := by
 funext x
 cases x with
 | tmp i =>
  simp only [env,Zt,List.getD_eq_getElem?_getD,MY]
  by_cases h : i < n
  ·have : Nat.blt i n = true := by rw [Nat.blt_eq]; exact h
   simp [h,this]
  ·have : Nat.blt i n = false := by
    cases hb : Nat.blt i n with
    | false => rfl
    | true => rw [Nat.blt_eq] at hb; exact absurd hb h
   simp [h,this]
 | _ => rfl
def aliasOf (o : Oper) : Option Operand :=
 match o.guard with
 | some _ => none
 | none => match o.op with
  | .move x | .assign x => some x
  | _ => none
noncomputable def guaK {β : Type} (ops : List Oper) (g : Operand → V) (o : Oper) (a b : Option β) : Option β :=
 match o.guard with
 | none => a
 | some (j,want) => match ops[j]? with
  | none => b
  | some oj => match oj.dst with
   | none => b
   | some d => gua (g (.tmp d)) want a b
noncomputable def callX (call : Qh) (g : Operand → V) (H : Qa) : Op → Option (Out × Qa)
 | .call c => match c.callee with
  | .value f => match f with
   | .func i => call i (Vi g c.args.toList) H
   | f => D8 call (g f) (Vi g c.args.toList) H
  | _ => none
 | _ => none
noncomputable def Gb (g : Operand → V) : Op → Option V
 | .panic x => EI (g x)
 | .call c => match c.callee with
  | .builtin .panic => match c.args[0]? with
   | some x => EI (g x)
   | none => none
  | _ => none
 | _ => none
noncomputable def Ah (g : Operand → V) : Op → Option (FuncId × List V)
 | .defer c => match c.callee with
  | .value f => oFn (g f) (Vi g c.args.toList)
  | _ => none
 | _ => none
section
variable (P : Program) (base : Nat) (own : Bool) (call : Qh) (ops : List Oper) (n : Nat) (k : KC α)
noncomputable def JR : List Oper → Ts → Qa → Ds → Option α
 | [],t,H,d => k .normal t H d
 | o :: rest,t,H,d => match aliasOf o with
  | some x => JR rest (ZU t o.dst (Zt n t x)) H d
  | none => match kindOf P own ops o.dst o.op with
   | .defer => match o.guard with
    | none => bdef (Ah (Zt n t) o.op) fun r => JR rest (ZU t o.dst (.tup [])) H (r :: d)
    | some _ => none
   | .pure => bnd (guaK ops (Zt n t) o (Bg P (Zt n t) o.op) (some (.tup []))) fun v => JR rest (ZU t o.dst v) H d
   | .lit => bnd (guaK ops (Zt n t) o (Bh P (Zt n t) o.op) (some (.tup []))) fun v => JR rest (ZU t o.dst v) H d
   | .load => bnd (guaK ops (Zt n t) o (Wh P (Zt n t) H o.op) (some (.tup []))) fun v => JR rest (ZU t o.dst v) H d
   | .eff | .fresh => beff (guaK ops (Zt n t) o (Ro P base (Zt n t) H o.op) (some (.tup [],H))) fun v H' => JR rest (ZU t o.dst v) H' d
   | .call => bcall (guaK ops (Zt n t) o (callX call (Zt n t) H o.op) (some (.ret (.tup []),H))) (fun v H' => JR rest (ZU t o.dst v) H' d) (fun v H' => k (.pan v) t H' d)
   | .panic => match o.guard with
    | none => bnd (Gb (Zt n t) o.op) fun v => k (.pan v) t H d
    | some _ => none
   | .none => none
noncomputable def chkE (ms : List Nat) (i : Nat) (op : Op) (g : Operand → V) (v : V) : List (Nat × Qa) → Option β → Option β
 | [],a => a
 | (e,H) :: r,a => match ahead ms i e with
  | true => chkE ms i op g v r a
  | false => sch (sam (Wh P g H op) v) (chkE ms i op g v r a)
def GL (ms : List Nat) (i : Nat) : List (Nat × Qa) → Bool
 | [] => false
 | (e,H) :: r => match ahead ms i e with
  | true => GL ms i r
  | false => true
noncomputable def Eb (ms : List Nat) (i : Nat) (op : Op) (g : Operand → V) (es : List (Nat × Qa)) (x : Option V) : Option V :=
 match GL ms i es with
 | false => x
 | true => bnd x fun v => chkE P ms i op g v es (some v)
noncomputable def BW (ms : List Nat) (p : Nat) (es : List (Nat × Qa)) : Nat → List Oper → Ts → Qa → Bool
 | _,[],_,_ => true
 | i,o :: rest,t,H =>
  match ahead ms i p with
  | true => BW ms p es (i + 1) rest t H
  | false => match kindOf P own ops o.dst o.op with
   | .pure => tlb (guaK ops (Zt n t) o (Bg P (Zt n t) o.op) (some (.tup []))) fun v => BW ms p es (i + 1) rest (ZU t o.dst v) H
   | .lit => tlb (guaK ops (Zt n t) o (Bh P (Zt n t) o.op) (some (.tup []))) fun v => BW ms p es (i + 1) rest (ZU t o.dst v) H
   | .load => tlb (guaK ops (Zt n t) o (Eb P ms i o.op (Zt n t) es (Wh P (Zt n t) H o.op)) (some (.tup []))) fun v => BW ms p es (i + 1) rest (ZU t o.dst v) H
   | _ => false
structure LdX where
 i : Nat
 op : Op
 g : Operand → V
 v : V
noncomputable def chkL (ms : List Nat) (j : Nat) (H : Qa) : List LdX → Option β → Option β
 | [],a => a
 | l :: r,a => match ahead ms j l.i with
  | true => chkL ms j H r a
  | false => sch (sam (Wh P l.g H l.op) l.v) (chkL ms j H r a)
def Pr (ms : List Nat) (p : Nat) : Nat → List Oper → Bool
 | _,[] => true
 | i,_ :: r => match ahead ms i p with
  | true => Pr ms p (i + 1) r
  | false => false
noncomputable def chkT (ms : List Nat) (p : Nat) (es : List (Nat × Qa)) (i : Nat) (rest : List Oper) (t : Ts) (H : Qa) (a : Option β) : Option β :=
 match Pr ms p i rest with
 | true => a
 | false => sch (BW P own ops n ms p es i rest t H) a
noncomputable def Jq (t0 : Ts) (ms : List Nat) : Nat → List Oper → List LdX → List (Nat × Qa) → Ts → Qa → Ds → Option α
 | _,[],_,_,t,H,d => k .normal t H d
 | i,o :: rest,ls,es,t,H,d => match aliasOf o with
  | some x => Jq t0 ms (i + 1) rest ls es (ZU t o.dst (Zt n t x)) H d
  | none => match kindOf P own ops o.dst o.op with
   | .pure => bnd (guaK ops (Zt n t) o (Bg P (Zt n t) o.op) (some (.tup []))) fun v => Jq t0 ms (i + 1) rest ls es (ZU t o.dst v) H d
   | .lit => bnd (guaK ops (Zt n t) o (Bh P (Zt n t) o.op) (some (.tup []))) fun v => Jq t0 ms (i + 1) rest ls es (ZU t o.dst v) H d
   | .load => match later P own ops ms i with
    | true => bnd (guaK ops (Zt n t) o (Eb P ms i o.op (Zt n t) es (Wh P (Zt n t) H o.op)) (some (.tup []))) fun v => Jq t0 ms (i + 1) rest ls es (ZU t o.dst v) H d
    | false => match o.guard with
     | none => bnd (Wh P (Zt n t) H o.op) fun v => chkE P ms i o.op (Zt n t) v es (Jq t0 ms (i + 1) rest ({ i,op := o.op,g := Zt n t,v } :: ls) es (ZU t o.dst v) H d)
     | some _ => none
   | .eff | .fresh => beff (guaK ops (Zt n t) o (Ro P base (Zt n t) H o.op) (some (.tup [],H))) fun v H' => chkL P ms i H' ls (Jq t0 ms (i + 1) rest ls ((i,H) :: es) (ZU t o.dst v) H' d)
   | .call => bcall (guaK ops (Zt n t) o (callX call (Zt n t) H o.op) (some (.ret (.tup []),H)))
     (fun v H' => chkL P ms i H' ls (Jq t0 ms (i + 1) rest ls ((i,H) :: es) (ZU t o.dst v) H' d))
     (fun v H' => chkT P own ops n ms i es (i + 1) rest t H (k (.pan v) (VG ops t0) H' d))
   | .panic => match o.guard with
    | none => bnd (Gb (Zt n t) o.op) fun v => chkT P own ops n ms i es (i + 1) rest t H (k (.pan v) (VG ops t0) H d)
    | some _ => none
   | .defer | .none => none
end
noncomputable def lim (f : Nat → Option α) : Option α := by
 classical exact if h : ∃ x n,f n = some x then some (Classical.choose h) else none
def N1 (f : Nat → Option α) : Prop := ∀ n x,f n = some x → f (n + 1) = some x
theorem N1.le {f : Nat → Option α} (h : N1 f) {n m : Nat} (hnm : n ≤ m) {x : α} (hx : f n = some x) : f m = some x := by
 induction hnm with
 | refl => exact hx
 | step _ ih => exact h _ _ ih
theorem Vf {f : Nat → Option α} {x : α} (h : lim f = some x) : ∃ n,f n = some x := by
 unfold lim at h
 split at h
 ·rename_i hx
  injection h with h
  obtain ⟨n,hn⟩ := Classical.choose_spec hx
  exact ⟨n,by rw [hn,h]⟩
 ·simp at h
theorem UQ {f : Nat → Option α} (hm : N1 f) {n : Nat} {x : α} (h : f n = some x) : lim f = some x := by
 have hx : ∃ x n,f n = some x := ⟨x,n,h⟩
 unfold lim
 rw [dif_pos hx]
 obtain ⟨m,hc⟩ := Classical.choose_spec hx
 have h1 := hm.le (Nat.le_max_left n m) h
 have h2 := hm.le (Nat.le_max_right n m) hc
 rw [h1] at h2
 injection h2 with h2
 rw [h2]
theorem A6 {x y : Option α} (h1 : ∀ a,x = some a → y = some a) (h2 : ∀ a,y = some a → x = some a) : x = y := by
 cases x with
 | some a => rw [h1 a rfl]
 | none => cases y with
  | some b => exact h2 b rfl
  | none => rfl
noncomputable def Qp (f : Ts → Qa → Ds → (Ts → Qa → Ds → Option α) → Option α) (t : Ts) (H : Qa) (d : Ds) : Option α := lim fun n => iter f n t H d
open Classical in
noncomputable def Nc (H H' : Qa) (x : Option α) : Option α := if H = H' then x else none
noncomputable def Mk {α : Type} : Qa → Qa → Option α → Option α := shut Nc
theorem Mn (H H' : Qa) (x : Option α) : Mk H H' x = Nc H H' x := by unfold Mk; rw [Zy]
theorem Qrg {H H' : Qa} {x : Option α} {y : α} (h : Mk H H' x = some y) : H = H' ∧ x = some y := by
 rw [Mn] at h
 unfold Nc at h
 split at h
 ·exact ⟨by assumption,h⟩
 ·cases h
@[simp] theorem Qvo (H : Qa) (x : Option α) : Mk H H x = x := by rw [Mn]; simp [Nc]
noncomputable def NQ (P : Program) (base : Nat) (own : Bool) (call : Qh) (ops : List Oper) (i n : Nat) (k : KC α) (t : Ts) (H : Qa) (d : Ds) : KC α := fun e t' H' d' => match e with
 | .normal => JR P base own call (Q2 ops i) n (fun e2 t2 H2 d2 => match e2 with
  | .normal => Mk H' H2 (k .normal t' H' d')
  | _ => none) (GY (Q2 ops i) i) t H d
 | _ => none
noncomputable def xC (P : Program) (base : Nat) (own : Bool) (ks : Ks) (call : Qh) (n : Nat) : Code → KC α → Ts → Qa → Ds → Option α
 | .skip,k,t,H,d | .label _,k,t,H,d => k .normal t H d
 | .region _ ops draw,k,t,H,d =>
  match draw with
  | true => match Wz P own ops.toList with
   | true => Jq P base own call ops.toList n k t (Yv ops.toList []) 0 ops.toList [] [] t H d
   | false => match Gk P own ops.toList with
    | some i => Jq P base own call (Q2 ops.toList i) n (NQ P base own call ops.toList i n k t H d) t (Yv (Q2 ops.toList i) []) 0 (Q2 ops.toList i) [] [] t H d
    | none => none
  | false => JR P base own call ops.toList n k ops.toList t H d
 | .seq a b,k,t,H,d => xC P base own ks call n a (Qe (fun _ t => xC P base own ks call n b k (Qd ks b t)) k) t H d
 | .cond c a b,k,t,H,d => cnd (Zt n t c) (xC P base own ks call n a k t H d) (xC P base own ks call n b k t H d)
 | .block id b,k,t,H,d => xC P base own ks call n b (Qc id k) t H d
 | .loop b,k,t,H,d => Qp (fun t H d again => xC P base own ks call n b (Qf ks b again k) t H d) (Qd ks b t) H d
 | .scope b,k,t,H,d => xC P base own ks call n b k t H d
 | .exit id,k,t,H,d => k (.exit id) t H d
 | .ret,k,t,H,d => k .ret t H d
 | _,_,_,_,_ => none
section
variable {P : Program} {base : Nat} {own : Bool} {call : Qh} {ops : List Oper} {n : Nat} {k : KC α}
theorem QiZ (t : Ts) (o : Oper) (a b : Option β) : guaK ops (Zt n t) o a b = YO ops (tl n t) o a b := by
 unfold guaK YO
 cases hg : o.guard with
 | none => rfl
 | some jw =>
  obtain ⟨j,want⟩ := jw
  simp only
  cases hj : ops[j]? with
  | none => simp
  | some oj =>
   simp only [Option.bind_some]
   cases hd : oj.dst with
   | none => rfl
   | some d => simp only [hd]; rw [Br,← J5]; rfl
theorem GU {t : Ts} {op : Op} : Bg P (Zt n t) op = Wp P (tl n t) op := by rw [← J5,Qr5]
theorem GC {t : Ts} {op : Op} : Bh P (Zt n t) op = Vj P (tl n t) op := by rw [← J5,Ql0]
theorem BE {t : Ts} {H : Qa} {op : Op} : Wh P (Zt n t) H op = Wa P (tl n t) H op := by rw [← J5,QkZ]
theorem Mp {t : Ts} {H : Qa} {op : Op} : Ro P base (Zt n t) H op = U5 P base (tl n t) H op := by rw [← J5,Qso]
theorem TO {t : Ts} {H : Qa} {op : Op} {r : Out × Qa} (h : callX call (Zt n t) H op = some r) : ((WQ (tl n t) op).bind fun r => call r.1 r.2 H) = some r := by
 cases op <;> simp only [callX] at h <;> (try (simp at h; done))
 rename_i c
 simp only [WQ]
 split at h
 ·rename_i f hc
  simp only [hc]
  split at h
  ·rw [← J5,UP] at h
   simp only [env,List.append_nil,Option.bind_some]
   exact h
  ·rw [DJ] at h
   unfold NR rFn at h
   rw [← J5,UP] at h
   exact h
 ·simp at h
theorem XW {t : Ts} {op : Op} : Gb (Zt n t) op = Wi (tl n t) op := by
 rw [← J5]
 cases op <;> (try simp only [Gb,Wi,QiP,Ep]) <;> rfl
theorem QmA {t : Ts} {op : Op} : Ah (Zt n t) op = Nq (tl n t) op := by
 rw [← J5]
 cases op <;> (try simp only [Ah,Nq,Qn6,rFn,UP]) <;> rfl
theorem Dj {o : Oper} {x : Operand} (h : aliasOf o = some x) : o.guard = none ∧ (o.op = .move x ∨ o.op = .assign x) := by
 unfold aliasOf at h
 split at h
 ·simp at h
 ·rename_i hg
  refine ⟨hg,?_⟩
  split at h
  ·injection h with h; subst h; exact .inl ‹_›
  ·injection h with h; subst h; exact .inr ‹_›
  ·simp at h
theorem A2 {o : Oper} {x : Operand} (h : aliasOf o = some x) : kindOf P own ops o.dst o.op = .pure := by
 obtain ⟨_,h | h⟩ := Dj h <;> rw [h] <;> rfl
theorem QcB {o : Oper} {x : Operand} {t : Ts} (h : aliasOf o = some x) : YO ops (tl n t) o (Wp P (tl n t) o.op) (some (.tup [])) = some (Zt n t x) := by
 obtain ⟨hg,h | h⟩ := Dj h <;> unfold YO <;> simp only [hg,h,Wp,G6] <;> rw [J5]
theorem Yg {γ δ : Type} {x : Option γ} {f : γ → Option δ} {y : δ} (h : x.bind f = some y) : ∃ a,x = some a ∧ f a = some y := Option.bind_eq_some_iff.1 h
theorem Y8 {t : Ts} {o : Oper} {a a' b : Option β} {x : β} (ha : ∀ x,a = some x → a' = some x) (h : guaK ops (Zt n t) o a b = some x) : YO ops (tl n t) o a' b = some x := by
 rw [QiZ] at h
 unfold YO at h ⊢
 cases hg : o.guard with
 | none => simp only [hg] at h ⊢; exact ha _ h
 | some jw =>
  obtain ⟨j,want⟩ := jw
  simp only [hg] at h ⊢
  cases hd : (ops[j]?).bind (·.dst) with
  | none => simp only [hd] at h ⊢; exact h
  | some d =>
   simp only [hd] at h ⊢
   generalize (tl n t).getD d .junk = y at h ⊢
   cases y with
   | bool c => simp only [WS] at h ⊢; split <;> simp_all
   | tup vs => simp only [WS] at h ⊢; exact h
   | _ => simp [WS] at h
theorem WL : ∀ (l : List Oper) {t : Ts} {H : Qa} {d : Ds} {x : α},JR P base own call ops n k l t H d = some x → KG P base own call ops n k l t H d = some x
 | [],t,H,d,x,h => h
 | o :: rest,t,H,d,x,h => by
  simp only [JR] at h
  simp only [KG]
  split at h
  ·rename_i y hy
   simp only [A2 hy,QcB hy,Option.bind_some]
   exact WL rest h
  ·split at h <;> rename_i hk <;> (try simp only [hk])
   ·split at h
    ·rename_i hg
     rw [GX] at h
     obtain ⟨r,h1,h2⟩ := Yg h
     rw [QmA] at h1
     simp only [hg,Option.isNone_none,if_true]
     rw [h1]
     exact WL rest h2
    ·simp at h
   ·rw [YL] at h
    obtain ⟨v,h1,h2⟩ := Yg h
    rw [Y8 (fun x hx => by rw [← GU]; exact hx) h1]
    exact WL rest h2
   ·rw [YL] at h
    obtain ⟨v,h1,h2⟩ := Yg h
    rw [Y8 (fun x hx => by rw [← GC]; exact hx) h1]
    exact WL rest h2
   ·rw [YL] at h
    obtain ⟨v,h1,h2⟩ := Yg h
    rw [Y8 (fun x hx => by rw [← BE]; exact hx) h1]
    exact WL rest h2
   ·rw [Wg] at h
    obtain ⟨v,h1,h2⟩ := Yg h
    rw [Y8 (fun x hx => by rw [← Mp]; exact hx) h1]
    exact WL rest h2
   ·rw [Wg] at h
    obtain ⟨v,h1,h2⟩ := Yg h
    rw [Y8 (fun x hx => by rw [← Mp]; exact hx) h1]
    exact WL rest h2
   ·rw [UT] at h
    obtain ⟨r,h1,h2⟩ := Yg h
    rw [Y8 (fun x hx => TO hx) h1]
    simp only [Option.bind_some]
    obtain ⟨r,H'⟩ := r
    cases r with
    | ret v => exact WL rest h2
    | pan v => exact h2
   ·split at h
    ·rename_i hg
     rw [YL] at h
     obtain ⟨v,h1,h2⟩ := Yg h
     rw [XW] at h1
     unfold YO
     simp only [hg,h1,Option.map_some,Option.bind_some]
     exact h2
    ·simp at h
   ·simp at h
theorem AC {b : Bool} {a : Option β} {x : β} (h : sch b a = some x) : b = true ∧ a = some x := by rw [WF] at h; exact VD h
theorem QeR {a a' : Option V} {v : V} (ha : ∀ x,a = some x → a' = some x) (h : same a v = true) : same a' v = true := by
 cases a with
 | none => simp [same] at h
 | some y => rw [ha y rfl]; exact h
theorem P4 {ms : List Nat} {i : Nat} {op : Op} {t : Ts} {v : V} : ∀ {es : List (Nat × Qa)} {a : Option β} {x : β},chkE P ms i op (Zt n t) v es a = some x → Jo P ms i op (tl n t) v es = true ∧ a = some x
 | [],a,x,h => ⟨rfl,h⟩
 | (e,H) :: r,a,x,h => by
  simp only [chkE] at h
  simp only [Jo]
  split at h
  ·rename_i ha
   obtain ⟨h1,h2⟩ := P4 h
   exact ⟨by rw [ha,h1]; rfl,h2⟩
  ·obtain ⟨h0,h⟩ := AC h
   obtain ⟨h1,h2⟩ := P4 h
   rw [PS,BE] at h0
   exact ⟨by rw [h1,QeR (fun x hx => BA hx) h0]; simp,h2⟩
theorem QhB {ms : List Nat} {i : Nat} {op : Op} {t : List V} {v : V} : ∀ {es : List (Nat × Qa)},GL ms i es = false → Jo P ms i op t v es = true
 | [],h => rfl
 | (e,H) :: r,h => by
  simp only [GL] at h
  simp only [Jo]
  split at h
  ·rename_i ha; rw [ha,QhB h]; rfl
  ·simp at h
theorem Qcw {ms : List Nat} {i : Nat} {op : Op} {t : Ts} {es : List (Nat × Qa)} {H : Qa} {v : V} (h : Eb P ms i op (Zt n t) es (Wh P (Zt n t) H op) = some v) :
  ((Wa P (tl n t) H op).bind fun v => chk (Jo P ms i op (tl n t) v es) (some v)) = some v := by
 unfold Eb at h
 split at h
 ·rename_i he
  rw [BE] at h
  rw [h]
  simp only [Option.bind_some]
  rw [QhB he]; rfl
 ·rw [YL] at h
  obtain ⟨u,h1,h2⟩ := Yg h
  obtain ⟨h3,h4⟩ := P4 h2
  injection h4 with h4; subst h4
  rw [BE] at h1
  rw [h1]
  simp only [Option.bind_some]
  rw [h3]; rfl
theorem N5 {ms : List Nat} {p : Nat} {es : List (Nat × Qa)} : ∀ (l : List Oper) {i : Nat} {t : Ts} {H : Qa},BW P own ops n ms p es i l t H = true → Kr P own ops n ms p es i l t H = true
 | [],i,t,H,h => rfl
 | o :: rest,i,t,H,h => by
  simp only [BW] at h
  simp only [Kr]
  split at h
  ·rename_i ha; rw [if_pos ha]; exact N5 rest h
  ·rename_i ha
   rw [if_neg (by simp [ha])]
   split at h <;> rename_i hk <;> (try simp only [hk])
   ·rw [Df] at h
    obtain ⟨v,h1,h2⟩ := RH h
    rw [Y8 (fun x hx => by rw [← GU]; exact hx) h1]
    exact N5 rest h2
   ·rw [Df] at h
    obtain ⟨v,h1,h2⟩ := RH h
    rw [Y8 (fun x hx => by rw [← GC]; exact hx) h1]
    exact N5 rest h2
   ·rw [Df] at h
    obtain ⟨v,h1,h2⟩ := RH h
    rw [Y8 (fun x hx => Qcw hx) h1]
    exact N5 rest h2
   ·simp at h
inductive LdsR (n : Nat) : List LdX → List Ld → Prop
 | nil : LdsR n [] []
 | cons {l l'} {i : Nat} {op : Op} {t : Ts} {v : V} : LdsR n l l' → LdsR n ({ i,op,g := Zt n t,v } :: l) ({ i,op,t := tl n t,v } :: l')
theorem DR {ms : List Nat} {j : Nat} {H : Qa} {ls : List LdX} {ls' : List Ld} (hl : LdsR n ls ls') : ∀ {a : Option β} {x : β},chkL P ms j H ls a = some x → Kp P ms j H ls' = true ∧ a = some x := by
 induction hl with
 | nil => exact fun {a x} h => ⟨rfl,h⟩
 | cons hl ih =>
  intro a x h
  simp only [chkL] at h
  simp only [Kp]
  split at h
  ·rename_i ha
   obtain ⟨h1,h2⟩ := ih h
   exact ⟨by rw [ha,h1]; rfl,h2⟩
  ·obtain ⟨h0,h⟩ := AC h
   obtain ⟨h1,h2⟩ := ih h
   rw [PS,BE] at h0
   exact ⟨by rw [h1,QeR (fun x hx => BA hx) h0]; simp,h2⟩
theorem Qhn {ms : List Nat} {p : Nat} {es : List (Nat × Qa)} {t : Ts} {H : Qa} : ∀ {l : List Oper} {i : Nat},Pr ms p i l = true → Kr P own ops n ms p es i l t H = true
 | [],i,h => rfl
 | o :: r,i,h => by
  simp only [Pr] at h
  simp only [Kr]
  split at h
  ·rename_i ha; rw [if_pos ha]; exact Qhn h
  ·simp at h
theorem QcH {ms : List Nat} {p : Nat} {es : List (Nat × Qa)} {i : Nat} {rest : List Oper} {t : Ts} {H : Qa} {a : Option β} {x : β} (h : chkT P own ops n ms p es i rest t H a = some x) :
  chk (Kr P own ops n ms p es i rest t H) a = some x := by
 unfold chkT at h
 split at h
 ·rename_i ha; rw [Qhn ha]; exact h
 ·obtain ⟨h1,h2⟩ := AC h
  rw [N5 _ h1]; exact h2
theorem K6 {t0 : Ts} {ms : List Nat} : ∀ (l : List Oper) {i : Nat} {ls : List LdX} {ls' : List Ld} {es : List (Nat × Qa)} {t : Ts} {H : Qa} {d : Ds} {x : α},LdsR n ls ls' →
  Jq P base own call ops n k t0 ms i l ls es t H d = some x → K0 P base own call ops n k t0 ms i l ls' es t H d = some x
 | [],i,ls,ls',es,t,H,d,x,hl,h => h
 | o :: rest,i,ls,ls',es,t,H,d,x,hl,h => by
  simp only [Jq] at h
  simp only [K0]
  split at h
  ·rename_i y hy
   simp only [A2 hy,QcB hy,Option.bind_some]
   exact K6 rest hl h
  ·split at h <;> rename_i hk <;> (try simp only [hk])
   ·rw [YL] at h
    obtain ⟨v,h1,h2⟩ := Yg h
    rw [Y8 (fun x hx => by rw [← GU]; exact hx) h1]
    exact K6 rest hl h2
   ·rw [YL] at h
    obtain ⟨v,h1,h2⟩ := Yg h
    rw [Y8 (fun x hx => by rw [← GC]; exact hx) h1]
    exact K6 rest hl h2
   ·split at h
    ·rename_i hla
     rw [if_pos hla]
     rw [YL] at h
     obtain ⟨v,h1,h2⟩ := Yg h
     rw [Y8 (fun x hx => Qcw hx) h1]
     exact K6 rest hl h2
    ·rename_i hla
     rw [if_neg (by simp [hla])]
     split at h
     ·rename_i hg
      simp only [hg,Option.isNone_none,if_true]
      rw [YL] at h
      obtain ⟨v,h1,h2⟩ := Yg h
      obtain ⟨h3,h4⟩ := P4 h2
      rw [BE] at h1
      rw [h1]
      simp only [Option.bind_some]
      rw [h3]
      exact K6 rest (.cons hl) h4
     ·simp at h
   ·rw [Wg] at h
    obtain ⟨v,h1,h2⟩ := Yg h
    rw [Y8 (fun x hx => by rw [← Mp]; exact hx) h1]
    obtain ⟨h3,h4⟩ := DR hl h2
    simp only [Option.bind_some]
    rw [h3]
    exact K6 rest hl h4
   ·rw [Wg] at h
    obtain ⟨v,h1,h2⟩ := Yg h
    rw [Y8 (fun x hx => by rw [← Mp]; exact hx) h1]
    obtain ⟨h3,h4⟩ := DR hl h2
    simp only [Option.bind_some]
    rw [h3]
    exact K6 rest hl h4
   ·rw [UT] at h
    obtain ⟨r,h1,h2⟩ := Yg h
    rw [Y8 (fun x hx => TO hx) h1]
    simp only [Option.bind_some]
    obtain ⟨r,H'⟩ := r
    cases r with
    | ret v =>
     simp only [Ki] at h2 ⊢
     obtain ⟨h3,h4⟩ := DR hl h2
     rw [h3]
     exact K6 rest hl h4
    | pan v => exact QcH h2
   ·split at h
    ·rename_i hg
     rw [YL] at h
     obtain ⟨v,h1,h2⟩ := Yg h
     rw [XW] at h1
     unfold YO
     simp only [hg,h1,Option.map_some,Option.bind_some]
     exact QcH h2
    ·simp at h
   ·simp at h
   ·simp at h
theorem V5 {ks : Ks} : ∀ (c : Code) {k : KC α} {t : Ts} {H : Qa} {d : Ds} {x : α},xC P base own ks call n c k t H d = some x →
  ∃ M e t' H' d',evC P base own ks call (JK P call M) c { t := tl n t,H,d } = some (e,{ t := tl n t',H := H',d := d' }) ∧ k e t' H' d' = some x
 | .skip,k,t,H,d,x,h | .label _,k,t,H,d,x,h => ⟨0,_,_,_,_,rfl,h⟩
 | .exit _,k,t,H,d,x,h | .ret,k,t,H,d,x,h => ⟨0,_,_,_,_,rfl,h⟩
 | .region _ ops draw,k,t,H,d,x,h => by
  simp only [xC] at h
  simp only [evC]
  cases draw with
  | true =>
   simp only [if_true] at h ⊢
   split at h
   ·rename_i hok
    simp only [if_pos hok]
    obtain ⟨e,t',H',d',h1,h2⟩ := JB (ls' := []) (es' := []) _ 0 rfl (fun e h => h) (fun l h => by simp at h) (K6 _ .nil h)
    exact ⟨0,e,t',H',d',h1,h2⟩
   ·rename_i hok
    rw [if_neg (by rw [hok]; simp)]
    split at h
    ·rename_i i hi
     obtain ⟨e,t',H',d',h1,h2⟩ := JB (ls' := []) (es' := []) _ 0 rfl (fun e h => h) (fun l h => by simp at h) (K6 _ .nil h)
     rw [List.drop_zero] at h1
     match e,h1,h2 with
     | .normal,h1,h2 =>
     simp only [NQ] at h2
     obtain ⟨e2,t2,H2,d2,h3,h4⟩ := Ju _ (WL _ h2)
     match e2,h3,h4 with
     | .normal,h3,h4 =>
     obtain ⟨rfl,h5⟩ := Qrg h4
     exact ⟨0,.normal,t',H',d',by simp only [Pw,hi,h1,h3,Option.bind_some,if_true],h5⟩
    ·cases h
  | false =>
   simp only [Bool.false_eq_true,if_false] at h ⊢
   obtain ⟨e,t',H',d',h1,h2⟩ := Ju _ (WL _ h)
   exact ⟨0,e,t',H',d',h1,h2⟩
 | .seq a b,k,t,H,d,x,h => by
  simp only [xC] at h
  simp only [evC]
  obtain ⟨m,e,t',H',d',h1,h2⟩ := V5 a h
  cases e with
  | normal =>
   simp only [Qe] at h2
   obtain ⟨n2,e2,t2,H2,d2,h3,h4⟩ := V5 b h2
   refine ⟨max m n2,e2,t2,H2,d2,?_,h4⟩
   rw [KA (Us (Nat.le_max_left m n2)) a h1]
   simp only [Option.bind_some]
   simp only [Re]
   exact KA (Us (Nat.le_max_right m n2)) b h3
  | _ => exact ⟨m,_,t',H',d',by rw [h1]; rfl,h2⟩
 | .cond c a b,k,t,H,d,x,h => by
  simp only [xC] at h
  simp only [evC]
  rw [Uf,← J5] at h
  unfold VT at h
  split at h
  ·rename_i hc; simp only [hc]; exact V5 a h
  ·rename_i hc; simp only [hc]; exact V5 b h
  ·simp at h
 | .block id b,k,t,H,d,x,h => by
  simp only [xC] at h
  simp only [evC]
  obtain ⟨m,e,t',H',d',h1,h2⟩ := V5 b h
  refine ⟨m,?_⟩
  rw [h1]
  simp only [Option.bind_some]
  cases e with
  | exit j =>
   simp only [Qc] at h2
   split at h2
   ·rename_i hj; simp only [if_pos hj]; exact ⟨_,_,_,_,rfl,h2⟩
   ·rename_i hj; simp only [if_neg hj]; exact ⟨_,_,_,_,rfl,h2⟩
  | _ => exact ⟨_,_,_,_,rfl,h2⟩
 | .loop b,k,t,H,d,x,h => by
  simp only [xC] at h
  have key : ∀ (m : Nat) {t : Ts} {H : Qa} {d : Ds},iter (fun t H d again => xC P base own ks call n b (Qf ks b again k) t H d) m (Qd ks b t) H d = some x →
    ∃ M e t' H' d',JK P call M base own ks b { t := tl n t,H,d } = some (e,{ t := tl n t',H := H',d := d' }) ∧ k e t' H' d' = some x := by
   intro m
   induction m with
   | zero => intro t H d h; simp [iter] at h
   | succ m ih =>
    intro t H d h
    simp only [iter] at h
    obtain ⟨m1,e,t',H',d',h1,h2⟩ := V5 b h
    cases e with
    | normal =>
     simp only [Qf] at h2
     obtain ⟨n2,e2,t2,H2,d2,h3,h4⟩ := ih h2
     refine ⟨max m1 n2 + 1,e2,t2,H2,d2,?_,h4⟩
     simp only [JK,Ww,Re]
     rw [KA (Us (Nat.le_max_left m1 n2)) b h1]
     simp only [Option.bind_some]
     exact Us (Nat.le_max_right m1 n2) _ _ _ _ _ _ h3
    | _ => exact ⟨m1 + 1,_,_,_,_,by simp only [JK,Ww,Re]; rw [h1]; rfl,h2⟩
  obtain ⟨N,hN⟩ := Vf h
  obtain ⟨M,e,t',H',d',h1,h2⟩ := key N hN
  exact ⟨M,e,t',H',d',h1,h2⟩
 | .scope b,k,t,H,d,x,h => by
  simp only [xC] at h
  simp only [evC]
  exact V5 b h
 | .goto _,k,t,H,d,x,h => by simp [xC] at h
 | .rangeFunc ..,k,t,H,d,x,h => by simp [xC] at h
end
end Go.Ev
end
section
namespace Go.Ev
variable {α : Type} {β : Type}
abbrev RR := Ex × Ts × Qa × Ds
def WX : KC RR := fun e t H d => some (e,t,H,d)
def WV (k : KC α) (r : RR) : Option α := k r.1 r.2.1 r.2.2.1 r.2.2.2
section
variable {P : Program} {base : Nat} {own : Bool} {call : Qh} {ops : List Oper} {n : Nat} {k : KC α}
theorem CJ (b : Bool) (a : Option β) (f : β → Option α) : (sch b a).bind f = sch b (a.bind f) := by
 rw [WF,WF]; cases b <;> rfl
theorem E1 {ms : List Nat} {i : Nat} {op : Op} {g : Operand → V} {v : V} {a : Option β} {f : β → Option α} : ∀ {es : List (Nat × Qa)},(chkE P ms i op g v es a).bind f = chkE P ms i op g v es (a.bind f)
 | [] => rfl
 | (e,H) :: r => by
  simp only [chkE]
  split
  ·exact E1
  ·rw [CJ,E1]
theorem Lv {ms : List Nat} {j : Nat} {H : Qa} {a : Option β} {f : β → Option α} : ∀ {ls : List LdX},(chkL P ms j H ls a).bind f = chkL P ms j H ls (a.bind f)
 | [] => rfl
 | l :: r => by
  simp only [chkL]
  split
  ·exact Lv
  ·rw [CJ,Lv]
theorem Qej {ms : List Nat} {p : Nat} {es : List (Nat × Qa)} {i : Nat} {rest : List Oper} {t : Ts} {H : Qa} {a : Option β} {f : β → Option α} :
  (chkT P own ops n ms p es i rest t H a).bind f = chkT P own ops n ms p es i rest t H (a.bind f) := by
 unfold chkT
 split
 ·rfl
 ·rw [CJ]
theorem Vq (x : Option V) (f : V → Option β) (g : β → Option α) : (bnd x f).bind g = bnd x fun v => (f v).bind g := by
 rw [YL,YL,Option.bind_assoc]
theorem Qnm (x : Option (FuncId × List V)) (f : FuncId × List V → Option β) (g : β → Option α) : (bdef x f).bind g = bdef x fun v => (f v).bind g := by
 rw [GX,GX,Option.bind_assoc]
theorem Fb (x : Option (V × Qa)) (f : V → Qa → Option β) (g : β → Option α) : (beff x f).bind g = beff x fun v H => (f v H).bind g := by
 rw [Wg,Wg,Option.bind_assoc]
theorem QdB (x : Option (Out × Qa)) (f h : V → Qa → Option β) (g : β → Option α) : (bcall x f h).bind g = bcall x (fun v H => (f v H).bind g) (fun v H => (h v H).bind g) := by
 rw [UT,UT,Option.bind_assoc]
 congr 1
 funext r
 cases r.1 <;> rfl
theorem Kv : ∀ (l : List Oper) {t : Ts} {H : Qa} {d : Ds},JR P base own call ops n k l t H d = (JR P base own call ops n WX l t H d).bind (WV k)
 | [],t,H,d => rfl
 | o :: rest,t,H,d => by
  simp only [JR]
  split
  ·exact Kv rest
  ·split
   ·split
    ·rw [Qnm]; simp only [Kv rest]
    ·rfl
   ·rw [Vq]; simp only [Kv rest]
   ·rw [Vq]; simp only [Kv rest]
   ·rw [Vq]; simp only [Kv rest]
   ·rw [Fb]; simp only [Kv rest]
   ·rw [Fb]; simp only [Kv rest]
   ·rw [QdB]; simp only [Kv rest]; rfl
   ·split
    ·rw [Vq]; rfl
    ·rfl
   ·rfl
theorem Kk {t0 : Ts} {ms : List Nat} : ∀ (l : List Oper) {i : Nat} {ls : List LdX} {es : List (Nat × Qa)} {t : Ts} {H : Qa} {d : Ds},
  Jq P base own call ops n k t0 ms i l ls es t H d = (Jq P base own call ops n WX t0 ms i l ls es t H d).bind (WV k)
 | [],i,ls,es,t,H,d => rfl
 | o :: rest,i,ls,es,t,H,d => by
  simp only [Jq]
  split
  ·exact Kk rest
  ·split
   ·rw [Vq]; simp only [Kk rest]
   ·rw [Vq]; simp only [Kk rest]
   ·split
    ·rw [Vq]; simp only [Kk rest]
    ·split
     ·rw [Vq]; simp only [Kk rest,E1]
     ·rfl
   ·rw [Fb]; simp only [Kk rest,Lv]
   ·rw [Fb]; simp only [Kk rest,Lv]
   ·rw [QdB]; simp only [Kk rest,Lv,Qej]; rfl
   ·split
    ·rw [Vq]; simp only [Qej]; rfl
    ·rfl
   ·rfl
   ·rfl
def Wu (P : Program) (D : Ts → Qa → Ds → Option RR) (ks : Ks) (b : Code) (k : KC α) (t : Ts) (H : Qa) (d : Ds) (again : Ts → Qa → Ds → Option α) : Option α := (D t H d).bind (WV (Qf ks b again k))
theorem R7 {D : Ts → Qa → Ds → Option RR} {ks : Ks} {b : Code} : ∀ (m : Nat) {t : Ts} {H : Qa} {d : Ds} {x : α},iter (Wu P D ks b k) m t H d = some x → iter (Wu P D ks b k) (m + 1) t H d = some x
 | 0,t,H,d,x,h => by simp [iter] at h
 | m + 1,t,H,d,x,h => by
  rw [iter] at h ⊢
  unfold Wu at h ⊢
  obtain ⟨r,h1,h2⟩ := Yg h
  rw [h1]
  simp only [Option.bind_some]
  obtain ⟨e,t',H',d'⟩ := r
  cases e with
  | normal => exact R7 m h2
  | _ => exact h2
theorem QfW {D : Ts → Qa → Ds → Option RR} {ks : Ks} {b : Code} : ∀ (m : Nat) {t : Ts} {H : Qa} {d : Ds},iter (Wu P D ks b k) m t H d = (iter (Wu P D ks b WX) m t H d).bind (WV k)
 | 0,t,H,d => rfl
 | m + 1,t,H,d => by
  rw [iter,iter]
  unfold Wu
  rw [Option.bind_assoc]
  congr 1
  funext r
  obtain ⟨e,t',H',d'⟩ := r
  cases e with
  | normal => exact QfW m
  | _ => rfl
theorem QsI {f : Nat → Option β} (hf : N1 f) (g : β → Option α) : lim (fun n => (f n).bind g) = (lim f).bind g := by
 refine A6 (fun a h => ?_) (fun a h => ?_)
 ·obtain ⟨n,hn⟩ := Vf h
  obtain ⟨y,h1,h2⟩ := Yg hn
  rw [UQ hf h1]; exact h2
 ·obtain ⟨y,h1,h2⟩ := Yg h
  obtain ⟨n,hn⟩ := Vf h1
  refine UQ (f := fun n => (f n).bind g) (n := n) (fun m x hx => ?_) (by simp only [hn]; exact h2)
  obtain ⟨z,h3,h4⟩ := Yg hx
  simp only [hf _ _ h3]; exact h4
theorem Wq {ks : Ks} : ∀ (c : Code) {α : Type} {k : KC α} {t : Ts} {H : Qa} {d : Ds},xC P base own ks call n c k t H d = (xC P base own ks call n c WX t H d).bind (WV k)
 | .skip,_,k,t,H,d | .label _,_,k,t,H,d | .exit _,_,k,t,H,d | .ret,_,k,t,H,d => rfl
 | .region _ ops draw,_,k,t,H,d => by
  simp only [xC]
  split
  ·split
   ·exact Kk _
   ·split
    ·rw [Kk,Kk (k := NQ _ _ _ _ _ _ _ WX _ _ _),Option.bind_assoc]
     congr 1
     funext r
     obtain ⟨e,t',H',d'⟩ := r
     cases e <;> simp only [WV,NQ,Option.bind_none]
     rw [Kv]
     conv => rhs; rw [Kv]
     rw [Option.bind_assoc]
     congr 1
     funext r
     obtain ⟨e2,t2,H2,d2⟩ := r
     cases e2 <;> simp only [WV,Option.bind_none]
     rw [Mn,Mn]
     unfold Nc
     split <;> rfl
    ·rfl
  ·exact Kv _
 | .seq a b,_,k,t,H,d => by
  simp only [xC]
  rw [Wq a,Wq a (k := Qe _ WX),Option.bind_assoc]
  congr 1
  funext r
  obtain ⟨e,t',H',d'⟩ := r
  cases e with
  | normal => exact Wq b
  | _ => rfl
 | .cond c a b,_,k,t,H,d => by
  simp only [xC]
  rw [Wq a,Wq b,Uf,Uf]
  unfold VT
  split <;> rfl
 | .block id b,_,k,t,H,d => by
  simp only [xC]
  rw [Wq b,Wq b (k := Qc id WX),Option.bind_assoc]
  congr 1
  funext r
  obtain ⟨e,t',H',d'⟩ := r
  cases e with
  | exit j => simp only [WV,Qc]; split <;> rfl
  | _ => rfl
 | .loop b,_,k,t,H,d => by
  have e1 : ∀ {γ : Type} (k : KC γ),(fun t H d again => xC P base own ks call n b (Qf ks b again k) t H d) = Wu P (fun t H d => xC P base own ks call n b WX t H d) ks b k := by
   intro γ k
   funext t H d again
   exact Wq b (k := Qf ks b again k)
  simp only [xC]
  rw [e1 k,e1 WX]
  unfold Qp
  rw [← QsI (fun m x h => R7 m h)]
  congr 1
  funext m
  exact QfW m
 | .scope b,_,k,t,H,d => by simp only [xC]; exact Wq b
 | .refuse _,_,k,t,H,d => rfl
 | .goto _,_,k,t,H,d => rfl
 | .rangeFunc ..,_,k,t,H,d => rfl
theorem QaK {ks : Ks} (b : Code) {k : KC α} : (fun t H d again => xC P base own ks call n b (Qf ks b again k) t H d) = Wu P (fun t H d => xC P base own ks call n b WX t H d) ks b k := by
 funext t H d again
 exact Wq b (k := Qf ks b again k)
theorem Zs {ks : Ks} (b : Code) (k : KC α) (t : Ts) (H : Qa) (d : Ds) : Qp (fun t H d again => xC P base own ks call n b (Qf ks b again k) t H d) t H d =
  xC P base own ks call n b (Qf ks b (fun t H d => Qp (fun t H d again => xC P base own ks call n b (Qf ks b again k) t H d) t H d) k) t H d := by
 rw [QaK b,Wq b (k := Qf ks b _ k)]
 refine A6 (fun x h => ?_) (fun x h => ?_)
 ·obtain ⟨m,hm⟩ := Vf h
  cases m with
  | zero => simp [iter] at hm
  | succ m =>
   rw [iter] at hm
   unfold Wu at hm
   obtain ⟨r,h1,h2⟩ := Yg hm
   simp only at h1
   rw [h1]
   simp only [Option.bind_some]
   obtain ⟨e,t',H',d'⟩ := r
   cases e with
   | normal => exact UQ (fun m x h => R7 m h) h2
   | _ => exact h2
 ·obtain ⟨r,h1,h2⟩ := Yg h
  obtain ⟨e,t',H',d'⟩ := r
  cases e with
  | normal =>
   obtain ⟨m,hm⟩ := Vf h2
   refine UQ (n := m + 1) (fun m x h => R7 m h) ?_
   rw [iter]
   unfold Wu
   simp only [h1,Option.bind_some]
   exact hm
  | _ =>
   refine UQ (n := 1) (fun m x h => R7 m h) ?_
   rw [iter]
   unfold Wu
   simp only [h1,Option.bind_some]
   exact h2
theorem Has.nil : Has call [] := fun y h => by simp at h
theorem Has.append {L M : List XT} : Has call (L ++ M) ↔ Has call L ∧ Has call M := by
 unfold Has
 exact ⟨fun h => ⟨fun y hy => h y (List.mem_append_left _ hy),fun y hy => h y (List.mem_append_right _ hy)⟩,fun ⟨h1,h2⟩ y hy => (List.mem_append.1 hy).elim (h1 y) (h2 y)⟩
theorem Qw.const (x : Option α) : Qw (fun _ => x) call := fun y h => ⟨[],Has.nil,fun _ _ => h⟩
theorem Qw.bind {f : Qh → Option β} {g : Qh → β → Option α} (hf : Qw f call) (hg : ∀ b,Qw (fun c => g c b) call) : Qw (fun c => (f c).bind (g c)) call := by
 intro x h
 obtain ⟨b,h1,h2⟩ := Yg h
 obtain ⟨L,l1,l2⟩ := hf b h1
 obtain ⟨M,m1,m2⟩ := hg b x h2
 refine ⟨L ++ M,Has.append.2 ⟨l1,m1⟩,fun c hc => ?_⟩
 obtain ⟨c1,c2⟩ := Has.append.1 hc
 simp only [l2 c c1,Option.bind_some]
 exact m2 c c2
theorem Qw.one (f : FuncId) (args : List V) (H : Qa) : Qw (fun c => c f args H) call := fun x h => ⟨[(f,args,H,x)],fun y hy => by simp at hy; subst hy; exact h,fun c hc => hc (f,args,H,x) (by simp)⟩
theorem Qw.ite {f g : Qh → Option α} (b : Bool) (hf : Qw f call) (hg : Qw g call) : Qw (fun c => if b = true then f c else g c) call := by
 cases b
 ·simpa using hg
 ·simpa using hf
theorem Qw.congr {f g : Qh → Option α} (h : ∀ c,f c = g c) (hf : Qw g call) : Qw f call := by
 have : f = g := funext h
 rw [this]; exact hf
theorem Qw.bnd {x : Qh → Option V} {f : Qh → V → Option α} (hx : Qw x call) (hf : ∀ v,Qw (fun c => f c v) call) : Qw (fun c => bnd (x c) (f c)) call :=
 Qw.congr (fun c => YL _ _) (Qw.bind hx hf)
theorem Qw.bdef {x : Option (FuncId × List V)} {f : Qh → FuncId × List V → Option α} (hf : ∀ v,Qw (fun c => f c v) call) : Qw (fun c => bdef x (f c)) call :=
 Qw.congr (fun c => GX _ _) (Qw.bind (Qw.const x) hf)
theorem Qw.beff {x : Option (V × Qa)} {f : Qh → V → Qa → Option α} (hf : ∀ v H,Qw (fun c => f c v H) call) : Qw (fun c => beff x (f c)) call :=
 Qw.congr (g := fun c => x.bind fun r => f c r.1 r.2) (fun c => Wg _ _) (Qw.bind (g := fun c r => f c r.1 r.2) (Qw.const x) (fun r => hf r.1 r.2))
theorem Qw.bcall {x : Qh → Option (Out × Qa)} {f g : Qh → V → Qa → Option α} (hx : Qw x call) (hf : ∀ v H,Qw (fun c => f c v H) call) (hg : ∀ v H,Qw (fun c => g c v H) call) : Qw (fun c => bcall (x c) (f c) (g c)) call := by
 refine Qw.congr (g := fun c => (x c).bind fun r => Ki r.1 (fun v => f c v r.2) (fun v => g c v r.2)) (fun c => UT _ _ _) (Qw.bind (g := fun c r => Ki r.1 (fun v => f c v r.2) (fun v => g c v r.2)) hx fun r => ?_)
 obtain ⟨r,H⟩ := r
 cases r with
 | ret v => exact hf v H
 | pan v => exact hg v H
theorem Qw.sch {f : Qh → Option α} (b : Bool) (hf : Qw f call) : Qw (fun c => sch b (f c)) call := by
 cases b
 ·exact Qw.congr (g := fun _ => none) (fun c => by rw [WF]; rfl) (Qw.const none)
 ·exact Qw.congr (fun c => by rw [WF]; rfl) hf
theorem Qw.chkE {ms : List Nat} {i : Nat} {op : Op} {g : Operand → V} {v : V} {f : Qh → Option α} (hf : Qw f call) : ∀ (es : List (Nat × Qa)),Qw (fun c => chkE P ms i op g v es (f c)) call
 | [] => hf
 | (e,H) :: r => by
  simp only [Ev.chkE]
  split
  ·exact Qw.chkE hf r
  ·exact Qw.sch _ (Qw.chkE hf r)
theorem Qw.chkL {ms : List Nat} {j : Nat} {H : Qa} {f : Qh → Option α} (hf : Qw f call) : ∀ (ls : List LdX),Qw (fun c => chkL P ms j H ls (f c)) call
 | [] => hf
 | l :: r => by
  simp only [Ev.chkL]
  split
  ·exact Qw.chkL hf r
  ·exact Qw.sch _ (Qw.chkL hf r)
theorem Qw.chkT {ms : List Nat} {p : Nat} {es : List (Nat × Qa)} {i : Nat} {rest : List Oper} {t : Ts} {H : Qa} {f : Qh → Option α} (hf : Qw f call) : Qw (fun c => chkT P own ops n ms p es i rest t H (f c)) call := by
 simp only [Ev.chkT]
 split
 ·exact hf
 ·exact Qw.sch _ hf
theorem Qw.guaK {g : Operand → V} {o : Oper} {a : Qh → Option β} {b : Option β} (ha : Qw a call) : Qw (fun c => guaK ops g o (a c) b) call := by
 simp only [Ev.guaK]
 split
 ·exact ha
 ·split
  ·exact Qw.const _
  ·split
   ·exact Qw.const _
   ·rename_i d _
    generalize g (.tmp d) = y
    cases y with
    | bool c0 =>
     refine Qw.congr (g := fun c => if (c0 == _) = true then a c else b) (fun c => by rw [Br]; rfl) (Qw.ite _ ha (Qw.const b))
    | tup vs => exact Qw.congr (fun c => by rw [Br]; rfl) (Qw.const b)
    | _ => exact Qw.congr (g := fun _ => none) (fun c => by rw [Br]; rfl) (Qw.const none)
theorem Qw.callX {g : Operand → V} {H : Qa} (op : Op) : Qw (fun c => callX c g H op) call := by
 cases op <;> (try exact Qw.const none)
 rename_i c0
 simp only [Ev.callX]
 split
 ·split
  ·exact Qw.one _ _ _
  ·refine Qw.congr (fun c => by rw [DJ]; rfl) (Qw.bind (f := fun _ => rFn _ _) (g := fun c q => c q.1 q.2 H) (Qw.const _) (fun q => Qw.one _ _ _))
 ·exact Qw.const none
theorem WR : ∀ (l : List Oper) {t : Ts} {H : Qa} {d : Ds},Qw (fun c => JR P base own c ops n k l t H d) call
 | [],t,H,d => Qw.const _
 | o :: rest,t,H,d => by
  simp only [JR]
  split
  ·exact WR rest
  ·split
   ·split
    ·exact Qw.bdef fun r => WR rest
    ·exact Qw.const _
   ·exact Qw.bnd (Qw.const _) fun v => WR rest
   ·exact Qw.bnd (Qw.const _) fun v => WR rest
   ·exact Qw.bnd (Qw.const _) fun v => WR rest
   ·exact Qw.beff fun v H => WR rest
   ·exact Qw.beff fun v H => WR rest
   ·exact Qw.bcall (Qw.guaK (Qw.callX _)) (fun v H => WR rest) (fun v H => Qw.const _)
   ·split
    ·exact Qw.const _
    ·exact Qw.const _
   ·exact Qw.const _
theorem WJ {t0 : Ts} {ms : List Nat} : ∀ (l : List Oper) {i : Nat} {ls : List LdX} {es : List (Nat × Qa)} {t : Ts} {H : Qa} {d : Ds},Qw (fun c => Jq P base own c ops n k t0 ms i l ls es t H d) call
 | [],i,ls,es,t,H,d => Qw.const _
 | o :: rest,i,ls,es,t,H,d => by
  simp only [Jq]
  split
  ·exact WJ rest
  ·split
   ·exact Qw.bnd (Qw.const _) fun v => WJ rest
   ·exact Qw.bnd (Qw.const _) fun v => WJ rest
   ·split
    ·exact Qw.bnd (Qw.const _) fun v => WJ rest
    ·split
     ·exact Qw.bnd (Qw.const _) fun v => Qw.chkE (WJ rest) _
     ·exact Qw.const _
   ·exact Qw.beff fun v H => Qw.chkL (WJ rest) _
   ·exact Qw.beff fun v H => Qw.chkL (WJ rest) _
   ·exact Qw.bcall (Qw.guaK (Qw.callX _)) (fun v H => Qw.chkL (WJ rest) _) (fun v H => Qw.const _)
   ·split
    ·exact Qw.const _
    ·exact Qw.const _
   ·exact Qw.const _
   ·exact Qw.const _
theorem Qw.app {f : Qh → Option RR} {k : Qh → KC α} (hf : Qw f call) (hk : ∀ e t H d,Qw (fun c => k c e t H d) call) : Qw (fun c => (f c).bind (WV (k c))) call :=
 Qw.bind (g := fun c r => WV (k c) r) hf (fun r => hk _ _ _ _)
theorem Uo {ks : Ks} : ∀ (c : Code) {k : Qh → KC α} {t : Ts} {H : Qa} {d : Ds},(∀ e t H d,Qw (fun c => k c e t H d) call) → Qw (fun cl => xC P base own ks cl n c (k cl) t H d) call
 | .skip,k,t,H,d,hk | .label _,k,t,H,d,hk | .exit _,k,t,H,d,hk | .ret,k,t,H,d,hk => hk _ _ _ _
 | .region _ ops draw,k,t,H,d,hk => by
  simp only [xC]
  split
  ·split
   ·exact Qw.congr (fun cl => Kk _) (Qw.app (WJ _) hk)
   ·split
    ·refine Qw.congr (fun cl => Kk _) (Qw.app (WJ _) fun e t' H' d' => ?_)
     cases e <;> simp only [NQ] <;> try exact Qw.const _
     refine Qw.congr (fun cl => Kv _) (Qw.app (WR _) fun e2 t2 H2 d2 => ?_)
     cases e2 <;> try exact Qw.const _
     simp only [Mn,Nc]
     split
     ·exact hk _ _ _ _
     ·exact Qw.const _
    ·exact Qw.const _
  ·exact Qw.congr (fun cl => Kv _) (Qw.app (WR _) hk)
 | .seq a b,k,t,H,d,hk => by
  simp only [xC]
  refine Uo a fun e t H d => ?_
  cases e with
  | normal => exact Uo b hk
  | _ => exact hk _ _ _ _
 | .cond c a b,k,t,H,d,hk => by
  simp only [xC]
  generalize Zt n t c = y
  have : ∀ (f g : Qh → Option α),Qw f call → Qw g call → Qw (fun cl => cnd y (f cl) (g cl)) call := by
   intro f g hf hg
   match y with
   | .bool true => exact Qw.congr (fun c => by rw [Uf]; rfl) hf
   | .bool false => exact Qw.congr (fun c => by rw [Uf]; rfl) hg
   | .junk | .int _ _ | .str _ | .nilptr | .ptr _ _ _ | .fptr _ | .nils | .emp | .vs _ | .rs _ _ _ _ _ | .fn _ _ | .nilfn | .niface | .iface _ _ | .agg _ | .tup _ | .nilmap | .mapr _ =>
    exact Qw.congr (g := fun _ => none) (fun c => by rw [Uf]; rfl) (Qw.const none)
  exact this _ _ (Uo a hk) (Uo b hk)
 | .block id b,k,t,H,d,hk => by
  simp only [xC]
  refine Uo b fun e t H d => ?_
  cases e with
  | exit j => simp only [Qc]; split <;> exact hk _ _ _ _
  | _ => exact hk _ _ _ _
 | .loop b,k,t,H,d,hk => by
  simp only [xC]
  intro x h
  have key : ∀ (m : Nat) {t : Ts} {H : Qa} {d : Ds},Qw (fun cl => iter (fun t H d again => xC P base own ks cl n b (Qf ks b again (k cl)) t H d) m t H d) call := by
   intro m
   induction m with
   | zero => intro t H d; exact Qw.const _
   | succ m ih =>
    intro t H d
    refine Qw.congr (fun cl => rfl) (Uo b (k := fun cl => Qf ks b (fun t H d => iter (fun t H d again => xC P base own ks cl n b (Qf ks b again (k cl)) t H d) m t H d) (k cl)) fun e t H d => ?_)
    cases e with
    | normal => exact ih
    | _ => exact hk _ _ _ _
  obtain ⟨m,hm⟩ := Vf h
  obtain ⟨L,l1,l2⟩ := key m x hm
  refine ⟨L,l1,fun cl hcl => UQ (n := m) (fun m x h => ?_) (l2 cl hcl)⟩
  rw [QaK b] at h ⊢
  exact R7 m h
 | .scope b,k,t,H,d,hk => by simp only [xC]; exact Uo b hk
 | .goto _,k,t,H,d,hk => Qw.const _
 | .refuse _,k,t,H,d,hk => Qw.const _
 | .rangeFunc ..,k,t,H,d,hk => Qw.const _
end
end Go.Ev
end
section
namespace Go.Ev
variable {T : ZT}
variable {α : Type} {β : Type}
noncomputable def rt : Bool → Nat → V → Qa → Option (Out × Qa) := shut Fl
theorem QcQ : rt = Fl := Zy _
noncomputable def pn : Bool → Nat → V → Qa → Option (Out × Qa) := shut Ap
theorem QsM : pn = Ap := Zy _
def QiX (x : Option (Bool × Qa)) (f : Qa → Option α) : Option α := x.bind fun r => f r.2
noncomputable def bdn {α : Type} : Option (Bool × Qa) → (Qa → Option α) → Option α := shut QiX
theorem QqQ (x : Option (Bool × Qa)) (f : Qa → Option α) : bdn x f = x.bind fun r => f r.2 := by unfold bdn; rw [Zy]; rfl
def Av (x : Option (Bool × Qa)) (f g : Qa → Option α) : Option α := x.bind fun r => match r.1 with
 | true => f r.2
 | false => g r.2
noncomputable def bdp {α : Type} : Option (Bool × Qa) → (Qa → Option α) → (Qa → Option α) → Option α := shut Av
theorem QmR (x : Option (Bool × Qa)) (f g : Qa → Option α) : bdp x f g = Av x f g := by unfold bdp; rw [Zy]
noncomputable def RA (P : Program) (n : Nat) (t : Ts) (H : Qa) : List ResultVar → (List V → Option α) → Option α
 | [],k => k []
 | .tmp i :: rs,k => RA P n t H rs fun vs => k (Zt n t (.tmp i) :: vs)
 | .cell a ty :: rs,k => match Z9 P ty with
  | some ag => match Q5 P ty with
   | some m => bnd (QF ag m H (Zt n t (.tmp a))) fun v => RA P n t H rs fun vs => k (v :: vs)
   | none => none
  | none => none
noncomputable def WO (P : Program) (dfr : Z3) (keep : Bool) (base n : Nat) (rs : List ResultVar) (t : Ts) : Ds → Option V → Qa → Option (Out × Qa)
 | [],m,H => match m with
  | none => RA P n t H rs fun vs => rt keep base (AH vs) H
  | some v => pn keep base v H
 | d :: ds,m,H => match m with
  | none => bdn (dfr d.1 d.2 none H) fun H' => WO P dfr keep base n rs t ds none H'
  | some v => bdp (dfr d.1 d.2 (some v) H) (fun H' => WO P dfr keep base n rs t ds none H') (fun H' => WO P dfr keep base n rs t ds (some v) H')
noncomputable def Zk (P : Program) (dfr : Z3) (keep : Bool) (base n : Nat) (rs : List ResultVar) : KC (Out × Qa) := fun e t H d =>
 match e with
 | .normal | .ret => WO P dfr keep base n rs t d none H
 | .pan v => WO P dfr keep base n rs t d (some v) H
 | .exit _ => none
noncomputable def BM (P : Program) (own : Bool) (ks : Ks) (keep : Bool) (call : Qh) (dfr : Z3) (c : Code) (rs : List ResultVar) (n : Nat) (args : List V) (H : Qa) : Option (Out × Qa) :=
 xC P 0 own ks call n c (Zk P dfr keep H.length n rs) (U6 0 args) H []
section
variable {P : Program}
theorem XK {n : Nat} {t : Ts} {H : Qa} : ∀ {rs : List ResultVar} {k : List V → Option α} {x : α},RA P n t H rs k = some x → Vl P (tl n t) H rs k = some x
 | [],k,x,h => h
 | .tmp i :: rs,k,x,h => by
  simp only [RA] at h
  simp only [Vl]
  have := XK h
  rw [← J5] at this
  exact this
 | .cell a ty :: rs,k,x,h => by
  simp only [RA] at h
  simp only [Vl]
  split at h
  ·rename_i ag ha
   split at h
   ·rename_i m hm
    rw [YL,← J5,Bz] at h
    obtain ⟨v,h1,h2⟩ := Yg h
    simp only [V0,ha,hm,Option.bind_some]
    rw [show (tl n t).getD a .junk = env (tl n t) (.tmp a) from rfl,h1]
    exact XK h2
   ·simp at h
  ·simp at h
theorem Rs {dfr : Z3} {keep : Bool} {base n : Nat} {rs : List ResultVar} {t : Ts} : ∀ {d : Ds} {m : Option V} {H : Qa} {x : Out × Qa},WO P dfr keep base n rs t d m H = some x → Vy P dfr keep base n rs t d m H = some x
 | [],none,H,x,h => by
  simp only [WO,QcQ] at h
  exact XK h
 | [],some v,H,x,h => by
  simp only [WO,QsM] at h
  exact h
 | d :: ds,none,H,x,h => by
  simp only [WO,QqQ] at h
  obtain ⟨r,h1,h2⟩ := Yg h
  simp only [Vy,h1,Option.bind_some]
  simp only [ite_self]
  exact Rs h2
 | d :: ds,some v,H,x,h => by
  simp only [WO,QmR] at h
  unfold Av at h
  obtain ⟨⟨b,H'⟩,h1,h2⟩ := Yg h
  simp only [Vy,h1,Option.bind_some]
  cases b with
  | true => exact Rs h2
  | false => exact Rs h2
def VL (b : Bool) (args : List V) : List V := match b with
 | true => args.map V.nrm
 | false => args
theorem Qrb (b : Bool) (args : List V) : (VL b args).length = args.length := by cases b <;> simp [VL]
theorem Qmb {S : Ctx} {b : Bool} {args : List V} {us : Array Value} (h : RelA S args us) : RelA S (VL b args) us := by
 cases b with
 | false => exact h
 | true =>
  obtain ⟨h1,h2⟩ := h
  refine ⟨by simpa [VL] using h1,fun j v u hv hu => ?_⟩
  simp only [VL,List.getElem?_map,Option.map_eq_some_iff] at hv
  obtain ⟨w,hw,rfl⟩ := hv
  exact AS (h2 j w u hw hu)
def Qac : V → Bool
 | .bool _ | .int _ _ | .str _ => true
 | _ => false
def XN (H : Qa) : V → Option (V × Qa)
 | .rs i ver sz' off len => match Q0 H i with
  | some (.row v sz ag cs) => if ver = v ∧ sz' = sz ∧ (off + len) * sz ≤ cs.length ∧ 0 < sz ∧ Zd ((cs.drop (off * sz)).take (len * sz)) = true ∧ ZI ((cs.drop (off * sz)).take (len * sz)) = true ∧ (ag = true ∨ sz = 1) then
    some (.vs (J0 sz ag len ((cs.drop (off * sz)).take (len * sz))),ZV H i .dead) else none
  | _ => none
 | v => if v.clean = true then some (v,H) else none
def mvL : List V → Qa → Option (List V × Qa)
 | [],H => some ([],H)
 | v :: vs,H => (XN H v).bind fun p => (mvL vs p.2).map fun q => (p.1 :: q.1,q.2)
def Jt (call : Qh) (f : FuncId) (args : List V) (H : Qa) : Option (Out × Qa) :=
 (mvL args H).bind fun p => call f p.1 p.2
def Fe (H : Qa) (r : Out × Qa) : Option (Out × Qa) := match r with
 | (.ret v,[]) => if v.clean = true then some (.ret v,H) else none
 | _ => none
theorem QjP {H H' : Qa} {r : Out × Qa} {o : Out} (h : Fe H r = some (o,H')) : ∃ v,r = (.ret v,[]) ∧ v.clean = true ∧ o = .ret v ∧ H' = H := by
 unfold Fe at h
 split at h
 ·split at h
  ·rename_i hp
   simp only [Option.some.injEq,Prod.mk.injEq] at h
   exact ⟨_,rfl,hp,h.1.symm,h.2.symm⟩
  ·cases h
 ·cases h
def JV (call : Qh) (f : FuncId) (args : List V) (H : Qa) : Option (Out × Qa) := (call f args []).bind (Fe H)
noncomputable def WE (P : Program) (h : Hint) (call : Qh) (dfr : Z3) (f : FuncId) (args : List V) (H : Qa) : Option (Out × Qa) :=
 match h.orc f with
 | some g => g call args H
 | none => match h.intr f with
 | some g => g args H
 | none => match P.funcs[f]? with
  | none => none
  | some fn => match fn.body with
   | none => none
   | some c => if args.length ≤ fn.ntmps then BM P (h.own f) (h.ks f) (h.keep f) call dfr c fn.results.toList fn.ntmps (VL (h.nrm f) args) H else none
noncomputable def WG (P : Program) (h : Hint) (call : Qh) (dfr : Z3) (f : FuncId) (args : List V) (H : Qa) : Option (Out × Qa) :=
 match h.lend f && !Zd args with
 | true => Jt call f args H
 | false => match h.iso f && (Zd args && !H.isEmpty) with
  | true => JV call f args H
  | false => WE P h call dfr f args H
theorem Qoo {call : Qh} {f : FuncId} {args : List V} {H : Qa} : Qw (fun c => Jt c f args H) call := by
 unfold Jt
 exact Qw.bind (f := fun _ => mvL args H) (Qw.const _) fun a => Qw.one _ _ _
theorem QrN {h : Hint} {call : Qh} {dfr : Z3} {f : FuncId} {args : List V} {H : Qa} : Qw (fun c => WE P h c dfr f args H) call := by
 unfold WE
 split
 ·rename_i g hg
  exact h.fine f g hg args H call
 ·split
  ·exact Qw.const _
  ·split
   ·exact Qw.const _
   ·split
    ·exact Qw.const _
    ·split
     ·exact Uo _ fun e t H d => Qw.const _
     ·exact Qw.const _
theorem AA {h : Hint} {call : Qh} {dfr : Z3} {f : FuncId} {args : List V} {H : Qa} : Qw (fun c => WG P h c dfr f args H) call := by
 unfold WG
 split
 ·exact Qoo
 ·split
  ·exact Qw.bind (f := fun c => c f args []) (Qw.one _ _ _) fun r => Qw.const _
  ·exact QrN
noncomputable def EVn (P : Program) (h : Hint) (dfr : Z3) : Nat → Qh
 | 0 => fun _ _ _ => none
 | n + 1 => WG P h (EVn P h dfr n) dfr
noncomputable def EV (P : Program) (h : Hint) (dfr : Z3) : Qh := fun f args H => lim fun n => EVn P h dfr n f args H
theorem Qc8 {h : Hint} {dfr : Z3} : ∀ (n : Nat) {f : FuncId} {args : List V} {H : Qa} {x : Out × Qa},EVn P h dfr n f args H = some x → EVn P h dfr (n + 1) f args H = some x
 | 0,f,args,H,x,hx => by simp [EVn] at hx
 | n + 1,f,args,H,x,hx => by
  rw [EVn] at hx ⊢
  obtain ⟨L,l1,l2⟩ := AA (call := EVn P h dfr n) x hx
  exact l2 _ fun y hy => Qc8 n (l1 y hy)
theorem FM {h : Hint} {dfr : Z3} {f : FuncId} {args : List V} {H : Qa} : N1 fun n => EVn P h dfr n f args H := fun n x hx => Qc8 n hx
theorem QdG {h : Hint} {dfr : Z3} : ∀ {L : List XT},Has (EV P h dfr) L → ∃ n,Has (EVn P h dfr n) L
 | [],_ => ⟨0,Has.nil⟩
 | y :: L,hL => by
  obtain ⟨n,hn⟩ := QdG (L := L) fun z hz => hL z (List.mem_cons_of_mem _ hz)
  obtain ⟨m,hm⟩ := Vf (hL y (List.mem_cons_self ..))
  refine ⟨max n m,fun z hz => ?_⟩
  rcases List.mem_cons.1 hz with rfl | hz
  ·exact FM.le (Nat.le_max_right n m) hm
  ·exact FM.le (Nat.le_max_left n m) (hn z hz)
theorem CO {h : Hint} {dfr : Z3} {f : FuncId} {args : List V} {H : Qa} : EV P h dfr f args H = WG P h (EV P h dfr) dfr f args H := by
 refine A6 (fun x hx => ?_) (fun x hx => ?_)
 ·obtain ⟨n,hn⟩ := Vf hx
  cases n with
  | zero => simp [EVn] at hn
  | succ n =>
   rw [EVn] at hn
   obtain ⟨L,l1,l2⟩ := AA (call := EVn P h dfr n) x hn
   exact l2 _ fun y hy => UQ FM (l1 y hy)
 ·obtain ⟨L,l1,l2⟩ := AA (call := EV P h dfr) x hx
  obtain ⟨n,hn⟩ := QdG l1
  refine UQ FM (n := n + 1) ?_
  simp only [EVn]
  exact l2 _ hn
theorem AK {h : Hint} {dfr : Z3} {f : FuncId} {args : List V} {H : Qa} (hl : (h.lend f && !Zd args) = false) (hs : (h.iso f && (Zd args && !H.isEmpty)) = false) : EV P h dfr f args H = WE P h (EV P h dfr) dfr f args H := by
 rw [CO]
 unfold WG
 rw [hl]
 simp only [hs]
theorem QlB {h : Hint} {dfr : Z3} {f : FuncId} {args : List V} {H : Qa} (hl : (h.lend f && !Zd args) = true) : EV P h dfr f args H = Jt (EV P h dfr) f args H := by
 rw [CO]
 unfold WG
 rw [hl]
theorem VY {h : Hint} {dfr : Z3} {f : FuncId} {args : List V} {H : Qa} (hi : h.iso f = true) (hc : Zd args = true) (hH : H.isEmpty = false) : EV P h dfr f args H = JV (EV P h dfr) f args H := by
 rw [CO]
 unfold WG
 simp only [hi,hc,hH,Bool.not_true,Bool.and_false,Bool.not_false,Bool.and_self]
theorem Pt {h : Hint} {dfr : Z3} {f : FuncId} {fn : Func} {c : Code} (ho : h.orc f = none) (hi : h.intr f = none) (hf : P.funcs[f]? = some fn) (hb : fn.body = some c) {args : List V} {H : Qa} (hl : args.length ≤ fn.ntmps) (hn : (h.lend f && !Zd args) = false) (hs : (h.iso f && (Zd args && !H.isEmpty)) = false) :
  EV P h dfr f args H = BM P (h.own f) (h.ks f) (h.keep f) (EV P h dfr) dfr c fn.results.toList fn.ntmps (VL (h.nrm f) args) H := by
 rw [AK hn hs]
 unfold WE
 simp only [ho,hi,hf,hb,if_pos hl]
theorem Zx {h : Hint} {dfr : Z3} {f : FuncId} {fn : Func} (hf : P.funcs[f]? = some fn) (hi : ((h.orc f).isNone && (h.intr f).isNone && !h.nrm f && !h.lend f && !h.iso f) = true) (hb : fn.body.isSome = true) {args : List V} {H : Qa} (hl : Nat.ble args.length fn.ntmps = true) :
  EV P h dfr f args H = BM P (h.own f) (h.ks f) (h.keep f) (EV P h dfr) dfr (Q7 fn) fn.results.toList fn.ntmps args H := by
 obtain ⟨c,hc⟩ := Option.isSome_iff_exists.1 hb
 rw [Bool.and_eq_true,Bool.and_eq_true,Bool.and_eq_true,Bool.and_eq_true] at hi
 rw [Pt (by simpa using hi.1.1.1.1) (by simpa using hi.1.1.1.2) hf hc (Nat.le_of_ble_eq_true hl) (by rw [show h.lend f = false by simpa using hi.1.2]; rfl) (by rw [show h.iso f = false by simpa using hi.2]; rfl),show h.nrm f = false by simpa using hi.1.1.2]
 unfold Q7
 rw [hc]
 rfl
theorem QlV {h : Hint} {dfr : Z3} {f : FuncId} {fn : Func} (hf : P.funcs[f]? = some fn) (hi : ((h.orc f).isNone && (h.intr f).isNone && !h.nrm f && !h.iso f) = true) (hb : fn.body.isSome = true) {args : List V} {H : Qa} (hl : Nat.ble args.length fn.ntmps = true) (hc' : Zd args = true) :
  EV P h dfr f args H = BM P (h.own f) (h.ks f) (h.keep f) (EV P h dfr) dfr (Q7 fn) fn.results.toList fn.ntmps args H := by
 obtain ⟨c,hc⟩ := Option.isSome_iff_exists.1 hb
 rw [Bool.and_eq_true,Bool.and_eq_true,Bool.and_eq_true] at hi
 rw [Pt (by simpa using hi.1.1.1) (by simpa using hi.1.1.2) hf hc (Nat.le_of_ble_eq_true hl) (by rw [hc']; simp) (by rw [show h.iso f = false by simpa using hi.2]; rfl),show h.nrm f = false by simpa using hi.1.2]
 unfold Q7
 rw [hc]
 rfl
theorem VZ {h : Hint} {dfr : Z3} {f : FuncId} {fn : Func} (hf : P.funcs[f]? = some fn) (hi : ((h.orc f).isNone && (h.intr f).isNone && !h.nrm f && !h.lend f) = true) (hb : fn.body.isSome = true) {args : List V} (hl : Nat.ble args.length fn.ntmps = true) :
  EV P h dfr f args [] = BM P (h.own f) (h.ks f) (h.keep f) (EV P h dfr) dfr (Q7 fn) fn.results.toList fn.ntmps args [] := by
 obtain ⟨c,hc⟩ := Option.isSome_iff_exists.1 hb
 rw [Bool.and_eq_true,Bool.and_eq_true,Bool.and_eq_true] at hi
 rw [Pt (by simpa using hi.1.1.1) (by simpa using hi.1.1.2) hf hc (Nat.le_of_ble_eq_true hl) (by rw [show h.lend f = false by simpa using hi.2]; rfl) (by simp),show h.nrm f = false by simpa using hi.1.2]
 unfold Q7
 rw [hc]
 rfl
theorem Qoi {h : Hint} {dfr : Z3} {f : FuncId} {g : List V → Qa → Option (Out × Qa)} (hi : h.intr f = some g) (ho : h.orc f = none := by rfl) (hl : h.lend f = false := by rfl) (hs : h.iso f = false := by rfl) {args : List V} {H : Qa} : EV P h dfr f args H = g args H := by
 rw [AK (by rw [hl]; rfl) (by rw [hs]; rfl)]
 unfold WE
 simp only [ho,hi]
theorem Rel.plain {S S' : Ctx} {v : V} {u : Value} (h : Rel S v u) (hp : Qac v = true) : Rel S' v u := by
 cases h <;> first | exact .bool _ | exact .int _ _ | exact .str _ | simp [Qac] at hp
def Ctx.with (S : Ctx) (H : Qa) : Ctx := { S with H := H }
theorem Qae {H : Qa} {i j : Nat} {b : Blk} (h : Q0 (ZV H i .dead) j = some b) (hb : (ZQ b).isSome = true) : j ≠ i ∧ Q0 H j = some b := by
 rw [Mx] at h
 split at h
 ·simp at h; subst h; simp [ZQ] at hb
 ·rename_i hc
  refine ⟨fun e => ?_,h⟩
  subst e
  exact hc ⟨rfl,VU h⟩
theorem Tu {H : Qa} {i j v : Nat} (h : Zj (ZV H i .dead) j = some v) : j ≠ i ∧ Zj H j = some v := by
 unfold Zj at h ⊢
 cases hg : Q0 (ZV H i .dead) j with
 | none => simp [hg] at h
 | some b =>
  simp only [hg,Option.bind_some] at h
  obtain ⟨h1,h2⟩ := Qae hg (by simp [h])
  exact ⟨h1,by simp [h2,h]⟩
theorem LX {S : Ctx} {i j : Nat} (h : (S.with (ZV S.H i .dead)).live j) : j ≠ i ∧ S.live j := by
 obtain ⟨v,hv⟩ := Option.isSome_iff_exists.1 h
 obtain ⟨h1,h2⟩ := Tu (H := S.H) hv
 exact ⟨h1,Pd h2⟩
theorem F2 {S : Ctx} (i : Nat) : Ext S (S.with (ZV S.H i .dead)) where
 size := Nat.le_refl _
 keep := fun c _ hf => ⟨rfl,fun ⟨j,h1,h2⟩ => hf.1 ⟨j,(LX h1).2,h2⟩,hf.2⟩
 zed := fun c h => ⟨h,rfl⟩
 znew := fun c h => .inl h
 len := by simp [Ctx.with]
 ver := fun j v' hi hv => by
  obtain ⟨h1,h2⟩ := Tu (H := S.H) hv
  refine ⟨v',h2,Nat.le_refl _,fun _ => ⟨rfl,fun sz ag cs cells e fr g1 g2 => ⟨cs,cells,e,fr,?_,g2,rfl⟩⟩⟩
  show Q0 (ZV S.H i .dead) j = _
  rw [Mx,if_neg (fun hc => h1 hc.1)]; exact g1
 os := rfl
 tape := rfl
 output := rfl
theorem Qj5 {S : Ctx} (hS : Sim T S) (i : Nat) : Sim T (S.with (ZV S.H i .dead)) where
 blk := fun j b hb => by
  cases b with
  | dead => trivial
  | _ => exact (hS.blk j _ (Qae (H := S.H) hb rfl).2).mono (F2 i) rfl
 inj := fun j k hj hk he => hS.inj j k (LX hj).2 (LX hk).2 he
 zfree := fun j hj => hS.zfree j (LX hj).2
 zlt := hS.zlt
 tab := hS.tab.mono (F2 i).weak
theorem QqP {S : Ctx} (hS : Sim T S) {v v' : V} {H' : Qa} {u : Value} (h : XN S.H v = some (v',H')) (hr : Rel S v u) : Ext S (S.with H') ∧ Sim T (S.with H') ∧ Rel (S.with H') v' u ∧ H'.length = S.H.length := by
 have rest : (if v.clean = true then some (v,S.H) else none) = some (v',H') → Ext S (S.with H') ∧ Sim T (S.with H') ∧ Rel (S.with H') v' u ∧ H'.length = S.H.length := fun h => by
  split at h
  ·injection h with h; injection h with h1 h2; subst h1; subst h2
   exact ⟨Ext.refl S,hS,hr,rfl⟩
  ·cases h
 cases v with
 | rs i ver sz' off len =>
  simp only [XN] at h
  split at h
  ·rename_i v1 sz1 ag cs hg
   split at h
   ·rename_i hc
    obtain ⟨rfl,rfl,hlen,hz,hcl,hsc,hag⟩ := hc
    injection h with h; injection h with h1 h2; subst h1; subst h2
    refine ⟨F2 i,Qj5 hS i,?_,by simp⟩
    cases hr with
    | rs _ _ _ _ _ a cap hi hcap hh =>
    have hcv : Zj S.H i = some ver := by simp [Zj,hg,ZQ]
    obtain ⟨_,h2⟩ := hh ver hcv
    obtain ⟨ag2,cs2,cells,el,fr,g1,g2,g3,g5⟩ := h2 rfl
    rw [hg] at g1
    injection g1 with g1
    injection g1 with _ _ g1a g1b
    subst g1a; subst g1b
    obtain ⟨cells2,e2,fr2,k1,k2,k3,k4,k5⟩ := hS.blk i _ hg
    rw [g2] at k1
    injection k1 with k1
    injection k1 with k1a k1b k1c
    subst k1a
    have hlive : S.live i := Pd hcv
    have hfree : (S.with (ZV S.H i .dead)).free (S.ρ i) := by
     refine ⟨fun ⟨j,j1,j2⟩ => ?_,hS.zfree i hlive⟩
     obtain ⟨j3,j4⟩ := LX j1
     exact j3 (hS.inj j i j4 hlive j2)
    rw [Nat.add_mul] at hlen
    refine .vs _ _ _ _ (S.ρ i) (off * sz') sz' (fun k => cells.getD (off * sz' + k) undef) (by rw [G1]) hcap (AO hcl (by simp; omega) hz) (fun hne => ?_) (fun i' x hx => (R0 hsc hag (by simp; omega) hx).1) (fun i' x j y hx hy => ?_) (fun i' x j y hx hy => ?_)
    ·have : 0 < len := by
      cases len with
      | zero => exact absurd rfl hne
      | succ n => omega
     exact ⟨by rw [g5 (by omega)],hfree,hS.lt hlive⟩
    ·have h3 := (R0 hsc hag (by simp; omega) hx).2 j y hy
     rw [List.getElem?_take] at h3
     split at h3
     ·rw [List.getElem?_drop] at h3
      obtain ⟨u0,hu0,hr0⟩ := k5 _ _ h3
      have : (S.with (ZV S.H i .dead)).w = S.w := rfl
      rw [this]
      simp only [World.cell?,g2]
      simp [hu0]
     ·simp at h3
    ·have h3 := (R0 hsc hag (by simp; omega) hx).2 j y hy
     rw [List.getElem?_take] at h3
     split at h3
     ·rw [List.getElem?_drop] at h3
      obtain ⟨u0,hu0,hr0⟩ := k5 _ _ h3
      have := hr0.mono (F2 i)
      simpa [hu0] using this
     ·simp at h3
   ·cases h
  ·cases h
 | _ => exact rest h
theorem TK : ∀ (args : List V) {S : Ctx} (hS : Sim T S) {a : List V} {H' : Qa} (us : List Value),mvL args S.H = some (a,H') → us.length = args.length → (∀ (j : Nat) (v : V) (u : Value),args[j]? = some v → us[j]? = some u → Rel S v u) →
  Ext S (S.with H') ∧ Sim T (S.with H') ∧ (∀ (j : Nat) (v : V) (u : Value),a[j]? = some v → us[j]? = some u → Rel (S.with H') v u) ∧ a.length = args.length ∧ H'.length = S.H.length
 | [],S,hS,a,H',us,h,hl,hr => by
  simp only [mvL,Option.some.injEq,Prod.mk.injEq] at h
  obtain ⟨rfl,rfl⟩ := h
  exact ⟨Ext.refl S,hS,fun j v u hj => by simp at hj,rfl,rfl⟩
 | v :: vs,S,hS,a,H',us,h,hl,hr => by
  cases us with
  | nil => simp at hl
  | cons u us =>
   simp only [mvL] at h
   obtain ⟨⟨v1,H1⟩,h1,h2⟩ := Yg h
   obtain ⟨⟨vs2,H2⟩,h3,h4⟩ := Option.map_eq_some_iff.1 h2
   simp only [Prod.mk.injEq] at h4
   obtain ⟨rfl,rfl⟩ := h4
   obtain ⟨e1,s1,r1,l1⟩ := QqP hS h1 (hr 0 v u rfl rfl)
   obtain ⟨e2,s2,r2,l2,l3⟩ := TK vs (S := S.with H1) s1 us h3 (by simpa using hl) (fun j v u hj hu => (hr (j + 1) v u (by simpa using hj) (by simpa using hu)).mono e1)
   refine ⟨e1.trans e2,s2,fun j x y hj hy => ?_,by simp [l2],l3.trans l1⟩
   cases j with
   | zero =>
    simp only [List.getElem?_cons_zero,Option.some.injEq] at hj hy
    subst hj; subst hy
    exact r1.mono e2
   | succ j => exact r2 j x y (by simpa using hj) (by simpa using hy)
theorem Qot {call : Qh} (hcall : Yb T P call) (f : FuncId) : Mod T P f (Jt call f) := by
 intro args H r H' hg S us hH hS hA
 subst hH
 unfold Jt at hg
 obtain ⟨⟨a,H1⟩,ha,hg⟩ := Yg hg
 obtain ⟨e,s,hr,l2,l3⟩ := TK args hS us.toList ha (by simpa using hA.1) (fun j v u hj hu => hA.2 j v u hj (by simpa using hu))
 obtain ⟨h1,h2⟩ := hcall f a H1 r H' hg (S.with H1) us rfl s ⟨by rw [l2]; exact hA.1,fun j v u hj hu => hr j v u hj (by simpa using hu)⟩
 refine ⟨h1,h2.mono fun en w' he => ?_⟩
 obtain ⟨S',hto,hro⟩ := he
 exact ⟨S',⟨hto.H,hto.w,hto.Z,e.trans hto.ext,hto.sim,trivial⟩,hro⟩
def Ctx.only (S : Ctx) (w : World) : Ctx := ⟨[],fun _ => 0,fun c => c < w.heap.size ∧ ¬ (S.free c ∧ c < S.w.heap.size),w⟩
theorem L6 (S : Ctx) (w : World) (i : Nat) : ¬ (S.only w).live i := by simp [Ctx.only,Ctx.live,Zj,Q0]
theorem Qdn (S : Ctx) (w : World) {c : Nat} (h : S.free c) (hc : c < S.w.heap.size) : (S.only w).free c :=
 ⟨fun ⟨i,hi,_⟩ => L6 S w i hi,fun hz => hz.2 ⟨h,hc⟩⟩
theorem Qgv {S : Ctx} (hS : Sim T S) {w : World} (hg : Grew S.w w) : Sim T (S.only w) where
 blk := fun i b h => by simp [Ctx.only,Q0] at h
 inj := fun i j h => (L6 S w i h).elim
 zfree := fun i h => (L6 S w i h).elim
 zlt := fun c h => h.1
 tab := fun c us hc => by
  obtain ⟨h1,h2,e,fr,h3⟩ := hS.tab c us hc
  exact ⟨Qdn S w h1 h2,Nat.lt_of_lt_of_le h2 hg.size,e,fr,(hg.old c h2).trans h3⟩
theorem Ql9 {S : Ctx} {w : World} (hg : Grew S.w w) {v : V} {u : Value} (h : Rel S v u) (hc : v.clean = true) : Rel (S.only w) v u :=
 h.alone (fun c hf hlt => ⟨Qdn S w hf hlt,Nat.lt_of_lt_of_le hlt hg.size,hg.old c hlt⟩) hc
theorem Qiy {call : Qh} (hcall : Yb T P call) (f : FuncId) : Mod T P f (fun args H => if Zd args = true then JV call f args H else none) := by
 intro args H r H' hg S us hH hS hA
 subst hH
 simp only at hg
 split at hg
 ·rename_i hc
  unfold JV at hg
  obtain ⟨q,hq,hg⟩ := Yg hg
  obtain ⟨v,rfl,hv,rfl,rfl⟩ := QjP hg
  have hg0 : Grew S.w S.w := ⟨Nat.le_refl _,fun _ _ => rfl,rfl,rfl,rfl⟩
  have hA' : RelA (S.only S.w) args us := ⟨hA.1,fun j x u hx hu => Ql9 hg0 (hA.2 j x u hx hu) (UA hc hx)⟩
  obtain ⟨h1,h2⟩ := hcall f args [] _ _ hq (S.only S.w) us rfl (Qgv hS hg0) hA'
  refine ⟨h1,h2.mono fun e w' he => ?_⟩
  obtain ⟨S',hto,hr⟩ := he
  have hw := hto.w
  subst hw
  match e,hr with
  | .returned u,hr =>
   have hold : ∀ c,c < S.w.heap.size → S'.w.heap[c]? = S.w.heap[c]? := fun c hc => by
    by_cases hz : (S.only S.w).Z c
    ·exact (hto.ext.zed c hz).2
    ·exact (hto.ext.keep c hc ⟨fun ⟨i,hi,_⟩ => L6 S S.w i hi,hz⟩).1
   have hgr : Grew S.w S'.w := ⟨hto.ext.size,hold,hto.ext.os,hto.ext.tape,hto.ext.output⟩
   refine ⟨S.at S'.w,⟨rfl,rfl,rfl,W9 hS hgr,Nb hS hgr,Bd.refl _ _⟩,?_⟩
   refine Rel.alone (S := S') (fun c hf hlt => ?_) hr hv
   refine ⟨?_,hlt,rfl⟩
   by_cases hcs : c < S.w.heap.size
   ·have hz : ¬ (S.only S.w).Z c := fun hz => hf.2 ((hto.ext.zed c hz).1)
    have : S.free c := by
     have := Classical.not_not.1 (fun hn => hz ⟨hcs,hn⟩)
     exact this.1
    exact this
   ·exact ⟨fun ⟨i,hi,he⟩ => hcs (by rw [← he]; exact hS.lt hi),fun hz => hcs (hS.zlt c hz)⟩
 ·cases hg
theorem Qrl {h : Hint} {call : Qh} {dfr : Z3} (hcall : Yb T P call) (hdfr : KU T P dfr) (hmix : P.follows .mixedOrders = true) (hn : UO P) (hi : ∀ f g,h.intr f = some g → Mod T P f g) (ho : ∀ f g,h.orc f = some g → ∀ call,Yb T P call → Mod T P f (g call)) (f : FuncId) : Mod T P f (WG P h call dfr f) := by
 intro args H r H' hg
 cases hle : h.lend f && !Zd args with
 | true =>
  unfold WG at hg
  rw [hle] at hg
  exact Qot hcall f args H r H' hg
 | false =>
 unfold WG at hg
 rw [hle] at hg
 clear hle
 simp only at hg
 cases his : h.iso f && (Zd args && !H.isEmpty) with
 | true =>
  rw [his] at hg
  have hc : Zd args = true := by
   rw [Bool.and_eq_true,Bool.and_eq_true] at his
   exact his.2.1
  exact Qiy hcall f args H r H' (by simp only; rw [if_pos hc]; exact hg)
 | false =>
 rw [his] at hg
 clear his
 simp only at hg
 cases hor : h.orc f with
 | some g =>
  unfold WE at hg
  simp only [hor] at hg
  exact ho f g hor call hcall args H r H' hg
 | none =>
 cases hin : h.intr f with
 | some g =>
  unfold WE at hg
  simp only [hor,hin] at hg
  exact hi f g hin args H r H' hg
 | none =>
  unfold WE at hg
  simp only [hor,hin] at hg
  cases hf : P.funcs[f]? with
  | none => simp [hf] at hg
  | some fn =>
   simp only [hf] at hg
   cases hb : fn.body with
   | none => simp [hb] at hg
   | some c =>
    simp only [hb] at hg
    split at hg
    ·rename_i hle
     unfold BM at hg
     obtain ⟨M,e,t',H1,d',h1,h2⟩ := V5 c hg
     have hle' : (VL (h.nrm f) args).length ≤ fn.ntmps := by rw [Qrb]; exact hle
     rw [A9 hle'] at h1
     have key := Ak (h := h) hcall (DO hcall hmix M) hdfr hmix (f := f) (fun g hh => by rw [hin] at hh; simp at hh) (fun fn' hf' hb' => hn f fn' hf' hb')
     intro S uargs hH hS hA
     refine key (VL (h.nrm f) args) H r H' ?_ S uargs hH hS (Qmb hA)
     unfold Nu
     simp only [hin,hf,hb]
     rw [if_pos hle',h1]
     simp only [Option.bind_some]
     cases e with
     | normal => exact BZ (Rs h2)
     | ret => exact BZ (Rs h2)
     | pan v => exact BZ (Rs h2)
     | exit i => simp [Zk] at h2
    ·simp at hg
theorem Qfx {h : Hint} {dfr : Z3} (hdfr : KU T P dfr) (hmix : P.follows .mixedOrders = true) (hn : UO P) (hi : ∀ f g,h.intr f = some g → Mod T P f g) (ho : ∀ f g,h.orc f = some g → ∀ call,Yb T P call → Mod T P f (g call)) : ∀ n,Yb T P (EVn P h dfr n)
 | 0 => fun f args H r H' hh => by simp [EVn] at hh
 | n + 1 => fun f => Qrl (Qfx hdfr hmix hn hi ho n) hdfr hmix hn hi ho f
theorem Qqh {h : Hint} {dfr : Z3} (hdfr : KU T P dfr) (hmix : P.follows .mixedOrders = true) (hn : UO P) (hi : ∀ f g,h.intr f = some g → Mod T P f g) (ho : ∀ f g,h.orc f = some g → ∀ call,Yb T P call → Mod T P f (g call)) : Yb T P (EV P h dfr) := by
 intro f args H r H' hh
 obtain ⟨n,hx⟩ := Vf hh
 exact Qfx hdfr hmix hn hi ho n f args H r H' hx
def Ec : JL := fun _ _ _ _ _ => none
theorem QmE : KF T P Ec := fun base own ks b st e st' h => by simp [Ec] at h
noncomputable def GF (P : Program) (h : Hint) : Z3 := Nl P h MR Ec
theorem Qm1 {h : Hint} (hmix : P.follows .mixedOrders = true) (hn : UO P) : KU T P (GF P h) := QcZ Qrq QmE hmix hn
end
end Go.Ev
end
section
namespace Go.Ev
variable {α : Type}
abbrev KS (α : Type) := Ex → Ts → Qa → Option V → Bool → Option α
section
variable (P : Program) (base : Nat) (own : Bool) (ops : List Oper) (n : Nat) (k : KS α)
end
def kd (k : KS α) (m : Option V) (b : Bool) : KC α := fun e t H d =>
 match d with
 | [] => k e t H m b
 | _ => none
section
variable {P : Program} {base : Nat} {own : Bool} {call : Qh} {loop : JL} {ops : List Oper} {n : Nat} {k : KS α}
end
end Go.Ev
end
section
namespace Go.Ev
def iRd (g : List V → Qa → Option V) : List V → Qa → Option (Out × Qa) := fun args H => (g args H).map fun v => (.ret v,H)
def Fz : List (Nat × (List V → Qa → Option (Out × Qa))) → Nat → Option (List V → Qa → Option (Out × Qa))
 | [],_ => none
 | (i,g) :: r,f => match Nat.beq i f with
  | true => some g
  | false => Fz r f
end Go.Ev
end
