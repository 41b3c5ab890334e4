/- EvF: a part of the proof that each law of this seat answers true at every input. No condition. -/
import Derived.Test.YtdnmpaielmfiiaaDoorEvE
import Derived.Lib.ItoaNum
import Derived.Lib.Case
import Derived.Lib.Join
set_option linter.unusedVariables false
set_option linter.unusedSimpArgs false
section
namespace Go.Ev
universe u
noncomputable def shut {α : Sort u} (a : α) : α := Classical.choose (⟨a,rfl⟩ : ∃ x,x = a)
theorem QN {α : Sort u} (a : α) : shut a = a := Classical.choose_spec (⟨a,rfl⟩ : ∃ x,x = a)
noncomputable def QY : V → V → V → Option V := shut (Ao)
theorem B6 : QY = Ao := QN _
noncomputable def Zj : List V → List (Nat × Nat) → List (Nat × V) → Option V := shut (GD)
theorem V8 : Zj = GD := QN _
noncomputable def NT : List V → Nat → List (Nat × V) → Option V := shut (E5)
theorem M9 : NT = E5 := QN _
noncomputable def Kg : V → Option V := shut (Cl)
theorem Bb : Kg = Cl := QN _
noncomputable def Qb : BinOp → Nat → V → V → Option V := shut (Kn)
theorem JA : Qb = Kn := QN _
noncomputable def LK : BinOp → Bool → V → V → Option V := shut (P1)
theorem BC : LK = P1 := QN _
noncomputable def oUn : UnOp → V → Option V := shut (vUn)
theorem BG : oUn = vUn := QN _
noncomputable def Yc : IntKind → V → Option V := shut (Pt)
theorem Le : Yc = Pt := QN _
noncomputable def Di : V → Option V := shut (FQ)
theorem MK : Di = FQ := QN _
noncomputable def Dj : TypeId → V → Option V := shut (CB)
theorem ML : Dj = CB := QN _
noncomputable def Gz : FuncId → List V → Option V := shut (AX)
theorem RU : Gz = AX := QN _
noncomputable def F2 : V → Option V → Option V → Option V → Option V := shut (Rb)
theorem NE : F2 = Rb := QN _
noncomputable def JO : Nat → V → Option V → Option V → Option V → Option V := shut (Vk)
theorem UI : JO = Vk := QN _
noncomputable def Qq : V → Nat → Option V := shut (JZ)
theorem Bp : Qq = JZ := QN _
noncomputable def F8 : Nat → Bool → Nat → V → Option V := shut (Ek)
theorem Nt : F8 = Ek := QN _
noncomputable def Qx : Nat → V → V → Option V := shut (Ll)
theorem Rs : Qx = Ll := QN _
noncomputable def Wl : Nat → Nat → V → V → Option V := shut (Md)
theorem RQ : Wl = Md := QN _
noncomputable def KE : V → V → Option V := shut (Mu)
theorem Rc : KE = Mu := QN _
noncomputable def Ee : Nat → Bool → Nat → V → V → Option V := shut (MQ)
theorem Mq : Ee = MQ := QN _
noncomputable def MN : V → Nat → Option V := shut (Do)
theorem Uh : MN = Do := QN _
noncomputable def EE : TypeId → V → Option V := shut (R1)
theorem M6 : EE = R1 := QN _
noncomputable def QbE : TypeId → V → V → Option V := shut (LH)
theorem GH : QbE = LH := QN _
noncomputable def Us : V → Option V := shut (Al)
theorem MC : Us = Al := QN _
noncomputable def QM : V → Option V := shut (DW)
theorem UY : QM = DW := QN _
noncomputable def Cp : Nat → Option V := shut (Dl)
theorem NM : Cp = Dl := QN _
noncomputable def QeA : Nat → Nat → Bool → V → Option V → Option V → Option V → Qa → Option (V × Qa) := shut (Dd)
theorem PY : QeA = Dd := QN _
noncomputable def N7 : Nat → Nat → List V → V → Qa → Option (V × Qa) := shut (R3)
theorem ME : N7 = R3 := QN _
noncomputable def Qd7 : Nat → Nat → V → V → Qa → Option (V × Qa) := shut (EA)
theorem PZ : Qd7 = EA := QN _
noncomputable def Fh : List V → Option V := shut (Ka NA)
theorem R0 : Fh = Ka NA := QN _
noncomputable def Ap : List V → Option V := shut (Ka NJ)
theorem Nf : Ap = Ka NJ := QN _
noncomputable def QL : V → Option V := shut (PH)
theorem R6 : QL = PH := QN _
noncomputable def Qc : Bool → Nat → Qa → V → Option V := shut (WJ)
theorem UA : Qc = WJ := QN _
noncomputable def JV : Qa → V → Option V := shut (L6)
theorem N1 : JV = L6 := QN _
noncomputable def T1 : Nat → V → Qa → V → V → Option V := shut (GW)
theorem Pb : T1 = GW := QN _
noncomputable def Qa9 : Nat → V → Qa → V → V → Option V := shut (LO)
theorem Fb : Qa9 = LO := QN _
noncomputable def Zq : Nat → Nat → V → List (Nat × V) → Option V := shut (Ba)
theorem WA : Zq = Ba := QN _
noncomputable def QD : Qa → V → Option (V × Qa) := shut (NB)
theorem NH : QD = NB := QN _
noncomputable def Wq : Nat → Nat → Bool → List V → Qa → List (Nat × V) → Option (V × Qa) := shut (NO)
theorem BW : Wq = NO := QN _
noncomputable def R5 : Nat → Bool → Nat → List V → V → V → Qa → Option (V × Qa) := shut (Mg)
theorem M4 : R5 = Mg := QN _
noncomputable def EL : Qa → Option (V × Qa) := shut (Xn)
theorem RY : EL = Xn := QN _
noncomputable def QcH : Nat → Nat → Qa → V → V → V → Option (V × Qa) := shut (Nl)
theorem Pe : QcH = Nl := QN _
noncomputable def Qs : Nat → Nat → Qa → V → V → Option (V × Qa) := shut (Mb)
theorem Rq : Qs = Mb := QN _
noncomputable def Ce : V → Qa → Option (V × Qa) := shut (N4)
theorem MV : Ce = N4 := QN _
noncomputable def Z1 : Nat → Nat → Nat → Bool → V → V → Qa → Option (V × Qa) := shut (WG)
theorem W6 : Z1 = WG := QN _
noncomputable def TK : Nat → Nat → Nat → Bool → V → V → Qa → Option (V × Qa) := shut (PQ)
theorem Gr : TK = PQ := QN _
def Ud (g : Operand → V) : List (Nat × Operand) → List (Nat × V)
 | [] => []
 | (i,x) :: r => (i,g x) :: Ud g r
def Wy (g : Operand → V) : List Operand → List V
 | [] => []
 | x :: r => g x :: Wy g r
theorem Ml (t : List V) : ∀ l,Ud (env t) l = Yh t l
 | [] => rfl
 | (i,x) :: r => by rw [Ud,Yh,Ml t r]
theorem VO (t : List V) : ∀ l,Wy (env t) l = Z7 t l
 | [] => rfl
 | x :: r => by rw [Wy,Z7,VO t r]
noncomputable def Bh (P : Program) (g : Operand → V) : Op → Option V
 | .move x | .assign x => QL (g x)
 | .pick c a b => QY (g c) (g a) (g b)
 | .build ty parts => match P.underlying ty with
  | some (.struct fs) => match Q5 P ty with
   | some z => match Wr P fs.toList with
    | some pl => match Qv z.cells with
     | true => Zj z.cells pl (Ud g parts.toList)
     | false => none
    | none => none
   | none => none
  | some (.array _ e) => match Q5 P ty with
   | some z => match QB P e with
    | some n => match Qv z.cells with
     | true => NT z.cells n (Ud g parts.toList)
     | false => none
    | none => none
   | none => none
  | _ => none
 | .nilCheck x => Kg (g x)
 | .binOp op ty x y _ => match Rz P ty with
  | 3 => LK op (Region.isConst x || Region.isConst y) (g x) (g y)
  | k => Qb op k (g x) (g y)
 | .unOp op _ x => oUn op (g x)
 | .convert src dst x => match (P.underlying src).isSome with
  | true => match P.underlying dst with
   | some (.int k) => Yc k (g x)
   | some .string => Di (g x)
   | _ => none
  | false => none
 | .makeInterface ty x => match P.underlying ty with
  | some (.interface _) => none
  | some _ => Dj ty (g x)
  | none => none
 | .makeFunc fn first cap => match fn with
  | .func f => match first.size with
   | 0 => Gz f (Wy g cap.toList)
   | _ => none
  | _ => none
 | .slice ty x lo hi mx => match P.underlying ty with
  | some .string => F2 (g x) (lo.map g) (hi.map g) (mx.map g)
  | some (.slice e) => match QB P e with
   | some n => JO n (g x) (lo.map g) (hi.map g) (mx.map g)
   | none => none
  | _ => none
 | .fieldAddr ty x f => match Vj P ty f with
  | some r => match QB P r.2 with
   | some (_ + 1) => Qq (g x) r.1
   | _ => none
  | none => none
 | .field ty x f => match Vj P ty f with
  | some r => match Zo P r.2 with
   | some ag => match QB P r.2 with
    | some n => F8 r.1 ag n (g x)
    | none => none
   | none => none
  | none => none
 | .indexAddr ty x i => match P.underlying ty with
  | some (.slice e) => match QB P e with
   | some n => Qx n (g x) (g i)
   | none => none
  | some (.array len e) => match QB P e with
   | some (n + 1) => Wl len (n + 1) (g x) (g i)
   | _ => none
  | _ => none
 | .index ty x i => match P.underlying ty with
  | some .string => KE (g x) (g i)
  | some (.array len e) => match Zo P e with
   | some ag => match QB P e with
    | some n => Ee len ag n (g x) (g i)
    | none => none
   | none => none
  | _ => none
 | .extract x i => MN (g x) i
 | .typeAssert x _ ty ok => match P.underlying ty with
  | some (.interface _) => none
  | some _ => match ok with
   | true => match Q5 P ty with
    | some z => QbE ty z (g x)
    | none => none
   | false => EE ty (g x)
  | none => none
 | .call c => match c.callee with
  | .builtin .len => match c.argTypes[0]?,c.args[0]? with
   | some ty,some x => match P.underlying ty with
    | some .string => Us (g x)
    | some (.slice _) => QM (g x)
    | some (.array n _) => Cp n
    | _ => none
   | _,_ => none
  | .builtin .min => Fh (Wy g c.args.toList)
  | .builtin .max => Ap (Wy g c.args.toList)
  | _ => none
 | _ => none
noncomputable def KQ (P : Program) (g : Operand → V) (H : Qa) : Op → Option V
 | .load ty p => match Zo P ty with
  | some ag => match QB P ty with
   | some n => Qc ag n H (g p)
   | none => none
  | none => none
 | .convert src dst x => match P.underlying src with
  | some (.slice e) => match P.underlying dst with
   | some .string => match P.underlying e with
    | some (.int .u8) => JV H (g x)
    | _ => none
   | _ => none
  | _ => none
 | .lookup ty m k ok => match P.underlying ty with
  | some (.map kt et) => match Q5 P et with
   | some z => match ok with
    | true => Qa9 (KX P kt) z H (g m) (g k)
    | false => T1 (KX P kt) z H (g m) (g k)
   | none => none
  | _ => none
 | _ => none
noncomputable def Bc (P : Program) (g : Operand → V) : Op → Option V
 | .buildSlice ty len parts => match ZP P ty with
  | some e => match QB P e with
   | some n => match Q5 P e with
    | some z => match decide (len * n ≤ 16777216) && decide (0 < n) && (z.cells.length == n) && Qv z.cells && z.nrm.clean with
     | true => Zq n len z.nrm (Ud g parts.toList)
     | false => none
    | none => none
   | none => none
  | none => none
 | _ => none
noncomputable def Nz (P : Program) (O : Nat) (g : Operand → V) (H : Qa) : Op → Option (V × Qa)
 | .alloc ty => match Q5 P ty with
  | some z => QD H z
  | none => none
 | .box _ x => QD H (g x)
 | .buildSlice ty len parts => match ZP P ty with
  | some e => match QB P e with
   | some n => match Zo P e with
    | some ag => match Q5 P e with
     | some z => match decide (len * n ≤ 16777216) && (z.cells.length == n) && Qv z.cells with
      | true => Wq len n ag (Q7 len z.cells) H (Ud g parts.toList)
      | false => none
     | none => none
    | none => none
   | none => none
  | none => none
 | .makeSlice ty l c => match ZP P ty with
  | some e => match QB P e with
   | some n => match Zo P e with
    | some ag => match J5 P e with
     | some by_ => match Q5 P e with
      | some z => match (z.cells.length == n) && Qv z.cells with
       | true => R5 n ag by_ z.cells (g l) (g c) H
       | false => none
      | none => none
     | none => none
    | none => none
   | none => none
  | none => none
 | .makeMap ty r => match P.underlying ty with
  | some (.map _ _) => match r with
   | none => EL H
   | some x => none
  | _ => none
 | .mapUpdate ty m k x | .insert ty m k x => match P.underlying ty with
  | some (.map kt _) => QcH O (KX P kt) H (g m) (g k) (g x)
  | _ => none
 | .store ty p x => match QB P ty with
  | some n => Qs O n H (g p) (g x)
  | none => none
 | .convert src dst x => match (P.underlying src).isSome with
  | true => match P.underlying dst with
   | some (.slice e) => match P.underlying e with
    | some (.int .u8) => Ce (g x) H
    | _ => none
   | _ => none
  | false => none
 | .slice ty x lo hi mx => match P.underlying ty with
  | some (.array len e) => match QB P e with
   | some n => match Zo P e with
    | some ag => QeA n len ag (g x) (lo.map g) (hi.map g) (mx.map g) H
    | none => none
   | none => none
  | _ => none
 | .call c => match c.callee with
  | .builtin .clear => match c.argTypes[0]?,c.args[0]? with
   | some ty,some x => match ZP P ty with
    | some e => match QB P e with
     | some n => match Q5 P e with
      | some z => N7 O n z.cells (g x) H
      | none => none
     | none => none
    | none => none
   | _,_ => none
  | .builtin .copy => match c.argTypes[0]?,c.args[0]?,c.args[1]? with
   | some ty,some d,some x => match ZP P ty with
    | some e => match QB P e with
     | some n => Qd7 O n (g d) (g x) H
     | none => none
    | none => none
   | _,_,_ => none
  | .builtin .append => match c.argTypes[0]?,c.argTypes[1]?,c.args[0]?,c.args[1]? with
   | some ty,some ty2,some s,some x => match ZP P ty with
    | some e => match QB P e with
     | some n => match Zo P e with
      | some ag => match J5 P e with
       | some by_ => match Q5 P e with
        | some z => match (z.cells.length == n) && Qv z.cells with
         | true => match P.underlying ty2 with
          | some (.slice _) => Z1 O n by_ ag (g s) (g x) H
          | some .string => TK O n by_ ag (g s) (g x) H
          | _ => none
         | false => none
        | none => none
       | none => none
      | none => none
     | none => none
    | none => none
   | _,_,_,_ => none
  | _ => none
 | _ => none
theorem Qkc (P : Program) (t : List V) (op : Op) : Bh P (env t) op = KR P t op := by
 cases op <;> simp only [Bh,KR,Ml,VO,B6,V8,M9,Bb,JA,BC,BG,Le,MK,ML,RU,NE,UI,Bp,Nt,Rs,RQ,Rc,Mq,Uh,M6,GH,MC,UY,NM,R0,Nf,R6,UA,N1,Pb,Fb,WA,NH,BW,M4,RY,Pe,Rq,MV,W6,Gr,PY,ME,PZ] <;> rfl
theorem Qkx (P : Program) (t : List V) (H : Qa) (op : Op) : KQ P (env t) H op = KP P t H op := by
 cases op <;> simp only [KQ,KP,Ml,VO,B6,V8,M9,Bb,JA,BC,BG,Le,MK,ML,RU,NE,UI,Bp,Nt,Rs,RQ,Rc,Mq,Uh,M6,GH,MC,UY,NM,R0,Nf,R6,UA,N1,Pb,Fb,WA,NH,BW,M4,RY,Pe,Rq,MV,W6,Gr,PY,ME,PZ] <;> rfl
theorem Qkq (P : Program) (t : List V) (op : Op) : Bc P (env t) op = WR P t op := by
 cases op <;> simp only [Bc,WR,Ml,VO,B6,V8,M9,Bb,JA,BC,BG,Le,MK,ML,RU,NE,UI,Bp,Nt,Rs,RQ,Rc,Mq,Uh,M6,GH,MC,UY,NM,R0,Nf,R6,UA,N1,Pb,Fb,WA,NH,BW,M4,RY,Pe,Rq,MV,W6,Gr,PY,ME,PZ] <;> rfl
theorem QqM (P : Program) (O : Nat) (t : List V) (H : Qa) (op : Op) : Nz P O (env t) H op = UM P O t H op := by
 cases op <;> simp only [Nz,UM,Ml,VO,B6,V8,M9,Bb,JA,BC,BG,Le,MK,ML,RU,NE,UI,Bp,Nt,Rs,RQ,Rc,Mq,Uh,M6,GH,MC,UY,NM,R0,Nf,R6,UA,N1,Pb,Fb,WA,NH,BW,M4,RY,Pe,Rq,MV,W6,Gr,PY,ME,PZ] <;> rfl
variable {α : Type} {β : Type}
noncomputable def bnd {α : Type} : Option V → (V → Option α) → Option α := shut Option.bind
theorem Jm (x : Option V) (f : V → Option α) : bnd x f = x.bind f := by unfold bnd; rw [QN]
def Qlb (x : Option (V × Qa)) (f : V → Qa → Option α) : Option α := x.bind fun r => f r.1 r.2
noncomputable def beff {α : Type} : Option (V × Qa) → (V → Qa → Option α) → Option α := shut Qlb
theorem VJ (x : Option (V × Qa)) (f : V → Qa → Option α) : beff x f = x.bind fun r => f r.1 r.2 := by unfold beff; rw [QN]; rfl
def Qno (x : Option (Out × Qa)) (f g : V → Qa → Option α) : Option α := x.bind fun r => JF r.1 (fun v => f v r.2) (fun v => g v r.2)
noncomputable def bcall {α : Type} : Option (Out × Qa) → (V → Qa → Option α) → (V → Qa → Option α) → Option α := shut Qno
theorem UN (x : Option (Out × Qa)) (f g : V → Qa → Option α) : bcall x f g = x.bind fun r => JF r.1 (fun v => f v r.2) (fun v => g v r.2) := by unfold bcall; rw [QN]; rfl
noncomputable def bdef {α : Type} : Option (FuncId × List V) → (FuncId × List V → Option α) → Option α := shut Option.bind
theorem N2 (x : Option (FuncId × List V)) (f : FuncId × List V → Option α) : bdef x f = x.bind f := by unfold bdef; rw [QN]
noncomputable def gua {β : Type} : V → Bool → Option β → Option β → Option β := shut KO
theorem VG (v : V) (w : Bool) (a b : Option β) : gua v w a b = KO v w a b := by unfold gua; rw [QN]
noncomputable def cnd {α : Type} : V → Option α → Option α → Option α := shut Ed
theorem VZ (v : V) (a b : Option α) : cnd v a b = Ed v a b := by unfold cnd; rw [QN]
noncomputable def sch {α : Type} : Bool → Option α → Option α := shut chk
theorem BO (b : Bool) (a : Option α) : sch b a = chk b a := by unfold sch; rw [QN]
noncomputable def sam : Option V → V → Bool := shut same
theorem Cx : sam = same := QN _
noncomputable def tlb : Option V → (V → Bool) → Bool := shut V7
theorem Cb : tlb = V7 := QN _
noncomputable def oFn : V → List V → Option (FuncId × List V) := shut rFn
theorem QgV : oFn = rFn := QN _
noncomputable def Fa : V → Option V := shut AN
theorem Qhq : Fa = AN := QN _
def Er (call : Qr) (f : V) (args : List V) (H : Qa) : Option (Out × Qa) := (rFn f args).bind fun q => call q.1 q.2 H
noncomputable def J6 : Qr → V → List V → Qa → Option (Out × Qa) := shut Er
theorem E0 : J6 = Er := QN _
def QU (n : Nat) (t : Ts) : Operand → V
 | .tmp i => match Nat.blt i n with
  | true => Jq i t
  | false => .junk
 | .const v => ofValue v
 | .global _ => .junk
 | .func f => .fn f []
theorem JC (n : Nat) (t : Ts) : env (tl n t) = QU n t := by
 funext x
 cases x with
 | tmp i =>
  simp only [env,QU,List.getD_eq_getElem?_getD,Mz]
  by_cases h : i < n
  ·have : Nat.blt i n = true := by rw [Nat.blt_eq]; exact h
   simp [h,this]
  ·have : Nat.blt i n = false := by
    cases hb : Nat.blt i n with
    | false => rfl
    | true => rw [Nat.blt_eq] at hb; exact absurd hb h
   simp [h,this]
 | _ => rfl
def aliasOf (o : Oper) : Option Operand :=
 match o.guard with
 | some _ => none
 | none => match o.op with
  | .move x | .assign x => some x
  | _ => none
noncomputable def guaK {β : Type} (ops : List Oper) (g : Operand → V) (o : Oper) (a b : Option β) : Option β :=
 match o.guard with
 | none => a
 | some (j,want) => match ops[j]? with
  | none => b
  | some oj => match oj.dst with
   | none => b
   | some d => gua (g (.tmp d)) want a b
noncomputable def callX (call : Qr) (g : Operand → V) (H : Qa) : Op → Option (Out × Qa)
 | .call c => match c.callee with
  | .value f => match f with
   | .func i => call i (Wy g c.args.toList) H
   | f => J6 call (g f) (Wy g c.args.toList) H
  | _ => none
 | _ => none
noncomputable def FU (g : Operand → V) : Op → Option V
 | .panic x => Fa (g x)
 | .call c => match c.callee with
  | .builtin .panic => match c.args[0]? with
   | some x => Fa (g x)
   | none => none
  | _ => none
 | _ => none
noncomputable def Em (g : Operand → V) : Op → Option (FuncId × List V)
 | .defer c => match c.callee with
  | .value f => oFn (g f) (Wy g c.args.toList)
  | _ => none
 | _ => none
section
variable (P : Program) (O : Nat) (own : Bool) (call : Qr) (ops : List Oper) (n : Nat) (k : KC α)
noncomputable def YZ : List Oper → Ts → Qa → Ds → Option α
 | [],t,H,d => k .normal t H d
 | o :: rest,t,H,d => match aliasOf o with
  | some x => YZ rest (Zm t o.dst (QU n t x)) H d
  | none => match kindOf P own ops o.dst o.op with
   | .defer => match o.guard with
    | none => bdef (Em (QU n t) o.op) fun r => YZ rest (Zm t o.dst (.tup [])) H (r :: d)
    | some _ => none
   | .pure => bnd (guaK ops (QU n t) o (Bh P (QU n t) o.op) (some (.tup []))) fun v => YZ rest (Zm t o.dst v) H d
   | .lit => bnd (guaK ops (QU n t) o (Bc P (QU n t) o.op) (some (.tup []))) fun v => YZ rest (Zm t o.dst v) H d
   | .load => bnd (guaK ops (QU n t) o (KQ P (QU n t) H o.op) (some (.tup []))) fun v => YZ rest (Zm t o.dst v) H d
   | .eff | .fresh => beff (guaK ops (QU n t) o (Nz P O (QU n t) H o.op) (some (.tup [],H))) fun v H' => YZ rest (Zm t o.dst v) H' d
   | .call => bcall (guaK ops (QU n t) o (callX call (QU n t) H o.op) (some (.ret (.tup []),H))) (fun v H' => YZ rest (Zm t o.dst v) H' d) (fun v H' => k (.pan v) t H' d)
   | .panic => match o.guard with
    | none => bnd (FU (QU n t) o.op) fun v => k (.pan v) t H d
    | some _ => none
   | .none => none
noncomputable def chkE (ms : List Nat) (i : Nat) (op : Op) (g : Operand → V) (v : V) : List (Nat × Qa) → Option β → Option β
 | [],a => a
 | (e,H) :: r,a => match ahead ms i e with
  | true => chkE ms i op g v r a
  | false => sch (sam (KQ P g H op) v) (chkE ms i op g v r a)
def F9 (ms : List Nat) (i : Nat) : List (Nat × Qa) → Bool
 | [] => false
 | (e,H) :: r => match ahead ms i e with
  | true => F9 ms i r
  | false => true
noncomputable def GJ (ms : List Nat) (i : Nat) (op : Op) (g : Operand → V) (es : List (Nat × Qa)) (x : Option V) : Option V :=
 match F9 ms i es with
 | false => x
 | true => bnd x fun v => chkE P ms i op g v es (some v)
noncomputable def Um (ms : List Nat) (p : Nat) (es : List (Nat × Qa)) : Nat → List Oper → Ts → Qa → Bool
 | _,[],_,_ => true
 | i,o :: rest,t,H =>
  match ahead ms i p with
  | true => Um ms p es (i + 1) rest t H
  | false => match kindOf P own ops o.dst o.op with
   | .pure => tlb (guaK ops (QU n t) o (Bh P (QU n t) o.op) (some (.tup []))) fun v => Um ms p es (i + 1) rest (Zm t o.dst v) H
   | .lit => tlb (guaK ops (QU n t) o (Bc P (QU n t) o.op) (some (.tup []))) fun v => Um ms p es (i + 1) rest (Zm t o.dst v) H
   | .load => tlb (guaK ops (QU n t) o (GJ P ms i o.op (QU n t) es (KQ P (QU n t) H o.op)) (some (.tup []))) fun v => Um ms p es (i + 1) rest (Zm t o.dst v) H
   | _ => false
structure LdX where
 i : Nat
 op : Op
 g : Operand → V
 v : V
noncomputable def chkL (ms : List Nat) (j : Nat) (H : Qa) : List LdX → Option β → Option β
 | [],a => a
 | l :: r,a => match ahead ms j l.i with
  | true => chkL ms j H r a
  | false => sch (sam (KQ P l.g H l.op) l.v) (chkL ms j H r a)
def Gn (ms : List Nat) (p : Nat) : Nat → List Oper → Bool
 | _,[] => true
 | i,_ :: r => match ahead ms i p with
  | true => Gn ms p (i + 1) r
  | false => false
noncomputable def chkT (ms : List Nat) (p : Nat) (es : List (Nat × Qa)) (i : Nat) (rest : List Oper) (t : Ts) (H : Qa) (a : Option β) : Option β :=
 match Gn ms p i rest with
 | true => a
 | false => sch (Um P own ops n ms p es i rest t H) a
noncomputable def YM (t0 : Ts) (ms : List Nat) : Nat → List Oper → List LdX → List (Nat × Qa) → Ts → Qa → Ds → Option α
 | _,[],_,_,t,H,d => k .normal t H d
 | i,o :: rest,ls,es,t,H,d => match aliasOf o with
  | some x => YM t0 ms (i + 1) rest ls es (Zm t o.dst (QU n t x)) H d
  | none => match kindOf P own ops o.dst o.op with
   | .pure => bnd (guaK ops (QU n t) o (Bh P (QU n t) o.op) (some (.tup []))) fun v => YM t0 ms (i + 1) rest ls es (Zm t o.dst v) H d
   | .lit => bnd (guaK ops (QU n t) o (Bc P (QU n t) o.op) (some (.tup []))) fun v => YM t0 ms (i + 1) rest ls es (Zm t o.dst v) H d
   | .load => match later P own ops ms i with
    | true => bnd (guaK ops (QU n t) o (GJ P ms i o.op (QU n t) es (KQ P (QU n t) H o.op)) (some (.tup []))) fun v => YM t0 ms (i + 1) rest ls es (Zm t o.dst v) H d
    | false => match o.guard with
     | none => bnd (KQ P (QU n t) H o.op) fun v => chkE P ms i o.op (QU n t) v es (YM t0 ms (i + 1) rest ({ i,op := o.op,g := QU n t,v } :: ls) es (Zm t o.dst v) H d)
     | some _ => none
   | .eff | .fresh => beff (guaK ops (QU n t) o (Nz P O (QU n t) H o.op) (some (.tup [],H))) fun v H' => chkL P ms i H' ls (YM t0 ms (i + 1) rest ls ((i,H) :: es) (Zm t o.dst v) H' d)
   | .call => bcall (guaK ops (QU n t) o (callX call (QU n t) H o.op) (some (.ret (.tup []),H)))
     (fun v H' => chkL P ms i H' ls (YM t0 ms (i + 1) rest ls ((i,H) :: es) (Zm t o.dst v) H' d))
     (fun v H' => chkT P own ops n ms i es (i + 1) rest t H (k (.pan v) (Wo ops t0) H' d))
   | .panic => match o.guard with
    | none => bnd (FU (QU n t) o.op) fun v => chkT P own ops n ms i es (i + 1) rest t H (k (.pan v) (Wo ops t0) H d)
    | some _ => none
   | .defer | .none => none
end
noncomputable def lim (f : Nat → Option α) : Option α := by
 classical exact if h : ∃ x n,f n = some x then some (Classical.choose h) else none
def MA (f : Nat → Option α) : Prop := ∀ n x,f n = some x → f (n + 1) = some x
theorem MA.le {f : Nat → Option α} (h : MA f) {n m : Nat} (hnm : n ≤ m) {x : α} (hx : f n = some x) : f m = some x := by
 induction hnm with
 | refl => exact hx
 | step _ ih => exact h _ _ ih
theorem WH {f : Nat → Option α} {x : α} (h : lim f = some x) : ∃ n,f n = some x := by
 unfold lim at h
 split at h
 ·rename_i hx
  injection h with h
  obtain ⟨n,hn⟩ := Classical.choose_spec hx
  exact ⟨n,by rw [hn,h]⟩
 ·simp at h
theorem Vw {f : Nat → Option α} (hm : MA f) {n : Nat} {x : α} (h : f n = some x) : lim f = some x := by
 have hx : ∃ x n,f n = some x := ⟨x,n,h⟩
 unfold lim
 rw [dif_pos hx]
 obtain ⟨m,hc⟩ := Classical.choose_spec hx
 have h1 := hm.le (Nat.le_max_left n m) h
 have h2 := hm.le (Nat.le_max_right n m) hc
 rw [h1] at h2
 injection h2 with h2
 rw [h2]
theorem CG {x y : Option α} (h1 : ∀ a,x = some a → y = some a) (h2 : ∀ a,y = some a → x = some a) : x = y := by
 cases x with
 | some a => rw [h1 a rfl]
 | none => cases y with
  | some b => exact h2 b rfl
  | none => rfl
noncomputable def Qt (f : Ts → Qa → Ds → (Ts → Qa → Ds → Option α) → Option α) (t : Ts) (H : Qa) (d : Ds) : Option α := lim fun n => iter f n t H d
open Classical in
noncomputable def BL (H H' : Qa) (x : Option α) : Option α := if H = H' then x else none
noncomputable def sameX {α : Type} : Qa → Qa → Option α → Option α := shut BL
theorem J4 (H H' : Qa) (x : Option α) : sameX H H' x = BL H H' x := by unfold sameX; rw [QN]
theorem QqU {H H' : Qa} {x : Option α} {y : α} (h : sameX H H' x = some y) : H = H' ∧ x = some y := by
 rw [J4] at h
 unfold BL at h
 split at h
 ·exact ⟨by assumption,h⟩
 ·cases h
noncomputable def Mn (P : Program) (O : Nat) (own : Bool) (call : Qr) (ops : List Oper) (i n : Nat) (k : KC α) (t : Ts) (H : Qa) (d : Ds) : KC α := fun e t' H' d' => match e with
 | .normal => YZ P O own call (QA ops i) n (fun e2 t2 H2 d2 => match e2 with
  | .normal => sameX H' H2 (k .normal t' H' d')
  | _ => none) (Lz (QA ops i) i) t H d
 | _ => none
noncomputable def xC (P : Program) (O : Nat) (own : Bool) (ks : Ks) (call : Qr) (n : Nat) : Code → KC α → Ts → Qa → Ds → Option α
 | .skip,k,t,H,d | .label _,k,t,H,d => k .normal t H d
 | .region _ ops draw,k,t,H,d =>
  match draw with
  | true => match Vl P own ops.toList with
   | true => YM P O own call ops.toList n k t (ZX ops.toList []) 0 ops.toList [] [] t H d
   | false => match Pj P own ops.toList with
    | some i => YM P O own call (QA ops.toList i) n (Mn P O own call ops.toList i n k t H d) t (ZX (QA ops.toList i) []) 0 (QA ops.toList i) [] [] t H d
    | none => none
  | false => YZ P O own call ops.toList n k ops.toList t H d
 | .seq a b,k,t,H,d => xC P O own ks call n a (Qg (fun _ t => xC P O own ks call n b k (Qf ks b t)) k) t H d
 | .cond c a b,k,t,H,d => cnd (QU n t c) (xC P O own ks call n a k t H d) (xC P O own ks call n b k t H d)
 | .block id b,k,t,H,d => xC P O own ks call n b (Qe id k) t H d
 | .loop b,k,t,H,d => Qt (fun t H d again => xC P O own ks call n b (Ql ks b again k) t H d) (Qf ks b t) H d
 | .scope b,k,t,H,d => xC P O own ks call n b k t H d
 | .exit id,k,t,H,d => k (.exit id) t H d
 | .ret,k,t,H,d => k .ret t H d
 | _,_,_,_,_ => none
section
variable {P : Program} {O : Nat} {own : Bool} {call : Qr} {ops : List Oper} {n : Nat} {k : KC α}
theorem Qpm (t : Ts) (o : Oper) (a b : Option β) : guaK ops (QU n t) o a b = Z5 ops (tl n t) o a b := by
 unfold guaK Z5
 cases hg : o.guard with
 | none => rfl
 | some jw =>
  obtain ⟨j,want⟩ := jw
  simp only
  cases hj : ops[j]? with
  | none => simp
  | some oj =>
   simp only [Option.bind_some]
   cases hd : oj.dst with
   | none => rfl
   | some d => simp only [hd]; rw [VG,← JC]; rfl
theorem D8 {t : Ts} {op : Op} : Bh P (QU n t) op = KR P (tl n t) op := by rw [← JC,Qkc]
theorem AG {t : Ts} {op : Op} : Bc P (QU n t) op = WR P (tl n t) op := by rw [← JC,Qkq]
theorem B7 {t : Ts} {H : Qa} {op : Op} : KQ P (QU n t) H op = KP P (tl n t) H op := by rw [← JC,Qkx]
theorem LJ {t : Ts} {H : Qa} {op : Op} : Nz P O (QU n t) H op = UM P O (tl n t) H op := by rw [← JC,QqM]
theorem QgD {t : Ts} {H : Qa} {op : Op} {r : Out × Qa} (h : callX call (QU n t) H op = some r) : ((Ko (tl n t) op).bind fun r => call r.1 r.2 H) = some r := by
 cases op <;> simp only [callX] at h <;> (try (simp at h; done))
 rename_i c
 simp only [Ko]
 split at h
 ·rename_i f hc
  simp only [hc]
  split at h
  ·rw [← JC,VO] at h
   simp only [env,List.append_nil,Option.bind_some]
   exact h
  ·rw [E0] at h
   unfold Er rFn at h
   rw [← JC,VO] at h
   exact h
 ·simp at h
theorem Qe3 {t : Ts} {op : Op} : FU (QU n t) op = Kj (tl n t) op := by
 rw [← JC]
 cases op <;> (try simp only [FU,Kj,Qhq,AN]) <;> rfl
theorem QpR {t : Ts} {op : Op} : Em (QU n t) op = QrC (tl n t) op := by
 rw [← JC]
 cases op <;> (try simp only [Em,QrC,QgV,rFn,VO]) <;> rfl
theorem QdT {o : Oper} {x : Operand} (h : aliasOf o = some x) : o.guard = none ∧ (o.op = .move x ∨ o.op = .assign x) := by
 unfold aliasOf at h
 split at h
 ·simp at h
 ·rename_i hg
  refine ⟨hg,?_⟩
  split at h
  ·injection h with h; subst h; exact .inl ‹_›
  ·injection h with h; subst h; exact .inr ‹_›
  ·simp at h
theorem QeD {o : Oper} {x : Operand} (h : aliasOf o = some x) : kindOf P own ops o.dst o.op = .pure := by
 obtain ⟨_,h | h⟩ := QdT h <;> rw [h] <;> rfl
theorem QgR {o : Oper} {x : Operand} {t : Ts} (h : aliasOf o = some x) : Z5 ops (tl n t) o (KR P (tl n t) o.op) (some (.tup [])) = some (QU n t x) := by
 obtain ⟨hg,h | h⟩ := QdT h <;> unfold Z5 <;> simp only [hg,h,KR,PH] <;> rw [JC]
theorem ZO {γ δ : Type} {x : Option γ} {f : γ → Option δ} {y : δ} (h : x.bind f = some y) : ∃ a,x = some a ∧ f a = some y := Option.bind_eq_some_iff.1 h
theorem Je {t : Ts} {o : Oper} {a a' b : Option β} {x : β} (ha : ∀ x,a = some x → a' = some x) (h : guaK ops (QU n t) o a b = some x) : Z5 ops (tl n t) o a' b = some x := by
 rw [Qpm] at h
 unfold Z5 at h ⊢
 cases hg : o.guard with
 | none => simp only [hg] at h ⊢; exact ha _ h
 | some jw =>
  obtain ⟨j,want⟩ := jw
  simp only [hg] at h ⊢
  cases hd : (ops[j]?).bind (·.dst) with
  | none => simp only [hd] at h ⊢; exact h
  | some d =>
   simp only [hd] at h ⊢
   generalize (tl n t).getD d .junk = y at h ⊢
   cases y with
   | bool c => simp only [KO] at h ⊢; split <;> simp_all
   | tup vs => simp only [KO] at h ⊢; exact h
   | _ => simp [KO] at h
theorem Ku : ∀ (l : List Oper) {t : Ts} {H : Qa} {d : Ds} {x : α},YZ P O own call ops n k l t H d = some x → J1 P O own call ops n k l t H d = some x
 | [],t,H,d,x,h => h
 | o :: rest,t,H,d,x,h => by
  simp only [YZ] at h
  simp only [J1]
  split at h
  ·rename_i y hy
   simp only [QeD hy,QgR hy,Option.bind_some]
   exact Ku rest h
  ·split at h <;> rename_i hk <;> (try simp only [hk])
   ·split at h
    ·rename_i hg
     rw [N2] at h
     obtain ⟨r,h1,h2⟩ := ZO h
     rw [QpR] at h1
     simp only [hg,Option.isNone_none,if_true]
     rw [h1]
     exact Ku rest h2
    ·simp at h
   ·rw [Jm] at h
    obtain ⟨v,h1,h2⟩ := ZO h
    rw [Je (fun x hx => by rw [← D8]; exact hx) h1]
    exact Ku rest h2
   ·rw [Jm] at h
    obtain ⟨v,h1,h2⟩ := ZO h
    rw [Je (fun x hx => by rw [← AG]; exact hx) h1]
    exact Ku rest h2
   ·rw [Jm] at h
    obtain ⟨v,h1,h2⟩ := ZO h
    rw [Je (fun x hx => by rw [← B7]; exact hx) h1]
    exact Ku rest h2
   ·rw [VJ] at h
    obtain ⟨v,h1,h2⟩ := ZO h
    rw [Je (fun x hx => by rw [← LJ]; exact hx) h1]
    exact Ku rest h2
   ·rw [VJ] at h
    obtain ⟨v,h1,h2⟩ := ZO h
    rw [Je (fun x hx => by rw [← LJ]; exact hx) h1]
    exact Ku rest h2
   ·rw [UN] at h
    obtain ⟨r,h1,h2⟩ := ZO h
    rw [Je (fun x hx => QgD hx) h1]
    simp only [Option.bind_some]
    obtain ⟨r,H'⟩ := r
    cases r with
    | ret v => exact Ku rest h2
    | pan v => exact h2
   ·split at h
    ·rename_i hg
     rw [Jm] at h
     obtain ⟨v,h1,h2⟩ := ZO h
     rw [Qe3] at h1
     unfold Z5
     simp only [hg,h1,Option.map_some,Option.bind_some]
     exact h2
    ·simp at h
   ·simp at h
theorem Xq {b : Bool} {a : Option β} {x : β} (h : sch b a = some x) : b = true ∧ a = some x := by rw [BO] at h; exact K2 h
theorem Qf0 {a a' : Option V} {v : V} (ha : ∀ x,a = some x → a' = some x) (h : same a v = true) : same a' v = true := by
 cases a with
 | none => simp [same] at h
 | some y => rw [ha y rfl]; exact h
theorem Pn {ms : List Nat} {i : Nat} {op : Op} {t : Ts} {v : V} : ∀ {es : List (Nat × Qa)} {a : Option β} {x : β},chkE P ms i op (QU n t) v es a = some x → YC P ms i op (tl n t) v es = true ∧ a = some x
 | [],a,x,h => ⟨rfl,h⟩
 | (e,H) :: r,a,x,h => by
  simp only [chkE] at h
  simp only [YC]
  split at h
  ·rename_i ha
   obtain ⟨h1,h2⟩ := Pn h
   exact ⟨by rw [ha,h1]; rfl,h2⟩
  ·obtain ⟨h0,h⟩ := Xq h
   obtain ⟨h1,h2⟩ := Pn h
   rw [Cx,B7] at h0
   exact ⟨by rw [h1,Qf0 (fun x hx => Re hx) h0]; simp,h2⟩
theorem Qhu {ms : List Nat} {i : Nat} {op : Op} {t : List V} {v : V} : ∀ {es : List (Nat × Qa)},F9 ms i es = false → YC P ms i op t v es = true
 | [],h => rfl
 | (e,H) :: r,h => by
  simp only [F9] at h
  simp only [YC]
  split at h
  ·rename_i ha; rw [ha,Qhu h]; rfl
  ·simp at h
theorem Qhs {ms : List Nat} {i : Nat} {op : Op} {t : Ts} {es : List (Nat × Qa)} {H : Qa} {v : V} (h : GJ P ms i op (QU n t) es (KQ P (QU n t) H op) = some v) :
  ((KP P (tl n t) H op).bind fun v => chk (YC P ms i op (tl n t) v es) (some v)) = some v := by
 unfold GJ at h
 split at h
 ·rename_i he
  rw [B7] at h
  rw [h]
  simp only [Option.bind_some]
  rw [Qhu he]; rfl
 ·rw [Jm] at h
  obtain ⟨u,h1,h2⟩ := ZO h
  obtain ⟨h3,h4⟩ := Pn h2
  injection h4 with h4; subst h4
  rw [B7] at h1
  rw [h1]
  simp only [Option.bind_some]
  rw [h3]; rfl
theorem Nj {ms : List Nat} {p : Nat} {es : List (Nat × Qa)} : ∀ (l : List Oper) {i : Nat} {t : Ts} {H : Qa},Um P own ops n ms p es i l t H = true → JL P own ops n ms p es i l t H = true
 | [],i,t,H,h => rfl
 | o :: rest,i,t,H,h => by
  simp only [Um] at h
  simp only [JL]
  split at h
  ·rename_i ha; rw [if_pos ha]; exact Nj rest h
  ·rename_i ha
   rw [if_neg (by simp [ha])]
   split at h <;> rename_i hk <;> (try simp only [hk])
   ·rw [Cb] at h
    obtain ⟨v,h1,h2⟩ := BD h
    rw [Je (fun x hx => by rw [← D8]; exact hx) h1]
    exact Nj rest h2
   ·rw [Cb] at h
    obtain ⟨v,h1,h2⟩ := BD h
    rw [Je (fun x hx => by rw [← AG]; exact hx) h1]
    exact Nj rest h2
   ·rw [Cb] at h
    obtain ⟨v,h1,h2⟩ := BD h
    rw [Je (fun x hx => Qhs hx) h1]
    exact Nj rest h2
   ·simp at h
inductive LdsR (n : Nat) : List LdX → List Ld → Prop
 | nil : LdsR n [] []
 | cons {l l'} {i : Nat} {op : Op} {t : Ts} {v : V} : LdsR n l l' → LdsR n ({ i,op,g := QU n t,v } :: l) ({ i,op,t := tl n t,v } :: l')
theorem EX {ms : List Nat} {j : Nat} {H : Qa} {ls : List LdX} {ls' : List Ld} (hl : LdsR n ls ls') : ∀ {a : Option β} {x : β},chkL P ms j H ls a = some x → Jy P ms j H ls' = true ∧ a = some x := by
 induction hl with
 | nil => exact fun {a x} h => ⟨rfl,h⟩
 | cons hl ih =>
  intro a x h
  simp only [chkL] at h
  simp only [Jy]
  split at h
  ·rename_i ha
   obtain ⟨h1,h2⟩ := ih h
   exact ⟨by rw [ha,h1]; rfl,h2⟩
  ·obtain ⟨h0,h⟩ := Xq h
   obtain ⟨h1,h2⟩ := ih h
   rw [Cx,B7] at h0
   exact ⟨by rw [h1,Qf0 (fun x hx => Re hx) h0]; simp,h2⟩
theorem Qd5 {ms : List Nat} {p : Nat} {es : List (Nat × Qa)} {t : Ts} {H : Qa} : ∀ {l : List Oper} {i : Nat},Gn ms p i l = true → JL P own ops n ms p es i l t H = true
 | [],i,h => rfl
 | o :: r,i,h => by
  simp only [Gn] at h
  simp only [JL]
  split at h
  ·rename_i ha; rw [if_pos ha]; exact Qd5 h
  ·simp at h
theorem QeR {ms : List Nat} {p : Nat} {es : List (Nat × Qa)} {i : Nat} {rest : List Oper} {t : Ts} {H : Qa} {a : Option β} {x : β} (h : chkT P own ops n ms p es i rest t H a = some x) :
  chk (JL P own ops n ms p es i rest t H) a = some x := by
 unfold chkT at h
 split at h
 ·rename_i ha; rw [Qd5 ha]; exact h
 ·obtain ⟨h1,h2⟩ := Xq h
  rw [Nj _ h1]; exact h2
theorem KH {t0 : Ts} {ms : List Nat} : ∀ (l : List Oper) {i : Nat} {ls : List LdX} {ls' : List Ld} {es : List (Nat × Qa)} {t : Ts} {H : Qa} {d : Ds} {x : α},LdsR n ls ls' →
  YM P O own call ops n k t0 ms i l ls es t H d = some x → J2 P O own call ops n k t0 ms i l ls' es t H d = some x
 | [],i,ls,ls',es,t,H,d,x,hl,h => h
 | o :: rest,i,ls,ls',es,t,H,d,x,hl,h => by
  simp only [YM] at h
  simp only [J2]
  split at h
  ·rename_i y hy
   simp only [QeD hy,QgR hy,Option.bind_some]
   exact KH rest hl h
  ·split at h <;> rename_i hk <;> (try simp only [hk])
   ·rw [Jm] at h
    obtain ⟨v,h1,h2⟩ := ZO h
    rw [Je (fun x hx => by rw [← D8]; exact hx) h1]
    exact KH rest hl h2
   ·rw [Jm] at h
    obtain ⟨v,h1,h2⟩ := ZO h
    rw [Je (fun x hx => by rw [← AG]; exact hx) h1]
    exact KH rest hl h2
   ·split at h
    ·rename_i hla
     rw [if_pos hla]
     rw [Jm] at h
     obtain ⟨v,h1,h2⟩ := ZO h
     rw [Je (fun x hx => Qhs hx) h1]
     exact KH rest hl h2
    ·rename_i hla
     rw [if_neg (by simp [hla])]
     split at h
     ·rename_i hg
      simp only [hg,Option.isNone_none,if_true]
      rw [Jm] at h
      obtain ⟨v,h1,h2⟩ := ZO h
      obtain ⟨h3,h4⟩ := Pn h2
      rw [B7] at h1
      rw [h1]
      simp only [Option.bind_some]
      rw [h3]
      exact KH rest (.cons hl) h4
     ·simp at h
   ·rw [VJ] at h
    obtain ⟨v,h1,h2⟩ := ZO h
    rw [Je (fun x hx => by rw [← LJ]; exact hx) h1]
    obtain ⟨h3,h4⟩ := EX hl h2
    simp only [Option.bind_some]
    rw [h3]
    exact KH rest hl h4
   ·rw [VJ] at h
    obtain ⟨v,h1,h2⟩ := ZO h
    rw [Je (fun x hx => by rw [← LJ]; exact hx) h1]
    obtain ⟨h3,h4⟩ := EX hl h2
    simp only [Option.bind_some]
    rw [h3]
    exact KH rest hl h4
   ·rw [UN] at h
    obtain ⟨r,h1,h2⟩ := ZO h
    rw [Je (fun x hx => QgD hx) h1]
    simp only [Option.bind_some]
    obtain ⟨r,H'⟩ := r
    cases r with
    | ret v =>
     simp only [JF] at h2 ⊢
     obtain ⟨h3,h4⟩ := EX hl h2
     rw [h3]
     exact KH rest hl h4
    | pan v => exact QeR h2
   ·split at h
    ·rename_i hg
     rw [Jm] at h
     obtain ⟨v,h1,h2⟩ := ZO h
     rw [Qe3] at h1
     unfold Z5
     simp only [hg,h1,Option.map_some,Option.bind_some]
     exact QeR h2
    ·simp at h
   ·simp at h
   ·simp at h
theorem Vo {ks : Ks} : ∀ (c : Code) {k : KC α} {t : Ts} {H : Qa} {d : Ds} {x : α},xC P O own ks call n c k t H d = some x →
  ∃ M e t' H' d',evC P O own ks call (JX P call M) c { t := tl n t,H,d } = some (e,{ t := tl n t',H := H',d := d' }) ∧ k e t' H' d' = some x
 | .skip,k,t,H,d,x,h | .label _,k,t,H,d,x,h => ⟨0,_,_,_,_,rfl,h⟩
 | .exit _,k,t,H,d,x,h | .ret,k,t,H,d,x,h => ⟨0,_,_,_,_,rfl,h⟩
 | .region _ ops draw,k,t,H,d,x,h => by
  simp only [xC] at h
  simp only [evC]
  cases draw with
  | true =>
   simp only [if_true] at h ⊢
   split at h
   ·rename_i hok
    simp only [if_pos hok]
    obtain ⟨e,t',H',d',h1,h2⟩ := Jj (ls' := []) (es' := []) _ 0 rfl (fun e h => h) (fun l h => by simp at h) (KH _ .nil h)
    exact ⟨0,e,t',H',d',h1,h2⟩
   ·rename_i hok
    rw [if_neg (by rw [hok]; simp)]
    split at h
    ·rename_i i hi
     obtain ⟨e,t',H',d',h1,h2⟩ := Jj (ls' := []) (es' := []) _ 0 rfl (fun e h => h) (fun l h => by simp at h) (KH _ .nil h)
     rw [List.drop_zero] at h1
     match e,h1,h2 with
     | .normal,h1,h2 =>
     simp only [Mn] at h2
     obtain ⟨e2,t2,H2,d2,h3,h4⟩ := YY _ (Ku _ h2)
     match e2,h3,h4 with
     | .normal,h3,h4 =>
     obtain ⟨rfl,h5⟩ := QqU h4
     exact ⟨0,.normal,t',H',d',by simp only [F0,hi,h1,h3,Option.bind_some,if_true],h5⟩
    ·cases h
  | false =>
   simp only [Bool.false_eq_true,if_false] at h ⊢
   obtain ⟨e,t',H',d',h1,h2⟩ := YY _ (Ku _ h)
   exact ⟨0,e,t',H',d',h1,h2⟩
 | .seq a b,k,t,H,d,x,h => by
  simp only [xC] at h
  simp only [evC]
  obtain ⟨m,e,t',H',d',h1,h2⟩ := Vo a h
  cases e with
  | normal =>
   simp only [Qg] at h2
   obtain ⟨n2,e2,t2,H2,d2,h3,h4⟩ := Vo b h2
   refine ⟨max m n2,e2,t2,H2,d2,?_,h4⟩
   rw [Kr (P5 (Nat.le_max_left m n2)) a h1]
   simp only [Option.bind_some]
   simp only [DX]
   exact Kr (P5 (Nat.le_max_right m n2)) b h3
  | _ => exact ⟨m,_,t',H',d',by rw [h1]; rfl,h2⟩
 | .cond c a b,k,t,H,d,x,h => by
  simp only [xC] at h
  simp only [evC]
  rw [VZ,← JC] at h
  unfold Ed at h
  split at h
  ·rename_i hc; simp only [hc]; exact Vo a h
  ·rename_i hc; simp only [hc]; exact Vo b h
  ·simp at h
 | .block id b,k,t,H,d,x,h => by
  simp only [xC] at h
  simp only [evC]
  obtain ⟨m,e,t',H',d',h1,h2⟩ := Vo b h
  refine ⟨m,?_⟩
  rw [h1]
  simp only [Option.bind_some]
  cases e with
  | exit j =>
   simp only [Qe] at h2
   split at h2
   ·rename_i hj; simp only [if_pos hj]; exact ⟨_,_,_,_,rfl,h2⟩
   ·rename_i hj; simp only [if_neg hj]; exact ⟨_,_,_,_,rfl,h2⟩
  | _ => exact ⟨_,_,_,_,rfl,h2⟩
 | .loop b,k,t,H,d,x,h => by
  simp only [xC] at h
  have key : ∀ (m : Nat) {t : Ts} {H : Qa} {d : Ds},iter (fun t H d again => xC P O own ks call n b (Ql ks b again k) t H d) m (Qf ks b t) H d = some x →
    ∃ M e t' H' d',JX P call M O own ks b { t := tl n t,H,d } = some (e,{ t := tl n t',H := H',d := d' }) ∧ k e t' H' d' = some x := by
   intro m
   induction m with
   | zero => intro t H d h; simp [iter] at h
   | succ m ih =>
    intro t H d h
    simp only [iter] at h
    obtain ⟨m1,e,t',H',d',h1,h2⟩ := Vo b h
    cases e with
    | normal =>
     simp only [Ql] at h2
     obtain ⟨n2,e2,t2,H2,d2,h3,h4⟩ := ih h2
     refine ⟨max m1 n2 + 1,e2,t2,H2,d2,?_,h4⟩
     simp only [JX,Vh,DX]
     rw [Kr (P5 (Nat.le_max_left m1 n2)) b h1]
     simp only [Option.bind_some]
     exact P5 (Nat.le_max_right m1 n2) _ _ _ _ _ _ h3
    | _ => exact ⟨m1 + 1,_,_,_,_,by simp only [JX,Vh,DX]; rw [h1]; rfl,h2⟩
  obtain ⟨N,hN⟩ := WH h
  obtain ⟨M,e,t',H',d',h1,h2⟩ := key N hN
  exact ⟨M,e,t',H',d',h1,h2⟩
 | .scope b,k,t,H,d,x,h => by
  simp only [xC] at h
  simp only [evC]
  exact Vo b h
 | .goto _,k,t,H,d,x,h => by simp [xC] at h
 | .rangeFunc ..,k,t,H,d,x,h => by simp [xC] at h
end
end Go.Ev
end
section
namespace Go.Ev
variable {α : Type} {β : Type}
abbrev RR := Ex × Ts × Qa × Ds
def Kp : KC RR := fun e t H d => some (e,t,H,d)
def KM (k : KC α) (r : RR) : Option α := k r.1 r.2.1 r.2.2.1 r.2.2.2
section
variable {P : Program} {O : Nat} {own : Bool} {call : Qr} {ops : List Oper} {n : Nat} {k : KC α}
theorem ES (b : Bool) (a : Option β) (f : β → Option α) : (sch b a).bind f = sch b (a.bind f) := by
 rw [BO,BO]; cases b <;> rfl
theorem DU {ms : List Nat} {i : Nat} {op : Op} {g : Operand → V} {v : V} {a : Option β} {f : β → Option α} : ∀ {es : List (Nat × Qa)},(chkE P ms i op g v es a).bind f = chkE P ms i op g v es (a.bind f)
 | [] => rfl
 | (e,H) :: r => by
  simp only [chkE]
  split
  ·exact DU
  ·rw [ES,DU]
theorem RJ {ms : List Nat} {j : Nat} {H : Qa} {a : Option β} {f : β → Option α} : ∀ {ls : List LdX},(chkL P ms j H ls a).bind f = chkL P ms j H ls (a.bind f)
 | [] => rfl
 | l :: r => by
  simp only [chkL]
  split
  ·exact RJ
  ·rw [ES,RJ]
theorem T9 {ms : List Nat} {p : Nat} {es : List (Nat × Qa)} {i : Nat} {rest : List Oper} {t : Ts} {H : Qa} {a : Option β} {f : β → Option α} :
  (chkT P own ops n ms p es i rest t H a).bind f = chkT P own ops n ms p es i rest t H (a.bind f) := by
 unfold chkT
 split
 ·rfl
 ·rw [ES]
theorem K6 (x : Option V) (f : V → Option β) (g : β → Option α) : (bnd x f).bind g = bnd x fun v => (f v).bind g := by
 rw [Jm,Jm,Option.bind_assoc]
theorem Qkl (x : Option (FuncId × List V)) (f : FuncId × List V → Option β) (g : β → Option α) : (bdef x f).bind g = bdef x fun v => (f v).bind g := by
 rw [N2,N2,Option.bind_assoc]
theorem PE (x : Option (V × Qa)) (f : V → Qa → Option β) (g : β → Option α) : (beff x f).bind g = beff x fun v H => (f v H).bind g := by
 rw [VJ,VJ,Option.bind_assoc]
theorem QbY (x : Option (Out × Qa)) (f h : V → Qa → Option β) (g : β → Option α) : (bcall x f h).bind g = bcall x (fun v H => (f v H).bind g) (fun v H => (h v H).bind g) := by
 rw [UN,UN,Option.bind_assoc]
 congr 1
 funext r
 cases r.1 <;> rfl
theorem JN : ∀ (l : List Oper) {t : Ts} {H : Qa} {d : Ds},YZ P O own call ops n k l t H d = (YZ P O own call ops n Kp l t H d).bind (KM k)
 | [],t,H,d => rfl
 | o :: rest,t,H,d => by
  simp only [YZ]
  split
  ·exact JN rest
  ·split
   ·split
    ·rw [Qkl]; simp only [JN rest]
    ·rfl
   ·rw [K6]; simp only [JN rest]
   ·rw [K6]; simp only [JN rest]
   ·rw [K6]; simp only [JN rest]
   ·rw [PE]; simp only [JN rest]
   ·rw [PE]; simp only [JN rest]
   ·rw [QbY]; simp only [JN rest]; rfl
   ·split
    ·rw [K6]; rfl
    ·rfl
   ·rfl
theorem Jz {t0 : Ts} {ms : List Nat} : ∀ (l : List Oper) {i : Nat} {ls : List LdX} {es : List (Nat × Qa)} {t : Ts} {H : Qa} {d : Ds},
  YM P O own call ops n k t0 ms i l ls es t H d = (YM P O own call ops n Kp t0 ms i l ls es t H d).bind (KM k)
 | [],i,ls,es,t,H,d => rfl
 | o :: rest,i,ls,es,t,H,d => by
  simp only [YM]
  split
  ·exact Jz rest
  ·split
   ·rw [K6]; simp only [Jz rest]
   ·rw [K6]; simp only [Jz rest]
   ·split
    ·rw [K6]; simp only [Jz rest]
    ·split
     ·rw [K6]; simp only [Jz rest,DU]
     ·rfl
   ·rw [PE]; simp only [Jz rest,RJ]
   ·rw [PE]; simp only [Jz rest,RJ]
   ·rw [QbY]; simp only [Jz rest,RJ,T9]; rfl
   ·split
    ·rw [K6]; simp only [T9]; rfl
    ·rfl
   ·rfl
   ·rfl
def J8 (P : Program) (D : Ts → Qa → Ds → Option RR) (ks : Ks) (b : Code) (k : KC α) (t : Ts) (H : Qa) (d : Ds) (again : Ts → Qa → Ds → Option α) : Option α := (D t H d).bind (KM (Ql ks b again k))
theorem UZ {D : Ts → Qa → Ds → Option RR} {ks : Ks} {b : Code} : ∀ (m : Nat) {t : Ts} {H : Qa} {d : Ds} {x : α},iter (J8 P D ks b k) m t H d = some x → iter (J8 P D ks b k) (m + 1) t H d = some x
 | 0,t,H,d,x,h => by simp [iter] at h
 | m + 1,t,H,d,x,h => by
  rw [iter] at h ⊢
  unfold J8 at h ⊢
  obtain ⟨r,h1,h2⟩ := ZO h
  rw [h1]
  simp only [Option.bind_some]
  obtain ⟨e,t',H',d'⟩ := r
  cases e with
  | normal => exact UZ m h2
  | _ => exact h2
theorem Qg8 {D : Ts → Qa → Ds → Option RR} {ks : Ks} {b : Code} : ∀ (m : Nat) {t : Ts} {H : Qa} {d : Ds},iter (J8 P D ks b k) m t H d = (iter (J8 P D ks b Kp) m t H d).bind (KM k)
 | 0,t,H,d => rfl
 | m + 1,t,H,d => by
  rw [iter,iter]
  unfold J8
  rw [Option.bind_assoc]
  congr 1
  funext r
  obtain ⟨e,t',H',d'⟩ := r
  cases e with
  | normal => exact Qg8 m
  | _ => rfl
theorem QnQ {f : Nat → Option β} (hf : MA f) (g : β → Option α) : lim (fun n => (f n).bind g) = (lim f).bind g := by
 refine CG (fun a h => ?_) (fun a h => ?_)
 ·obtain ⟨n,hn⟩ := WH h
  obtain ⟨y,h1,h2⟩ := ZO hn
  rw [Vw hf h1]; exact h2
 ·obtain ⟨y,h1,h2⟩ := ZO h
  obtain ⟨n,hn⟩ := WH h1
  refine Vw (f := fun n => (f n).bind g) (n := n) (fun m x hx => ?_) (by simp only [hn]; exact h2)
  obtain ⟨z,h3,h4⟩ := ZO hx
  simp only [hf _ _ h3]; exact h4
theorem J7 {ks : Ks} : ∀ (c : Code) {α : Type} {k : KC α} {t : Ts} {H : Qa} {d : Ds},xC P O own ks call n c k t H d = (xC P O own ks call n c Kp t H d).bind (KM k)
 | .skip,_,k,t,H,d | .label _,_,k,t,H,d | .exit _,_,k,t,H,d | .ret,_,k,t,H,d => rfl
 | .region _ ops draw,_,k,t,H,d => by
  simp only [xC]
  split
  ·split
   ·exact Jz _
   ·split
    ·rw [Jz,Jz (k := Mn _ _ _ _ _ _ _ Kp _ _ _),Option.bind_assoc]
     congr 1
     funext r
     obtain ⟨e,t',H',d'⟩ := r
     cases e <;> simp only [KM,Mn,Option.bind_none]
     rw [JN]
     conv => rhs; rw [JN]
     rw [Option.bind_assoc]
     congr 1
     funext r
     obtain ⟨e2,t2,H2,d2⟩ := r
     cases e2 <;> simp only [KM,Option.bind_none]
     rw [J4,J4]
     unfold BL
     split <;> rfl
    ·rfl
  ·exact JN _
 | .seq a b,_,k,t,H,d => by
  simp only [xC]
  rw [J7 a,J7 a (k := Qg _ Kp),Option.bind_assoc]
  congr 1
  funext r
  obtain ⟨e,t',H',d'⟩ := r
  cases e with
  | normal => exact J7 b
  | _ => rfl
 | .cond c a b,_,k,t,H,d => by
  simp only [xC]
  rw [J7 a,J7 b,VZ,VZ]
  unfold Ed
  split <;> rfl
 | .block id b,_,k,t,H,d => by
  simp only [xC]
  rw [J7 b,J7 b (k := Qe id Kp),Option.bind_assoc]
  congr 1
  funext r
  obtain ⟨e,t',H',d'⟩ := r
  cases e with
  | exit j => simp only [KM,Qe]; split <;> rfl
  | _ => rfl
 | .loop b,_,k,t,H,d => by
  have e1 : ∀ {γ : Type} (k : KC γ),(fun t H d again => xC P O own ks call n b (Ql ks b again k) t H d) = J8 P (fun t H d => xC P O own ks call n b Kp t H d) ks b k := by
   intro γ k
   funext t H d again
   exact J7 b (k := Ql ks b again k)
  simp only [xC]
  rw [e1 k,e1 Kp]
  unfold Qt
  rw [← QnQ (fun m x h => UZ m h)]
  congr 1
  funext m
  exact Qg8 m
 | .scope b,_,k,t,H,d => by simp only [xC]; exact J7 b
 | .refuse _,_,k,t,H,d => rfl
 | .goto _,_,k,t,H,d => rfl
 | .rangeFunc ..,_,k,t,H,d => rfl
theorem QcF {ks : Ks} (b : Code) {k : KC α} : (fun t H d again => xC P O own ks call n b (Ql ks b again k) t H d) = J8 P (fun t H d => xC P O own ks call n b Kp t H d) ks b k := by
 funext t H d again
 exact J7 b (k := Ql ks b again k)
theorem Za {ks : Ks} (b : Code) (k : KC α) (t : Ts) (H : Qa) (d : Ds) : Qt (fun t H d again => xC P O own ks call n b (Ql ks b again k) t H d) t H d =
  xC P O own ks call n b (Ql ks b (fun t H d => Qt (fun t H d again => xC P O own ks call n b (Ql ks b again k) t H d) t H d) k) t H d := by
 rw [QcF b,J7 b (k := Ql ks b _ k)]
 refine CG (fun x h => ?_) (fun x h => ?_)
 ·obtain ⟨m,hm⟩ := WH h
  cases m with
  | zero => simp [iter] at hm
  | succ m =>
   rw [iter] at hm
   unfold J8 at hm
   obtain ⟨r,h1,h2⟩ := ZO hm
   simp only at h1
   rw [h1]
   simp only [Option.bind_some]
   obtain ⟨e,t',H',d'⟩ := r
   cases e with
   | normal => exact Vw (fun m x h => UZ m h) h2
   | _ => exact h2
 ·obtain ⟨r,h1,h2⟩ := ZO h
  obtain ⟨e,t',H',d'⟩ := r
  cases e with
  | normal =>
   obtain ⟨m,hm⟩ := WH h2
   refine Vw (n := m + 1) (fun m x h => UZ m h) ?_
   rw [iter]
   unfold J8
   simp only [h1,Option.bind_some]
   exact hm
  | _ =>
   refine Vw (n := 1) (fun m x h => UZ m h) ?_
   rw [iter]
   unfold J8
   simp only [h1,Option.bind_some]
   exact h2
theorem Has.nil : Has call [] := fun y h => by simp at h
theorem Has.append {L M : List Df} : Has call (L ++ M) ↔ Has call L ∧ Has call M := by
 unfold Has
 exact ⟨fun h => ⟨fun y hy => h y (List.mem_append_left _ hy),fun y hy => h y (List.mem_append_right _ hy)⟩,fun ⟨h1,h2⟩ y hy => (List.mem_append.1 hy).elim (h1 y) (h2 y)⟩
theorem Qi.const (x : Option α) : Qi (fun _ => x) call := fun y h => ⟨[],Has.nil,fun _ _ => h⟩
theorem Qi.bind {f : Qr → Option β} {g : Qr → β → Option α} (hf : Qi f call) (hg : ∀ b,Qi (fun c => g c b) call) : Qi (fun c => (f c).bind (g c)) call := by
 intro x h
 obtain ⟨b,h1,h2⟩ := ZO h
 obtain ⟨L,l1,l2⟩ := hf b h1
 obtain ⟨M,m1,m2⟩ := hg b x h2
 refine ⟨L ++ M,Has.append.2 ⟨l1,m1⟩,fun c hc => ?_⟩
 obtain ⟨c1,c2⟩ := Has.append.1 hc
 simp only [l2 c c1,Option.bind_some]
 exact m2 c c2
theorem Qi.one (f : FuncId) (args : List V) (H : Qa) : Qi (fun c => c f args H) call := fun x h => ⟨[(f,args,H,x)],fun y hy => by simp at hy; subst hy; exact h,fun c hc => hc (f,args,H,x) (by simp)⟩
theorem Qi.ite {f g : Qr → Option α} (b : Bool) (hf : Qi f call) (hg : Qi g call) : Qi (fun c => if b = true then f c else g c) call := by
 cases b
 ·simpa using hg
 ·simpa using hf
theorem Qi.congr {f g : Qr → Option α} (h : ∀ c,f c = g c) (hf : Qi g call) : Qi f call := by
 have : f = g := funext h
 rw [this]; exact hf
theorem Qi.bnd {x : Qr → Option V} {f : Qr → V → Option α} (hx : Qi x call) (hf : ∀ v,Qi (fun c => f c v) call) : Qi (fun c => bnd (x c) (f c)) call :=
 Qi.congr (fun c => Jm _ _) (Qi.bind hx hf)
theorem Qi.bdef {x : Option (FuncId × List V)} {f : Qr → FuncId × List V → Option α} (hf : ∀ v,Qi (fun c => f c v) call) : Qi (fun c => bdef x (f c)) call :=
 Qi.congr (fun c => N2 _ _) (Qi.bind (Qi.const x) hf)
theorem Qi.beff {x : Option (V × Qa)} {f : Qr → V → Qa → Option α} (hf : ∀ v H,Qi (fun c => f c v H) call) : Qi (fun c => beff x (f c)) call :=
 Qi.congr (g := fun c => x.bind fun r => f c r.1 r.2) (fun c => VJ _ _) (Qi.bind (g := fun c r => f c r.1 r.2) (Qi.const x) (fun r => hf r.1 r.2))
theorem Qi.bcall {x : Qr → Option (Out × Qa)} {f g : Qr → V → Qa → Option α} (hx : Qi x call) (hf : ∀ v H,Qi (fun c => f c v H) call) (hg : ∀ v H,Qi (fun c => g c v H) call) : Qi (fun c => bcall (x c) (f c) (g c)) call := by
 refine Qi.congr (g := fun c => (x c).bind fun r => JF r.1 (fun v => f c v r.2) (fun v => g c v r.2)) (fun c => UN _ _ _) (Qi.bind (g := fun c r => JF r.1 (fun v => f c v r.2) (fun v => g c v r.2)) hx fun r => ?_)
 obtain ⟨r,H⟩ := r
 cases r with
 | ret v => exact hf v H
 | pan v => exact hg v H
theorem Qi.sch {f : Qr → Option α} (b : Bool) (hf : Qi f call) : Qi (fun c => sch b (f c)) call := by
 cases b
 ·exact Qi.congr (g := fun _ => none) (fun c => by rw [BO]; rfl) (Qi.const none)
 ·exact Qi.congr (fun c => by rw [BO]; rfl) hf
theorem Qi.chkE {ms : List Nat} {i : Nat} {op : Op} {g : Operand → V} {v : V} {f : Qr → Option α} (hf : Qi f call) : ∀ (es : List (Nat × Qa)),Qi (fun c => chkE P ms i op g v es (f c)) call
 | [] => hf
 | (e,H) :: r => by
  simp only [Ev.chkE]
  split
  ·exact Qi.chkE hf r
  ·exact Qi.sch _ (Qi.chkE hf r)
theorem Qi.chkL {ms : List Nat} {j : Nat} {H : Qa} {f : Qr → Option α} (hf : Qi f call) : ∀ (ls : List LdX),Qi (fun c => chkL P ms j H ls (f c)) call
 | [] => hf
 | l :: r => by
  simp only [Ev.chkL]
  split
  ·exact Qi.chkL hf r
  ·exact Qi.sch _ (Qi.chkL hf r)
theorem Qi.chkT {ms : List Nat} {p : Nat} {es : List (Nat × Qa)} {i : Nat} {rest : List Oper} {t : Ts} {H : Qa} {f : Qr → Option α} (hf : Qi f call) : Qi (fun c => chkT P own ops n ms p es i rest t H (f c)) call := by
 simp only [Ev.chkT]
 split
 ·exact hf
 ·exact Qi.sch _ hf
theorem Qi.guaK {g : Operand → V} {o : Oper} {a : Qr → Option β} {b : Option β} (ha : Qi a call) : Qi (fun c => guaK ops g o (a c) b) call := by
 simp only [Ev.guaK]
 split
 ·exact ha
 ·split
  ·exact Qi.const _
  ·split
   ·exact Qi.const _
   ·rename_i d _
    generalize g (.tmp d) = y
    cases y with
    | bool c0 =>
     refine Qi.congr (g := fun c => if (c0 == _) = true then a c else b) (fun c => by rw [VG]; rfl) (Qi.ite _ ha (Qi.const b))
    | tup vs => exact Qi.congr (fun c => by rw [VG]; rfl) (Qi.const b)
    | _ => exact Qi.congr (g := fun _ => none) (fun c => by rw [VG]; rfl) (Qi.const none)
theorem Qi.callX {g : Operand → V} {H : Qa} (op : Op) : Qi (fun c => callX c g H op) call := by
 cases op <;> (try exact Qi.const none)
 rename_i c0
 simp only [Ev.callX]
 split
 ·split
  ·exact Qi.one _ _ _
  ·refine Qi.congr (fun c => by rw [E0]; rfl) (Qi.bind (f := fun _ => rFn _ _) (g := fun c q => c q.1 q.2 H) (Qi.const _) (fun q => Qi.one _ _ _))
 ·exact Qi.const none
theorem Kq : ∀ (l : List Oper) {t : Ts} {H : Qa} {d : Ds},Qi (fun c => YZ P O own c ops n k l t H d) call
 | [],t,H,d => Qi.const _
 | o :: rest,t,H,d => by
  simp only [YZ]
  split
  ·exact Kq rest
  ·split
   ·split
    ·exact Qi.bdef fun r => Kq rest
    ·exact Qi.const _
   ·exact Qi.bnd (Qi.const _) fun v => Kq rest
   ·exact Qi.bnd (Qi.const _) fun v => Kq rest
   ·exact Qi.bnd (Qi.const _) fun v => Kq rest
   ·exact Qi.beff fun v H => Kq rest
   ·exact Qi.beff fun v H => Kq rest
   ·exact Qi.bcall (Qi.guaK (Qi.callX _)) (fun v H => Kq rest) (fun v H => Qi.const _)
   ·split
    ·exact Qi.const _
    ·exact Qi.const _
   ·exact Qi.const _
theorem KD {t0 : Ts} {ms : List Nat} : ∀ (l : List Oper) {i : Nat} {ls : List LdX} {es : List (Nat × Qa)} {t : Ts} {H : Qa} {d : Ds},Qi (fun c => YM P O own c ops n k t0 ms i l ls es t H d) call
 | [],i,ls,es,t,H,d => Qi.const _
 | o :: rest,i,ls,es,t,H,d => by
  simp only [YM]
  split
  ·exact KD rest
  ·split
   ·exact Qi.bnd (Qi.const _) fun v => KD rest
   ·exact Qi.bnd (Qi.const _) fun v => KD rest
   ·split
    ·exact Qi.bnd (Qi.const _) fun v => KD rest
    ·split
     ·exact Qi.bnd (Qi.const _) fun v => Qi.chkE (KD rest) _
     ·exact Qi.const _
   ·exact Qi.beff fun v H => Qi.chkL (KD rest) _
   ·exact Qi.beff fun v H => Qi.chkL (KD rest) _
   ·exact Qi.bcall (Qi.guaK (Qi.callX _)) (fun v H => Qi.chkL (KD rest) _) (fun v H => Qi.const _)
   ·split
    ·exact Qi.const _
    ·exact Qi.const _
   ·exact Qi.const _
   ·exact Qi.const _
theorem Qi.app {f : Qr → Option RR} {k : Qr → KC α} (hf : Qi f call) (hk : ∀ e t H d,Qi (fun c => k c e t H d) call) : Qi (fun c => (f c).bind (KM (k c))) call :=
 Qi.bind (g := fun c r => KM (k c) r) hf (fun r => hk _ _ _ _)
theorem V4 {ks : Ks} : ∀ (c : Code) {k : Qr → KC α} {t : Ts} {H : Qa} {d : Ds},(∀ e t H d,Qi (fun c => k c e t H d) call) → Qi (fun cl => xC P O own ks cl n c (k cl) t H d) call
 | .skip,k,t,H,d,hk | .label _,k,t,H,d,hk | .exit _,k,t,H,d,hk | .ret,k,t,H,d,hk => hk _ _ _ _
 | .region _ ops draw,k,t,H,d,hk => by
  simp only [xC]
  split
  ·split
   ·exact Qi.congr (fun cl => Jz _) (Qi.app (KD _) hk)
   ·split
    ·refine Qi.congr (fun cl => Jz _) (Qi.app (KD _) fun e t' H' d' => ?_)
     cases e <;> simp only [Mn] <;> try exact Qi.const _
     refine Qi.congr (fun cl => JN _) (Qi.app (Kq _) fun e2 t2 H2 d2 => ?_)
     cases e2 <;> try exact Qi.const _
     simp only [J4,BL]
     split
     ·exact hk _ _ _ _
     ·exact Qi.const _
    ·exact Qi.const _
  ·exact Qi.congr (fun cl => JN _) (Qi.app (Kq _) hk)
 | .seq a b,k,t,H,d,hk => by
  simp only [xC]
  refine V4 a fun e t H d => ?_
  cases e with
  | normal => exact V4 b hk
  | _ => exact hk _ _ _ _
 | .cond c a b,k,t,H,d,hk => by
  simp only [xC]
  generalize QU n t c = y
  have : ∀ (f g : Qr → Option α),Qi f call → Qi g call → Qi (fun cl => cnd y (f cl) (g cl)) call := by
   intro f g hf hg
   match y with
   | .bool true => exact Qi.congr (fun c => by rw [VZ]; rfl) hf
   | .bool false => exact Qi.congr (fun c => by rw [VZ]; rfl) hg
   | .junk | .int _ _ | .str _ | .nilptr | .ptr _ _ _ | .fptr _ | .nils | .emp | .vs _ | .rs _ _ _ _ _ | .fn _ _ | .nilfn | .niface | .iface _ _ | .agg _ | .tup _ | .nilmap | .mapr _ =>
    exact Qi.congr (g := fun _ => none) (fun c => by rw [VZ]; rfl) (Qi.const none)
  exact this _ _ (V4 a hk) (V4 b hk)
 | .block id b,k,t,H,d,hk => by
  simp only [xC]
  refine V4 b fun e t H d => ?_
  cases e with
  | exit j => simp only [Qe]; split <;> exact hk _ _ _ _
  | _ => exact hk _ _ _ _
 | .loop b,k,t,H,d,hk => by
  simp only [xC]
  intro x h
  have key : ∀ (m : Nat) {t : Ts} {H : Qa} {d : Ds},Qi (fun cl => iter (fun t H d again => xC P O own ks cl n b (Ql ks b again (k cl)) t H d) m t H d) call := by
   intro m
   induction m with
   | zero => intro t H d; exact Qi.const _
   | succ m ih =>
    intro t H d
    refine Qi.congr (fun cl => rfl) (V4 b (k := fun cl => Ql ks b (fun t H d => iter (fun t H d again => xC P O own ks cl n b (Ql ks b again (k cl)) t H d) m t H d) (k cl)) fun e t H d => ?_)
    cases e with
    | normal => exact ih
    | _ => exact hk _ _ _ _
  obtain ⟨m,hm⟩ := WH h
  obtain ⟨L,l1,l2⟩ := key m x hm
  refine ⟨L,l1,fun cl hcl => Vw (n := m) (fun m x h => ?_) (l2 cl hcl)⟩
  rw [QcF b] at h ⊢
  exact UZ m h
 | .scope b,k,t,H,d,hk => by simp only [xC]; exact V4 b hk
 | .goto _,k,t,H,d,hk => Qi.const _
 | .refuse _,k,t,H,d,hk => Qi.const _
 | .rangeFunc ..,k,t,H,d,hk => Qi.const _
end
end Go.Ev
end
section
namespace Go.Ev
variable {T : Zc}
variable {α : Type} {β : Type}
noncomputable def rt : Bool → Nat → V → Qa → Option (Out × Qa) := shut U9
theorem Ly : rt = U9 := QN _
noncomputable def pn : Bool → Nat → V → Qa → Option (Out × Qa) := shut PU
theorem Qg5 : pn = PU := QN _
def Qkv (x : Option (Bool × Qa)) (f : Qa → Option α) : Option α := x.bind fun r => f r.2
noncomputable def bdn {α : Type} : Option (Bool × Qa) → (Qa → Option α) → Option α := shut Qkv
theorem QhC (x : Option (Bool × Qa)) (f : Qa → Option α) : bdn x f = x.bind fun r => f r.2 := by unfold bdn; rw [QN]; rfl
def CU (x : Option (Bool × Qa)) (f g : Qa → Option α) : Option α := x.bind fun r => match r.1 with
 | true => f r.2
 | false => g r.2
noncomputable def bdp {α : Type} : Option (Bool × Qa) → (Qa → Option α) → (Qa → Option α) → Option α := shut CU
theorem EP (x : Option (Bool × Qa)) (f g : Qa → Option α) : bdp x f g = CU x f g := by unfold bdp; rw [QN]
noncomputable def Bm (P : Program) (n : Nat) (t : Ts) (H : Qa) : List ResultVar → (List V → Option α) → Option α
 | [],k => k []
 | .tmp i :: rs,k => Bm P n t H rs fun vs => k (QU n t (.tmp i) :: vs)
 | .cell a ty :: rs,k => match Zo P ty with
  | some ag => match QB P ty with
   | some m => bnd (Qc ag m H (QU n t (.tmp a))) fun v => Bm P n t H rs fun vs => k (v :: vs)
   | none => none
  | none => none
noncomputable def KL (P : Program) (dfr : ZF) (keep : Bool) (O n : Nat) (rs : List ResultVar) (t : Ts) : Ds → Option V → Qa → Option (Out × Qa)
 | [],m,H => match m with
  | none => Bm P n t H rs fun vs => rt keep O (C9 vs) H
  | some v => pn keep O v H
 | d :: ds,m,H => match m with
  | none => bdn (dfr d.1 d.2 none H) fun H' => KL P dfr keep O n rs t ds none H'
  | some v => bdp (dfr d.1 d.2 (some v) H) (fun H' => KL P dfr keep O n rs t ds none H') (fun H' => KL P dfr keep O n rs t ds (some v) H')
noncomputable def QP (P : Program) (dfr : ZF) (keep : Bool) (O n : Nat) (rs : List ResultVar) : KC (Out × Qa) := fun e t H d =>
 match e with
 | .normal | .ret => KL P dfr keep O n rs t d none H
 | .pan v => KL P dfr keep O n rs t d (some v) H
 | .exit _ => none
noncomputable def FI (P : Program) (own : Bool) (ks : Ks) (keep : Bool) (call : Qr) (dfr : ZF) (c : Code) (rs : List ResultVar) (n : Nat) (args : List V) (H : Qa) : Option (Out × Qa) :=
 xC P H.length own ks call n c (QP P dfr keep H.length n rs) (Ry 0 args) H []
section
variable {P : Program}
theorem Ay {n : Nat} {t : Ts} {H : Qa} : ∀ {rs : List ResultVar} {k : List V → Option α} {x : α},Bm P n t H rs k = some x → Ws P (tl n t) H rs k = some x
 | [],k,x,h => h
 | .tmp i :: rs,k,x,h => by
  simp only [Bm] at h
  simp only [Ws]
  have := Ay h
  rw [← JC] at this
  exact this
 | .cell a ty :: rs,k,x,h => by
  simp only [Bm] at h
  simp only [Ws]
  split at h
  ·rename_i ag ha
   split at h
   ·rename_i m hm
    rw [Jm,← JC,UA] at h
    obtain ⟨v,h1,h2⟩ := ZO h
    simp only [WX,ha,hm,Option.bind_some]
    rw [show (tl n t).getD a .junk = env (tl n t) (.tmp a) from rfl,h1]
    exact Ay h2
   ·simp at h
  ·simp at h
theorem BM {dfr : ZF} {keep : Bool} {O n : Nat} {rs : List ResultVar} {t : Ts} : ∀ {d : Ds} {m : Option V} {H : Qa} {x : Out × Qa},KL P dfr keep O n rs t d m H = some x → UD P dfr keep O n rs t d m H = some x
 | [],none,H,x,h => by
  simp only [KL,Ly] at h
  exact Ay h
 | [],some v,H,x,h => by
  simp only [KL,Qg5] at h
  exact h
 | d :: ds,none,H,x,h => by
  simp only [KL,QhC] at h
  obtain ⟨r,h1,h2⟩ := ZO h
  simp only [UD,h1,Option.bind_some]
  simp only [ite_self]
  exact BM h2
 | d :: ds,some v,H,x,h => by
  simp only [KL,EP] at h
  unfold CU at h
  obtain ⟨⟨b,H'⟩,h1,h2⟩ := ZO h
  simp only [UD,h1,Option.bind_some]
  cases b with
  | true => exact BM h2
  | false => exact BM h2
def WF (b : Bool) (args : List V) : List V := match b with
 | true => args.map V.nrm
 | false => args
theorem Qme (b : Bool) (args : List V) : (WF b args).length = args.length := by cases b <;> simp [WF]
theorem Qnf {S : Ctx} {b : Bool} {args : List V} {us : Array Value} (h : RelA S args us) : RelA S (WF b args) us := by
 cases b with
 | false => exact h
 | true =>
  obtain ⟨h1,h2⟩ := h
  refine ⟨by simpa [WF] using h1,fun j v u hv hu => ?_⟩
  simp only [WF,List.getElem?_map,Option.map_eq_some_iff] at hv
  obtain ⟨w,hw,rfl⟩ := hv
  exact Gq (h2 j w u hw hu)
def Pm : V → Bool
 | .bool _ | .int _ _ | .str _ => true
 | _ => false
noncomputable def C4 (H : Qa) (r : Out × Qa) : Option (Out × Qa) := match r with
 | (.ret v,[]) => if Pm v = true then some (.ret v,H) else none
 | _ => none
theorem Qqj {H H' : Qa} {r : Out × Qa} {o : Out} (h : C4 H r = some (o,H')) : ∃ v,r = (.ret v,[]) ∧ Pm v = true ∧ o = .ret v ∧ H' = H := by
 unfold C4 at h
 split at h
 ·split at h
  ·rename_i hp
   simp only [Option.some.injEq,Prod.mk.injEq] at h
   exact ⟨_,rfl,hp,h.1.symm,h.2.symm⟩
  ·cases h
 ·cases h
noncomputable def MF (call : Qr) (f : FuncId) (args : List V) (H : Qa) : Option (Out × Qa) :=
 (Ye (frz H 0 depth) args).bind fun a => if Q1 a = true then (call f a []).bind (C4 H) else none
noncomputable def Kv (P : Program) (h : Hint) (call : Qr) (dfr : ZF) (f : FuncId) (args : List V) (H : Qa) : Option (Out × Qa) :=
 match h.orc f with
 | some g => g call args H
 | none => match h.intr f with
 | some g => g args H
 | none => match P.funcs[f]? with
  | none => none
  | some fn => match fn.body with
   | none => none
   | some c => if args.length ≤ fn.ntmps then FI P (h.own f) (h.ks f) (h.keep f) call dfr c fn.results.toList fn.ntmps (WF (h.nrm f) args) H else none
noncomputable def Vp (P : Program) (h : Hint) (call : Qr) (dfr : ZF) (f : FuncId) (args : List V) (H : Qa) : Option (Out × Qa) :=
 match h.lend f && !Q1 args with
 | true => MF call f args H
 | false => Kv P h call dfr f args H
theorem QkV {call : Qr} {f : FuncId} {args : List V} {H : Qa} : Qi (fun c => MF c f args H) call := by
 unfold MF
 refine Qi.bind (f := fun _ => Ye (frz H 0 depth) args) (Qi.const _) fun a => ?_
 split
 ·exact Qi.bind (f := fun c => c f a []) (Qi.one _ _ _) fun r => Qi.const _
 ·exact Qi.const _
theorem Qqz {h : Hint} {call : Qr} {dfr : ZF} {f : FuncId} {args : List V} {H : Qa} : Qi (fun c => Kv P h c dfr f args H) call := by
 unfold Kv
 split
 ·rename_i g hg
  exact h.fine f g hg args H call
 ·split
  ·exact Qi.const _
  ·split
   ·exact Qi.const _
   ·split
    ·exact Qi.const _
    ·split
     ·exact V4 _ fun e t H d => Qi.const _
     ·exact Qi.const _
theorem As {h : Hint} {call : Qr} {dfr : ZF} {f : FuncId} {args : List V} {H : Qa} : Qi (fun c => Vp P h c dfr f args H) call := by
 unfold Vp
 split
 ·exact QkV
 ·exact Qqz
noncomputable def EVn (P : Program) (h : Hint) (dfr : ZF) : Nat → Qr
 | 0 => fun _ _ _ => none
 | n + 1 => Vp P h (EVn P h dfr n) dfr
noncomputable def EV (P : Program) (h : Hint) (dfr : ZF) : Qr := fun f args H => lim fun n => EVn P h dfr n f args H
theorem T2 {h : Hint} {dfr : ZF} : ∀ (n : Nat) {f : FuncId} {args : List V} {H : Qa} {x : Out × Qa},EVn P h dfr n f args H = some x → EVn P h dfr (n + 1) f args H = some x
 | 0,f,args,H,x,hx => by simp [EVn] at hx
 | n + 1,f,args,H,x,hx => by
  rw [EVn] at hx ⊢
  obtain ⟨L,l1,l2⟩ := As (call := EVn P h dfr n) x hx
  exact l2 _ fun y hy => T2 n (l1 y hy)
theorem Gf {h : Hint} {dfr : ZF} {f : FuncId} {args : List V} {H : Qa} : MA fun n => EVn P h dfr n f args H := fun n x hx => T2 n hx
theorem Qc2 {h : Hint} {dfr : ZF} : ∀ {L : List Df},Has (EV P h dfr) L → ∃ n,Has (EVn P h dfr n) L
 | [],_ => ⟨0,Has.nil⟩
 | y :: L,hL => by
  obtain ⟨n,hn⟩ := Qc2 (L := L) fun z hz => hL z (List.mem_cons_of_mem _ hz)
  obtain ⟨m,hm⟩ := WH (hL y (List.mem_cons_self ..))
  refine ⟨max n m,fun z hz => ?_⟩
  rcases List.mem_cons.1 hz with rfl | hz
  ·exact Gf.le (Nat.le_max_right n m) hm
  ·exact Gf.le (Nat.le_max_left n m) (hn z hz)
theorem Qoq {h : Hint} {dfr : ZF} {f : FuncId} {args : List V} {H : Qa} : EV P h dfr f args H = Vp P h (EV P h dfr) dfr f args H := by
 refine CG (fun x hx => ?_) (fun x hx => ?_)
 ·obtain ⟨n,hn⟩ := WH hx
  cases n with
  | zero => simp [EVn] at hn
  | succ n =>
   rw [EVn] at hn
   obtain ⟨L,l1,l2⟩ := As (call := EVn P h dfr n) x hn
   exact l2 _ fun y hy => Vw Gf (l1 y hy)
 ·obtain ⟨L,l1,l2⟩ := As (call := EV P h dfr) x hx
  obtain ⟨n,hn⟩ := Qc2 l1
  refine Vw Gf (n := n + 1) ?_
  simp only [EVn]
  exact l2 _ hn
theorem C0 {h : Hint} {dfr : ZF} {f : FuncId} {args : List V} {H : Qa} (hl : (h.lend f && !Q1 args) = false) : EV P h dfr f args H = Kv P h (EV P h dfr) dfr f args H := by
 rw [Qoq]
 unfold Vp
 rw [hl]
theorem Qi9 {h : Hint} {dfr : ZF} {f : FuncId} {fn : Func} {c : Code} (ho : h.orc f = none) (hi : h.intr f = none) (hf : P.funcs[f]? = some fn) (hb : fn.body = some c) {args : List V} {H : Qa} (hl : args.length ≤ fn.ntmps) (hn : (h.lend f && !Q1 args) = false) :
  EV P h dfr f args H = FI P (h.own f) (h.ks f) (h.keep f) (EV P h dfr) dfr c fn.results.toList fn.ntmps (WF (h.nrm f) args) H := by
 rw [C0 hn]
 unfold Kv
 simp only [ho,hi,hf,hb,if_pos hl]
theorem QR {h : Hint} {dfr : ZF} {f : FuncId} {fn : Func} (hf : P.funcs[f]? = some fn) (hi : ((h.orc f).isNone && (h.intr f).isNone && !h.nrm f && !h.lend f) = true) (hb : fn.body.isSome = true) {args : List V} {H : Qa} (hl : Nat.ble args.length fn.ntmps = true) :
  EV P h dfr f args H = FI P (h.own f) (h.ks f) (h.keep f) (EV P h dfr) dfr (QO fn) fn.results.toList fn.ntmps args H := by
 obtain ⟨c,hc⟩ := Option.isSome_iff_exists.1 hb
 rw [Bool.and_eq_true,Bool.and_eq_true,Bool.and_eq_true] at hi
 rw [Qi9 (by simpa using hi.1.1.1) (by simpa using hi.1.1.2) hf hc (Nat.le_of_ble_eq_true hl) (by rw [show h.lend f = false by simpa using hi.2]; rfl),show h.nrm f = false by simpa using hi.1.2]
 unfold QO
 rw [hc]
 rfl
theorem Kx {h : Hint} {dfr : ZF} {f : FuncId} {g : List V → Qa → Option (Out × Qa)} (hi : h.intr f = some g) (ho : h.orc f = none := by rfl) (hl : h.lend f = false := by rfl) {args : List V} {H : Qa} : EV P h dfr f args H = g args H := by
 rw [C0 (by rw [hl]; rfl)]
 unfold Kv
 simp only [ho,hi]
theorem QiJ {h : Hint} {dfr : ZF} {f : FuncId} {g : Qr → List V → Qa → Option (Out × Qa)} (ho : h.orc f = some g) (hl : h.lend f = false := by rfl) {args : List V} {H : Qa} : EV P h dfr f args H = g (EV P h dfr) args H := by
 rw [C0 (by rw [hl]; rfl)]
 unfold Kv
 simp only [ho]
theorem Rel.plain {S S' : Ctx} {v : V} {u : Value} (h : Rel S v u) (hp : Pm v = true) : Rel S' v u := by
 cases h <;> first | exact .bool _ | exact .int _ _ | exact .str _ | simp [Pm] at hp
theorem Qpn {call : Qr} (hcall : ZI T P call) (f : FuncId) : Mod T P f (MF call f) := by
 intro args H r H' hg S us hH hS hA
 subst hH
 unfold MF at hg
 obtain ⟨a,ha,hg⟩ := ZO hg
 split at hg
 ·rename_i hc
  obtain ⟨q,hq,hg⟩ := ZO hg
  obtain ⟨v,rfl,hp,rfl,rfl⟩ := Qqj hg
  have hb : 0 ≤ S.H.length := Nat.zero_le _
  have hn : (S.trunc 0).H = [] := by simp [Ctx.trunc,Q2]
  have hB : Bnd 0 S.H := fun i b hi _ => by omega
  have hA' : RelA (S.trunc 0) a us := by
   obtain ⟨m1,m2⟩ := MO ha
   refine ⟨by rw [m1]; exact hA.1,fun j y u hy hu => ?_⟩
   obtain ⟨x,hx,hf⟩ := m2 j y hy
   exact BN hb hS depth hf (hA.2 j x u hx hu) (by rw [Bi (YR.1 hc y (List.mem_of_getElem? hy))]; exact Nat.le_refl _)
  obtain ⟨h1,h2⟩ := hcall f a [] _ _ hq (S.trunc 0) us hn (Qe7 hb hS hB) hA'
  refine ⟨h1,h2.mono fun e w' he => ?_⟩
  obtain ⟨S',hto,hr⟩ := he
  have hw := hto.w
  subst hw
  match e,hr with
  | .returned u,hr =>
   have hgr : Grew S.w S'.w := ⟨hto.ext.size,fun c hc => by
    by_cases hz : S.Z c
    ·exact (hto.ext.zed c hz).2
    ·exact (hto.ext.keep c hc ⟨fun ⟨i,hi,_⟩ => by have := (BS hb hi).2; omega,hz⟩).1,hto.ext.os,hto.ext.tape,hto.ext.output⟩
   exact ⟨S.at S'.w,⟨rfl,rfl,rfl,Ju hS hgr,Wx hS hgr,Bd.refl _ _⟩,Rel.plain hr hp⟩
 ·cases hg
theorem Qpo {h : Hint} {call : Qr} {dfr : ZF} (hcall : ZI T P call) (hdfr : Vg T P dfr) (hmix : P.follows .mixedOrders = true) (hn : Rf P) (hi : ∀ f g,h.intr f = some g → Mod T P f g) (ho : ∀ f g,h.orc f = some g → ∀ call,ZI T P call → Mod T P f (g call)) (f : FuncId) : Mod T P f (Vp P h call dfr f) := by
 intro args H r H' hg
 cases hle : h.lend f && !Q1 args with
 | true =>
  unfold Vp at hg
  rw [hle] at hg
  exact Qpn hcall f args H r H' hg
 | false =>
 unfold Vp at hg
 rw [hle] at hg
 clear hle
 simp only at hg
 cases hor : h.orc f with
 | some g =>
  unfold Kv at hg
  simp only [hor] at hg
  exact ho f g hor call hcall args H r H' hg
 | none =>
 cases hin : h.intr f with
 | some g =>
  unfold Kv at hg
  simp only [hor,hin] at hg
  exact hi f g hin args H r H' hg
 | none =>
  unfold Kv at hg
  simp only [hor,hin] at hg
  cases hf : P.funcs[f]? with
  | none => simp [hf] at hg
  | some fn =>
   simp only [hf] at hg
   cases hb : fn.body with
   | none => simp [hb] at hg
   | some c =>
    simp only [hb] at hg
    split at hg
    ·rename_i hle
     unfold FI at hg
     obtain ⟨M,e,t',H1,d',h1,h2⟩ := Vo c hg
     have hle' : (WF (h.nrm f) args).length ≤ fn.ntmps := by rw [Qme]; exact hle
     rw [QmS hle'] at h1
     have key := QqP (h := h) hcall (Qe1 hcall hmix M) hdfr hmix (f := f) (fun g hh => by rw [hin] at hh; simp at hh) (fun fn' hf' hb' => hn f fn' hf' hb')
     intro S uargs hH hS hA
     refine key (WF (h.nrm f) args) H r H' ?_ S uargs hH hS (Qnf hA)
     unfold DC
     simp only [hin,hf,hb]
     rw [if_pos hle',h1]
     simp only [Option.bind_some]
     cases e with
     | normal => exact Que (BM h2)
     | ret => exact Que (BM h2)
     | pan v => exact Que (BM h2)
     | exit i => simp [QP] at h2
    ·simp at hg
theorem TM {h : Hint} {dfr : ZF} (hdfr : Vg T P dfr) (hmix : P.follows .mixedOrders = true) (hn : Rf P) (hi : ∀ f g,h.intr f = some g → Mod T P f g) (ho : ∀ f g,h.orc f = some g → ∀ call,ZI T P call → Mod T P f (g call)) : ∀ n,ZI T P (EVn P h dfr n)
 | 0 => fun f args H r H' hh => by simp [EVn] at hh
 | n + 1 => fun f => Qpo (TM hdfr hmix hn hi ho n) hdfr hmix hn hi ho f
theorem QnE {h : Hint} {dfr : ZF} (hdfr : Vg T P dfr) (hmix : P.follows .mixedOrders = true) (hn : Rf P) (hi : ∀ f g,h.intr f = some g → Mod T P f g) (ho : ∀ f g,h.orc f = some g → ∀ call,ZI T P call → Mod T P f (g call)) : ZI T P (EV P h dfr) := by
 intro f args H r H' hh
 obtain ⟨n,hx⟩ := WH hh
 exact TM hdfr hmix hn hi ho n f args H r H' hx
def EU : YL := fun _ _ _ _ _ => none
theorem QqE : Kz T P EU := fun O own ks b st e st' h => by simp [EU] at h
noncomputable def XB (P : Program) (h : Hint) : ZF := FM P h Ak EU
theorem Qpb {h : Hint} (hmix : P.follows .mixedOrders = true) (hn : Rf P) : Vg T P (XB P h) := QhS QnX QqE hmix hn
end
end Go.Ev
end
section
namespace Go.Ev
variable {α : Type}
abbrev KS (α : Type) := Ex → Ts → Qa → Option V → Bool → Option α
section
variable (P : Program) (O : Nat) (own : Bool) (ops : List Oper) (n : Nat) (k : KS α)
end
def kd (k : KS α) (m : Option V) (b : Bool) : KC α := fun e t H d =>
 match d with
 | [] => k e t H m b
 | _ => none
section
variable {P : Program} {O : Nat} {own : Bool} {call : Qr} {loop : YL} {ops : List Oper} {n : Nat} {k : KS α}
end
end Go.Ev
end
section
namespace Go.Ev
def iRd (g : List V → Qa → Option V) : List V → Qa → Option (Out × Qa) := fun args H => (g args H).map fun v => (.ret v,H)
def RE : List V → Qa → Option V
 | [.int .i64 n],_ => if -9223372036854775808 ≤ n ∧ n ≤ 9223372036854775807 then some (.str (Lib.itoa n)) else none
 | _,_ => none
def Km : List V → Option (List (List UInt8))
 | [] => some []
 | .str s :: r => (Km r).map fun l => s :: l
 | _ => none
def UJ : List V → Qa → Option V
 | [x,.str sep],H => (ZB x).bind fun _ => (ZM 1 H x).bind fun cs => (Km cs).bind fun l =>
  if l.length ≤ 140737488355328 ∧ (Lib.join l sep).length ≤ 140737488355328 then some (.str (Lib.join l sep)) else none
 | _,_ => none
def Yu : List Int := [0,1,56,2,57,49,28,3,61,58,42,50,38,29,17,4,62,47,59,36,45,43,51,22,53,39,33,30,24,18,12,5,63,55,48,27,60,41,37,16,46,35,44,21,52,32,23,11,54,26,40,15,34,20,31,10,25,14,19,9,13,8,7,6]
def Yd (x : Int) : Int := (IntKind.u64.wrap (IntKind.u64.wrap ((BitVec.ofInt 64 x &&& BitVec.ofInt 64 (IntKind.u64.wrap (0 - x))).toNat) * 285870213051353865)).fdiv 288230376151711744
def gTZ : List V → Qa → Option V
 | [.int .u64 x],_ => if 0 ≤ x ∧ x ≤ 18446744073709551615 then some (.int .i64 (if x = 0 then 64 else Yu.getD (Yd x).toNat 0)) else none
 | _,_ => none
def GM : List (Nat × (List V → Qa → Option (Out × Qa))) → Nat → Option (List V → Qa → Option (Out × Qa))
 | [],_ => none
 | (i,g) :: r,f => match Nat.beq i f with
  | true => some g
  | false => GM r f
end Go.Ev
end
