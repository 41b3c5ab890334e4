/- EvF: a part of the proof that each law of this seat answers true at every input. No condition. -/
import Derived.Test.YtdnmpaielmfiiaaDoorEvE
import Derived.Lib.ItoaNum
import Derived.Lib.Case
import Derived.Lib.Join
set_option linter.unusedVariables false
set_option linter.unusedSimpArgs false
section
namespace Go.Ev
universe u
noncomputable def shut {α : Sort u} (a : α) : α := Classical.choose (⟨a,rfl⟩ : ∃ x,x = a)
theorem QP {α : Sort u} (a : α) : shut a = a := Classical.choose_spec (⟨a,rfl⟩ : ∃ x,x = a)
noncomputable def QX : V → V → V → Option V := shut (Cy)
theorem Rv : QX = Cy := QP _
noncomputable def Zj : List V → List (Nat × Nat) → List (Nat × V) → Option V := shut (LW)
theorem Ue : Zj = LW := QP _
noncomputable def MX : List V → Nat → List (Nat × V) → Option V := shut (Ct)
theorem Mc : MX = Ct := QP _
noncomputable def J9 : V → Option V := shut (DV)
theorem BQ : J9 = DV := QP _
noncomputable def Qb : BinOp → Nat → V → V → Option V := shut (KJ)
theorem JN : Qb = KJ := QP _
noncomputable def PT : BinOp → Bool → V → V → Option V := shut (GM)
theorem Ru : PT = GM := QP _
noncomputable def oUn : UnOp → V → Option V := shut (vUn)
theorem BE : oUn = vUn := QP _
noncomputable def Yc : IntKind → V → Option V := shut (PF)
theorem NA : Yc = PF := QP _
noncomputable def Aj : V → Option V := shut (Fx)
theorem RQ : Aj = Fx := QP _
noncomputable def Dp : TypeId → V → Option V := shut (As)
theorem N4 : Dp = As := QP _
noncomputable def PV : FuncId → List V → Option V := shut (CM)
theorem RS : PV = CM := QP _
noncomputable def Pp : V → Option V → Option V → Option V → Option V := shut (BK)
theorem RP : Pp = BK := QP _
noncomputable def JP : Nat → V → Option V → Option V → Option V → Option V := shut (Vf)
theorem Uy : JP = Vf := QP _
noncomputable def Qp : V → Nat → Option V := shut (JY)
theorem RI : Qp = JY := QP _
noncomputable def Eh : Nat → Bool → Nat → V → Option V := shut (Pd)
theorem Mj : Eh = Pd := QP _
noncomputable def Qx : Nat → V → V → Option V := shut (RV)
theorem RB : Qx = RV := QP _
noncomputable def K4 : Nat → Nat → V → V → Option V := shut (Nh)
theorem Md : K4 = Nh := QP _
noncomputable def Km : V → V → Option V := shut (Lm)
theorem BH : Km = Lm := QP _
noncomputable def Fq : Nat → Bool → Nat → V → V → Option V := shut (MY)
theorem Nt : Fq = MY := QP _
noncomputable def Mo : V → Nat → Option V := shut (D4)
theorem UV : Mo = D4 := QP _
noncomputable def AF : TypeId → V → Option V := shut (Lq)
theorem N9 : AF = Lq := QP _
noncomputable def QdA : TypeId → V → V → Option V := shut (FA)
theorem FE : QdA = FA := QP _
noncomputable def UB : V → Option V := shut (Cq)
theorem Mk : UB = Cq := QP _
noncomputable def QM : V → Option V := shut (DD)
theorem U0 : QM = DD := QP _
noncomputable def C5 : Nat → Option V := shut (CB)
theorem Ms : C5 = CB := QP _
noncomputable def QbS : Nat → Nat → Bool → V → Option V → Option V → Option V → Qa → Option (V × Qa) := shut (Db)
theorem F8 : QbS = Db := QP _
noncomputable def Le : Nat → Nat → List V → V → Qa → Option (V × Qa) := shut (NI)
theorem M1 : Le = NI := QP _
noncomputable def Qhl : Nat → Nat → V → V → Qa → Option (V × Qa) := shut (AZ)
theorem L5 : Qhl = AZ := QP _
noncomputable def Fb : List V → Option V := shut (Kc Mb)
theorem RX : Fb = Kc Mb := QP _
noncomputable def EG : List V → Option V := shut (Kc M7)
theorem MF : EG = Kc M7 := QP _
noncomputable def QK : V → Option V := shut (Gi)
theorem Lg : QK = Gi := QP _
noncomputable def Qd : Bool → Nat → Qa → V → Option V := shut (Vb)
theorem Ud : Qd = Vb := QP _
noncomputable def JO : Qa → V → Option V := shut (Fp)
theorem NV : JO = Fp := QP _
noncomputable def Qc6 : Nat → V → Qa → V → V → Option V := shut (Py)
theorem Gc : Qc6 = Py := QP _
noncomputable def X8 : Nat → V → Qa → V → V → Option V := shut (LG)
theorem Ej : X8 = LG := QP _
noncomputable def Zr : Nat → Nat → V → List (Nat × V) → Option V := shut (Rc)
theorem KX : Zr = Rc := QP _
noncomputable def QB : Qa → V → Option (V × Qa) := shut (My)
theorem Mp : QB = My := QP _
noncomputable def Wo : Nat → Nat → Bool → List V → Qa → List (Nat × V) → Option (V × Qa) := shut (Mu)
theorem BF : Wo = Mu := QP _
noncomputable def R0 : Nat → Bool → Nat → List V → V → V → Qa → Option (V × Qa) := shut (RU)
theorem Mf : R0 = RU := QP _
noncomputable def C0 : Qa → Option (V × Qa) := shut (C3)
theorem NK : C0 = C3 := QP _
noncomputable def QgU : Nat → Nat → Qa → V → V → V → Option (V × Qa) := shut (NO)
theorem Gk : QgU = NO := QP _
noncomputable def Qs : Nat → Nat → Qa → V → V → Option (V × Qa) := shut (Lk)
theorem B6 : Qs = Lk := QP _
noncomputable def DL : V → Qa → Option (V × Qa) := shut (N7)
theorem M5 : DL = N7 := QP _
noncomputable def Z6 : Nat → Nat → Nat → Bool → V → V → Qa → Option (V × Qa) := shut (K8)
theorem V4 : Z6 = K8 := QP _
noncomputable def QgL : Nat → Nat → Nat → Bool → V → V → Qa → Option (V × Qa) := shut (Ey)
theorem PO : QgL = Ey := QP _
def UR (g : Operand → V) : List (Nat × Operand) → List (Nat × V)
 | [] => []
 | (i,x) :: r => (i,g x) :: UR g r
def Wr (g : Operand → V) : List Operand → List V
 | [] => []
 | x :: r => g x :: Wr g r
theorem Nv (t : List V) : ∀ l,UR (env t) l = Yj t l
 | [] => rfl
 | (i,x) :: r => by rw [UR,Yj,Nv t r]
theorem VR (t : List V) : ∀ l,Wr (env t) l = Z9 t l
 | [] => rfl
 | x :: r => by rw [Wr,Z9,VR t r]
noncomputable def Bo (P : Program) (g : Operand → V) : Op → Option V
 | .move x | .assign x => QK (g x)
 | .pick c a b => QX (g c) (g a) (g b)
 | .build ty parts => match P.underlying ty with
  | some (.struct fs) => match Q5 P ty with
   | some z => match Wh P fs.toList with
    | some pl => match Qv z.cells with
     | true => Zj z.cells pl (UR g parts.toList)
     | false => none
    | none => none
   | none => none
  | some (.array _ e) => match Q5 P ty with
   | some z => match QC P e with
    | some n => match Qv z.cells with
     | true => MX z.cells n (UR g parts.toList)
     | false => none
    | none => none
   | none => none
  | _ => none
 | .nilCheck x => J9 (g x)
 | .binOp op ty x y _ => match Rk P ty with
  | 3 => PT op (Region.isConst x || Region.isConst y) (g x) (g y)
  | k => Qb op k (g x) (g y)
 | .unOp op _ x => oUn op (g x)
 | .convert src dst x => match (P.underlying src).isSome with
  | true => match P.underlying dst with
   | some (.int k) => Yc k (g x)
   | some .string => Aj (g x)
   | _ => none
  | false => none
 | .makeInterface ty x => match P.underlying ty with
  | some (.interface _) => none
  | some _ => Dp ty (g x)
  | none => none
 | .makeFunc fn first cap => match fn with
  | .func f => match first.size with
   | 0 => PV f (Wr g cap.toList)
   | _ => none
  | _ => none
 | .slice ty x lo hi mx => match P.underlying ty with
  | some .string => Pp (g x) (lo.map g) (hi.map g) (mx.map g)
  | some (.slice e) => match QC P e with
   | some n => JP n (g x) (lo.map g) (hi.map g) (mx.map g)
   | none => none
  | _ => none
 | .fieldAddr ty x f => match Vs P ty f with
  | some r => match QC P r.2 with
   | some (_ + 1) => Qp (g x) r.1
   | _ => none
  | none => none
 | .field ty x f => match Vs P ty f with
  | some r => match Zs P r.2 with
   | some ag => match QC P r.2 with
    | some n => Eh r.1 ag n (g x)
    | none => none
   | none => none
  | none => none
 | .indexAddr ty x i => match P.underlying ty with
  | some (.slice e) => match QC P e with
   | some n => Qx n (g x) (g i)
   | none => none
  | some (.array len e) => match QC P e with
   | some (n + 1) => K4 len (n + 1) (g x) (g i)
   | _ => none
  | _ => none
 | .index ty x i => match P.underlying ty with
  | some .string => Km (g x) (g i)
  | some (.array len e) => match Zs P e with
   | some ag => match QC P e with
    | some n => Fq len ag n (g x) (g i)
    | none => none
   | none => none
  | _ => none
 | .extract x i => Mo (g x) i
 | .typeAssert x _ ty ok => match P.underlying ty with
  | some (.interface _) => none
  | some _ => match ok with
   | true => match Q5 P ty with
    | some z => QdA ty z (g x)
    | none => none
   | false => AF ty (g x)
  | none => none
 | .call c => match c.callee with
  | .builtin .len => match c.argTypes[0]?,c.args[0]? with
   | some ty,some x => match P.underlying ty with
    | some .string => UB (g x)
    | some (.slice _) => QM (g x)
    | some (.array n _) => C5 n
    | _ => none
   | _,_ => none
  | .builtin .min => Fb (Wr g c.args.toList)
  | .builtin .max => EG (Wr g c.args.toList)
  | _ => none
 | _ => none
noncomputable def KQ (P : Program) (g : Operand → V) (H : Qa) : Op → Option V
 | .load ty p => match Zs P ty with
  | some ag => match QC P ty with
   | some n => Qd ag n H (g p)
   | none => none
  | none => none
 | .convert src dst x => match P.underlying src with
  | some (.slice e) => match P.underlying dst with
   | some .string => match P.underlying e with
    | some (.int .u8) => JO H (g x)
    | _ => none
   | _ => none
  | _ => none
 | .lookup ty m k ok => match P.underlying ty with
  | some (.map kt et) => match Q5 P et with
   | some z => match ok with
    | true => X8 (WE P kt) z H (g m) (g k)
    | false => Qc6 (WE P kt) z H (g m) (g k)
   | none => none
  | _ => none
 | _ => none
noncomputable def BY (P : Program) (g : Operand → V) : Op → Option V
 | .buildSlice ty len parts => match ZP P ty with
  | some e => match QC P e with
   | some n => match Q5 P e with
    | some z => match decide (len * n ≤ 16777216) && decide (0 < n) && (z.cells.length == n) && Qv z.cells && z.nrm.clean with
     | true => Zr n len z.nrm (UR g parts.toList)
     | false => none
    | none => none
   | none => none
  | none => none
 | _ => none
noncomputable def M0 (P : Program) (base : Nat) (g : Operand → V) (H : Qa) : Op → Option (V × Qa)
 | .alloc ty => match Q5 P ty with
  | some z => QB H z
  | none => none
 | .box _ x => QB H (g x)
 | .buildSlice ty len parts => match ZP P ty with
  | some e => match QC P e with
   | some n => match Zs P e with
    | some ag => match Q5 P e with
     | some z => match decide (len * n ≤ 16777216) && (z.cells.length == n) && Qv z.cells with
      | true => Wo len n ag (Q7 len z.cells) H (UR g parts.toList)
      | false => none
     | none => none
    | none => none
   | none => none
  | none => none
 | .makeSlice ty l c => match ZP P ty with
  | some e => match QC P e with
   | some n => match Zs P e with
    | some ag => match Kd P e with
     | some by_ => match Q5 P e with
      | some z => match (z.cells.length == n) && Qv z.cells with
       | true => R0 n ag by_ z.cells (g l) (g c) H
       | false => none
      | none => none
     | none => none
    | none => none
   | none => none
  | none => none
 | .makeMap ty r => match P.underlying ty with
  | some (.map _ _) => match r with
   | none => C0 H
   | some x => none
  | _ => none
 | .mapUpdate ty m k x | .insert ty m k x => match P.underlying ty with
  | some (.map kt _) => QgU base (WE P kt) H (g m) (g k) (g x)
  | _ => none
 | .store ty p x => match QC P ty with
  | some n => Qs base n H (g p) (g x)
  | none => none
 | .convert src dst x => match (P.underlying src).isSome with
  | true => match P.underlying dst with
   | some (.slice e) => match P.underlying e with
    | some (.int .u8) => DL (g x) H
    | _ => none
   | _ => none
  | false => none
 | .slice ty x lo hi mx => match P.underlying ty with
  | some (.array len e) => match QC P e with
   | some n => match Zs P e with
    | some ag => QbS n len ag (g x) (lo.map g) (hi.map g) (mx.map g) H
    | none => none
   | none => none
  | _ => none
 | .call c => match c.callee with
  | .builtin .clear => match c.argTypes[0]?,c.args[0]? with
   | some ty,some x => match ZP P ty with
    | some e => match QC P e with
     | some n => match Q5 P e with
      | some z => Le base n z.cells (g x) H
      | none => none
     | none => none
    | none => none
   | _,_ => none
  | .builtin .copy => match c.argTypes[0]?,c.args[0]?,c.args[1]? with
   | some ty,some d,some x => match ZP P ty with
    | some e => match QC P e with
     | some n => Qhl base n (g d) (g x) H
     | none => none
    | none => none
   | _,_,_ => none
  | .builtin .append => match c.argTypes[0]?,c.argTypes[1]?,c.args[0]?,c.args[1]? with
   | some ty,some ty2,some s,some x => match ZP P ty with
    | some e => match QC P e with
     | some n => match Zs P e with
      | some ag => match Kd P e with
       | some by_ => match Q5 P e with
        | some z => match (z.cells.length == n) && Qv z.cells with
         | true => match P.underlying ty2 with
          | some (.slice _) => Z6 base n by_ ag (g s) (g x) H
          | some .string => QgL base n by_ ag (g s) (g x) H
          | _ => none
         | false => none
        | none => none
       | none => none
      | none => none
     | none => none
    | none => none
   | _,_,_,_ => none
  | _ => none
 | _ => none
theorem QkJ (P : Program) (t : List V) (op : Op) : Bo P (env t) op = Kt P t op := by
 cases op <;> simp only [Bo,Kt,Nv,VR,Rv,Ue,Mc,BQ,JN,Ru,BE,NA,RQ,N4,RS,RP,Uy,RI,Mj,RB,Md,BH,Nt,UV,N9,FE,Mk,U0,Ms,RX,MF,Lg,Ud,NV,Gc,Ej,KX,Mp,BF,Mf,NK,Gk,B6,M5,V4,PO,F8,M1,L5] <;> rfl
theorem QpZ (P : Program) (t : List V) (H : Qa) (op : Op) : KQ P (env t) H op = Ko P t H op := by
 cases op <;> simp only [KQ,Ko,Nv,VR,Rv,Ue,Mc,BQ,JN,Ru,BE,NA,RQ,N4,RS,RP,Uy,RI,Mj,RB,Md,BH,Nt,UV,N9,FE,Mk,U0,Ms,RX,MF,Lg,Ud,NV,Gc,Ej,KX,Mp,BF,Mf,NK,Gk,B6,M5,V4,PO,F8,M1,L5] <;> rfl
theorem QjC (P : Program) (t : List V) (op : Op) : BY P (env t) op = WO P t op := by
 cases op <;> simp only [BY,WO,Nv,VR,Rv,Ue,Mc,BQ,JN,Ru,BE,NA,RQ,N4,RS,RP,Uy,RI,Mj,RB,Md,BH,Nt,UV,N9,FE,Mk,U0,Ms,RX,MF,Lg,Ud,NV,Gc,Ej,KX,Mp,BF,Mf,NK,Gk,B6,M5,V4,PO,F8,M1,L5] <;> rfl
theorem QqM (P : Program) (base : Nat) (t : List V) (H : Qa) (op : Op) : M0 P base (env t) H op = UF P base t H op := by
 cases op <;> simp only [M0,UF,Nv,VR,Rv,Ue,Mc,BQ,JN,Ru,BE,NA,RQ,N4,RS,RP,Uy,RI,Mj,RB,Md,BH,Nt,UV,N9,FE,Mk,U0,Ms,RX,MF,Lg,Ud,NV,Gc,Ej,KX,Mp,BF,Mf,NK,Gk,B6,M5,V4,PO,F8,M1,L5] <;> rfl
end Go.Ev
end
section
namespace Go.Ev
variable {α : Type} {β : Type}
noncomputable def bnd {α : Type} : Option V → (V → Option α) → Option α := shut Option.bind
theorem Jc (x : Option V) (f : V → Option α) : bnd x f = x.bind f := by unfold bnd; rw [QP]
def QrA (x : Option (V × Qa)) (f : V → Qa → Option α) : Option α := x.bind fun r => f r.1 r.2
noncomputable def beff {α : Type} : Option (V × Qa) → (V → Qa → Option α) → Option α := shut QrA
theorem WW (x : Option (V × Qa)) (f : V → Qa → Option α) : beff x f = x.bind fun r => f r.1 r.2 := by unfold beff; rw [QP]; rfl
def QqG (x : Option (Out × Qa)) (f g : V → Qa → Option α) : Option α := x.bind fun r => JC r.1 (fun v => f v r.2) (fun v => g v r.2)
noncomputable def bcall {α : Type} : Option (Out × Qa) → (V → Qa → Option α) → (V → Qa → Option α) → Option α := shut QqG
theorem UO (x : Option (Out × Qa)) (f g : V → Qa → Option α) : bcall x f g = x.bind fun r => JC r.1 (fun v => f v r.2) (fun v => g v r.2) := by unfold bcall; rw [QP]; rfl
noncomputable def bdef {α : Type} : Option (FuncId × List V) → (FuncId × List V → Option α) → Option α := shut Option.bind
theorem Np (x : Option (FuncId × List V)) (f : FuncId × List V → Option α) : bdef x f = x.bind f := by unfold bdef; rw [QP]
noncomputable def gua {β : Type} : V → Bool → Option β → Option β → Option β := shut KO
theorem Vo (v : V) (w : Bool) (a b : Option β) : gua v w a b = KO v w a b := by unfold gua; rw [QP]
noncomputable def cnd {α : Type} : V → Option α → Option α → Option α := shut GD
theorem WP (v : V) (a b : Option α) : cnd v a b = GD v a b := by unfold cnd; rw [QP]
noncomputable def sch {α : Type} : Bool → Option α → Option α := shut chk
theorem Rn (b : Bool) (a : Option α) : sch b a = chk b a := by unfold sch; rw [QP]
noncomputable def sam : Option V → V → Bool := shut same
theorem Xq : sam = same := QP _
noncomputable def tlb : Option V → (V → Bool) → Bool := shut Us
theorem Ck : tlb = Us := QP _
noncomputable def oFn : V → List V → Option (FuncId × List V) := shut rFn
theorem T6 : oFn = rFn := QP _
noncomputable def P9 : V → Option V := shut Xj
theorem Qe4 : P9 = Xj := QP _
def Aq (call : Qr) (f : V) (args : List V) (H : Qa) : Option (Out × Qa) := (rFn f args).bind fun q => call q.1 q.2 H
noncomputable def J2 : Qr → V → List V → Qa → Option (Out × Qa) := shut Aq
theorem CP : J2 = Aq := QP _
def QU (n : Nat) (t : Ts) : Operand → V
 | .tmp i => match Nat.blt i n with
  | true => Jv i t
  | false => .junk
 | .const v => ofValue v
 | .global _ => .junk
 | .func f => .fn f []
theorem JK (n : Nat) (t : Ts) : env (tl n t) = QU n t := by
 funext x
 cases x with
 | tmp i =>
  simp only [env,QU,List.getD_eq_getElem?_getD,M8]
  by_cases h : i < n
  ·have : Nat.blt i n = true := by rw [Nat.blt_eq]; exact h
   simp [h,this]
  ·have : Nat.blt i n = false := by
    cases hb : Nat.blt i n with
    | false => rfl
    | true => rw [Nat.blt_eq] at hb; exact absurd hb h
   simp [h,this]
 | _ => rfl
def aliasOf (o : Oper) : Option Operand :=
 match o.guard with
 | some _ => none
 | none => match o.op with
  | .move x | .assign x => some x
  | _ => none
noncomputable def guaK {β : Type} (ops : List Oper) (g : Operand → V) (o : Oper) (a b : Option β) : Option β :=
 match o.guard with
 | none => a
 | some (j,want) => match ops[j]? with
  | none => b
  | some oj => match oj.dst with
   | none => b
   | some d => gua (g (.tmp d)) want a b
noncomputable def callX (call : Qr) (g : Operand → V) (H : Qa) : Op → Option (Out × Qa)
 | .call c => match c.callee with
  | .value f => match f with
   | .func i => call i (Wr g c.args.toList) H
   | f => J2 call (g f) (Wr g c.args.toList) H
  | _ => none
 | _ => none
noncomputable def Pf (g : Operand → V) : Op → Option V
 | .panic x => P9 (g x)
 | .call c => match c.callee with
  | .builtin .panic => match c.args[0]? with
   | some x => P9 (g x)
   | none => none
  | _ => none
 | _ => none
noncomputable def Xo (g : Operand → V) : Op → Option (FuncId × List V)
 | .defer c => match c.callee with
  | .value f => oFn (g f) (Wr g c.args.toList)
  | _ => none
 | _ => none
section
variable (P : Program) (base : Nat) (own : Bool) (call : Qr) (ops : List Oper) (n : Nat) (k : KC α)
noncomputable def YM : List Oper → Ts → Qa → Ds → Option α
 | [],t,H,d => k .normal t H d
 | o :: rest,t,H,d => match aliasOf o with
  | some x => YM rest (Zm t o.dst (QU n t x)) H d
  | none => match kindOf P own ops o.dst o.op with
   | .defer => match o.guard with
    | none => bdef (Xo (QU n t) o.op) fun r => YM rest (Zm t o.dst (.tup [])) H (r :: d)
    | some _ => none
   | .pure => bnd (guaK ops (QU n t) o (Bo P (QU n t) o.op) (some (.tup []))) fun v => YM rest (Zm t o.dst v) H d
   | .lit => bnd (guaK ops (QU n t) o (BY P (QU n t) o.op) (some (.tup []))) fun v => YM rest (Zm t o.dst v) H d
   | .load => bnd (guaK ops (QU n t) o (KQ P (QU n t) H o.op) (some (.tup []))) fun v => YM rest (Zm t o.dst v) H d
   | .eff | .fresh => beff (guaK ops (QU n t) o (M0 P base (QU n t) H o.op) (some (.tup [],H))) fun v H' => YM rest (Zm t o.dst v) H' d
   | .call => bcall (guaK ops (QU n t) o (callX call (QU n t) H o.op) (some (.ret (.tup []),H))) (fun v H' => YM rest (Zm t o.dst v) H' d) (fun v H' => k (.pan v) t H' d)
   | .panic => match o.guard with
    | none => bnd (Pf (QU n t) o.op) fun v => k (.pan v) t H d
    | some _ => none
   | .none => none
noncomputable def chkE (ms : List Nat) (i : Nat) (op : Op) (g : Operand → V) (v : V) : List (Nat × Qa) → Option β → Option β
 | [],a => a
 | (e,H) :: r,a => match ahead ms i e with
  | true => chkE ms i op g v r a
  | false => sch (sam (KQ P g H op) v) (chkE ms i op g v r a)
def F0 (ms : List Nat) (i : Nat) : List (Nat × Qa) → Bool
 | [] => false
 | (e,H) :: r => match ahead ms i e with
  | true => F0 ms i r
  | false => true
noncomputable def Pk (ms : List Nat) (i : Nat) (op : Op) (g : Operand → V) (es : List (Nat × Qa)) (x : Option V) : Option V :=
 match F0 ms i es with
 | false => x
 | true => bnd x fun v => chkE P ms i op g v es (some v)
noncomputable def Ut (ms : List Nat) (p : Nat) (es : List (Nat × Qa)) : Nat → List Oper → Ts → Qa → Bool
 | _,[],_,_ => true
 | i,o :: rest,t,H =>
  match ahead ms i p with
  | true => Ut ms p es (i + 1) rest t H
  | false => match kindOf P own ops o.dst o.op with
   | .pure => tlb (guaK ops (QU n t) o (Bo P (QU n t) o.op) (some (.tup []))) fun v => Ut ms p es (i + 1) rest (Zm t o.dst v) H
   | .lit => tlb (guaK ops (QU n t) o (BY P (QU n t) o.op) (some (.tup []))) fun v => Ut ms p es (i + 1) rest (Zm t o.dst v) H
   | .load => tlb (guaK ops (QU n t) o (Pk P ms i o.op (QU n t) es (KQ P (QU n t) H o.op)) (some (.tup []))) fun v => Ut ms p es (i + 1) rest (Zm t o.dst v) H
   | _ => false
structure LdX where
 i : Nat
 op : Op
 g : Operand → V
 v : V
noncomputable def chkL (ms : List Nat) (j : Nat) (H : Qa) : List LdX → Option β → Option β
 | [],a => a
 | l :: r,a => match ahead ms j l.i with
  | true => chkL ms j H r a
  | false => sch (sam (KQ P l.g H l.op) l.v) (chkL ms j H r a)
def PQ (ms : List Nat) (p : Nat) : Nat → List Oper → Bool
 | _,[] => true
 | i,_ :: r => match ahead ms i p with
  | true => PQ ms p (i + 1) r
  | false => false
noncomputable def chkT (ms : List Nat) (p : Nat) (es : List (Nat × Qa)) (i : Nat) (rest : List Oper) (t : Ts) (H : Qa) (a : Option β) : Option β :=
 match PQ ms p i rest with
 | true => a
 | false => sch (Ut P own ops n ms p es i rest t H) a
noncomputable def Y3 (t0 : Ts) (ms : List Nat) : Nat → List Oper → List LdX → List (Nat × Qa) → Ts → Qa → Ds → Option α
 | _,[],_,_,t,H,d => k .normal t H d
 | i,o :: rest,ls,es,t,H,d => match aliasOf o with
  | some x => Y3 t0 ms (i + 1) rest ls es (Zm t o.dst (QU n t x)) H d
  | none => match kindOf P own ops o.dst o.op with
   | .pure => bnd (guaK ops (QU n t) o (Bo P (QU n t) o.op) (some (.tup []))) fun v => Y3 t0 ms (i + 1) rest ls es (Zm t o.dst v) H d
   | .lit => bnd (guaK ops (QU n t) o (BY P (QU n t) o.op) (some (.tup []))) fun v => Y3 t0 ms (i + 1) rest ls es (Zm t o.dst v) H d
   | .load => match later P own ops ms i with
    | true => bnd (guaK ops (QU n t) o (Pk P ms i o.op (QU n t) es (KQ P (QU n t) H o.op)) (some (.tup []))) fun v => Y3 t0 ms (i + 1) rest ls es (Zm t o.dst v) H d
    | false => match o.guard with
     | none => bnd (KQ P (QU n t) H o.op) fun v => chkE P ms i o.op (QU n t) v es (Y3 t0 ms (i + 1) rest ({ i,op := o.op,g := QU n t,v } :: ls) es (Zm t o.dst v) H d)
     | some _ => none
   | .eff | .fresh => beff (guaK ops (QU n t) o (M0 P base (QU n t) H o.op) (some (.tup [],H))) fun v H' => chkL P ms i H' ls (Y3 t0 ms (i + 1) rest ls ((i,H) :: es) (Zm t o.dst v) H' d)
   | .call => bcall (guaK ops (QU n t) o (callX call (QU n t) H o.op) (some (.ret (.tup []),H)))
     (fun v H' => chkL P ms i H' ls (Y3 t0 ms (i + 1) rest ls ((i,H) :: es) (Zm t o.dst v) H' d))
     (fun v H' => chkT P own ops n ms i es (i + 1) rest t H (k (.pan v) (K5 ops t0) H' d))
   | .panic => match o.guard with
    | none => bnd (Pf (QU n t) o.op) fun v => chkT P own ops n ms i es (i + 1) rest t H (k (.pan v) (K5 ops t0) H d)
    | some _ => none
   | .defer | .none => none
end
noncomputable def lim (f : Nat → Option α) : Option α := by
 classical exact if h : ∃ x n,f n = some x then some (Classical.choose h) else none
def NQ (f : Nat → Option α) : Prop := ∀ n x,f n = some x → f (n + 1) = some x
theorem NQ.le {f : Nat → Option α} (h : NQ f) {n m : Nat} (hnm : n ≤ m) {x : α} (hx : f n = some x) : f m = some x := by
 induction hnm with
 | refl => exact hx
 | step _ ih => exact h _ _ ih
theorem K1 {f : Nat → Option α} {x : α} (h : lim f = some x) : ∃ n,f n = some x := by
 unfold lim at h
 split at h
 ·rename_i hx
  injection h with h
  obtain ⟨n,hn⟩ := Classical.choose_spec hx
  exact ⟨n,by rw [hn,h]⟩
 ·simp at h
theorem Vw {f : Nat → Option α} (hm : NQ f) {n : Nat} {x : α} (h : f n = some x) : lim f = some x := by
 have hx : ∃ x n,f n = some x := ⟨x,n,h⟩
 unfold lim
 rw [dif_pos hx]
 obtain ⟨m,hc⟩ := Classical.choose_spec hx
 have h1 := hm.le (Nat.le_max_left n m) h
 have h2 := hm.le (Nat.le_max_right n m) hc
 rw [h1] at h2
 injection h2 with h2
 rw [h2]
theorem E9 {x y : Option α} (h1 : ∀ a,x = some a → y = some a) (h2 : ∀ a,y = some a → x = some a) : x = y := by
 cases x with
 | some a => rw [h1 a rfl]
 | none => cases y with
  | some b => exact h2 b rfl
  | none => rfl
noncomputable def Qt (f : Ts → Qa → Ds → (Ts → Qa → Ds → Option α) → Option α) (t : Ts) (H : Qa) (d : Ds) : Option α := lim fun n => iter f n t H d
open Classical in
noncomputable def BW (H H' : Qa) (x : Option α) : Option α := if H = H' then x else none
noncomputable def sameX {α : Type} : Qa → Qa → Option α → Option α := shut BW
theorem J3 (H H' : Qa) (x : Option α) : sameX H H' x = BW H H' x := by unfold sameX; rw [QP]
theorem QoA {H H' : Qa} {x : Option α} {y : α} (h : sameX H H' x = some y) : H = H' ∧ x = some y := by
 rw [J3] at h
 unfold BW at h
 split at h
 ·exact ⟨by assumption,h⟩
 ·cases h
@[simp] theorem QrH (H : Qa) (x : Option α) : sameX H H x = x := by rw [J3]; simp [BW]
noncomputable def ML (P : Program) (base : Nat) (own : Bool) (call : Qr) (ops : List Oper) (i n : Nat) (k : KC α) (t : Ts) (H : Qa) (d : Ds) : KC α := fun e t' H' d' => match e with
 | .normal => YM P base own call (Qz ops i) n (fun e2 t2 H2 d2 => match e2 with
  | .normal => sameX H' H2 (k .normal t' H' d')
  | _ => none) (FS (Qz ops i) i) t H d
 | _ => none
noncomputable def xC (P : Program) (base : Nat) (own : Bool) (ks : Ks) (call : Qr) (n : Nat) : Code → KC α → Ts → Qa → Ds → Option α
 | .skip,k,t,H,d | .label _,k,t,H,d => k .normal t H d
 | .region _ ops draw,k,t,H,d =>
  match draw with
  | true => match V7 P own ops.toList with
   | true => Y3 P base own call ops.toList n k t (ZZ ops.toList []) 0 ops.toList [] [] t H d
   | false => match Ly P own ops.toList with
    | some i => Y3 P base own call (Qz ops.toList i) n (ML P base own call ops.toList i n k t H d) t (ZZ (Qz ops.toList i) []) 0 (Qz ops.toList i) [] [] t H d
    | none => none
  | false => YM P base own call ops.toList n k ops.toList t H d
 | .seq a b,k,t,H,d => xC P base own ks call n a (Qg (fun _ t => xC P base own ks call n b k (Qf ks b t)) k) t H d
 | .cond c a b,k,t,H,d => cnd (QU n t c) (xC P base own ks call n a k t H d) (xC P base own ks call n b k t H d)
 | .block id b,k,t,H,d => xC P base own ks call n b (Qe id k) t H d
 | .loop b,k,t,H,d => Qt (fun t H d again => xC P base own ks call n b (Ql ks b again k) t H d) (Qf ks b t) H d
 | .scope b,k,t,H,d => xC P base own ks call n b k t H d
 | .exit id,k,t,H,d => k (.exit id) t H d
 | .ret,k,t,H,d => k .ret t H d
 | _,_,_,_,_ => none
section
variable {P : Program} {base : Nat} {own : Bool} {call : Qr} {ops : List Oper} {n : Nat} {k : KC α}
theorem Qk0 (t : Ts) (o : Oper) (a b : Option β) : guaK ops (QU n t) o a b = Z3 ops (tl n t) o a b := by
 unfold guaK Z3
 cases hg : o.guard with
 | none => rfl
 | some jw =>
  obtain ⟨j,want⟩ := jw
  simp only
  cases hj : ops[j]? with
  | none => simp
  | some oj =>
   simp only [Option.bind_some]
   cases hd : oj.dst with
   | none => rfl
   | some d => simp only [hd]; rw [Vo,← JK]; rfl
theorem DY {t : Ts} {op : Op} : Bo P (QU n t) op = Kt P (tl n t) op := by rw [← JK,QkJ]
theorem Aw {t : Ts} {op : Op} : BY P (QU n t) op = WO P (tl n t) op := by rw [← JK,QjC]
theorem BX {t : Ts} {H : Qa} {op : Op} : KQ P (QU n t) H op = Ko P (tl n t) H op := by rw [← JK,QpZ]
theorem PM {t : Ts} {H : Qa} {op : Op} : M0 P base (QU n t) H op = UF P base (tl n t) H op := by rw [← JK,QqM]
theorem TG {t : Ts} {H : Qa} {op : Op} {r : Out × Qa} (h : callX call (QU n t) H op = some r) : ((KI (tl n t) op).bind fun r => call r.1 r.2 H) = some r := by
 cases op <;> simp only [callX] at h <;> (try (simp at h; done))
 rename_i c
 simp only [KI]
 split at h
 ·rename_i f hc
  simp only [hc]
  split at h
  ·rw [← JK,VR] at h
   simp only [env,List.append_nil,Option.bind_some]
   exact h
  ·rw [CP] at h
   unfold Aq rFn at h
   rw [← JK,VR] at h
   exact h
 ·simp at h
theorem TJ {t : Ts} {op : Op} : Pf (QU n t) op = Kh (tl n t) op := by
 rw [← JK]
 cases op <;> (try simp only [Pf,Kh,Qe4,Xj]) <;> rfl
theorem Qk7 {t : Ts} {op : Op} : Xo (QU n t) op = U6 (tl n t) op := by
 rw [← JK]
 cases op <;> (try simp only [Xo,U6,T6,rFn,VR]) <;> rfl
theorem Qa8 {o : Oper} {x : Operand} (h : aliasOf o = some x) : o.guard = none ∧ (o.op = .move x ∨ o.op = .assign x) := by
 unfold aliasOf at h
 split at h
 ·simp at h
 ·rename_i hg
  refine ⟨hg,?_⟩
  split at h
  ·injection h with h; subst h; exact .inl ‹_›
  ·injection h with h; subst h; exact .inr ‹_›
  ·simp at h
theorem QeU {o : Oper} {x : Operand} (h : aliasOf o = some x) : kindOf P own ops o.dst o.op = .pure := by
 obtain ⟨_,h | h⟩ := Qa8 h <;> rw [h] <;> rfl
theorem Tq {o : Oper} {x : Operand} {t : Ts} (h : aliasOf o = some x) : Z3 ops (tl n t) o (Kt P (tl n t) o.op) (some (.tup [])) = some (QU n t x) := by
 obtain ⟨hg,h | h⟩ := Qa8 h <;> unfold Z3 <;> simp only [hg,h,Kt,Gi] <;> rw [JK]
theorem ZL {γ δ : Type} {x : Option γ} {f : γ → Option δ} {y : δ} (h : x.bind f = some y) : ∃ a,x = some a ∧ f a = some y := Option.bind_eq_some_iff.1 h
theorem Jf {t : Ts} {o : Oper} {a a' b : Option β} {x : β} (ha : ∀ x,a = some x → a' = some x) (h : guaK ops (QU n t) o a b = some x) : Z3 ops (tl n t) o a' b = some x := by
 rw [Qk0] at h
 unfold Z3 at h ⊢
 cases hg : o.guard with
 | none => simp only [hg] at h ⊢; exact ha _ h
 | some jw =>
  obtain ⟨j,want⟩ := jw
  simp only [hg] at h ⊢
  cases hd : (ops[j]?).bind (·.dst) with
  | none => simp only [hd] at h ⊢; exact h
  | some d =>
   simp only [hd] at h ⊢
   generalize (tl n t).getD d .junk = y at h ⊢
   cases y with
   | bool c => simp only [KO] at h ⊢; split <;> simp_all
   | tup vs => simp only [KO] at h ⊢; exact h
   | _ => simp [KO] at h
theorem Kq : ∀ (l : List Oper) {t : Ts} {H : Qa} {d : Ds} {x : α},YM P base own call ops n k l t H d = some x → J0 P base own call ops n k l t H d = some x
 | [],t,H,d,x,h => h
 | o :: rest,t,H,d,x,h => by
  simp only [YM] at h
  simp only [J0]
  split at h
  ·rename_i y hy
   simp only [QeU hy,Tq hy,Option.bind_some]
   exact Kq rest h
  ·split at h <;> rename_i hk <;> (try simp only [hk])
   ·split at h
    ·rename_i hg
     rw [Np] at h
     obtain ⟨r,h1,h2⟩ := ZL h
     rw [Qk7] at h1
     simp only [hg,Option.isNone_none,if_true]
     rw [h1]
     exact Kq rest h2
    ·simp at h
   ·rw [Jc] at h
    obtain ⟨v,h1,h2⟩ := ZL h
    rw [Jf (fun x hx => by rw [← DY]; exact hx) h1]
    exact Kq rest h2
   ·rw [Jc] at h
    obtain ⟨v,h1,h2⟩ := ZL h
    rw [Jf (fun x hx => by rw [← Aw]; exact hx) h1]
    exact Kq rest h2
   ·rw [Jc] at h
    obtain ⟨v,h1,h2⟩ := ZL h
    rw [Jf (fun x hx => by rw [← BX]; exact hx) h1]
    exact Kq rest h2
   ·rw [WW] at h
    obtain ⟨v,h1,h2⟩ := ZL h
    rw [Jf (fun x hx => by rw [← PM]; exact hx) h1]
    exact Kq rest h2
   ·rw [WW] at h
    obtain ⟨v,h1,h2⟩ := ZL h
    rw [Jf (fun x hx => by rw [← PM]; exact hx) h1]
    exact Kq rest h2
   ·rw [UO] at h
    obtain ⟨r,h1,h2⟩ := ZL h
    rw [Jf (fun x hx => TG hx) h1]
    simp only [Option.bind_some]
    obtain ⟨r,H'⟩ := r
    cases r with
    | ret v => exact Kq rest h2
    | pan v => exact h2
   ·split at h
    ·rename_i hg
     rw [Jc] at h
     obtain ⟨v,h1,h2⟩ := ZL h
     rw [TJ] at h1
     unfold Z3
     simp only [hg,h1,Option.map_some,Option.bind_some]
     exact h2
    ·simp at h
   ·simp at h
theorem Cf {b : Bool} {a : Option β} {x : β} (h : sch b a = some x) : b = true ∧ a = some x := by rw [Rn] at h; exact Wu h
theorem QbL {a a' : Option V} {v : V} (ha : ∀ x,a = some x → a' = some x) (h : same a v = true) : same a' v = true := by
 cases a with
 | none => simp [same] at h
 | some y => rw [ha y rfl]; exact h
theorem Gf {ms : List Nat} {i : Nat} {op : Op} {t : Ts} {v : V} : ∀ {es : List (Nat × Qa)} {a : Option β} {x : β},chkE P ms i op (QU n t) v es a = some x → Yy P ms i op (tl n t) v es = true ∧ a = some x
 | [],a,x,h => ⟨rfl,h⟩
 | (e,H) :: r,a,x,h => by
  simp only [chkE] at h
  simp only [Yy]
  split at h
  ·rename_i ha
   obtain ⟨h1,h2⟩ := Gf h
   exact ⟨by rw [ha,h1]; rfl,h2⟩
  ·obtain ⟨h0,h⟩ := Cf h
   obtain ⟨h1,h2⟩ := Gf h
   rw [Xq,BX] at h0
   exact ⟨by rw [h1,QbL (fun x hx => Bw hx) h0]; simp,h2⟩
theorem Qf5 {ms : List Nat} {i : Nat} {op : Op} {t : List V} {v : V} : ∀ {es : List (Nat × Qa)},F0 ms i es = false → Yy P ms i op t v es = true
 | [],h => rfl
 | (e,H) :: r,h => by
  simp only [F0] at h
  simp only [Yy]
  split at h
  ·rename_i ha; rw [ha,Qf5 h]; rfl
  ·simp at h
theorem QgO {ms : List Nat} {i : Nat} {op : Op} {t : Ts} {es : List (Nat × Qa)} {H : Qa} {v : V} (h : Pk P ms i op (QU n t) es (KQ P (QU n t) H op) = some v) :
  ((Ko P (tl n t) H op).bind fun v => chk (Yy P ms i op (tl n t) v es) (some v)) = some v := by
 unfold Pk at h
 split at h
 ·rename_i he
  rw [BX] at h
  rw [h]
  simp only [Option.bind_some]
  rw [Qf5 he]; rfl
 ·rw [Jc] at h
  obtain ⟨u,h1,h2⟩ := ZL h
  obtain ⟨h3,h4⟩ := Gf h2
  injection h4 with h4; subst h4
  rw [BX] at h1
  rw [h1]
  simp only [Option.bind_some]
  rw [h3]; rfl
theorem RY {ms : List Nat} {p : Nat} {es : List (Nat × Qa)} : ∀ (l : List Oper) {i : Nat} {t : Ts} {H : Qa},Ut P own ops n ms p es i l t H = true → JI P own ops n ms p es i l t H = true
 | [],i,t,H,h => rfl
 | o :: rest,i,t,H,h => by
  simp only [Ut] at h
  simp only [JI]
  split at h
  ·rename_i ha; rw [if_pos ha]; exact RY rest h
  ·rename_i ha
   rw [if_neg (by simp [ha])]
   split at h <;> rename_i hk <;> (try simp only [hk])
   ·rw [Ck] at h
    obtain ⟨v,h1,h2⟩ := Bm h
    rw [Jf (fun x hx => by rw [← DY]; exact hx) h1]
    exact RY rest h2
   ·rw [Ck] at h
    obtain ⟨v,h1,h2⟩ := Bm h
    rw [Jf (fun x hx => by rw [← Aw]; exact hx) h1]
    exact RY rest h2
   ·rw [Ck] at h
    obtain ⟨v,h1,h2⟩ := Bm h
    rw [Jf (fun x hx => QgO hx) h1]
    exact RY rest h2
   ·simp at h
inductive LdsR (n : Nat) : List LdX → List Ld → Prop
 | nil : LdsR n [] []
 | cons {l l'} {i : Nat} {op : Op} {t : Ts} {v : V} : LdsR n l l' → LdsR n ({ i,op,g := QU n t,v } :: l) ({ i,op,t := tl n t,v } :: l')
theorem AW {ms : List Nat} {j : Nat} {H : Qa} {ls : List LdX} {ls' : List Ld} (hl : LdsR n ls ls') : ∀ {a : Option β} {x : β},chkL P ms j H ls a = some x → JL P ms j H ls' = true ∧ a = some x := by
 induction hl with
 | nil => exact fun {a x} h => ⟨rfl,h⟩
 | cons hl ih =>
  intro a x h
  simp only [chkL] at h
  simp only [JL]
  split at h
  ·rename_i ha
   obtain ⟨h1,h2⟩ := ih h
   exact ⟨by rw [ha,h1]; rfl,h2⟩
  ·obtain ⟨h0,h⟩ := Cf h
   obtain ⟨h1,h2⟩ := ih h
   rw [Xq,BX] at h0
   exact ⟨by rw [h1,QbL (fun x hx => Bw hx) h0]; simp,h2⟩
theorem QhR {ms : List Nat} {p : Nat} {es : List (Nat × Qa)} {t : Ts} {H : Qa} : ∀ {l : List Oper} {i : Nat},PQ ms p i l = true → JI P own ops n ms p es i l t H = true
 | [],i,h => rfl
 | o :: r,i,h => by
  simp only [PQ] at h
  simp only [JI]
  split at h
  ·rename_i ha; rw [if_pos ha]; exact QhR h
  ·simp at h
theorem Qg1 {ms : List Nat} {p : Nat} {es : List (Nat × Qa)} {i : Nat} {rest : List Oper} {t : Ts} {H : Qa} {a : Option β} {x : β} (h : chkT P own ops n ms p es i rest t H a = some x) :
  chk (JI P own ops n ms p es i rest t H) a = some x := by
 unfold chkT at h
 split at h
 ·rename_i ha; rw [QhR ha]; exact h
 ·obtain ⟨h1,h2⟩ := Cf h
  rw [RY _ h1]; exact h2
theorem KB {t0 : Ts} {ms : List Nat} : ∀ (l : List Oper) {i : Nat} {ls : List LdX} {ls' : List Ld} {es : List (Nat × Qa)} {t : Ts} {H : Qa} {d : Ds} {x : α},LdsR n ls ls' →
  Y3 P base own call ops n k t0 ms i l ls es t H d = some x → Ka P base own call ops n k t0 ms i l ls' es t H d = some x
 | [],i,ls,ls',es,t,H,d,x,hl,h => h
 | o :: rest,i,ls,ls',es,t,H,d,x,hl,h => by
  simp only [Y3] at h
  simp only [Ka]
  split at h
  ·rename_i y hy
   simp only [QeU hy,Tq hy,Option.bind_some]
   exact KB rest hl h
  ·split at h <;> rename_i hk <;> (try simp only [hk])
   ·rw [Jc] at h
    obtain ⟨v,h1,h2⟩ := ZL h
    rw [Jf (fun x hx => by rw [← DY]; exact hx) h1]
    exact KB rest hl h2
   ·rw [Jc] at h
    obtain ⟨v,h1,h2⟩ := ZL h
    rw [Jf (fun x hx => by rw [← Aw]; exact hx) h1]
    exact KB rest hl h2
   ·split at h
    ·rename_i hla
     rw [if_pos hla]
     rw [Jc] at h
     obtain ⟨v,h1,h2⟩ := ZL h
     rw [Jf (fun x hx => QgO hx) h1]
     exact KB rest hl h2
    ·rename_i hla
     rw [if_neg (by simp [hla])]
     split at h
     ·rename_i hg
      simp only [hg,Option.isNone_none,if_true]
      rw [Jc] at h
      obtain ⟨v,h1,h2⟩ := ZL h
      obtain ⟨h3,h4⟩ := Gf h2
      rw [BX] at h1
      rw [h1]
      simp only [Option.bind_some]
      rw [h3]
      exact KB rest (.cons hl) h4
     ·simp at h
   ·rw [WW] at h
    obtain ⟨v,h1,h2⟩ := ZL h
    rw [Jf (fun x hx => by rw [← PM]; exact hx) h1]
    obtain ⟨h3,h4⟩ := AW hl h2
    simp only [Option.bind_some]
    rw [h3]
    exact KB rest hl h4
   ·rw [WW] at h
    obtain ⟨v,h1,h2⟩ := ZL h
    rw [Jf (fun x hx => by rw [← PM]; exact hx) h1]
    obtain ⟨h3,h4⟩ := AW hl h2
    simp only [Option.bind_some]
    rw [h3]
    exact KB rest hl h4
   ·rw [UO] at h
    obtain ⟨r,h1,h2⟩ := ZL h
    rw [Jf (fun x hx => TG hx) h1]
    simp only [Option.bind_some]
    obtain ⟨r,H'⟩ := r
    cases r with
    | ret v =>
     simp only [JC] at h2 ⊢
     obtain ⟨h3,h4⟩ := AW hl h2
     rw [h3]
     exact KB rest hl h4
    | pan v => exact Qg1 h2
   ·split at h
    ·rename_i hg
     rw [Jc] at h
     obtain ⟨v,h1,h2⟩ := ZL h
     rw [TJ] at h1
     unfold Z3
     simp only [hg,h1,Option.map_some,Option.bind_some]
     exact Qg1 h2
    ·simp at h
   ·simp at h
   ·simp at h
theorem Vk {ks : Ks} : ∀ (c : Code) {k : KC α} {t : Ts} {H : Qa} {d : Ds} {x : α},xC P base own ks call n c k t H d = some x →
  ∃ M e t' H' d',evC P base own ks call (JS P call M) c { t := tl n t,H,d } = some (e,{ t := tl n t',H := H',d := d' }) ∧ k e t' H' d' = some x
 | .skip,k,t,H,d,x,h | .label _,k,t,H,d,x,h => ⟨0,_,_,_,_,rfl,h⟩
 | .exit _,k,t,H,d,x,h | .ret,k,t,H,d,x,h => ⟨0,_,_,_,_,rfl,h⟩
 | .region _ ops draw,k,t,H,d,x,h => by
  simp only [xC] at h
  simp only [evC]
  cases draw with
  | true =>
   simp only [if_true] at h ⊢
   split at h
   ·rename_i hok
    simp only [if_pos hok]
    obtain ⟨e,t',H',d',h1,h2⟩ := Jo (ls' := []) (es' := []) _ 0 rfl (fun e h => h) (fun l h => by simp at h) (KB _ .nil h)
    exact ⟨0,e,t',H',d',h1,h2⟩
   ·rename_i hok
    rw [if_neg (by rw [hok]; simp)]
    split at h
    ·rename_i i hi
     obtain ⟨e,t',H',d',h1,h2⟩ := Jo (ls' := []) (es' := []) _ 0 rfl (fun e h => h) (fun l h => by simp at h) (KB _ .nil h)
     rw [List.drop_zero] at h1
     match e,h1,h2 with
     | .normal,h1,h2 =>
     simp only [ML] at h2
     obtain ⟨e2,t2,H2,d2,h3,h4⟩ := YR _ (Kq _ h2)
     match e2,h3,h4 with
     | .normal,h3,h4 =>
     obtain ⟨rfl,h5⟩ := QoA h4
     exact ⟨0,.normal,t',H',d',by simp only [L3,hi,h1,h3,Option.bind_some,if_true],h5⟩
    ·cases h
  | false =>
   simp only [Bool.false_eq_true,if_false] at h ⊢
   obtain ⟨e,t',H',d',h1,h2⟩ := YR _ (Kq _ h)
   exact ⟨0,e,t',H',d',h1,h2⟩
 | .seq a b,k,t,H,d,x,h => by
  simp only [xC] at h
  simp only [evC]
  obtain ⟨m,e,t',H',d',h1,h2⟩ := Vk a h
  cases e with
  | normal =>
   simp only [Qg] at h2
   obtain ⟨n2,e2,t2,H2,d2,h3,h4⟩ := Vk b h2
   refine ⟨max m n2,e2,t2,H2,d2,?_,h4⟩
   rw [Kx (Fu (Nat.le_max_left m n2)) a h1]
   simp only [Option.bind_some]
   simp only [Cv]
   exact Kx (Fu (Nat.le_max_right m n2)) b h3
  | _ => exact ⟨m,_,t',H',d',by rw [h1]; rfl,h2⟩
 | .cond c a b,k,t,H,d,x,h => by
  simp only [xC] at h
  simp only [evC]
  rw [WP,← JK] at h
  unfold GD at h
  split at h
  ·rename_i hc; simp only [hc]; exact Vk a h
  ·rename_i hc; simp only [hc]; exact Vk b h
  ·simp at h
 | .block id b,k,t,H,d,x,h => by
  simp only [xC] at h
  simp only [evC]
  obtain ⟨m,e,t',H',d',h1,h2⟩ := Vk b h
  refine ⟨m,?_⟩
  rw [h1]
  simp only [Option.bind_some]
  cases e with
  | exit j =>
   simp only [Qe] at h2
   split at h2
   ·rename_i hj; simp only [if_pos hj]; exact ⟨_,_,_,_,rfl,h2⟩
   ·rename_i hj; simp only [if_neg hj]; exact ⟨_,_,_,_,rfl,h2⟩
  | _ => exact ⟨_,_,_,_,rfl,h2⟩
 | .loop b,k,t,H,d,x,h => by
  simp only [xC] at h
  have key : ∀ (m : Nat) {t : Ts} {H : Qa} {d : Ds},iter (fun t H d again => xC P base own ks call n b (Ql ks b again k) t H d) m (Qf ks b t) H d = some x →
    ∃ M e t' H' d',JS P call M base own ks b { t := tl n t,H,d } = some (e,{ t := tl n t',H := H',d := d' }) ∧ k e t' H' d' = some x := by
   intro m
   induction m with
   | zero => intro t H d h; simp [iter] at h
   | succ m ih =>
    intro t H d h
    simp only [iter] at h
    obtain ⟨m1,e,t',H',d',h1,h2⟩ := Vk b h
    cases e with
    | normal =>
     simp only [Ql] at h2
     obtain ⟨n2,e2,t2,H2,d2,h3,h4⟩ := ih h2
     refine ⟨max m1 n2 + 1,e2,t2,H2,d2,?_,h4⟩
     simp only [JS,V2,Cv]
     rw [Kx (Fu (Nat.le_max_left m1 n2)) b h1]
     simp only [Option.bind_some]
     exact Fu (Nat.le_max_right m1 n2) _ _ _ _ _ _ h3
    | _ => exact ⟨m1 + 1,_,_,_,_,by simp only [JS,V2,Cv]; rw [h1]; rfl,h2⟩
  obtain ⟨N,hN⟩ := K1 h
  obtain ⟨M,e,t',H',d',h1,h2⟩ := key N hN
  exact ⟨M,e,t',H',d',h1,h2⟩
 | .scope b,k,t,H,d,x,h => by
  simp only [xC] at h
  simp only [evC]
  exact Vk b h
 | .goto _,k,t,H,d,x,h => by simp [xC] at h
 | .rangeFunc ..,k,t,H,d,x,h => by simp [xC] at h
end
end Go.Ev
end
section
namespace Go.Ev
variable {α : Type} {β : Type}
abbrev RR := Ex × Ts × Qa × Ds
def KH : KC RR := fun e t H d => some (e,t,H,d)
def KD (k : KC α) (r : RR) : Option α := k r.1 r.2.1 r.2.2.1 r.2.2.2
section
variable {P : Program} {base : Nat} {own : Bool} {call : Qr} {ops : List Oper} {n : Nat} {k : KC α}
theorem Ak (b : Bool) (a : Option β) (f : β → Option α) : (sch b a).bind f = sch b (a.bind f) := by
 rw [Rn,Rn]; cases b <;> rfl
theorem Xv {ms : List Nat} {i : Nat} {op : Op} {g : Operand → V} {v : V} {a : Option β} {f : β → Option α} : ∀ {es : List (Nat × Qa)},(chkE P ms i op g v es a).bind f = chkE P ms i op g v es (a.bind f)
 | [] => rfl
 | (e,H) :: r => by
  simp only [chkE]
  split
  ·exact Xv
  ·rw [Ak,Xv]
theorem MW {ms : List Nat} {j : Nat} {H : Qa} {a : Option β} {f : β → Option α} : ∀ {ls : List LdX},(chkL P ms j H ls a).bind f = chkL P ms j H ls (a.bind f)
 | [] => rfl
 | l :: r => by
  simp only [chkL]
  split
  ·exact MW
  ·rw [Ak,MW]
theorem QbO {ms : List Nat} {p : Nat} {es : List (Nat × Qa)} {i : Nat} {rest : List Oper} {t : Ts} {H : Qa} {a : Option β} {f : β → Option α} :
  (chkT P own ops n ms p es i rest t H a).bind f = chkT P own ops n ms p es i rest t H (a.bind f) := by
 unfold chkT
 split
 ·rfl
 ·rw [Ak]
theorem WH (x : Option V) (f : V → Option β) (g : β → Option α) : (bnd x f).bind g = bnd x fun v => (f v).bind g := by
 rw [Jc,Jc,Option.bind_assoc]
theorem QoQ (x : Option (FuncId × List V)) (f : FuncId × List V → Option β) (g : β → Option α) : (bdef x f).bind g = bdef x fun v => (f v).bind g := by
 rw [Np,Np,Option.bind_assoc]
theorem Pw (x : Option (V × Qa)) (f : V → Qa → Option β) (g : β → Option α) : (beff x f).bind g = beff x fun v H => (f v H).bind g := by
 rw [WW,WW,Option.bind_assoc]
theorem QbU (x : Option (Out × Qa)) (f h : V → Qa → Option β) (g : β → Option α) : (bcall x f h).bind g = bcall x (fun v H => (f v H).bind g) (fun v H => (h v H).bind g) := by
 rw [UO,UO,Option.bind_assoc]
 congr 1
 funext r
 cases r.1 <;> rfl
theorem Jy : ∀ (l : List Oper) {t : Ts} {H : Qa} {d : Ds},YM P base own call ops n k l t H d = (YM P base own call ops n KH l t H d).bind (KD k)
 | [],t,H,d => rfl
 | o :: rest,t,H,d => by
  simp only [YM]
  split
  ·exact Jy rest
  ·split
   ·split
    ·rw [QoQ]; simp only [Jy rest]
    ·rfl
   ·rw [WH]; simp only [Jy rest]
   ·rw [WH]; simp only [Jy rest]
   ·rw [WH]; simp only [Jy rest]
   ·rw [Pw]; simp only [Jy rest]
   ·rw [Pw]; simp only [Jy rest]
   ·rw [QbU]; simp only [Jy rest]; rfl
   ·split
    ·rw [WH]; rfl
    ·rfl
   ·rfl
theorem JB {t0 : Ts} {ms : List Nat} : ∀ (l : List Oper) {i : Nat} {ls : List LdX} {es : List (Nat × Qa)} {t : Ts} {H : Qa} {d : Ds},
  Y3 P base own call ops n k t0 ms i l ls es t H d = (Y3 P base own call ops n KH t0 ms i l ls es t H d).bind (KD k)
 | [],i,ls,es,t,H,d => rfl
 | o :: rest,i,ls,es,t,H,d => by
  simp only [Y3]
  split
  ·exact JB rest
  ·split
   ·rw [WH]; simp only [JB rest]
   ·rw [WH]; simp only [JB rest]
   ·split
    ·rw [WH]; simp only [JB rest]
    ·split
     ·rw [WH]; simp only [JB rest,Xv]
     ·rfl
   ·rw [Pw]; simp only [JB rest,MW]
   ·rw [Pw]; simp only [JB rest,MW]
   ·rw [QbU]; simp only [JB rest,MW,QbO]; rfl
   ·split
    ·rw [WH]; simp only [QbO]; rfl
    ·rfl
   ·rfl
   ·rfl
def Kj (P : Program) (D : Ts → Qa → Ds → Option RR) (ks : Ks) (b : Code) (k : KC α) (t : Ts) (H : Qa) (d : Ds) (again : Ts → Qa → Ds → Option α) : Option α := (D t H d).bind (KD (Ql ks b again k))
theorem Bf {D : Ts → Qa → Ds → Option RR} {ks : Ks} {b : Code} : ∀ (m : Nat) {t : Ts} {H : Qa} {d : Ds} {x : α},iter (Kj P D ks b k) m t H d = some x → iter (Kj P D ks b k) (m + 1) t H d = some x
 | 0,t,H,d,x,h => by simp [iter] at h
 | m + 1,t,H,d,x,h => by
  rw [iter] at h ⊢
  unfold Kj at h ⊢
  obtain ⟨r,h1,h2⟩ := ZL h
  rw [h1]
  simp only [Option.bind_some]
  obtain ⟨e,t',H',d'⟩ := r
  cases e with
  | normal => exact Bf m h2
  | _ => exact h2
theorem Tm {D : Ts → Qa → Ds → Option RR} {ks : Ks} {b : Code} : ∀ (m : Nat) {t : Ts} {H : Qa} {d : Ds},iter (Kj P D ks b k) m t H d = (iter (Kj P D ks b KH) m t H d).bind (KD k)
 | 0,t,H,d => rfl
 | m + 1,t,H,d => by
  rw [iter,iter]
  unfold Kj
  rw [Option.bind_assoc]
  congr 1
  funext r
  obtain ⟨e,t',H',d'⟩ := r
  cases e with
  | normal => exact Tm m
  | _ => rfl
theorem Qje {f : Nat → Option β} (hf : NQ f) (g : β → Option α) : lim (fun n => (f n).bind g) = (lim f).bind g := by
 refine E9 (fun a h => ?_) (fun a h => ?_)
 ·obtain ⟨n,hn⟩ := K1 h
  obtain ⟨y,h1,h2⟩ := ZL hn
  rw [Vw hf h1]; exact h2
 ·obtain ⟨y,h1,h2⟩ := ZL h
  obtain ⟨n,hn⟩ := K1 h1
  refine Vw (f := fun n => (f n).bind g) (n := n) (fun m x hx => ?_) (by simp only [hn]; exact h2)
  obtain ⟨z,h3,h4⟩ := ZL hx
  simp only [hf _ _ h3]; exact h4
theorem J7 {ks : Ks} : ∀ (c : Code) {α : Type} {k : KC α} {t : Ts} {H : Qa} {d : Ds},xC P base own ks call n c k t H d = (xC P base own ks call n c KH t H d).bind (KD k)
 | .skip,_,k,t,H,d | .label _,_,k,t,H,d | .exit _,_,k,t,H,d | .ret,_,k,t,H,d => rfl
 | .region _ ops draw,_,k,t,H,d => by
  simp only [xC]
  split
  ·split
   ·exact JB _
   ·split
    ·rw [JB,JB (k := ML _ _ _ _ _ _ _ KH _ _ _),Option.bind_assoc]
     congr 1
     funext r
     obtain ⟨e,t',H',d'⟩ := r
     cases e <;> simp only [KD,ML,Option.bind_none]
     rw [Jy]
     conv => rhs; rw [Jy]
     rw [Option.bind_assoc]
     congr 1
     funext r
     obtain ⟨e2,t2,H2,d2⟩ := r
     cases e2 <;> simp only [KD,Option.bind_none]
     rw [J3,J3]
     unfold BW
     split <;> rfl
    ·rfl
  ·exact Jy _
 | .seq a b,_,k,t,H,d => by
  simp only [xC]
  rw [J7 a,J7 a (k := Qg _ KH),Option.bind_assoc]
  congr 1
  funext r
  obtain ⟨e,t',H',d'⟩ := r
  cases e with
  | normal => exact J7 b
  | _ => rfl
 | .cond c a b,_,k,t,H,d => by
  simp only [xC]
  rw [J7 a,J7 b,WP,WP]
  unfold GD
  split <;> rfl
 | .block id b,_,k,t,H,d => by
  simp only [xC]
  rw [J7 b,J7 b (k := Qe id KH),Option.bind_assoc]
  congr 1
  funext r
  obtain ⟨e,t',H',d'⟩ := r
  cases e with
  | exit j => simp only [KD,Qe]; split <;> rfl
  | _ => rfl
 | .loop b,_,k,t,H,d => by
  have e1 : ∀ {γ : Type} (k : KC γ),(fun t H d again => xC P base own ks call n b (Ql ks b again k) t H d) = Kj P (fun t H d => xC P base own ks call n b KH t H d) ks b k := by
   intro γ k
   funext t H d again
   exact J7 b (k := Ql ks b again k)
  simp only [xC]
  rw [e1 k,e1 KH]
  unfold Qt
  rw [← Qje (fun m x h => Bf m h)]
  congr 1
  funext m
  exact Tm m
 | .scope b,_,k,t,H,d => by simp only [xC]; exact J7 b
 | .refuse _,_,k,t,H,d => rfl
 | .goto _,_,k,t,H,d => rfl
 | .rangeFunc ..,_,k,t,H,d => rfl
theorem QdG {ks : Ks} (b : Code) {k : KC α} : (fun t H d again => xC P base own ks call n b (Ql ks b again k) t H d) = Kj P (fun t H d => xC P base own ks call n b KH t H d) ks b k := by
 funext t H d again
 exact J7 b (k := Ql ks b again k)
theorem Za {ks : Ks} (b : Code) (k : KC α) (t : Ts) (H : Qa) (d : Ds) : Qt (fun t H d again => xC P base own ks call n b (Ql ks b again k) t H d) t H d =
  xC P base own ks call n b (Ql ks b (fun t H d => Qt (fun t H d again => xC P base own ks call n b (Ql ks b again k) t H d) t H d) k) t H d := by
 rw [QdG b,J7 b (k := Ql ks b _ k)]
 refine E9 (fun x h => ?_) (fun x h => ?_)
 ·obtain ⟨m,hm⟩ := K1 h
  cases m with
  | zero => simp [iter] at hm
  | succ m =>
   rw [iter] at hm
   unfold Kj at hm
   obtain ⟨r,h1,h2⟩ := ZL hm
   simp only at h1
   rw [h1]
   simp only [Option.bind_some]
   obtain ⟨e,t',H',d'⟩ := r
   cases e with
   | normal => exact Vw (fun m x h => Bf m h) h2
   | _ => exact h2
 ·obtain ⟨r,h1,h2⟩ := ZL h
  obtain ⟨e,t',H',d'⟩ := r
  cases e with
  | normal =>
   obtain ⟨m,hm⟩ := K1 h2
   refine Vw (n := m + 1) (fun m x h => Bf m h) ?_
   rw [iter]
   unfold Kj
   simp only [h1,Option.bind_some]
   exact hm
  | _ =>
   refine Vw (n := 1) (fun m x h => Bf m h) ?_
   rw [iter]
   unfold Kj
   simp only [h1,Option.bind_some]
   exact h2
theorem Has.nil : Has call [] := fun y h => by simp at h
theorem Has.append {L M : List Af} : Has call (L ++ M) ↔ Has call L ∧ Has call M := by
 unfold Has
 exact ⟨fun h => ⟨fun y hy => h y (List.mem_append_left _ hy),fun y hy => h y (List.mem_append_right _ hy)⟩,fun ⟨h1,h2⟩ y hy => (List.mem_append.1 hy).elim (h1 y) (h2 y)⟩
theorem Qi.const (x : Option α) : Qi (fun _ => x) call := fun y h => ⟨[],Has.nil,fun _ _ => h⟩
theorem Qi.bind {f : Qr → Option β} {g : Qr → β → Option α} (hf : Qi f call) (hg : ∀ b,Qi (fun c => g c b) call) : Qi (fun c => (f c).bind (g c)) call := by
 intro x h
 obtain ⟨b,h1,h2⟩ := ZL h
 obtain ⟨L,l1,l2⟩ := hf b h1
 obtain ⟨M,m1,m2⟩ := hg b x h2
 refine ⟨L ++ M,Has.append.2 ⟨l1,m1⟩,fun c hc => ?_⟩
 obtain ⟨c1,c2⟩ := Has.append.1 hc
 simp only [l2 c c1,Option.bind_some]
 exact m2 c c2
theorem Qi.one (f : FuncId) (args : List V) (H : Qa) : Qi (fun c => c f args H) call := fun x h => ⟨[(f,args,H,x)],fun y hy => by simp at hy; subst hy; exact h,fun c hc => hc (f,args,H,x) (by simp)⟩
theorem Qi.ite {f g : Qr → Option α} (b : Bool) (hf : Qi f call) (hg : Qi g call) : Qi (fun c => if b = true then f c else g c) call := by
 cases b
 ·simpa using hg
 ·simpa using hf
theorem Qi.congr {f g : Qr → Option α} (h : ∀ c,f c = g c) (hf : Qi g call) : Qi f call := by
 have : f = g := funext h
 rw [this]; exact hf
theorem Qi.bnd {x : Qr → Option V} {f : Qr → V → Option α} (hx : Qi x call) (hf : ∀ v,Qi (fun c => f c v) call) : Qi (fun c => bnd (x c) (f c)) call :=
 Qi.congr (fun c => Jc _ _) (Qi.bind hx hf)
theorem Qi.bdef {x : Option (FuncId × List V)} {f : Qr → FuncId × List V → Option α} (hf : ∀ v,Qi (fun c => f c v) call) : Qi (fun c => bdef x (f c)) call :=
 Qi.congr (fun c => Np _ _) (Qi.bind (Qi.const x) hf)
theorem Qi.beff {x : Option (V × Qa)} {f : Qr → V → Qa → Option α} (hf : ∀ v H,Qi (fun c => f c v H) call) : Qi (fun c => beff x (f c)) call :=
 Qi.congr (g := fun c => x.bind fun r => f c r.1 r.2) (fun c => WW _ _) (Qi.bind (g := fun c r => f c r.1 r.2) (Qi.const x) (fun r => hf r.1 r.2))
theorem Qi.bcall {x : Qr → Option (Out × Qa)} {f g : Qr → V → Qa → Option α} (hx : Qi x call) (hf : ∀ v H,Qi (fun c => f c v H) call) (hg : ∀ v H,Qi (fun c => g c v H) call) : Qi (fun c => bcall (x c) (f c) (g c)) call := by
 refine Qi.congr (g := fun c => (x c).bind fun r => JC r.1 (fun v => f c v r.2) (fun v => g c v r.2)) (fun c => UO _ _ _) (Qi.bind (g := fun c r => JC r.1 (fun v => f c v r.2) (fun v => g c v r.2)) hx fun r => ?_)
 obtain ⟨r,H⟩ := r
 cases r with
 | ret v => exact hf v H
 | pan v => exact hg v H
theorem Qi.sch {f : Qr → Option α} (b : Bool) (hf : Qi f call) : Qi (fun c => sch b (f c)) call := by
 cases b
 ·exact Qi.congr (g := fun _ => none) (fun c => by rw [Rn]; rfl) (Qi.const none)
 ·exact Qi.congr (fun c => by rw [Rn]; rfl) hf
theorem Qi.chkE {ms : List Nat} {i : Nat} {op : Op} {g : Operand → V} {v : V} {f : Qr → Option α} (hf : Qi f call) : ∀ (es : List (Nat × Qa)),Qi (fun c => chkE P ms i op g v es (f c)) call
 | [] => hf
 | (e,H) :: r => by
  simp only [Ev.chkE]
  split
  ·exact Qi.chkE hf r
  ·exact Qi.sch _ (Qi.chkE hf r)
theorem Qi.chkL {ms : List Nat} {j : Nat} {H : Qa} {f : Qr → Option α} (hf : Qi f call) : ∀ (ls : List LdX),Qi (fun c => chkL P ms j H ls (f c)) call
 | [] => hf
 | l :: r => by
  simp only [Ev.chkL]
  split
  ·exact Qi.chkL hf r
  ·exact Qi.sch _ (Qi.chkL hf r)
theorem Qi.chkT {ms : List Nat} {p : Nat} {es : List (Nat × Qa)} {i : Nat} {rest : List Oper} {t : Ts} {H : Qa} {f : Qr → Option α} (hf : Qi f call) : Qi (fun c => chkT P own ops n ms p es i rest t H (f c)) call := by
 simp only [Ev.chkT]
 split
 ·exact hf
 ·exact Qi.sch _ hf
theorem Qi.guaK {g : Operand → V} {o : Oper} {a : Qr → Option β} {b : Option β} (ha : Qi a call) : Qi (fun c => guaK ops g o (a c) b) call := by
 simp only [Ev.guaK]
 split
 ·exact ha
 ·split
  ·exact Qi.const _
  ·split
   ·exact Qi.const _
   ·rename_i d _
    generalize g (.tmp d) = y
    cases y with
    | bool c0 =>
     refine Qi.congr (g := fun c => if (c0 == _) = true then a c else b) (fun c => by rw [Vo]; rfl) (Qi.ite _ ha (Qi.const b))
    | tup vs => exact Qi.congr (fun c => by rw [Vo]; rfl) (Qi.const b)
    | _ => exact Qi.congr (g := fun _ => none) (fun c => by rw [Vo]; rfl) (Qi.const none)
theorem Qi.callX {g : Operand → V} {H : Qa} (op : Op) : Qi (fun c => callX c g H op) call := by
 cases op <;> (try exact Qi.const none)
 rename_i c0
 simp only [Ev.callX]
 split
 ·split
  ·exact Qi.one _ _ _
  ·refine Qi.congr (fun c => by rw [CP]; rfl) (Qi.bind (f := fun _ => rFn _ _) (g := fun c q => c q.1 q.2 H) (Qi.const _) (fun q => Qi.one _ _ _))
 ·exact Qi.const none
theorem KV : ∀ (l : List Oper) {t : Ts} {H : Qa} {d : Ds},Qi (fun c => YM P base own c ops n k l t H d) call
 | [],t,H,d => Qi.const _
 | o :: rest,t,H,d => by
  simp only [YM]
  split
  ·exact KV rest
  ·split
   ·split
    ·exact Qi.bdef fun r => KV rest
    ·exact Qi.const _
   ·exact Qi.bnd (Qi.const _) fun v => KV rest
   ·exact Qi.bnd (Qi.const _) fun v => KV rest
   ·exact Qi.bnd (Qi.const _) fun v => KV rest
   ·exact Qi.beff fun v H => KV rest
   ·exact Qi.beff fun v H => KV rest
   ·exact Qi.bcall (Qi.guaK (Qi.callX _)) (fun v H => KV rest) (fun v H => Qi.const _)
   ·split
    ·exact Qi.const _
    ·exact Qi.const _
   ·exact Qi.const _
theorem KE {t0 : Ts} {ms : List Nat} : ∀ (l : List Oper) {i : Nat} {ls : List LdX} {es : List (Nat × Qa)} {t : Ts} {H : Qa} {d : Ds},Qi (fun c => Y3 P base own c ops n k t0 ms i l ls es t H d) call
 | [],i,ls,es,t,H,d => Qi.const _
 | o :: rest,i,ls,es,t,H,d => by
  simp only [Y3]
  split
  ·exact KE rest
  ·split
   ·exact Qi.bnd (Qi.const _) fun v => KE rest
   ·exact Qi.bnd (Qi.const _) fun v => KE rest
   ·split
    ·exact Qi.bnd (Qi.const _) fun v => KE rest
    ·split
     ·exact Qi.bnd (Qi.const _) fun v => Qi.chkE (KE rest) _
     ·exact Qi.const _
   ·exact Qi.beff fun v H => Qi.chkL (KE rest) _
   ·exact Qi.beff fun v H => Qi.chkL (KE rest) _
   ·exact Qi.bcall (Qi.guaK (Qi.callX _)) (fun v H => Qi.chkL (KE rest) _) (fun v H => Qi.const _)
   ·split
    ·exact Qi.const _
    ·exact Qi.const _
   ·exact Qi.const _
   ·exact Qi.const _
theorem Qi.app {f : Qr → Option RR} {k : Qr → KC α} (hf : Qi f call) (hk : ∀ e t H d,Qi (fun c => k c e t H d) call) : Qi (fun c => (f c).bind (KD (k c))) call :=
 Qi.bind (g := fun c r => KD (k c) r) hf (fun r => hk _ _ _ _)
theorem W8 {ks : Ks} : ∀ (c : Code) {k : Qr → KC α} {t : Ts} {H : Qa} {d : Ds},(∀ e t H d,Qi (fun c => k c e t H d) call) → Qi (fun cl => xC P base own ks cl n c (k cl) t H d) call
 | .skip,k,t,H,d,hk | .label _,k,t,H,d,hk | .exit _,k,t,H,d,hk | .ret,k,t,H,d,hk => hk _ _ _ _
 | .region _ ops draw,k,t,H,d,hk => by
  simp only [xC]
  split
  ·split
   ·exact Qi.congr (fun cl => JB _) (Qi.app (KE _) hk)
   ·split
    ·refine Qi.congr (fun cl => JB _) (Qi.app (KE _) fun e t' H' d' => ?_)
     cases e <;> simp only [ML] <;> try exact Qi.const _
     refine Qi.congr (fun cl => Jy _) (Qi.app (KV _) fun e2 t2 H2 d2 => ?_)
     cases e2 <;> try exact Qi.const _
     simp only [J3,BW]
     split
     ·exact hk _ _ _ _
     ·exact Qi.const _
    ·exact Qi.const _
  ·exact Qi.congr (fun cl => Jy _) (Qi.app (KV _) hk)
 | .seq a b,k,t,H,d,hk => by
  simp only [xC]
  refine W8 a fun e t H d => ?_
  cases e with
  | normal => exact W8 b hk
  | _ => exact hk _ _ _ _
 | .cond c a b,k,t,H,d,hk => by
  simp only [xC]
  generalize QU n t c = y
  have : ∀ (f g : Qr → Option α),Qi f call → Qi g call → Qi (fun cl => cnd y (f cl) (g cl)) call := by
   intro f g hf hg
   match y with
   | .bool true => exact Qi.congr (fun c => by rw [WP]; rfl) hf
   | .bool false => exact Qi.congr (fun c => by rw [WP]; rfl) hg
   | .junk | .int _ _ | .str _ | .nilptr | .ptr _ _ _ | .fptr _ | .nils | .emp | .vs _ | .rs _ _ _ _ _ | .fn _ _ | .nilfn | .niface | .iface _ _ | .agg _ | .tup _ | .nilmap | .mapr _ =>
    exact Qi.congr (g := fun _ => none) (fun c => by rw [WP]; rfl) (Qi.const none)
  exact this _ _ (W8 a hk) (W8 b hk)
 | .block id b,k,t,H,d,hk => by
  simp only [xC]
  refine W8 b fun e t H d => ?_
  cases e with
  | exit j => simp only [Qe]; split <;> exact hk _ _ _ _
  | _ => exact hk _ _ _ _
 | .loop b,k,t,H,d,hk => by
  simp only [xC]
  intro x h
  have key : ∀ (m : Nat) {t : Ts} {H : Qa} {d : Ds},Qi (fun cl => iter (fun t H d again => xC P base own ks cl n b (Ql ks b again (k cl)) t H d) m t H d) call := by
   intro m
   induction m with
   | zero => intro t H d; exact Qi.const _
   | succ m ih =>
    intro t H d
    refine Qi.congr (fun cl => rfl) (W8 b (k := fun cl => Ql ks b (fun t H d => iter (fun t H d again => xC P base own ks cl n b (Ql ks b again (k cl)) t H d) m t H d) (k cl)) fun e t H d => ?_)
    cases e with
    | normal => exact ih
    | _ => exact hk _ _ _ _
  obtain ⟨m,hm⟩ := K1 h
  obtain ⟨L,l1,l2⟩ := key m x hm
  refine ⟨L,l1,fun cl hcl => Vw (n := m) (fun m x h => ?_) (l2 cl hcl)⟩
  rw [QdG b] at h ⊢
  exact Bf m h
 | .scope b,k,t,H,d,hk => by simp only [xC]; exact W8 b hk
 | .goto _,k,t,H,d,hk => Qi.const _
 | .refuse _,k,t,H,d,hk => Qi.const _
 | .rangeFunc ..,k,t,H,d,hk => Qi.const _
end
end Go.Ev
end
section
namespace Go.Ev
variable {T : Zc}
variable {α : Type} {β : Type}
noncomputable def rt : Bool → Nat → V → Qa → Option (Out × Qa) := shut Ry
theorem Pm : rt = Ry := QP _
noncomputable def pn : Bool → Nat → V → Qa → Option (Out × Qa) := shut FG
theorem QhC : pn = FG := QP _
def QqR (x : Option (Bool × Qa)) (f : Qa → Option α) : Option α := x.bind fun r => f r.2
noncomputable def bdn {α : Type} : Option (Bool × Qa) → (Qa → Option α) → Option α := shut QqR
theorem QbT (x : Option (Bool × Qa)) (f : Qa → Option α) : bdn x f = x.bind fun r => f r.2 := by unfold bdn; rw [QP]; rfl
def Ah (x : Option (Bool × Qa)) (f g : Qa → Option α) : Option α := x.bind fun r => match r.1 with
 | true => f r.2
 | false => g r.2
noncomputable def bdp {α : Type} : Option (Bool × Qa) → (Qa → Option α) → (Qa → Option α) → Option α := shut Ah
theorem A4 (x : Option (Bool × Qa)) (f g : Qa → Option α) : bdp x f g = Ah x f g := by unfold bdp; rw [QP]
noncomputable def Br (P : Program) (n : Nat) (t : Ts) (H : Qa) : List ResultVar → (List V → Option α) → Option α
 | [],k => k []
 | .tmp i :: rs,k => Br P n t H rs fun vs => k (QU n t (.tmp i) :: vs)
 | .cell a ty :: rs,k => match Zs P ty with
  | some ag => match QC P ty with
   | some m => bnd (Qd ag m H (QU n t (.tmp a))) fun v => Br P n t H rs fun vs => k (v :: vs)
   | none => none
  | none => none
noncomputable def Kz (P : Program) (dfr : ZF) (keep : Bool) (base n : Nat) (rs : List ResultVar) (t : Ts) : Ds → Option V → Qa → Option (Out × Qa)
 | [],m,H => match m with
  | none => Br P n t H rs fun vs => rt keep base (AR vs) H
  | some v => pn keep base v H
 | d :: ds,m,H => match m with
  | none => bdn (dfr d.1 d.2 none H) fun H' => Kz P dfr keep base n rs t ds none H'
  | some v => bdp (dfr d.1 d.2 (some v) H) (fun H' => Kz P dfr keep base n rs t ds none H') (fun H' => Kz P dfr keep base n rs t ds (some v) H')
noncomputable def QN (P : Program) (dfr : ZF) (keep : Bool) (base n : Nat) (rs : List ResultVar) : KC (Out × Qa) := fun e t H d =>
 match e with
 | .normal | .ret => Kz P dfr keep base n rs t d none H
 | .pan v => Kz P dfr keep base n rs t d (some v) H
 | .exit _ => none
noncomputable def Lv (P : Program) (own : Bool) (ks : Ks) (keep : Bool) (call : Qr) (dfr : ZF) (c : Code) (rs : List ResultVar) (n : Nat) (args : List V) (H : Qa) : Option (Out × Qa) :=
 xC P H.length own ks call n c (QN P dfr keep H.length n rs) (Bg 0 args) H []
section
variable {P : Program}
theorem E1 {n : Nat} {t : Ts} {H : Qa} : ∀ {rs : List ResultVar} {k : List V → Option α} {x : α},Br P n t H rs k = some x → Wj P (tl n t) H rs k = some x
 | [],k,x,h => h
 | .tmp i :: rs,k,x,h => by
  simp only [Br] at h
  simp only [Wj]
  have := E1 h
  rw [← JK] at this
  exact this
 | .cell a ty :: rs,k,x,h => by
  simp only [Br] at h
  simp only [Wj]
  split at h
  ·rename_i ag ha
   split at h
   ·rename_i m hm
    rw [Jc,← JK,Ud] at h
    obtain ⟨v,h1,h2⟩ := ZL h
    simp only [V8,ha,hm,Option.bind_some]
    rw [show (tl n t).getD a .junk = env (tl n t) (.tmp a) from rfl,h1]
    exact E1 h2
   ·simp at h
  ·simp at h
theorem BR {dfr : ZF} {keep : Bool} {base n : Nat} {rs : List ResultVar} {t : Ts} : ∀ {d : Ds} {m : Option V} {H : Qa} {x : Out × Qa},Kz P dfr keep base n rs t d m H = some x → Uq P dfr keep base n rs t d m H = some x
 | [],none,H,x,h => by
  simp only [Kz,Pm] at h
  exact E1 h
 | [],some v,H,x,h => by
  simp only [Kz,QhC] at h
  exact h
 | d :: ds,none,H,x,h => by
  simp only [Kz,QbT] at h
  obtain ⟨r,h1,h2⟩ := ZL h
  simp only [Uq,h1,Option.bind_some]
  simp only [ite_self]
  exact BR h2
 | d :: ds,some v,H,x,h => by
  simp only [Kz,A4] at h
  unfold Ah at h
  obtain ⟨⟨b,H'⟩,h1,h2⟩ := ZL h
  simp only [Uq,h1,Option.bind_some]
  cases b with
  | true => exact BR h2
  | false => exact BR h2
def WG (b : Bool) (args : List V) : List V := match b with
 | true => args.map V.nrm
 | false => args
theorem Qi3 (b : Bool) (args : List V) : (WG b args).length = args.length := by cases b <;> simp [WG]
theorem Qm0 {S : Ctx} {b : Bool} {args : List V} {us : Array Value} (h : RelA S args us) : RelA S (WG b args) us := by
 cases b with
 | false => exact h
 | true =>
  obtain ⟨h1,h2⟩ := h
  refine ⟨by simpa [WG] using h1,fun j v u hv hu => ?_⟩
  simp only [WG,List.getElem?_map,Option.map_eq_some_iff] at hv
  obtain ⟨w,hw,rfl⟩ := hv
  exact Lx (h2 j w u hw hu)
def L2 : V → Bool
 | .bool _ | .int _ _ | .str _ => true
 | _ => false
noncomputable def DC (H : Qa) (r : Out × Qa) : Option (Out × Qa) := match r with
 | (.ret v,[]) => if L2 v = true then some (.ret v,H) else none
 | _ => none
theorem QnZ {H H' : Qa} {r : Out × Qa} {o : Out} (h : DC H r = some (o,H')) : ∃ v,r = (.ret v,[]) ∧ L2 v = true ∧ o = .ret v ∧ H' = H := by
 unfold DC at h
 split at h
 ·split at h
  ·rename_i hp
   simp only [Option.some.injEq,Prod.mk.injEq] at h
   exact ⟨_,rfl,hp,h.1.symm,h.2.symm⟩
  ·cases h
 ·cases h
noncomputable def Nk (call : Qr) (f : FuncId) (args : List V) (H : Qa) : Option (Out × Qa) :=
 (Ye (frz H 0 depth) args).bind fun a => if QW a = true then (call f a []).bind (DC H) else none
noncomputable def KN (P : Program) (h : Hint) (call : Qr) (dfr : ZF) (f : FuncId) (args : List V) (H : Qa) : Option (Out × Qa) :=
 match h.orc f with
 | some g => g call args H
 | none => match h.intr f with
 | some g => g args H
 | none => match P.funcs[f]? with
  | none => none
  | some fn => match fn.body with
   | none => none
   | some c => if args.length ≤ fn.ntmps then Lv P (h.own f) (h.ks f) (h.keep f) call dfr c fn.results.toList fn.ntmps (WG (h.nrm f) args) H else none
noncomputable def Ve (P : Program) (h : Hint) (call : Qr) (dfr : ZF) (f : FuncId) (args : List V) (H : Qa) : Option (Out × Qa) :=
 match h.lend f && !QW args with
 | true => Nk call f args H
 | false => KN P h call dfr f args H
theorem QqH {call : Qr} {f : FuncId} {args : List V} {H : Qa} : Qi (fun c => Nk c f args H) call := by
 unfold Nk
 refine Qi.bind (f := fun _ => Ye (frz H 0 depth) args) (Qi.const _) fun a => ?_
 split
 ·exact Qi.bind (f := fun c => c f a []) (Qi.one _ _ _) fun r => Qi.const _
 ·exact Qi.const _
theorem Qki {h : Hint} {call : Qr} {dfr : ZF} {f : FuncId} {args : List V} {H : Qa} : Qi (fun c => KN P h c dfr f args H) call := by
 unfold KN
 split
 ·rename_i g hg
  exact h.fine f g hg args H call
 ·split
  ·exact Qi.const _
  ·split
   ·exact Qi.const _
   ·split
    ·exact Qi.const _
    ·split
     ·exact W8 _ fun e t H d => Qi.const _
     ·exact Qi.const _
theorem CW {h : Hint} {call : Qr} {dfr : ZF} {f : FuncId} {args : List V} {H : Qa} : Qi (fun c => Ve P h c dfr f args H) call := by
 unfold Ve
 split
 ·exact QqH
 ·exact Qki
noncomputable def EVn (P : Program) (h : Hint) (dfr : ZF) : Nat → Qr
 | 0 => fun _ _ _ => none
 | n + 1 => Ve P h (EVn P h dfr n) dfr
noncomputable def EV (P : Program) (h : Hint) (dfr : ZF) : Qr := fun f args H => lim fun n => EVn P h dfr n f args H
theorem QdP {h : Hint} {dfr : ZF} : ∀ (n : Nat) {f : FuncId} {args : List V} {H : Qa} {x : Out × Qa},EVn P h dfr n f args H = some x → EVn P h dfr (n + 1) f args H = some x
 | 0,f,args,H,x,hx => by simp [EVn] at hx
 | n + 1,f,args,H,x,hx => by
  rw [EVn] at hx ⊢
  obtain ⟨L,l1,l2⟩ := CW (call := EVn P h dfr n) x hx
  exact l2 _ fun y hy => QdP n (l1 y hy)
theorem Ff {h : Hint} {dfr : ZF} {f : FuncId} {args : List V} {H : Qa} : NQ fun n => EVn P h dfr n f args H := fun n x hx => QdP n hx
theorem T3 {h : Hint} {dfr : ZF} : ∀ {L : List Af},Has (EV P h dfr) L → ∃ n,Has (EVn P h dfr n) L
 | [],_ => ⟨0,Has.nil⟩
 | y :: L,hL => by
  obtain ⟨n,hn⟩ := T3 (L := L) fun z hz => hL z (List.mem_cons_of_mem _ hz)
  obtain ⟨m,hm⟩ := K1 (hL y (List.mem_cons_self ..))
  refine ⟨max n m,fun z hz => ?_⟩
  rcases List.mem_cons.1 hz with rfl | hz
  ·exact Ff.le (Nat.le_max_right n m) hm
  ·exact Ff.le (Nat.le_max_left n m) (hn z hz)
theorem Qim {h : Hint} {dfr : ZF} {f : FuncId} {args : List V} {H : Qa} : EV P h dfr f args H = Ve P h (EV P h dfr) dfr f args H := by
 refine E9 (fun x hx => ?_) (fun x hx => ?_)
 ·obtain ⟨n,hn⟩ := K1 hx
  cases n with
  | zero => simp [EVn] at hn
  | succ n =>
   rw [EVn] at hn
   obtain ⟨L,l1,l2⟩ := CW (call := EVn P h dfr n) x hn
   exact l2 _ fun y hy => Vw Ff (l1 y hy)
 ·obtain ⟨L,l1,l2⟩ := CW (call := EV P h dfr) x hx
  obtain ⟨n,hn⟩ := T3 l1
  refine Vw Ff (n := n + 1) ?_
  simp only [EVn]
  exact l2 _ hn
theorem DU {h : Hint} {dfr : ZF} {f : FuncId} {args : List V} {H : Qa} (hl : (h.lend f && !QW args) = false) : EV P h dfr f args H = KN P h (EV P h dfr) dfr f args H := by
 rw [Qim]
 unfold Ve
 rw [hl]
theorem Qpa {h : Hint} {dfr : ZF} {f : FuncId} {fn : Func} {c : Code} (ho : h.orc f = none) (hi : h.intr f = none) (hf : P.funcs[f]? = some fn) (hb : fn.body = some c) {args : List V} {H : Qa} (hl : args.length ≤ fn.ntmps) (hn : (h.lend f && !QW args) = false) :
  EV P h dfr f args H = Lv P (h.own f) (h.ks f) (h.keep f) (EV P h dfr) dfr c fn.results.toList fn.ntmps (WG (h.nrm f) args) H := by
 rw [DU hn]
 unfold KN
 simp only [ho,hi,hf,hb,if_pos hl]
theorem QR {h : Hint} {dfr : ZF} {f : FuncId} {fn : Func} (hf : P.funcs[f]? = some fn) (hi : ((h.orc f).isNone && (h.intr f).isNone && !h.nrm f && !h.lend f) = true) (hb : fn.body.isSome = true) {args : List V} {H : Qa} (hl : Nat.ble args.length fn.ntmps = true) :
  EV P h dfr f args H = Lv P (h.own f) (h.ks f) (h.keep f) (EV P h dfr) dfr (QO fn) fn.results.toList fn.ntmps args H := by
 obtain ⟨c,hc⟩ := Option.isSome_iff_exists.1 hb
 rw [Bool.and_eq_true,Bool.and_eq_true,Bool.and_eq_true] at hi
 rw [Qpa (by simpa using hi.1.1.1) (by simpa using hi.1.1.2) hf hc (Nat.le_of_ble_eq_true hl) (by rw [show h.lend f = false by simpa using hi.2]; rfl),show h.nrm f = false by simpa using hi.1.2]
 unfold QO
 rw [hc]
 rfl
theorem KL {h : Hint} {dfr : ZF} {f : FuncId} {g : List V → Qa → Option (Out × Qa)} (hi : h.intr f = some g) (ho : h.orc f = none := by rfl) (hl : h.lend f = false := by rfl) {args : List V} {H : Qa} : EV P h dfr f args H = g args H := by
 rw [DU (by rw [hl]; rfl)]
 unfold KN
 simp only [ho,hi]
theorem Qpl {h : Hint} {dfr : ZF} {f : FuncId} {g : Qr → List V → Qa → Option (Out × Qa)} (ho : h.orc f = some g) (hl : h.lend f = false := by rfl) {args : List V} {H : Qa} : EV P h dfr f args H = g (EV P h dfr) args H := by
 rw [DU (by rw [hl]; rfl)]
 unfold KN
 simp only [ho]
theorem Rel.plain {S S' : Ctx} {v : V} {u : Value} (h : Rel S v u) (hp : L2 v = true) : Rel S' v u := by
 cases h <;> first | exact .bool _ | exact .int _ _ | exact .str _ | simp [L2] at hp
theorem Qlq {call : Qr} (hcall : ZI T P call) (f : FuncId) : Mod T P f (Nk call f) := by
 intro args H r H' hg S us hH hS hA
 subst hH
 unfold Nk at hg
 obtain ⟨a,ha,hg⟩ := ZL hg
 split at hg
 ·rename_i hc
  obtain ⟨q,hq,hg⟩ := ZL hg
  obtain ⟨v,rfl,hp,rfl,rfl⟩ := QnZ hg
  have hb : 0 ≤ S.H.length := Nat.zero_le _
  have hn : (S.trunc 0).H = [] := by simp [Ctx.trunc,Q2]
  have hB : Bnd 0 S.H := fun i b hi _ => by omega
  have hA' : RelA (S.trunc 0) a us := by
   obtain ⟨m1,m2⟩ := NC ha
   refine ⟨by rw [m1]; exact hA.1,fun j y u hy hu => ?_⟩
   obtain ⟨x,hx,hf⟩ := m2 j y hy
   exact RD hb hS depth hf (hA.2 j x u hx hu) (by rw [Bl (Jb.1 hc y (List.mem_of_getElem? hy))]; exact Nat.le_refl _)
  obtain ⟨h1,h2⟩ := hcall f a [] _ _ hq (S.trunc 0) us hn (TU hb hS hB) hA'
  refine ⟨h1,h2.mono fun e w' he => ?_⟩
  obtain ⟨S',hto,hr⟩ := he
  have hw := hto.w
  subst hw
  match e,hr with
  | .returned u,hr =>
   have hgr : Grew S.w S'.w := ⟨hto.ext.size,fun c hc => by
    by_cases hz : S.Z c
    ·exact (hto.ext.zed c hz).2
    ·exact (hto.ext.keep c hc ⟨fun ⟨i,hi,_⟩ => by have := (RF hb hi).2; omega,hz⟩).1,hto.ext.os,hto.ext.tape,hto.ext.output⟩
   exact ⟨S.at S'.w,⟨rfl,rfl,rfl,JD hS hgr,KY hS hgr,Bd.refl _ _⟩,Rel.plain hr hp⟩
 ·cases hg
theorem Qqg {h : Hint} {call : Qr} {dfr : ZF} (hcall : ZI T P call) (hdfr : VX T P dfr) (hmix : P.follows .mixedOrders = true) (hn : Bb P) (hi : ∀ f g,h.intr f = some g → Mod T P f g) (ho : ∀ f g,h.orc f = some g → ∀ call,ZI T P call → Mod T P f (g call)) (f : FuncId) : Mod T P f (Ve P h call dfr f) := by
 intro args H r H' hg
 cases hle : h.lend f && !QW args with
 | true =>
  unfold Ve at hg
  rw [hle] at hg
  exact Qlq hcall f args H r H' hg
 | false =>
 unfold Ve at hg
 rw [hle] at hg
 clear hle
 simp only at hg
 cases hor : h.orc f with
 | some g =>
  unfold KN at hg
  simp only [hor] at hg
  exact ho f g hor call hcall args H r H' hg
 | none =>
 cases hin : h.intr f with
 | some g =>
  unfold KN at hg
  simp only [hor,hin] at hg
  exact hi f g hin args H r H' hg
 | none =>
  unfold KN at hg
  simp only [hor,hin] at hg
  cases hf : P.funcs[f]? with
  | none => simp [hf] at hg
  | some fn =>
   simp only [hf] at hg
   cases hb : fn.body with
   | none => simp [hb] at hg
   | some c =>
    simp only [hb] at hg
    split at hg
    ·rename_i hle
     unfold Lv at hg
     obtain ⟨M,e,t',H1,d',h1,h2⟩ := Vk c hg
     have hle' : (WG (h.nrm f) args).length ≤ fn.ntmps := by rw [Qi3]; exact hle
     rw [Qqv hle'] at h1
     have key := Qrr (h := h) hcall (TO hcall hmix M) hdfr hmix (f := f) (fun g hh => by rw [hin] at hh; simp at hh) (fun fn' hf' hb' => hn f fn' hf' hb')
     intro S uargs hH hS hA
     refine key (WG (h.nrm f) args) H r H' ?_ S uargs hH hS (Qm0 hA)
     unfold Xs
     simp only [hin,hf,hb]
     rw [if_pos hle',h1]
     simp only [Option.bind_some]
     cases e with
     | normal => exact L8 (BR h2)
     | ret => exact L8 (BR h2)
     | pan v => exact L8 (BR h2)
     | exit i => simp [QN] at h2
    ·simp at hg
theorem QcZ {h : Hint} {dfr : ZF} (hdfr : VX T P dfr) (hmix : P.follows .mixedOrders = true) (hn : Bb P) (hi : ∀ f g,h.intr f = some g → Mod T P f g) (ho : ∀ f g,h.orc f = some g → ∀ call,ZI T P call → Mod T P f (g call)) : ∀ n,ZI T P (EVn P h dfr n)
 | 0 => fun f args H r H' hh => by simp [EVn] at hh
 | n + 1 => fun f => Qqg (QcZ hdfr hmix hn hi ho n) hdfr hmix hn hi ho f
theorem Qmn {h : Hint} {dfr : ZF} (hdfr : VX T P dfr) (hmix : P.follows .mixedOrders = true) (hn : Bb P) (hi : ∀ f g,h.intr f = some g → Mod T P f g) (ho : ∀ f g,h.orc f = some g → ∀ call,ZI T P call → Mod T P f (g call)) : ZI T P (EV P h dfr) := by
 intro f args H r H' hh
 obtain ⟨n,hx⟩ := K1 hh
 exact QcZ hdfr hmix hn hi ho n f args H r H' hx
def Dx : Y9 := fun _ _ _ _ _ => none
theorem Qmy : KF T P Dx := fun base own ks b st e st' h => by simp [Dx] at h
noncomputable def Qb4 (P : Program) (h : Hint) : ZF := LN P h Xi Dx
theorem QrB {h : Hint} (hmix : P.follows .mixedOrders = true) (hn : Bb P) : VX T P (Qb4 P h) := Qi7 Qir Qmy hmix hn
end
end Go.Ev
end
section
namespace Go.Ev
variable {α : Type}
abbrev KS (α : Type) := Ex → Ts → Qa → Option V → Bool → Option α
section
variable (P : Program) (base : Nat) (own : Bool) (ops : List Oper) (n : Nat) (k : KS α)
end
def kd (k : KS α) (m : Option V) (b : Bool) : KC α := fun e t H d =>
 match d with
 | [] => k e t H m b
 | _ => none
section
variable {P : Program} {base : Nat} {own : Bool} {call : Qr} {loop : Y9} {ops : List Oper} {n : Nat} {k : KS α}
end
end Go.Ev
end
section
namespace Go.Ev
def iRd (g : List V → Qa → Option V) : List V → Qa → Option (Out × Qa) := fun args H => (g args H).map fun v => (.ret v,H)
def MR : List V → Qa → Option V
 | [.int .i64 n],_ => if -9223372036854775808 ≤ n ∧ n ≤ 9223372036854775807 then some (.str (Lib.itoa n)) else none
 | _,_ => none
def Ku : List V → Option (List (List UInt8))
 | [] => some []
 | .str s :: r => (Ku r).map fun l => s :: l
 | _ => none
def UA : List V → Qa → Option V
 | [x,.str sep],H => (Zy x).bind fun _ => (ZO 1 H x).bind fun cs => (Ku cs).bind fun l =>
  if l.length ≤ 140737488355328 ∧ (Lib.join l sep).length ≤ 140737488355328 then some (.str (Lib.join l sep)) else none
 | _,_ => none
def Ys : List Int := [0,1,56,2,57,49,28,3,61,58,42,50,38,29,17,4,62,47,59,36,45,43,51,22,53,39,33,30,24,18,12,5,63,55,48,27,60,41,37,16,46,35,44,21,52,32,23,11,54,26,40,15,34,20,31,10,25,14,19,9,13,8,7,6]
def Yf (x : Int) : Int := (IntKind.u64.wrap (IntKind.u64.wrap ((BitVec.ofInt 64 x &&& BitVec.ofInt 64 (IntKind.u64.wrap (0 - x))).toNat) * 285870213051353865)).fdiv 288230376151711744
def gTZ : List V → Qa → Option V
 | [.int .u64 x],_ => if 0 ≤ x ∧ x ≤ 18446744073709551615 then some (.int .i64 (if x = 0 then 64 else Ys.getD (Yf x).toNat 0)) else none
 | _,_ => none
def FP : List (Nat × (List V → Qa → Option (Out × Qa))) → Nat → Option (List V → Qa → Option (Out × Qa))
 | [],_ => none
 | (i,g) :: r,f => match Nat.beq i f with
  | true => some g
  | false => FP r f
end Go.Ev
end
