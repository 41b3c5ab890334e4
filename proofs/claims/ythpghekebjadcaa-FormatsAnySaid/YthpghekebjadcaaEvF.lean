/- EvF: a part of the proof that each law of this seat answers true at every input. No condition. -/
import Derived.Test.YthpghekebjadcaaEvE
import Derived.Lib.ItoaNum
import Derived.Lib.Case
import Derived.Lib.Join
set_option linter.unusedVariables false
set_option linter.unusedSimpArgs false
section
namespace Go.Ev
universe u
noncomputable def shut {α : Sort u} (a : α) : α := Classical.choose (⟨a,rfl⟩ : ∃ x,x = a)
theorem Qk {α : Sort u} (a : α) : shut a = a := Classical.choose_spec (⟨a,rfl⟩ : ∃ x,x = a)
noncomputable def ZF : V → V → V → Option V := shut (BN)
theorem Kh : ZF = BN := Qk _
noncomputable def QT : List V → List (Nat × Nat) → List (Nat × V) → Option V := shut (VB)
theorem JL : QT = VB := Qk _
noncomputable def NJ : List V → Nat → List (Nat × V) → Option V := shut (Bz)
theorem V3 : NJ = Bz := Qk _
noncomputable def VZ : V → Option V := shut (Bg)
theorem Ki : VZ = Bg := Qk _
noncomputable def Qr : BinOp → Nat → V → V → Option V := shut (J3)
theorem Y4 : Qr = J3 := Qk _
noncomputable def Ur : BinOp → Bool → V → V → Option V := shut (VH)
theorem Ko : Ur = VH := Qk _
noncomputable def oUn : UnOp → V → Option V := shut (vUn)
theorem Kx : oUn = vUn := Qk _
noncomputable def VW : IntKind → V → Option V := shut (UM)
theorem Wy : VW = UM := Qk _
noncomputable def R3 : V → Option V := shut (Ua)
theorem Ws : R3 = Ua := Qk _
noncomputable def B0 : TypeId → V → Option V := shut (Ro)
theorem K2 : B0 = Ro := Qk _
noncomputable def Rl : FuncId → List V → Option V := shut (RL)
theorem WP : Rl = RL := Qk _
noncomputable def MN : V → Option V → Option V → Option V → Option V := shut (KV)
theorem VK : MN = KV := Qk _
noncomputable def N7 : Nat → V → Option V → Option V → Option V → Option V := shut (Wv)
theorem U0 : N7 = Wv := Qk _
noncomputable def Z2 : V → Nat → Option V := shut (Yn)
theorem Wr : Z2 = Yn := Qk _
noncomputable def Ka : Nat → Bool → Nat → V → Option V := shut (Uv)
theorem K6 : Ka = Uv := Qk _
noncomputable def Z4 : Nat → V → V → Option V := shut (UY)
theorem Vh : Z4 = UY := Qk _
noncomputable def LO : Nat → Nat → V → V → Option V := shut (V8)
theorem VC : LO = V8 := Qk _
noncomputable def RP : V → V → Option V := shut (Ut)
theorem Wc : RP = Ut := Qk _
noncomputable def MU : Nat → Bool → Nat → V → V → Option V := shut (Uf)
theorem Um : MU = Uf := Qk _
noncomputable def Vf : V → Nat → Option V := shut (BL)
theorem JB : Vf = BL := Qk _
noncomputable def R9 : TypeId → V → Option V := shut (W9)
theorem Wi : R9 = W9 := Qk _
noncomputable def Lk : TypeId → V → V → Option V := shut (Vs)
theorem UV : Lk = Vs := Qk _
noncomputable def BS : V → Option V := shut (BD)
theorem Wp : BS = BD := Qk _
noncomputable def Yb : V → Option V := shut (RA)
theorem JD : Yb = RA := Qk _
noncomputable def R4 : Nat → Option V := shut (RX)
theorem WU : R4 = RX := Qk _
noncomputable def Mt : Nat → Nat → Bool → V → Option V → Option V → Option V → Qa → Option (V × Qa) := shut (Rz)
theorem Vp : Mt = Rz := Qk _
noncomputable def Mb : Nat → Nat → List V → V → Qa → Option (V × Qa) := shut (BY)
theorem Uo : Mb = BY := Qk _
noncomputable def Ly : Nat → Nat → V → V → Qa → Option (V × Qa) := shut (RG)
theorem Ul : Ly = RG := Qk _
noncomputable def RH : List V → Option V := shut (Z5 Wz)
theorem Vj : RH = Z5 Wz := Qk _
noncomputable def BR : List V → Option V := shut (Z5 Wj)
theorem K5 : BR = Z5 Wj := Qk _
noncomputable def Zf : V → Option V := shut (Uj)
theorem We : Zf = Uj := Qk _
noncomputable def QN : Bool → Nat → Qa → V → Option V := shut (Ji)
theorem JQ : QN = Ji := Qk _
noncomputable def Ny : Qa → V → Option V := shut (RN)
theorem Vu : Ny = RN := Qk _
noncomputable def Kl : Nat → V → Qa → V → V → Option V := shut (KU)
theorem WF : Kl = KU := Qk _
noncomputable def LK : Nat → V → Qa → V → V → Option V := shut (VS)
theorem Uh : LK = VS := Qk _
noncomputable def QQ : Nat → Nat → V → List (Nat × V) → Option V := shut (KR)
theorem Jc : QQ = KR := Qk _
noncomputable def Z8 : Qa → V → Option (V × Qa) := shut (K8)
theorem Wt : Z8 = K8 := Qk _
noncomputable def UW : Nat → Nat → Bool → List V → Qa → List (Nat × V) → Option (V × Qa) := shut (VJ)
theorem W5 : UW = VJ := Qk _
noncomputable def N9 : Nat → Bool → Nat → List V → V → V → Qa → Option (V × Qa) := shut (Uk)
theorem VN : N9 = Uk := Qk _
noncomputable def Vw : Qa → Option (V × Qa) := shut (Nf)
theorem WQ : Vw = Nf := Qk _
noncomputable def JA : Nat → Nat → Qa → V → V → V → Option (V × Qa) := shut (Kt)
theorem Vm : JA = Kt := Qk _
noncomputable def YC : Nat → Nat → Qa → V → V → Option (V × Qa) := shut (UU)
theorem KY : YC = UU := Qk _
noncomputable def B5 : V → Qa → Option (V × Qa) := shut (WJ)
theorem WV : B5 = WJ := Qk _
noncomputable def Kj : Nat → Nat → Nat → Bool → V → V → Qa → Option (V × Qa) := shut (WI)
theorem Kb : Kj = WI := Qk _
noncomputable def M7 : Nat → Nat → Nat → Bool → V → V → Qa → Option (V × Qa) := shut (UO)
theorem VT : M7 = UO := Qk _
def JC (g : Operand → V) : List (Nat × Operand) → List (Nat × V)
 | [] => []
 | (i,x) :: r => (i,g x) :: JC g r
def YL (g : Operand → V) : List Operand → List V
 | [] => []
 | x :: r => g x :: YL g r
theorem WL (t : List V) : ∀ l,JC (env t) l = QY t l
 | [] => rfl
 | (i,x) :: r => by rw [JC,QY,WL t r]
theorem Jp (t : List V) : ∀ l,YL (env t) l = QV t l
 | [] => rfl
 | x :: r => by rw [YL,QV,Jp t r]
noncomputable def Kv (P : Program) (g : Operand → V) : Op → Option V
 | .move x | .assign x => Zf (g x)
 | .pick c a b => ZF (g c) (g a) (g b)
 | .build ty parts => match P.underlying ty with
  | some (.struct fs) => match Qq P ty with
   | some z => match YK P fs.toList with
    | some pl => match Qi z.cells with
     | true => QT z.cells pl (JC g parts.toList)
     | false => none
    | none => none
   | none => none
  | some (.array _ e) => match Qq P ty with
   | some z => match Qf P e with
    | some n => match Qi z.cells with
     | true => NJ z.cells n (JC g parts.toList)
     | false => none
    | none => none
   | none => none
  | _ => none
 | .nilCheck x => VZ (g x)
 | .binOp op ty x y _ => match J6 P ty with
  | 3 => Ur op (Region.isConst x || Region.isConst y) (g x) (g y)
  | k => Qr op k (g x) (g y)
 | .unOp op _ x => oUn op (g x)
 | .convert src dst x => match (P.underlying src).isSome with
  | true => match P.underlying dst with
   | some (.int k) => VW k (g x)
   | some .string => R3 (g x)
   | _ => none
  | false => none
 | .makeInterface ty x => match P.underlying ty with
  | some (.interface _) => none
  | some _ => B0 ty (g x)
  | none => none
 | .makeFunc fn first cap => match fn with
  | .func f => match first.size with
   | 0 => Rl f (YL g cap.toList)
   | _ => none
  | _ => none
 | .slice ty x lo hi mx => match P.underlying ty with
  | some .string => MN (g x) (lo.map g) (hi.map g) (mx.map g)
  | some (.slice e) => match Qf P e with
   | some n => N7 n (g x) (lo.map g) (hi.map g) (mx.map g)
   | none => none
  | _ => none
 | .fieldAddr ty x f => match Y1 P ty f with
  | some r => match Qf P r.2 with
   | some (_ + 1) => Z2 (g x) r.1
   | _ => none
  | none => none
 | .field ty x f => match Y1 P ty f with
  | some r => match QB P r.2 with
   | some ag => match Qf P r.2 with
    | some n => Ka r.1 ag n (g x)
    | none => none
   | none => none
  | none => none
 | .indexAddr ty x i => match P.underlying ty with
  | some (.slice e) => match Qf P e with
   | some n => Z4 n (g x) (g i)
   | none => none
  | some (.array len e) => match Qf P e with
   | some (n + 1) => LO len (n + 1) (g x) (g i)
   | _ => none
  | _ => none
 | .index ty x i => match P.underlying ty with
  | some .string => RP (g x) (g i)
  | some (.array len e) => match QB P e with
   | some ag => match Qf P e with
    | some n => MU len ag n (g x) (g i)
    | none => none
   | none => none
  | _ => none
 | .extract x i => Vf (g x) i
 | .typeAssert x _ ty ok => match P.underlying ty with
  | some (.interface _) => none
  | some _ => match ok with
   | true => match Qq P ty with
    | some z => Lk ty z (g x)
    | none => none
   | false => R9 ty (g x)
  | none => none
 | .call c => match c.callee with
  | .builtin .len => match c.argTypes[0]?,c.args[0]? with
   | some ty,some x => match P.underlying ty with
    | some .string => BS (g x)
    | some (.slice _) => Yb (g x)
    | some (.array n _) => R4 n
    | _ => none
   | _,_ => none
  | .builtin .min => RH (YL g c.args.toList)
  | .builtin .max => BR (YL g c.args.toList)
  | _ => none
 | _ => none
noncomputable def Yv (P : Program) (g : Operand → V) (H : Qa) : Op → Option V
 | .load ty p => match QB P ty with
  | some ag => match Qf P ty with
   | some n => QN ag n H (g p)
   | none => none
  | none => none
 | .convert src dst x => match P.underlying src with
  | some (.slice e) => match P.underlying dst with
   | some .string => match P.underlying e with
    | some (.int .u8) => Ny H (g x)
    | _ => none
   | _ => none
  | _ => none
 | .lookup ty m k ok => match P.underlying ty with
  | some (.map kt et) => match Qq P et with
   | some z => match ok with
    | true => LK (YR P kt) z H (g m) (g k)
    | false => Kl (YR P kt) z H (g m) (g k)
   | none => none
  | _ => none
 | _ => none
noncomputable def KP (P : Program) (g : Operand → V) : Op → Option V
 | .buildSlice ty len parts => match QK P ty with
  | some e => match Qf P e with
   | some n => match Qq P e with
    | some z => match decide (len * n ≤ 16777216) && decide (0 < n) && (z.cells.length == n) && Qi z.cells && z.nrm.clean with
     | true => QQ n len z.nrm (JC g parts.toList)
     | false => none
    | none => none
   | none => none
  | none => none
 | _ => none
noncomputable def Wn (P : Program) (O : Nat) (g : Operand → V) (H : Qa) : Op → Option (V × Qa)
 | .alloc ty => match Qq P ty with
  | some z => Z8 H z
  | none => none
 | .box _ x => Z8 H (g x)
 | .buildSlice ty len parts => match QK P ty with
  | some e => match Qf P e with
   | some n => match QB P e with
    | some ag => match Qq P e with
     | some z => match decide (len * n ≤ 16777216) && (z.cells.length == n) && Qi z.cells with
      | true => UW len n ag (Q7 len z.cells) H (JC g parts.toList)
      | false => none
     | none => none
    | none => none
   | none => none
  | none => none
 | .makeSlice ty l c => match QK P ty with
  | some e => match Qf P e with
   | some n => match QB P e with
    | some ag => match ZY P e with
     | some by_ => match Qq P e with
      | some z => match (z.cells.length == n) && Qi z.cells with
       | true => N9 n ag by_ z.cells (g l) (g c) H
       | false => none
      | none => none
     | none => none
    | none => none
   | none => none
  | none => none
 | .makeMap ty r => match P.underlying ty with
  | some (.map _ _) => match r with
   | none => Vw H
   | some x => none
  | _ => none
 | .mapUpdate ty m k x | .insert ty m k x => match P.underlying ty with
  | some (.map kt _) => JA O (YR P kt) H (g m) (g k) (g x)
  | _ => none
 | .store ty p x => match Qf P ty with
  | some n => YC O n H (g p) (g x)
  | none => none
 | .convert src dst x => match (P.underlying src).isSome with
  | true => match P.underlying dst with
   | some (.slice e) => match P.underlying e with
    | some (.int .u8) => B5 (g x) H
    | _ => none
   | _ => none
  | false => none
 | .slice ty x lo hi mx => match P.underlying ty with
  | some (.array len e) => match Qf P e with
   | some n => match QB P e with
    | some ag => Mt n len ag (g x) (lo.map g) (hi.map g) (mx.map g) H
    | none => none
   | none => none
  | _ => none
 | .call c => match c.callee with
  | .builtin .clear => match c.argTypes[0]?,c.args[0]? with
   | some ty,some x => match QK P ty with
    | some e => match Qf P e with
     | some n => match Qq P e with
      | some z => Mb O n z.cells (g x) H
      | none => none
     | none => none
    | none => none
   | _,_ => none
  | .builtin .copy => match c.argTypes[0]?,c.args[0]?,c.args[1]? with
   | some ty,some d,some x => match QK P ty with
    | some e => match Qf P e with
     | some n => Ly O n (g d) (g x) H
     | none => none
    | none => none
   | _,_,_ => none
  | .builtin .append => match c.argTypes[0]?,c.argTypes[1]?,c.args[0]?,c.args[1]? with
   | some ty,some ty2,some s,some x => match QK P ty with
    | some e => match Qf P e with
     | some n => match QB P e with
      | some ag => match ZY P e with
       | some by_ => match Qq P e with
        | some z => match (z.cells.length == n) && Qi z.cells with
         | true => match P.underlying ty2 with
          | some (.slice _) => Kj O n by_ ag (g s) (g x) H
          | some .string => M7 O n by_ ag (g s) (g x) H
          | _ => none
         | false => none
        | none => none
       | none => none
      | none => none
     | none => none
    | none => none
   | _,_,_,_ => none
  | _ => none
 | _ => none
theorem EC (P : Program) (t : List V) (op : Op) : Kv P (env t) op = Yo P t op := by
 cases op <;> simp only [Kv,Yo,WL,Jp,Kh,JL,V3,Ki,Y4,Ko,Kx,Wy,Ws,K2,WP,VK,U0,Wr,K6,Vh,VC,Wc,Um,JB,Wi,UV,Wp,JD,WU,Vj,K5,We,JQ,Vu,WF,Uh,Jc,Wt,W5,VN,WQ,Vm,KY,WV,Kb,VT,Vp,Uo,Ul] <;> rfl
theorem PX (P : Program) (t : List V) (H : Qa) (op : Op) : Yv P (env t) H op = Yz P t H op := by
 cases op <;> simp only [Yv,Yz,WL,Jp,Kh,JL,V3,Ki,Y4,Ko,Kx,Wy,Ws,K2,WP,VK,U0,Wr,K6,Vh,VC,Wc,Um,JB,Wi,UV,Wp,JD,WU,Vj,K5,We,JQ,Vu,WF,Uh,Jc,Wt,W5,VN,WQ,Vm,KY,WV,Kb,VT,Vp,Uo,Ul] <;> rfl
theorem Gs (P : Program) (t : List V) (op : Op) : KP P (env t) op = Jo P t op := by
 cases op <;> simp only [KP,Jo,WL,Jp,Kh,JL,V3,Ki,Y4,Ko,Kx,Wy,Ws,K2,WP,VK,U0,Wr,K6,Vh,VC,Wc,Um,JB,Wi,UV,Wp,JD,WU,Vj,K5,We,JQ,Vu,WF,Uh,Jc,Wt,W5,VN,WQ,Vm,KY,WV,Kb,VT,Vp,Uo,Ul] <;> rfl
theorem Gc (P : Program) (O : Nat) (t : List V) (H : Qa) (op : Op) : Wn P O (env t) H op = JP P O t H op := by
 cases op <;> simp only [Wn,JP,WL,Jp,Kh,JL,V3,Ki,Y4,Ko,Kx,Wy,Ws,K2,WP,VK,U0,Wr,K6,Vh,VC,Wc,Um,JB,Wi,UV,Wp,JD,WU,Vj,K5,We,JQ,Vu,WF,Uh,Jc,Wt,W5,VN,WQ,Vm,KY,WV,Kb,VT,Vp,Uo,Ul] <;> rfl
variable {α : Type} {β : Type}
noncomputable def bnd {α : Type} : Option V → (V → Option α) → Option α := shut Option.bind
theorem Zu (x : Option V) (f : V → Option α) : bnd x f = x.bind f := by unfold bnd; rw [Qk]
def GP (x : Option (V × Qa)) (f : V → Qa → Option α) : Option α := x.bind fun r => f r.1 r.2
noncomputable def beff {α : Type} : Option (V × Qa) → (V → Qa → Option α) → Option α := shut GP
theorem Jj (x : Option (V × Qa)) (f : V → Qa → Option α) : beff x f = x.bind fun r => f r.1 r.2 := by unfold beff; rw [Qk]; rfl
def Gy (x : Option (Out × Qa)) (f g : V → Qa → Option α) : Option α := x.bind fun r => ZD r.1 (fun v => f v r.2) (fun v => g v r.2)
noncomputable def bcall {α : Type} : Option (Out × Qa) → (V → Qa → Option α) → (V → Qa → Option α) → Option α := shut Gy
theorem JM (x : Option (Out × Qa)) (f g : V → Qa → Option α) : bcall x f g = x.bind fun r => ZD r.1 (fun v => f v r.2) (fun v => g v r.2) := by unfold bcall; rw [Qk]; rfl
noncomputable def bdef {α : Type} : Option (FuncId × List V) → (FuncId × List V → Option α) → Option α := shut Option.bind
theorem Vk (x : Option (FuncId × List V)) (f : FuncId × List V → Option α) : bdef x f = x.bind f := by unfold bdef; rw [Qk]
noncomputable def gua {β : Type} : V → Bool → Option β → Option β → Option β := shut Yc
theorem Y2 (v : V) (w : Bool) (a b : Option β) : gua v w a b = Yc v w a b := by unfold gua; rw [Qk]
noncomputable def cnd {α : Type} : V → Option α → Option α → Option α := shut K1
theorem Ju (v : V) (a b : Option α) : cnd v a b = K1 v a b := by unfold cnd; rw [Qk]
noncomputable def sch {α : Type} : Bool → Option α → Option α := shut chk
theorem Kp (b : Bool) (a : Option α) : sch b a = chk b a := by unfold sch; rw [Qk]
noncomputable def sam : Option V → V → Bool := shut same
theorem Rc : sam = same := Qk _
noncomputable def tlb : Option V → (V → Bool) → Bool := shut JH
theorem Bj : tlb = JH := Qk _
noncomputable def oFn : V → List V → Option (FuncId × List V) := shut rFn
theorem NQ : oFn = rFn := Qk _
noncomputable def UX : V → Option V := shut Rw
theorem N0 : UX = Rw := Qk _
def Bb (call : Qc) (f : V) (args : List V) (H : Qa) : Option (Out × Qa) := (rFn f args).bind fun q => call q.1 q.2 H
noncomputable def BJ : Qc → V → List V → Qa → Option (Out × Qa) := shut Bb
theorem Rv : BJ = Bb := Qk _
def Qn (n : Nat) (t : Ts) : Operand → V
 | .tmp i => match Nat.blt i n with
  | true => Zz i t
  | false => .junk
 | .const v => ofValue v
 | .global _ => .junk
 | .func f => .fn f []
theorem ZC (n : Nat) (t : Ts) : env (tl n t) = Qn n t := by
 funext x
 cases x with
 | tmp i =>
  simp only [env,Qn,List.getD_eq_getElem?_getD,Wm]
  by_cases h : i < n
  ·have : Nat.blt i n = true := by rw [Nat.blt_eq]; exact h
   simp [h,this]
  ·have : Nat.blt i n = false := by
    cases hb : Nat.blt i n with
    | false => rfl
    | true => rw [Nat.blt_eq] at hb; exact absurd hb h
   simp [h,this]
 | _ => rfl
def aliasOf (o : Oper) : Option Operand :=
 match o.guard with
 | some _ => none
 | none => match o.op with
  | .move x | .assign x => some x
  | _ => none
noncomputable def guaK {β : Type} (ops : List Oper) (g : Operand → V) (o : Oper) (a b : Option β) : Option β :=
 match o.guard with
 | none => a
 | some (j,want) => match ops[j]? with
  | none => b
  | some oj => match oj.dst with
   | none => b
   | some d => gua (g (.tmp d)) want a b
noncomputable def callX (call : Qc) (g : Operand → V) (H : Qa) : Op → Option (Out × Qa)
 | .call c => match c.callee with
  | .value f => match f with
   | .func i => call i (YL g c.args.toList) H
   | f => BJ call (g f) (YL g c.args.toList) H
  | _ => none
 | _ => none
noncomputable def Ug (g : Operand → V) : Op → Option V
 | .panic x => UX (g x)
 | .call c => match c.callee with
  | .builtin .panic => match c.args[0]? with
   | some x => UX (g x)
   | none => none
  | _ => none
 | _ => none
noncomputable def R0 (g : Operand → V) : Op → Option (FuncId × List V)
 | .defer c => match c.callee with
  | .value f => oFn (g f) (YL g c.args.toList)
  | _ => none
 | _ => none
section
variable (P : Program) (O : Nat) (own : Bool) (call : Qc) (ops : List Oper) (n : Nat) (k : KC α)
noncomputable def Zk : List Oper → Ts → Qa → Ds → Option α
 | [],t,H,d => k .normal t H d
 | o :: rest,t,H,d => match aliasOf o with
  | some x => Zk rest (QA t o.dst (Qn n t x)) H d
  | none => match kindOf P own ops o.dst o.op with
   | .defer => match o.guard with
    | none => bdef (R0 (Qn n t) o.op) fun r => Zk rest (QA t o.dst (.tup [])) H (r :: d)
    | some _ => none
   | .pure => bnd (guaK ops (Qn n t) o (Kv P (Qn n t) o.op) (some (.tup []))) fun v => Zk rest (QA t o.dst v) H d
   | .lit => bnd (guaK ops (Qn n t) o (KP P (Qn n t) o.op) (some (.tup []))) fun v => Zk rest (QA t o.dst v) H d
   | .load => bnd (guaK ops (Qn n t) o (Yv P (Qn n t) H o.op) (some (.tup []))) fun v => Zk rest (QA t o.dst v) H d
   | .eff | .fresh => beff (guaK ops (Qn n t) o (Wn P O (Qn n t) H o.op) (some (.tup [],H))) fun v H' => Zk rest (QA t o.dst v) H' d
   | .call => bcall (guaK ops (Qn n t) o (callX call (Qn n t) H o.op) (some (.ret (.tup []),H))) (fun v H' => Zk rest (QA t o.dst v) H' d) (fun v H' => k (.pan v) t H' d)
   | .panic => match o.guard with
    | none => bnd (Ug (Qn n t) o.op) fun v => k (.pan v) t H d
    | some _ => none
   | .none => none
noncomputable def chkE (ms : List Nat) (i : Nat) (op : Op) (g : Operand → V) (v : V) : List (Nat × Qa) → Option β → Option β
 | [],a => a
 | (e,H) :: r,a => match ahead ms i e with
  | true => chkE ms i op g v r a
  | false => sch (sam (Yv P g H op) v) (chkE ms i op g v r a)
def UD (ms : List Nat) (i : Nat) : List (Nat × Qa) → Bool
 | [] => false
 | (e,H) :: r => match ahead ms i e with
  | true => UD ms i r
  | false => true
noncomputable def UE (ms : List Nat) (i : Nat) (op : Op) (g : Operand → V) (es : List (Nat × Qa)) (x : Option V) : Option V :=
 match UD ms i es with
 | false => x
 | true => bnd x fun v => chkE P ms i op g v es (some v)
noncomputable def JF (ms : List Nat) (p : Nat) (es : List (Nat × Qa)) : Nat → List Oper → Ts → Qa → Bool
 | _,[],_,_ => true
 | i,o :: rest,t,H =>
  match ahead ms i p with
  | true => JF ms p es (i + 1) rest t H
  | false => match kindOf P own ops o.dst o.op with
   | .pure => tlb (guaK ops (Qn n t) o (Kv P (Qn n t) o.op) (some (.tup []))) fun v => JF ms p es (i + 1) rest (QA t o.dst v) H
   | .lit => tlb (guaK ops (Qn n t) o (KP P (Qn n t) o.op) (some (.tup []))) fun v => JF ms p es (i + 1) rest (QA t o.dst v) H
   | .load => tlb (guaK ops (Qn n t) o (UE P ms i o.op (Qn n t) es (Yv P (Qn n t) H o.op)) (some (.tup []))) fun v => JF ms p es (i + 1) rest (QA t o.dst v) H
   | _ => false
structure LdX where
 i : Nat
 op : Op
 g : Operand → V
 v : V
noncomputable def chkL (ms : List Nat) (j : Nat) (H : Qa) : List LdX → Option β → Option β
 | [],a => a
 | l :: r,a => match ahead ms j l.i with
  | true => chkL ms j H r a
  | false => sch (sam (Yv P l.g H l.op) l.v) (chkL ms j H r a)
def VE (ms : List Nat) (p : Nat) : Nat → List Oper → Bool
 | _,[] => true
 | i,_ :: r => match ahead ms i p with
  | true => VE ms p (i + 1) r
  | false => false
noncomputable def chkT (ms : List Nat) (p : Nat) (es : List (Nat × Qa)) (i : Nat) (rest : List Oper) (t : Ts) (H : Qa) (a : Option β) : Option β :=
 match VE ms p i rest with
 | true => a
 | false => sch (JF P own ops n ms p es i rest t H) a
noncomputable def Zg (t0 : Ts) (ms : List Nat) : Nat → List Oper → List LdX → List (Nat × Qa) → Ts → Qa → Ds → Option α
 | _,[],_,_,t,H,d => k .normal t H d
 | i,o :: rest,ls,es,t,H,d => match aliasOf o with
  | some x => Zg t0 ms (i + 1) rest ls es (QA t o.dst (Qn n t x)) H d
  | none => match kindOf P own ops o.dst o.op with
   | .pure => bnd (guaK ops (Qn n t) o (Kv P (Qn n t) o.op) (some (.tup []))) fun v => Zg t0 ms (i + 1) rest ls es (QA t o.dst v) H d
   | .lit => bnd (guaK ops (Qn n t) o (KP P (Qn n t) o.op) (some (.tup []))) fun v => Zg t0 ms (i + 1) rest ls es (QA t o.dst v) H d
   | .load => match later P own ops ms i with
    | true => bnd (guaK ops (Qn n t) o (UE P ms i o.op (Qn n t) es (Yv P (Qn n t) H o.op)) (some (.tup []))) fun v => Zg t0 ms (i + 1) rest ls es (QA t o.dst v) H d
    | false => match o.guard with
     | none => bnd (Yv P (Qn n t) H o.op) fun v => chkE P ms i o.op (Qn n t) v es (Zg t0 ms (i + 1) rest ({ i,op := o.op,g := Qn n t,v } :: ls) es (QA t o.dst v) H d)
     | some _ => none
   | .eff | .fresh => beff (guaK ops (Qn n t) o (Wn P O (Qn n t) H o.op) (some (.tup [],H))) fun v H' => chkL P ms i H' ls (Zg t0 ms (i + 1) rest ls ((i,H) :: es) (QA t o.dst v) H' d)
   | .call => bcall (guaK ops (Qn n t) o (callX call (Qn n t) H o.op) (some (.ret (.tup []),H)))
     (fun v H' => chkL P ms i H' ls (Zg t0 ms (i + 1) rest ls ((i,H) :: es) (QA t o.dst v) H' d))
     (fun v H' => chkT P own ops n ms i es (i + 1) rest t H (k (.pan v) (YQ ops t0) H' d))
   | .panic => match o.guard with
    | none => bnd (Ug (Qn n t) o.op) fun v => chkT P own ops n ms i es (i + 1) rest t H (k (.pan v) (YQ ops t0) H d)
    | some _ => none
   | .defer | .none => none
end
noncomputable def lim (f : Nat → Option α) : Option α := by
 classical exact if h : ∃ x n,f n = some x then some (Classical.choose h) else none
def KX (f : Nat → Option α) : Prop := ∀ n x,f n = some x → f (n + 1) = some x
theorem KX.le {f : Nat → Option α} (h : KX f) {n m : Nat} (hnm : n ≤ m) {x : α} (hx : f n = some x) : f m = some x := by
 induction hnm with
 | refl => exact hx
 | step _ ih => exact h _ _ ih
theorem YN {f : Nat → Option α} {x : α} (h : lim f = some x) : ∃ n,f n = some x := by
 unfold lim at h
 split at h
 ·rename_i hx
  injection h with h
  obtain ⟨n,hn⟩ := Classical.choose_spec hx
  exact ⟨n,by rw [hn,h]⟩
 ·simp at h
theorem Y6 {f : Nat → Option α} (hm : KX f) {n : Nat} {x : α} (h : f n = some x) : lim f = some x := by
 have hx : ∃ x n,f n = some x := ⟨x,n,h⟩
 unfold lim
 rw [dif_pos hx]
 obtain ⟨m,hc⟩ := Classical.choose_spec hx
 have h1 := hm.le (Nat.le_max_left n m) h
 have h2 := hm.le (Nat.le_max_right n m) hc
 rw [h1] at h2
 injection h2 with h2
 rw [h2]
theorem Rn {x y : Option α} (h1 : ∀ a,x = some a → y = some a) (h2 : ∀ a,y = some a → x = some a) : x = y := by
 cases x with
 | some a => rw [h1 a rfl]
 | none => cases y with
  | some b => exact h2 b rfl
  | none => rfl
noncomputable def JY (f : Ts → Qa → Ds → (Ts → Qa → Ds → Option α) → Option α) (t : Ts) (H : Qa) (d : Ds) : Option α := lim fun n => iter f n t H d
open Classical in
noncomputable def KG (H H' : Qa) (x : Option α) : Option α := if H = H' then x else none
noncomputable def WO {α : Type} : Qa → Qa → Option α → Option α := shut KG
theorem Vl (H H' : Qa) (x : Option α) : WO H H' x = KG H H' x := by unfold WO; rw [Qk]
theorem GA {H H' : Qa} {x : Option α} {y : α} (h : WO H H' x = some y) : H = H' ∧ x = some y := by
 rw [Vl] at h
 unfold KG at h
 split at h
 ·exact ⟨by assumption,h⟩
 ·cases h
@[simp] theorem Dq (H : Qa) (x : Option α) : WO H H x = x := by rw [Vl]; simp [KG]
noncomputable def Ww (P : Program) (O : Nat) (own : Bool) (call : Qc) (ops : List Oper) (i n : Nat) (k : KC α) (t : Ts) (H : Qa) (d : Ds) : KC α := fun e t' H' d' => match e with
 | .normal => Zk P O own call (Qe ops i) n (fun e2 t2 H2 d2 => match e2 with
  | .normal => WO H' H2 (k .normal t' H' d')
  | _ => none) (UQ (Qe ops i) i) t H d
 | _ => none
noncomputable def xC (P : Program) (O : Nat) (own : Bool) (ks : Ks) (call : Qc) (n : Nat) : Code → KC α → Ts → Qa → Ds → Option α
 | .skip,k,t,H,d | .label _,k,t,H,d => k .normal t H d
 | .region _ ops draw,k,t,H,d =>
  match draw with
  | true => match YS P own ops.toList with
   | true => Zg P O own call ops.toList n k t (QO ops.toList []) 0 ops.toList [] [] t H d
   | false => match Uq P own ops.toList with
    | some i => Zg P O own call (Qe ops.toList i) n (Ww P O own call ops.toList i n k t H d) t (QO (Qe ops.toList i) []) 0 (Qe ops.toList i) [] [] t H d
    | none => none
  | false => Zk P O own call ops.toList n k ops.toList t H d
 | .seq a b,k,t,H,d => xC P O own ks call n a (Y9 (fun _ t => xC P O own ks call n b k (ZU ks b t)) k) t H d
 | .cond c a b,k,t,H,d => cnd (Qn n t c) (xC P O own ks call n a k t H d) (xC P O own ks call n b k t H d)
 | .block id b,k,t,H,d => xC P O own ks call n b (Yi id k) t H d
 | .loop b,k,t,H,d => JY (fun t H d again => xC P O own ks call n b (Zc ks b again k) t H d) (ZU ks b t) H d
 | .scope b,k,t,H,d => xC P O own ks call n b k t H d
 | .exit id,k,t,H,d => k (.exit id) t H d
 | .ret,k,t,H,d => k .ret t H d
 | _,_,_,_,_ => none
section
variable {P : Program} {O : Nat} {own : Bool} {call : Qc} {ops : List Oper} {n : Nat} {k : KC α}
theorem FH (t : Ts) (o : Oper) (a b : Option β) : guaK ops (Qn n t) o a b = QR ops (tl n t) o a b := by
 unfold guaK QR
 cases hg : o.guard with
 | none => rfl
 | some jw =>
  obtain ⟨j,want⟩ := jw
  simp only
  cases hj : ops[j]? with
  | none => simp
  | some oj =>
   simp only [Option.bind_some]
   cases hd : oj.dst with
   | none => rfl
   | some d => simp only [hd]; rw [Y2,← ZC]; rfl
theorem Be {t : Ts} {op : Op} : Kv P (Qn n t) op = Yo P (tl n t) op := by rw [← ZC,EC]
theorem RE {t : Ts} {op : Op} : KP P (Qn n t) op = Jo P (tl n t) op := by rw [← ZC,Gs]
theorem J4 {t : Ts} {H : Qa} {op : Op} : Yv P (Qn n t) H op = Yz P (tl n t) H op := by rw [← ZC,PX]
theorem VL {t : Ts} {H : Qa} {op : Op} : Wn P O (Qn n t) H op = JP P O (tl n t) H op := by rw [← ZC,Gc]
theorem Ll {t : Ts} {H : Qa} {op : Op} {r : Out × Qa} (h : callX call (Qn n t) H op = some r) : ((Yl (tl n t) op).bind fun r => call r.1 r.2 H) = some r := by
 cases op <;> simp only [callX] at h <;> (try (simp at h; done))
 rename_i c
 simp only [Yl]
 split at h
 ·rename_i f hc
  simp only [hc]
  split at h
  ·rw [← ZC,Jp] at h
   simp only [env,List.append_nil,Option.bind_some]
   exact h
  ·rw [Rv] at h
   unfold Bb rFn at h
   rw [← ZC,Jp] at h
   exact h
 ·simp at h
theorem Lo {t : Ts} {op : Op} : Ug (Qn n t) op = Z0 (tl n t) op := by
 rw [← ZC]
 cases op <;> (try simp only [Ug,Z0,N0,Rw]) <;> rfl
theorem Ec {t : Ts} {op : Op} : R0 (Qn n t) op = J0 (tl n t) op := by
 rw [← ZC]
 cases op <;> (try simp only [R0,J0,NQ,rFn,Jp]) <;> rfl
theorem NY {o : Oper} {x : Operand} (h : aliasOf o = some x) : o.guard = none ∧ (o.op = .move x ∨ o.op = .assign x) := by
 unfold aliasOf at h
 split at h
 ·simp at h
 ·rename_i hg
  refine ⟨hg,?_⟩
  split at h
  ·injection h with h; subst h; exact .inl ‹_›
  ·injection h with h; subst h; exact .inr ‹_›
  ·simp at h
theorem Lt {o : Oper} {x : Operand} (h : aliasOf o = some x) : kindOf P own ops o.dst o.op = .pure := by
 obtain ⟨_,h | h⟩ := NY h <;> rw [h] <;> rfl
theorem Ls {o : Oper} {x : Operand} {t : Ts} (h : aliasOf o = some x) : QR ops (tl n t) o (Yo P (tl n t) o.op) (some (.tup [])) = some (Qn n t x) := by
 obtain ⟨hg,h | h⟩ := NY h <;> unfold QR <;> simp only [hg,h,Yo,Uj] <;> rw [ZC]
theorem QG {γ δ : Type} {x : Option γ} {f : γ → Option δ} {y : δ} (h : x.bind f = some y) : ∃ a,x = some a ∧ f a = some y := Option.bind_eq_some_iff.1 h
theorem Zo {t : Ts} {o : Oper} {a a' b : Option β} {x : β} (ha : ∀ x,a = some x → a' = some x) (h : guaK ops (Qn n t) o a b = some x) : QR ops (tl n t) o a' b = some x := by
 rw [FH] at h
 unfold QR at h ⊢
 cases hg : o.guard with
 | none => simp only [hg] at h ⊢; exact ha _ h
 | some jw =>
  obtain ⟨j,want⟩ := jw
  simp only [hg] at h ⊢
  cases hd : (ops[j]?).bind (·.dst) with
  | none => simp only [hd] at h ⊢; exact h
  | some d =>
   simp only [hd] at h ⊢
   generalize (tl n t).getD d .junk = y at h ⊢
   cases y with
   | bool c => simp only [Yc] at h ⊢; split <;> simp_all
   | tup vs => simp only [Yc] at h ⊢; exact h
   | _ => simp [Yc] at h
theorem Yr : ∀ (l : List Oper) {t : Ts} {H : Qa} {d : Ds} {x : α},Zk P O own call ops n k l t H d = some x → ZS P O own call ops n k l t H d = some x
 | [],t,H,d,x,h => h
 | o :: rest,t,H,d,x,h => by
  simp only [Zk] at h
  simp only [ZS]
  split at h
  ·rename_i y hy
   simp only [Lt hy,Ls hy,Option.bind_some]
   exact Yr rest h
  ·split at h <;> rename_i hk <;> (try simp only [hk])
   ·split at h
    ·rename_i hg
     rw [Vk] at h
     obtain ⟨r,h1,h2⟩ := QG h
     rw [Ec] at h1
     simp only [hg,Option.isNone_none,if_true]
     rw [h1]
     exact Yr rest h2
    ·simp at h
   ·rw [Zu] at h
    obtain ⟨v,h1,h2⟩ := QG h
    rw [Zo (fun x hx => by rw [← Be]; exact hx) h1]
    exact Yr rest h2
   ·rw [Zu] at h
    obtain ⟨v,h1,h2⟩ := QG h
    rw [Zo (fun x hx => by rw [← RE]; exact hx) h1]
    exact Yr rest h2
   ·rw [Zu] at h
    obtain ⟨v,h1,h2⟩ := QG h
    rw [Zo (fun x hx => by rw [← J4]; exact hx) h1]
    exact Yr rest h2
   ·rw [Jj] at h
    obtain ⟨v,h1,h2⟩ := QG h
    rw [Zo (fun x hx => by rw [← VL]; exact hx) h1]
    exact Yr rest h2
   ·rw [Jj] at h
    obtain ⟨v,h1,h2⟩ := QG h
    rw [Zo (fun x hx => by rw [← VL]; exact hx) h1]
    exact Yr rest h2
   ·rw [JM] at h
    obtain ⟨r,h1,h2⟩ := QG h
    rw [Zo (fun x hx => Ll hx) h1]
    simp only [Option.bind_some]
    obtain ⟨r,H'⟩ := r
    cases r with
    | ret v => exact Yr rest h2
    | pan v => exact h2
   ·split at h
    ·rename_i hg
     rw [Zu] at h
     obtain ⟨v,h1,h2⟩ := QG h
     rw [Lo] at h1
     unfold QR
     simp only [hg,h1,Option.map_some,Option.bind_some]
     exact h2
    ·simp at h
   ·simp at h
theorem Rf {b : Bool} {a : Option β} {x : β} (h : sch b a = some x) : b = true ∧ a = some x := by rw [Kp] at h; exact YT h
theorem Nj {a a' : Option V} {v : V} (ha : ∀ x,a = some x → a' = some x) (h : same a v = true) : same a' v = true := by
 cases a with
 | none => simp [same] at h
 | some y => rw [ha y rfl]; exact h
theorem UL {ms : List Nat} {i : Nat} {op : Op} {t : Ts} {v : V} : ∀ {es : List (Nat × Qa)} {a : Option β} {x : β},chkE P ms i op (Qn n t) v es a = some x → Q8 P ms i op (tl n t) v es = true ∧ a = some x
 | [],a,x,h => ⟨rfl,h⟩
 | (e,H) :: r,a,x,h => by
  simp only [chkE] at h
  simp only [Q8]
  split at h
  ·rename_i ha
   obtain ⟨h1,h2⟩ := UL h
   exact ⟨by rw [ha,h1]; rfl,h2⟩
  ·obtain ⟨h0,h⟩ := Rf h
   obtain ⟨h1,h2⟩ := UL h
   rw [Rc,J4] at h0
   exact ⟨by rw [h1,Nj (fun x hx => Kz hx) h0]; simp,h2⟩
theorem Le {ms : List Nat} {i : Nat} {op : Op} {t : List V} {v : V} : ∀ {es : List (Nat × Qa)},UD ms i es = false → Q8 P ms i op t v es = true
 | [],h => rfl
 | (e,H) :: r,h => by
  simp only [UD] at h
  simp only [Q8]
  split at h
  ·rename_i ha; rw [ha,Le h]; rfl
  ·simp at h
theorem L0 {ms : List Nat} {i : Nat} {op : Op} {t : Ts} {es : List (Nat × Qa)} {H : Qa} {v : V} (h : UE P ms i op (Qn n t) es (Yv P (Qn n t) H op) = some v) :
  ((Yz P (tl n t) H op).bind fun v => chk (Q8 P ms i op (tl n t) v es) (some v)) = some v := by
 unfold UE at h
 split at h
 ·rename_i he
  rw [J4] at h
  rw [h]
  simp only [Option.bind_some]
  rw [Le he]; rfl
 ·rw [Zu] at h
  obtain ⟨u,h1,h2⟩ := QG h
  obtain ⟨h3,h4⟩ := UL h2
  injection h4 with h4; subst h4
  rw [J4] at h1
  rw [h1]
  simp only [Option.bind_some]
  rw [h3]; rfl
theorem Va {ms : List Nat} {p : Nat} {es : List (Nat × Qa)} : ∀ (l : List Oper) {i : Nat} {t : Ts} {H : Qa},JF P own ops n ms p es i l t H = true → ZG P own ops n ms p es i l t H = true
 | [],i,t,H,h => rfl
 | o :: rest,i,t,H,h => by
  simp only [JF] at h
  simp only [ZG]
  split at h
  ·rename_i ha; rw [if_pos ha]; exact Va rest h
  ·rename_i ha
   rw [if_neg (by simp [ha])]
   split at h <;> rename_i hk <;> (try simp only [hk])
   ·rw [Bj] at h
    obtain ⟨v,h1,h2⟩ := J5 h
    rw [Zo (fun x hx => by rw [← Be]; exact hx) h1]
    exact Va rest h2
   ·rw [Bj] at h
    obtain ⟨v,h1,h2⟩ := J5 h
    rw [Zo (fun x hx => by rw [← RE]; exact hx) h1]
    exact Va rest h2
   ·rw [Bj] at h
    obtain ⟨v,h1,h2⟩ := J5 h
    rw [Zo (fun x hx => L0 hx) h1]
    exact Va rest h2
   ·simp at h
inductive LdsR (n : Nat) : List LdX → List Ld → Prop
 | nil : LdsR n [] []
 | cons {l l'} {i : Nat} {op : Op} {t : Ts} {v : V} : LdsR n l l' → LdsR n ({ i,op,g := Qn n t,v } :: l) ({ i,op,t := tl n t,v } :: l')
theorem U8 {ms : List Nat} {j : Nat} {H : Qa} {ls : List LdX} {ls' : List Ld} (hl : LdsR n ls ls') : ∀ {a : Option β} {x : β},chkL P ms j H ls a = some x → ZA P ms j H ls' = true ∧ a = some x := by
 induction hl with
 | nil => exact fun {a x} h => ⟨rfl,h⟩
 | cons hl ih =>
  intro a x h
  simp only [chkL] at h
  simp only [ZA]
  split at h
  ·rename_i ha
   obtain ⟨h1,h2⟩ := ih h
   exact ⟨by rw [ha,h1]; rfl,h2⟩
  ·obtain ⟨h0,h⟩ := Rf h
   obtain ⟨h1,h2⟩ := ih h
   rw [Rc,J4] at h0
   exact ⟨by rw [h1,Nj (fun x hx => Kz hx) h0]; simp,h2⟩
theorem Mf {ms : List Nat} {p : Nat} {es : List (Nat × Qa)} {t : Ts} {H : Qa} : ∀ {l : List Oper} {i : Nat},VE ms p i l = true → ZG P own ops n ms p es i l t H = true
 | [],i,h => rfl
 | o :: r,i,h => by
  simp only [VE] at h
  simp only [ZG]
  split at h
  ·rename_i ha; rw [if_pos ha]; exact Mf h
  ·simp at h
theorem N6 {ms : List Nat} {p : Nat} {es : List (Nat × Qa)} {i : Nat} {rest : List Oper} {t : Ts} {H : Qa} {a : Option β} {x : β} (h : chkT P own ops n ms p es i rest t H a = some x) :
  chk (ZG P own ops n ms p es i rest t H) a = some x := by
 unfold chkT at h
 split at h
 ·rename_i ha; rw [Mf ha]; exact h
 ·obtain ⟨h1,h2⟩ := Rf h
  rw [Va _ h1]; exact h2
theorem Ye {t0 : Ts} {ms : List Nat} : ∀ (l : List Oper) {i : Nat} {ls : List LdX} {ls' : List Ld} {es : List (Nat × Qa)} {t : Ts} {H : Qa} {d : Ds} {x : α},LdsR n ls ls' →
  Zg P O own call ops n k t0 ms i l ls es t H d = some x → ZM P O own call ops n k t0 ms i l ls' es t H d = some x
 | [],i,ls,ls',es,t,H,d,x,hl,h => h
 | o :: rest,i,ls,ls',es,t,H,d,x,hl,h => by
  simp only [Zg] at h
  simp only [ZM]
  split at h
  ·rename_i y hy
   simp only [Lt hy,Ls hy,Option.bind_some]
   exact Ye rest hl h
  ·split at h <;> rename_i hk <;> (try simp only [hk])
   ·rw [Zu] at h
    obtain ⟨v,h1,h2⟩ := QG h
    rw [Zo (fun x hx => by rw [← Be]; exact hx) h1]
    exact Ye rest hl h2
   ·rw [Zu] at h
    obtain ⟨v,h1,h2⟩ := QG h
    rw [Zo (fun x hx => by rw [← RE]; exact hx) h1]
    exact Ye rest hl h2
   ·split at h
    ·rename_i hla
     rw [if_pos hla]
     rw [Zu] at h
     obtain ⟨v,h1,h2⟩ := QG h
     rw [Zo (fun x hx => L0 hx) h1]
     exact Ye rest hl h2
    ·rename_i hla
     rw [if_neg (by simp [hla])]
     split at h
     ·rename_i hg
      simp only [hg,Option.isNone_none,if_true]
      rw [Zu] at h
      obtain ⟨v,h1,h2⟩ := QG h
      obtain ⟨h3,h4⟩ := UL h2
      rw [J4] at h1
      rw [h1]
      simp only [Option.bind_some]
      rw [h3]
      exact Ye rest (.cons hl) h4
     ·simp at h
   ·rw [Jj] at h
    obtain ⟨v,h1,h2⟩ := QG h
    rw [Zo (fun x hx => by rw [← VL]; exact hx) h1]
    obtain ⟨h3,h4⟩ := U8 hl h2
    simp only [Option.bind_some]
    rw [h3]
    exact Ye rest hl h4
   ·rw [Jj] at h
    obtain ⟨v,h1,h2⟩ := QG h
    rw [Zo (fun x hx => by rw [← VL]; exact hx) h1]
    obtain ⟨h3,h4⟩ := U8 hl h2
    simp only [Option.bind_some]
    rw [h3]
    exact Ye rest hl h4
   ·rw [JM] at h
    obtain ⟨r,h1,h2⟩ := QG h
    rw [Zo (fun x hx => Ll hx) h1]
    simp only [Option.bind_some]
    obtain ⟨r,H'⟩ := r
    cases r with
    | ret v =>
     simp only [ZD] at h2 ⊢
     obtain ⟨h3,h4⟩ := U8 hl h2
     rw [h3]
     exact Ye rest hl h4
    | pan v => exact N6 h2
   ·split at h
    ·rename_i hg
     rw [Zu] at h
     obtain ⟨v,h1,h2⟩ := QG h
     rw [Lo] at h1
     unfold QR
     simp only [hg,h1,Option.map_some,Option.bind_some]
     exact N6 h2
    ·simp at h
   ·simp at h
   ·simp at h
theorem Jt {ks : Ks} : ∀ (c : Code) {k : KC α} {t : Ts} {H : Qa} {d : Ds} {x : α},xC P O own ks call n c k t H d = some x →
  ∃ M e t' H' d',evC P O own ks call (ZO P call M) c { t := tl n t,H,d } = some (e,{ t := tl n t',H := H',d := d' }) ∧ k e t' H' d' = some x
 | .skip,k,t,H,d,x,h | .label _,k,t,H,d,x,h => ⟨0,_,_,_,_,rfl,h⟩
 | .exit _,k,t,H,d,x,h | .ret,k,t,H,d,x,h => ⟨0,_,_,_,_,rfl,h⟩
 | .region _ ops draw,k,t,H,d,x,h => by
  simp only [xC] at h
  simp only [evC]
  cases draw with
  | true =>
   simp only [if_true] at h ⊢
   split at h
   ·rename_i hok
    simp only [if_pos hok]
    obtain ⟨e,t',H',d',h1,h2⟩ := Zv (ls' := []) (es' := []) _ 0 rfl (fun e h => h) (fun l h => by simp at h) (Ye _ .nil h)
    exact ⟨0,e,t',H',d',h1,h2⟩
   ·rename_i hok
    rw [if_neg (by rw [hok]; simp)]
    split at h
    ·rename_i i hi
     obtain ⟨e,t',H',d',h1,h2⟩ := Zv (ls' := []) (es' := []) _ 0 rfl (fun e h => h) (fun l h => by simp at h) (Ye _ .nil h)
     rw [List.drop_zero] at h1
     match e,h1,h2 with
     | .normal,h1,h2 =>
     simp only [Ww] at h2
     obtain ⟨e2,t2,H2,d2,h3,h4⟩ := Zm _ (Yr _ h2)
     match e2,h3,h4 with
     | .normal,h3,h4 =>
     obtain ⟨rfl,h5⟩ := GA h4
     exact ⟨0,.normal,t',H',d',by simp only [VR,hi,h1,h3,Option.bind_some,if_true],h5⟩
    ·cases h
  | false =>
   simp only [Bool.false_eq_true,if_false] at h ⊢
   obtain ⟨e,t',H',d',h1,h2⟩ := Zm _ (Yr _ h)
   exact ⟨0,e,t',H',d',h1,h2⟩
 | .seq a b,k,t,H,d,x,h => by
  simp only [xC] at h
  simp only [evC]
  obtain ⟨m,e,t',H',d',h1,h2⟩ := Jt a h
  cases e with
  | normal =>
   simp only [Y9] at h2
   obtain ⟨n2,e2,t2,H2,d2,h3,h4⟩ := Jt b h2
   refine ⟨max m n2,e2,t2,H2,d2,?_,h4⟩
   rw [Ym (Us (Nat.le_max_left m n2)) a h1]
   simp only [Option.bind_some]
   simp only [BE]
   exact Ym (Us (Nat.le_max_right m n2)) b h3
  | _ => exact ⟨m,_,t',H',d',by rw [h1]; rfl,h2⟩
 | .cond c a b,k,t,H,d,x,h => by
  simp only [xC] at h
  simp only [evC]
  rw [Ju,← ZC] at h
  unfold K1 at h
  split at h
  ·rename_i hc; simp only [hc]; exact Jt a h
  ·rename_i hc; simp only [hc]; exact Jt b h
  ·simp at h
 | .block id b,k,t,H,d,x,h => by
  simp only [xC] at h
  simp only [evC]
  obtain ⟨m,e,t',H',d',h1,h2⟩ := Jt b h
  refine ⟨m,?_⟩
  rw [h1]
  simp only [Option.bind_some]
  cases e with
  | exit j =>
   simp only [Yi] at h2
   split at h2
   ·rename_i hj; simp only [if_pos hj]; exact ⟨_,_,_,_,rfl,h2⟩
   ·rename_i hj; simp only [if_neg hj]; exact ⟨_,_,_,_,rfl,h2⟩
  | _ => exact ⟨_,_,_,_,rfl,h2⟩
 | .loop b,k,t,H,d,x,h => by
  simp only [xC] at h
  have key : ∀ (m : Nat) {t : Ts} {H : Qa} {d : Ds},iter (fun t H d again => xC P O own ks call n b (Zc ks b again k) t H d) m (ZU ks b t) H d = some x →
    ∃ M e t' H' d',ZO P call M O own ks b { t := tl n t,H,d } = some (e,{ t := tl n t',H := H',d := d' }) ∧ k e t' H' d' = some x := by
   intro m
   induction m with
   | zero => intro t H d h; simp [iter] at h
   | succ m ih =>
    intro t H d h
    simp only [iter] at h
    obtain ⟨m1,e,t',H',d',h1,h2⟩ := Jt b h
    cases e with
    | normal =>
     simp only [Zc] at h2
     obtain ⟨n2,e2,t2,H2,d2,h3,h4⟩ := ih h2
     refine ⟨max m1 n2 + 1,e2,t2,H2,d2,?_,h4⟩
     simp only [ZO,YU,BE]
     rw [Ym (Us (Nat.le_max_left m1 n2)) b h1]
     simp only [Option.bind_some]
     exact Us (Nat.le_max_right m1 n2) _ _ _ _ _ _ h3
    | _ => exact ⟨m1 + 1,_,_,_,_,by simp only [ZO,YU,BE]; rw [h1]; rfl,h2⟩
  obtain ⟨N,hN⟩ := YN h
  obtain ⟨M,e,t',H',d',h1,h2⟩ := key N hN
  exact ⟨M,e,t',H',d',h1,h2⟩
 | .scope b,k,t,H,d,x,h => by
  simp only [xC] at h
  simp only [evC]
  exact Jt b h
 | .goto _,k,t,H,d,x,h => by simp [xC] at h
 | .rangeFunc ..,k,t,H,d,x,h => by simp [xC] at h
end
end Go.Ev
end
section
namespace Go.Ev
variable {α : Type} {β : Type}
abbrev RR := Ex × Ts × Qa × Ds
def Yd : KC RR := fun e t H d => some (e,t,H,d)
def Yf (k : KC α) (r : RR) : Option α := k r.1 r.2.1 r.2.2.1 r.2.2.2
section
variable {P : Program} {O : Nat} {own : Bool} {call : Qc} {ops : List Oper} {n : Nat} {k : KC α}
theorem Bn (b : Bool) (a : Option β) (f : β → Option α) : (sch b a).bind f = sch b (a.bind f) := by
 rw [Kp,Kp]; cases b <;> rfl
theorem Bf {ms : List Nat} {i : Nat} {op : Op} {g : Operand → V} {v : V} {a : Option β} {f : β → Option α} : ∀ {es : List (Nat × Qa)},(chkE P ms i op g v es a).bind f = chkE P ms i op g v es (a.bind f)
 | [] => rfl
 | (e,H) :: r => by
  simp only [chkE]
  split
  ·exact Bf
  ·rw [Bn,Bf]
theorem WX {ms : List Nat} {j : Nat} {H : Qa} {a : Option β} {f : β → Option α} : ∀ {ls : List LdX},(chkL P ms j H ls a).bind f = chkL P ms j H ls (a.bind f)
 | [] => rfl
 | l :: r => by
  simp only [chkL]
  split
  ·exact WX
  ·rw [Bn,WX]
theorem LC {ms : List Nat} {p : Nat} {es : List (Nat × Qa)} {i : Nat} {rest : List Oper} {t : Ts} {H : Qa} {a : Option β} {f : β → Option α} :
  (chkT P own ops n ms p es i rest t H a).bind f = chkT P own ops n ms p es i rest t H (a.bind f) := by
 unfold chkT
 split
 ·rfl
 ·rw [Bn]
theorem YE (x : Option V) (f : V → Option β) (g : β → Option α) : (bnd x f).bind g = bnd x fun v => (f v).bind g := by
 rw [Zu,Zu,Option.bind_assoc]
theorem GF (x : Option (FuncId × List V)) (f : FuncId × List V → Option β) (g : β → Option α) : (bdef x f).bind g = bdef x fun v => (f v).bind g := by
 rw [Vk,Vk,Option.bind_assoc]
theorem UC (x : Option (V × Qa)) (f : V → Qa → Option β) (g : β → Option α) : (beff x f).bind g = beff x fun v H => (f v H).bind g := by
 rw [Jj,Jj,Option.bind_assoc]
theorem MV (x : Option (Out × Qa)) (f h : V → Qa → Option β) (g : β → Option α) : (bcall x f h).bind g = bcall x (fun v H => (f v H).bind g) (fun v H => (h v H).bind g) := by
 rw [JM,JM,Option.bind_assoc]
 congr 1
 funext r
 cases r.1 <;> rfl
theorem ZH : ∀ (l : List Oper) {t : Ts} {H : Qa} {d : Ds},Zk P O own call ops n k l t H d = (Zk P O own call ops n Yd l t H d).bind (Yf k)
 | [],t,H,d => rfl
 | o :: rest,t,H,d => by
  simp only [Zk]
  split
  ·exact ZH rest
  ·split
   ·split
    ·rw [GF]; simp only [ZH rest]
    ·rfl
   ·rw [YE]; simp only [ZH rest]
   ·rw [YE]; simp only [ZH rest]
   ·rw [YE]; simp only [ZH rest]
   ·rw [UC]; simp only [ZH rest]
   ·rw [UC]; simp only [ZH rest]
   ·rw [MV]; simp only [ZH rest]; rfl
   ·split
    ·rw [YE]; rfl
    ·rfl
   ·rfl
theorem ZE {t0 : Ts} {ms : List Nat} : ∀ (l : List Oper) {i : Nat} {ls : List LdX} {es : List (Nat × Qa)} {t : Ts} {H : Qa} {d : Ds},
  Zg P O own call ops n k t0 ms i l ls es t H d = (Zg P O own call ops n Yd t0 ms i l ls es t H d).bind (Yf k)
 | [],i,ls,es,t,H,d => rfl
 | o :: rest,i,ls,es,t,H,d => by
  simp only [Zg]
  split
  ·exact ZE rest
  ·split
   ·rw [YE]; simp only [ZE rest]
   ·rw [YE]; simp only [ZE rest]
   ·split
    ·rw [YE]; simp only [ZE rest]
    ·split
     ·rw [YE]; simp only [ZE rest,Bf]
     ·rfl
   ·rw [UC]; simp only [ZE rest,WX]
   ·rw [UC]; simp only [ZE rest,WX]
   ·rw [MV]; simp only [ZE rest,WX,LC]; rfl
   ·split
    ·rw [YE]; simp only [LC]; rfl
    ·rfl
   ·rfl
   ·rfl
def ZW (P : Program) (D : Ts → Qa → Ds → Option RR) (ks : Ks) (b : Code) (k : KC α) (t : Ts) (H : Qa) (d : Ds) (again : Ts → Qa → Ds → Option α) : Option α := (D t H d).bind (Yf (Zc ks b again k))
theorem Kk {D : Ts → Qa → Ds → Option RR} {ks : Ks} {b : Code} : ∀ (m : Nat) {t : Ts} {H : Qa} {d : Ds} {x : α},iter (ZW P D ks b k) m t H d = some x → iter (ZW P D ks b k) (m + 1) t H d = some x
 | 0,t,H,d,x,h => by simp [iter] at h
 | m + 1,t,H,d,x,h => by
  rw [iter] at h ⊢
  unfold ZW at h ⊢
  obtain ⟨r,h1,h2⟩ := QG h
  rw [h1]
  simp only [Option.bind_some]
  obtain ⟨e,t',H',d'⟩ := r
  cases e with
  | normal => exact Kk m h2
  | _ => exact h2
theorem Mp {D : Ts → Qa → Ds → Option RR} {ks : Ks} {b : Code} : ∀ (m : Nat) {t : Ts} {H : Qa} {d : Ds},iter (ZW P D ks b k) m t H d = (iter (ZW P D ks b Yd) m t H d).bind (Yf k)
 | 0,t,H,d => rfl
 | m + 1,t,H,d => by
  rw [iter,iter]
  unfold ZW
  rw [Option.bind_assoc]
  congr 1
  funext r
  obtain ⟨e,t',H',d'⟩ := r
  cases e with
  | normal => exact Mp m
  | _ => rfl
theorem FA {f : Nat → Option β} (hf : KX f) (g : β → Option α) : lim (fun n => (f n).bind g) = (lim f).bind g := by
 refine Rn (fun a h => ?_) (fun a h => ?_)
 ·obtain ⟨n,hn⟩ := YN h
  obtain ⟨y,h1,h2⟩ := QG hn
  rw [Y6 hf h1]; exact h2
 ·obtain ⟨y,h1,h2⟩ := QG h
  obtain ⟨n,hn⟩ := YN h1
  refine Y6 (f := fun n => (f n).bind g) (n := n) (fun m x hx => ?_) (by simp only [hn]; exact h2)
  obtain ⟨z,h3,h4⟩ := QG hx
  simp only [hf _ _ h3]; exact h4
theorem ZV {ks : Ks} : ∀ (c : Code) {α : Type} {k : KC α} {t : Ts} {H : Qa} {d : Ds},xC P O own ks call n c k t H d = (xC P O own ks call n c Yd t H d).bind (Yf k)
 | .skip,_,k,t,H,d | .label _,_,k,t,H,d | .exit _,_,k,t,H,d | .ret,_,k,t,H,d => rfl
 | .region _ ops draw,_,k,t,H,d => by
  simp only [xC]
  split
  ·split
   ·exact ZE _
   ·split
    ·rw [ZE,ZE (k := Ww _ _ _ _ _ _ _ Yd _ _ _),Option.bind_assoc]
     congr 1
     funext r
     obtain ⟨e,t',H',d'⟩ := r
     cases e <;> simp only [Yf,Ww,Option.bind_none]
     rw [ZH]
     conv => rhs; rw [ZH]
     rw [Option.bind_assoc]
     congr 1
     funext r
     obtain ⟨e2,t2,H2,d2⟩ := r
     cases e2 <;> simp only [Yf,Option.bind_none]
     rw [Vl,Vl]
     unfold KG
     split <;> rfl
    ·rfl
  ·exact ZH _
 | .seq a b,_,k,t,H,d => by
  simp only [xC]
  rw [ZV a,ZV a (k := Y9 _ Yd),Option.bind_assoc]
  congr 1
  funext r
  obtain ⟨e,t',H',d'⟩ := r
  cases e with
  | normal => exact ZV b
  | _ => rfl
 | .cond c a b,_,k,t,H,d => by
  simp only [xC]
  rw [ZV a,ZV b,Ju,Ju]
  unfold K1
  split <;> rfl
 | .block id b,_,k,t,H,d => by
  simp only [xC]
  rw [ZV b,ZV b (k := Yi id Yd),Option.bind_assoc]
  congr 1
  funext r
  obtain ⟨e,t',H',d'⟩ := r
  cases e with
  | exit j => simp only [Yf,Yi]; split <;> rfl
  | _ => rfl
 | .loop b,_,k,t,H,d => by
  have e1 : ∀ {γ : Type} (k : KC γ),(fun t H d again => xC P O own ks call n b (Zc ks b again k) t H d) = ZW P (fun t H d => xC P O own ks call n b Yd t H d) ks b k := by
   intro γ k
   funext t H d again
   exact ZV b (k := Zc ks b again k)
  simp only [xC]
  rw [e1 k,e1 Yd]
  unfold JY
  rw [← FA (fun m x h => Kk m h)]
  congr 1
  funext m
  exact Mp m
 | .scope b,_,k,t,H,d => by simp only [xC]; exact ZV b
 | .refuse _,_,k,t,H,d => rfl
 | .goto _,_,k,t,H,d => rfl
 | .rangeFunc ..,_,k,t,H,d => rfl
theorem MS {ks : Ks} (b : Code) {k : KC α} : (fun t H d again => xC P O own ks call n b (Zc ks b again k) t H d) = ZW P (fun t H d => xC P O own ks call n b Yd t H d) ks b k := by
 funext t H d again
 exact ZV b (k := Zc ks b again k)
theorem NU {ks : Ks} (b : Code) (k : KC α) (t : Ts) (H : Qa) (d : Ds) : JY (fun t H d again => xC P O own ks call n b (Zc ks b again k) t H d) t H d =
  xC P O own ks call n b (Zc ks b (fun t H d => JY (fun t H d again => xC P O own ks call n b (Zc ks b again k) t H d) t H d) k) t H d := by
 rw [MS b,ZV b (k := Zc ks b _ k)]
 refine Rn (fun x h => ?_) (fun x h => ?_)
 ·obtain ⟨m,hm⟩ := YN h
  cases m with
  | zero => simp [iter] at hm
  | succ m =>
   rw [iter] at hm
   unfold ZW at hm
   obtain ⟨r,h1,h2⟩ := QG hm
   simp only at h1
   rw [h1]
   simp only [Option.bind_some]
   obtain ⟨e,t',H',d'⟩ := r
   cases e with
   | normal => exact Y6 (fun m x h => Kk m h) h2
   | _ => exact h2
 ·obtain ⟨r,h1,h2⟩ := QG h
  obtain ⟨e,t',H',d'⟩ := r
  cases e with
  | normal =>
   obtain ⟨m,hm⟩ := YN h2
   refine Y6 (n := m + 1) (fun m x h => Kk m h) ?_
   rw [iter]
   unfold ZW
   simp only [h1,Option.bind_some]
   exact hm
  | _ =>
   refine Y6 (n := 1) (fun m x h => Kk m h) ?_
   rw [iter]
   unfold ZW
   simp only [h1,Option.bind_some]
   exact h2
theorem Has.nil : Has call [] := fun y h => by simp at h
theorem Has.append {L M : List BU} : Has call (L ++ M) ↔ Has call L ∧ Has call M := by
 unfold Has
 exact ⟨fun h => ⟨fun y hy => h y (List.mem_append_left _ hy),fun y hy => h y (List.mem_append_right _ hy)⟩,fun ⟨h1,h2⟩ y hy => (List.mem_append.1 hy).elim (h1 y) (h2 y)⟩
theorem Qb.const (x : Option α) : Qb (fun _ => x) call := fun y h => ⟨[],Has.nil,fun _ _ => h⟩
theorem Qb.bind {f : Qc → Option β} {g : Qc → β → Option α} (hf : Qb f call) (hg : ∀ b,Qb (fun c => g c b) call) : Qb (fun c => (f c).bind (g c)) call := by
 intro x h
 obtain ⟨b,h1,h2⟩ := QG h
 obtain ⟨L,l1,l2⟩ := hf b h1
 obtain ⟨M,m1,m2⟩ := hg b x h2
 refine ⟨L ++ M,Has.append.2 ⟨l1,m1⟩,fun c hc => ?_⟩
 obtain ⟨c1,c2⟩ := Has.append.1 hc
 simp only [l2 c c1,Option.bind_some]
 exact m2 c c2
theorem Qb.one (f : FuncId) (args : List V) (H : Qa) : Qb (fun c => c f args H) call := fun x h => ⟨[(f,args,H,x)],fun y hy => by simp at hy; subst hy; exact h,fun c hc => hc (f,args,H,x) (by simp)⟩
theorem Qb.ite {f g : Qc → Option α} (b : Bool) (hf : Qb f call) (hg : Qb g call) : Qb (fun c => if b = true then f c else g c) call := by
 cases b
 ·simpa using hg
 ·simpa using hf
theorem Qb.congr {f g : Qc → Option α} (h : ∀ c,f c = g c) (hf : Qb g call) : Qb f call := by
 have : f = g := funext h
 rw [this]; exact hf
theorem Qb.bnd {x : Qc → Option V} {f : Qc → V → Option α} (hx : Qb x call) (hf : ∀ v,Qb (fun c => f c v) call) : Qb (fun c => bnd (x c) (f c)) call :=
 Qb.congr (fun c => Zu _ _) (Qb.bind hx hf)
theorem Qb.bdef {x : Option (FuncId × List V)} {f : Qc → FuncId × List V → Option α} (hf : ∀ v,Qb (fun c => f c v) call) : Qb (fun c => bdef x (f c)) call :=
 Qb.congr (fun c => Vk _ _) (Qb.bind (Qb.const x) hf)
theorem Qb.beff {x : Option (V × Qa)} {f : Qc → V → Qa → Option α} (hf : ∀ v H,Qb (fun c => f c v H) call) : Qb (fun c => beff x (f c)) call :=
 Qb.congr (g := fun c => x.bind fun r => f c r.1 r.2) (fun c => Jj _ _) (Qb.bind (g := fun c r => f c r.1 r.2) (Qb.const x) (fun r => hf r.1 r.2))
theorem Qb.bcall {x : Qc → Option (Out × Qa)} {f g : Qc → V → Qa → Option α} (hx : Qb x call) (hf : ∀ v H,Qb (fun c => f c v H) call) (hg : ∀ v H,Qb (fun c => g c v H) call) : Qb (fun c => bcall (x c) (f c) (g c)) call := by
 refine Qb.congr (g := fun c => (x c).bind fun r => ZD r.1 (fun v => f c v r.2) (fun v => g c v r.2)) (fun c => JM _ _ _) (Qb.bind (g := fun c r => ZD r.1 (fun v => f c v r.2) (fun v => g c v r.2)) hx fun r => ?_)
 obtain ⟨r,H⟩ := r
 cases r with
 | ret v => exact hf v H
 | pan v => exact hg v H
theorem Qb.sch {f : Qc → Option α} (b : Bool) (hf : Qb f call) : Qb (fun c => sch b (f c)) call := by
 cases b
 ·exact Qb.congr (g := fun _ => none) (fun c => by rw [Kp]; rfl) (Qb.const none)
 ·exact Qb.congr (fun c => by rw [Kp]; rfl) hf
theorem Qb.chkE {ms : List Nat} {i : Nat} {op : Op} {g : Operand → V} {v : V} {f : Qc → Option α} (hf : Qb f call) : ∀ (es : List (Nat × Qa)),Qb (fun c => chkE P ms i op g v es (f c)) call
 | [] => hf
 | (e,H) :: r => by
  simp only [Ev.chkE]
  split
  ·exact Qb.chkE hf r
  ·exact Qb.sch _ (Qb.chkE hf r)
theorem Qb.chkL {ms : List Nat} {j : Nat} {H : Qa} {f : Qc → Option α} (hf : Qb f call) : ∀ (ls : List LdX),Qb (fun c => chkL P ms j H ls (f c)) call
 | [] => hf
 | l :: r => by
  simp only [Ev.chkL]
  split
  ·exact Qb.chkL hf r
  ·exact Qb.sch _ (Qb.chkL hf r)
theorem Qb.chkT {ms : List Nat} {p : Nat} {es : List (Nat × Qa)} {i : Nat} {rest : List Oper} {t : Ts} {H : Qa} {f : Qc → Option α} (hf : Qb f call) : Qb (fun c => chkT P own ops n ms p es i rest t H (f c)) call := by
 simp only [Ev.chkT]
 split
 ·exact hf
 ·exact Qb.sch _ hf
theorem Qb.guaK {g : Operand → V} {o : Oper} {a : Qc → Option β} {b : Option β} (ha : Qb a call) : Qb (fun c => guaK ops g o (a c) b) call := by
 simp only [Ev.guaK]
 split
 ·exact ha
 ·split
  ·exact Qb.const _
  ·split
   ·exact Qb.const _
   ·rename_i d _
    generalize g (.tmp d) = y
    cases y with
    | bool c0 =>
     refine Qb.congr (g := fun c => if (c0 == _) = true then a c else b) (fun c => by rw [Y2]; rfl) (Qb.ite _ ha (Qb.const b))
    | tup vs => exact Qb.congr (fun c => by rw [Y2]; rfl) (Qb.const b)
    | _ => exact Qb.congr (g := fun _ => none) (fun c => by rw [Y2]; rfl) (Qb.const none)
theorem Qb.callX {g : Operand → V} {H : Qa} (op : Op) : Qb (fun c => callX c g H op) call := by
 cases op <;> (try exact Qb.const none)
 rename_i c0
 simp only [Ev.callX]
 split
 ·split
  ·exact Qb.one _ _ _
  ·refine Qb.congr (fun c => by rw [Rv]; rfl) (Qb.bind (f := fun _ => rFn _ _) (g := fun c q => c q.1 q.2 H) (Qb.const _) (fun q => Qb.one _ _ _))
 ·exact Qb.const none
theorem Yj : ∀ (l : List Oper) {t : Ts} {H : Qa} {d : Ds},Qb (fun c => Zk P O own c ops n k l t H d) call
 | [],t,H,d => Qb.const _
 | o :: rest,t,H,d => by
  simp only [Zk]
  split
  ·exact Yj rest
  ·split
   ·split
    ·exact Qb.bdef fun r => Yj rest
    ·exact Qb.const _
   ·exact Qb.bnd (Qb.const _) fun v => Yj rest
   ·exact Qb.bnd (Qb.const _) fun v => Yj rest
   ·exact Qb.bnd (Qb.const _) fun v => Yj rest
   ·exact Qb.beff fun v H => Yj rest
   ·exact Qb.beff fun v H => Yj rest
   ·exact Qb.bcall (Qb.guaK (Qb.callX _)) (fun v H => Yj rest) (fun v H => Qb.const _)
   ·split
    ·exact Qb.const _
    ·exact Qb.const _
   ·exact Qb.const _
theorem Yp {t0 : Ts} {ms : List Nat} : ∀ (l : List Oper) {i : Nat} {ls : List LdX} {es : List (Nat × Qa)} {t : Ts} {H : Qa} {d : Ds},Qb (fun c => Zg P O own c ops n k t0 ms i l ls es t H d) call
 | [],i,ls,es,t,H,d => Qb.const _
 | o :: rest,i,ls,es,t,H,d => by
  simp only [Zg]
  split
  ·exact Yp rest
  ·split
   ·exact Qb.bnd (Qb.const _) fun v => Yp rest
   ·exact Qb.bnd (Qb.const _) fun v => Yp rest
   ·split
    ·exact Qb.bnd (Qb.const _) fun v => Yp rest
    ·split
     ·exact Qb.bnd (Qb.const _) fun v => Qb.chkE (Yp rest) _
     ·exact Qb.const _
   ·exact Qb.beff fun v H => Qb.chkL (Yp rest) _
   ·exact Qb.beff fun v H => Qb.chkL (Yp rest) _
   ·exact Qb.bcall (Qb.guaK (Qb.callX _)) (fun v H => Qb.chkL (Yp rest) _) (fun v H => Qb.const _)
   ·split
    ·exact Qb.const _
    ·exact Qb.const _
   ·exact Qb.const _
   ·exact Qb.const _
theorem Qb.app {f : Qc → Option RR} {k : Qc → KC α} (hf : Qb f call) (hk : ∀ e t H d,Qb (fun c => k c e t H d) call) : Qb (fun c => (f c).bind (Yf (k c))) call :=
 Qb.bind (g := fun c r => Yf (k c) r) hf (fun r => hk _ _ _ _)
theorem Jg {ks : Ks} : ∀ (c : Code) {k : Qc → KC α} {t : Ts} {H : Qa} {d : Ds},(∀ e t H d,Qb (fun c => k c e t H d) call) → Qb (fun cl => xC P O own ks cl n c (k cl) t H d) call
 | .skip,k,t,H,d,hk | .label _,k,t,H,d,hk | .exit _,k,t,H,d,hk | .ret,k,t,H,d,hk => hk _ _ _ _
 | .region _ ops draw,k,t,H,d,hk => by
  simp only [xC]
  split
  ·split
   ·exact Qb.congr (fun cl => ZE _) (Qb.app (Yp _) hk)
   ·split
    ·refine Qb.congr (fun cl => ZE _) (Qb.app (Yp _) fun e t' H' d' => ?_)
     cases e <;> simp only [Ww] <;> try exact Qb.const _
     refine Qb.congr (fun cl => ZH _) (Qb.app (Yj _) fun e2 t2 H2 d2 => ?_)
     cases e2 <;> try exact Qb.const _
     simp only [Vl,KG]
     split
     ·exact hk _ _ _ _
     ·exact Qb.const _
    ·exact Qb.const _
  ·exact Qb.congr (fun cl => ZH _) (Qb.app (Yj _) hk)
 | .seq a b,k,t,H,d,hk => by
  simp only [xC]
  refine Jg a fun e t H d => ?_
  cases e with
  | normal => exact Jg b hk
  | _ => exact hk _ _ _ _
 | .cond c a b,k,t,H,d,hk => by
  simp only [xC]
  generalize Qn n t c = y
  have : ∀ (f g : Qc → Option α),Qb f call → Qb g call → Qb (fun cl => cnd y (f cl) (g cl)) call := by
   intro f g hf hg
   match y with
   | .bool true => exact Qb.congr (fun c => by rw [Ju]; rfl) hf
   | .bool false => exact Qb.congr (fun c => by rw [Ju]; rfl) hg
   | .junk | .int _ _ | .str _ | .nilptr | .ptr _ _ _ | .fptr _ | .nils | .emp | .vs _ | .rs _ _ _ _ _ | .fn _ _ | .nilfn | .niface | .iface _ _ | .agg _ | .tup _ | .nilmap | .mapr _ =>
    exact Qb.congr (g := fun _ => none) (fun c => by rw [Ju]; rfl) (Qb.const none)
  exact this _ _ (Jg a hk) (Jg b hk)
 | .block id b,k,t,H,d,hk => by
  simp only [xC]
  refine Jg b fun e t H d => ?_
  cases e with
  | exit j => simp only [Yi]; split <;> exact hk _ _ _ _
  | _ => exact hk _ _ _ _
 | .loop b,k,t,H,d,hk => by
  simp only [xC]
  intro x h
  have key : ∀ (m : Nat) {t : Ts} {H : Qa} {d : Ds},Qb (fun cl => iter (fun t H d again => xC P O own ks cl n b (Zc ks b again (k cl)) t H d) m t H d) call := by
   intro m
   induction m with
   | zero => intro t H d; exact Qb.const _
   | succ m ih =>
    intro t H d
    refine Qb.congr (fun cl => rfl) (Jg b (k := fun cl => Zc ks b (fun t H d => iter (fun t H d again => xC P O own ks cl n b (Zc ks b again (k cl)) t H d) m t H d) (k cl)) fun e t H d => ?_)
    cases e with
    | normal => exact ih
    | _ => exact hk _ _ _ _
  obtain ⟨m,hm⟩ := YN h
  obtain ⟨L,l1,l2⟩ := key m x hm
  refine ⟨L,l1,fun cl hcl => Y6 (n := m) (fun m x h => ?_) (l2 cl hcl)⟩
  rw [MS b] at h ⊢
  exact Kk m h
 | .scope b,k,t,H,d,hk => by simp only [xC]; exact Jg b hk
 | .goto _,k,t,H,d,hk => Qb.const _
 | .refuse _,k,t,H,d,hk => Qb.const _
 | .rangeFunc ..,k,t,H,d,hk => Qb.const _
end
end Go.Ev
end
section
namespace Go.Ev
variable {T : Qt}
variable {α : Type} {β : Type}
noncomputable def rt : Bool → Nat → V → Qa → Option (Out × Qa) := shut Wu
theorem BF : rt = Wu := Qk _
noncomputable def pn : Bool → Nat → V → Qa → Option (Out × Qa) := shut U4
theorem NF : pn = U4 := Qk _
def Dc (x : Option (Bool × Qa)) (f : Qa → Option α) : Option α := x.bind fun r => f r.2
noncomputable def bdn {α : Type} : Option (Bool × Qa) → (Qa → Option α) → Option α := shut Dc
theorem NM (x : Option (Bool × Qa)) (f : Qa → Option α) : bdn x f = x.bind fun r => f r.2 := by unfold bdn; rw [Qk]; rfl
def Bv (x : Option (Bool × Qa)) (f g : Qa → Option α) : Option α := x.bind fun r => match r.1 with
 | true => f r.2
 | false => g r.2
noncomputable def bdp {α : Type} : Option (Bool × Qa) → (Qa → Option α) → (Qa → Option α) → Option α := shut Bv
theorem BI (x : Option (Bool × Qa)) (f g : Qa → Option α) : bdp x f g = Bv x f g := by unfold bdp; rw [Qk]
noncomputable def Kn (P : Program) (n : Nat) (t : Ts) (H : Qa) : List ResultVar → (List V → Option α) → Option α
 | [],k => k []
 | .tmp i :: rs,k => Kn P n t H rs fun vs => k (Qn n t (.tmp i) :: vs)
 | .cell a ty :: rs,k => match QB P ty with
  | some ag => match Qf P ty with
   | some m => bnd (QN ag m H (Qn n t (.tmp a))) fun v => Kn P n t H rs fun vs => k (v :: vs)
   | none => none
  | none => none
noncomputable def Yq (P : Program) (dfr : QF) (keep : Bool) (O n : Nat) (rs : List ResultVar) (t : Ts) : Ds → Option V → Qa → Option (Out × Qa)
 | [],m,H => match m with
  | none => Kn P n t H rs fun vs => rt keep O (Rm vs) H
  | some v => pn keep O v H
 | d :: ds,m,H => match m with
  | none => bdn (dfr d.1 d.2 none H) fun H' => Yq P dfr keep O n rs t ds none H'
  | some v => bdp (dfr d.1 d.2 (some v) H) (fun H' => Yq P dfr keep O n rs t ds none H') (fun H' => Yq P dfr keep O n rs t ds (some v) H')
noncomputable def ZN (P : Program) (dfr : QF) (keep : Bool) (O n : Nat) (rs : List ResultVar) : KC (Out × Qa) := fun e t H d =>
 match e with
 | .normal | .ret => Yq P dfr keep O n rs t d none H
 | .pan v => Yq P dfr keep O n rs t d (some v) H
 | .exit _ => none
noncomputable def UZ (P : Program) (own : Bool) (ks : Ks) (keep : Bool) (call : Qc) (dfr : QF) (c : Code) (rs : List ResultVar) (n : Nat) (args : List V) (H : Qa) : Option (Out × Qa) :=
 xC P H.length own ks call n c (ZN P dfr keep H.length n rs) (KJ 0 args) H []
section
variable {P : Program}
theorem BQ {n : Nat} {t : Ts} {H : Qa} : ∀ {rs : List ResultVar} {k : List V → Option α} {x : α},Kn P n t H rs k = some x → YG P (tl n t) H rs k = some x
 | [],k,x,h => h
 | .tmp i :: rs,k,x,h => by
  simp only [Kn] at h
  simp only [YG]
  have := BQ h
  rw [← ZC] at this
  exact this
 | .cell a ty :: rs,k,x,h => by
  simp only [Kn] at h
  simp only [YG]
  split at h
  ·rename_i ag ha
   split at h
   ·rename_i m hm
    rw [Zu,← ZC,JQ] at h
    obtain ⟨v,h1,h2⟩ := QG h
    simp only [Jq,ha,hm,Option.bind_some]
    rw [show (tl n t).getD a .junk = env (tl n t) (.tmp a) from rfl,h1]
    exact BQ h2
   ·simp at h
  ·simp at h
theorem KB {dfr : QF} {keep : Bool} {O n : Nat} {rs : List ResultVar} {t : Ts} : ∀ {d : Ds} {m : Option V} {H : Qa} {x : Out × Qa},Yq P dfr keep O n rs t d m H = some x → JK P dfr keep O n rs t d m H = some x
 | [],none,H,x,h => by
  simp only [Yq,BF] at h
  exact BQ h
 | [],some v,H,x,h => by
  simp only [Yq,NF] at h
  exact h
 | d :: ds,none,H,x,h => by
  simp only [Yq,NM] at h
  obtain ⟨r,h1,h2⟩ := QG h
  simp only [JK,h1,Option.bind_some]
  simp only [ite_self]
  exact KB h2
 | d :: ds,some v,H,x,h => by
  simp only [Yq,BI] at h
  unfold Bv at h
  obtain ⟨⟨b,H'⟩,h1,h2⟩ := QG h
  simp only [JK,h1,Option.bind_some]
  cases b with
  | true => exact KB h2
  | false => exact KB h2
def YP (b : Bool) (args : List V) : List V := match b with
 | true => args.map V.nrm
 | false => args
theorem Gx (b : Bool) (args : List V) : (YP b args).length = args.length := by cases b <;> simp [YP]
theorem Et {S : Ctx} {b : Bool} {args : List V} {us : Array Value} (h : RelA S args us) : RelA S (YP b args) us := by
 cases b with
 | false => exact h
 | true =>
  obtain ⟨h1,h2⟩ := h
  refine ⟨by simpa [YP] using h1,fun j v u hv hu => ?_⟩
  simp only [YP,List.getElem?_map,Option.map_eq_some_iff] at hv
  obtain ⟨w,hw,rfl⟩ := hv
  exact Bq (h2 j w u hw hu)
def UT : V → Bool
 | .bool _ | .int _ _ | .str _ => true
 | _ => false
noncomputable def BZ (H : Qa) (r : Out × Qa) : Option (Out × Qa) := match r with
 | (.ret v,[]) => if UT v = true then some (.ret v,H) else none
 | _ => none
theorem Pi {H H' : Qa} {r : Out × Qa} {o : Out} (h : BZ H r = some (o,H')) : ∃ v,r = (.ret v,[]) ∧ UT v = true ∧ o = .ret v ∧ H' = H := by
 unfold BZ at h
 split at h
 ·split at h
  ·rename_i hp
   simp only [Option.some.injEq,Prod.mk.injEq] at h
   exact ⟨_,rfl,hp,h.1.symm,h.2.symm⟩
  ·cases h
 ·cases h
noncomputable def Wh (call : Qc) (f : FuncId) (args : List V) (H : Qa) : Option (Out × Qa) :=
 (Q0 (frz H 0 depth) args).bind fun a => if Qw a = true then (call f a []).bind (BZ H) else none
noncomputable def YI (P : Program) (h : Hint) (call : Qc) (dfr : QF) (f : FuncId) (args : List V) (H : Qa) : Option (Out × Qa) :=
 match h.orc f with
 | some g => g call args H
 | none => match h.intr f with
 | some g => g args H
 | none => match P.funcs[f]? with
  | none => none
  | some fn => match fn.body with
   | none => none
   | some c => if args.length ≤ fn.ntmps then UZ P (h.own f) (h.ks f) (h.keep f) call dfr c fn.results.toList fn.ntmps (YP (h.nrm f) args) H else none
noncomputable def Jb (P : Program) (h : Hint) (call : Qc) (dfr : QF) (f : FuncId) (args : List V) (H : Qa) : Option (Out × Qa) :=
 match h.lend f && !Qw args with
 | true => Wh call f args H
 | false => YI P h call dfr f args H
theorem Pz {call : Qc} {f : FuncId} {args : List V} {H : Qa} : Qb (fun c => Wh c f args H) call := by
 unfold Wh
 refine Qb.bind (f := fun _ => Q0 (frz H 0 depth) args) (Qb.const _) fun a => ?_
 split
 ·exact Qb.bind (f := fun c => c f a []) (Qb.one _ _ _) fun r => Qb.const _
 ·exact Qb.const _
theorem Gr {h : Hint} {call : Qc} {dfr : QF} {f : FuncId} {args : List V} {H : Qa} : Qb (fun c => YI P h c dfr f args H) call := by
 unfold YI
 split
 ·rename_i g hg
  exact h.fine f g hg args H call
 ·split
  ·exact Qb.const _
  ·split
   ·exact Qb.const _
   ·split
    ·exact Qb.const _
    ·split
     ·exact Jg _ fun e t H d => Qb.const _
     ·exact Qb.const _
theorem By {h : Hint} {call : Qc} {dfr : QF} {f : FuncId} {args : List V} {H : Qa} : Qb (fun c => Jb P h c dfr f args H) call := by
 unfold Jb
 split
 ·exact Pz
 ·exact Gr
noncomputable def EVn (P : Program) (h : Hint) (dfr : QF) : Nat → Qc
 | 0 => fun _ _ _ => none
 | n + 1 => Jb P h (EVn P h dfr n) dfr
noncomputable def EV (P : Program) (h : Hint) (dfr : QF) : Qc := fun f args H => lim fun n => EVn P h dfr n f args H
theorem Mq {h : Hint} {dfr : QF} : ∀ (n : Nat) {f : FuncId} {args : List V} {H : Qa} {x : Out × Qa},EVn P h dfr n f args H = some x → EVn P h dfr (n + 1) f args H = some x
 | 0,f,args,H,x,hx => by simp [EVn] at hx
 | n + 1,f,args,H,x,hx => by
  rw [EVn] at hx ⊢
  obtain ⟨L,l1,l2⟩ := By (call := EVn P h dfr n) x hx
  exact l2 _ fun y hy => Mq n (l1 y hy)
theorem UK {h : Hint} {dfr : QF} {f : FuncId} {args : List V} {H : Qa} : KX fun n => EVn P h dfr n f args H := fun n x hx => Mq n hx
theorem LA {h : Hint} {dfr : QF} : ∀ {L : List BU},Has (EV P h dfr) L → ∃ n,Has (EVn P h dfr n) L
 | [],_ => ⟨0,Has.nil⟩
 | y :: L,hL => by
  obtain ⟨n,hn⟩ := LA (L := L) fun z hz => hL z (List.mem_cons_of_mem _ hz)
  obtain ⟨m,hm⟩ := YN (hL y (List.mem_cons_self ..))
  refine ⟨max n m,fun z hz => ?_⟩
  rcases List.mem_cons.1 hz with rfl | hz
  ·exact UK.le (Nat.le_max_right n m) hm
  ·exact UK.le (Nat.le_max_left n m) (hn z hz)
theorem P6 {h : Hint} {dfr : QF} {f : FuncId} {args : List V} {H : Qa} : EV P h dfr f args H = Jb P h (EV P h dfr) dfr f args H := by
 refine Rn (fun x hx => ?_) (fun x hx => ?_)
 ·obtain ⟨n,hn⟩ := YN hx
  cases n with
  | zero => simp [EVn] at hn
  | succ n =>
   rw [EVn] at hn
   obtain ⟨L,l1,l2⟩ := By (call := EVn P h dfr n) x hn
   exact l2 _ fun y hy => Y6 UK (l1 y hy)
 ·obtain ⟨L,l1,l2⟩ := By (call := EV P h dfr) x hx
  obtain ⟨n,hn⟩ := LA l1
  refine Y6 UK (n := n + 1) ?_
  simp only [EVn]
  exact l2 _ hn
theorem LP {h : Hint} {dfr : QF} {f : FuncId} {args : List V} {H : Qa} (hl : (h.lend f && !Qw args) = false) : EV P h dfr f args H = YI P h (EV P h dfr) dfr f args H := by
 rw [P6]
 unfold Jb
 rw [hl]
theorem Ey {h : Hint} {dfr : QF} {f : FuncId} {fn : Func} {c : Code} (ho : h.orc f = none) (hi : h.intr f = none) (hf : P.funcs[f]? = some fn) (hb : fn.body = some c) {args : List V} {H : Qa} (hl : args.length ≤ fn.ntmps) (hn : (h.lend f && !Qw args) = false) :
  EV P h dfr f args H = UZ P (h.own f) (h.ks f) (h.keep f) (EV P h dfr) dfr c fn.results.toList fn.ntmps (YP (h.nrm f) args) H := by
 rw [LP hn]
 unfold YI
 simp only [ho,hi,hf,hb,if_pos hl]
theorem Yu {h : Hint} {dfr : QF} {f : FuncId} {fn : Func} (hf : P.funcs[f]? = some fn) (hi : ((h.orc f).isNone && (h.intr f).isNone && !h.nrm f && !h.lend f) = true) (hb : fn.body.isSome = true) {args : List V} {H : Qa} (hl : Nat.ble args.length fn.ntmps = true) :
  EV P h dfr f args H = UZ P (h.own f) (h.ks f) (h.keep f) (EV P h dfr) dfr (ZK fn) fn.results.toList fn.ntmps args H := by
 obtain ⟨c,hc⟩ := Option.isSome_iff_exists.1 hb
 rw [Bool.and_eq_true,Bool.and_eq_true,Bool.and_eq_true] at hi
 rw [Ey (by simpa using hi.1.1.1) (by simpa using hi.1.1.2) hf hc (Nat.le_of_ble_eq_true hl) (by rw [show h.lend f = false by simpa using hi.2]; rfl),show h.nrm f = false by simpa using hi.1.2]
 unfold ZK
 rw [hc]
 rfl
theorem Gm {h : Hint} {dfr : QF} {f : FuncId} {g : List V → Qa → Option (Out × Qa)} (hi : h.intr f = some g) (ho : h.orc f = none := by rfl) (hl : h.lend f = false := by rfl) {args : List V} {H : Qa} : EV P h dfr f args H = g args H := by
 rw [LP (by rw [hl]; rfl)]
 unfold YI
 simp only [ho,hi]
theorem Rel.plain {S S' : Ctx} {v : V} {u : Value} (h : Rel S v u) (hp : UT v = true) : Rel S' v u := by
 cases h <;> first | exact .bool _ | exact .int _ _ | exact .str _ | simp [UT] at hp
theorem GG {call : Qc} (hcall : QJ T P call) (f : FuncId) : Mod T P f (Wh call f) := by
 intro args H r H' hg S us hH hS hA
 subst hH
 unfold Wh at hg
 obtain ⟨a,ha,hg⟩ := QG hg
 split at hg
 ·rename_i hc
  obtain ⟨q,hq,hg⟩ := QG hg
  obtain ⟨v,rfl,hp,rfl,rfl⟩ := Pi hg
  have hb : 0 ≤ S.H.length := Nat.zero_le _
  have hn : (S.trunc 0).H = [] := by simp [Ctx.trunc,Qx]
  have hB : Bnd 0 S.H := fun i b hi _ => by omega
  have hA' : RelA (S.trunc 0) a us := by
   obtain ⟨m1,m2⟩ := WE ha
   refine ⟨by rw [m1]; exact hA.1,fun j y u hy hu => ?_⟩
   obtain ⟨x,hx,hf⟩ := m2 j y hy
   exact Kw hb hS depth hf (hA.2 j x u hx hu) (by rw [WC (Zn.1 hc y (List.mem_of_getElem? hy))]; exact Nat.le_refl _)
  obtain ⟨h1,h2⟩ := hcall f a [] _ _ hq (S.trunc 0) us hn (LB hb hS hB) hA'
  refine ⟨h1,h2.mono fun e w' he => ?_⟩
  obtain ⟨S',hto,hr⟩ := he
  have hw := hto.w
  subst hw
  match e,hr with
  | .returned u,hr =>
   have hgr : Grew S.w S'.w := ⟨hto.ext.size,fun c hc => by
    by_cases hz : S.Z c
    ·exact (hto.ext.zed c hz).2
    ·exact (hto.ext.keep c hc ⟨fun ⟨i,hi,_⟩ => by have := (Ky hb hi).2; omega,hz⟩).1,hto.ext.os,hto.ext.tape,hto.ext.output⟩
   exact ⟨S.at S'.w,⟨rfl,rfl,rfl,Je hS hgr,KT hS hgr,Bd.refl _ _⟩,Rel.plain hr hp⟩
 ·cases hg
theorem GO {h : Hint} {call : Qc} {dfr : QF} (hcall : QJ T P call) (hdfr : YX T P dfr) (hmix : P.follows .mixedOrders = true) (hn : Kr P) (hi : ∀ f g,h.intr f = some g → Mod T P f g) (ho : ∀ f g,h.orc f = some g → ∀ call,QJ T P call → Mod T P f (g call)) (f : FuncId) : Mod T P f (Jb P h call dfr f) := by
 intro args H r H' hg
 cases hle : h.lend f && !Qw args with
 | true =>
  unfold Jb at hg
  rw [hle] at hg
  exact GG hcall f args H r H' hg
 | false =>
 unfold Jb at hg
 rw [hle] at hg
 clear hle
 simp only at hg
 cases hor : h.orc f with
 | some g =>
  unfold YI at hg
  simp only [hor] at hg
  exact ho f g hor call hcall args H r H' hg
 | none =>
 cases hin : h.intr f with
 | some g =>
  unfold YI at hg
  simp only [hor,hin] at hg
  exact hi f g hin args H r H' hg
 | none =>
  unfold YI at hg
  simp only [hor,hin] at hg
  cases hf : P.funcs[f]? with
  | none => simp [hf] at hg
  | some fn =>
   simp only [hf] at hg
   cases hb : fn.body with
   | none => simp [hb] at hg
   | some c =>
    simp only [hb] at hg
    split at hg
    ·rename_i hle
     unfold UZ at hg
     obtain ⟨M,e,t',H1,d',h1,h2⟩ := Jt c hg
     have hle' : (YP (h.nrm f) args).length ≤ fn.ntmps := by rw [Gx]; exact hle
     rw [Pm hle'] at h1
     have key := Pd (h := h) hcall (La hcall hmix M) hdfr hmix (f := f) (fun g hh => by rw [hin] at hh; simp at hh) (fun fn' hf' hb' => hn f fn' hf' hb')
     intro S uargs hH hS hA
     refine key (YP (h.nrm f) args) H r H' ?_ S uargs hH hS (Et hA)
     unfold Bp
     simp only [hin,hf,hb]
     rw [if_pos hle',h1]
     simp only [Option.bind_some]
     cases e with
     | normal => exact VU (KB h2)
     | ret => exact VU (KB h2)
     | pan v => exact VU (KB h2)
     | exit i => simp [ZN] at h2
    ·simp at hg
theorem MF {h : Hint} {dfr : QF} (hdfr : YX T P dfr) (hmix : P.follows .mixedOrders = true) (hn : Kr P) (hi : ∀ f g,h.intr f = some g → Mod T P f g) (ho : ∀ f g,h.orc f = some g → ∀ call,QJ T P call → Mod T P f (g call)) : ∀ n,QJ T P (EVn P h dfr n)
 | 0 => fun f args H r H' hh => by simp [EVn] at hh
 | n + 1 => fun f => GO (MF hdfr hmix hn hi ho n) hdfr hmix hn hi ho f
theorem Ee {h : Hint} {dfr : QF} (hdfr : YX T P dfr) (hmix : P.follows .mixedOrders = true) (hn : Kr P) (hi : ∀ f g,h.intr f = some g → Mod T P f g) (ho : ∀ f g,h.orc f = some g → ∀ call,QJ T P call → Mod T P f (g call)) : QJ T P (EV P h dfr) := by
 intro f args H r H' hh
 obtain ⟨n,hx⟩ := YN hh
 exact MF hdfr hmix hn hi ho n f args H r H' hx
def Rq : Zi := fun _ _ _ _ _ => none
theorem Pg : YB T P Rq := fun O own ks b st e st' h => by simp [Rq] at h
noncomputable def Lv (P : Program) (h : Hint) : QF := VP P h RQ Rq
theorem L8 {h : Hint} (hmix : P.follows .mixedOrders = true) (hn : Kr P) : YX T P (Lv P h) := GV F8 Pg hmix hn
end
end Go.Ev
end
section
namespace Go.Ev
variable {α : Type}
abbrev KS (α : Type) := Ex → Ts → Qa → Option V → Bool → Option α
section
variable (P : Program) (O : Nat) (own : Bool) (ops : List Oper) (n : Nat) (k : KS α)
end
def kd (k : KS α) (m : Option V) (b : Bool) : KC α := fun e t H d =>
 match d with
 | [] => k e t H m b
 | _ => none
section
variable {P : Program} {O : Nat} {own : Bool} {call : Qc} {loop : Zi} {ops : List Oper} {n : Nat} {k : KS α}
end
end Go.Ev
end
section
namespace Go.Ev
def iRd (g : List V → Qa → Option V) : List V → Qa → Option (Out × Qa) := fun args H => (g args H).map fun v => (.ret v,H)
def Ux : List (Nat × (List V → Qa → Option (Out × Qa))) → Nat → Option (List V → Qa → Option (Out × Qa))
 | [],_ => none
 | (i,g) :: r,f => match Nat.beq i f with
  | true => some g
  | false => Ux r f
end Go.Ev
end
