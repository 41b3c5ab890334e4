/- EvE: a part of the proof that each law of this seat answers true at every input. No condition. -/
import Derived.Test.YthpghekebjadcaaEvD
set_option linter.unusedVariables false
set_option linter.unusedSimpArgs false
section
namespace Go.Ev
def cAt : List Nat → Code → Code
 | [],c => c
 | i :: p,c => match c with
  | .seq a b => cAt p (if i = 0 then a else b)
  | .cond _ a b => cAt p (if i = 0 then a else b)
  | .block _ b | .loop b | .scope b => cAt p b
  | c => c
def Q7 (fn : Func) : Code :=
 match fn.body with
 | some c => c
 | none => .skip
def BG (H : Qa) (x : V) : Option (V × Qa) := newVar H x
def G6 (x : V) : Option V := some x
def Ge (t : TypeId) (x : V) : Option V := some (.iface t x)
def Fh (f : FuncId) (cap : List V) : Option V := some (.fn f cap)
def Pz (n : Nat) : Option V := some (.int .i64 n)
def FZ (c a b : V) : Option V :=
 match c with
 | .bool true => some a
 | .bool false => some b
 | _ => none
def MU (z : List V) (pl : List (Nat × Nat)) (ps : List (Nat × V)) : Option V := (Js (fun i => pl[i]?) z ps).map .agg
def Fw (z : List V) (n : Nat) (ps : List (Nat × V)) : Option V := (Js (fun i => some (i * n,n)) z ps).map .agg
def F9 (x : V) : Option V :=
 match x with
 | .ptr i v o => some (.ptr i v o)
 | .fptr cs => some (.fptr cs)
 | _ => none
def Vu : IntKind → Nat
 | .i8 => 0 | .i16 => 1 | .i32 => 2 | .i64 => 3 | .u8 => 4 | .u16 => 5 | .u32 => 6 | .u64 => 7
def D1 : Nat → IntKind
 | 0 => .i8 | 1 => .i16 | 2 => .i32 | 3 => .i64 | 4 => .u8 | 5 => .u16 | 6 => .u32 | _ => .u64
def PO (n : Nat) (k : IntKind) (x y : V) : Option Bool :=
 match x,y with
 | .agg xs,.agg ys => if xs.length = n ∧ ys.length = n ∧ KV k xs = true ∧ KV k ys = true then some (JY xs ys) else none
 | _,_ => none
def rEq (k : Nat) (x y : V) : Option Bool :=
 match k with
 | 0 => match x,y with
  | .bool a,.bool b => some (a == b)
  | _,_ => none
 | 1 => match x,y with
  | .nils,.nils => some true
  | .nils,.rs _ _ _ _ _ | .rs _ _ _ _ _,.nils => some false
  | .nils,.vs (_ :: _) | .vs (_ :: _),.nils => some false
  | _,_ => none
 | 2 => match x,y with
  | .nilptr,.nilptr => some true
  | .nilptr,.ptr _ _ _ | .ptr _ _ _,.nilptr | .nilptr,.fptr _ | .fptr _,.nilptr => some false
  | _,_ => none
 | 3 => match x,y with
  | .niface,.iface _ _ | .iface _ _,.niface => some false
  | _,_ => none
 | 4 => match x,y with
  | .nilmap,.nilmap => some true
  | .nilmap,.mapr _ | .mapr _,.nilmap => some false
  | _,_ => none
 | 5 => match x,y with
  | .nilfn,.nilfn => some true
  | .nilfn,.fn _ _ | .fn _ _,.nilfn => some false
  | _,_ => none
 | 6 => none
 | m + 7 => PO (m / 8) (D1 (m % 8)) x y
def KM (e : Option Bool) (op : BinOp) (x y : V) : Option V :=
 match op with
 | .shl | .shr => match x,y with
  | .int k a,.int _ b => CM op k a b
  | _,_ => none
 | _ => match x,y with
  | .int k a,.int l b => if k = l then WU op k a b else none
  | .str a,.str b => Xq op a b
  | _,_ => match op with
   | .eql => e.map .bool
   | .neq => e.map fun b => .bool !b
   | _ => none
def Wb (op : BinOp) (k : Nat) (x y : V) : Option V := KM (rEq k x y) op x y
def Ym (op : BinOp) (k : Nat) (x y : V) : Option V :=
 match Wb op k x y with
 | some v => some v
 | none => none
def Qao (op : BinOp) (c : Bool) (a b : V) : Option V :=
 match a,b with
 | .niface,.niface => match c with
  | true => match op with
   | .eql => some (.bool true)
   | .neq => some (.bool false)
   | _ => none
  | false => none
 | _,_ => none
def Lr (op : BinOp) (c : Bool) (x y : V) : Option V :=
 match Wb op 3 x y with
 | some v => some v
 | none => Qao op c x y
def WW (k : IntKind) (x : V) : Option V :=
 match x with
 | .int _ n => some (.int k (k.wrap n))
 | _ => none
def MG (x : V) : Option V :=
 match x with
 | .int _ n => some (.str (Utf8.encode n).data.toList)
 | .str s => some (.str s)
 | _ => none
def ME (off : Nat) (ag : Bool) (n : Nat) (x : V) : Option V :=
 match x with
 | .agg cs => if off + n ≤ cs.length then Kf ag n (cs.drop off) else none
 | _ => none
def RJ (n : Nat) (x i : V) : Option V := (Y0 i).bind fun k => Vm n x k
def Md (len n : Nat) (x i : V) : Option V := (Y0 i).bind fun k => if k < len then K1 x (k * n) else none
def B8 (x i : V) : Option V :=
 match x with
 | .str s => (Y0 i).bind fun k => (s[k]?).map fun b => .int .u8 b.toNat
 | _ => none
def ML (len : Nat) (ag : Bool) (n : Nat) (x i : V) : Option V := (Y0 i).bind fun k =>
 match x with
 | .agg cs => if k < len then (if k * n + n ≤ cs.length then Kf ag n (cs.drop (k * n)) else none) else none
 | _ => none
def NM (x : V) (i : Nat) : Option V :=
 match x with
 | .tup vs => vs[i]?
 | _ => none
def Mc (ty : TypeId) (x : V) : Option V :=
 match x with
 | .iface u v => if u = ty then some v else none
 | _ => none
def Le (ty : TypeId) (z : V) (x : V) : Option V :=
 match x with
 | .iface u v => if u = ty then some (.tup [v,.bool true]) else some (.tup [z,.bool false])
 | .niface => some (.tup [z,.bool false])
 | _ => none
def FI (x : V) : Option V :=
 match x with
 | .str s => some (.int .i64 s.length)
 | _ => none
def LN (x : V) : Option V := (Yr x).map fun n => .int .i64 n
def Vb (base n : Nat) (H : Qa) (p x : V) : Option (V × Qa) := (Rx base n H p x).map fun H' => (.tup [],H')
def GJ (H : Qa) (x : V) : Option V := (YR 1 H x).bind fun cs => (bytesOf cs).map .str
def LM (x : V) (H : Qa) : Option (V × Qa) :=
 match x with
 | .str s => rowOf H 1 false (J2 s) s.length
 | _ => none
def FN (len n : Nat) (ag : Bool) (cs : List V) (H : Qa) (ps : List (Nat × V)) : Option (V × Qa) :=
 (Js (fun i => some (i * n,n)) cs ps).bind fun cs => rowOf H n ag cs len
def N2 (n : Nat) (ag : Bool) (by_ : Nat) (z : List V) (l c : V) (H : Qa) : Option (V × Qa) :=
 (Y0 l).bind fun len => (Y0 c).bind fun cap => if len = cap ∧ Vd cap by_ = true ∧ len ≤ 9223372036854775807 then rowOf H n ag (Jd len z) len else none
def VF (n len : Nat) (z : V) (ps : List (Nat × V)) : Option V :=
 if U4 n len ps = true then some (.vs (VR (List.replicate len z) ps)) else none
def Lj (base n by_ : Nat) (ag : Bool) (s x : V) (H : Qa) : Option (V × Qa) := (Yr x).bind fun k => (YR n H x).bind fun new => Ub base H n by_ ag s new k
def Lm (base n by_ : Nat) (ag : Bool) (s x : V) (H : Qa) : Option (V × Qa) :=
 match x with
 | .str b => Ub base H n by_ ag s (J2 b) b.length
 | _ => none
def rFn (f : V) (args : List V) : Option (FuncId × List V) :=
 match f with
 | .fn g cap => some (g,args ++ cap)
 | _ => none
def Ep (x : V) : Option V :=
 match x with
 | .iface ty v => some (.iface ty v)
 | _ => none
def UF (k : Nat) (v : V) : Bool :=
 match k,v with
 | 0,.int _ _ | 1,.str _ | 2,.bool _ => true
 | _,_ => false
def Mt (kk : Nat) (z : V) (H : Qa) (m k : V) : Option V :=
 match UF kk k with
 | true => (mapOf H m).bind fun es => (K5 k es 0).bind fun r => match r with
  | some (_,v) => some v
  | none => some z
 | false => none
def Lz (kk : Nat) (z : V) (H : Qa) (m k : V) : Option V :=
 match UF kk k with
 | true => (mapOf H m).bind fun es => (K5 k es 0).bind fun r => match r with
  | some (_,v) => some (.tup [v,.bool true])
  | none => some (.tup [z,.bool false])
 | false => none
def Gr (n len : Nat) (ag : Bool) (x : V) (lo hi mx : Option V) (H : Qa) : Option (V × Qa) := DW H n len ag x lo hi mx
def Fp (base n : Nat) (z : List V) (x : V) (H : Qa) : Option (V × Qa) := GV base H n z x
def Po (base n : Nat) (d x : V) (H : Qa) : Option (V × Qa) := (Yr x).bind fun k => (YR n H x).bind fun new => copyV base H n new k d
variable {P : Program}
def RN (P : Program) (ty : TypeId) : Nat :=
 match P.underlying ty with
 | some .bool => 0
 | some (.slice _) => 1
 | some (.pointer _) => 2
 | some (.interface _) => 3
 | some (.map _ _) => 4
 | some (.func _ _ _) => 5
 | some (.array n e) => match P.underlying e with
  | some (.int k) => match Q5 P e,Z9 P e with
   | some 1,some false => n * 8 + Vu k + 7
   | _,_ => 6
  | _ => 6
 | _ => 6
def Wp (P : Program) (t : List V) : Op → Option V
 | .move x | .assign x => G6 (env t x)
 | .pick c a b => FZ (env t c) (env t a) (env t b)
 | .build ty parts => match P.underlying ty with
  | some (.struct fs) => match ZO P ty with
   | some z => match Ve P fs.toList with
    | some pl => match ZI z.cells with
     | true => MU z.cells pl (Y5 t parts.toList)
     | false => none
    | none => none
   | none => none
  | some (.array _ e) => match ZO P ty with
   | some z => match Q5 P e with
    | some n => match ZI z.cells with
     | true => Fw z.cells n (Y5 t parts.toList)
     | false => none
    | none => none
   | none => none
  | _ => none
 | .nilCheck x => F9 (env t x)
 | .binOp op ty x y _ => match RN P ty with
  | 3 => Lr op (Region.isConst x || Region.isConst y) (env t x) (env t y)
  | k => Ym op k (env t x) (env t y)
 | .unOp op _ x => vUn op (env t x)
 | .convert src dst x => match (P.underlying src).isSome with
  | true => match P.underlying dst with
   | some (.int k) => WW k (env t x)
   | some .string => MG (env t x)
   | _ => none
  | false => none
 | .makeInterface ty x => match P.underlying ty with
  | some (.interface _) => none
  | some _ => Ge ty (env t x)
  | none => none
 | .makeFunc fn first cap => match fn with
  | .func f => match first.size with
   | 0 => Fh f (YT t cap.toList)
   | _ => none
  | _ => none
 | .slice ty x lo hi mx => match P.underlying ty with
  | some .string => WY (env t x) (lo.map (env t)) (hi.map (env t)) (mx.map (env t))
  | some (.slice e) => match Q5 P e with
   | some n => K2 n (env t x) (lo.map (env t)) (hi.map (env t)) (mx.map (env t))
   | none => none
  | _ => none
 | .fieldAddr ty x f => match U8 P ty f with
  | some r => match Q5 P r.2 with
   | some (_ + 1) => K1 (env t x) r.1
   | _ => none
  | none => none
 | .field ty x f => match U8 P ty f with
  | some r => match Z9 P r.2 with
   | some ag => match Q5 P r.2 with
    | some n => ME r.1 ag n (env t x)
    | none => none
   | none => none
  | none => none
 | .indexAddr ty x i => match P.underlying ty with
  | some (.slice e) => match Q5 P e with
   | some n => RJ n (env t x) (env t i)
   | none => none
  | some (.array len e) => match Q5 P e with
   | some (n + 1) => Md len (n + 1) (env t x) (env t i)
   | _ => none
  | _ => none
 | .index ty x i => match P.underlying ty with
  | some .string => B8 (env t x) (env t i)
  | some (.array len e) => match Z9 P e with
   | some ag => match Q5 P e with
    | some n => ML len ag n (env t x) (env t i)
    | none => none
   | none => none
  | _ => none
 | .extract x i => NM (env t x) i
 | .typeAssert x _ ty ok => match P.underlying ty with
  | some (.interface _) => none
  | some _ => match ok with
   | true => match ZO P ty with
    | some z => Le ty z (env t x)
    | none => none
   | false => Mc ty (env t x)
  | none => none
 | .call c => match c.callee with
  | .builtin .len => match c.argTypes[0]?,c.args[0]? with
   | some ty,some x => match P.underlying ty with
    | some .string => FI (env t x)
    | some (.slice _) => LN (env t x)
    | some (.array n _) => Pz n
    | _ => none
   | _,_ => none
  | .builtin .min => Kt NG (YT t c.args.toList)
  | .builtin .max => Kt Rm (YT t c.args.toList)
  | _ => none
 | _ => none
theorem Qcs (k : IntKind) : Vu k < 8 := by cases k <;> decide
theorem QnY (k : IntKind) : D1 (Vu k) = k := by cases k <;> rfl
theorem QiF (n : Nat) (k : IntKind) (x y : V) : rEq (n * 8 + Vu k + 7) x y = PO n k x y := by
 have h1 : (n * 8 + Vu k) / 8 = n := by have := Qcs k; omega
 have h2 : (n * 8 + Vu k) % 8 = Vu k := by have := Qcs k; omega
 show PO ((n * 8 + Vu k) / 8) (D1 ((n * 8 + Vu k) % 8)) x y = _
 rw [h1,h2,QnY]
theorem QiN {ty : TypeId} {x y : V} {b : Bool} (h : rEq (RN P ty) x y = some b) : vEq P ty x y = some b := by
 unfold RN at h
 unfold vEq
 split at h
 case h_7 n e hu =>
  simp only [hu]
  split at h
  ·rename_i k he
   simp only [he]
   split at h
   ·rename_i hs ha
    rw [QiF] at h
    unfold PO at h
    split at h
    ·split at h
     ·rename_i hc
      simp only [hs,ha,hc,and_self,if_true]
      exact h
     ·simp at h
    ·simp at h
   ·simp [rEq] at h
  ·simp [rEq] at h
 all_goals (rename_i hu; simp only [hu])
 all_goals (try exact h)
 all_goals (simp [rEq] at h)
theorem QcR (op : BinOp) (ty : TypeId) (x y : V) : B9 P op ty x y = KM (vEq P ty x y) op x y := by
 cases op <;> rfl
theorem Qr1 {e e' : Option Bool} (he : ∀ b,e = some b → e' = some b) {op : BinOp} {x y v : V} (h : KM e op x y = some v) : KM e' op x y = some v := by
 cases e with
 | some b => rw [he b rfl]; exact h
 | none =>
  revert h
  unfold KM
  split
  ·exact id
  ·exact id
  ·split
   ·exact id
   ·exact id
   ·split <;> simp
theorem QbD {op : BinOp} {ty : TypeId} {x y v : V} (h : Wb op (RN P ty) x y = some v) : B9 P op ty x y = some v := by
 rw [QcR]
 exact Qr1 (fun b hb => QiN hb) h
theorem Fu {t : List V} {op : Op} {v : V} (h : Wp P t op = some v) : ZR P t op = some v := by
 cases op <;> simp only [Wp] at h <;> simp only [ZR] <;> (try (simp at h; done)) <;> (try exact h)
 case build ty parts =>
  split at h
  ·rename_i fs hu
   split at h
   ·rename_i z hz
    split at h
    ·rename_i pl hp
     split at h
     ·rename_i hs
      simp only [hz,hu,hp,hs,Option.bind_some,if_true]
      exact h
     ·simp at h
    ·simp at h
   ·simp at h
  ·rename_i n e hu
   split at h
   ·rename_i z hz
    split at h
    ·rename_i n hp
     split at h
     ·rename_i hs
      simp only [hz,hu,hp,hs,Option.bind_some,if_true]
      exact h
     ·simp at h
    ·simp at h
   ·simp at h
  ·simp at h
 case binOp op ty x y c =>
  split at h
  ·rename_i hk
   unfold Lr at h
   split at h
   ·rename_i v' hv
    rw [← hk] at hv
    rw [QbD hv]
    exact h
   ·rename_i hv
    have hu : ∃ m,P.underlying ty = some (.interface m) := by
     unfold RN at hk
     split at hk <;> first
      | (rename_i hu; exact ⟨_,hu⟩)
      | (simp at hk; done)
      | (exfalso; revert hk; split <;> (try split) <;> simp)
    obtain ⟨m,hu⟩ := hu
    have hn : B9 P op ty (env t x) (env t y) = none := by
     rw [QcR]
     unfold Wb at hv
     have : vEq P ty (env t x) (env t y) = rEq 3 (env t x) (env t y) := by
      unfold vEq; rw [hu]; rfl
     rw [this]; exact hv
    rw [hn]
    unfold Qao at h
    unfold Xi
    rw [hu]
    split at h
    ·rename_i h1 h2
     rw [h1,h2]
     split at h
     ·rename_i hc
      simp only [hc,if_true]
      exact h
     ·simp at h
    ·simp at h
  ·unfold Ym at h
   split at h
   ·rename_i v' hv
    rw [QbD hv]
    exact h
   ·simp at h
 case makeFunc fn first cap =>
  split at h
  ·split at h
   ·rename_i hs
    simp only [hs,if_true]; exact h
   ·simp at h
  ·simp at h
 case convert src dst x =>
  split at h
  ·rename_i hs
   rw [if_pos hs]
   split at h
   ·rename_i k hu
    unfold WW at h
    split at h
    ·rename_i hx; rw [hx]; simp only [PP,hu]; exact h
    ·simp at h
   ·rename_i hu
    unfold MG at h
    split at h
    ·rename_i hx; rw [hx]; simp only [PP,hu]; exact h
    ·rename_i hx; rw [hx]; simp only [hu]; exact h
    ·simp at h
   ·simp at h
  ·simp at h
 case slice ty x lo hi mx =>
  split at h
  ·rename_i hu; simp only [hu]; exact h
  ·rename_i e hu
   split at h
   ·rename_i n hn
    simp only [hu,hn,Option.bind_some]
    exact h
   ·simp at h
  ·simp at h
 case fieldAddr ty x f =>
  split at h
  ·rename_i r hf
   split at h
   ·rename_i n hn
    simp only [hf,hn,Option.bind_some,Nat.succ_pos,if_true]
    exact h
   ·simp at h
  ·simp at h
 case field ty x f =>
  split at h
  ·rename_i r hf
   split at h
   ·rename_i ag ha
    split at h
    ·rename_i n hn
     unfold ME at h
     split at h
     ·rename_i cs hx
      simp only [hf,hx,W4,ha,hn,Option.bind_some]
      exact h
     ·simp at h
    ·simp at h
   ·simp at h
  ·simp at h
 case indexAddr ty x i =>
  split at h
  ·rename_i e hu
   split at h
   ·rename_i n hn
    simp only [hu,hn,Option.bind_some]
    exact h
   ·simp at h
  ·rename_i len e hu
   split at h
   ·rename_i n hn
    simp only [hu,hn,Option.bind_some]
    unfold Md at h
    obtain ⟨k,h1,h2⟩ := Option.bind_eq_some_iff.1 h
    rw [h1]
    simp only [Option.bind_some,Nat.succ_pos,and_true]
    exact h2
   ·simp at h
  ·simp at h
 case index ty x i =>
  split at h
  ·rename_i hu
   simp only [hu]
   unfold B8 at h
   split at h
   ·rename_i s hx; rw [hx]; exact h
   ·simp at h
  ·rename_i len e hu
   simp only [hu]
   split at h
   ·rename_i ag ha
    split at h
    ·rename_i n hn
     unfold ML at h
     obtain ⟨k,h1,h2⟩ := Option.bind_eq_some_iff.1 h
     split at h2
     ·rename_i cs hx
      simp only [hn,h1,hx,W4,ha,Option.bind_some]
      exact h2
     ·simp at h2
    ·simp at h
   ·simp at h
  ·simp at h
 case typeAssert x src ty ok =>
  split at h
  ·simp at h
  ·rename_i u hne hu
   rw [hu]
   cases u with
   | interface m => exact (hne m rfl).elim
   | _ =>
    split at h
    ·split at h
     ·rename_i z hz
      unfold Le at h
      split at h
      ·rename_i u' v' hx
       rw [hx]
       simp only [hz,if_true,Option.map_some]
       exact h
      ·rename_i hx
       rw [hx]
       simp only [hz,if_true,Option.map_some]
       exact h
      ·simp at h
     ·simp at h
    ·unfold Mc at h
     split at h
     ·rename_i u' v' hx
      rw [hx]
      simp only [Bool.false_eq_true,if_false]
      exact h
     ·simp at h
  ·simp at h
end Go.Ev
end
section
namespace Go.Ev
variable {P : Program}
def Vn (P : Program) (ty : TypeId) : Nat :=
 match P.underlying ty with
 | some (.int _) => 0
 | some .string => 1
 | some .bool => 2
 | _ => 9
def Wa (P : Program) (t : List V) (H : Qa) : Op → Option V
 | .load ty p => match Z9 P ty with
  | some ag => match Q5 P ty with
   | some n => Kj ag n H (env t p)
   | none => none
  | none => none
 | .convert src dst x => match P.underlying src with
  | some (.slice e) => match P.underlying dst with
   | some .string => match P.underlying e with
    | some (.int .u8) => GJ H (env t x)
    | _ => none
   | _ => none
  | _ => none
 | .lookup ty m k ok => match P.underlying ty with
  | some (.map kt et) => match ZO P et with
   | some z => match ok with
    | true => Lz (Vn P kt) z H (env t m) (env t k)
    | false => Mt (Vn P kt) z H (env t m) (env t k)
   | none => none
  | _ => none
 | _ => none
theorem Do {kt : TypeId} {k : V} (h : UF (Vn P kt) k = true) : Uv P kt k = true := by
 unfold Vn at h
 split at h
 ·rename_i hu
  cases k with
  | int _ _ => simp only [Uv,hu]
  | _ => simp [UF] at h
 ·rename_i hu
  cases k with
  | str _ => simp only [Uv,hu]
  | _ => simp [UF] at h
 ·rename_i hu
  cases k with
  | bool _ => simp only [Uv,hu]
  | _ => simp [UF] at h
 ·cases k <;> simp [UF] at h
theorem BA {t : List V} {H : Qa} {op : Op} {v : V} (h : Wa P t H op = some v) : ZZ P t H op = some v := by
 cases op <;> simp only [Wa] at h <;> simp only [ZZ] <;> (try (simp at h; done))
 case load ty p =>
  split at h
  ·rename_i ag ha
   split at h
   ·rename_i n hn
    simp only [ha,hn,Option.bind_some]
    exact h
   ·simp at h
  ·simp at h
 case convert src dst x =>
  split at h
  ·rename_i e hs
   split at h
   ·rename_i hd
    split at h
    ·rename_i he
     simp only [hs,hd,he]
     exact h
    ·simp at h
   ·simp at h
  ·simp at h
 case lookup ty m k ok =>
  split at h
  ·rename_i kt et hu
   split at h
   ·rename_i z hz
    unfold C8
    simp only [hu]
    split at h
    ·unfold Lz at h
     split at h
     ·rename_i hk
      rw [if_pos (Do hk)]
      obtain ⟨es,h1,h2⟩ := Option.bind_eq_some_iff.1 h
      obtain ⟨r,h3,h4⟩ := Option.bind_eq_some_iff.1 h2
      rw [h1]
      simp only [Option.bind_some]
      rw [h3]
      simp only [Option.bind_some,hz,Option.map_some,if_true]
      cases r with
      | none => exact h4
      | some p => exact h4
     ·simp at h
    ·unfold Mt at h
     split at h
     ·rename_i hk
      rw [if_pos (Do hk)]
      obtain ⟨es,h1,h2⟩ := Option.bind_eq_some_iff.1 h
      obtain ⟨r,h3,h4⟩ := Option.bind_eq_some_iff.1 h2
      rw [h1]
      simp only [Option.bind_some]
      rw [h3]
      simp only [Option.bind_some,hz,Option.map_some,Bool.false_eq_true,if_false]
      cases r with
      | none => exact h4
      | some p => exact h4
     ·simp at h
   ·simp at h
  ·simp at h
def Vj (P : Program) (t : List V) : Op → Option V
 | .buildSlice ty len parts => match Yz P ty with
  | some e => match Q5 P e with
   | some n => match ZO P e with
    | some z => match decide (len * n ≤ 16777216) && decide (0 < n) && (z.cells.length == n) && ZI z.cells && z.nrm.clean with
     | true => VF n len z.nrm (Y5 t parts.toList)
     | false => none
    | none => none
   | none => none
  | none => none
 | _ => none
theorem FU {t : List V} {op : Op} {v : V} (h : Vj P t op = some v) : KN P t op = some v := by
 cases op <;> simp only [Vj] at h <;> simp only [KN] <;> (try (simp at h; done))
 case buildSlice ty len parts =>
  split at h
  ·rename_i e he
   split at h
   ·rename_i n hn
    split at h
    ·rename_i z hz
     split at h
     ·rename_i hk
      simp only [Bool.and_eq_true,decide_eq_true_eq,beq_iff_eq] at hk
      obtain ⟨⟨⟨⟨k1,k2⟩,k3⟩,k4⟩,k5⟩ := hk
      unfold VF at h
      split at h
      ·rename_i hp
       simp only [he,hn,hz,Option.bind_some]
       rw [if_pos ⟨k1,k2,k3,k4,k5,hp⟩]
       exact h
      ·simp at h
     ·simp at h
    ·simp at h
   ·simp at h
  ·simp at h
def Gp (H : Qa) : Option (V × Qa) := some (.mapr H.length,.map [] :: H)
def Rw (base kk : Nat) (H : Qa) (m k x : V) : Option (V × Qa) :=
 match UF kk k with
 | true => match m with
  | .mapr i => match Q0 H i with
   | some (.map es) => match fits base i x.maxRef with
    | true => (K5 k es 0).map fun r => match r with
     | some (j,_) => (.tup [],ZV H i (.map (es.set j (k,x))))
     | none => (.tup [],ZV H i (.map (es ++ [(k,x)])))
    | false => none
   | _ => none
  | _ => none
 | false => none
theorem Qc0 {base : Nat} {ty kt et : TypeId} {H : Qa} {m k x : V} {v : V × Qa} (hu : P.underlying ty = some (.map kt et)) (h : Rw base (Vn P kt) H m k x = some v) :
  (NK P base ty H m k x).map (fun H' => (V.tup [],H')) = some v := by
 unfold Rw at h
 split at h
 ·rename_i hk
  split at h
  ·rename_i i
   split at h
   ·rename_i es hg
    split at h
    ·rename_i hf
     obtain ⟨r,h1,h2⟩ := Option.map_eq_some_iff.1 h
     unfold NK
     simp only [hu]
     rw [if_pos (Do hk)]
     simp only [hg]
     rw [if_pos hf,h1]
     cases r with
     | none => rw [← h2]; rfl
     | some p => rw [← h2]; rfl
    ·simp at h
   ·simp at h
  ·simp at h
 ·simp at h
def U5 (P : Program) (base : Nat) (t : List V) (H : Qa) : Op → Option (V × Qa)
 | .alloc ty => match ZO P ty with
  | some z => BG H z
  | none => none
 | .box _ x => BG H (env t x)
 | .buildSlice ty len parts => match Yz P ty with
  | some e => match Q5 P e with
   | some n => match Z9 P e with
    | some ag => match ZO P e with
     | some z => match decide (len * n ≤ 16777216) && (z.cells.length == n) && ZI z.cells with
      | true => FN len n ag (Jd len z.cells) H (Y5 t parts.toList)
      | false => none
     | none => none
    | none => none
   | none => none
  | none => none
 | .makeSlice ty l c => match Yz P ty with
  | some e => match Q5 P e with
   | some n => match Z9 P e with
    | some ag => match K8 P e with
     | some by_ => match ZO P e with
      | some z => match (z.cells.length == n) && ZI z.cells with
       | true => N2 n ag by_ z.cells (env t l) (env t c) H
       | false => none
      | none => none
     | none => none
    | none => none
   | none => none
  | none => none
 | .makeMap ty r => match P.underlying ty with
  | some (.map _ _) => match r with
   | none => Gp H
   | some x => none
  | _ => none
 | .mapUpdate ty m k x | .insert ty m k x => match P.underlying ty with
  | some (.map kt _) => Rw base (Vn P kt) H (env t m) (env t k) (env t x)
  | _ => none
 | .store ty p x => match Q5 P ty with
  | some n => Vb base n H (env t p) (env t x)
  | none => none
 | .convert src dst x => match (P.underlying src).isSome with
  | true => match P.underlying dst with
   | some (.slice e) => match P.underlying e with
    | some (.int .u8) => LM (env t x) H
    | _ => none
   | _ => none
  | false => none
 | .slice ty x lo hi mx => match P.underlying ty with
  | some (.array len e) => match Q5 P e with
   | some n => match Z9 P e with
    | some ag => Gr n len ag (env t x) (lo.map (env t)) (hi.map (env t)) (mx.map (env t)) H
    | none => none
   | none => none
  | _ => none
 | .call c => match c.callee with
  | .builtin .clear => match c.argTypes[0]?,c.args[0]? with
   | some ty,some x => match Yz P ty with
    | some e => match Q5 P e with
     | some n => match ZO P e with
      | some z => Fp base n z.cells (env t x) H
      | none => none
     | none => none
    | none => none
   | _,_ => none
  | .builtin .copy => match c.argTypes[0]?,c.args[0]?,c.args[1]? with
   | some ty,some d,some x => match Yz P ty with
    | some e => match Q5 P e with
     | some n => Po base n (env t d) (env t x) H
     | none => none
    | none => none
   | _,_,_ => none
  | .builtin .append => match c.argTypes[0]?,c.argTypes[1]?,c.args[0]?,c.args[1]? with
   | some ty,some ty2,some s,some x => match Yz P ty with
    | some e => match Q5 P e with
     | some n => match Z9 P e with
      | some ag => match K8 P e with
       | some by_ => match ZO P e with
        | some z => match (z.cells.length == n) && ZI z.cells with
         | true => match P.underlying ty2 with
          | some (.slice _) => Lj base n by_ ag (env t s) (env t x) H
          | some .string => Lm base n by_ ag (env t s) (env t x) H
          | _ => none
         | false => none
        | none => none
       | none => none
      | none => none
     | none => none
    | none => none
   | _,_,_,_ => none
  | _ => none
 | _ => none
theorem L8 {base : Nat} {t : List V} {H : Qa} {op : Op} {v : V × Qa} (h : U5 P base t H op = some v) : Z6 P base t H op = some v := by
 cases op <;> simp only [U5] at h <;> simp only [Z6] <;> (try (simp at h; done)) <;> (try exact h)
 case alloc ty =>
  split at h
  ·rename_i z hz; simp only [hz,Option.bind_some]; exact h
  ·simp at h
 case buildSlice ty len parts =>
  split at h
  ·rename_i e he
   split at h
   ·rename_i n hn
    split at h
    ·rename_i ag ha
     split at h
     ·rename_i z hz
      split at h
      ·rename_i hk
       simp only [Bool.and_eq_true,decide_eq_true_eq,beq_iff_eq] at hk
       simp only [he,hn,ha,hz,Option.bind_some]
       rw [if_pos ⟨hk.1.1,hk.1.2,hk.2⟩]
       exact h
      ·simp at h
     ·simp at h
    ·simp at h
   ·simp at h
  ·simp at h
 case makeSlice ty l c =>
  split at h
  ·rename_i e he
   split at h
   ·rename_i n hn
    split at h
    ·rename_i ag ha
     split at h
     ·rename_i by_ hby
      split at h
      ·rename_i z hz
       split at h
       ·rename_i hk
        simp only [Bool.and_eq_true,beq_iff_eq] at hk
        unfold N2 at h
        obtain ⟨len,h1,h2⟩ := Option.bind_eq_some_iff.1 h
        obtain ⟨cap,h3,h4⟩ := Option.bind_eq_some_iff.1 h2
        simp only [he,hn,ha,hby,hz,Option.bind_some,h1,h3]
        split at h4
        ·rename_i hc
         rw [if_pos ⟨hc.1,hc.2.1,hc.2.2,hk.1,hk.2⟩]
         exact h4
        ·simp at h4
       ·simp at h
      ·simp at h
     ·simp at h
    ·simp at h
   ·simp at h
  ·simp at h
 case makeMap ty r =>
  split at h
  ·rename_i hu
   simp only [hu]
   split at h
   ·exact h
   ·simp at h
  ·simp at h
 case store ty p x =>
  split at h
  ·rename_i n hn; simp only [hn,Option.bind_some]; exact h
  ·simp at h
 case convert src dst x =>
  split at h
  ·rename_i hs
   rw [if_pos hs]
   split at h
   ·rename_i e hd
    split at h
    ·rename_i he
     unfold LM at h
     split at h
     ·rename_i s hx; rw [hx,hd]; simp only [he]; exact h
     ·simp at h
    ·simp at h
   ·simp at h
  ·simp at h
 case mapUpdate ty m k x =>
  split at h
  ·rename_i kt et hu
   exact Qc0 hu h
  ·simp at h
 case insert ty m k x =>
  split at h
  ·rename_i kt et hu
   exact Qc0 hu h
  ·simp at h
 case slice ty x lo hi mx =>
  split at h
  ·rename_i len e hu
   split at h
   ·rename_i n hn
    split at h
    ·rename_i ag hag
     simp only [hu,hn,hag,Option.bind_some]
     exact h
    ·simp at h
   ·simp at h
  ·simp at h
 case call c =>
  split at h
  ·rename_i hc
   split at h
   ·rename_i ty x q1 q2
    split at h
    ·rename_i e he
     split at h
     ·rename_i n hn
      split at h
      ·rename_i z hz
       simp only [hc,q1,q2,he,hn,hz,Option.bind_some]
       exact h
      ·simp at h
     ·simp at h
    ·simp at h
   ·simp at h
  ·rename_i hc
   split at h
   ·rename_i ty d x q1 q2 q3
    split at h
    ·rename_i e he
     split at h
     ·rename_i n hn
      simp only [hc,q1,q2,q3,he,hn,Option.bind_some]
      exact h
     ·simp at h
    ·simp at h
   ·simp at h
  ·rename_i hc
   split at h
   ·rename_i ty ty2 s x q1 q2 q3 q4
    split at h
    ·rename_i e he
     split at h
     ·rename_i n hn
      split at h
      ·rename_i ag ha
       split at h
       ·rename_i by_ hby
        split at h
        ·rename_i z hz
         split at h
         ·rename_i hk
          simp only [Bool.and_eq_true,beq_iff_eq] at hk
          have hng : ¬ (z.cells.length ≠ n ∨ ZI z.cells = false) := by
           rw [hk.2]; simp [hk.1]
          simp only [hc,q1,q2,q3,q4,he,hn,ha,hby,hz,Option.bind_some]
          rw [if_neg hng]
          split at h
          ·rename_i hu2; simp only [hu2]; exact h
          ·rename_i hu2
           simp only [hu2]
           unfold Lm at h
           split at h
           ·rename_i b hx; rw [hx]; exact h
           ·simp at h
          ·simp at h
         ·simp at h
        ·simp at h
       ·simp at h
      ·simp at h
     ·simp at h
    ·simp at h
   ·simp at h
  ·simp at h
end Go.Ev
end
section
namespace Go.Ev
variable {α : Type} {β : Type}
def VT (v : V) (a b : Option α) : Option α :=
 match v with
 | .bool true => a
 | .bool false => b
 | _ => none
def Ki (o : Out) (f g : V → Option α) : Option α :=
 match o with
 | .ret v => f v
 | .pan v => g v
def WS (v : V) (want : Bool) (a b : Option α) : Option α :=
 match v with
 | .bool c => if c == want then a else b
 | .tup _ => b
 | _ => none
def YO (ops : List Oper) (t : List V) (o : Oper) (a b : Option α) : Option α :=
 match o.guard with
 | none => a
 | some (j,want) => match (ops[j]?).bind (·.dst) with
  | none => b
  | some d => WS (t.getD d .junk) want a b
def chk (b : Bool) (a : Option α) : Option α :=
 match b with
 | true => a
 | false => none
def BB (x : Option V) (f : V → Bool) : Bool :=
 match x with
 | some v => f v
 | none => false
theorem JZ {ops : List Oper} {t : List V} {o : Oper} {a b : Option α} {x : α} (h : YO ops t o a b = some x) : ∃ w,Yq ops t o = some w ∧ (if w then a else b) = some x := by
 unfold YO at h
 unfold Yq
 split at h
 ·rename_i hg; simp [hg,h]
 ·rename_i j want hg
  simp only [hg]
  split at h
  ·rename_i hd; simp [hd,h]
  ·rename_i d hd
   simp only [hd]
   generalize t.getD d .junk = y at h ⊢
   cases y with
   | bool c => exact ⟨c == want,rfl,h⟩
   | tup vs => exact ⟨false,rfl,h⟩
   | _ => simp [WS] at h
theorem VD {b : Bool} {a : Option α} {x : α} (h : chk b a = some x) : b = true ∧ a = some x := by cases b <;> simp_all [chk]
theorem RH {x : Option V} {f : V → Bool} (h : BB x f = true) : ∃ v,x = some v ∧ f v = true := by cases x <;> simp_all [BB]
abbrev Ds := List (FuncId × List V)
abbrev Ts := List (Nat × V)
abbrev KC (α : Type) := Ex → Ts → Qa → Ds → Option α
def J8 (i : Nat) : Ts → V
 | [] => .junk
 | (j,v) :: r => match Nat.beq i j with
  | true => v
  | false => J8 i r
def UD (a : Ts) : Nat → Nat → List V
 | _,0 => []
 | i,n + 1 => J8 i a :: UD a (i + 1) n
def tl (n : Nat) (a : Ts) : List V := UD a 0 n
def ZU (a : Ts) (dst : Option Tmp) (v : V) : Ts :=
 match dst with
 | some d => (d,v) :: a
 | none => a
def Mb (a : Ts) : List Nat → Ts
 | [] => []
 | i :: l => (i,J8 i a) :: Mb a l
def Qd (ks : Ks) (c : Code) (a : Ts) : Ts :=
 match Lx c with
 | none => a
 | some i => match Pk i ks with
  | none => a
  | some l => Mb a l
def VG : List Oper → Ts → Ts
 | [],a => a
 | o :: r,a => VG r (ZU a o.dst .junk)
theorem QbO (a : Ts) : ∀ (n i k : Nat),(UD a i n)[k]? = if k < n then some (J8 (i + k) a) else none
 | 0,i,k => by simp [UD]
 | n + 1,i,0 => by simp [UD]
 | n + 1,i,k + 1 => by
  simp only [UD,List.getElem?_cons_succ,QbO a n (i + 1) k,Nat.add_lt_add_iff_right]
  rw [show i + 1 + k = i + (k + 1) by omega]
theorem MY (n : Nat) (a : Ts) (k : Nat) : (tl n a)[k]? = if k < n then some (J8 k a) else none := by rw [tl,QbO]; simp
theorem Qi8 (i j : Nat) : Nat.beq i j = decide (i = j) := by
 by_cases h : i = j
 ·subst h; simp
 ·simp only [h,decide_false]
  cases hb : Nat.beq i j with
  | false => rfl
  | true => exact absurd (Nat.eq_of_beq_eq_true hb) h
theorem AM (i j : Nat) (v : V) (a : Ts) : J8 i ((j,v) :: a) = if i = j then v else J8 i a := by
 simp only [J8,Qi8]
 by_cases h : i = j <;> simp [h]
theorem Z5 (n : Nat) (a : Ts) (dst : Option Tmp) (v : V) : Z8 (tl n a) dst v = tl n (ZU a dst v) := by
 cases dst with
 | none => rfl
 | some d =>
  refine List.ext_getElem? fun k => ?_
  simp only [Z8,ZU,List.getElem?_set,MY,AM]
  by_cases h : d = k
  ·subst h
   have hl : (tl n a).length = n := by
    have : ∀ (n i : Nat),(UD a i n).length = n := fun n => by induction n with | zero => intro i; rfl | succ n ih => intro i; simp [UD,ih]
    exact this n 0
   simp only [if_true,hl]
  ·rw [if_neg h,if_neg (Ne.symm h)]
theorem Qgc (a : Ts) (i : Nat) : ∀ l : List Nat,J8 i (Mb a l) = if l.contains i then J8 i a else .junk
 | [] => by simp [Mb,J8]
 | j :: l => by
  rw [Mb,AM,Qgc a i l]
  by_cases h : i = j
  ·subst h; simp
  ·simp [h]
theorem Re (n : Nat) (ks : Ks) (c : Code) (a : Ts) : BS ks c (tl n a) = tl n (Qd ks c a) := by
 unfold BS Qd
 cases Lx c with
 | none => rfl
 | some i =>
  cases h0 : Pk i ks with
  | none => simp only [h0]
  | some l =>
   simp only [h0]
   refine List.ext_getElem? fun k => ?_
   rw [XO,MY,MY,Qgc]
   by_cases h : k < n
   ·simp [h]
   ·simp [h]
theorem Ar (n : Nat) : ∀ (l : List Oper) (a : Ts),forget l (tl n a) = tl n (VG l a)
 | [],a => rfl
 | o :: r,a => by rw [forget,VG,Z5,Ar n r]
section
variable (P : Program) (base : Nat) (own : Bool) (call : Qh) (ops : List Oper) (n : Nat) (k : KC α)
def KG : List Oper → Ts → Qa → Ds → Option α
 | [],t,H,d => k .normal t H d
 | o :: rest,t,H,d => match kindOf P own ops o.dst o.op with
  | .defer => if o.guard.isNone then (Nq (tl n t) o.op).bind fun r => KG rest (ZU t o.dst (.tup [])) H (r :: d) else none
  | .pure => (YO ops (tl n t) o (Wp P (tl n t) o.op) (some (.tup []))).bind fun v => KG rest (ZU t o.dst v) H d
  | .lit => (YO ops (tl n t) o (Vj P (tl n t) o.op) (some (.tup []))).bind fun v => KG rest (ZU t o.dst v) H d
  | .load => (YO ops (tl n t) o (Wa P (tl n t) H o.op) (some (.tup []))).bind fun v => KG rest (ZU t o.dst v) H d
  | .eff | .fresh => (YO ops (tl n t) o (U5 P base (tl n t) H o.op) (some (.tup [],H))).bind fun r => KG rest (ZU t o.dst r.1) r.2 d
  | .call => (YO ops (tl n t) o ((WQ (tl n t) o.op).bind fun r => call r.1 r.2 H) (some (.ret (.tup []),H))).bind fun r => Ki r.1 (fun v => KG rest (ZU t o.dst v) r.2 d) (fun v => k (.pan v) t r.2 d)
  | .panic => (YO ops (tl n t) o ((Wi (tl n t) o.op).map .pan) (some (.ret (.tup [])))).bind fun r => Ki r (fun v => KG rest (ZU t o.dst v) H d) (fun v => k (.pan v) t H d)
  | .none => none
def Kr (ms : List Nat) (p : Nat) (es : List (Nat × Qa)) : Nat → List Oper → Ts → Qa → Bool
 | _,[],_,_ => true
 | i,o :: rest,t,H =>
  if ahead ms i p then Kr ms p es (i + 1) rest t H else
  match kindOf P own ops o.dst o.op with
  | .pure => BB (YO ops (tl n t) o (Wp P (tl n t) o.op) (some (.tup []))) fun v => Kr ms p es (i + 1) rest (ZU t o.dst v) H
  | .lit => BB (YO ops (tl n t) o (Vj P (tl n t) o.op) (some (.tup []))) fun v => Kr ms p es (i + 1) rest (ZU t o.dst v) H
  | .load => BB (YO ops (tl n t) o ((Wa P (tl n t) H o.op).bind fun v => chk (Jo P ms i o.op (tl n t) v es) (some v)) (some (.tup []))) fun v => Kr ms p es (i + 1) rest (ZU t o.dst v) H
  | _ => false
def later (ms : List Nat) (i : Nat) : Bool := Vs (fun j oj => decide (j ≤ i) || !Je (kindOf P own ops oj.dst oj.op) || ahead ms j i) 0 ops
def K0 (t0 : Ts) (ms : List Nat) : Nat → List Oper → List Ld → List (Nat × Qa) → Ts → Qa → Ds → Option α
 | _,[],_,_,t,H,d => k .normal t H d
 | i,o :: rest,ls,es,t,H,d => match kindOf P own ops o.dst o.op with
  | .pure => (YO ops (tl n t) o (Wp P (tl n t) o.op) (some (.tup []))).bind fun v => K0 t0 ms (i + 1) rest ls es (ZU t o.dst v) H d
  | .lit => (YO ops (tl n t) o (Vj P (tl n t) o.op) (some (.tup []))).bind fun v => K0 t0 ms (i + 1) rest ls es (ZU t o.dst v) H d
  | .load => if later P own ops ms i = true then (YO ops (tl n t) o ((Wa P (tl n t) H o.op).bind fun v => chk (Jo P ms i o.op (tl n t) v es) (some v)) (some (.tup []))).bind fun v => K0 t0 ms (i + 1) rest ls es (ZU t o.dst v) H d
    else if o.guard.isNone then (Wa P (tl n t) H o.op).bind fun v => chk (Jo P ms i o.op (tl n t) v es) (K0 t0 ms (i + 1) rest ({ i,op := o.op,t := tl n t,v } :: ls) es (ZU t o.dst v) H d)
    else none
  | .eff | .fresh => (YO ops (tl n t) o (U5 P base (tl n t) H o.op) (some (.tup [],H))).bind fun r => chk (Kp P ms i r.2 ls) (K0 t0 ms (i + 1) rest ls ((i,H) :: es) (ZU t o.dst r.1) r.2 d)
  | .call => (YO ops (tl n t) o ((WQ (tl n t) o.op).bind fun r => call r.1 r.2 H) (some (.ret (.tup []),H))).bind fun r => Ki r.1
    (fun v => chk (Kp P ms i r.2 ls) (K0 t0 ms (i + 1) rest ls ((i,H) :: es) (ZU t o.dst v) r.2 d))
    (fun v => chk (Kr P own ops n ms i es (i + 1) rest t H) (k (.pan v) (VG ops t0) r.2 d))
  | .panic => (YO ops (tl n t) o ((Wi (tl n t) o.op).map .pan) (some (.ret (.tup [])))).bind fun r => Ki r
    (fun v => K0 t0 ms (i + 1) rest ls es (ZU t o.dst v) H d)
    (fun v => chk (Kr P own ops n ms i es (i + 1) rest t H) (k (.pan v) (VG ops t0) H d))
  | .defer | .none => none
end
def iter (f : Ts → Qa → Ds → (Ts → Qa → Ds → Option α) → Option α) : Nat → Ts → Qa → Ds → Option α
 | 0,_,_,_ => none
 | n + 1,t,H,d => f t H d (iter f n)
def Qe (k1 k : KC α) : KC α := fun e t H d =>
 match e with
 | .normal => k1 .normal t H d
 | e => k e t H d
def Qc (id : Nat) (k : KC α) : KC α := fun e t H d =>
 match e with
 | .exit j => if j = id then k .normal t H d else k (.exit j) t H d
 | e => k e t H d
def Qf (ks : Ks) (b : Code) (again : Ts → Qa → Ds → Option α) (k : KC α) : KC α := fun e t H d =>
 match e with
 | .normal => again (Qd ks b t) H d
 | e => k e t H d
def kC (P : Program) (base : Nat) (own : Bool) (ks : Ks) (call : Qh) (n N : Nat) : Code → KC α → Ts → Qa → Ds → Option α
 | .skip,k,t,H,d | .label _,k,t,H,d => k .normal t H d
 | .region _ ops draw,k,t,H,d =>
  if draw then (if Wz P own ops.toList = true then K0 P base own call ops.toList n k t (Yv ops.toList []) 0 ops.toList [] [] t H d else none)
  else KG P base own call ops.toList n k ops.toList t H d
 | .seq a b,k,t,H,d => kC P base own ks call n N a (Qe (fun _ t => kC P base own ks call n N b k (Qd ks b t)) k) t H d
 | .cond c a b,k,t,H,d => VT (env (tl n t) c) (kC P base own ks call n N a k t H d) (kC P base own ks call n N b k t H d)
 | .block id b,k,t,H,d => kC P base own ks call n N b (Qc id k) t H d
 | .loop b,k,t,H,d => iter (fun t H d again => kC P base own ks call n N b (Qf ks b again k) t H d) N (Qd ks b t) H d
 | .scope b,k,t,H,d => kC P base own ks call n N b k t H d
 | .exit id,k,t,H,d => k (.exit id) t H d
 | .ret,k,t,H,d => k .ret t H d
 | _,_,_,_,_ => none
section
variable {P : Program} {base : Nat} {own : Bool} {call : Qh} {ops : List Oper} {n : Nat} {k : KC α}
theorem Ju : ∀ (l : List Oper) {t : Ts} {H : Qa} {d : Ds} {x : α},KG P base own call ops n k l t H d = some x → ∃ e t' H' d',JS P base own call ops l { t := tl n t,H,d } = some (e,{ t := tl n t',H := H',d := d' }) ∧ k e t' H' d' = some x
 | [],t,H,d,x,h => ⟨.normal,_,_,_,rfl,h⟩
 | o :: rest,t,H,d,x,h => by
  simp only [KG] at h
  simp only [JS]
  split at h <;> rename_i hk
  ·split at h
   ·rename_i hg
    obtain ⟨r,h1,h2⟩ := Option.bind_eq_some_iff.1 h
    rw [if_pos hk,if_pos hg,h1]
    simp only [Z5]; exact Ju rest h2
   ·simp at h
  all_goals (try (simp at h; done))
  all_goals
   rw [if_neg (by rw [hk]; simp)]
   obtain ⟨r,h1,h2⟩ := Option.bind_eq_some_iff.1 h
   obtain ⟨b,hb,hv⟩ := JZ h1
   unfold Zn
   rw [hb]
   simp only [Option.bind_some]
  ·cases b with
   | true => simp only [if_true] at hv ⊢; rw [hk]; simp only [Fu hv,Option.map_some,Option.bind_some]; simp only [Z5]; exact Ju rest h2
   | false => simp at hv ⊢; subst hv; simp only [Z5]; exact Ju rest h2
  ·cases b with
   | true => simp only [if_true] at hv ⊢; rw [hk]; simp only [FU hv,Option.map_some,Option.bind_some]; simp only [Z5]; exact Ju rest h2
   | false => simp at hv ⊢; subst hv; simp only [Z5]; exact Ju rest h2
  ·cases b with
   | true => simp only [if_true] at hv ⊢; rw [hk]; simp only [BA hv,Option.map_some,Option.bind_some]; simp only [Z5]; exact Ju rest h2
   | false => simp at hv ⊢; subst hv; simp only [Z5]; exact Ju rest h2
  ·cases b with
   | true => simp only [if_true] at hv ⊢; rw [hk]; simp only [L8 hv,Option.map_some,Option.bind_some]; simp only [Z5]; exact Ju rest h2
   | false => simp at hv ⊢; subst hv; simp only [Z5]; exact Ju rest h2
  ·cases b with
   | true => simp only [if_true] at hv ⊢; rw [hk]; simp only [L8 hv,Option.map_some,Option.bind_some]; simp only [Z5]; exact Ju rest h2
   | false => simp at hv ⊢; subst hv; simp only [Z5]; exact Ju rest h2
  ·obtain ⟨r,H1⟩ := r
   cases b with
   | true =>
    simp only [if_true] at hv ⊢
    rw [hk]
    simp only [hv,Option.bind_some]
    cases r with
    | ret v => simp only [Z5]; exact Ju rest h2
    | pan v => exact ⟨_,_,_,_,rfl,h2⟩
   | false => simp at hv ⊢; obtain ⟨rfl,rfl⟩ := hv; simp only [Z5]; exact Ju rest h2
  ·cases b with
   | true =>
    simp only [if_true] at hv ⊢
    rw [hk]
    obtain ⟨v,hv1,rfl⟩ := Option.map_eq_some_iff.1 hv
    simp only [hv1,Option.map_some,Option.bind_some]
    exact ⟨_,_,_,_,rfl,h2⟩
   | false => simp at hv ⊢; subst hv; simp only [Z5]; exact Ju rest h2
theorem Va {ms : List Nat} {p : Nat} {es : List (Nat × Qa)} : ∀ (l : List Oper) {i : Nat} {t : Ts} {H : Qa},Kr P own ops n ms p es i l t H = true → JW P own ops ms p es i l (tl n t) H = true
 | [],i,t,H,h => rfl
 | o :: rest,i,t,H,h => by
  simp only [Kr] at h
  simp only [JW]
  split at h
  ·rename_i ha; rw [if_pos ha]; exact Va rest h
  ·rename_i ha
   rw [if_neg ha]
   split at h <;> rename_i hk
   ·obtain ⟨v,h1,h2⟩ := RH h
    obtain ⟨b,hb,hv⟩ := JZ h1
    rw [hb]
    cases b with
    | true => simp only [if_true] at hv ⊢; rw [hk]; simp only [Fu hv]; simp only [Z5]; exact Va rest h2
    | false => simp at hv ⊢; subst hv; simp only [Z5]; exact Va rest h2
   ·obtain ⟨v,h1,h2⟩ := RH h
    obtain ⟨b,hb,hv⟩ := JZ h1
    rw [hb]
    cases b with
    | true => simp only [if_true] at hv ⊢; rw [hk]; simp only [FU hv]; simp only [Z5]; exact Va rest h2
    | false => simp at hv ⊢; subst hv; simp only [Z5]; exact Va rest h2
   ·obtain ⟨v,h1,h2⟩ := RH h
    obtain ⟨b,hb,hv⟩ := JZ h1
    rw [hb]
    cases b with
    | true =>
     simp only [if_true] at hv ⊢
     rw [hk]
     obtain ⟨v',h3,h4⟩ := Option.bind_eq_some_iff.1 hv
     obtain ⟨h5,h6⟩ := VD h4
     injection h6 with h6; subst h6
     simp only [BA h3,h5,Bool.true_and]
     simp only [Z5]; exact Va rest h2
    | false => simp at hv ⊢; subst hv; simp only [Z5]; exact Va rest h2
   ·simp at h
theorem Au {ms : List Nat} {i : Nat} {op : Op} {t : List V} {v : V} : ∀ {es' es : List (Nat × Qa)},(∀ e ∈ es,e ∈ es') → Jo P ms i op t v es' = true → Jo P ms i op t v es = true := by
 intro es' es hs h
 have key : ∀ (l : List (Nat × Qa)),Jo P ms i op t v l = true ↔ ∀ e ∈ l,(ahead ms i e.1 || same (ZZ P t e.2 op) v) = true := by
  intro l
  induction l with
  | nil => simp [Jo]
  | cons x l ih =>
   obtain ⟨e,H⟩ := x
   simp only [Jo,Bool.and_eq_true,ih,List.forall_mem_cons]
 rw [key] at h ⊢
 exact fun e he => h e (hs e he)
theorem QlD {ms : List Nat} {j : Nat} {H : Qa} : ∀ (l : List Ld),Kp P ms j H l = true ↔ ∀ x ∈ l,(ahead ms j x.i || same (ZZ P x.t H x.op) x.v) = true := by
 intro l
 induction l with
 | nil => simp [Kp]
 | cons x l ih => simp only [Kp,Bool.and_eq_true,ih,List.forall_mem_cons]
end
end Go.Ev
end
section
namespace Go.Ev
variable {T : ZT}
variable {α : Type}
variable {P : Program} {base : Nat} {own : Bool} {call : Qh} {ops : List Oper} {n : Nat} {k : KC α}
theorem BK {ms : List Nat} {p : Nat} {es es' : List (Nat × Qa)} (hs : ∀ e ∈ es',e ∈ es) : ∀ (l : List Oper) {i : Nat} {t : List V} {H : Qa},JW P own ops ms p es i l t H = true → JW P own ops ms p es' i l t H = true
 | [],i,t,H,h => rfl
 | o :: rest,i,t,H,h => by
  simp only [JW] at h ⊢
  split at h
  ·rename_i ha; rw [if_pos ha]; exact BK hs rest h
  ·rename_i ha
   rw [if_neg ha]
   split at h
   ·exact BK hs rest h
   ·split at h
    ·split at h
     ·exact BK hs rest h
     ·simp at h
    ·split at h
     ·exact BK hs rest h
     ·simp at h
    ·split at h
     ·simp only [Bool.and_eq_true] at h ⊢
      exact ⟨Au hs h.1,BK hs rest h.2⟩
     ·simp at h
    ·simp at h
   ·simp at h
theorem JB {t0 : Ts} {ms : List Nat} : ∀ (rest : List Oper) (i : Nat) {ls ls' : List Ld} {es es' : List (Nat × Qa)} {t : Ts} {H : Qa} {d : Ds} {x : α},ops.drop i = rest →
  (∀ e ∈ es',e ∈ es) → (∀ l ∈ ls',l.i < i ∧ (l ∈ ls ∨ later P own ops ms l.i = true)) →
  K0 P base own call ops n k t0 ms i rest ls es t H d = some x → ∃ e t' H' d',Ko P base own (tl n t0) call ops ms i rest ls' es' { t := tl n t,H,d } = some (e,{ t := tl n t',H := H',d := d' }) ∧ k e t' H' d' = some x
 | [],i,ls,ls',es,es',t,H,d,x,hd,he,hl,h => ⟨.normal,_,_,_,rfl,h⟩
 | o :: rest,i,ls,ls',es,es',t,H,d,x,hd,he,hl,h => by
  have ho : ops[i]? = some o := by
   have := congrArg (fun l : List Oper => l[0]?) hd
   simpa using this
  have hd' : ops.drop (i + 1) = rest := by rw [← List.tail_drop,hd]; rfl
  have hl' : ∀ l ∈ ls',l.i < i + 1 ∧ (l ∈ ls ∨ later P own ops ms l.i = true) := fun l hh => ⟨by have := (hl l hh).1; omega,(hl l hh).2⟩
  have hlds : ∀ {H1 : Qa},Je (kindOf P own ops o.dst o.op) = true → Kp P ms i H1 ls = true → Kp P ms i H1 ls' = true := fun {H1} hi hh => by
   rw [QlD] at hh ⊢
   intro l hlm
   obtain ⟨h1,h2 | h2⟩ := hl l hlm
   ·exact hh l h2
   ·have := B7 h2 i o ho
    simp only [Nat.zero_add,hi,Bool.not_true,Bool.or_false,Bool.or_eq_true,decide_eq_true_eq] at this
    rcases this with h3 | h3
    ·omega
    ·simp [h3]
  simp only [K0] at h
  simp only [Ko]
  split at h <;> rename_i hk
  ·-- pure
   obtain ⟨v,h1,h2⟩ := Option.bind_eq_some_iff.1 h
   obtain ⟨b,hb,hv⟩ := JZ h1
   have e1 : Zn P base own call ops o (tl n t) H = some (.ret v,H) := by
    unfold Zn; rw [hb]
    cases b with
    | true => simp only [if_true] at hv; simp [hk,Fu hv]
    | false => simp at hv; simp [hv]
   have hk2 : (if b = true then kindOf P own ops o.dst o.op else .pure) = .pure := by cases b <;> simp [hk]
   rw [hb,e1]
   simp only [Option.bind_some,hk2]
   simp only [Z5]; exact JB rest (i + 1) hd' he hl' h2
  ·-- lit
   obtain ⟨v,h1,h2⟩ := Option.bind_eq_some_iff.1 h
   obtain ⟨b,hb,hv⟩ := JZ h1
   have e1 : Zn P base own call ops o (tl n t) H = some (.ret v,H) := by
    unfold Zn; rw [hb]
    cases b with
    | true => simp only [if_true] at hv; simp [hk,FU hv]
    | false => simp at hv; simp [hv]
   rw [hb,e1]
   simp only [Option.bind_some]
   cases b with
   | true => simp only [if_true,hk]; simp only [Z5]; exact JB rest (i + 1) hd' he hl' h2
   | false => simp only [Bool.false_eq_true,if_false]; simp only [Z5]; exact JB rest (i + 1) hd' he hl' h2
  ·-- load
   split at h
   ·rename_i hla
    obtain ⟨v,h1,h2⟩ := Option.bind_eq_some_iff.1 h
    obtain ⟨b,hb,hv⟩ := JZ h1
    cases b with
    | true =>
     simp only [if_true] at hv
     obtain ⟨v',h3,h4⟩ := Option.bind_eq_some_iff.1 hv
     obtain ⟨h5,h6⟩ := VD h4
     injection h6 with h6; subst h6
     have e1 : Zn P base own call ops o (tl n t) H = some (.ret v',H) := by
      unfold Zn; rw [hb]; simp [hk,BA h3]
     rw [hb,e1]
     simp only [Option.bind_some,if_true,hk]
     rw [if_pos (Au he h5)]
     simp only [Z5]
     refine JB rest (i + 1) hd' he (fun l hh => ?_) h2
     rcases List.mem_cons.1 hh with rfl | hh
     ·exact ⟨by simp,.inr hla⟩
     ·exact hl' l hh
    | false =>
     simp at hv; subst hv
     have e1 : Zn P base own call ops o (tl n t) H = some (.ret (.tup []),H) := by
      unfold Zn; rw [hb]; simp
     rw [hb,e1]
     simp only [Option.bind_some,Bool.false_eq_true,if_false]
     simp only [Z5]; exact JB rest (i + 1) hd' he hl' h2
   ·split at h
    ·rename_i hg
     obtain ⟨v,h1,h2⟩ := Option.bind_eq_some_iff.1 h
     obtain ⟨h3,h4⟩ := VD h2
     have hb : Yq ops (tl n t) o = some true := by
      have : o.guard = none := by simpa using hg
      simp [Yq,this]
     have e1 : Zn P base own call ops o (tl n t) H = some (.ret v,H) := by
      unfold Zn; rw [hb]; simp [hk,BA h1]
     rw [hb,e1]
     simp only [Option.bind_some,if_true,hk]
     rw [if_pos (Au he h3)]
     simp only [Z5]
     refine JB rest (i + 1) hd' he (fun l hh => ?_) h4
     rcases List.mem_cons.1 hh with rfl | hh
     ·exact ⟨by simp,.inl List.mem_cons_self⟩
     ·exact ⟨(hl' l hh).1,(hl' l hh).2.imp (List.mem_cons_of_mem _) id⟩
    ·simp at h
  all_goals (try (simp at h; done))
  ·-- eff
   obtain ⟨r,h1,h2⟩ := Option.bind_eq_some_iff.1 h
   obtain ⟨b,hb,hv⟩ := JZ h1
   obtain ⟨h3,h4⟩ := VD h2
   have h5 := hlds (by rw [hk]; rfl) h3
   obtain ⟨v,H1⟩ := r
   have e1 : Zn P base own call ops o (tl n t) H = some (.ret v,H1) := by
    unfold Zn; rw [hb]
    cases b with
    | true => simp only [if_true] at hv; simp [hk,L8 hv]
    | false => simp at hv; simp [hv]
   rw [hb,e1]
   simp only [Option.bind_some]
   cases b with
   | true =>
    simp only [if_true,hk]
    rw [if_pos h5]
    simp only [Z5]; exact JB rest (i + 1) hd' (fun e hh => (List.mem_cons.1 hh).elim (fun hh => hh ▸ List.mem_cons_self) fun hh => List.mem_cons_of_mem _ (he e hh)) hl' h4
   | false =>
    simp only [Bool.false_eq_true,if_false]
    simp only [Z5]; exact JB rest (i + 1) hd' (fun e hh => List.mem_cons_of_mem _ (he e hh)) hl' h4
  ·-- fresh
   obtain ⟨r,h1,h2⟩ := Option.bind_eq_some_iff.1 h
   obtain ⟨b,hb,hv⟩ := JZ h1
   obtain ⟨h3,h4⟩ := VD h2
   have h5 := hlds (by rw [hk]; rfl) h3
   obtain ⟨v,H1⟩ := r
   have e1 : Zn P base own call ops o (tl n t) H = some (.ret v,H1) := by
    unfold Zn; rw [hb]
    cases b with
    | true => simp only [if_true] at hv; simp [hk,L8 hv]
    | false => simp at hv; simp [hv]
   rw [hb,e1]
   simp only [Option.bind_some]
   cases b with
   | true =>
    simp only [if_true,hk]
    rw [if_pos h5]
    simp only [Z5]; exact JB rest (i + 1) hd' (fun e hh => (List.mem_cons.1 hh).elim (fun hh => hh ▸ List.mem_cons_self) fun hh => List.mem_cons_of_mem _ (he e hh)) hl' h4
   | false =>
    simp only [Bool.false_eq_true,if_false]
    simp only [Z5]; exact JB rest (i + 1) hd' (fun e hh => List.mem_cons_of_mem _ (he e hh)) hl' h4
  ·-- call
   obtain ⟨r,h1,h2⟩ := Option.bind_eq_some_iff.1 h
   obtain ⟨b,hb,hv⟩ := JZ h1
   obtain ⟨r,H1⟩ := r
   have e1 : Zn P base own call ops o (tl n t) H = some (r,H1) := by
    unfold Zn; rw [hb]
    cases b with
    | true => simp only [if_true] at hv; simp [hk,hv]
    | false => simp at hv; obtain ⟨rfl,rfl⟩ := hv; simp
   rw [hb,e1]
   simp only [Option.bind_some]
   cases r with
   | ret v =>
    simp only [Ki] at h2
    obtain ⟨h3,h4⟩ := VD h2
    have h5 := hlds (by rw [hk]; rfl) h3
    cases b with
    | true =>
     simp only [if_true,hk]
     rw [if_pos h5]
     simp only [Z5]; exact JB rest (i + 1) hd' (fun e hh => (List.mem_cons.1 hh).elim (fun hh => hh ▸ List.mem_cons_self) fun hh => List.mem_cons_of_mem _ (he e hh)) hl' h4
    | false =>
     simp only [Bool.false_eq_true,if_false]
     simp only [Z5]; exact JB rest (i + 1) hd' (fun e hh => List.mem_cons_of_mem _ (he e hh)) hl' h4
   | pan v =>
    simp only [Ki] at h2
    obtain ⟨h3,h4⟩ := VD h2
    simp only
    rw [if_pos (BK he _ (Va _ h3))]
    exact ⟨_,VG ops t0,_,_,by rw [Ar],h4⟩
  ·-- panic
   obtain ⟨r,h1,h2⟩ := Option.bind_eq_some_iff.1 h
   obtain ⟨b,hb,hv⟩ := JZ h1
   cases b with
   | true =>
    simp only [if_true] at hv
    obtain ⟨v,hv1,rfl⟩ := Option.map_eq_some_iff.1 hv
    have e1 : Zn P base own call ops o (tl n t) H = some (.pan v,H) := by
     unfold Zn; rw [hb]; simp [hk,hv1]
    rw [hb,e1]
    simp only [Ki] at h2
    obtain ⟨h3,h4⟩ := VD h2
    simp only [Option.bind_some]
    rw [if_pos (BK he _ (Va _ h3))]
    exact ⟨_,VG ops t0,_,_,by rw [Ar],h4⟩
   | false =>
    simp at hv; subst hv
    have e1 : Zn P base own call ops o (tl n t) H = some (.ret (.tup []),H) := by
     unfold Zn; rw [hb]; simp
    rw [hb,e1]
    simp only [Ki] at h2
    simp only [Option.bind_some,Bool.false_eq_true,if_false]
    simp only [Z5]; exact JB rest (i + 1) hd' he hl' h2
noncomputable def JK (P : Program) (call : Qh) : Nat → JL
 | 0 => fun _ _ _ _ _ => none
 | n + 1 => Ww P call (JK P call n)
def LB (a b : JL) : Prop := ∀ base own ks c st r,a base own ks c st = some r → b base own ks c st = some r
theorem KA {ks : Ks} {l1 l2 : JL} (hl : LB l1 l2) : ∀ (c : Code) {st : St} {r : Ex × St},evC P base own ks call l1 c st = some r → evC P base own ks call l2 c st = some r
 | .skip,st,r,h | .label _,st,r,h | .exit _,st,r,h | .ret,st,r,h => h
 | .region _ ops draw,st,r,h => h
 | .seq a b,st,r,h => by
  simp only [evC] at h ⊢
  obtain ⟨⟨e1,st1⟩,h1,h2⟩ := Option.bind_eq_some_iff.1 h
  rw [KA hl a h1]
  simp only [Option.bind_some]
  cases e1 with
  | normal => exact KA hl b h2
  | _ => exact h2
 | .cond c a b,st,r,h => by
  simp only [evC] at h ⊢
  split at h
  ·exact KA hl a h
  ·exact KA hl b h
  ·simp at h
 | .block id b,st,r,h => by
  simp only [evC] at h ⊢
  obtain ⟨q,h1,h2⟩ := Option.bind_eq_some_iff.1 h
  rw [KA hl b h1]
  exact h2
 | .loop b,st,r,h => hl _ _ _ _ _ _ h
 | .scope b,st,r,h => KA (ks := ks) hl b h
 | .goto _,st,r,h => by simp [evC] at h
 | .rangeFunc ..,st,r,h => by simp [evC] at h
theorem QkO {l1 l2 : JL} (hl : LB l1 l2) : LB (Ww P call l1) (Ww P call l2) := by
 intro base own ks c st r h
 unfold Ww at h ⊢
 obtain ⟨q,h1,h2⟩ := Option.bind_eq_some_iff.1 h
 rw [KA hl c h1]
 simp only [Option.bind_some]
 split at h2
 ·exact hl _ _ _ _ _ _ h2
 ·exact h2
theorem QeT : ∀ n,LB (JK P call n) (JK P call (n + 1))
 | 0 => fun _ _ _ _ _ _ h => by simp [JK] at h
 | n + 1 => QkO (QeT n)
theorem Us {n m : Nat} (h : n ≤ m) : LB (JK P call n) (JK P call m) := by
 induction h with
 | refl => exact fun _ _ _ _ _ _ h => h
 | step _ ih => exact fun _ _ _ _ _ _ h => QeT _ _ _ _ _ _ _ (ih _ _ _ _ _ _ h)
theorem DO (hcall : Yb T P call) (hmix : P.follows .mixedOrders = true) : ∀ n,KF T P (JK P call n)
 | 0 => fun _ _ _ _ _ _ _ h => by simp [JK] at h
 | n + 1 => Qel hcall (DO hcall hmix n) hmix
end Go.Ev
end
section
namespace Go.Ev
variable {T : ZT}
variable {P : Program}
def AH (vs : List V) : V :=
 match vs with
 | [v] => v
 | _ => .tup vs
def Vl {α : Type} (P : Program) (t : List V) (H : Qa) : List ResultVar → (List V → Option α) → Option α
 | [],k => k []
 | .tmp i :: rs,k => Vl P t H rs fun vs => k (t.getD i .junk :: vs)
 | .cell a ty :: rs,k => (V0 P { t,H,d := [] } (.cell a ty)).bind fun v => Vl P t H rs fun vs => k (v :: vs)
def Fl (keep : Bool) (base : Nat) (v : V) (H : Qa) : Option (Out × Qa) := some (.ret (Kd keep base v H).1,(Kd keep base v H).2)
def Ap (keep : Bool) (base : Nat) (v : V) (H : Qa) : Option (Out × Qa) := some (.pan (Kd keep base v H).1,(Kd keep base v H).2)
def Vy (P : Program) (dfr : Z3) (keep : Bool) (base n : Nat) (rs : List ResultVar) (t : Ts) : Ds → Option V → Qa → Option (Out × Qa)
 | [],none,H => Vl P (tl n t) H rs fun vs => Fl keep base (AH vs) H
 | [],some v,H => Ap keep base v H
 | d :: ds,m,H => (dfr d.1 d.2 m H).bind fun r => Vy P dfr keep base n rs t ds (if r.1 then none else m) r.2
def U6 : Nat → List V → Ts
 | _,[] => []
 | i,v :: l => (i,v) :: U6 (i + 1) l
theorem Qe2 : ∀ (l : List V) (i k : Nat),J8 k (U6 i l) = if i ≤ k ∧ k < i + l.length then l.getD (k - i) .junk else .junk
 | [],i,k => by simp [U6,J8]
 | v :: l,i,k => by
  rw [U6,AM,Qe2 l (i + 1) k]
  by_cases h : k = i
  ·subst h; simp
  ·rw [if_neg h]
   by_cases h2 : i + 1 ≤ k ∧ k < i + 1 + l.length
   ·rw [if_pos h2,if_pos (by simp; omega),show k - i = (k - (i + 1)) + 1 by omega]; simp
   ·rw [if_neg h2,if_neg (by simp; omega)]
theorem A9 {args : List V} {n : Nat} (h : args.length ≤ n) : tl n (U6 0 args) = args ++ List.replicate (n - args.length) .junk := by
 refine List.ext_getElem? fun k => ?_
 rw [MY,Qe2,List.getElem?_append,List.getElem?_replicate]
 simp only [Nat.zero_le,true_and,Nat.zero_add,Nat.sub_zero]
 by_cases h1 : k < args.length
 ·rw [if_pos (by omega),if_pos h1,if_pos h1]; simp [h1]
 ·rw [if_neg h1,if_neg h1]
  by_cases h2 : k < n
  ·rw [if_pos h2,if_pos (by omega)]
  ·rw [if_neg h2,if_neg (by omega)]
theorem Xt {α : Type} {t : List V} {H : Qa} : ∀ {rs : List ResultVar} {k : List V → Option α} {x : α},Vl P t H rs k = some x → ∃ vs,KL P { t,H,d := [] } rs = some vs ∧ k vs = some x
 | [],k,x,h => ⟨[],rfl,h⟩
 | .tmp i :: rs,k,x,h => by
  simp only [Vl] at h
  obtain ⟨vs,h1,h2⟩ := Xt (rs := rs) h
  exact ⟨_,by simp only [KL,V0,Option.bind_some]; rw [h1]; rfl,h2⟩
 | .cell a ty :: rs,k,x,h => by
  simp only [Vl] at h
  obtain ⟨v,h0,h⟩ := Option.bind_eq_some_iff.1 h
  obtain ⟨vs,h1,h2⟩ := Xt (rs := rs) h
  exact ⟨_,by simp only [KL]; rw [h0,h1]; rfl,h2⟩
theorem BZ {dfr : Z3} {keep : Bool} {base : Nat} {rs : List ResultVar} {n : Nat} {t : Ts} : ∀ {d : Ds} {m : Option V} {H : Qa} {x : Out × Qa},Vy P dfr keep base n rs t d m H = some x →
  ((KY dfr (fun H' => JC P { t := tl n t,H := H',d := [] } rs) d m H).bind fun o => match o.1 with
     | .ret v => let p := Kd keep base v o.2; some (Out.ret p.1,p.2)
     | .pan v => let p := Kd keep base v o.2; some (Out.pan p.1,p.2)) = some x
 | [],none,H,x,h => by
  simp only [Vy] at h
  obtain ⟨vs,h1,h2⟩ := Xt h
  simp only [KY,JC]
  rw [h1]
  simp only [Option.map_some,Option.bind_some]
  unfold AH at h2
  exact h2
 | [],some v,H,x,h => h
 | d :: ds,m,H,x,h => by
  simp only [Vy] at h
  obtain ⟨r,h1,h2⟩ := Option.bind_eq_some_iff.1 h
  simp only [KY]
  rw [h1]
  exact BZ h2
def MR : Qh := fun _ _ _ => none
def Qh.add (call : Qh) (f : FuncId) (g : List V → Qa → Option (Out × Qa)) : Qh := fun f' args H => if f' = f then g args H else call f' args H
theorem Qrq : Yb T P MR := fun f args H r H' h => by simp [MR] at h
theorem Yb.add {call : Qh} (h : Yb T P call) {f : FuncId} {g : List V → Qa → Option (Out × Qa)} (hg : Mod T P f g) : Yb T P (call.add f g) := by
 intro f' args H r H' hc
 unfold Qh.add at hc
 split at hc
 ·rename_i e; subst e; exact hg args H r H' hc
 ·exact h f' args H r H' hc
end Go.Ev
end
