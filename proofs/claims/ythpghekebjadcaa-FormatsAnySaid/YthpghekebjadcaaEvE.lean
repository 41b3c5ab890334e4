/- EvE: a part of the proof that each law of this seat answers true at every input. No condition. -/
import Derived.Test.YthpghekebjadcaaEvD
set_option linter.unusedVariables false
set_option linter.unusedSimpArgs false
section
namespace Go.Ev
def cAt : List Nat → Code → Code
 | [],c => c
 | i :: p,c => match c with
  | .seq a b => cAt p (if i = 0 then a else b)
  | .cond _ a b => cAt p (if i = 0 then a else b)
  | .block _ b | .loop b | .scope b => cAt p b
  | c => c
def ZK (fn : Func) : Code :=
 match fn.body with
 | some c => c
 | none => .skip
def K8 (H : Qa) (x : V) : Option (V × Qa) := newVar H x
def Uj (x : V) : Option V := some x
def Ro (t : TypeId) (x : V) : Option V := some (.iface t x)
def RL (f : FuncId) (cap : List V) : Option V := some (.fn f cap)
def RX (n : Nat) : Option V := some (.int .i64 n)
def BN (c a b : V) : Option V :=
 match c with
 | .bool true => some a
 | .bool false => some b
 | _ => none
def VB (z : List V) (pl : List (Nat × Nat)) (ps : List (Nat × V)) : Option V := (Zs (fun i => pl[i]?) z ps).map .agg
def Bz (z : List V) (n : Nat) (ps : List (Nat × V)) : Option V := (Zs (fun i => some (i * n,n)) z ps).map .agg
def Bg (x : V) : Option V :=
 match x with
 | .ptr i v o => some (.ptr i v o)
 | .fptr cs => some (.fptr cs)
 | _ => none
def YO : IntKind → Nat
 | .i8 => 0 | .i16 => 1 | .i32 => 2 | .i64 => 3 | .u8 => 4 | .u16 => 5 | .u32 => 6 | .u64 => 7
def Bl : Nat → IntKind
 | 0 => .i8 | 1 => .i16 | 2 => .i32 | 3 => .i64 | 4 => .u8 | 5 => .u16 | 6 => .u32 | _ => .u64
def Ub (n : Nat) (k : IntKind) (x y : V) : Option Bool :=
 match x,y with
 | .agg xs,.agg ys => if xs.length = n ∧ ys.length = n ∧ ZL k xs = true ∧ ZL k ys = true then some (Zw xs ys) else none
 | _,_ => none
def rEq (k : Nat) (x y : V) : Option Bool :=
 match k with
 | 0 => match x,y with
  | .bool a,.bool b => some (a == b)
  | _,_ => none
 | 1 => match x,y with
  | .nils,.nils => some true
  | .nils,.rs _ _ _ _ _ | .rs _ _ _ _ _,.nils => some false
  | .nils,.vs (_ :: _) | .vs (_ :: _),.nils => some false
  | _,_ => none
 | 2 => match x,y with
  | .nilptr,.nilptr => some true
  | .nilptr,.ptr _ _ _ | .ptr _ _ _,.nilptr | .nilptr,.fptr _ | .fptr _,.nilptr => some false
  | _,_ => none
 | 3 => match x,y with
  | .niface,.iface _ _ | .iface _ _,.niface => some false
  | _,_ => none
 | 4 => match x,y with
  | .nilmap,.nilmap => some true
  | .nilmap,.mapr _ | .mapr _,.nilmap => some false
  | _,_ => none
 | 5 => match x,y with
  | .nilfn,.nilfn => some true
  | .nilfn,.fn _ _ | .fn _ _,.nilfn => some false
  | _,_ => none
 | 6 => none
 | m + 7 => Ub (m / 8) (Bl (m % 8)) x y
def JI (e : Option Bool) (op : BinOp) (x y : V) : Option V :=
 match op with
 | .shl | .shr => match x,y with
  | .int k a,.int _ b => BW op k a b
  | _,_ => none
 | _ => match x,y with
  | .int k a,.int l b => if k = l then Jm op k a b else none
  | .str a,.str b => JW op a b
  | _,_ => match op with
   | .eql => e.map .bool
   | .neq => e.map fun b => .bool !b
   | _ => none
def KM (op : BinOp) (k : Nat) (x y : V) : Option V := JI (rEq k x y) op x y
def J3 (op : BinOp) (k : Nat) (x y : V) : Option V :=
 match KM op k x y with
 | some v => some v
 | none => none
def Mu (op : BinOp) (c : Bool) (a b : V) : Option V :=
 match a,b with
 | .niface,.niface => match c with
  | true => match op with
   | .eql => some (.bool true)
   | .neq => some (.bool false)
   | _ => none
  | false => none
 | _,_ => none
def VH (op : BinOp) (c : Bool) (x y : V) : Option V :=
 match KM op 3 x y with
 | some v => some v
 | none => Mu op c x y
def UM (k : IntKind) (x : V) : Option V :=
 match x with
 | .int _ n => some (.int k (k.wrap n))
 | _ => none
def Ua (x : V) : Option V :=
 match x with
 | .int _ n => some (.str (Utf8.encode n).data.toList)
 | .str s => some (.str s)
 | _ => none
def Uv (off : Nat) (ag : Bool) (n : Nat) (x : V) : Option V :=
 match x with
 | .agg cs => if off + n ≤ cs.length then Q3 ag n (cs.drop off) else none
 | _ => none
def UY (n : Nat) (x i : V) : Option V := (Q1 i).bind fun k => Jz n x k
def V8 (len n : Nat) (x i : V) : Option V := (Q1 i).bind fun k => if k < len then Yn x (k * n) else none
def Ut (x i : V) : Option V :=
 match x with
 | .str s => (Q1 i).bind fun k => (s[k]?).map fun b => .int .u8 b.toNat
 | _ => none
def Uf (len : Nat) (ag : Bool) (n : Nat) (x i : V) : Option V := (Q1 i).bind fun k =>
 match x with
 | .agg cs => if k < len then (if k * n + n ≤ cs.length then Q3 ag n (cs.drop (k * n)) else none) else none
 | _ => none
def BL (x : V) (i : Nat) : Option V :=
 match x with
 | .tup vs => vs[i]?
 | _ => none
def W9 (ty : TypeId) (x : V) : Option V :=
 match x with
 | .iface u v => if u = ty then some v else none
 | _ => none
def Vs (ty : TypeId) (z : V) (x : V) : Option V :=
 match x with
 | .iface u v => if u = ty then some (.tup [v,.bool true]) else some (.tup [z,.bool false])
 | .niface => some (.tup [z,.bool false])
 | _ => none
def BD (x : V) : Option V :=
 match x with
 | .str s => some (.int .i64 s.length)
 | _ => none
def RA (x : V) : Option V := (QS x).map fun n => .int .i64 n
def UU (O n : Nat) (H : Qa) (p x : V) : Option (V × Qa) := (Vb O n H p x).map fun H' => (.tup [],H')
def RN (H : Qa) (x : V) : Option V := (Q5 1 H x).bind fun cs => (bytesOf cs).map .str
def WJ (x : V) (H : Qa) : Option (V × Qa) :=
 match x with
 | .str s => rowOf H 1 false (Q2 s) s.length
 | _ => none
def VJ (len n : Nat) (ag : Bool) (cs : List V) (H : Qa) (ps : List (Nat × V)) : Option (V × Qa) :=
 (Zs (fun i => some (i * n,n)) cs ps).bind fun cs => rowOf H n ag cs len
def Uk (n : Nat) (ag : Bool) (by_ : Nat) (z : List V) (l c : V) (H : Qa) : Option (V × Qa) :=
 (Q1 l).bind fun len => (Q1 c).bind fun cap => if len = cap ∧ Z6 cap by_ = true ∧ len ≤ 9223372036854775807 then rowOf H n ag (Q7 len z) len else none
def KR (n len : Nat) (z : V) (ps : List (Nat × V)) : Option V :=
 if Jr n len ps = true then some (.vs (Ys (List.replicate len z) ps)) else none
def WI (O n by_ : Nat) (ag : Bool) (s x : V) (H : Qa) : Option (V × Qa) := (QS x).bind fun k => (Q5 n H x).bind fun new => YY O H n by_ ag s new k
def UO (O n by_ : Nat) (ag : Bool) (s x : V) (H : Qa) : Option (V × Qa) :=
 match x with
 | .str b => YY O H n by_ ag s (Q2 b) b.length
 | _ => none
def rFn (f : V) (args : List V) : Option (FuncId × List V) :=
 match f with
 | .fn g cap => some (g,args ++ cap)
 | _ => none
def Rw (x : V) : Option V :=
 match x with
 | .iface ty v => some (.iface ty v)
 | _ => none
def Zd (k : Nat) (v : V) : Bool :=
 match k,v with
 | 0,.int _ _ | 1,.str _ | 2,.bool _ => true
 | _,_ => false
def KU (kk : Nat) (z : V) (H : Qa) (m k : V) : Option V :=
 match Zd kk k with
 | true => (mapOf H m).bind fun es => (QW k es 0).bind fun r => match r with
  | some (_,v) => some v
  | none => some z
 | false => none
def VS (kk : Nat) (z : V) (H : Qa) (m k : V) : Option V :=
 match Zd kk k with
 | true => (mapOf H m).bind fun es => (QW k es 0).bind fun r => match r with
  | some (_,v) => some (.tup [v,.bool true])
  | none => some (.tup [z,.bool false])
 | false => none
def Rz (n len : Nat) (ag : Bool) (x : V) (lo hi mx : Option V) (H : Qa) : Option (V × Qa) := Bt H n len ag x lo hi mx
def BY (O n : Nat) (z : List V) (x : V) (H : Qa) : Option (V × Qa) := VM O H n z x
def RG (O n : Nat) (d x : V) (H : Qa) : Option (V × Qa) := (QS x).bind fun k => (Q5 n H x).bind fun new => copyV O H n new k d
variable {P : Program}
def J6 (P : Program) (ty : TypeId) : Nat :=
 match P.underlying ty with
 | some .bool => 0
 | some (.slice _) => 1
 | some (.pointer _) => 2
 | some (.interface _) => 3
 | some (.map _ _) => 4
 | some (.func _ _ _) => 5
 | some (.array n e) => match P.underlying e with
  | some (.int k) => match Qf P e,QB P e with
   | some 1,some false => n * 8 + YO k + 7
   | _,_ => 6
  | _ => 6
 | _ => 6
def Yo (P : Program) (t : List V) : Op → Option V
 | .move x | .assign x => Uj (env t x)
 | .pick c a b => BN (env t c) (env t a) (env t b)
 | .build ty parts => match P.underlying ty with
  | some (.struct fs) => match Qq P ty with
   | some z => match YK P fs.toList with
    | some pl => match Qi z.cells with
     | true => VB z.cells pl (QY t parts.toList)
     | false => none
    | none => none
   | none => none
  | some (.array _ e) => match Qq P ty with
   | some z => match Qf P e with
    | some n => match Qi z.cells with
     | true => Bz z.cells n (QY t parts.toList)
     | false => none
    | none => none
   | none => none
  | _ => none
 | .nilCheck x => Bg (env t x)
 | .binOp op ty x y _ => match J6 P ty with
  | 3 => VH op (Region.isConst x || Region.isConst y) (env t x) (env t y)
  | k => J3 op k (env t x) (env t y)
 | .unOp op _ x => vUn op (env t x)
 | .convert src dst x => match (P.underlying src).isSome with
  | true => match P.underlying dst with
   | some (.int k) => UM k (env t x)
   | some .string => Ua (env t x)
   | _ => none
  | false => none
 | .makeInterface ty x => match P.underlying ty with
  | some (.interface _) => none
  | some _ => Ro ty (env t x)
  | none => none
 | .makeFunc fn first cap => match fn with
  | .func f => match first.size with
   | 0 => RL f (QV t cap.toList)
   | _ => none
  | _ => none
 | .slice ty x lo hi mx => match P.underlying ty with
  | some .string => KV (env t x) (lo.map (env t)) (hi.map (env t)) (mx.map (env t))
  | some (.slice e) => match Qf P e with
   | some n => Wv n (env t x) (lo.map (env t)) (hi.map (env t)) (mx.map (env t))
   | none => none
  | _ => none
 | .fieldAddr ty x f => match Y1 P ty f with
  | some r => match Qf P r.2 with
   | some (_ + 1) => Yn (env t x) r.1
   | _ => none
  | none => none
 | .field ty x f => match Y1 P ty f with
  | some r => match QB P r.2 with
   | some ag => match Qf P r.2 with
    | some n => Uv r.1 ag n (env t x)
    | none => none
   | none => none
  | none => none
 | .indexAddr ty x i => match P.underlying ty with
  | some (.slice e) => match Qf P e with
   | some n => UY n (env t x) (env t i)
   | none => none
  | some (.array len e) => match Qf P e with
   | some (n + 1) => V8 len (n + 1) (env t x) (env t i)
   | _ => none
  | _ => none
 | .index ty x i => match P.underlying ty with
  | some .string => Ut (env t x) (env t i)
  | some (.array len e) => match QB P e with
   | some ag => match Qf P e with
    | some n => Uf len ag n (env t x) (env t i)
    | none => none
   | none => none
  | _ => none
 | .extract x i => BL (env t x) i
 | .typeAssert x _ ty ok => match P.underlying ty with
  | some (.interface _) => none
  | some _ => match ok with
   | true => match Qq P ty with
    | some z => Vs ty z (env t x)
    | none => none
   | false => W9 ty (env t x)
  | none => none
 | .call c => match c.callee with
  | .builtin .len => match c.argTypes[0]?,c.args[0]? with
   | some ty,some x => match P.underlying ty with
    | some .string => BD (env t x)
    | some (.slice _) => RA (env t x)
    | some (.array n _) => RX n
    | _ => none
   | _,_ => none
  | .builtin .min => Z5 Wz (QV t c.args.toList)
  | .builtin .max => Z5 Wj (QV t c.args.toList)
  | _ => none
 | _ => none
theorem Ni (k : IntKind) : YO k < 8 := by cases k <;> decide
theorem Fu (k : IntKind) : Bl (YO k) = k := by cases k <;> rfl
theorem EF (n : Nat) (k : IntKind) (x y : V) : rEq (n * 8 + YO k + 7) x y = Ub n k x y := by
 have h1 : (n * 8 + YO k) / 8 = n := by have := Ni k; omega
 have h2 : (n * 8 + YO k) % 8 = YO k := by have := Ni k; omega
 show Ub ((n * 8 + YO k) / 8) (Bl ((n * 8 + YO k) % 8)) x y = _
 rw [h1,h2,Fu]
theorem FG {ty : TypeId} {x y : V} {b : Bool} (h : rEq (J6 P ty) x y = some b) : vEq P ty x y = some b := by
 unfold J6 at h
 unfold vEq
 split at h
 case h_7 n e hu =>
  simp only [hu]
  split at h
  ·rename_i k he
   simp only [he]
   split at h
   ·rename_i hs ha
    rw [EF] at h
    unfold Ub at h
    split at h
    ·split at h
     ·rename_i hc
      simp only [hs,ha,hc,and_self,if_true]
      exact h
     ·simp at h
    ·simp at h
   ·simp [rEq] at h
  ·simp [rEq] at h
 all_goals (rename_i hu; simp only [hu])
 all_goals (try exact h)
 all_goals (simp [rEq] at h)
theorem Me (op : BinOp) (ty : TypeId) (x y : V) : JO P op ty x y = JI (vEq P ty x y) op x y := by
 cases op <;> rfl
theorem Da {e e' : Option Bool} (he : ∀ b,e = some b → e' = some b) {op : BinOp} {x y v : V} (h : JI e op x y = some v) : JI e' op x y = some v := by
 cases e with
 | some b => rw [he b rfl]; exact h
 | none =>
  revert h
  unfold JI
  split
  ·exact id
  ·exact id
  ·split
   ·exact id
   ·exact id
   ·split <;> simp
theorem NO {op : BinOp} {ty : TypeId} {x y v : V} (h : KM op (J6 P ty) x y = some v) : JO P op ty x y = some v := by
 rw [Me]
 exact Da (fun b hb => FG hb) h
theorem RJ {t : List V} {op : Op} {v : V} (h : Yo P t op = some v) : Qs P t op = some v := by
 cases op <;> simp only [Yo] at h <;> simp only [Qs] <;> (try (simp at h; done)) <;> (try exact h)
 case build ty parts =>
  split at h
  ·rename_i fs hu
   split at h
   ·rename_i z hz
    split at h
    ·rename_i pl hp
     split at h
     ·rename_i hs
      simp only [hz,hu,hp,hs,Option.bind_some,if_true]
      exact h
     ·simp at h
    ·simp at h
   ·simp at h
  ·rename_i n e hu
   split at h
   ·rename_i z hz
    split at h
    ·rename_i n hp
     split at h
     ·rename_i hs
      simp only [hz,hu,hp,hs,Option.bind_some,if_true]
      exact h
     ·simp at h
    ·simp at h
   ·simp at h
  ·simp at h
 case binOp op ty x y c =>
  split at h
  ·rename_i hk
   unfold VH at h
   split at h
   ·rename_i v' hv
    rw [← hk] at hv
    rw [NO hv]
    exact h
   ·rename_i hv
    have hu : ∃ m,P.underlying ty = some (.interface m) := by
     unfold J6 at hk
     split at hk <;> first
      | (rename_i hu; exact ⟨_,hu⟩)
      | (simp at hk; done)
      | (exfalso; revert hk; split <;> (try split) <;> simp)
    obtain ⟨m,hu⟩ := hu
    have hn : JO P op ty (env t x) (env t y) = none := by
     rw [Me]
     unfold KM at hv
     have : vEq P ty (env t x) (env t y) = rEq 3 (env t x) (env t y) := by
      unfold vEq; rw [hu]; rfl
     rw [this]; exact hv
    rw [hn]
    unfold Mu at h
    unfold Ru
    rw [hu]
    split at h
    ·rename_i h1 h2
     rw [h1,h2]
     split at h
     ·rename_i hc
      simp only [hc,if_true]
      exact h
     ·simp at h
    ·simp at h
  ·unfold J3 at h
   split at h
   ·rename_i v' hv
    rw [NO hv]
    exact h
   ·simp at h
 case makeFunc fn first cap =>
  split at h
  ·split at h
   ·rename_i hs
    simp only [hs,if_true]; exact h
   ·simp at h
  ·simp at h
 case convert src dst x =>
  split at h
  ·rename_i hs
   rw [if_pos hs]
   split at h
   ·rename_i k hu
    unfold UM at h
    split at h
    ·rename_i hx; rw [hx]; simp only [VV,hu]; exact h
    ·simp at h
   ·rename_i hu
    unfold Ua at h
    split at h
    ·rename_i hx; rw [hx]; simp only [VV,hu]; exact h
    ·rename_i hx; rw [hx]; simp only [hu]; exact h
    ·simp at h
   ·simp at h
  ·simp at h
 case slice ty x lo hi mx =>
  split at h
  ·rename_i hu; simp only [hu]; exact h
  ·rename_i e hu
   split at h
   ·rename_i n hn
    simp only [hu,hn,Option.bind_some]
    exact h
   ·simp at h
  ·simp at h
 case fieldAddr ty x f =>
  split at h
  ·rename_i r hf
   split at h
   ·rename_i n hn
    simp only [hf,hn,Option.bind_some,Nat.succ_pos,if_true]
    exact h
   ·simp at h
  ·simp at h
 case field ty x f =>
  split at h
  ·rename_i r hf
   split at h
   ·rename_i ag ha
    split at h
    ·rename_i n hn
     unfold Uv at h
     split at h
     ·rename_i cs hx
      simp only [hf,hx,Yx,ha,hn,Option.bind_some]
      exact h
     ·simp at h
    ·simp at h
   ·simp at h
  ·simp at h
 case indexAddr ty x i =>
  split at h
  ·rename_i e hu
   split at h
   ·rename_i n hn
    simp only [hu,hn,Option.bind_some]
    exact h
   ·simp at h
  ·rename_i len e hu
   split at h
   ·rename_i n hn
    simp only [hu,hn,Option.bind_some]
    unfold V8 at h
    obtain ⟨k,h1,h2⟩ := Option.bind_eq_some_iff.1 h
    rw [h1]
    simp only [Option.bind_some,Nat.succ_pos,and_true]
    exact h2
   ·simp at h
  ·simp at h
 case index ty x i =>
  split at h
  ·rename_i hu
   simp only [hu]
   unfold Ut at h
   split at h
   ·rename_i s hx; rw [hx]; exact h
   ·simp at h
  ·rename_i len e hu
   simp only [hu]
   split at h
   ·rename_i ag ha
    split at h
    ·rename_i n hn
     unfold Uf at h
     obtain ⟨k,h1,h2⟩ := Option.bind_eq_some_iff.1 h
     split at h2
     ·rename_i cs hx
      simp only [hn,h1,hx,Yx,ha,Option.bind_some]
      exact h2
     ·simp at h2
    ·simp at h
   ·simp at h
  ·simp at h
 case typeAssert x src ty ok =>
  split at h
  ·simp at h
  ·rename_i u hne hu
   rw [hu]
   cases u with
   | interface m => exact (hne m rfl).elim
   | _ =>
    split at h
    ·split at h
     ·rename_i z hz
      unfold Vs at h
      split at h
      ·rename_i u' v' hx
       rw [hx]
       simp only [hz,if_true,Option.map_some]
       exact h
      ·rename_i hx
       rw [hx]
       simp only [hz,if_true,Option.map_some]
       exact h
      ·simp at h
     ·simp at h
    ·unfold W9 at h
     split at h
     ·rename_i u' v' hx
      rw [hx]
      simp only [Bool.false_eq_true,if_false]
      exact h
     ·simp at h
  ·simp at h
end Go.Ev
end
section
namespace Go.Ev
variable {P : Program}
def YR (P : Program) (ty : TypeId) : Nat :=
 match P.underlying ty with
 | some (.int _) => 0
 | some .string => 1
 | some .bool => 2
 | _ => 9
def Yz (P : Program) (t : List V) (H : Qa) : Op → Option V
 | .load ty p => match QB P ty with
  | some ag => match Qf P ty with
   | some n => Ji ag n H (env t p)
   | none => none
  | none => none
 | .convert src dst x => match P.underlying src with
  | some (.slice e) => match P.underlying dst with
   | some .string => match P.underlying e with
    | some (.int .u8) => RN H (env t x)
    | _ => none
   | _ => none
  | _ => none
 | .lookup ty m k ok => match P.underlying ty with
  | some (.map kt et) => match Qq P et with
   | some z => match ok with
    | true => VS (YR P kt) z H (env t m) (env t k)
    | false => KU (YR P kt) z H (env t m) (env t k)
   | none => none
  | _ => none
 | _ => none
theorem Bh {kt : TypeId} {k : V} (h : Zd (YR P kt) k = true) : YW P kt k = true := by
 unfold YR at h
 split at h
 ·rename_i hu
  cases k with
  | int _ _ => simp only [YW,hu]
  | _ => simp [Zd] at h
 ·rename_i hu
  cases k with
  | str _ => simp only [YW,hu]
  | _ => simp [Zd] at h
 ·rename_i hu
  cases k with
  | bool _ => simp only [YW,hu]
  | _ => simp [Zd] at h
 ·cases k <;> simp [Zd] at h
theorem Kz {t : List V} {H : Qa} {op : Op} {v : V} (h : Yz P t H op = some v) : Qu P t H op = some v := by
 cases op <;> simp only [Yz] at h <;> simp only [Qu] <;> (try (simp at h; done))
 case load ty p =>
  split at h
  ·rename_i ag ha
   split at h
   ·rename_i n hn
    simp only [ha,hn,Option.bind_some]
    exact h
   ·simp at h
  ·simp at h
 case convert src dst x =>
  split at h
  ·rename_i e hs
   split at h
   ·rename_i hd
    split at h
    ·rename_i he
     simp only [hs,hd,he]
     exact h
    ·simp at h
   ·simp at h
  ·simp at h
 case lookup ty m k ok =>
  split at h
  ·rename_i kt et hu
   split at h
   ·rename_i z hz
    unfold Ry
    simp only [hu]
    split at h
    ·unfold VS at h
     split at h
     ·rename_i hk
      rw [if_pos (Bh hk)]
      obtain ⟨es,h1,h2⟩ := Option.bind_eq_some_iff.1 h
      obtain ⟨r,h3,h4⟩ := Option.bind_eq_some_iff.1 h2
      rw [h1]
      simp only [Option.bind_some]
      rw [h3]
      simp only [Option.bind_some,hz,Option.map_some,if_true]
      cases r with
      | none => exact h4
      | some p => exact h4
     ·simp at h
    ·unfold KU at h
     split at h
     ·rename_i hk
      rw [if_pos (Bh hk)]
      obtain ⟨es,h1,h2⟩ := Option.bind_eq_some_iff.1 h
      obtain ⟨r,h3,h4⟩ := Option.bind_eq_some_iff.1 h2
      rw [h1]
      simp only [Option.bind_some]
      rw [h3]
      simp only [Option.bind_some,hz,Option.map_some,Bool.false_eq_true,if_false]
      cases r with
      | none => exact h4
      | some p => exact h4
     ·simp at h
   ·simp at h
  ·simp at h
def Jo (P : Program) (t : List V) : Op → Option V
 | .buildSlice ty len parts => match QK P ty with
  | some e => match Qf P e with
   | some n => match Qq P e with
    | some z => match decide (len * n ≤ 16777216) && decide (0 < n) && (z.cells.length == n) && Qi z.cells && z.nrm.clean with
     | true => KR n len z.nrm (QY t parts.toList)
     | false => none
    | none => none
   | none => none
  | none => none
 | _ => none
theorem U7 {t : List V} {op : Op} {v : V} (h : Jo P t op = some v) : ZP P t op = some v := by
 cases op <;> simp only [Jo] at h <;> simp only [ZP] <;> (try (simp at h; done))
 case buildSlice ty len parts =>
  split at h
  ·rename_i e he
   split at h
   ·rename_i n hn
    split at h
    ·rename_i z hz
     split at h
     ·rename_i hk
      simp only [Bool.and_eq_true,decide_eq_true_eq,beq_iff_eq] at hk
      obtain ⟨⟨⟨⟨k1,k2⟩,k3⟩,k4⟩,k5⟩ := hk
      unfold KR at h
      split at h
      ·rename_i hp
       simp only [he,hn,hz,Option.bind_some]
       rw [if_pos ⟨k1,k2,k3,k4,k5,hp⟩]
       exact h
      ·simp at h
     ·simp at h
    ·simp at h
   ·simp at h
  ·simp at h
def Nf (H : Qa) : Option (V × Qa) := some (.mapr H.length,.map [] :: H)
def Kt (O kk : Nat) (H : Qa) (m k x : V) : Option (V × Qa) :=
 match Zd kk k with
 | true => match m with
  | .mapr i => match Qd H i with
   | some (.map es) => match fits O i x.maxRef with
    | true => (QW k es 0).map fun r => match r with
     | some (j,_) => (.tup [],Qm H i (.map (es.set j (k,x))))
     | none => (.tup [],Qm H i (.map (es ++ [(k,x)])))
    | false => none
   | _ => none
  | _ => none
 | false => none
theorem LJ {O : Nat} {ty kt et : TypeId} {H : Qa} {m k x : V} {v : V × Qa} (hu : P.underlying ty = some (.map kt et)) (h : Kt O (YR P kt) H m k x = some v) :
  (KF P O ty H m k x).map (fun H' => (V.tup [],H')) = some v := by
 unfold Kt at h
 split at h
 ·rename_i hk
  split at h
  ·rename_i i
   split at h
   ·rename_i es hg
    split at h
    ·rename_i hf
     obtain ⟨r,h1,h2⟩ := Option.map_eq_some_iff.1 h
     unfold KF
     simp only [hu]
     rw [if_pos (Bh hk)]
     simp only [hg]
     rw [if_pos hf,h1]
     cases r with
     | none => rw [← h2]; rfl
     | some p => rw [← h2]; rfl
    ·simp at h
   ·simp at h
  ·simp at h
 ·simp at h
def JP (P : Program) (O : Nat) (t : List V) (H : Qa) : Op → Option (V × Qa)
 | .alloc ty => match Qq P ty with
  | some z => K8 H z
  | none => none
 | .box _ x => K8 H (env t x)
 | .buildSlice ty len parts => match QK P ty with
  | some e => match Qf P e with
   | some n => match QB P e with
    | some ag => match Qq P e with
     | some z => match decide (len * n ≤ 16777216) && (z.cells.length == n) && Qi z.cells with
      | true => VJ len n ag (Q7 len z.cells) H (QY t parts.toList)
      | false => none
     | none => none
    | none => none
   | none => none
  | none => none
 | .makeSlice ty l c => match QK P ty with
  | some e => match Qf P e with
   | some n => match QB P e with
    | some ag => match ZY P e with
     | some by_ => match Qq P e with
      | some z => match (z.cells.length == n) && Qi z.cells with
       | true => Uk n ag by_ z.cells (env t l) (env t c) H
       | false => none
      | none => none
     | none => none
    | none => none
   | none => none
  | none => none
 | .makeMap ty r => match P.underlying ty with
  | some (.map _ _) => match r with
   | none => Nf H
   | some x => none
  | _ => none
 | .mapUpdate ty m k x | .insert ty m k x => match P.underlying ty with
  | some (.map kt _) => Kt O (YR P kt) H (env t m) (env t k) (env t x)
  | _ => none
 | .store ty p x => match Qf P ty with
  | some n => UU O n H (env t p) (env t x)
  | none => none
 | .convert src dst x => match (P.underlying src).isSome with
  | true => match P.underlying dst with
   | some (.slice e) => match P.underlying e with
    | some (.int .u8) => WJ (env t x) H
    | _ => none
   | _ => none
  | false => none
 | .slice ty x lo hi mx => match P.underlying ty with
  | some (.array len e) => match Qf P e with
   | some n => match QB P e with
    | some ag => Rz n len ag (env t x) (lo.map (env t)) (hi.map (env t)) (mx.map (env t)) H
    | none => none
   | none => none
  | _ => none
 | .call c => match c.callee with
  | .builtin .clear => match c.argTypes[0]?,c.args[0]? with
   | some ty,some x => match QK P ty with
    | some e => match Qf P e with
     | some n => match Qq P e with
      | some z => BY O n z.cells (env t x) H
      | none => none
     | none => none
    | none => none
   | _,_ => none
  | .builtin .copy => match c.argTypes[0]?,c.args[0]?,c.args[1]? with
   | some ty,some d,some x => match QK P ty with
    | some e => match Qf P e with
     | some n => RG O n (env t d) (env t x) H
     | none => none
    | none => none
   | _,_,_ => none
  | .builtin .append => match c.argTypes[0]?,c.argTypes[1]?,c.args[0]?,c.args[1]? with
   | some ty,some ty2,some s,some x => match QK P ty with
    | some e => match Qf P e with
     | some n => match QB P e with
      | some ag => match ZY P e with
       | some by_ => match Qq P e with
        | some z => match (z.cells.length == n) && Qi z.cells with
         | true => match P.underlying ty2 with
          | some (.slice _) => WI O n by_ ag (env t s) (env t x) H
          | some .string => UO O n by_ ag (env t s) (env t x) H
          | _ => none
         | false => none
        | none => none
       | none => none
      | none => none
     | none => none
    | none => none
   | _,_,_,_ => none
  | _ => none
 | _ => none
theorem Uw {O : Nat} {t : List V} {H : Qa} {op : Op} {v : V × Qa} (h : JP P O t H op = some v) : Qy P O t H op = some v := by
 cases op <;> simp only [JP] at h <;> simp only [Qy] <;> (try (simp at h; done)) <;> (try exact h)
 case alloc ty =>
  split at h
  ·rename_i z hz; simp only [hz,Option.bind_some]; exact h
  ·simp at h
 case buildSlice ty len parts =>
  split at h
  ·rename_i e he
   split at h
   ·rename_i n hn
    split at h
    ·rename_i ag ha
     split at h
     ·rename_i z hz
      split at h
      ·rename_i hk
       simp only [Bool.and_eq_true,decide_eq_true_eq,beq_iff_eq] at hk
       simp only [he,hn,ha,hz,Option.bind_some]
       rw [if_pos ⟨hk.1.1,hk.1.2,hk.2⟩]
       exact h
      ·simp at h
     ·simp at h
    ·simp at h
   ·simp at h
  ·simp at h
 case makeSlice ty l c =>
  split at h
  ·rename_i e he
   split at h
   ·rename_i n hn
    split at h
    ·rename_i ag ha
     split at h
     ·rename_i by_ hby
      split at h
      ·rename_i z hz
       split at h
       ·rename_i hk
        simp only [Bool.and_eq_true,beq_iff_eq] at hk
        unfold Uk at h
        obtain ⟨len,h1,h2⟩ := Option.bind_eq_some_iff.1 h
        obtain ⟨cap,h3,h4⟩ := Option.bind_eq_some_iff.1 h2
        simp only [he,hn,ha,hby,hz,Option.bind_some,h1,h3]
        split at h4
        ·rename_i hc
         rw [if_pos ⟨hc.1,hc.2.1,hc.2.2,hk.1,hk.2⟩]
         exact h4
        ·simp at h4
       ·simp at h
      ·simp at h
     ·simp at h
    ·simp at h
   ·simp at h
  ·simp at h
 case makeMap ty r =>
  split at h
  ·rename_i hu
   simp only [hu]
   split at h
   ·exact h
   ·simp at h
  ·simp at h
 case store ty p x =>
  split at h
  ·rename_i n hn; simp only [hn,Option.bind_some]; exact h
  ·simp at h
 case convert src dst x =>
  split at h
  ·rename_i hs
   rw [if_pos hs]
   split at h
   ·rename_i e hd
    split at h
    ·rename_i he
     unfold WJ at h
     split at h
     ·rename_i s hx; rw [hx,hd]; simp only [he]; exact h
     ·simp at h
    ·simp at h
   ·simp at h
  ·simp at h
 case mapUpdate ty m k x =>
  split at h
  ·rename_i kt et hu
   exact LJ hu h
  ·simp at h
 case insert ty m k x =>
  split at h
  ·rename_i kt et hu
   exact LJ hu h
  ·simp at h
 case slice ty x lo hi mx =>
  split at h
  ·rename_i len e hu
   split at h
   ·rename_i n hn
    split at h
    ·rename_i ag hag
     simp only [hu,hn,hag,Option.bind_some]
     exact h
    ·simp at h
   ·simp at h
  ·simp at h
 case call c =>
  split at h
  ·rename_i hc
   split at h
   ·rename_i ty x q1 q2
    split at h
    ·rename_i e he
     split at h
     ·rename_i n hn
      split at h
      ·rename_i z hz
       simp only [hc,q1,q2,he,hn,hz,Option.bind_some]
       exact h
      ·simp at h
     ·simp at h
    ·simp at h
   ·simp at h
  ·rename_i hc
   split at h
   ·rename_i ty d x q1 q2 q3
    split at h
    ·rename_i e he
     split at h
     ·rename_i n hn
      simp only [hc,q1,q2,q3,he,hn,Option.bind_some]
      exact h
     ·simp at h
    ·simp at h
   ·simp at h
  ·rename_i hc
   split at h
   ·rename_i ty ty2 s x q1 q2 q3 q4
    split at h
    ·rename_i e he
     split at h
     ·rename_i n hn
      split at h
      ·rename_i ag ha
       split at h
       ·rename_i by_ hby
        split at h
        ·rename_i z hz
         split at h
         ·rename_i hk
          simp only [Bool.and_eq_true,beq_iff_eq] at hk
          have hng : ¬ (z.cells.length ≠ n ∨ Qi z.cells = false) := by
           rw [hk.2]; simp [hk.1]
          simp only [hc,q1,q2,q3,q4,he,hn,ha,hby,hz,Option.bind_some]
          rw [if_neg hng]
          split at h
          ·rename_i hu2; simp only [hu2]; exact h
          ·rename_i hu2
           simp only [hu2]
           unfold UO at h
           split at h
           ·rename_i b hx; rw [hx]; exact h
           ·simp at h
          ·simp at h
         ·simp at h
        ·simp at h
       ·simp at h
      ·simp at h
     ·simp at h
    ·simp at h
   ·simp at h
  ·simp at h
end Go.Ev
end
section
namespace Go.Ev
variable {α : Type} {β : Type}
def K1 (v : V) (a b : Option α) : Option α :=
 match v with
 | .bool true => a
 | .bool false => b
 | _ => none
def ZD (o : Out) (f g : V → Option α) : Option α :=
 match o with
 | .ret v => f v
 | .pan v => g v
def Yc (v : V) (want : Bool) (a b : Option α) : Option α :=
 match v with
 | .bool c => if c == want then a else b
 | .tup _ => b
 | _ => none
def QR (ops : List Oper) (t : List V) (o : Oper) (a b : Option α) : Option α :=
 match o.guard with
 | none => a
 | some (j,want) => match (ops[j]?).bind (·.dst) with
  | none => b
  | some d => Yc (t.getD d .junk) want a b
def chk (b : Bool) (a : Option α) : Option α :=
 match b with
 | true => a
 | false => none
def JH (x : Option V) (f : V → Bool) : Bool :=
 match x with
 | some v => f v
 | none => false
theorem ZZ {ops : List Oper} {t : List V} {o : Oper} {a b : Option α} {x : α} (h : QR ops t o a b = some x) : ∃ w,QH ops t o = some w ∧ (if w then a else b) = some x := by
 unfold QR at h
 unfold QH
 split at h
 ·rename_i hg; simp [hg,h]
 ·rename_i j want hg
  simp only [hg]
  split at h
  ·rename_i hd; simp [hd,h]
  ·rename_i d hd
   simp only [hd]
   generalize t.getD d .junk = y at h ⊢
   cases y with
   | bool c => exact ⟨c == want,rfl,h⟩
   | tup vs => exact ⟨false,rfl,h⟩
   | _ => simp [Yc] at h
theorem YT {b : Bool} {a : Option α} {x : α} (h : chk b a = some x) : b = true ∧ a = some x := by cases b <;> simp_all [chk]
theorem J5 {x : Option V} {f : V → Bool} (h : JH x f = true) : ∃ v,x = some v ∧ f v = true := by cases x <;> simp_all [JH]
abbrev Ds := List (FuncId × List V)
abbrev Ts := List (Nat × V)
abbrev KC (α : Type) := Ex → Ts → Qa → Ds → Option α
def Zz (i : Nat) : Ts → V
 | [] => .junk
 | (j,v) :: r => match Nat.beq i j with
  | true => v
  | false => Zz i r
def Y3 (a : Ts) : Nat → Nat → List V
 | _,0 => []
 | i,n + 1 => Zz i a :: Y3 a (i + 1) n
def tl (n : Nat) (a : Ts) : List V := Y3 a 0 n
def QA (a : Ts) (dst : Option Tmp) (v : V) : Ts :=
 match dst with
 | some d => (d,v) :: a
 | none => a
def Vi (a : Ts) : List Nat → Ts
 | [] => []
 | i :: l => (i,Zz i a) :: Vi a l
def ZU (ks : Ks) (c : Code) (a : Ts) : Ts :=
 match KW c with
 | none => a
 | some i => match Vr i ks with
  | none => a
  | some l => Vi a l
def YQ : List Oper → Ts → Ts
 | [],a => a
 | o :: r,a => YQ r (QA a o.dst .junk)
theorem Lx (a : Ts) : ∀ (n i k : Nat),(Y3 a i n)[k]? = if k < n then some (Zz (i + k) a) else none
 | 0,i,k => by simp [Y3]
 | n + 1,i,0 => by simp [Y3]
 | n + 1,i,k + 1 => by
  simp only [Y3,List.getElem?_cons_succ,Lx a n (i + 1) k,Nat.add_lt_add_iff_right]
  rw [show i + 1 + k = i + (k + 1) by omega]
theorem Wm (n : Nat) (a : Ts) (k : Nat) : (tl n a)[k]? = if k < n then some (Zz k a) else none := by rw [tl,Lx]; simp
theorem Fe (i j : Nat) : Nat.beq i j = decide (i = j) := by
 by_cases h : i = j
 ·subst h; simp
 ·simp only [h,decide_false]
  cases hb : Nat.beq i j with
  | false => rfl
  | true => exact absurd (Nat.eq_of_beq_eq_true hb) h
theorem BP (i j : Nat) (v : V) (a : Ts) : Zz i ((j,v) :: a) = if i = j then v else Zz i a := by
 simp only [Zz,Fe]
 by_cases h : i = j <;> simp [h]
theorem QE (n : Nat) (a : Ts) (dst : Option Tmp) (v : V) : Qz (tl n a) dst v = tl n (QA a dst v) := by
 cases dst with
 | none => rfl
 | some d =>
  refine List.ext_getElem? fun k => ?_
  simp only [Qz,QA,List.getElem?_set,Wm,BP]
  by_cases h : d = k
  ·subst h
   have hl : (tl n a).length = n := by
    have : ∀ (n i : Nat),(Y3 a i n).length = n := fun n => by induction n with | zero => intro i; rfl | succ n ih => intro i; simp [Y3,ih]
    exact this n 0
   simp only [if_true,hl]
  ·rw [if_neg h,if_neg (Ne.symm h)]
theorem MM (a : Ts) (i : Nat) : ∀ l : List Nat,Zz i (Vi a l) = if l.contains i then Zz i a else .junk
 | [] => by simp [Vi,Zz]
 | j :: l => by
  rw [Vi,BP,MM a i l]
  by_cases h : i = j
  ·subst h; simp
  ·simp [h]
theorem BE (n : Nat) (ks : Ks) (c : Code) (a : Ts) : JR ks c (tl n a) = tl n (ZU ks c a) := by
 unfold JR ZU
 cases KW c with
 | none => rfl
 | some i =>
  cases h0 : Vr i ks with
  | none => simp only [h0]
  | some l =>
   simp only [h0]
   refine List.ext_getElem? fun k => ?_
   rw [Rj,Wm,Wm,MM]
   by_cases h : k < n
   ·simp [h]
   ·simp [h]
theorem RB (n : Nat) : ∀ (l : List Oper) (a : Ts),forget l (tl n a) = tl n (YQ l a)
 | [],a => rfl
 | o :: r,a => by rw [forget,YQ,QE,RB n r]
section
variable (P : Program) (O : Nat) (own : Bool) (call : Qc) (ops : List Oper) (n : Nat) (k : KC α)
def ZS : List Oper → Ts → Qa → Ds → Option α
 | [],t,H,d => k .normal t H d
 | o :: rest,t,H,d => match kindOf P own ops o.dst o.op with
  | .defer => if o.guard.isNone then (J0 (tl n t) o.op).bind fun r => ZS rest (QA t o.dst (.tup [])) H (r :: d) else none
  | .pure => (QR ops (tl n t) o (Yo P (tl n t) o.op) (some (.tup []))).bind fun v => ZS rest (QA t o.dst v) H d
  | .lit => (QR ops (tl n t) o (Jo P (tl n t) o.op) (some (.tup []))).bind fun v => ZS rest (QA t o.dst v) H d
  | .load => (QR ops (tl n t) o (Yz P (tl n t) H o.op) (some (.tup []))).bind fun v => ZS rest (QA t o.dst v) H d
  | .eff | .fresh => (QR ops (tl n t) o (JP P O (tl n t) H o.op) (some (.tup [],H))).bind fun r => ZS rest (QA t o.dst r.1) r.2 d
  | .call => (QR ops (tl n t) o ((Yl (tl n t) o.op).bind fun r => call r.1 r.2 H) (some (.ret (.tup []),H))).bind fun r => ZD r.1 (fun v => ZS rest (QA t o.dst v) r.2 d) (fun v => k (.pan v) t r.2 d)
  | .panic => (QR ops (tl n t) o ((Z0 (tl n t) o.op).map .pan) (some (.ret (.tup [])))).bind fun r => ZD r (fun v => ZS rest (QA t o.dst v) H d) (fun v => k (.pan v) t H d)
  | .none => none
def ZG (ms : List Nat) (p : Nat) (es : List (Nat × Qa)) : Nat → List Oper → Ts → Qa → Bool
 | _,[],_,_ => true
 | i,o :: rest,t,H =>
  if ahead ms i p then ZG ms p es (i + 1) rest t H else
  match kindOf P own ops o.dst o.op with
  | .pure => JH (QR ops (tl n t) o (Yo P (tl n t) o.op) (some (.tup []))) fun v => ZG ms p es (i + 1) rest (QA t o.dst v) H
  | .lit => JH (QR ops (tl n t) o (Jo P (tl n t) o.op) (some (.tup []))) fun v => ZG ms p es (i + 1) rest (QA t o.dst v) H
  | .load => JH (QR ops (tl n t) o ((Yz P (tl n t) H o.op).bind fun v => chk (Q8 P ms i o.op (tl n t) v es) (some v)) (some (.tup []))) fun v => ZG ms p es (i + 1) rest (QA t o.dst v) H
  | _ => false
def later (ms : List Nat) (i : Nat) : Bool := YJ (fun j oj => decide (j ≤ i) || !Q6 (kindOf P own ops oj.dst oj.op) || ahead ms j i) 0 ops
def ZM (t0 : Ts) (ms : List Nat) : Nat → List Oper → List Ld → List (Nat × Qa) → Ts → Qa → Ds → Option α
 | _,[],_,_,t,H,d => k .normal t H d
 | i,o :: rest,ls,es,t,H,d => match kindOf P own ops o.dst o.op with
  | .pure => (QR ops (tl n t) o (Yo P (tl n t) o.op) (some (.tup []))).bind fun v => ZM t0 ms (i + 1) rest ls es (QA t o.dst v) H d
  | .lit => (QR ops (tl n t) o (Jo P (tl n t) o.op) (some (.tup []))).bind fun v => ZM t0 ms (i + 1) rest ls es (QA t o.dst v) H d
  | .load => if later P own ops ms i = true then (QR ops (tl n t) o ((Yz P (tl n t) H o.op).bind fun v => chk (Q8 P ms i o.op (tl n t) v es) (some v)) (some (.tup []))).bind fun v => ZM t0 ms (i + 1) rest ls es (QA t o.dst v) H d
    else if o.guard.isNone then (Yz P (tl n t) H o.op).bind fun v => chk (Q8 P ms i o.op (tl n t) v es) (ZM t0 ms (i + 1) rest ({ i,op := o.op,t := tl n t,v } :: ls) es (QA t o.dst v) H d)
    else none
  | .eff | .fresh => (QR ops (tl n t) o (JP P O (tl n t) H o.op) (some (.tup [],H))).bind fun r => chk (ZA P ms i r.2 ls) (ZM t0 ms (i + 1) rest ls ((i,H) :: es) (QA t o.dst r.1) r.2 d)
  | .call => (QR ops (tl n t) o ((Yl (tl n t) o.op).bind fun r => call r.1 r.2 H) (some (.ret (.tup []),H))).bind fun r => ZD r.1
    (fun v => chk (ZA P ms i r.2 ls) (ZM t0 ms (i + 1) rest ls ((i,H) :: es) (QA t o.dst v) r.2 d))
    (fun v => chk (ZG P own ops n ms i es (i + 1) rest t H) (k (.pan v) (YQ ops t0) r.2 d))
  | .panic => (QR ops (tl n t) o ((Z0 (tl n t) o.op).map .pan) (some (.ret (.tup [])))).bind fun r => ZD r
    (fun v => ZM t0 ms (i + 1) rest ls es (QA t o.dst v) H d)
    (fun v => chk (ZG P own ops n ms i es (i + 1) rest t H) (k (.pan v) (YQ ops t0) H d))
  | .defer | .none => none
end
def iter (f : Ts → Qa → Ds → (Ts → Qa → Ds → Option α) → Option α) : Nat → Ts → Qa → Ds → Option α
 | 0,_,_,_ => none
 | n + 1,t,H,d => f t H d (iter f n)
def Y9 (k1 k : KC α) : KC α := fun e t H d =>
 match e with
 | .normal => k1 .normal t H d
 | e => k e t H d
def Yi (id : Nat) (k : KC α) : KC α := fun e t H d =>
 match e with
 | .exit j => if j = id then k .normal t H d else k (.exit j) t H d
 | e => k e t H d
def Zc (ks : Ks) (b : Code) (again : Ts → Qa → Ds → Option α) (k : KC α) : KC α := fun e t H d =>
 match e with
 | .normal => again (ZU ks b t) H d
 | e => k e t H d
def kC (P : Program) (O : Nat) (own : Bool) (ks : Ks) (call : Qc) (n N : Nat) : Code → KC α → Ts → Qa → Ds → Option α
 | .skip,k,t,H,d | .label _,k,t,H,d => k .normal t H d
 | .region _ ops draw,k,t,H,d =>
  if draw then (if YS P own ops.toList = true then ZM P O own call ops.toList n k t (QO ops.toList []) 0 ops.toList [] [] t H d else none)
  else ZS P O own call ops.toList n k ops.toList t H d
 | .seq a b,k,t,H,d => kC P O own ks call n N a (Y9 (fun _ t => kC P O own ks call n N b k (ZU ks b t)) k) t H d
 | .cond c a b,k,t,H,d => K1 (env (tl n t) c) (kC P O own ks call n N a k t H d) (kC P O own ks call n N b k t H d)
 | .block id b,k,t,H,d => kC P O own ks call n N b (Yi id k) t H d
 | .loop b,k,t,H,d => iter (fun t H d again => kC P O own ks call n N b (Zc ks b again k) t H d) N (ZU ks b t) H d
 | .scope b,k,t,H,d => kC P O own ks call n N b k t H d
 | .exit id,k,t,H,d => k (.exit id) t H d
 | .ret,k,t,H,d => k .ret t H d
 | _,_,_,_,_ => none
section
variable {P : Program} {O : Nat} {own : Bool} {call : Qc} {ops : List Oper} {n : Nat} {k : KC α}
theorem Zm : ∀ (l : List Oper) {t : Ts} {H : Qa} {d : Ds} {x : α},ZS P O own call ops n k l t H d = some x → ∃ e t' H' d',Zj P O own call ops l { t := tl n t,H,d } = some (e,{ t := tl n t',H := H',d := d' }) ∧ k e t' H' d' = some x
 | [],t,H,d,x,h => ⟨.normal,_,_,_,rfl,h⟩
 | o :: rest,t,H,d,x,h => by
  simp only [ZS] at h
  simp only [Zj]
  split at h <;> rename_i hk
  ·split at h
   ·rename_i hg
    obtain ⟨r,h1,h2⟩ := Option.bind_eq_some_iff.1 h
    rw [if_pos hk,if_pos hg,h1]
    simp only [QE]; exact Zm rest h2
   ·simp at h
  all_goals (try (simp at h; done))
  all_goals
   rw [if_neg (by rw [hk]; simp)]
   obtain ⟨r,h1,h2⟩ := Option.bind_eq_some_iff.1 h
   obtain ⟨b,hb,hv⟩ := ZZ h1
   unfold Ql
   rw [hb]
   simp only [Option.bind_some]
  ·cases b with
   | true => simp only [if_true] at hv ⊢; rw [hk]; simp only [RJ hv,Option.map_some,Option.bind_some]; simp only [QE]; exact Zm rest h2
   | false => simp at hv ⊢; subst hv; simp only [QE]; exact Zm rest h2
  ·cases b with
   | true => simp only [if_true] at hv ⊢; rw [hk]; simp only [U7 hv,Option.map_some,Option.bind_some]; simp only [QE]; exact Zm rest h2
   | false => simp at hv ⊢; subst hv; simp only [QE]; exact Zm rest h2
  ·cases b with
   | true => simp only [if_true] at hv ⊢; rw [hk]; simp only [Kz hv,Option.map_some,Option.bind_some]; simp only [QE]; exact Zm rest h2
   | false => simp at hv ⊢; subst hv; simp only [QE]; exact Zm rest h2
  ·cases b with
   | true => simp only [if_true] at hv ⊢; rw [hk]; simp only [Uw hv,Option.map_some,Option.bind_some]; simp only [QE]; exact Zm rest h2
   | false => simp at hv ⊢; subst hv; simp only [QE]; exact Zm rest h2
  ·cases b with
   | true => simp only [if_true] at hv ⊢; rw [hk]; simp only [Uw hv,Option.map_some,Option.bind_some]; simp only [QE]; exact Zm rest h2
   | false => simp at hv ⊢; subst hv; simp only [QE]; exact Zm rest h2
  ·obtain ⟨r,H1⟩ := r
   cases b with
   | true =>
    simp only [if_true] at hv ⊢
    rw [hk]
    simp only [hv,Option.bind_some]
    cases r with
    | ret v => simp only [QE]; exact Zm rest h2
    | pan v => exact ⟨_,_,_,_,rfl,h2⟩
   | false => simp at hv ⊢; obtain ⟨rfl,rfl⟩ := hv; simp only [QE]; exact Zm rest h2
  ·cases b with
   | true =>
    simp only [if_true] at hv ⊢
    rw [hk]
    obtain ⟨v,hv1,rfl⟩ := Option.map_eq_some_iff.1 hv
    simp only [hv1,Option.map_some,Option.bind_some]
    exact ⟨_,_,_,_,rfl,h2⟩
   | false => simp at hv ⊢; subst hv; simp only [QE]; exact Zm rest h2
theorem YD {ms : List Nat} {p : Nat} {es : List (Nat × Qa)} : ∀ (l : List Oper) {i : Nat} {t : Ts} {H : Qa},ZG P own ops n ms p es i l t H = true → Zr P own ops ms p es i l (tl n t) H = true
 | [],i,t,H,h => rfl
 | o :: rest,i,t,H,h => by
  simp only [ZG] at h
  simp only [Zr]
  split at h
  ·rename_i ha; rw [if_pos ha]; exact YD rest h
  ·rename_i ha
   rw [if_neg ha]
   split at h <;> rename_i hk
   ·obtain ⟨v,h1,h2⟩ := J5 h
    obtain ⟨b,hb,hv⟩ := ZZ h1
    rw [hb]
    cases b with
    | true => simp only [if_true] at hv ⊢; rw [hk]; simp only [RJ hv]; simp only [QE]; exact YD rest h2
    | false => simp at hv ⊢; subst hv; simp only [QE]; exact YD rest h2
   ·obtain ⟨v,h1,h2⟩ := J5 h
    obtain ⟨b,hb,hv⟩ := ZZ h1
    rw [hb]
    cases b with
    | true => simp only [if_true] at hv ⊢; rw [hk]; simp only [U7 hv]; simp only [QE]; exact YD rest h2
    | false => simp at hv ⊢; subst hv; simp only [QE]; exact YD rest h2
   ·obtain ⟨v,h1,h2⟩ := J5 h
    obtain ⟨b,hb,hv⟩ := ZZ h1
    rw [hb]
    cases b with
    | true =>
     simp only [if_true] at hv ⊢
     rw [hk]
     obtain ⟨v',h3,h4⟩ := Option.bind_eq_some_iff.1 hv
     obtain ⟨h5,h6⟩ := YT h4
     injection h6 with h6; subst h6
     simp only [Kz h3,h5,Bool.true_and]
     simp only [QE]; exact YD rest h2
    | false => simp at hv ⊢; subst hv; simp only [QE]; exact YD rest h2
   ·simp at h
theorem R7 {ms : List Nat} {i : Nat} {op : Op} {t : List V} {v : V} : ∀ {es' es : List (Nat × Qa)},(∀ e ∈ es,e ∈ es') → Q8 P ms i op t v es' = true → Q8 P ms i op t v es = true := by
 intro es' es hs h
 have key : ∀ (l : List (Nat × Qa)),Q8 P ms i op t v l = true ↔ ∀ e ∈ l,(ahead ms i e.1 || same (Qu P t e.2 op) v) = true := by
  intro l
  induction l with
  | nil => simp [Q8]
  | cons x l ih =>
   obtain ⟨e,H⟩ := x
   simp only [Q8,Bool.and_eq_true,ih,List.forall_mem_cons]
 rw [key] at h ⊢
 exact fun e he => h e (hs e he)
theorem EX {ms : List Nat} {j : Nat} {H : Qa} : ∀ (l : List Ld),ZA P ms j H l = true ↔ ∀ x ∈ l,(ahead ms j x.i || same (Qu P x.t H x.op) x.v) = true := by
 intro l
 induction l with
 | nil => simp [ZA]
 | cons x l ih => simp only [ZA,Bool.and_eq_true,ih,List.forall_mem_cons]
end
end Go.Ev
end
section
namespace Go.Ev
variable {T : Qt}
variable {α : Type}
variable {P : Program} {O : Nat} {own : Bool} {call : Qc} {ops : List Oper} {n : Nat} {k : KC α}
theorem Jv {ms : List Nat} {p : Nat} {es es' : List (Nat × Qa)} (hs : ∀ e ∈ es',e ∈ es) : ∀ (l : List Oper) {i : Nat} {t : List V} {H : Qa},Zr P own ops ms p es i l t H = true → Zr P own ops ms p es' i l t H = true
 | [],i,t,H,h => rfl
 | o :: rest,i,t,H,h => by
  simp only [Zr] at h ⊢
  split at h
  ·rename_i ha; rw [if_pos ha]; exact Jv hs rest h
  ·rename_i ha
   rw [if_neg ha]
   split at h
   ·exact Jv hs rest h
   ·split at h
    ·split at h
     ·exact Jv hs rest h
     ·simp at h
    ·split at h
     ·exact Jv hs rest h
     ·simp at h
    ·split at h
     ·simp only [Bool.and_eq_true] at h ⊢
      exact ⟨R7 hs h.1,Jv hs rest h.2⟩
     ·simp at h
    ·simp at h
   ·simp at h
theorem Zv {t0 : Ts} {ms : List Nat} : ∀ (rest : List Oper) (i : Nat) {ls ls' : List Ld} {es es' : List (Nat × Qa)} {t : Ts} {H : Qa} {d : Ds} {x : α},ops.drop i = rest →
  (∀ e ∈ es',e ∈ es) → (∀ l ∈ ls',l.i < i ∧ (l ∈ ls ∨ later P own ops ms l.i = true)) →
  ZM P O own call ops n k t0 ms i rest ls es t H d = some x → ∃ e t' H' d',ZB P O own (tl n t0) call ops ms i rest ls' es' { t := tl n t,H,d } = some (e,{ t := tl n t',H := H',d := d' }) ∧ k e t' H' d' = some x
 | [],i,ls,ls',es,es',t,H,d,x,hd,he,hl,h => ⟨.normal,_,_,_,rfl,h⟩
 | o :: rest,i,ls,ls',es,es',t,H,d,x,hd,he,hl,h => by
  have ho : ops[i]? = some o := by
   have := congrArg (fun l : List Oper => l[0]?) hd
   simpa using this
  have hd' : ops.drop (i + 1) = rest := by rw [← List.tail_drop,hd]; rfl
  have hl' : ∀ l ∈ ls',l.i < i + 1 ∧ (l ∈ ls ∨ later P own ops ms l.i = true) := fun l hh => ⟨by have := (hl l hh).1; omega,(hl l hh).2⟩
  have hlds : ∀ {H1 : Qa},Q6 (kindOf P own ops o.dst o.op) = true → ZA P ms i H1 ls = true → ZA P ms i H1 ls' = true := fun {H1} hi hh => by
   rw [EX] at hh ⊢
   intro l hlm
   obtain ⟨h1,h2 | h2⟩ := hl l hlm
   ·exact hh l h2
   ·have := JU h2 i o ho
    simp only [Nat.zero_add,hi,Bool.not_true,Bool.or_false,Bool.or_eq_true,decide_eq_true_eq] at this
    rcases this with h3 | h3
    ·omega
    ·simp [h3]
  simp only [ZM] at h
  simp only [ZB]
  split at h <;> rename_i hk
  ·-- pure
   obtain ⟨v,h1,h2⟩ := Option.bind_eq_some_iff.1 h
   obtain ⟨b,hb,hv⟩ := ZZ h1
   have e1 : Ql P O own call ops o (tl n t) H = some (.ret v,H) := by
    unfold Ql; rw [hb]
    cases b with
    | true => simp only [if_true] at hv; simp [hk,RJ hv]
    | false => simp at hv; simp [hv]
   have hk2 : (if b = true then kindOf P own ops o.dst o.op else .pure) = .pure := by cases b <;> simp [hk]
   rw [hb,e1]
   simp only [Option.bind_some,hk2]
   simp only [QE]; exact Zv rest (i + 1) hd' he hl' h2
  ·-- lit
   obtain ⟨v,h1,h2⟩ := Option.bind_eq_some_iff.1 h
   obtain ⟨b,hb,hv⟩ := ZZ h1
   have e1 : Ql P O own call ops o (tl n t) H = some (.ret v,H) := by
    unfold Ql; rw [hb]
    cases b with
    | true => simp only [if_true] at hv; simp [hk,U7 hv]
    | false => simp at hv; simp [hv]
   rw [hb,e1]
   simp only [Option.bind_some]
   cases b with
   | true => simp only [if_true,hk]; simp only [QE]; exact Zv rest (i + 1) hd' he hl' h2
   | false => simp only [Bool.false_eq_true,if_false]; simp only [QE]; exact Zv rest (i + 1) hd' he hl' h2
  ·-- load
   split at h
   ·rename_i hla
    obtain ⟨v,h1,h2⟩ := Option.bind_eq_some_iff.1 h
    obtain ⟨b,hb,hv⟩ := ZZ h1
    cases b with
    | true =>
     simp only [if_true] at hv
     obtain ⟨v',h3,h4⟩ := Option.bind_eq_some_iff.1 hv
     obtain ⟨h5,h6⟩ := YT h4
     injection h6 with h6; subst h6
     have e1 : Ql P O own call ops o (tl n t) H = some (.ret v',H) := by
      unfold Ql; rw [hb]; simp [hk,Kz h3]
     rw [hb,e1]
     simp only [Option.bind_some,if_true,hk]
     rw [if_pos (R7 he h5)]
     simp only [QE]
     refine Zv rest (i + 1) hd' he (fun l hh => ?_) h2
     rcases List.mem_cons.1 hh with rfl | hh
     ·exact ⟨by simp,.inr hla⟩
     ·exact hl' l hh
    | false =>
     simp at hv; subst hv
     have e1 : Ql P O own call ops o (tl n t) H = some (.ret (.tup []),H) := by
      unfold Ql; rw [hb]; simp
     rw [hb,e1]
     simp only [Option.bind_some,Bool.false_eq_true,if_false]
     simp only [QE]; exact Zv rest (i + 1) hd' he hl' h2
   ·split at h
    ·rename_i hg
     obtain ⟨v,h1,h2⟩ := Option.bind_eq_some_iff.1 h
     obtain ⟨h3,h4⟩ := YT h2
     have hb : QH ops (tl n t) o = some true := by
      have : o.guard = none := by simpa using hg
      simp [QH,this]
     have e1 : Ql P O own call ops o (tl n t) H = some (.ret v,H) := by
      unfold Ql; rw [hb]; simp [hk,Kz h1]
     rw [hb,e1]
     simp only [Option.bind_some,if_true,hk]
     rw [if_pos (R7 he h3)]
     simp only [QE]
     refine Zv rest (i + 1) hd' he (fun l hh => ?_) h4
     rcases List.mem_cons.1 hh with rfl | hh
     ·exact ⟨by simp,.inl List.mem_cons_self⟩
     ·exact ⟨(hl' l hh).1,(hl' l hh).2.imp (List.mem_cons_of_mem _) id⟩
    ·simp at h
  all_goals (try (simp at h; done))
  ·-- eff
   obtain ⟨r,h1,h2⟩ := Option.bind_eq_some_iff.1 h
   obtain ⟨b,hb,hv⟩ := ZZ h1
   obtain ⟨h3,h4⟩ := YT h2
   have h5 := hlds (by rw [hk]; rfl) h3
   obtain ⟨v,H1⟩ := r
   have e1 : Ql P O own call ops o (tl n t) H = some (.ret v,H1) := by
    unfold Ql; rw [hb]
    cases b with
    | true => simp only [if_true] at hv; simp [hk,Uw hv]
    | false => simp at hv; simp [hv]
   rw [hb,e1]
   simp only [Option.bind_some]
   cases b with
   | true =>
    simp only [if_true,hk]
    rw [if_pos h5]
    simp only [QE]; exact Zv rest (i + 1) hd' (fun e hh => (List.mem_cons.1 hh).elim (fun hh => hh ▸ List.mem_cons_self) fun hh => List.mem_cons_of_mem _ (he e hh)) hl' h4
   | false =>
    simp only [Bool.false_eq_true,if_false]
    simp only [QE]; exact Zv rest (i + 1) hd' (fun e hh => List.mem_cons_of_mem _ (he e hh)) hl' h4
  ·-- fresh
   obtain ⟨r,h1,h2⟩ := Option.bind_eq_some_iff.1 h
   obtain ⟨b,hb,hv⟩ := ZZ h1
   obtain ⟨h3,h4⟩ := YT h2
   have h5 := hlds (by rw [hk]; rfl) h3
   obtain ⟨v,H1⟩ := r
   have e1 : Ql P O own call ops o (tl n t) H = some (.ret v,H1) := by
    unfold Ql; rw [hb]
    cases b with
    | true => simp only [if_true] at hv; simp [hk,Uw hv]
    | false => simp at hv; simp [hv]
   rw [hb,e1]
   simp only [Option.bind_some]
   cases b with
   | true =>
    simp only [if_true,hk]
    rw [if_pos h5]
    simp only [QE]; exact Zv rest (i + 1) hd' (fun e hh => (List.mem_cons.1 hh).elim (fun hh => hh ▸ List.mem_cons_self) fun hh => List.mem_cons_of_mem _ (he e hh)) hl' h4
   | false =>
    simp only [Bool.false_eq_true,if_false]
    simp only [QE]; exact Zv rest (i + 1) hd' (fun e hh => List.mem_cons_of_mem _ (he e hh)) hl' h4
  ·-- call
   obtain ⟨r,h1,h2⟩ := Option.bind_eq_some_iff.1 h
   obtain ⟨b,hb,hv⟩ := ZZ h1
   obtain ⟨r,H1⟩ := r
   have e1 : Ql P O own call ops o (tl n t) H = some (r,H1) := by
    unfold Ql; rw [hb]
    cases b with
    | true => simp only [if_true] at hv; simp [hk,hv]
    | false => simp at hv; obtain ⟨rfl,rfl⟩ := hv; simp
   rw [hb,e1]
   simp only [Option.bind_some]
   cases r with
   | ret v =>
    simp only [ZD] at h2
    obtain ⟨h3,h4⟩ := YT h2
    have h5 := hlds (by rw [hk]; rfl) h3
    cases b with
    | true =>
     simp only [if_true,hk]
     rw [if_pos h5]
     simp only [QE]; exact Zv rest (i + 1) hd' (fun e hh => (List.mem_cons.1 hh).elim (fun hh => hh ▸ List.mem_cons_self) fun hh => List.mem_cons_of_mem _ (he e hh)) hl' h4
    | false =>
     simp only [Bool.false_eq_true,if_false]
     simp only [QE]; exact Zv rest (i + 1) hd' (fun e hh => List.mem_cons_of_mem _ (he e hh)) hl' h4
   | pan v =>
    simp only [ZD] at h2
    obtain ⟨h3,h4⟩ := YT h2
    simp only
    rw [if_pos (Jv he _ (YD _ h3))]
    exact ⟨_,YQ ops t0,_,_,by rw [RB],h4⟩
  ·-- panic
   obtain ⟨r,h1,h2⟩ := Option.bind_eq_some_iff.1 h
   obtain ⟨b,hb,hv⟩ := ZZ h1
   cases b with
   | true =>
    simp only [if_true] at hv
    obtain ⟨v,hv1,rfl⟩ := Option.map_eq_some_iff.1 hv
    have e1 : Ql P O own call ops o (tl n t) H = some (.pan v,H) := by
     unfold Ql; rw [hb]; simp [hk,hv1]
    rw [hb,e1]
    simp only [ZD] at h2
    obtain ⟨h3,h4⟩ := YT h2
    simp only [Option.bind_some]
    rw [if_pos (Jv he _ (YD _ h3))]
    exact ⟨_,YQ ops t0,_,_,by rw [RB],h4⟩
   | false =>
    simp at hv; subst hv
    have e1 : Ql P O own call ops o (tl n t) H = some (.ret (.tup []),H) := by
     unfold Ql; rw [hb]; simp
    rw [hb,e1]
    simp only [ZD] at h2
    simp only [Option.bind_some,Bool.false_eq_true,if_false]
    simp only [QE]; exact Zv rest (i + 1) hd' he hl' h2
noncomputable def ZO (P : Program) (call : Qc) : Nat → Zi
 | 0 => fun _ _ _ _ _ => none
 | n + 1 => YU P call (ZO P call n)
def WN (a b : Zi) : Prop := ∀ O own ks c st r,a O own ks c st = some r → b O own ks c st = some r
theorem Ym {ks : Ks} {l1 l2 : Zi} (hl : WN l1 l2) : ∀ (c : Code) {st : St} {r : Ex × St},evC P O own ks call l1 c st = some r → evC P O own ks call l2 c st = some r
 | .skip,st,r,h | .label _,st,r,h | .exit _,st,r,h | .ret,st,r,h => h
 | .region _ ops draw,st,r,h => h
 | .seq a b,st,r,h => by
  simp only [evC] at h ⊢
  obtain ⟨⟨e1,st1⟩,h1,h2⟩ := Option.bind_eq_some_iff.1 h
  rw [Ym hl a h1]
  simp only [Option.bind_some]
  cases e1 with
  | normal => exact Ym hl b h2
  | _ => exact h2
 | .cond c a b,st,r,h => by
  simp only [evC] at h ⊢
  split at h
  ·exact Ym hl a h
  ·exact Ym hl b h
  ·simp at h
 | .block id b,st,r,h => by
  simp only [evC] at h ⊢
  obtain ⟨q,h1,h2⟩ := Option.bind_eq_some_iff.1 h
  rw [Ym hl b h1]
  exact h2
 | .loop b,st,r,h => hl _ _ _ _ _ _ h
 | .scope b,st,r,h => Ym (ks := ks) hl b h
 | .goto _,st,r,h => by simp [evC] at h
 | .rangeFunc ..,st,r,h => by simp [evC] at h
theorem Dh {l1 l2 : Zi} (hl : WN l1 l2) : WN (YU P call l1) (YU P call l2) := by
 intro O own ks c st r h
 unfold YU at h ⊢
 obtain ⟨q,h1,h2⟩ := Option.bind_eq_some_iff.1 h
 rw [Ym hl c h1]
 simp only [Option.bind_some]
 split at h2
 ·exact hl _ _ _ _ _ _ h2
 ·exact h2
theorem Nr : ∀ n,WN (ZO P call n) (ZO P call (n + 1))
 | 0 => fun _ _ _ _ _ _ h => by simp [ZO] at h
 | n + 1 => Dh (Nr n)
theorem Us {n m : Nat} (h : n ≤ m) : WN (ZO P call n) (ZO P call m) := by
 induction h with
 | refl => exact fun _ _ _ _ _ _ h => h
 | step _ ih => exact fun _ _ _ _ _ _ h => Nr _ _ _ _ _ _ _ (ih _ _ _ _ _ _ h)
theorem La (hcall : QJ T P call) (hmix : P.follows .mixedOrders = true) : ∀ n,YB T P (ZO P call n)
 | 0 => fun _ _ _ _ _ _ _ h => by simp [ZO] at h
 | n + 1 => FM hcall (La hcall hmix n) hmix
end Go.Ev
end
section
namespace Go.Ev
variable {T : Qt}
variable {P : Program}
def Rm (vs : List V) : V :=
 match vs with
 | [v] => v
 | _ => .tup vs
def YG {α : Type} (P : Program) (t : List V) (H : Qa) : List ResultVar → (List V → Option α) → Option α
 | [],k => k []
 | .tmp i :: rs,k => YG P t H rs fun vs => k (t.getD i .junk :: vs)
 | .cell a ty :: rs,k => (Jq P { t,H,d := [] } (.cell a ty)).bind fun v => YG P t H rs fun vs => k (v :: vs)
def Wu (keep : Bool) (O : Nat) (v : V) (H : Qa) : Option (Out × Qa) := some (.ret (Zl keep O v H).1,(Zl keep O v H).2)
def U4 (keep : Bool) (O : Nat) (v : V) (H : Qa) : Option (Out × Qa) := some (.pan (Zl keep O v H).1,(Zl keep O v H).2)
def JK (P : Program) (dfr : QF) (keep : Bool) (O n : Nat) (rs : List ResultVar) (t : Ts) : Ds → Option V → Qa → Option (Out × Qa)
 | [],none,H => YG P (tl n t) H rs fun vs => Wu keep O (Rm vs) H
 | [],some v,H => U4 keep O v H
 | d :: ds,m,H => (dfr d.1 d.2 m H).bind fun r => JK P dfr keep O n rs t ds (if r.1 then none else m) r.2
def KJ : Nat → List V → Ts
 | _,[] => []
 | i,v :: l => (i,v) :: KJ (i + 1) l
theorem NW : ∀ (l : List V) (i k : Nat),Zz k (KJ i l) = if i ≤ k ∧ k < i + l.length then l.getD (k - i) .junk else .junk
 | [],i,k => by simp [KJ,Zz]
 | v :: l,i,k => by
  rw [KJ,BP,NW l (i + 1) k]
  by_cases h : k = i
  ·subst h; simp
  ·rw [if_neg h]
   by_cases h2 : i + 1 ≤ k ∧ k < i + 1 + l.length
   ·rw [if_pos h2,if_pos (by simp; omega),show k - i = (k - (i + 1)) + 1 by omega]; simp
   ·rw [if_neg h2,if_neg (by simp; omega)]
theorem Pm {args : List V} {n : Nat} (h : args.length ≤ n) : tl n (KJ 0 args) = args ++ List.replicate (n - args.length) .junk := by
 refine List.ext_getElem? fun k => ?_
 rw [Wm,NW,List.getElem?_append,List.getElem?_replicate]
 simp only [Nat.zero_le,true_and,Nat.zero_add,Nat.sub_zero]
 by_cases h1 : k < args.length
 ·rw [if_pos (by omega),if_pos h1,if_pos h1]; simp [h1]
 ·rw [if_neg h1,if_neg h1]
  by_cases h2 : k < n
  ·rw [if_pos h2,if_pos (by omega)]
  ·rw [if_neg h2,if_neg (by omega)]
theorem Rr {α : Type} {t : List V} {H : Qa} : ∀ {rs : List ResultVar} {k : List V → Option α} {x : α},YG P t H rs k = some x → ∃ vs,Yy P { t,H,d := [] } rs = some vs ∧ k vs = some x
 | [],k,x,h => ⟨[],rfl,h⟩
 | .tmp i :: rs,k,x,h => by
  simp only [YG] at h
  obtain ⟨vs,h1,h2⟩ := Rr (rs := rs) h
  exact ⟨_,by simp only [Yy,Jq,Option.bind_some]; rw [h1]; rfl,h2⟩
 | .cell a ty :: rs,k,x,h => by
  simp only [YG] at h
  obtain ⟨v,h0,h⟩ := Option.bind_eq_some_iff.1 h
  obtain ⟨vs,h1,h2⟩ := Rr (rs := rs) h
  exact ⟨_,by simp only [Yy]; rw [h0,h1]; rfl,h2⟩
theorem VU {dfr : QF} {keep : Bool} {O : Nat} {rs : List ResultVar} {n : Nat} {t : Ts} : ∀ {d : Ds} {m : Option V} {H : Qa} {x : Out × Qa},JK P dfr keep O n rs t d m H = some x →
  ((ZJ dfr (fun H' => Zy P { t := tl n t,H := H',d := [] } rs) d m H).bind fun o => match o.1 with
     | .ret v => let p := Zl keep O v o.2; some (Out.ret p.1,p.2)
     | .pan v => let p := Zl keep O v o.2; some (Out.pan p.1,p.2)) = some x
 | [],none,H,x,h => by
  simp only [JK] at h
  obtain ⟨vs,h1,h2⟩ := Rr h
  simp only [ZJ,Zy]
  rw [h1]
  simp only [Option.map_some,Option.bind_some]
  unfold Rm at h2
  exact h2
 | [],some v,H,x,h => h
 | d :: ds,m,H,x,h => by
  simp only [JK] at h
  obtain ⟨r,h1,h2⟩ := Option.bind_eq_some_iff.1 h
  simp only [ZJ]
  rw [h1]
  exact VU h2
def RQ : Qc := fun _ _ _ => none
def Qc.add (call : Qc) (f : FuncId) (g : List V → Qa → Option (Out × Qa)) : Qc := fun f' args H => if f' = f then g args H else call f' args H
theorem F8 : QJ T P RQ := fun f args H r H' h => by simp [RQ] at h
theorem QJ.add {call : Qc} (h : QJ T P call) {f : FuncId} {g : List V → Qa → Option (Out × Qa)} (hg : Mod T P f g) : QJ T P (call.add f g) := by
 intro f' args H r H' hc
 unfold Qc.add at hc
 split at hc
 ·rename_i e; subst e; exact hg args H r H' hc
 ·exact h f' args H r H' hc
end Go.Ev
end
